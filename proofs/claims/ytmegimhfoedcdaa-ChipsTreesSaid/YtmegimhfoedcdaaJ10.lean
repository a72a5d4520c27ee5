/- A part of the proof: U60 U61 U56 J10. -/
import Derived.Test.YtmegimhfoedcdaaU53a
import Derived.Test.YtmegimhfoedcdaaU14
import Derived.Test.YtmegimhfoedcdaaD5
import Derived.Test.YtmegimhfoedcdaaJ9
set_option linter.unusedVariables false
set_option linter.unusedSimpArgs false
set_option linter.unusedSectionVars false
namespace Go.AM.Ch
set_option maxHeartbeats 8000000
def tmX (b : List (List Int)) (i j : Nat) : Int := if j + 1 = i then (if 1 > grX0 b i j then 1 else grX0 b i j) else grX0 b i j
def tmE (b : List (List Int)) (p q : Nat) : Int := if q < p then tmX b p q else if p < q then tmX b q p else 0
def tameL (b : List (List Int)) (w : Nat) : List (List Int) := (List.range (grN b w)).map fun p => (List.range (grN b w)).map fun q => tmE b p q
theorem tmX_le (b : List (List Int)) (i j : Nat) : 0 ≤ tmX b i j ∧ tmX b i j ≤ 3 := by
  have := grX0_le b i j
  unfold tmX
  split
  · split <;> omega
  · exact this
theorem tameL_rows (b : List (List Int)) (w : Nat) : Rows (grN b w) (tameL b w) := ⟨by simp [tameL], fun r hr => by
  obtain ⟨p, _, rfl⟩ := List.mem_map.1 hr
  simp⟩
theorem tameL_get {b : List (List Int)} {w p q : Nat} (hp : p < grN b w) (hq : q < grN b w) : getI (getLL (tameL b w) (p : Int)) (q : Int) = tmE b p q := by
  rw [getLL_nat]
  have h1 : (tameL b w).getD p [] = (List.range (grN b w)).map fun q => tmE b p q := by simp [tameL, List.getD, hp]
  rw [h1, getI_nat]
  simp [List.getD, hq]
theorem tameL_len (b : List (List Int)) (w : Nat) : (tameL b w).length = grN b w := (tameL_rows b w).len
theorem tame_isB (b : List (List Int)) {w : Nat} (hw : 1 ≤ w ∧ w ≤ 10) : IsB (tameL b w) := by
  have hn := grN_le b hw.1
  have hl := tameL_len b w
  have hget := fun {p q : Nat} => tameL_get (b := b) (w := w) (p := p) (q := q)
  have hrow := tameL_rows b w
  refine ⟨by omega, by omega, fun v hv => by rw [hrow.get (by omega), hl], fun i k hi hk => ?_, ?_⟩
  · unfold Ed
    rw [hget (by omega) (by omega), hget (by omega) (by omega)]
    have a := tmX_le b i k
    have c := tmX_le b k i
    unfold tmE
    by_cases h1 : k < i
    · rw [if_pos h1, if_neg (show ¬ i < k by omega), if_pos h1]; exact ⟨a, rfl, by omega⟩
    · by_cases h2 : i < k
      · rw [if_neg h1, if_pos h2, if_pos h2]; exact ⟨c, rfl, by omega⟩
      · rw [if_neg h1, if_neg h2, if_neg h2, if_neg h1]; exact ⟨by omega, rfl, fun _ => rfl⟩
  · have hq : 0 < (tameL b w).length := by omega
    obtain ⟨hB, hN, hC⟩ := dist_all (tameL b w) hq
    have hR : ∀ m : Nat, ∀ k : Nat, k < (tameL b w).length → k ≤ m → 0 ≤ getI (dist (tameL b w) 0).1 (k : Int) := by
      intro m
      induction m with
      | zero => intro k hk h0; obtain rfl : k = 0 := by omega
                rw [hN.zero]; exact Int.le_refl _
      | succ m ih =>
        intro k hk hkm
        by_cases h0 : k = 0
        · subst h0; rw [hN.zero]; exact Int.le_refl _
        · refine hC (k - 1) k (by omega) hk (ih _ (by omega) (by omega)) ?_
          unfold ed
          rw [hget (by omega) (by omega)]
          unfold tmE
          rw [if_neg (by omega), if_pos (by omega)]
          unfold tmX
          rw [if_pos (by omega)]
          split <;> omega
    unfold Conn
    exact hB.done.1 fun k hk => by have := hR k k hk (Nat.le_refl _); omega
def atT (b : List (List Int)) (i j : Nat) (p q : Nat) : Int := if p < i ∧ q < i ∨ p = i ∧ q < j ∨ q = i ∧ p < j then tmE b p q else 0
theorem f44 {x : AV} {b : List (List Int)} {w : Nat} (hx : IsLL x b) (hb : b.length < 9223372036854775808) (hw : 1 ≤ w ∧ w ≤ 10) {m : Nat} (hm : 100 ≤ m) :
    evF tab it m 44 [x, .int .i64 (w : Int)] [] = some (.sl 0 1 0 (grN b w), HB (grN b w) (tameL b w)) := by
  obtain ⟨m, rfl⟩ : ∃ j, m = j + 1 := ⟨m - 1, by omega⟩
  have fx := hx.free
  have hn := grN_le b hw.1
  have lx : ∀ H, evP H .len [x] = some (.int .i64 ((b.length : Nat) : Int)) := fun H => by cases hx <;> rfl
  have e49w := fun H => c49 (x := (b.length : Int) - 1) (n := w) (by omega) (by omega) (m := m) (by omega) H
  have hmod := modN_lt ((b.length : Int) - 1) (n := w) (by omega)
  have hNe : ((grN b w : Nat) : Int) = 1 + (modN ((b.length : Int) - 1) w : Nat) := by unfold grN; omega
  have e49 := fun (z : Int) (n : Nat) (h1 : 0 < n) (h2 : n < 9223372036854775808) H => c49 (x := z) h1 h2 (m := m) (by omega) H
  have hgrow := tameL_rows b w
  have hgget := fun {p q : Nat} => tameL_get (b := b) (w := w) (p := p) (q := q)
  generalize hG : tameL b w = G at *
  generalize hn' : grN b w = n at *
  have mk := fun call H => @e_mkI call H n (by unfold most; omega)
  refine f_enter rfl rfl ?_
  generalize evF tab it m = call at *
  generalize modN ((b.length : Int) - 1) w = M0 at *
  have hHl : ∀ (k : Nat) (Z : List (List Int)), Z.length = k → (HB k Z).length = 1 + k := fun k Z hZ => by simp [HB, rowsH_length, hZ]; omega
  have bz : ∀ (a : Nat) H, evE call H (.bldB 1 1 [.nilS] [(0, 1)]) [.sl a 1 0 n] = some (.sl H.length 1 0 1, H ++ [some (.box [.sl a 1 0 n])]) := fun a H => e_bldB1 rfl rfl rfl
  have z0 : ∀ i j, j < n → getI (getLL (List.replicate n (List.replicate n (0 : Int))) ((i : Nat) : Int)) ((j : Nat) : Int) = 0 := fun i j hj => by
    rw [getLL_nat, getI_nat]
    by_cases h : i < n
    · simp [List.getD, h, hj]
    · simp [List.getD, h]
  have zR : Rows n (List.replicate n (List.replicate n (0 : Int))) := ⟨by simp, fun r hr => by rw [(List.mem_replicate.1 hr).2]; simp⟩
  skip
  repeat' first
 | (apply s_mov; exact aW)
 | (apply c_nil)
 | (apply s_add; exact rfl; omega)
 | (apply s_sub; exact rfl; omega)
 | (apply s_pn; exact aO; exact lx _)
 | (apply s_cn; exact aO; exact e49w _)
 | (apply c_seq)
 | (apply c_reg)
 | (apply c_block)
 | (with_reducible apply k_c)
  rw [← hNe]
  refine c_loop ?_
  refine loop_gc (σ := Nat) (fun i => [x, .int .i64 (n : Int), if i = 0 then .nilS else .sl 0 1 0 i, .int .i64 (i : Int)]) (fun i => if i = 0 then [] else HB i (List.replicate i (List.replicate n 0))) (fun i => i ≤ n) (fun i => n - i) ?_ _ 0 _ _ (by omega) (by omega) (by rw [if_pos rfl, if_pos rfl, hNe]; exact gc_to rfl (by simp [idFreeL, AV.idFree, *]; done))
  intro i hi K hK
  by_cases hin : i < n
  · have hK1 := hK (i + 1)
    rw [if_neg (show ¬ i + 1 = 0 by omega), if_neg (show ¬ i + 1 = 0 by omega)] at hK1
    by_cases h0 : i = 0
    · subst h0
      have app := e_appB_nil (call := call) (q := 24) (id := 1) (H := [some (.data (iL (List.replicate n 0))), some (.box [.sl 0 1 0 n])]) (cs := [.sl 0 1 0 n]) (n := 1) rfl rfl (by omega) (by decide)
      rw [if_pos rfl, if_pos rfl]
      repeat' first
 | (apply s_mov; exact aW)
 | (apply c_nil)
 | (apply s_lss; exact rfl; all_goals (intro _; try (exfalso; omega)))
 | (apply s_add; exact rfl; omega)
 | (apply s_en; exact aO; exact mk _ _)
 | (apply s_en; exact aO; exact bz _ _)
 | (apply c_seq)
 | (apply c_reg)
 | (apply c_block)
 | (apply c_skip)
 | (apply c_condT; exact rfl)
 | (with_reducible apply k_c)
      all_goals try (exfalso; omega)
      refine hK1 _ _ (by omega) (by omega) ?_
      have hz := iL_len (List.replicate n 0)
      rw [List.length_replicate] at hz
      have hr : refs [0] [iL (List.replicate n 0)] = [.sl 0 1 0 n] := by simp [refs, hz]
      have := gcR (H := [some (.data (iL (List.replicate n 0))), some (.box [.sl 0 1 0 n]), some (.box [.sl 0 1 0 n])]) (pre := [x, .int .i64 (n : Int)]) (gs := [.int .i64 1]) (p := 2) (M := 1) (is := [0]) (R := [iL (List.replicate n 0)]) (by simp [idFreeL, AV.idFree, fx]) (by simp) rfl (by rw [hr]; rfl) rfl (fun j i l h1 h2 => by
        cases j with
        | zero => simp at h1 h2; subst h1; subst h2; rfl
        | succ j => simp at h1) (by simp) (by simp)
      exact this
    · rw [if_neg h0, if_neg h0]
      have hZl : (List.replicate i (List.replicate n (0 : Int))).length = i := by simp
      have hl1 := hHl i _ hZl
      have hz := iL_len (List.replicate n 0)
      rw [List.length_replicate] at hz
      have e1 : evE call (HB i (List.replicate i (List.replicate n 0))) (.mkS 1 8 [.int .i64 0]) [.int .i64 (n : Int), .int .i64 (n : Int)] = some (.sl (1 + i) 1 0 n, HB i (List.replicate i (List.replicate n 0)) ++ [some (.data (iL (List.replicate n 0)))]) := by rw [mk, hl1]
      have e2 : evE call (HB i (List.replicate i (List.replicate n 0)) ++ [some (.data (iL (List.replicate n 0)))]) (.bldB 1 1 [.nilS] [(0, 1)]) [.sl (1 + i) 1 0 n] = some (.sl (2 + i) 1 0 1, HB i (List.replicate i (List.replicate n 0)) ++ [some (.data (iL (List.replicate n 0))), some (.box [.sl (1 + i) 1 0 n])]) := by
        rw [bz]
        simp [hl1]
        omega
      have hR1 : (List.replicate (i + 1) (List.replicate n (0 : Int))).map iL = (List.replicate i (List.replicate n 0)).map iL ++ [iL (List.replicate n 0)] := by
        rw [List.replicate_succ', List.map_append]; rfl
      have hrf : refs (List.range' 1 (i + 1)) ((List.replicate (i + 1) (List.replicate n (0 : Int))).map iL) = refs (List.range' 1 i) ((List.replicate i (List.replicate n 0)).map iL) ++ [.sl (1 + i) 1 0 n] := by
        rw [hR1, show List.range' 1 (i + 1) = List.range' 1 i ++ [1 + i] by rw [List.range'_concat]; simp, refs_append (by simp)]
        simp [refs, hz]
      have e3 : evE call (HB i (List.replicate i (List.replicate n 0)) ++ [some (.data (iL (List.replicate n 0))), some (.box [.sl (1 + i) 1 0 n])]) (.appB 1 24) [.sl 0 1 0 i, .sl (2 + i) 1 0 1] = some (.sl (i + 1 + 1 + 1) 1 0 (i + 1), [none] ++ (rowsH ((List.replicate (i + 1) (List.replicate n (0 : Int))).map iL) ++ [some (.box [.sl (1 + i) 1 0 n]), some (.box (refs (List.range' 1 (i + 1)) ((List.replicate (i + 1) (List.replicate n (0 : Int))).map iL)))])) := by
        have hlen : (refs (List.range' 1 i) ((List.replicate i (List.replicate n (0 : Int))).map iL)).length = i := by rw [refs_length (by simp)]; simp
        have hc2 : Heap.cells? (HB i (List.replicate i (List.replicate n 0)) ++ [some (.data (iL (List.replicate n 0))), some (.box [.sl (1 + i) 1 0 n])]) (2 + i) = some [.sl (1 + i) 1 0 n] := by
          have : (HB i (List.replicate i (List.replicate n 0)) ++ [some (.data (iL (List.replicate n 0))), some (.box [.sl (1 + i) 1 0 n])])[2 + i]? = some (some (.box [.sl (1 + i) 1 0 n])) := by
            rw [List.getElem?_append_right (by omega), hl1, show 2 + i - (1 + i) = 1 by omega]; rfl
          exact cells?_iff.2 (.inr this)
        rw [e_appB_sl (call := call) (q := 24) (id := 0) (id2 := 2 + i) (n := 1) (k := i) (cs := refs (List.range' 1 i) ((List.replicate i (List.replicate n (0 : Int))).map iL)) (bs := [.sl (1 + i) 1 0 n]) (by rfl) hlen hc2 rfl (by omega) (by unfold most; omega), hrf, hR1]
        have hset : (HB i (List.replicate i (List.replicate n 0)) ++ [some (HO.data (iL (List.replicate n 0))), some (HO.box [.sl (1 + i) 1 0 n])]).set 0 none = [none] ++ (rowsH ((List.replicate i (List.replicate n (0 : Int))).map iL ++ [iL (List.replicate n 0)]) ++ [some (.box [.sl (1 + i) 1 0 n])]) := by
          rw [rowsH_append]
          simp [HB, rowsH]
        rw [hset]
        simp [rowsH_length]
      repeat' first
 | (apply s_mov; exact aW)
 | (apply c_nil)
 | (apply s_lss; exact rfl; all_goals (intro _; try (exfalso; omega)))
 | (apply s_add; exact rfl; omega)
 | (apply s_en; exact aO; exact e1)
 | (apply s_en; exact aO; exact e2)
 | (apply s_en; exact aO; exact e3)
 | (apply c_seq)
 | (apply c_reg)
 | (apply c_block)
 | (apply c_skip)
 | (apply c_condT; exact rfl)
 | (with_reducible apply k_c)
      all_goals try (exfalso; omega)
      refine hK1 _ _ (by omega) (by omega) ?_
      have hRl : ((List.replicate (i + 1) (List.replicate n (0 : Int))).map iL).length = i + 1 := by simp
      generalize (List.replicate (i + 1) (List.replicate n (0 : Int))) = Z at *
      have := gcR (pre := [x, .int .i64 (n : Int)]) (gs := [.int .i64 ((i : Int) + 1)]) (M := i + 1) (p := i + 1 + 1 + 1) (is := List.range' 1 (i + 1)) (R := Z.map iL) (H := [none] ++ (rowsH (Z.map iL) ++ [some (.box [.sl (1 + i) 1 0 n]), some (.box (refs (List.range' 1 (i + 1)) (Z.map iL)))])) (by simp [idFreeL, AV.idFree, fx]) (by simp) rfl (by rw [get_after [none] _ (s := 1) (q := i + 1) (c := 1) rfl hRl]; rfl) (by simp [hRl]) (rng_rows [none] _ rfl) (by simp [List.mem_range'_1, List.nodup_range']; omega) (by simp; omega)
      rw [show (List.range' 1 (i + 1)).length = i + 1 by simp] at this
      exact this
  · obtain rfl : i = n := by omega
    rw [if_neg (show ¬ i = 0 by omega), if_neg (show ¬ i = 0 by omega)]
    repeat' first
 | (apply s_mov; exact aW)
 | (apply c_nil)
 | (apply s_lss; exact rfl; all_goals (intro _; try (exfalso; omega)))
 | (apply c_seq)
 | (apply c_reg)
 | (apply c_exitH)
 | (apply c_condF; exact rfl)
 | (with_reducible apply k_c)
    all_goals try (exfalso; omega)
    apply c_pre
    · exact gcHB (pre := [x, .int .i64 (i : Int)]) (gs := []) zR (by omega) (by simp [idFreeL, AV.idFree, fx]) (by simp) rfl
    repeat' first
 | (apply s_mov; exact aW)
 | (apply c_nil)
 | (apply c_seq)
 | (apply c_reg)
 | (apply c_block)
 | (with_reducible apply k_c)
    refine c_loop ?_
    refine loop_gc (σ := Nat × List (List Int)) (fun p => [x, .int .i64 (i : Int), .sl 0 1 0 i, .int .i64 (p.1 : Int)]) (fun p => HB i p.2) (fun p => p.1 ≤ i ∧ Rows i p.2 ∧ ∀ u v : Nat, u < i → v < i → getI (getLL p.2 (u : Int)) (v : Int) = atT b p.1 0 u v) (fun p => i - p.1) ?_ _ (0, List.replicate i (List.replicate i 0)) _ _ ⟨by dsimp only; omega, zR, fun u v hu hv => by
      dsimp only
      rw [z0 u v hv]
      unfold atT
      rw [if_neg (by omega)]⟩ (by show i - 0 < _; omega) (gcHB (pre := [x, .int .i64 (i : Int)]) (gs := [.int .i64 0]) zR (by omega) (by simp [idFreeL, AV.idFree, fx]) (by simp) rfl)
    clear hK
    intro ⟨k, rows⟩ ⟨hkn, hrows, hent⟩ K2 hK2
    dsimp only at hkn hrows hent hK2 ⊢
    have hg := fun (gs : List AV) (h : idFreeL gs = true) (rows : List (List Int)) (hr : Rows i rows) => gcHB (pre := [x, .int .i64 (i : Int)]) (gs := gs) (M := i) hr (by omega) (by simp [idFreeL, AV.idFree, fx]) (by simp) h
    by_cases hki : k < i
    · have hgx : ∀ j : Nat, grX0 b k j = if k < b.length ∧ j < (getLL b (k : Int)).length then ((modN (getI (getLL b (k : Int)) (j : Int)) 4 : Nat) : Int) else 0 := fun _ => rfl
      have hgX : ∀ j, tmX b k j = if j + 1 = k then (if 1 > grX0 b k j then 1 else grX0 b k j) else grX0 b k j := fun _ => rfl
      repeat' first
 | (apply s_mov; exact aW)
 | (apply c_nil)
 | (apply s_lss; exact rfl; all_goals (intro _; try (exfalso; omega)))
 | (apply c_seq)
 | (apply c_reg)
 | (apply c_block)
 | (apply c_skip)
 | (apply c_condT; exact rfl)
 | (with_reducible apply k_c)
      all_goals try (exfalso; omega)
      refine c_loop ?_
      refine loop_gc (σ := Nat × List (List Int)) (fun p => [x, .int .i64 (i : Int), .sl 0 1 0 i, .int .i64 (k : Int), .int .i64 (p.1 : Int)]) (fun p => HB i p.2) (fun p => p.1 ≤ k ∧ Rows i p.2 ∧ ∀ u v : Nat, u < i → v < i → getI (getLL p.2 (u : Int)) (v : Int) = atT b k p.1 u v) (fun p => k - p.1) ?_ _ (0, rows) _ _ ⟨by dsimp only; omega, hrows, hent⟩ (by show k - 0 < _; omega) (by
        have h := hg [.int .i64 (k : Int), .int .i64 0] rfl rows hrows
        exact h)
      intro ⟨j, rows⟩ ⟨hj, hrows, hent⟩ K3 hK3
      dsimp only at hj hrows hent hK3 ⊢
      by_cases hjk : j < k
      · have hij : j < i := by omega
        have e49c := fun H => e49 (getI (getLL b (k : Int)) (j : Int)) 4 (by omega) (by omega) H
        have hm4 := modN_lt (getI (getLL b (k : Int)) (j : Int)) (n := 4) (by omega)
        have hx0 := hgx j
        have hX := hgX j
        have ld1 := hb_ld hrows hki
        have st1 := fun (v : Int) call => hb_st (call := call) (x := v) hrows hki hij
        have hr1 := fun (v : Int) => setLL_rows (j := j) (x := v) hrows hki
        have ld2 := fun (v : Int) => hb_ld (hr1 v) hij
        have st2 := fun (v : Int) call => hb_st (call := call) (x := v) (hr1 v) hij hki
        have hr2 := fun (v : Int) => setLL_rows (j := k) (x := v) (hr1 v) hij
        have hnext : ∀ z : Int, z = tmX b k j → ∀ u v : Nat, u < i → v < i → getI (getLL (setLL (setLL rows k j z) j k z) (u : Int)) (v : Int) = atT b k (j + 1) u v := fun z hz u v hu hv => by
          rw [setLL_get (hr1 z) hij hki, setLL_get hrows hki hij, hent u v hu hv]
          unfold atT
          by_cases c1 : u = j ∧ v = k
          · rw [if_pos c1, if_pos (by omega), hz]
            unfold tmE
            rw [c1.1, c1.2, if_neg (by omega), if_pos hjk]
          · rw [if_neg c1]
            by_cases c2 : u = k ∧ v = j
            · rw [if_pos c2, if_pos (by omega), hz]
              unfold tmE
              rw [c2.1, c2.2, if_pos hjk]
            · rw [if_neg c2]
              by_cases c3 : u < k ∧ v < k ∨ u = k ∧ v < j ∨ v = k ∧ u < j
              · rw [if_pos c3, if_pos (by omega)]
              · rw [if_neg c3, if_neg (by omega)]
        have hK31 := fun z : Int => hK3 (j + 1, setLL (setLL rows k j z) j k z)
        dsimp only at hK31
        have hgc := fun z : Int => hg [.int .i64 (k : Int), .int .i64 ((j + 1 : Nat) : Int)] rfl _ (hr2 z)
        by_cases hjr : k < b.length ∧ j < (getLL b (k : Int)).length
        · have hrowk := hx.at (i := (k : Int)) ⟨by omega, by omega⟩
          rw [if_pos hjr] at hx0
          by_cases hjT : j + 1 = k
          · rw [if_pos hjT] at hX
            repeat' first
 | (apply s_mov; exact aW)
 | (apply s_gT; exact rfl)
 | (apply c_nil)
 | (apply s_pickT; exact rfl; exact aW)
 | (apply s_lss; exact rfl; all_goals (intro _; try (exfalso; omega)))
 | (apply s_eql; exact rfl; all_goals (intro _; try (exfalso; omega)))
 | (apply s_add; exact rfl; omega)
 | (apply s_sub; exact rfl; omega)
 | (apply s_pn; exact aO; exact lx _)
 | (apply s_cn; exact aO; exact e49c _)
 | (apply s_pn; exact aO; exact p_ixO hki)
 | (apply s_pn; exact aO; exact p_ixO hij)
 | (apply s_pn; exact aO; exact ld1)
 | (apply s_pn; exact aO; exact ld2 _)
 | (apply s_st; exact aO; exact st1 _ _)
 | (apply s_st; exact aO; exact st2 _ _)
 | (apply s_len; exact aW; exact aI)
 | (apply s_idx; exact aW; exact rfl; exact aI; omega)
 | (apply s_idxLL; exact aW; exact rfl; assumption; omega)
 | (apply s_mx; exact rfl; exact rfl)
 | (apply s_ldI; exact rfl; omega)
 | (apply s_ldLL; exact rfl; assumption; omega)
 | (apply c_seq)
 | (apply c_reg)
 | (apply c_block)
 | (apply c_skip)
 | (apply c_condT; exact rfl)
 | (with_reducible apply k_c)
            all_goals first
              | (exfalso; omega)
              | (refine hK31 _ _ _ ⟨by omega, hr2 _, hnext _ ?_⟩ (by omega) (hgc _)
                 rw [hX, hx0])
          · rw [if_neg hjT] at hX
            repeat' first
 | (apply s_mov; exact aW)
 | (apply s_gT; exact rfl)
 | (apply c_nil)
 | (apply s_pickT; exact rfl; exact aW)
 | (apply s_lss; exact rfl; all_goals (intro _; try (exfalso; omega)))
 | (apply s_eql; exact rfl; all_goals (intro _; try (exfalso; omega)))
 | (apply s_add; exact rfl; omega)
 | (apply s_sub; exact rfl; omega)
 | (apply s_pn; exact aO; exact lx _)
 | (apply s_cn; exact aO; exact e49c _)
 | (apply s_pn; exact aO; exact p_ixO hki)
 | (apply s_pn; exact aO; exact p_ixO hij)
 | (apply s_pn; exact aO; exact ld1)
 | (apply s_pn; exact aO; exact ld2 _)
 | (apply s_st; exact aO; exact st1 _ _)
 | (apply s_st; exact aO; exact st2 _ _)
 | (apply s_len; exact aW; exact aI)
 | (apply s_idx; exact aW; exact rfl; exact aI; omega)
 | (apply s_idxLL; exact aW; exact rfl; assumption; omega)
 | (apply s_ldI; exact rfl; omega)
 | (apply s_ldLL; exact rfl; assumption; omega)
 | (apply c_seq)
 | (apply c_reg)
 | (apply c_block)
 | (apply c_skip)
 | (apply c_condT; exact rfl)
 | (apply c_condF; exact rfl)
 | (with_reducible apply k_c)
            all_goals first
              | (exfalso; omega)
              | (refine hK31 _ _ _ ⟨by omega, hr2 _, hnext _ ?_⟩ (by omega) (hgc _)
                 rw [hX, hx0])
        · rw [if_neg hjr] at hx0
          by_cases hkb : k < b.length
          · have hrowk := hx.at (i := (k : Int)) ⟨by omega, by omega⟩
            by_cases hjT : j + 1 = k
            · rw [if_pos hjT] at hX
              repeat' first
 | (apply s_mov; exact aW)
 | (apply s_gT; exact rfl)
 | (apply c_nil)
 | (apply s_pickT; exact rfl; exact aW)
 | (apply s_lss; exact rfl; all_goals (intro _; try (exfalso; omega)))
 | (apply s_eql; exact rfl; all_goals (intro _; try (exfalso; omega)))
 | (apply s_add; exact rfl; omega)
 | (apply s_sub; exact rfl; omega)
 | (apply s_pn; exact aO; exact lx _)
 | (apply s_pn; exact aO; exact p_ixO hki)
 | (apply s_pn; exact aO; exact p_ixO hij)
 | (apply s_pn; exact aO; exact ld1)
 | (apply s_pn; exact aO; exact ld2 _)
 | (apply s_st; exact aO; exact st1 _ _)
 | (apply s_st; exact aO; exact st2 _ _)
 | (apply s_len; exact aW; exact aI)
 | (apply s_idxLL; exact aW; exact rfl; assumption; omega)
 | (apply s_mx; exact rfl; exact rfl)
 | (apply s_ldLL; exact rfl; assumption; omega)
 | (apply c_seq)
 | (apply c_reg)
 | (apply c_block)
 | (apply c_skip)
 | (apply c_condT; exact rfl)
 | (apply c_condF; exact rfl)
 | (with_reducible apply k_c)
              all_goals first
                | (exfalso; omega)
                | (refine hK31 _ _ _ ⟨by omega, hr2 _, hnext _ ?_⟩ (by omega) (hgc _)
                   rw [hX, hx0])
            · rw [if_neg hjT] at hX
              repeat' first
 | (apply s_mov; exact aW)
 | (apply s_gT; exact rfl)
 | (apply c_nil)
 | (apply s_pickT; exact rfl; exact aW)
 | (apply s_lss; exact rfl; all_goals (intro _; try (exfalso; omega)))
 | (apply s_eql; exact rfl; all_goals (intro _; try (exfalso; omega)))
 | (apply s_add; exact rfl; omega)
 | (apply s_sub; exact rfl; omega)
 | (apply s_pn; exact aO; exact lx _)
 | (apply s_pn; exact aO; exact p_ixO hki)
 | (apply s_pn; exact aO; exact p_ixO hij)
 | (apply s_pn; exact aO; exact ld1)
 | (apply s_pn; exact aO; exact ld2 _)
 | (apply s_st; exact aO; exact st1 _ _)
 | (apply s_st; exact aO; exact st2 _ _)
 | (apply s_len; exact aW; exact aI)
 | (apply s_idxLL; exact aW; exact rfl; assumption; omega)
 | (apply s_ldLL; exact rfl; assumption; omega)
 | (apply c_seq)
 | (apply c_reg)
 | (apply c_block)
 | (apply c_skip)
 | (apply c_condT; exact rfl)
 | (apply c_condF; exact rfl)
 | (with_reducible apply k_c)
              all_goals first
                | (exfalso; omega)
                | (refine hK31 _ _ _ ⟨by omega, hr2 _, hnext _ ?_⟩ (by omega) (hgc _)
                   rw [hX, hx0])
          · skip
            by_cases hjT : j + 1 = k
            · rw [if_pos hjT] at hX
              repeat' first
 | (apply s_mov; exact aW)
 | (apply s_gF; exact rfl)
 | (apply c_nil)
 | (apply s_pickF; exact rfl; exact aW)
 | (apply s_lss; exact rfl; all_goals (intro _; try (exfalso; omega)))
 | (apply s_eql; exact rfl; all_goals (intro _; try (exfalso; omega)))
 | (apply s_add; exact rfl; omega)
 | (apply s_sub; exact rfl; omega)
 | (apply s_pn; exact aO; exact lx _)
 | (apply s_pn; exact aO; exact p_ixO hki)
 | (apply s_pn; exact aO; exact p_ixO hij)
 | (apply s_pn; exact aO; exact ld1)
 | (apply s_pn; exact aO; exact ld2 _)
 | (apply s_st; exact aO; exact st1 _ _)
 | (apply s_st; exact aO; exact st2 _ _)
 | (apply s_mx; exact rfl; exact rfl)
 | (apply c_seq)
 | (apply c_reg)
 | (apply c_block)
 | (apply c_skip)
 | (apply c_condT; exact rfl)
 | (apply c_condF; exact rfl)
 | (with_reducible apply k_c)
              all_goals first
                | (exfalso; omega)
                | (refine hK31 _ _ _ ⟨by omega, hr2 _, hnext _ ?_⟩ (by omega) (hgc _)
                   rw [hX, hx0])
            · rw [if_neg hjT] at hX
              repeat' first
 | (apply s_mov; exact aW)
 | (apply s_gF; exact rfl)
 | (apply c_nil)
 | (apply s_pickF; exact rfl; exact aW)
 | (apply s_lss; exact rfl; all_goals (intro _; try (exfalso; omega)))
 | (apply s_eql; exact rfl; all_goals (intro _; try (exfalso; omega)))
 | (apply s_add; exact rfl; omega)
 | (apply s_sub; exact rfl; omega)
 | (apply s_pn; exact aO; exact lx _)
 | (apply s_pn; exact aO; exact p_ixO hki)
 | (apply s_pn; exact aO; exact p_ixO hij)
 | (apply s_pn; exact aO; exact ld1)
 | (apply s_pn; exact aO; exact ld2 _)
 | (apply s_st; exact aO; exact st1 _ _)
 | (apply s_st; exact aO; exact st2 _ _)
 | (apply c_seq)
 | (apply c_reg)
 | (apply c_block)
 | (apply c_skip)
 | (apply c_condT; exact rfl)
 | (apply c_condF; exact rfl)
 | (with_reducible apply k_c)
              all_goals first
                | (exfalso; omega)
                | (refine hK31 _ _ _ ⟨by omega, hr2 _, hnext _ ?_⟩ (by omega) (hgc _)
                   rw [hX, hx0])
      · obtain rfl : j = k := by omega
        repeat' first
 | (apply s_mov; exact aW)
 | (apply c_nil)
 | (apply s_lss; exact rfl; all_goals (intro _; try (exfalso; omega)))
 | (apply c_seq)
 | (apply c_reg)
 | (apply c_exitH)
 | (apply c_condF; exact rfl)
 | (with_reducible apply k_c)
        all_goals try (exfalso; omega)
        apply c_pre
        · exact hg [.int .i64 (j : Int)] rfl rows hrows
        repeat' first
 | (apply s_mov; exact aW)
 | (apply c_nil)
 | (apply s_add; exact rfl; omega)
 | (apply c_reg)
        refine hK2 (j + 1, rows) _ _ ⟨by dsimp only; omega, hrows, fun u v hu hv => ?_⟩ (by show i - (j + 1) < _; omega) (hg [.int .i64 ((j + 1 : Nat) : Int)] rfl rows hrows)
        dsimp only
        rw [hent u v hu hv]
        unfold atT
        by_cases c3 : u < j ∧ v < j ∨ u = j ∧ v < j ∨ v = j ∧ u < j
        · rw [if_pos c3, if_pos (by omega)]
        · rw [if_neg c3]
          by_cases c4 : u = j ∧ v = j
          · rw [if_pos (by omega)]; unfold tmE; rw [if_neg (by omega), if_neg (by omega)]
          · rw [if_neg (by omega)]
    · obtain rfl : k = i := by omega
      have hGe : rows = G := by
        refine List.ext_getElem (by rw [hrows.len, hgrow.len]) fun u h1 h2 => ?_
        have hu : u < k := by rw [hrows.len] at h1; exact h1
        have a := hrows.get hu
        have c := hgrow.get hu
        have hall : getLL rows (u : Int) = getLL G (u : Int) := ext_getI (by omega) fun v hv => by
          rw [hent u v hu (by omega), hgget hu (by omega)]
          unfold atT
          rw [if_pos (by omega)]
        rw [getLL_nat, getLL_nat] at hall
        simpa [List.getD, h1, h2] using hall
      subst hGe
      repeat' first
 | (apply s_mov; exact aW)
 | (apply c_nil)
 | (apply s_lss; exact rfl; all_goals (intro _; try (exfalso; omega)))
 | (apply c_seq)
 | (apply c_reg)
 | (apply c_exitH)
 | (apply c_condF; exact rfl)
 | (with_reducible apply k_c)
      all_goals try (exfalso; omega)
      apply c_pre
      · exact gcHB (pre := []) (gs := []) hrows (by omega) rfl (by simp) rfl
      repeat' first
 | (apply s_mov; exact aW)
 | (apply c_nil)
 | (apply c_seq)
 | (apply c_reg)
 | (apply c_ret)
 | (with_reducible apply k_c)
      have hfin := gcHB (pre := []) (gs := []) (M := k) hrows (by omega) rfl (by simp) rfl
      simp only [List.nil_append] at hfin
      simp [finish, ress, resOf, look, looks, bindEnv, tupOf, hfin]
attribute [local go_sem] gc subHeap reach_skip ren_free reach_new reach_newp reach_end rangeL roots boxCells nodupB posOf renL AV.ren pickO renH renO looks look bindEnv envOf reach_int reach_bool reach_nilS reach_rd putRow cells_sl cells_int cells_bool cells_nilS cells_rd cells_agg reach_agg reach_tup idFreeL idf_sl idf_ptr idf_int idf_bool idf_nilS idf_rd reach_fn reach_mp cells_fn cells_ptr cells_mp idf_mp idf_fn idf_agg idf_tup
set_option maxHeartbeats 8000000
def degsB (b : List (List Int)) : Int := sumTo (fun v => deg b.length (ed b) v) b.length
theorem c72 {x : AV} {b : List (List Int)} (hx : IsLL x b) (hB : IsB b) {m : Nat} (hm : 1100 ≤ m) (H : Heap) : callPure (evF tab it m) true 72 [x] H = some (.int .i64 (degsB b / 2 - b.length + 1), H) := by
  have f72 : evF tab it m 72 [x] [] = some (.int .i64 (degsB b / 2 - b.length + 1), []) := by
    obtain ⟨m, rfl⟩ : ∃ j, m = j + 1 := ⟨m - 1, by omega⟩
    have fx := hx.free
    have hn2 := hB.n2
    have g := gr_of hB
    have lx : ∀ H, evP H .len [x] = some (.int .i64 ((b.length : Nat) : Int)) := fun H => by cases hx <;> rfl
    have e74 := fun (i : Nat) (hi : i < b.length) H => c74 hx hB.bd hi (m := m) (by omega) H
    refine f_enter rfl rfl ?_
    generalize evF tab it m = call at *
    repeat' first
 | (apply s_mov; exact aW)
 | (apply c_nil)
 | (apply s_pn; exact aO; exact lx _)
 | (apply c_seq)
 | (apply c_reg)
 | (apply c_block)
 | (with_reducible apply k_c)
    refine c_loop ?_
    refine loop_gc (σ := Nat) (fun k => [x, .int .i64 (sumTo (fun v => deg b.length (ed b) v) k), .int .i64 ((b.length : Nat) : Int), .int .i64 (k : Int)]) (fun _ => []) (fun k => k ≤ b.length) (fun k => b.length - k) ?_ _ 0 _ _ (by omega) (by omega) (gc_to rfl (by simp [idFreeL, AV.idFree, *]; done))
    intro k hk K hK
    have hs1 := sumTo_nn (f := fun v => deg b.length (ed b) v) (n := k) fun j hj => (deg_nn g (by omega)).1
    have hs2 := sumTo_le (f := fun v => deg b.length (ed b) v) (M := 36) (n := k) fun j hj => by have := deg_nn g (i := j) (by omega); omega
    have hK1 := hK (k + 1)
    simp only [sumTo] at hK1
    have hd : k = b.length → sumTo (fun v => deg b.length (ed b) v) k = degsB b := fun e => by subst e; rfl
    generalize sumTo (fun v => deg b.length (ed b) v) k = Z at *
    by_cases hkn : k < b.length
    · have e74' := e74 k hkn
      have hdg := deg_nn g hkn
      repeat' first
 | (apply s_mov; exact aW)
 | (apply c_nil)
 | (apply s_lss; exact rfl; all_goals (intro _; try (exfalso; omega)))
 | (apply s_add; exact rfl; omega)
 | (apply s_cn; exact aO; exact e74' _)
 | (apply c_seq)
 | (apply c_reg)
 | (apply c_block)
 | (apply c_skip)
 | (apply c_condT; exact rfl)
 | (with_reducible apply k_c)
      exact hK1 _ _ (by omega) (by omega) (gc_to rfl (by simp [idFreeL, AV.idFree, *]; done))
    · obtain rfl : k = b.length := by omega
      have quo := fun H => p_quo (H := H) (a := Z) (c := 2) (by omega) (by omega)
      have he := hd rfl
      rw [← he]
      repeat' first
 | (apply s_mov; exact aW)
 | (apply c_nil)
 | (apply s_lss; exact rfl; all_goals (intro _; try (exfalso; omega)))
 | (apply s_add; exact rfl; omega)
 | (apply s_sub; exact rfl; omega)
 | (apply s_pn; exact aO; exact lx _)
 | (apply s_pn; exact aO; exact quo _)
 | (apply c_seq)
 | (apply c_reg)
 | (apply c_exitH)
 | (apply c_ret)
 | (apply c_condF; exact rfl)
 | (apply c_preF; exact aK; exact aF)
 | (with_reducible apply k_c)
      exact fin_t (by (conv => lhs; whnf)) (by rfl) rfl
  exact callPure_free (by simp [idFreeL, AV.idFree, hx.free]) (by simp) f72 rfl
def canL (b : List (List Int)) : List Int := (List.range b.length).map fun v => deg b.length (ed b) v - 2
theorem canL_len (b : List (List Int)) : (canL b).length = b.length := by simp [canL]
theorem canL_get {b : List (List Int)} {v : Nat} (h : v < b.length) : getI (canL b) (v : Int) = deg b.length (ed b) v - 2 := by
  rw [getI_nat]; simp [canL, List.getD, h]
theorem f41 {x : AV} {b : List (List Int)} (hx : IsLL x b) (hB : IsB b) {m : Nat} (hm : 2200 ≤ m) :
    evF tab it m 41 [x] [] = some (.tup [.sl 0 1 0 b.length, .int .i64 (degsB b / 2 - b.length + 1), .int .i64 0], [some (.data (iL (canL b)))]) := by
  obtain ⟨m, rfl⟩ : ∃ j, m = j + 1 := ⟨m - 1, by omega⟩
  have fx := hx.free
  have hn1 := hB.n1; have hn2 := hB.n2
  have g := gr_of hB
  have lx : ∀ H, evP H .len [x] = some (.int .i64 ((b.length : Nat) : Int)) := fun H => by cases hx <;> rfl
  have e60 := fun H => c60 hx (by omega) (m := m) (by omega) H
  simp only [hB, decide_true] at e60
  have e74 := fun (i : Nat) (hi : i < b.length) H => c74 hx hB.bd hi (m := m) (by omega) H
  have e72 := fun H => c72 hx hB (m := m) (by omega) H
  have hRl := canL_len b
  have hRg := fun (i : Nat) (h : i < b.length) => canL_get h
  generalize canL b = R at *
  refine f_enter rfl rfl ?_
  generalize evF tab it m = call at *
  have own_gc : ∀ (i : Nat) (L : List AV), gc 0 [x, ownV 0 L, .int .i64 ((b.length : Nat) : Int), .int .i64 (i : Int)] (owH L) = some ([x, ownV 0 L, .int .i64 ((b.length : Nat) : Int), .int .i64 (i : Int)], owH L) := fun i L => by
    cases L <;> simp [ownV, owH, go_sem, fx]
  repeat' first
 | (apply s_mov; exact aW)
 | (apply c_nil)
 | (apply s_notT; exact rfl)
 | (apply s_cn; exact aO; exact e60 _)
 | (apply s_pn; exact aO; exact lx _)
 | (apply c_seq)
 | (apply c_reg)
 | (apply c_block)
 | (apply c_skip)
 | (apply c_condF; exact rfl)
 | (with_reducible apply k_c)
  refine c_loop ?_
  refine loop_gc (σ := Nat) (fun i => [x, ownV 0 (iL (R.take i)), .int .i64 ((b.length : Nat) : Int), .int .i64 (i : Int)]) (fun i => owH (iL (R.take i))) (fun i => i ≤ b.length) (fun i => b.length - i) ?_ _ 0 _ _ (by omega) (by omega) (own_gc 0 [])
  intro i hi K hK
  by_cases hin : i < b.length
  · have h3 := hRg i hin
    have e74' := e74 i hin
    have hdg := deg_nn g hin
    have hstep : R.take (i + 1) = R.take i ++ [deg b.length (ed b) i - 2] := by
      rw [← List.take_append_getElem (by omega : i < R.length)]
      congr 1
      rw [getI_nat] at h3
      simpa [List.getD, show i < R.length by omega] using h3
    have hK1 := hK (i + 1)
    rw [hstep] at hK1
    have e1 : ∀ z : Int, iL (R.take i ++ [z]) = iL (R.take i) ++ [.int .i64 z] := fun z => by simp [iL]
    rw [e1] at hK1
    have hAl : (iL (R.take i)).length ≤ 12 := by rw [iL_len]; simp; omega
    generalize iL (R.take i) = A at *
    rcases A with _ | ⟨u, us⟩
    · simp only [ownV, owH] at *
      repeat' first
 | (apply s_mov; exact aW)
 | (apply c_nil)
 | (apply s_lss; exact rfl; all_goals (intro _; try (exfalso; omega)))
 | (apply s_add; exact rfl; omega)
 | (apply s_sub; exact rfl; omega)
 | (apply s_cn; exact aO; exact e74' _)
 | (apply s_en; exact aO; exact e_bld1 rfl rfl rfl rfl)
 | (apply s_en; exact aO; exact e_app_nil rfl (by omega) (by decide))
 | (apply c_seq)
 | (apply c_reg)
 | (apply c_block)
 | (apply c_skip)
 | (apply c_condT; exact rfl)
 | (with_reducible apply k_c)
      all_goals first | (exfalso; omega) | exact hK1 _ _ (by omega) (by omega) (by simp [ownV, owH, go_sem, fx])
    · simp only [ownV, owH] at *
      repeat' first
 | (apply s_mov; exact aW)
 | (apply c_nil)
 | (apply s_lss; exact rfl; all_goals (intro _; try (exfalso; omega)))
 | (apply s_add; exact rfl; omega)
 | (apply s_sub; exact rfl; omega)
 | (apply s_cn; exact aO; exact e74' _)
 | (apply s_en; exact aO; exact e_bld1 rfl rfl rfl rfl)
 | (apply s_en; exact aO; exact e_app_sl rfl rfl (by omega) (by simp at hAl; unfold most; omega))
 | (apply c_seq)
 | (apply c_reg)
 | (apply c_block)
 | (apply c_skip)
 | (apply c_condT; exact rfl)
 | (with_reducible apply k_c)
      all_goals first | (exfalso; omega) | exact hK1 _ _ (by omega) (by omega) (by simp [ownV, owH, go_sem, fx])
  · obtain rfl : i = b.length := by omega
    have hall : R.take b.length = R := List.take_of_length_le (by omega)
    rw [hall]
    have hl := iL_len R
    rw [hRl] at hl
    generalize hA : iL R = A at *
    rcases A with _ | ⟨u, us⟩
    · simp at hl; omega
    · simp only [List.length_cons] at hl
      simp only [ownV, owH]
      repeat' first
 | (apply c_nil)
 | (apply s_lss; exact rfl; all_goals (intro _; try (exfalso; omega)))
 | (apply c_seq)
 | (apply c_reg)
 | (apply c_exitH)
 | (apply c_condF; exact rfl)
 | (with_reducible apply k_c)
      apply c_pre (vs := [x, .sl 0 1 0 (us.length + 1)]) (H' := [some (.data (u :: us))])
      · simp [go_sem, fx]
      repeat' first
 | (apply s_mov; exact aW)
 | (apply c_nil)
 | (apply s_cn; exact aO; exact e72 _)
 | (apply c_seq)
 | (apply c_reg)
 | (apply c_ret)
 | (with_reducible apply k_c)
      rw [hl]
      simp [finish, ress, resOf, look, tupOf, go_sem]
theorem ty_rowsB {k : Nat} {cs : List AV} (h : TyAV T k 22 cs) : ∃ x l, cs = [x] ∧ IsLL x l ∧ l.length < 2 ^ 63 := by
  cases k with
  | zero => exact h.elim
  | succ k =>
    obtain ⟨s, hs, hm⟩ := h
    rw [T22] at hs; cases hs
    rcases hm with rfl | ⟨len, cells, se, h1, rfl, h3, h5, h4⟩
    · exact ⟨_, [], rfl, .nil, by simp⟩
    · rw [T23] at h1; cases h1
      simp only [Nat.mul_one] at h3 h4
      have key : ∀ (cs : List AV), (∀ i, i < cs.length → ∃ l, IsL (cs.getD i .undef) l) → ∃ ll : List (List Int), cs.length = ll.length ∧ ∀ i, i < ll.length → IsL (cs.getD i .undef) (ll.getD i []) := by
        intro cs
        induction cs with
        | nil => intro _; exact ⟨[], rfl, fun i hi => by simp at hi⟩
        | cons c cs ih =>
          intro h
          obtain ⟨l, hl⟩ := h 0 (by simp)
          obtain ⟨ll, h1, h2⟩ := ih fun i hi => by simpa using h (i + 1) (by simpa using hi)
          refine ⟨l :: ll, by simp [h1], fun i hi => ?_⟩
          cases i with
          | zero => simpa using hl
          | succ i => simpa using h2 i (by simpa using hi)
      obtain ⟨ll, e1, e2⟩ := key cells fun i hi => by
        obtain ⟨x, l, hx, hl⟩ := ty_ints (h4 i (by omega))
        rw [take1 hi] at hx
        simp only [List.cons.injEq, and_true] at hx
        exact ⟨l, by rw [hx]; exact hl⟩
      have e3 : len = ll.length := by omega
      subst e3
      exact ⟨_, ll, rfl, .rd cells ll e1 e2, h5⟩
theorem arg_rowsB {k : Nat} {x : AV} (h : TyArg T k 22 x) : ∃ l, IsLL x l ∧ l.length < 9223372036854775808 := by
  rcases h with ⟨s, xs, hs, ha, _⟩ | ⟨s, hs, ha, h⟩
  · rw [T22] at hs; cases hs; cases ha
  · obtain ⟨y, l, hy, hl, hb⟩ := ty_rowsB h
    simp only [List.cons.injEq, and_true] at hy
    exact ⟨l, by rw [hy]; exact hl, hb⟩
set_option maxHeartbeats 8000000
theorem c44t {x : AV} {b : List (List Int)} {w : Nat} (hx : IsLL x b) (hb : b.length < 9223372036854775808) (hw : 1 ≤ w ∧ w ≤ 10) {m : Nat} (hm : 100 ≤ m) (H : Heap) :
    callPure (evF tab it m) true 44 [x, .int .i64 (w : Int)] H = some (fzLL (tameL b w), H) :=
  callPure_frz (by simp [idFreeL, AV.idFree, hx.free]) (by simp) (f44 hx hb hw hm) (hb_frz (tameL_rows b w) (grN_le b hw.1).1 (by have := (grN_le b hw.1).2; omega))
theorem c29q {C : List (List Int)} {args : List AV} {H : Heap} (hC : IsB C) {m : Nat} (hm : 2200 ≤ m) (ha : frzL H 40 args = some [fzLL C]) : callPure (evF tab it m) true 29 args H = some (.tup [.int .i64 (trN C), .int .i64 0], H) := by
  have hn := hC.n2
  have f := f29 (isLL_fz C) (by omega) hm
  rw [if_pos hC, if_pos hC] at f
  exact callPure_own ha f rfl (by simp) (by simp [frzV, idFreeL, AV.idFree])
theorem c41q {C : List (List Int)} {args : List AV} {H : Heap} (hC : IsB C) {m : Nat} (hm : 2200 ≤ m) (ha : frzL H 40 args = some [fzLL C]) : callPure (evF tab it m) true 41 args H = some (.tup [.rd 1 C.length (iL (canL C)), .int .i64 (degsB C / 2 - C.length + 1), .int .i64 0], H) :=
  callPure_own ha (f41 (isLL_fz C) hC hm) rfl (by simp [AV.hasRd, hasRdL, HO.hasRd, iL_noRd]) (frzV_tup rfl (frzL_cons (frz_sl rfl (canL_len C)) (frzL_cons rfl (frzL_cons rfl frzL_nil))))
def HY (X : Heap) (n : Nat) (rows : List (List Int)) : Heap := X ++ (some (.box (refs (List.range' (X.length + 1) n) (rows.map iL))) :: rowsH (rows.map iL))
theorem hy_bx (X : Heap) (n : Nat) (rows : List (List Int)) : (HY X n rows)[X.length]? = some (some (.box (refs (List.range' (X.length + 1) n) (rows.map iL)))) := by
  unfold HY
  rw [List.getElem?_append_right (Nat.le_refl _), Nat.sub_self]
  rfl
theorem hy_row {X : Heap} {n i : Nat} {rows : List (List Int)} (h : Rows n rows) (hi : i < n) : (HY X n rows)[X.length + 1 + i]? = some (some (.data (iL (getLL rows (i : Int))))) := by
  have hil : i < rows.length := by rw [h.len]; exact hi
  unfold HY
  rw [List.getElem?_append_right (by omega), show X.length + 1 + i - X.length = i + 1 by omega, List.getElem?_cons_succ]
  exact rowsH_get (rows_at hil)
theorem hy_ld {X : Heap} {n i : Nat} {rows : List (List Int)} (h : Rows n rows) (hi : i < n) : evP (HY X n rows) (.ld false 1) [.ptr X.length i] = some (.sl (X.length + 1 + i) 1 0 n) := by
  have hil : i < rows.length := by rw [h.len]; exact hi
  have hc : Heap.cells? (HY X n rows) X.length = some (refs (List.range' (X.length + 1) n) (rows.map iL)) := cells?_iff.2 (.inr (hy_bx X n rows))
  have hr := refs_get (is := List.range' (X.length + 1) n) (ll := rows.map iL) (j := i) (i := X.length + 1 + i) (by rw [List.getElem?_range' hi]; simp) (rows_at hil)
  rw [iL_len, h.get hi] at hr
  generalize refs (List.range' (X.length + 1) n) (rows.map iL) = cs at *
  obtain ⟨h1, h2⟩ := List.getElem?_eq_some_iff.1 hr
  have h5 : i + 1 ≤ cs.length := by omega
  simp only [evP, ldc, getRow, hc, Option.bind_some, if_pos h5]
  rw [List.drop_eq_getElem_cons h1, h2]
  simp [wholeOf]
theorem hy_get {X : Heap} {n i k : Nat} {rows : List (List Int)} (h : Rows n rows) (hi : i < n) (hk : k < n) : evP (HY X n rows) (.ld false 1) [.ptr (X.length + 1 + i) k] = some (.int .i64 (getI (getLL rows (i : Int)) (k : Int))) :=
  p_ldD (hy_row h hi) (by rw [h.get hi]; exact hk)
theorem hy_st {call : CallF} {X : Heap} {n i j : Nat} {x : Int} {rows : List (List Int)} (h : Rows n rows) (hi : i < n) (hj : j < n) : evE call (HY X n rows) (.st 1) [.ptr (X.length + 1 + i) j, .int .i64 x] = some (.undef, HY X n (setLL rows i j x)) := by
  have h1 := hy_row (X := X) h hi
  rw [e_stO (call := call) (H := HY X n rows) (id := X.length + 1 + i) (l := getLL rows (i : Int)) (i := j) (v := x) (data?_iff.2 h1) (by rw [h.get hi]; exact hj)]
  have e3 : refs (List.range' (X.length + 1) n) (rows.map iL) = refs (List.range' (X.length + 1) n) ((setLL rows i j x).map iL) := refs_len _ (by
    refine List.ext_getElem (by simp [setLL]) fun k h1 h2 => ?_
    simp only [List.length_map] at h1
    have hkn : k < n := by rw [← h.len]; exact h1
    have a := h.get hkn
    have c := (setLL_rows (x := x) (j := j) h hi).get hkn
    rw [getLL_nat] at a c
    have h3 : k < (setLL rows i j x).length := by simpa [setLL] using h1
    simp only [List.getD, List.getElem?_eq_getElem h1, List.getElem?_eq_getElem h3, Option.getD_some] at a c
    simp [iL_len, a, c])
  have e1 : (HY X n rows).set (X.length + 1 + i) (some (.data (iL ((getLL rows (i : Int)).set j x)))) = HY X n (setLL rows i j x) := by
    unfold HY
    rw [List.set_append_right _ _ (by omega), show X.length + 1 + i - X.length = i + 1 by omega, List.set_cons_succ, e3]
    simp [rowsH, setLL, List.map_set]
  rw [e1]
theorem hy_frz {X : Heap} {n : Nat} {rows : List (List Int)} (h : Rows n rows) (hn : 1 ≤ n) (hn2 : n ≤ 12) : frzV (HY X n rows) 39 (.sl X.length 1 0 n) = some (fzLL rows) := by
  have hl : (List.range' (X.length + 1) n).length = (rows.map iL).length := by simp [h.len]
  have hR : ∀ (j i : Nat) (l : List AV), (List.range' (X.length + 1) n)[j]? = some i → (rows.map iL)[j]? = some l → (HY X n rows)[i]? = some (some (.data l)) := fun j i l hj hl => by
    obtain ⟨rfl, hjn⟩ := rng_get hj
    rw [hy_row h hjn]
    rw [rows_at (by rw [h.len]; exact hjn)] at hl
    injection hl with hl
    rw [hl]
  have hz := frzL_refs (H := HY X n rows) (List.range' (X.length + 1) n) (rows.map iL) 37 hl (by simp; omega) hR
  have hb := hy_bx X n rows
  have hbx : Heap.box? (HY X n rows) X.length = some (refs (List.range' (X.length + 1) n) (rows.map iL)) := by simp [Heap.box?, hb]
  have hda : Heap.data? (HY X n rows) X.length = none := by simp [Heap.data?, hb]
  have hm : ((rows.map iL).map fun l => AV.rd 1 l.length l) = rows.map fzL := by
    rw [List.map_map]
    refine List.map_congr_left fun r hr => ?_
    have := h.each r hr
    rw [fzL_ne this hn]
    simp [iL_len, this]
  rw [hm] at hz
  rw [frzV_sl, hda, hbx]
  simp only [Option.none_or, Option.bind_some, hz]
  rw [if_pos (by simp [h.len])]
  have ht : (rows.map fzL).take n = rows.map fzL := List.take_of_length_le (by simp [h.len])
  have : fzLL rows = .rd 1 n (rows.map fzL) := by
    cases rows with
    | nil => have := h.len; simp at this; omega
    | cons r rs => have := h.len; simp only [List.length_cons] at this; simp [fzLL, this]
  rw [this]
  simp [ht]
theorem hb_frz9 {n : Nat} {rows : List (List Int)} (h : Rows n rows) (hn : 1 ≤ n) (hn2 : n ≤ 12) : frzV (HB n rows) 39 (.sl 0 1 0 n) = some (fzLL rows) := hy_frz (X := []) h hn hn2
theorem gcNil {pre gs : List AV} {k p M : Nat} {H : Heap} (hk : k < 100) (hb : H[p]? = some (some (.box (List.replicate k .nilS)))) (hp : idFreeL pre = true) (hpl : pre.length ≤ 20) (hg : idFreeL gs = true) :
    gc 0 (pre ++ .sl p 1 0 M :: gs) H = some (pre ++ .sl 0 1 0 M :: gs, HP k []) := by
  have hφ : nodupB [p] = true := rfl
  have q1 : posOf [p] p = some 0 := posOf_of_get hφ (j := 0) rfl
  have hnf : idFreeL (List.replicate k AV.nilS) = true := by
    clear hb
    induction k with
    | zero => rfl
    | succ z ih => rw [List.replicate_succ]; simp only [idFreeL, AV.idFree, Bool.true_and]; exact ih (by omega)
  refine gc_of (φ := [p]) ?_ hφ (vs' := pre ++ .sl 0 1 0 M :: gs) ?_ (Hp := [some (.box (List.replicate k .nilS))]) ?_ ?_
  · have b2 : boxCells H p = List.replicate k .nilS := by simp [boxCells, hb]
    have e : reach H 400 (rangeL 0 []) (roots H (rangeL 0 []) ++ (pre ++ .sl p 1 0 M :: gs)) = reach H (399 - pre.length) [p] (List.replicate k .nilS ++ gs) := by
      have h1 : rangeL 0 [] = [] := rfl
      have h2 : roots H (rangeL 0 []) = [] := rfl
      rw [h2, List.nil_append, h1, show (400 : Nat) = (400 - pre.length) + pre.length by omega, reach_pre pre hp, show 400 - pre.length = (399 - pre.length) + 1 by omega, reach_new, b2]
      simp
    rw [e, reach_nils (by omega), reach_free _ _ _ _ hg]
  · rw [renL_append, renL_free hp]
    simp [renL, AV.ren, q1, renL_free hg]
  · simp [pickO, hb]
  · simp [renH, renO, renL_free hnf, HP, refs, rowsH]
theorem e_mkBX {call : CallF} {H : Heap} {n : Nat} (h : n ≤ most) : evE call H (.mkB 1 24 [.nilS]) [.int .i64 (n : Int), .int .i64 (n : Int)] = some (.sl H.length 1 0 n, H ++ [some (.box (List.replicate n .nilS))]) := by
  have h2 : 0 ≤ (n : Int) ∧ (n : Int) = (n : Int) ∧ (n : Int) ≤ most := ⟨by omega, rfl, by omega⟩
  show (if 0 ≤ (n : Int) ∧ (n : Int) = (n : Int) ∧ (n : Int) ≤ most then some (newBox 1 (n : Int).toNat (repl (n : Int).toNat [.nilS]) H) else none) = _
  rw [if_pos h2]
  simp only [Int.toNat_natCast, newBox, repl_nil]
theorem cir_degs {n : Nat} {C : List (List Int)} (h3 : 3 ≤ n) (hr : Rows n C) (he : ∀ i j, i < n → j < n → ed C i j = cirE n i j) : degsB C / 2 - C.length + 1 = 1 := by
  have hl := hr.len
  have hd : ∀ i, i < n → deg n (ed C) i = 2 := fun i hi => by
    have ha : (i + 1) % n < n := Nat.mod_lt _ (by omega)
    have hc : (i + n - 1) % n < n := Nat.mod_lt _ (by omega)
    have hne : (i + 1) % n ≠ (i + n - 1) % n := by
      have h1 : (i + 1) % n = if i = n - 1 then 0 else i + 1 := by
        split
        · rename_i e; rw [e, show n - 1 + 1 = n by omega, Nat.mod_self]
        · exact Nat.mod_eq_of_lt (by omega)
      have h2 : (i + n - 1) % n = if i = 0 then n - 1 else i - 1 := by
        split
        · rename_i e; rw [e, Nat.zero_add]; exact Nat.mod_eq_of_lt (by omega)
        · rw [show i + n - 1 = (i - 1) + n by omega, Nat.add_mod_right]; exact Nat.mod_eq_of_lt (by omega)
      rw [h1, h2]
      split <;> split <;> omega
    have e : deg n (ed C) i = sumTo (fun j => (if (j : Int) = (((i + 1) % n : Nat) : Int) then 1 else 0) + (if (j : Int) = (((i + n - 1) % n : Nat) : Int) then 1 else 0)) n := sumTo_congr fun j hj => by
      rw [he i j hi hj]
      unfold cirE
      (repeat' split) <;> omega
    rw [e, sumTo_add, sumTo_unit, sumTo_unit, if_pos ha, if_pos hc]
    rfl
  have e : degsB C = sumTo (fun _ => 2) n := by
    unfold degsB
    rw [hl]
    exact sumTo_congr hd
  have h2 : ∀ k : Nat, sumTo (fun _ => (2 : Int)) k = k * 2 := fun k => by
    induction k with
    | zero => rfl
    | succ k ih => show sumTo (fun _ => (2 : Int)) k + 2 = _; rw [ih]; push_cast; omega
  rw [e, h2, hl]
  omega
end Go.AM.Ch
