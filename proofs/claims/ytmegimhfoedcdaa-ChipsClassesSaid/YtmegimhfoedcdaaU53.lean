/- A part of the proof: U53a U53. -/
import Derived.Test.YtmegimhfoedcdaaU52
set_option linter.unusedVariables false
set_option linter.unusedSimpArgs false
set_option linter.unusedSectionVars false
namespace Go.AM.Ch
set_option maxHeartbeats 8000000
def grN (b : List (List Int)) (w : Nat) : Nat := 1 + modN ((b.length : Int) - 1) w
def grTo (b : List (List Int)) (i : Nat) : Nat := if i < b.length ∧ i < (getLL b (i : Int)).length then modN ((modN (getI (getLL b (i : Int)) (i : Int)) i : Nat) + (i : Int) - 1) i else i - 1
def grX0 (b : List (List Int)) (i j : Nat) : Int := if i < b.length ∧ j < (getLL b (i : Int)).length then (modN (getI (getLL b (i : Int)) (j : Int)) 4 : Nat) else 0
def grX (b : List (List Int)) (i j : Nat) : Int := if j = grTo b i then (if 1 > grX0 b i j then 1 else grX0 b i j) else grX0 b i j
def grE (b : List (List Int)) (p q : Nat) : Int := if q < p then grX b p q else if p < q then grX b q p else 0
def growL (b : List (List Int)) (w : Nat) : List (List Int) := (List.range (grN b w)).map fun p => (List.range (grN b w)).map fun q => grE b p q
theorem grTo_lt (b : List (List Int)) {i : Nat} (h : 1 ≤ i) : grTo b i < i := by
  unfold grTo
  split
  · exact modN_lt _ (by omega)
  · omega
theorem grX0_le (b : List (List Int)) (i j : Nat) : 0 ≤ grX0 b i j ∧ grX0 b i j ≤ 3 := by
  unfold grX0
  split
  · have := modN_lt (getI (getLL b (i : Int)) (j : Int)) (n := 4) (by omega); omega
  · omega
theorem grX_le (b : List (List Int)) (i j : Nat) : 0 ≤ grX b i j ∧ grX b i j ≤ 3 := by
  have := grX0_le b i j
  unfold grX
  split
  · split <;> omega
  · exact this
theorem growL_rows (b : List (List Int)) (w : Nat) : Rows (grN b w) (growL b w) := ⟨by simp [growL], fun r hr => by
  obtain ⟨p, _, rfl⟩ := List.mem_map.1 hr
  simp⟩
theorem growL_get {b : List (List Int)} {w p q : Nat} (hp : p < grN b w) (hq : q < grN b w) : getI (getLL (growL b w) (p : Int)) (q : Int) = grE b p q := by
  rw [getLL_nat]
  have h1 : (growL b w).getD p [] = (List.range (grN b w)).map fun q => grE b p q := by simp [growL, List.getD, hp]
  rw [h1, getI_nat]
  simp [List.getD, hq]
theorem growL_len (b : List (List Int)) (w : Nat) : (growL b w).length = grN b w := (growL_rows b w).len
theorem grN_le (b : List (List Int)) {w : Nat} (hw : 1 ≤ w) : 1 ≤ grN b w ∧ grN b w ≤ w := by
  have := modN_lt ((b.length : Int) - 1) (n := w) (by omega)
  unfold grN
  omega
theorem grow_isB (b : List (List Int)) {w : Nat} (hw : 1 ≤ w ∧ w ≤ 10) : IsB (growL b w) := by
  have hn := grN_le b hw.1
  have hl := growL_len b w
  have hget := fun {p q : Nat} => growL_get (b := b) (w := w) (p := p) (q := q)
  have hrow := growL_rows b w
  refine ⟨by omega, by omega, fun v hv => by rw [hrow.get (by omega), hl], fun i k hi hk => ?_, ?_⟩
  · unfold Ed
    rw [hget (by omega) (by omega), hget (by omega) (by omega)]
    have a := grX_le b i k
    have c := grX_le b k i
    unfold grE
    by_cases h1 : k < i
    · rw [if_pos h1, if_neg (show ¬ i < k by omega), if_pos h1]; exact ⟨a, rfl, by omega⟩
    · by_cases h2 : i < k
      · rw [if_neg h1, if_pos h2, if_pos h2]; exact ⟨c, rfl, by omega⟩
      · rw [if_neg h1, if_neg h2, if_neg h2, if_neg h1]; exact ⟨by omega, rfl, fun _ => rfl⟩
  · have hq : 0 < (growL b w).length := by omega
    obtain ⟨hB, hN, hC⟩ := dist_all (growL b w) hq
    have hR : ∀ m : Nat, ∀ k : Nat, k < (growL b w).length → k ≤ m → 0 ≤ getI (dist (growL b w) 0).1 (k : Int) := by
      intro m
      induction m with
      | zero => intro k hk h0; obtain rfl : k = 0 := by omega
                rw [hN.zero]; exact Int.le_refl _
      | succ m ih =>
        intro k hk hkm
        by_cases h0 : k = 0
        · subst h0; rw [hN.zero]; exact Int.le_refl _
        · have ht := grTo_lt b (i := k) (by omega)
          refine hC (grTo b k) k (by omega) hk (ih _ (by omega) (by omega)) ?_
          unfold ed
          rw [hget (by omega) (by omega)]
          unfold grE
          rw [if_neg (by omega), if_pos ht]
          unfold grX
          rw [if_pos rfl]
          split <;> omega
    unfold Conn
    exact hB.done.1 fun k hk => by have := hR k k hk (Nat.le_refl _); omega
def atIJ (b : List (List Int)) (i j : Nat) (p q : Nat) : Int := if p < i ∧ q < i ∨ p = i ∧ q < j ∨ q = i ∧ p < j then grE b p q else 0
set_option maxHeartbeats 8000000
theorem f34 {x : AV} {b : List (List Int)} {w : Nat} (hx : IsLL x b) (hb : b.length < 9223372036854775808) (hw : 1 ≤ w ∧ w ≤ 10) {m : Nat} (hm : 100 ≤ m) :
    evF tab it m 34 [x, .int .i64 (w : Int)] [] = some (.sl 0 1 0 (grN b w), HB (grN b w) (growL b w)) := by
  obtain ⟨m, rfl⟩ : ∃ j, m = j + 1 := ⟨m - 1, by omega⟩
  have fx := hx.free
  have hn := grN_le b hw.1
  have lx : ∀ H, evP H .len [x] = some (.int .i64 ((b.length : Nat) : Int)) := fun H => by cases hx <;> rfl
  have e49w := fun H => c49 (x := (b.length : Int) - 1) (n := w) (by omega) (by omega) (m := m) (by omega) H
  have hmod := modN_lt ((b.length : Int) - 1) (n := w) (by omega)
  have hNe : ((grN b w : Nat) : Int) = 1 + (modN ((b.length : Int) - 1) w : Nat) := by unfold grN; omega
  have e49 := fun (z : Int) (n : Nat) (h1 : 0 < n) (h2 : n < 9223372036854775808) H => c49 (x := z) h1 h2 (m := m) (by omega) H
  have hgrow := growL_rows b w
  have hgget := fun {p q : Nat} => growL_get (b := b) (w := w) (p := p) (q := q)
  generalize hG : growL b w = G at *
  generalize hn' : grN b w = n at *
  have mk := fun call H => @e_mkI call H n (by unfold most; omega)
  refine f_enter rfl rfl ?_
  generalize evF tab it m = call at *
  generalize modN ((b.length : Int) - 1) w = M0 at *
  have hHl : ∀ (k : Nat) (Z : List (List Int)), Z.length = k → (HB k Z).length = 1 + k := fun k Z hZ => by simp [HB, rowsH_length, hZ]; omega
  have bz : ∀ (a : Nat) H, evE call H (.bldB 1 1 [.nilS] [(0, 1)]) [.sl a 1 0 n] = some (.sl H.length 1 0 1, H ++ [some (.box [.sl a 1 0 n])]) := fun a H => e_bldB1 rfl rfl rfl
  have z0 : ∀ i j, j < n → getI (getLL (List.replicate n (List.replicate n (0 : Int))) ((i : Nat) : Int)) ((j : Nat) : Int) = 0 := fun i j hj => by
    rw [getLL_nat, getI_nat]
    by_cases h : i < n
    · simp [List.getD, h, hj]
    · simp [List.getD, h]
  have zR : Rows n (List.replicate n (List.replicate n (0 : Int))) := ⟨by simp, fun r hr => by rw [(List.mem_replicate.1 hr).2]; simp⟩
  skip
  repeat' first
 | (apply s_mov; exact aW)
 | (apply c_nil)
 | (apply s_add; exact rfl; omega)
 | (apply s_sub; exact rfl; omega)
 | (apply s_pn; exact aO; exact lx _)
 | (apply s_cn; exact aO; exact e49w _)
 | (apply c_seq)
 | (apply c_reg)
 | (apply c_block)
 | (with_reducible apply k_c)
  rw [← hNe]
  refine c_loop ?_
  refine loop_gc (σ := Nat) (fun i => [x, .int .i64 (n : Int), if i = 0 then .nilS else .sl 0 1 0 i, .int .i64 (i : Int)]) (fun i => if i = 0 then [] else HB i (List.replicate i (List.replicate n 0))) (fun i => i ≤ n) (fun i => n - i) ?_ _ 0 _ _ (by omega) (by omega) (by rw [if_pos rfl, if_pos rfl, hNe]; exact gc_to rfl (by simp [idFreeL, AV.idFree, *]; done))
  intro i hi K hK
  by_cases hin : i < n
  · have hK1 := hK (i + 1)
    rw [if_neg (show ¬ i + 1 = 0 by omega), if_neg (show ¬ i + 1 = 0 by omega)] at hK1
    by_cases h0 : i = 0
    · subst h0
      have app := e_appB_nil (call := call) (q := 24) (id := 1) (H := [some (.data (iL (List.replicate n 0))), some (.box [.sl 0 1 0 n])]) (cs := [.sl 0 1 0 n]) (n := 1) rfl rfl (by omega) (by decide)
      rw [if_pos rfl, if_pos rfl]
      repeat' first
 | (apply s_mov; exact aW)
 | (apply c_nil)
 | (apply s_lss; exact rfl; all_goals (intro _; try (exfalso; omega)))
 | (apply s_add; exact rfl; omega)
 | (apply s_en; exact aO; exact mk _ _)
 | (apply s_en; exact aO; exact bz _ _)
 | (apply c_seq)
 | (apply c_reg)
 | (apply c_block)
 | (apply c_skip)
 | (apply c_condT; exact rfl)
 | (with_reducible apply k_c)
      all_goals try (exfalso; omega)
      refine hK1 _ _ (by omega) (by omega) ?_
      have hz := iL_len (List.replicate n 0)
      rw [List.length_replicate] at hz
      have hr : refs [0] [iL (List.replicate n 0)] = [.sl 0 1 0 n] := by simp [refs, hz]
      have := gcR (H := [some (.data (iL (List.replicate n 0))), some (.box [.sl 0 1 0 n]), some (.box [.sl 0 1 0 n])]) (pre := [x, .int .i64 (n : Int)]) (gs := [.int .i64 1]) (p := 2) (M := 1) (is := [0]) (R := [iL (List.replicate n 0)]) (by simp [idFreeL, AV.idFree, fx]) (by simp) rfl (by rw [hr]; rfl) rfl (fun j i l h1 h2 => by
        cases j with
        | zero => simp at h1 h2; subst h1; subst h2; rfl
        | succ j => simp at h1) (by simp) (by simp)
      exact this
    · rw [if_neg h0, if_neg h0]
      have hZl : (List.replicate i (List.replicate n (0 : Int))).length = i := by simp
      have hl1 := hHl i _ hZl
      have hz := iL_len (List.replicate n 0)
      rw [List.length_replicate] at hz
      have e1 : evE call (HB i (List.replicate i (List.replicate n 0))) (.mkS 1 8 [.int .i64 0]) [.int .i64 (n : Int), .int .i64 (n : Int)] = some (.sl (1 + i) 1 0 n, HB i (List.replicate i (List.replicate n 0)) ++ [some (.data (iL (List.replicate n 0)))]) := by rw [mk, hl1]
      have e2 : evE call (HB i (List.replicate i (List.replicate n 0)) ++ [some (.data (iL (List.replicate n 0)))]) (.bldB 1 1 [.nilS] [(0, 1)]) [.sl (1 + i) 1 0 n] = some (.sl (2 + i) 1 0 1, HB i (List.replicate i (List.replicate n 0)) ++ [some (.data (iL (List.replicate n 0))), some (.box [.sl (1 + i) 1 0 n])]) := by
        rw [bz]
        simp [hl1]
        omega
      have hR1 : (List.replicate (i + 1) (List.replicate n (0 : Int))).map iL = (List.replicate i (List.replicate n 0)).map iL ++ [iL (List.replicate n 0)] := by
        rw [List.replicate_succ', List.map_append]; rfl
      have hrf : refs (List.range' 1 (i + 1)) ((List.replicate (i + 1) (List.replicate n (0 : Int))).map iL) = refs (List.range' 1 i) ((List.replicate i (List.replicate n 0)).map iL) ++ [.sl (1 + i) 1 0 n] := by
        rw [hR1, show List.range' 1 (i + 1) = List.range' 1 i ++ [1 + i] by rw [List.range'_concat]; simp, refs_append (by simp)]
        simp [refs, hz]
      have e3 : evE call (HB i (List.replicate i (List.replicate n 0)) ++ [some (.data (iL (List.replicate n 0))), some (.box [.sl (1 + i) 1 0 n])]) (.appB 1 24) [.sl 0 1 0 i, .sl (2 + i) 1 0 1] = some (.sl (i + 1 + 1 + 1) 1 0 (i + 1), [none] ++ (rowsH ((List.replicate (i + 1) (List.replicate n (0 : Int))).map iL) ++ [some (.box [.sl (1 + i) 1 0 n]), some (.box (refs (List.range' 1 (i + 1)) ((List.replicate (i + 1) (List.replicate n (0 : Int))).map iL)))])) := by
        have hlen : (refs (List.range' 1 i) ((List.replicate i (List.replicate n (0 : Int))).map iL)).length = i := by rw [refs_length (by simp)]; simp
        have hc2 : Heap.cells? (HB i (List.replicate i (List.replicate n 0)) ++ [some (.data (iL (List.replicate n 0))), some (.box [.sl (1 + i) 1 0 n])]) (2 + i) = some [.sl (1 + i) 1 0 n] := by
          have : (HB i (List.replicate i (List.replicate n 0)) ++ [some (.data (iL (List.replicate n 0))), some (.box [.sl (1 + i) 1 0 n])])[2 + i]? = some (some (.box [.sl (1 + i) 1 0 n])) := by
            rw [List.getElem?_append_right (by omega), hl1, show 2 + i - (1 + i) = 1 by omega]; rfl
          exact cells?_iff.2 (.inr this)
        rw [e_appB_sl (call := call) (q := 24) (id := 0) (id2 := 2 + i) (n := 1) (k := i) (cs := refs (List.range' 1 i) ((List.replicate i (List.replicate n (0 : Int))).map iL)) (bs := [.sl (1 + i) 1 0 n]) (by rfl) hlen hc2 rfl (by omega) (by unfold most; omega), hrf, hR1]
        have hset : (HB i (List.replicate i (List.replicate n 0)) ++ [some (HO.data (iL (List.replicate n 0))), some (HO.box [.sl (1 + i) 1 0 n])]).set 0 none = [none] ++ (rowsH ((List.replicate i (List.replicate n (0 : Int))).map iL ++ [iL (List.replicate n 0)]) ++ [some (.box [.sl (1 + i) 1 0 n])]) := by
          rw [rowsH_append]
          simp [HB, rowsH]
        rw [hset]
        simp [rowsH_length]
      repeat' first
 | (apply s_mov; exact aW)
 | (apply c_nil)
 | (apply s_lss; exact rfl; all_goals (intro _; try (exfalso; omega)))
 | (apply s_add; exact rfl; omega)
 | (apply s_en; exact aO; exact e1)
 | (apply s_en; exact aO; exact e2)
 | (apply s_en; exact aO; exact e3)
 | (apply c_seq)
 | (apply c_reg)
 | (apply c_block)
 | (apply c_skip)
 | (apply c_condT; exact rfl)
 | (with_reducible apply k_c)
      all_goals try (exfalso; omega)
      refine hK1 _ _ (by omega) (by omega) ?_
      have hRl : ((List.replicate (i + 1) (List.replicate n (0 : Int))).map iL).length = i + 1 := by simp
      generalize (List.replicate (i + 1) (List.replicate n (0 : Int))) = Z at *
      have := gcR (pre := [x, .int .i64 (n : Int)]) (gs := [.int .i64 ((i : Int) + 1)]) (M := i + 1) (p := i + 1 + 1 + 1) (is := List.range' 1 (i + 1)) (R := Z.map iL) (H := [none] ++ (rowsH (Z.map iL) ++ [some (.box [.sl (1 + i) 1 0 n]), some (.box (refs (List.range' 1 (i + 1)) (Z.map iL)))])) (by simp [idFreeL, AV.idFree, fx]) (by simp) rfl (by rw [get_after [none] _ (s := 1) (q := i + 1) (c := 1) rfl hRl]; rfl) (by simp [hRl]) (rng_rows [none] _ rfl) (by simp [List.mem_range'_1, List.nodup_range']; omega) (by simp; omega)
      rw [show (List.range' 1 (i + 1)).length = i + 1 by simp] at this
      exact this
  · obtain rfl : i = n := by omega
    rw [if_neg (show ¬ i = 0 by omega), if_neg (show ¬ i = 0 by omega)]
    repeat' first
 | (apply s_mov; exact aW)
 | (apply c_nil)
 | (apply s_lss; exact rfl; all_goals (intro _; try (exfalso; omega)))
 | (apply c_seq)
 | (apply c_reg)
 | (apply c_exitH)
 | (apply c_condF; exact rfl)
 | (with_reducible apply k_c)
    all_goals try (exfalso; omega)
    apply c_pre
    · exact gcHB (pre := [x, .int .i64 (i : Int)]) (gs := []) zR (by omega) (by simp [idFreeL, AV.idFree, fx]) (by simp) rfl
    repeat' first
 | (apply s_mov; exact aW)
 | (apply c_nil)
 | (apply c_seq)
 | (apply c_reg)
 | (apply c_block)
 | (with_reducible apply k_c)
    refine c_loop ?_
    refine loop_gc (σ := Nat × List (List Int)) (fun p => [x, .int .i64 (i : Int), .sl 0 1 0 i, .int .i64 (p.1 : Int)]) (fun p => HB i p.2) (fun p => 1 ≤ p.1 ∧ p.1 ≤ i ∧ Rows i p.2 ∧ ∀ u v : Nat, u < i → v < i → getI (getLL p.2 (u : Int)) (v : Int) = atIJ b p.1 0 u v) (fun p => i - p.1) ?_ _ (1, List.replicate i (List.replicate i 0)) _ _ ⟨by dsimp only; omega, by dsimp only; omega, zR, fun u v hu hv => by
      dsimp only
      rw [z0 u v hv]
      unfold atIJ grE
      by_cases hc : u < 1 ∧ v < 1 ∨ u = 1 ∧ v < 0 ∨ v = 1 ∧ u < 0
      · rw [if_pos hc, if_neg (by omega), if_neg (by omega)]
      · rw [if_neg hc]⟩ (by show i - 1 < _; omega) (gcHB (pre := [x, .int .i64 (i : Int)]) (gs := [.int .i64 1]) zR (by omega) (by simp [idFreeL, AV.idFree, fx]) (by simp) rfl)
    clear hK
    intro ⟨k, rows⟩ ⟨hk1, hkn, hrows, hent⟩ K2 hK2
    dsimp only at hk1 hkn hrows hent hK2 ⊢
    have hg := fun (gs : List AV) (h : idFreeL gs = true) (rows : List (List Int)) (hr : Rows i rows) => gcHB (pre := [x, .int .i64 (i : Int)]) (gs := gs) (M := i) hr (by omega) (by simp [idFreeL, AV.idFree, fx]) (by simp) h
    by_cases hki : k < i
    · have hto := grTo_lt b hk1
      have hTo : (∃ row, IsL (llAt x (k : Int)) row ∧ row = getLL b (k : Int) ∧ k < b.length) ∨ ¬ k < b.length := by
        by_cases h : k < b.length
        · left; exact ⟨_, hx.at (i := (k : Int)) ⟨by omega, by omega⟩, rfl, h⟩
        · right; exact h
      have hgt : grTo b k = if k < b.length ∧ k < (getLL b (k : Int)).length then modN ((modN (getI (getLL b (k : Int)) (k : Int)) k : Nat) + (k : Int) - 1) k else k - 1 := rfl
      have e49a := fun H => e49 (getI (getLL b (k : Int)) (k : Int)) k (by omega) (by omega) H
      have e49b := fun H => e49 ((modN (getI (getLL b (k : Int)) (k : Int)) k : Nat) + (k : Int) - 1) k (by omega) (by omega) H
      have hmk := modN_lt (getI (getLL b (k : Int)) (k : Int)) (n := k) (by omega)
      have hgx : ∀ j : Nat, grX0 b k j = if k < b.length ∧ j < (getLL b (k : Int)).length then ((modN (getI (getLL b (k : Int)) (j : Int)) 4 : Nat) : Int) else 0 := fun _ => rfl
      have hgX : ∀ j, grX b k j = if j = grTo b k then (if 1 > grX0 b k j then 1 else grX0 b k j) else grX0 b k j := fun _ => rfl
      generalize hT : grTo b k = T at *
      have key : ∀ (env : Env), True := fun _ => trivial
      by_cases hin : k < b.length ∧ k < (getLL b (k : Int)).length
      · rw [if_pos hin] at hgt
        have hrowk := hx.at (i := (k : Int)) ⟨by omega, by omega⟩
        rw [← hgt] at e49b
        have fr := hrowk.free
        generalize modN (getI (getLL b (k : Int)) (k : Int)) k = M1 at *
        repeat' first
 | (apply s_mov; exact aW)
 | (apply s_gT; exact rfl)
 | (apply c_nil)
 | (apply s_pickT; exact rfl; exact aW)
 | (apply s_lss; exact rfl; all_goals (intro _; try (exfalso; omega)))
 | (apply s_add; exact rfl; omega)
 | (apply s_sub; exact rfl; omega)
 | (apply s_pn; exact aO; exact lx _)
 | (apply s_cn; exact aO; exact e49a _)
 | (apply s_cn; exact aO; exact e49b _)
 | (apply s_len; exact aW; exact aI)
 | (apply s_idx; exact aW; exact rfl; exact aI; omega)
 | (apply s_idxLL; exact aW; exact rfl; assumption; omega)
 | (apply s_ldI; exact rfl; omega)
 | (apply s_ldLL; exact rfl; assumption; omega)
 | (apply c_seq)
 | (apply c_reg)
 | (apply c_block)
 | (apply c_skip)
 | (apply c_condT; exact rfl)
 | (with_reducible apply k_c)
        all_goals try (exfalso; omega)
        refine c_loop ?_
        refine loop_gc (σ := Nat × List (List Int)) (fun p => [x, .int .i64 (i : Int), .sl 0 1 0 i, .int .i64 (k : Int), .int .i64 (T : Int), .int .i64 (p.1 : Int)]) (fun p => HB i p.2) (fun p => p.1 ≤ k ∧ Rows i p.2 ∧ ∀ u v : Nat, u < i → v < i → getI (getLL p.2 (u : Int)) (v : Int) = atIJ b k p.1 u v) (fun p => k - p.1) ?_ _ (0, rows) _ _ ⟨by dsimp only; omega, hrows, hent⟩ (by show k - 0 < _; omega) (by
          have h := hg [.int .i64 (k : Int), .int .i64 (T : Int), .int .i64 0] rfl rows hrows
          exact h)
        intro ⟨j, rows⟩ ⟨hj, hrows, hent⟩ K3 hK3
        dsimp only at hj hrows hent hK3 ⊢
        by_cases hjk : j < k
        · have hij : j < i := by omega
          have e49c := fun H => e49 (getI (getLL b (k : Int)) (j : Int)) 4 (by omega) (by omega) H
          have hm4 := modN_lt (getI (getLL b (k : Int)) (j : Int)) (n := 4) (by omega)
          have hx0 := hgx j
          have hX := hgX j
          have ld1 := hb_ld hrows hki
          have st1 := fun (v : Int) call => hb_st (call := call) (x := v) hrows hki hij
          have hr1 := fun (v : Int) => setLL_rows (j := j) (x := v) hrows hki
          have ld2 := fun (v : Int) => hb_ld (hr1 v) hij
          have st2 := fun (v : Int) call => hb_st (call := call) (x := v) (hr1 v) hij hki
          have hr2 := fun (v : Int) => setLL_rows (j := k) (x := v) (hr1 v) hij
          have hnext : ∀ z : Int, z = grX b k j → ∀ u v : Nat, u < i → v < i → getI (getLL (setLL (setLL rows k j z) j k z) (u : Int)) (v : Int) = atIJ b k (j + 1) u v := fun z hz u v hu hv => by
            rw [setLL_get (hr1 z) hij hki, setLL_get hrows hki hij, hent u v hu hv]
            unfold atIJ
            by_cases c1 : u = j ∧ v = k
            · rw [if_pos c1, if_pos (by omega), hz]
              unfold grE
              rw [c1.1, c1.2, if_neg (by omega), if_pos hjk]
            · rw [if_neg c1]
              by_cases c2 : u = k ∧ v = j
              · rw [if_pos c2, if_pos (by omega), hz]
                unfold grE
                rw [c2.1, c2.2, if_pos hjk]
              · rw [if_neg c2]
                by_cases c3 : u < k ∧ v < k ∨ u = k ∧ v < j ∨ v = k ∧ u < j
                · rw [if_pos c3, if_pos (by omega)]
                · rw [if_neg c3, if_neg (by omega)]
          have hK31 := fun z : Int => hK3 (j + 1, setLL (setLL rows k j z) j k z)
          dsimp only at hK31
          have hgc := fun z : Int => hg [.int .i64 (k : Int), .int .i64 (T : Int), .int .i64 ((j + 1 : Nat) : Int)] rfl _ (hr2 z)
          by_cases hjr : j < (getLL b (k : Int)).length
          · rw [if_pos ⟨hin.1, hjr⟩] at hx0
            by_cases hjT : j = T
            · rw [if_pos hjT] at hX
              repeat' first
 | (apply s_mov; exact aW)
 | (apply s_gT; exact rfl)
 | (apply c_nil)
 | (apply s_pickT; exact rfl; exact aW)
 | (apply s_lss; exact rfl; all_goals (intro _; try (exfalso; omega)))
 | (apply s_eql; exact rfl; all_goals (intro _; try (exfalso; omega)))
 | (apply s_add; exact rfl; omega)
 | (apply s_pn; exact aO; exact lx _)
 | (apply s_cn; exact aO; exact e49c _)
 | (apply s_pn; exact aO; exact p_ixO hki)
 | (apply s_pn; exact aO; exact p_ixO hij)
 | (apply s_pn; exact aO; exact ld1)
 | (apply s_pn; exact aO; exact ld2 _)
 | (apply s_st; exact aO; exact st1 _ _)
 | (apply s_st; exact aO; exact st2 _ _)
 | (apply s_len; exact aW; exact aI)
 | (apply s_idx; exact aW; exact rfl; exact aI; omega)
 | (apply s_idxLL; exact aW; exact rfl; assumption; omega)
 | (apply s_mx; exact rfl; exact rfl)
 | (apply s_ldI; exact rfl; omega)
 | (apply s_ldLL; exact rfl; assumption; omega)
 | (apply c_seq)
 | (apply c_reg)
 | (apply c_block)
 | (apply c_skip)
 | (apply c_condT; exact rfl)
 | (with_reducible apply k_c)
              all_goals first
                | (exfalso; omega)
                | (refine hK31 _ _ _ ⟨by omega, hr2 _, hnext _ ?_⟩ (by omega) (hgc _)
                   rw [hX, hx0])
            · rw [if_neg hjT] at hX
              repeat' first
 | (apply s_mov; exact aW)
 | (apply s_gT; exact rfl)
 | (apply c_nil)
 | (apply s_pickT; exact rfl; exact aW)
 | (apply s_lss; exact rfl; all_goals (intro _; try (exfalso; omega)))
 | (apply s_eql; exact rfl; all_goals (intro _; try (exfalso; omega)))
 | (apply s_add; exact rfl; omega)
 | (apply s_pn; exact aO; exact lx _)
 | (apply s_cn; exact aO; exact e49c _)
 | (apply s_pn; exact aO; exact p_ixO hki)
 | (apply s_pn; exact aO; exact p_ixO hij)
 | (apply s_pn; exact aO; exact ld1)
 | (apply s_pn; exact aO; exact ld2 _)
 | (apply s_st; exact aO; exact st1 _ _)
 | (apply s_st; exact aO; exact st2 _ _)
 | (apply s_len; exact aW; exact aI)
 | (apply s_idx; exact aW; exact rfl; exact aI; omega)
 | (apply s_idxLL; exact aW; exact rfl; assumption; omega)
 | (apply s_ldI; exact rfl; omega)
 | (apply s_ldLL; exact rfl; assumption; omega)
 | (apply c_seq)
 | (apply c_reg)
 | (apply c_block)
 | (apply c_skip)
 | (apply c_condT; exact rfl)
 | (apply c_condF; exact rfl)
 | (with_reducible apply k_c)
              all_goals first
                | (exfalso; omega)
                | (refine hK31 _ _ _ ⟨by omega, hr2 _, hnext _ ?_⟩ (by omega) (hgc _)
                   rw [hX, hx0])
          · rw [if_neg (fun h => hjr h.2)] at hx0
            by_cases hjT : j = T
            · rw [if_pos hjT] at hX
              repeat' first
 | (apply s_mov; exact aW)
 | (apply s_lss; exact rfl; all_goals (intro _; try (exfalso; omega)))
 | (apply c_seq)
 | (apply c_reg)
              all_goals first
                | (exfalso; omega)
                | (refine hK31 _ _ _ ⟨by omega, hr2 _, hnext _ ?_⟩ (by omega) (hgc _)
                   rw [hX, hx0])
            · rw [if_neg hjT] at hX
              repeat' first
 | (apply s_mov; exact aW)
 | (apply s_lss; exact rfl; all_goals (intro _; try (exfalso; omega)))
 | (apply c_seq)
 | (apply c_reg)
              all_goals first
                | (exfalso; omega)
                | (refine hK31 _ _ _ ⟨by omega, hr2 _, hnext _ ?_⟩ (by omega) (hgc _)
                   rw [hX, hx0])
        · obtain rfl : j = k := by omega
          repeat' first
 | (apply s_mov; exact aW)
 | (apply c_nil)
 | (apply s_lss; exact rfl; all_goals (intro _; try (exfalso; omega)))
 | (apply c_seq)
 | (apply c_reg)
 | (apply c_exitH)
 | (apply c_condF; exact rfl)
 | (with_reducible apply k_c)
          all_goals try (exfalso; omega)
          apply c_pre
          · exact hg [.int .i64 (j : Int)] rfl rows hrows
          repeat' first
 | (apply s_mov; exact aW)
 | (apply c_nil)
 | (apply s_add; exact rfl; omega)
 | (apply c_reg)
          refine hK2 (j + 1, rows) _ _ ⟨by dsimp only; omega, by dsimp only; omega, hrows, fun u v hu hv => ?_⟩ (by show i - (j + 1) < _; omega) (hg [.int .i64 ((j + 1 : Nat) : Int)] rfl rows hrows)
          dsimp only
          rw [hent u v hu hv]
          unfold atIJ
          by_cases c3 : u < j ∧ v < j ∨ u = j ∧ v < j ∨ v = j ∧ u < j
          · rw [if_pos c3, if_pos (by omega)]
          · rw [if_neg c3]
            by_cases c4 : u = j ∧ v = j
            · rw [if_pos (by omega)]; unfold grE; rw [if_neg (by omega), if_neg (by omega)]
            · rw [if_neg (by omega)]
      · rw [if_neg hin] at hgt
        have hTk : (T : Int) = (k : Int) - 1 := by omega
        by_cases hkb : k < b.length
        · have hrowk := hx.at (i := (k : Int)) ⟨by omega, by omega⟩
          repeat' first
 | (apply s_mov; exact aW)
 | (apply s_gT; exact rfl)
 | (apply c_nil)
 | (apply s_pickT; exact rfl; exact aW)
 | (apply s_lss; exact rfl; all_goals (intro _; try (exfalso; omega)))
 | (apply s_sub; exact rfl; omega)
 | (apply s_pn; exact aO; exact lx _)
 | (apply s_len; exact aW; exact aI)
 | (apply s_idxLL; exact aW; exact rfl; assumption; omega)
 | (apply s_ldLL; exact rfl; assumption; omega)
 | (apply c_seq)
 | (apply c_reg)
 | (apply c_block)
 | (apply c_skip)
 | (apply c_condT; exact rfl)
 | (apply c_condF; exact rfl)
 | (with_reducible apply k_c)
          all_goals try (exfalso; omega)
          refine c_loop ?_
          refine loop_gc (σ := Nat × List (List Int)) (fun p => [x, .int .i64 (i : Int), .sl 0 1 0 i, .int .i64 (k : Int), .int .i64 (T : Int), .int .i64 (p.1 : Int)]) (fun p => HB i p.2) (fun p => p.1 ≤ k ∧ Rows i p.2 ∧ ∀ u v : Nat, u < i → v < i → getI (getLL p.2 (u : Int)) (v : Int) = atIJ b k p.1 u v) (fun p => k - p.1) ?_ _ (0, rows) _ _ ⟨by dsimp only; omega, hrows, hent⟩ (by show k - 0 < _; omega) (by
            have h := hg [.int .i64 (k : Int), .int .i64 (T : Int), .int .i64 0] rfl rows hrows
            rw [hTk] at h ⊢
            exact h)
          intro ⟨j, rows⟩ ⟨hj, hrows, hent⟩ K3 hK3
          dsimp only at hj hrows hent hK3 ⊢
          by_cases hjk : j < k
          · have hij : j < i := by omega
            have e49c := fun H => e49 (getI (getLL b (k : Int)) (j : Int)) 4 (by omega) (by omega) H
            have hm4 := modN_lt (getI (getLL b (k : Int)) (j : Int)) (n := 4) (by omega)
            have hx0 := hgx j
            have hX := hgX j
            have ld1 := hb_ld hrows hki
            have st1 := fun (v : Int) call => hb_st (call := call) (x := v) hrows hki hij
            have hr1 := fun (v : Int) => setLL_rows (j := j) (x := v) hrows hki
            have ld2 := fun (v : Int) => hb_ld (hr1 v) hij
            have st2 := fun (v : Int) call => hb_st (call := call) (x := v) (hr1 v) hij hki
            have hr2 := fun (v : Int) => setLL_rows (j := k) (x := v) (hr1 v) hij
            have hnext : ∀ z : Int, z = grX b k j → ∀ u v : Nat, u < i → v < i → getI (getLL (setLL (setLL rows k j z) j k z) (u : Int)) (v : Int) = atIJ b k (j + 1) u v := fun z hz u v hu hv => by
              rw [setLL_get (hr1 z) hij hki, setLL_get hrows hki hij, hent u v hu hv]
              unfold atIJ
              by_cases c1 : u = j ∧ v = k
              · rw [if_pos c1, if_pos (by omega), hz]
                unfold grE
                rw [c1.1, c1.2, if_neg (by omega), if_pos hjk]
              · rw [if_neg c1]
                by_cases c2 : u = k ∧ v = j
                · rw [if_pos c2, if_pos (by omega), hz]
                  unfold grE
                  rw [c2.1, c2.2, if_pos hjk]
                · rw [if_neg c2]
                  by_cases c3 : u < k ∧ v < k ∨ u = k ∧ v < j ∨ v = k ∧ u < j
                  · rw [if_pos c3, if_pos (by omega)]
                  · rw [if_neg c3, if_neg (by omega)]
            have hK31 := fun z : Int => hK3 (j + 1, setLL (setLL rows k j z) j k z)
            dsimp only at hK31
            have hgc := fun z : Int => hg [.int .i64 (k : Int), .int .i64 (T : Int), .int .i64 ((j + 1 : Nat) : Int)] rfl _ (hr2 z)
            by_cases hjr : k < b.length ∧ j < (getLL b (k : Int)).length
            · have hrowk := hx.at (i := (k : Int)) ⟨by omega, by omega⟩
              rw [if_pos hjr] at hx0
              by_cases hjT : j = T
              · rw [if_pos hjT] at hX
                repeat' first
 | (apply s_mov; exact aW)
 | (apply s_gT; exact rfl)
 | (apply c_nil)
 | (apply s_pickT; exact rfl; exact aW)
 | (apply s_lss; exact rfl; all_goals (intro _; try (exfalso; omega)))
 | (apply s_eql; exact rfl; all_goals (intro _; try (exfalso; omega)))
 | (apply s_add; exact rfl; omega)
 | (apply s_pn; exact aO; exact lx _)
 | (apply s_cn; exact aO; exact e49c _)
 | (apply s_pn; exact aO; exact p_ixO hki)
 | (apply s_pn; exact aO; exact p_ixO hij)
 | (apply s_pn; exact aO; exact ld1)
 | (apply s_pn; exact aO; exact ld2 _)
 | (apply s_st; exact aO; exact st1 _ _)
 | (apply s_st; exact aO; exact st2 _ _)
 | (apply s_len; exact aW; exact aI)
 | (apply s_idx; exact aW; exact rfl; exact aI; omega)
 | (apply s_idxLL; exact aW; exact rfl; assumption; omega)
 | (apply s_mx; exact rfl; exact rfl)
 | (apply s_ldI; exact rfl; omega)
 | (apply s_ldLL; exact rfl; assumption; omega)
 | (apply c_seq)
 | (apply c_reg)
 | (apply c_block)
 | (apply c_skip)
 | (apply c_condT; exact rfl)
 | (with_reducible apply k_c)
                all_goals first
                  | (exfalso; omega)
                  | (refine hK31 _ _ _ ⟨by omega, hr2 _, hnext _ ?_⟩ (by omega) (hgc _)
                     rw [hX, hx0])
              · rw [if_neg hjT] at hX
                repeat' first
 | (apply s_mov; exact aW)
 | (apply s_gT; exact rfl)
 | (apply c_nil)
 | (apply s_pickT; exact rfl; exact aW)
 | (apply s_lss; exact rfl; all_goals (intro _; try (exfalso; omega)))
 | (apply s_eql; exact rfl; all_goals (intro _; try (exfalso; omega)))
 | (apply s_add; exact rfl; omega)
 | (apply s_pn; exact aO; exact lx _)
 | (apply s_cn; exact aO; exact e49c _)
 | (apply s_pn; exact aO; exact p_ixO hki)
 | (apply s_pn; exact aO; exact p_ixO hij)
 | (apply s_pn; exact aO; exact ld1)
 | (apply s_pn; exact aO; exact ld2 _)
 | (apply s_st; exact aO; exact st1 _ _)
 | (apply s_st; exact aO; exact st2 _ _)
 | (apply s_len; exact aW; exact aI)
 | (apply s_idx; exact aW; exact rfl; exact aI; omega)
 | (apply s_idxLL; exact aW; exact rfl; assumption; omega)
 | (apply s_ldI; exact rfl; omega)
 | (apply s_ldLL; exact rfl; assumption; omega)
 | (apply c_seq)
 | (apply c_reg)
 | (apply c_block)
 | (apply c_skip)
 | (apply c_condT; exact rfl)
 | (apply c_condF; exact rfl)
 | (with_reducible apply k_c)
                all_goals first
                  | (exfalso; omega)
                  | (refine hK31 _ _ _ ⟨by omega, hr2 _, hnext _ ?_⟩ (by omega) (hgc _)
                     rw [hX, hx0])
            · rw [if_neg hjr] at hx0
              by_cases hkb : k < b.length
              · have hrowk := hx.at (i := (k : Int)) ⟨by omega, by omega⟩
                by_cases hjT : j = T
                · rw [if_pos hjT] at hX
                  repeat' first
 | (apply s_mov; exact aW)
 | (apply s_gT; exact rfl)
 | (apply c_nil)
 | (apply s_pickT; exact rfl; exact aW)
 | (apply s_lss; exact rfl; all_goals (intro _; try (exfalso; omega)))
 | (apply s_eql; exact rfl; all_goals (intro _; try (exfalso; omega)))
 | (apply s_add; exact rfl; omega)
 | (apply s_pn; exact aO; exact lx _)
 | (apply s_pn; exact aO; exact p_ixO hki)
 | (apply s_pn; exact aO; exact p_ixO hij)
 | (apply s_pn; exact aO; exact ld1)
 | (apply s_pn; exact aO; exact ld2 _)
 | (apply s_st; exact aO; exact st1 _ _)
 | (apply s_st; exact aO; exact st2 _ _)
 | (apply s_len; exact aW; exact aI)
 | (apply s_idxLL; exact aW; exact rfl; assumption; omega)
 | (apply s_mx; exact rfl; exact rfl)
 | (apply s_ldLL; exact rfl; assumption; omega)
 | (apply c_seq)
 | (apply c_reg)
 | (apply c_block)
 | (apply c_skip)
 | (apply c_condT; exact rfl)
 | (apply c_condF; exact rfl)
 | (with_reducible apply k_c)
                  all_goals first
                    | (exfalso; omega)
                    | (refine hK31 _ _ _ ⟨by omega, hr2 _, hnext _ ?_⟩ (by omega) (hgc _)
                       rw [hX, hx0])
                · rw [if_neg hjT] at hX
                  repeat' first
 | (apply s_mov; exact aW)
 | (apply s_gT; exact rfl)
 | (apply c_nil)
 | (apply s_pickT; exact rfl; exact aW)
 | (apply s_lss; exact rfl; all_goals (intro _; try (exfalso; omega)))
 | (apply s_eql; exact rfl; all_goals (intro _; try (exfalso; omega)))
 | (apply s_add; exact rfl; omega)
 | (apply s_pn; exact aO; exact lx _)
 | (apply s_pn; exact aO; exact p_ixO hki)
 | (apply s_pn; exact aO; exact p_ixO hij)
 | (apply s_pn; exact aO; exact ld1)
 | (apply s_pn; exact aO; exact ld2 _)
 | (apply s_st; exact aO; exact st1 _ _)
 | (apply s_st; exact aO; exact st2 _ _)
 | (apply s_len; exact aW; exact aI)
 | (apply s_idxLL; exact aW; exact rfl; assumption; omega)
 | (apply s_ldLL; exact rfl; assumption; omega)
 | (apply c_seq)
 | (apply c_reg)
 | (apply c_block)
 | (apply c_skip)
 | (apply c_condT; exact rfl)
 | (apply c_condF; exact rfl)
 | (with_reducible apply k_c)
                  all_goals first
                    | (exfalso; omega)
                    | (refine hK31 _ _ _ ⟨by omega, hr2 _, hnext _ ?_⟩ (by omega) (hgc _)
                       rw [hX, hx0])
              · skip
                by_cases hjT : j = T
                · rw [if_pos hjT] at hX
                  repeat' first
 | (apply s_mov; exact aW)
 | (apply s_lss; exact rfl; all_goals (intro _; try (exfalso; omega)))
 | (apply c_seq)
 | (apply c_reg)
                  all_goals first
                    | (exfalso; omega)
                    | (refine hK31 _ _ _ ⟨by omega, hr2 _, hnext _ ?_⟩ (by omega) (hgc _)
                       rw [hX, hx0])
                · rw [if_neg hjT] at hX
                  repeat' first
 | (apply s_mov; exact aW)
 | (apply s_lss; exact rfl; all_goals (intro _; try (exfalso; omega)))
 | (apply c_seq)
 | (apply c_reg)
                  all_goals first
                    | (exfalso; omega)
                    | (refine hK31 _ _ _ ⟨by omega, hr2 _, hnext _ ?_⟩ (by omega) (hgc _)
                       rw [hX, hx0])
          · obtain rfl : j = k := by omega
            repeat' first
 | (apply s_mov; exact aW)
 | (apply c_nil)
 | (apply s_lss; exact rfl; all_goals (intro _; try (exfalso; omega)))
 | (apply c_seq)
 | (apply c_reg)
 | (apply c_exitH)
 | (apply c_condF; exact rfl)
 | (with_reducible apply k_c)
            all_goals try (exfalso; omega)
            apply c_pre
            · exact hg [.int .i64 (j : Int)] rfl rows hrows
            repeat' first
 | (apply s_mov; exact aW)
 | (apply c_nil)
 | (apply s_add; exact rfl; omega)
 | (apply c_reg)
            refine hK2 (j + 1, rows) _ _ ⟨by dsimp only; omega, by dsimp only; omega, hrows, fun u v hu hv => ?_⟩ (by show i - (j + 1) < _; omega) (hg [.int .i64 ((j + 1 : Nat) : Int)] rfl rows hrows)
            dsimp only
            rw [hent u v hu hv]
            unfold atIJ
            by_cases c3 : u < j ∧ v < j ∨ u = j ∧ v < j ∨ v = j ∧ u < j
            · rw [if_pos c3, if_pos (by omega)]
            · rw [if_neg c3]
              by_cases c4 : u = j ∧ v = j
              · rw [if_pos (by omega)]; unfold grE; rw [if_neg (by omega), if_neg (by omega)]
              · rw [if_neg (by omega)]
        · skip
          repeat' first
 | (apply s_mov; exact aW)
 | (apply s_gF; exact rfl)
 | (apply c_nil)
 | (apply s_pickF; exact rfl; exact aW)
 | (apply s_lss; exact rfl; all_goals (intro _; try (exfalso; omega)))
 | (apply s_sub; exact rfl; omega)
 | (apply s_pn; exact aO; exact lx _)
 | (apply c_seq)
 | (apply c_reg)
 | (apply c_block)
 | (apply c_skip)
 | (apply c_condT; exact rfl)
 | (apply c_condF; exact rfl)
 | (with_reducible apply k_c)
          all_goals try (exfalso; omega)
          refine c_loop ?_
          refine loop_gc (σ := Nat × List (List Int)) (fun p => [x, .int .i64 (i : Int), .sl 0 1 0 i, .int .i64 (k : Int), .int .i64 (T : Int), .int .i64 (p.1 : Int)]) (fun p => HB i p.2) (fun p => p.1 ≤ k ∧ Rows i p.2 ∧ ∀ u v : Nat, u < i → v < i → getI (getLL p.2 (u : Int)) (v : Int) = atIJ b k p.1 u v) (fun p => k - p.1) ?_ _ (0, rows) _ _ ⟨by dsimp only; omega, hrows, hent⟩ (by show k - 0 < _; omega) (by
            have h := hg [.int .i64 (k : Int), .int .i64 (T : Int), .int .i64 0] rfl rows hrows
            rw [hTk] at h ⊢
            exact h)
          intro ⟨j, rows⟩ ⟨hj, hrows, hent⟩ K3 hK3
          dsimp only at hj hrows hent hK3 ⊢
          by_cases hjk : j < k
          · have hij : j < i := by omega
            have e49c := fun H => e49 (getI (getLL b (k : Int)) (j : Int)) 4 (by omega) (by omega) H
            have hm4 := modN_lt (getI (getLL b (k : Int)) (j : Int)) (n := 4) (by omega)
            have hx0 := hgx j
            have hX := hgX j
            have ld1 := hb_ld hrows hki
            have st1 := fun (v : Int) call => hb_st (call := call) (x := v) hrows hki hij
            have hr1 := fun (v : Int) => setLL_rows (j := j) (x := v) hrows hki
            have ld2 := fun (v : Int) => hb_ld (hr1 v) hij
            have st2 := fun (v : Int) call => hb_st (call := call) (x := v) (hr1 v) hij hki
            have hr2 := fun (v : Int) => setLL_rows (j := k) (x := v) (hr1 v) hij
            have hnext : ∀ z : Int, z = grX b k j → ∀ u v : Nat, u < i → v < i → getI (getLL (setLL (setLL rows k j z) j k z) (u : Int)) (v : Int) = atIJ b k (j + 1) u v := fun z hz u v hu hv => by
              rw [setLL_get (hr1 z) hij hki, setLL_get hrows hki hij, hent u v hu hv]
              unfold atIJ
              by_cases c1 : u = j ∧ v = k
              · rw [if_pos c1, if_pos (by omega), hz]
                unfold grE
                rw [c1.1, c1.2, if_neg (by omega), if_pos hjk]
              · rw [if_neg c1]
                by_cases c2 : u = k ∧ v = j
                · rw [if_pos c2, if_pos (by omega), hz]
                  unfold grE
                  rw [c2.1, c2.2, if_pos hjk]
                · rw [if_neg c2]
                  by_cases c3 : u < k ∧ v < k ∨ u = k ∧ v < j ∨ v = k ∧ u < j
                  · rw [if_pos c3, if_pos (by omega)]
                  · rw [if_neg c3, if_neg (by omega)]
            have hK31 := fun z : Int => hK3 (j + 1, setLL (setLL rows k j z) j k z)
            dsimp only at hK31
            have hgc := fun z : Int => hg [.int .i64 (k : Int), .int .i64 (T : Int), .int .i64 ((j + 1 : Nat) : Int)] rfl _ (hr2 z)
            by_cases hjr : k < b.length ∧ j < (getLL b (k : Int)).length
            · have hrowk := hx.at (i := (k : Int)) ⟨by omega, by omega⟩
              rw [if_pos hjr] at hx0
              by_cases hjT : j = T
              · rw [if_pos hjT] at hX
                repeat' first
 | (apply s_mov; exact aW)
 | (apply s_lss; exact rfl; all_goals (intro _; try (exfalso; omega)))
 | (apply c_seq)
 | (apply c_reg)
                all_goals first
                  | (exfalso; omega)
                  | (refine hK31 _ _ _ ⟨by omega, hr2 _, hnext _ ?_⟩ (by omega) (hgc _)
                     rw [hX, hx0])
              · rw [if_neg hjT] at hX
                repeat' first
 | (apply s_mov; exact aW)
 | (apply s_lss; exact rfl; all_goals (intro _; try (exfalso; omega)))
 | (apply c_seq)
 | (apply c_reg)
                all_goals first
                  | (exfalso; omega)
                  | (refine hK31 _ _ _ ⟨by omega, hr2 _, hnext _ ?_⟩ (by omega) (hgc _)
                     rw [hX, hx0])
            · rw [if_neg hjr] at hx0
              by_cases hkb : k < b.length
              · have hrowk := hx.at (i := (k : Int)) ⟨by omega, by omega⟩
                by_cases hjT : j = T
                · rw [if_pos hjT] at hX
                  repeat' first
 | (apply s_mov; exact aW)
 | (apply s_lss; exact rfl; all_goals (intro _; try (exfalso; omega)))
 | (apply c_seq)
 | (apply c_reg)
                  all_goals first
                    | (exfalso; omega)
                    | (refine hK31 _ _ _ ⟨by omega, hr2 _, hnext _ ?_⟩ (by omega) (hgc _)
                       rw [hX, hx0])
                · rw [if_neg hjT] at hX
                  repeat' first
 | (apply s_mov; exact aW)
 | (apply s_lss; exact rfl; all_goals (intro _; try (exfalso; omega)))
 | (apply c_seq)
 | (apply c_reg)
                  all_goals first
                    | (exfalso; omega)
                    | (refine hK31 _ _ _ ⟨by omega, hr2 _, hnext _ ?_⟩ (by omega) (hgc _)
                       rw [hX, hx0])
              · skip
                by_cases hjT : j = T
                · rw [if_pos hjT] at hX
                  repeat' first
 | (apply s_mov; exact aW)
 | (apply s_gF; exact rfl)
 | (apply c_nil)
 | (apply s_pickF; exact rfl; exact aW)
 | (apply s_lss; exact rfl; all_goals (intro _; try (exfalso; omega)))
 | (apply s_eql; exact rfl; all_goals (intro _; try (exfalso; omega)))
 | (apply s_add; exact rfl; omega)
 | (apply s_pn; exact aO; exact lx _)
 | (apply s_pn; exact aO; exact p_ixO hki)
 | (apply s_pn; exact aO; exact p_ixO hij)
 | (apply s_pn; exact aO; exact ld1)
 | (apply s_pn; exact aO; exact ld2 _)
 | (apply s_st; exact aO; exact st1 _ _)
 | (apply s_st; exact aO; exact st2 _ _)
 | (apply s_mx; exact rfl; exact rfl)
 | (apply c_seq)
 | (apply c_reg)
 | (apply c_block)
 | (apply c_skip)
 | (apply c_condT; exact rfl)
 | (apply c_condF; exact rfl)
 | (with_reducible apply k_c)
                  all_goals first
                    | (exfalso; omega)
                    | (refine hK31 _ _ _ ⟨by omega, hr2 _, hnext _ ?_⟩ (by omega) (hgc _)
                       rw [hX, hx0])
                · rw [if_neg hjT] at hX
                  repeat' first
 | (apply s_mov; exact aW)
 | (apply s_gF; exact rfl)
 | (apply c_nil)
 | (apply s_pickF; exact rfl; exact aW)
 | (apply s_lss; exact rfl; all_goals (intro _; try (exfalso; omega)))
 | (apply s_eql; exact rfl; all_goals (intro _; try (exfalso; omega)))
 | (apply s_add; exact rfl; omega)
 | (apply s_pn; exact aO; exact lx _)
 | (apply s_pn; exact aO; exact p_ixO hki)
 | (apply s_pn; exact aO; exact p_ixO hij)
 | (apply s_pn; exact aO; exact ld1)
 | (apply s_pn; exact aO; exact ld2 _)
 | (apply s_st; exact aO; exact st1 _ _)
 | (apply s_st; exact aO; exact st2 _ _)
 | (apply c_seq)
 | (apply c_reg)
 | (apply c_block)
 | (apply c_skip)
 | (apply c_condT; exact rfl)
 | (apply c_condF; exact rfl)
 | (with_reducible apply k_c)
                  all_goals first
                    | (exfalso; omega)
                    | (refine hK31 _ _ _ ⟨by omega, hr2 _, hnext _ ?_⟩ (by omega) (hgc _)
                       rw [hX, hx0])
          · obtain rfl : j = k := by omega
            repeat' first
 | (apply s_mov; exact aW)
 | (apply c_nil)
 | (apply s_lss; exact rfl; all_goals (intro _; try (exfalso; omega)))
 | (apply c_seq)
 | (apply c_reg)
 | (apply c_exitH)
 | (apply c_condF; exact rfl)
 | (with_reducible apply k_c)
            all_goals try (exfalso; omega)
            apply c_pre
            · exact hg [.int .i64 (j : Int)] rfl rows hrows
            repeat' first
 | (apply s_mov; exact aW)
 | (apply c_nil)
 | (apply s_add; exact rfl; omega)
 | (apply c_reg)
            refine hK2 (j + 1, rows) _ _ ⟨by dsimp only; omega, by dsimp only; omega, hrows, fun u v hu hv => ?_⟩ (by show i - (j + 1) < _; omega) (hg [.int .i64 ((j + 1 : Nat) : Int)] rfl rows hrows)
            dsimp only
            rw [hent u v hu hv]
            unfold atIJ
            by_cases c3 : u < j ∧ v < j ∨ u = j ∧ v < j ∨ v = j ∧ u < j
            · rw [if_pos c3, if_pos (by omega)]
            · rw [if_neg c3]
              by_cases c4 : u = j ∧ v = j
              · rw [if_pos (by omega)]; unfold grE; rw [if_neg (by omega), if_neg (by omega)]
              · rw [if_neg (by omega)]
    · obtain rfl : k = i := by omega
      have hGe : rows = G := by
        refine List.ext_getElem (by rw [hrows.len, hgrow.len]) fun u h1 h2 => ?_
        have hu : u < k := by rw [hrows.len] at h1; exact h1
        have a := hrows.get hu
        have c := hgrow.get hu
        have hall : getLL rows (u : Int) = getLL G (u : Int) := ext_getI (by omega) fun v hv => by
          rw [hent u v hu (by omega), hgget hu (by omega)]
          unfold atIJ
          rw [if_pos (by omega)]
        rw [getLL_nat, getLL_nat] at hall
        simpa [List.getD, h1, h2] using hall
      subst hGe
      repeat' first
 | (apply s_mov; exact aW)
 | (apply c_nil)
 | (apply s_lss; exact rfl; all_goals (intro _; try (exfalso; omega)))
 | (apply c_seq)
 | (apply c_reg)
 | (apply c_exitH)
 | (apply c_condF; exact rfl)
 | (with_reducible apply k_c)
      all_goals try (exfalso; omega)
      apply c_pre
      · exact gcHB (pre := []) (gs := []) hrows (by omega) rfl (by simp) rfl
      repeat' first
 | (apply s_mov; exact aW)
 | (apply c_nil)
 | (apply c_seq)
 | (apply c_reg)
 | (apply c_ret)
 | (with_reducible apply k_c)
      have hfin := gcHB (pre := []) (gs := []) (M := k) hrows (by omega) rfl (by simp) rfl
      simp only [List.nil_append] at hfin
      simp [finish, ress, resOf, look, looks, bindEnv, tupOf, hfin]
end Go.AM.Ch
