/- A part of the proof: U53. -/
import Derived.Test.YtmegimhfoedcdaaU53a
set_option linter.unusedSectionVars false
set_option linter.unusedVariables false
set_option linter.unusedSimpArgs false
namespace Go.AM.Ch
set_option maxHeartbeats 8000000
theorem f34 {x : AV} {b : List (List Int)} {w : Nat} (hx : IsLL x b) (hb : b.length < 9223372036854775808) (hw : 1 ≤ w ∧ w ≤ 10) {m : Nat} (hm : 100 ≤ m) :
    evF tab it m 34 [x, .int .i64 (w : Int)] [] = some (.sl 0 1 0 (grN b w), HB (grN b w) (growL b w)) := by
  obtain ⟨m, rfl⟩ : ∃ j, m = j + 1 := ⟨m - 1, by omega⟩
  have fx := hx.free
  have hn := grN_le b hw.1
  have lx : ∀ H, evP H .len [x] = some (.int .i64 ((b.length : Nat) : Int)) := fun H => by cases hx <;> rfl
  have e49w := fun H => c49 (x := (b.length : Int) - 1) (n := w) (by omega) (by omega) (m := m) (by omega) H
  have hmod := modN_lt ((b.length : Int) - 1) (n := w) (by omega)
  have hNe : ((grN b w : Nat) : Int) = 1 + (modN ((b.length : Int) - 1) w : Nat) := by unfold grN; omega
  have e49 := fun (z : Int) (n : Nat) (h1 : 0 < n) (h2 : n < 9223372036854775808) H => c49 (x := z) h1 h2 (m := m) (by omega) H
  have hgrow := growL_rows b w
  have hgget := fun {p q : Nat} => growL_get (b := b) (w := w) (p := p) (q := q)
  generalize hG : growL b w = G at *
  generalize hn' : grN b w = n at *
  have mk := fun call H => @e_mkI call H n (by unfold most; omega)
  refine f_enter rfl rfl ?_
  generalize evF tab it m = call at *
  generalize modN ((b.length : Int) - 1) w = M0 at *
  have hHl : ∀ (k : Nat) (Z : List (List Int)), Z.length = k → (HB k Z).length = 1 + k := fun k Z hZ => by simp [HB, rowsH_length, hZ]; omega
  have bz : ∀ (a : Nat) H, evE call H (.bldB 1 1 [.nilS] [(0, 1)]) [.sl a 1 0 n] = some (.sl H.length 1 0 1, H ++ [some (.box [.sl a 1 0 n])]) := fun a H => e_bldB1 rfl rfl rfl
  have z0 : ∀ i j, j < n → getI (getLL (List.replicate n (List.replicate n (0 : Int))) ((i : Nat) : Int)) ((j : Nat) : Int) = 0 := fun i j hj => by
    rw [getLL_nat, getI_nat]
    by_cases h : i < n
    · simp [List.getD, h, hj]
    · simp [List.getD, h]
  have zR : Rows n (List.replicate n (List.replicate n (0 : Int))) := ⟨by simp, fun r hr => by rw [(List.mem_replicate.1 hr).2]; simp⟩
  skip
  repeat' first
 | (apply s_mov; (focus ((conv => lhs; whnf); done)))
 | (apply c_nil)
 | ((first | apply s_add | apply s_sub); exact rfl; omega)
 | (apply s_pn; (focus (repeat (first | apply opds_nil | (apply opds_cons; (first | (focus ((conv => lhs; whnf); done)) | exact rfl))))); exact lx _)
 | (apply s_cn; (focus (repeat (first | apply opds_nil | (apply opds_cons; (first | (focus ((conv => lhs; whnf); done)) | exact rfl))))); exact e49w _)
 | (apply c_seq)
 | (apply c_reg)
 | (apply c_block)
 | (with_reducible apply k_c)
  rw [← hNe]
  refine c_loop ?_
  refine loop_gc (σ := Nat) (fun i => [x, .int .i64 (n : Int), if i = 0 then .nilS else .sl 0 1 0 i, .int .i64 (i : Int)]) (fun i => if i = 0 then [] else HB i (List.replicate i (List.replicate n 0))) (fun i => i ≤ n) (fun i => n - i) ?_ _ 0 _ _ (by omega) (by omega) (by rw [if_pos rfl, if_pos rfl, hNe]; exact gc_to rfl (by simp [idFreeL, AV.idFree, *]; done))
  intro i hi K hK
  by_cases hin : i < n
  · have hK1 := hK (i + 1)
    rw [if_neg (show ¬ i + 1 = 0 by omega), if_neg (show ¬ i + 1 = 0 by omega)] at hK1
    by_cases h0 : i = 0
    · subst h0
      have app := e_appB_nil (call := call) (q := 24) (id := 1) (H := [some (.data (iL (List.replicate n 0))), some (.box [.sl 0 1 0 n])]) (cs := [.sl 0 1 0 n]) (n := 1) rfl rfl (by omega) (by decide)
      rw [if_pos rfl, if_pos rfl]
      repeat' first
 | (apply s_mov; (focus ((conv => lhs; whnf); done)))
 | (apply c_nil)
 | ((first | apply s_lss | apply s_leq | apply s_gtr | apply s_geq | apply s_eql | apply s_neq); exact rfl; all_goals (intro _; try (exfalso; omega)))
 | ((first | apply s_add | apply s_sub); exact rfl; omega)
 | (apply s_en; (focus (repeat (first | apply opds_nil | (apply opds_cons; (first | (focus ((conv => lhs; whnf); done)) | exact rfl))))); exact mk _ _)
 | (apply s_en; (focus (repeat (first | apply opds_nil | (apply opds_cons; (first | (focus ((conv => lhs; whnf); done)) | exact rfl))))); exact bz _ _)
 | (apply c_seq)
 | (apply c_reg)
 | (apply c_block)
 | (apply c_skip)
 | (apply c_condT; exact rfl)
 | (with_reducible apply k_c)
      all_goals try (exfalso; omega)
      refine hK1 _ _ (by omega) (by omega) ?_
      have hz := iL_len (List.replicate n 0)
      rw [List.length_replicate] at hz
      have hr : refs [0] [iL (List.replicate n 0)] = [.sl 0 1 0 n] := by simp [refs, hz]
      have := gcR (H := [some (.data (iL (List.replicate n 0))), some (.box [.sl 0 1 0 n]), some (.box [.sl 0 1 0 n])]) (pre := [x, .int .i64 (n : Int)]) (gs := [.int .i64 1]) (p := 2) (M := 1) (is := [0]) (R := [iL (List.replicate n 0)]) (by simp [idFreeL, AV.idFree, fx]) (by simp) rfl (by rw [hr]; rfl) rfl (fun j i l h1 h2 => by
        cases j with
        | zero => simp at h1 h2; subst h1; subst h2; rfl
        | succ j => simp at h1) (by simp) (by simp)
      exact this
    · rw [if_neg h0, if_neg h0]
      have hZl : (List.replicate i (List.replicate n (0 : Int))).length = i := by simp
      have hl1 := hHl i _ hZl
      have hz := iL_len (List.replicate n 0)
      rw [List.length_replicate] at hz
      have e1 : evE call (HB i (List.replicate i (List.replicate n 0))) (.mkS 1 8 [.int .i64 0]) [.int .i64 (n : Int), .int .i64 (n : Int)] = some (.sl (1 + i) 1 0 n, HB i (List.replicate i (List.replicate n 0)) ++ [some (.data (iL (List.replicate n 0)))]) := by rw [mk, hl1]
      have e2 : evE call (HB i (List.replicate i (List.replicate n 0)) ++ [some (.data (iL (List.replicate n 0)))]) (.bldB 1 1 [.nilS] [(0, 1)]) [.sl (1 + i) 1 0 n] = some (.sl (2 + i) 1 0 1, HB i (List.replicate i (List.replicate n 0)) ++ [some (.data (iL (List.replicate n 0))), some (.box [.sl (1 + i) 1 0 n])]) := by
        rw [bz]
        simp [hl1]
        omega
      have hR1 : (List.replicate (i + 1) (List.replicate n (0 : Int))).map iL = (List.replicate i (List.replicate n 0)).map iL ++ [iL (List.replicate n 0)] := by
        rw [List.replicate_succ', List.map_append]; rfl
      have hrf : refs (List.range' 1 (i + 1)) ((List.replicate (i + 1) (List.replicate n (0 : Int))).map iL) = refs (List.range' 1 i) ((List.replicate i (List.replicate n 0)).map iL) ++ [.sl (1 + i) 1 0 n] := by
        rw [hR1, show List.range' 1 (i + 1) = List.range' 1 i ++ [1 + i] by rw [List.range'_concat]; simp, refs_append (by simp)]
        simp [refs, hz]
      have e3 : evE call (HB i (List.replicate i (List.replicate n 0)) ++ [some (.data (iL (List.replicate n 0))), some (.box [.sl (1 + i) 1 0 n])]) (.appB 1 24) [.sl 0 1 0 i, .sl (2 + i) 1 0 1] = some (.sl (i + 1 + 1 + 1) 1 0 (i + 1), [none] ++ (rowsH ((List.replicate (i + 1) (List.replicate n (0 : Int))).map iL) ++ [some (.box [.sl (1 + i) 1 0 n]), some (.box (refs (List.range' 1 (i + 1)) ((List.replicate (i + 1) (List.replicate n (0 : Int))).map iL)))])) := by
        have hlen : (refs (List.range' 1 i) ((List.replicate i (List.replicate n (0 : Int))).map iL)).length = i := by rw [refs_length (by simp)]; simp
        have hc2 : Heap.cells? (HB i (List.replicate i (List.replicate n 0)) ++ [some (.data (iL (List.replicate n 0))), some (.box [.sl (1 + i) 1 0 n])]) (2 + i) = some [.sl (1 + i) 1 0 n] := by
          have : (HB i (List.replicate i (List.replicate n 0)) ++ [some (.data (iL (List.replicate n 0))), some (.box [.sl (1 + i) 1 0 n])])[2 + i]? = some (some (.box [.sl (1 + i) 1 0 n])) := by
            rw [List.getElem?_append_right (by omega), hl1, show 2 + i - (1 + i) = 1 by omega]; rfl
          exact cells?_iff.2 (.inr this)
        rw [e_appB_sl (call := call) (q := 24) (id := 0) (id2 := 2 + i) (n := 1) (k := i) (cs := refs (List.range' 1 i) ((List.replicate i (List.replicate n (0 : Int))).map iL)) (bs := [.sl (1 + i) 1 0 n]) (by rfl) hlen hc2 rfl (by omega) (by unfold most; omega), hrf, hR1]
        have hset : (HB i (List.replicate i (List.replicate n 0)) ++ [some (HO.data (iL (List.replicate n 0))), some (HO.box [.sl (1 + i) 1 0 n])]).set 0 none = [none] ++ (rowsH ((List.replicate i (List.replicate n (0 : Int))).map iL ++ [iL (List.replicate n 0)]) ++ [some (.box [.sl (1 + i) 1 0 n])]) := by
          rw [rowsH_append]
          simp [HB, rowsH]
        rw [hset]
        simp [rowsH_length]
      repeat' first
 | (apply s_mov; (focus ((conv => lhs; whnf); done)))
 | (apply c_nil)
 | ((first | apply s_lss | apply s_leq | apply s_gtr | apply s_geq | apply s_eql | apply s_neq); exact rfl; all_goals (intro _; try (exfalso; omega)))
 | ((first | apply s_add | apply s_sub); exact rfl; omega)
 | (apply s_en; (focus (repeat (first | apply opds_nil | (apply opds_cons; (first | (focus ((conv => lhs; whnf); done)) | exact rfl))))); exact e1)
 | (apply s_en; (focus (repeat (first | apply opds_nil | (apply opds_cons; (first | (focus ((conv => lhs; whnf); done)) | exact rfl))))); exact e2)
 | (apply s_en; (focus (repeat (first | apply opds_nil | (apply opds_cons; (first | (focus ((conv => lhs; whnf); done)) | exact rfl))))); exact e3)
 | (apply c_seq)
 | (apply c_reg)
 | (apply c_block)
 | (apply c_skip)
 | (apply c_condT; exact rfl)
 | (with_reducible apply k_c)
      all_goals try (exfalso; omega)
      refine hK1 _ _ (by omega) (by omega) ?_
      have hRl : ((List.replicate (i + 1) (List.replicate n (0 : Int))).map iL).length = i + 1 := by simp
      generalize (List.replicate (i + 1) (List.replicate n (0 : Int))) = Z at *
      have := gcR (pre := [x, .int .i64 (n : Int)]) (gs := [.int .i64 ((i : Int) + 1)]) (M := i + 1) (p := i + 1 + 1 + 1) (is := List.range' 1 (i + 1)) (R := Z.map iL) (H := [none] ++ (rowsH (Z.map iL) ++ [some (.box [.sl (1 + i) 1 0 n]), some (.box (refs (List.range' 1 (i + 1)) (Z.map iL)))])) (by simp [idFreeL, AV.idFree, fx]) (by simp) rfl (by rw [get_after [none] _ (s := 1) (q := i + 1) (c := 1) rfl hRl]; rfl) (by simp [hRl]) (rng_rows [none] _ rfl) (by simp [List.mem_range'_1, List.nodup_range']; omega) (by simp; omega)
      rw [show (List.range' 1 (i + 1)).length = i + 1 by simp] at this
      exact this
  · obtain rfl : i = n := by omega
    rw [if_neg (show ¬ i = 0 by omega), if_neg (show ¬ i = 0 by omega)]
    repeat' first
 | (apply s_mov; (focus ((conv => lhs; whnf); done)))
 | (apply c_nil)
 | ((first | apply s_lss | apply s_leq | apply s_gtr | apply s_geq | apply s_eql | apply s_neq); exact rfl; all_goals (intro _; try (exfalso; omega)))
 | (apply c_seq)
 | (apply c_reg)
 | (apply c_exitH)
 | (apply c_condF; exact rfl)
 | (with_reducible apply k_c)
    all_goals try (exfalso; omega)
    apply c_pre
    · exact gcHB (pre := [x, .int .i64 (i : Int)]) (gs := []) zR (by omega) (by simp [idFreeL, AV.idFree, fx]) (by simp) rfl
    repeat' first
 | (apply s_mov; (focus ((conv => lhs; whnf); done)))
 | (apply c_nil)
 | (apply c_seq)
 | (apply c_reg)
 | (apply c_block)
 | (with_reducible apply k_c)
    refine c_loop ?_
    refine loop_gc (σ := Nat × List (List Int)) (fun p => [x, .int .i64 (i : Int), .sl 0 1 0 i, .int .i64 (p.1 : Int)]) (fun p => HB i p.2) (fun p => 1 ≤ p.1 ∧ p.1 ≤ i ∧ Rows i p.2 ∧ ∀ u v : Nat, u < i → v < i → getI (getLL p.2 (u : Int)) (v : Int) = atIJ b p.1 0 u v) (fun p => i - p.1) ?_ _ (1, List.replicate i (List.replicate i 0)) _ _ ⟨by dsimp only; omega, by dsimp only; omega, zR, fun u v hu hv => by
      dsimp only
      rw [z0 u v hv]
      unfold atIJ grE
      by_cases hc : u < 1 ∧ v < 1 ∨ u = 1 ∧ v < 0 ∨ v = 1 ∧ u < 0
      · rw [if_pos hc, if_neg (by omega), if_neg (by omega)]
      · rw [if_neg hc]⟩ (by show i - 1 < _; omega) (gcHB (pre := [x, .int .i64 (i : Int)]) (gs := [.int .i64 1]) zR (by omega) (by simp [idFreeL, AV.idFree, fx]) (by simp) rfl)
    clear hK
    intro ⟨k, rows⟩ ⟨hk1, hkn, hrows, hent⟩ K2 hK2
    dsimp only at hk1 hkn hrows hent hK2 ⊢
    have hg := fun (gs : List AV) (h : idFreeL gs = true) (rows : List (List Int)) (hr : Rows i rows) => gcHB (pre := [x, .int .i64 (i : Int)]) (gs := gs) (M := i) hr (by omega) (by simp [idFreeL, AV.idFree, fx]) (by simp) h
    by_cases hki : k < i
    · have hto := grTo_lt b hk1
      have hTo : (∃ row, IsL (llAt x (k : Int)) row ∧ row = getLL b (k : Int) ∧ k < b.length) ∨ ¬ k < b.length := by
        by_cases h : k < b.length
        · left; exact ⟨_, hx.at (i := (k : Int)) ⟨by omega, by omega⟩, rfl, h⟩
        · right; exact h
      have hgt : grTo b k = if k < b.length ∧ k < (getLL b (k : Int)).length then modN ((modN (getI (getLL b (k : Int)) (k : Int)) k : Nat) + (k : Int) - 1) k else k - 1 := rfl
      have e49a := fun H => e49 (getI (getLL b (k : Int)) (k : Int)) k (by omega) (by omega) H
      have e49b := fun H => e49 ((modN (getI (getLL b (k : Int)) (k : Int)) k : Nat) + (k : Int) - 1) k (by omega) (by omega) H
      have hmk := modN_lt (getI (getLL b (k : Int)) (k : Int)) (n := k) (by omega)
      have hgx : ∀ j : Nat, grX0 b k j = if k < b.length ∧ j < (getLL b (k : Int)).length then ((modN (getI (getLL b (k : Int)) (j : Int)) 4 : Nat) : Int) else 0 := fun _ => rfl
      have hgX : ∀ j, grX b k j = if j = grTo b k then (if 1 > grX0 b k j then 1 else grX0 b k j) else grX0 b k j := fun _ => rfl
      generalize hT : grTo b k = T at *
      have key : ∀ (env : Env), True := fun _ => trivial
      by_cases hin : k < b.length ∧ k < (getLL b (k : Int)).length
      · rw [if_pos hin] at hgt
        have hrowk := hx.at (i := (k : Int)) ⟨by omega, by omega⟩
        rw [← hgt] at e49b
        have fr := hrowk.free
        generalize modN (getI (getLL b (k : Int)) (k : Int)) k = M1 at *
        repeat' first
 | (apply s_mov; (focus ((conv => lhs; whnf); done)))
 | (apply s_gT; exact rfl)
 | (apply c_nil)
 | (apply s_pickT; exact rfl; (focus ((conv => lhs; whnf); done)))
 | ((first | apply s_lss | apply s_leq | apply s_gtr | apply s_geq | apply s_eql | apply s_neq); exact rfl; all_goals (intro _; try (exfalso; omega)))
 | ((first | apply s_add | apply s_sub); exact rfl; omega)
 | (apply s_pn; (focus (repeat (first | apply opds_nil | (apply opds_cons; (first | (focus ((conv => lhs; whnf); done)) | exact rfl))))); exact lx _)
 | (apply s_cn; (focus (repeat (first | apply opds_nil | (apply opds_cons; (first | (focus ((conv => lhs; whnf); done)) | exact rfl))))); exact e49a _)
 | (apply s_cn; (focus (repeat (first | apply opds_nil | (apply opds_cons; (first | (focus ((conv => lhs; whnf); done)) | exact rfl))))); exact e49b _)
 | (apply s_len; (focus ((conv => lhs; whnf); done)); (first | assumption | (apply IsLL.at; assumption; omega)))
 | (apply s_idx; (focus ((conv => lhs; whnf); done)); exact rfl; (first | assumption | (apply IsLL.at; assumption; omega)); omega)
 | (apply s_idxLL; (focus ((conv => lhs; whnf); done)); exact rfl; assumption; omega)
 | (apply s_ldI; exact rfl; omega)
 | (apply s_ldLL; exact rfl; assumption; omega)
 | (apply c_seq)
 | (apply c_reg)
 | (apply c_block)
 | (apply c_skip)
 | (apply c_condT; exact rfl)
 | (with_reducible apply k_c)
        all_goals try (exfalso; omega)
        refine c_loop ?_
        refine loop_gc (σ := Nat × List (List Int)) (fun p => [x, .int .i64 (i : Int), .sl 0 1 0 i, .int .i64 (k : Int), .int .i64 (T : Int), .int .i64 (p.1 : Int)]) (fun p => HB i p.2) (fun p => p.1 ≤ k ∧ Rows i p.2 ∧ ∀ u v : Nat, u < i → v < i → getI (getLL p.2 (u : Int)) (v : Int) = atIJ b k p.1 u v) (fun p => k - p.1) ?_ _ (0, rows) _ _ ⟨by dsimp only; omega, hrows, hent⟩ (by show k - 0 < _; omega) (by
          have h := hg [.int .i64 (k : Int), .int .i64 (T : Int), .int .i64 0] rfl rows hrows
          exact h)
        intro ⟨j, rows⟩ ⟨hj, hrows, hent⟩ K3 hK3
        dsimp only at hj hrows hent hK3 ⊢
        by_cases hjk : j < k
        · have hij : j < i := by omega
          have e49c := fun H => e49 (getI (getLL b (k : Int)) (j : Int)) 4 (by omega) (by omega) H
          have hm4 := modN_lt (getI (getLL b (k : Int)) (j : Int)) (n := 4) (by omega)
          have hx0 := hgx j
          have hX := hgX j
          have ld1 := hb_ld hrows hki
          have st1 := fun (v : Int) call => hb_st (call := call) (x := v) hrows hki hij
          have hr1 := fun (v : Int) => setLL_rows (j := j) (x := v) hrows hki
          have ld2 := fun (v : Int) => hb_ld (hr1 v) hij
          have st2 := fun (v : Int) call => hb_st (call := call) (x := v) (hr1 v) hij hki
          have hr2 := fun (v : Int) => setLL_rows (j := k) (x := v) (hr1 v) hij
          have hnext : ∀ z : Int, z = grX b k j → ∀ u v : Nat, u < i → v < i → getI (getLL (setLL (setLL rows k j z) j k z) (u : Int)) (v : Int) = atIJ b k (j + 1) u v := fun z hz u v hu hv => by
            rw [setLL_get (hr1 z) hij hki, setLL_get hrows hki hij, hent u v hu hv]
            unfold atIJ
            by_cases c1 : u = j ∧ v = k
            · rw [if_pos c1, if_pos (by omega), hz]
              unfold grE
              rw [c1.1, c1.2, if_neg (by omega), if_pos hjk]
            · rw [if_neg c1]
              by_cases c2 : u = k ∧ v = j
              · rw [if_pos c2, if_pos (by omega), hz]
                unfold grE
                rw [c2.1, c2.2, if_pos hjk]
              · rw [if_neg c2]
                by_cases c3 : u < k ∧ v < k ∨ u = k ∧ v < j ∨ v = k ∧ u < j
                · rw [if_pos c3, if_pos (by omega)]
                · rw [if_neg c3, if_neg (by omega)]
          have hK31 := fun z : Int => hK3 (j + 1, setLL (setLL rows k j z) j k z)
          dsimp only at hK31
          have hgc := fun z : Int => hg [.int .i64 (k : Int), .int .i64 (T : Int), .int .i64 ((j + 1 : Nat) : Int)] rfl _ (hr2 z)
          by_cases hjr : j < (getLL b (k : Int)).length
          · rw [if_pos ⟨hin.1, hjr⟩] at hx0
            by_cases hjT : j = T
            · rw [if_pos hjT] at hX
              repeat' first
 | (apply s_mov; (focus ((conv => lhs; whnf); done)))
 | (apply s_gT; exact rfl)
 | (apply c_nil)
 | (apply s_pickT; exact rfl; (focus ((conv => lhs; whnf); done)))
 | ((first | apply s_lss | apply s_leq | apply s_gtr | apply s_geq | apply s_eql | apply s_neq); exact rfl; all_goals (intro _; try (exfalso; omega)))
 | ((first | apply s_add | apply s_sub); exact rfl; omega)
 | (apply s_pn; (focus (repeat (first | apply opds_nil | (apply opds_cons; (first | (focus ((conv => lhs; whnf); done)) | exact rfl))))); exact lx _)
 | (apply s_cn; (focus (repeat (first | apply opds_nil | (apply opds_cons; (first | (focus ((conv => lhs; whnf); done)) | exact rfl))))); exact e49c _)
 | (apply s_pn; (focus (repeat (first | apply opds_nil | (apply opds_cons; (first | (focus ((conv => lhs; whnf); done)) | exact rfl))))); exact p_ixO hki)
 | (apply s_pn; (focus (repeat (first | apply opds_nil | (apply opds_cons; (first | (focus ((conv => lhs; whnf); done)) | exact rfl))))); exact p_ixO hij)
 | (apply s_pn; (focus (repeat (first | apply opds_nil | (apply opds_cons; (first | (focus ((conv => lhs; whnf); done)) | exact rfl))))); exact ld1)
 | (apply s_pn; (focus (repeat (first | apply opds_nil | (apply opds_cons; (first | (focus ((conv => lhs; whnf); done)) | exact rfl))))); exact ld2 _)
 | (apply s_st; (focus (repeat (first | apply opds_nil | (apply opds_cons; (first | (focus ((conv => lhs; whnf); done)) | exact rfl))))); exact st1 _ _)
 | (apply s_st; (focus (repeat (first | apply opds_nil | (apply opds_cons; (first | (focus ((conv => lhs; whnf); done)) | exact rfl))))); exact st2 _ _)
 | (apply s_len; (focus ((conv => lhs; whnf); done)); (first | assumption | (apply IsLL.at; assumption; omega)))
 | (apply s_idx; (focus ((conv => lhs; whnf); done)); exact rfl; (first | assumption | (apply IsLL.at; assumption; omega)); omega)
 | (apply s_idxLL; (focus ((conv => lhs; whnf); done)); exact rfl; assumption; omega)
 | (apply s_mx; exact rfl; exact rfl)
 | (apply s_ldI; exact rfl; omega)
 | (apply s_ldLL; exact rfl; assumption; omega)
 | (apply c_seq)
 | (apply c_reg)
 | (apply c_block)
 | (apply c_skip)
 | (apply c_condT; exact rfl)
 | (with_reducible apply k_c)
              all_goals first
                | (exfalso; omega)
                | (refine hK31 _ _ _ ⟨by omega, hr2 _, hnext _ ?_⟩ (by omega) (hgc _)
                   rw [hX, hx0])
            · rw [if_neg hjT] at hX
              repeat' first
 | (apply s_mov; (focus ((conv => lhs; whnf); done)))
 | (apply s_gT; exact rfl)
 | (apply c_nil)
 | (apply s_pickT; exact rfl; (focus ((conv => lhs; whnf); done)))
 | ((first | apply s_lss | apply s_leq | apply s_gtr | apply s_geq | apply s_eql | apply s_neq); exact rfl; all_goals (intro _; try (exfalso; omega)))
 | ((first | apply s_add | apply s_sub); exact rfl; omega)
 | (apply s_pn; (focus (repeat (first | apply opds_nil | (apply opds_cons; (first | (focus ((conv => lhs; whnf); done)) | exact rfl))))); exact lx _)
 | (apply s_cn; (focus (repeat (first | apply opds_nil | (apply opds_cons; (first | (focus ((conv => lhs; whnf); done)) | exact rfl))))); exact e49c _)
 | (apply s_pn; (focus (repeat (first | apply opds_nil | (apply opds_cons; (first | (focus ((conv => lhs; whnf); done)) | exact rfl))))); exact p_ixO hki)
 | (apply s_pn; (focus (repeat (first | apply opds_nil | (apply opds_cons; (first | (focus ((conv => lhs; whnf); done)) | exact rfl))))); exact p_ixO hij)
 | (apply s_pn; (focus (repeat (first | apply opds_nil | (apply opds_cons; (first | (focus ((conv => lhs; whnf); done)) | exact rfl))))); exact ld1)
 | (apply s_pn; (focus (repeat (first | apply opds_nil | (apply opds_cons; (first | (focus ((conv => lhs; whnf); done)) | exact rfl))))); exact ld2 _)
 | (apply s_st; (focus (repeat (first | apply opds_nil | (apply opds_cons; (first | (focus ((conv => lhs; whnf); done)) | exact rfl))))); exact st1 _ _)
 | (apply s_st; (focus (repeat (first | apply opds_nil | (apply opds_cons; (first | (focus ((conv => lhs; whnf); done)) | exact rfl))))); exact st2 _ _)
 | (apply s_len; (focus ((conv => lhs; whnf); done)); (first | assumption | (apply IsLL.at; assumption; omega)))
 | (apply s_idx; (focus ((conv => lhs; whnf); done)); exact rfl; (first | assumption | (apply IsLL.at; assumption; omega)); omega)
 | (apply s_idxLL; (focus ((conv => lhs; whnf); done)); exact rfl; assumption; omega)
 | (apply s_ldI; exact rfl; omega)
 | (apply s_ldLL; exact rfl; assumption; omega)
 | (apply c_seq)
 | (apply c_reg)
 | (apply c_block)
 | (apply c_skip)
 | (apply c_condT; exact rfl)
 | (apply c_condF; exact rfl)
 | (with_reducible apply k_c)
              all_goals first
                | (exfalso; omega)
                | (refine hK31 _ _ _ ⟨by omega, hr2 _, hnext _ ?_⟩ (by omega) (hgc _)
                   rw [hX, hx0])
          · rw [if_neg (fun h => hjr h.2)] at hx0
            by_cases hjT : j = T
            · rw [if_pos hjT] at hX
              repeat' first
 | (apply s_mov; (focus ((conv => lhs; whnf); done)))
 | ((first | apply s_lss | apply s_leq | apply s_gtr | apply s_geq | apply s_eql | apply s_neq); exact rfl; all_goals (intro _; try (exfalso; omega)))
 | (apply c_seq)
 | (apply c_reg)
              all_goals first
                | (exfalso; omega)
                | (refine hK31 _ _ _ ⟨by omega, hr2 _, hnext _ ?_⟩ (by omega) (hgc _)
                   rw [hX, hx0])
            · rw [if_neg hjT] at hX
              repeat' first
 | (apply s_mov; (focus ((conv => lhs; whnf); done)))
 | ((first | apply s_lss | apply s_leq | apply s_gtr | apply s_geq | apply s_eql | apply s_neq); exact rfl; all_goals (intro _; try (exfalso; omega)))
 | (apply c_seq)
 | (apply c_reg)
              all_goals first
                | (exfalso; omega)
                | (refine hK31 _ _ _ ⟨by omega, hr2 _, hnext _ ?_⟩ (by omega) (hgc _)
                   rw [hX, hx0])
        · obtain rfl : j = k := by omega
          repeat' first
 | (apply s_mov; (focus ((conv => lhs; whnf); done)))
 | (apply c_nil)
 | ((first | apply s_lss | apply s_leq | apply s_gtr | apply s_geq | apply s_eql | apply s_neq); exact rfl; all_goals (intro _; try (exfalso; omega)))
 | (apply c_seq)
 | (apply c_reg)
 | (apply c_exitH)
 | (apply c_condF; exact rfl)
 | (with_reducible apply k_c)
          all_goals try (exfalso; omega)
          apply c_pre
          · exact hg [.int .i64 (j : Int)] rfl rows hrows
          repeat' first
 | (apply s_mov; (focus ((conv => lhs; whnf); done)))
 | (apply c_nil)
 | ((first | apply s_add | apply s_sub); exact rfl; omega)
 | (apply c_reg)
          refine hK2 (j + 1, rows) _ _ ⟨by dsimp only; omega, by dsimp only; omega, hrows, fun u v hu hv => ?_⟩ (by show i - (j + 1) < _; omega) (hg [.int .i64 ((j + 1 : Nat) : Int)] rfl rows hrows)
          dsimp only
          rw [hent u v hu hv]
          unfold atIJ
          by_cases c3 : u < j ∧ v < j ∨ u = j ∧ v < j ∨ v = j ∧ u < j
          · rw [if_pos c3, if_pos (by omega)]
          · rw [if_neg c3]
            by_cases c4 : u = j ∧ v = j
            · rw [if_pos (by omega)]; unfold grE; rw [if_neg (by omega), if_neg (by omega)]
            · rw [if_neg (by omega)]
      · rw [if_neg hin] at hgt
        have hTk : (T : Int) = (k : Int) - 1 := by omega
        by_cases hkb : k < b.length
        · have hrowk := hx.at (i := (k : Int)) ⟨by omega, by omega⟩
          repeat' first
 | (apply s_mov; (focus ((conv => lhs; whnf); done)))
 | (apply s_gT; exact rfl)
 | (apply c_nil)
 | (apply s_pickT; exact rfl; (focus ((conv => lhs; whnf); done)))
 | ((first | apply s_lss | apply s_leq | apply s_gtr | apply s_geq | apply s_eql | apply s_neq); exact rfl; all_goals (intro _; try (exfalso; omega)))
 | ((first | apply s_add | apply s_sub); exact rfl; omega)
 | (apply s_pn; (focus (repeat (first | apply opds_nil | (apply opds_cons; (first | (focus ((conv => lhs; whnf); done)) | exact rfl))))); exact lx _)
 | (apply s_len; (focus ((conv => lhs; whnf); done)); (first | assumption | (apply IsLL.at; assumption; omega)))
 | (apply s_idxLL; (focus ((conv => lhs; whnf); done)); exact rfl; assumption; omega)
 | (apply s_ldLL; exact rfl; assumption; omega)
 | (apply c_seq)
 | (apply c_reg)
 | (apply c_block)
 | (apply c_skip)
 | (apply c_condT; exact rfl)
 | (apply c_condF; exact rfl)
 | (with_reducible apply k_c)
          all_goals try (exfalso; omega)
          refine c_loop ?_
          refine loop_gc (σ := Nat × List (List Int)) (fun p => [x, .int .i64 (i : Int), .sl 0 1 0 i, .int .i64 (k : Int), .int .i64 (T : Int), .int .i64 (p.1 : Int)]) (fun p => HB i p.2) (fun p => p.1 ≤ k ∧ Rows i p.2 ∧ ∀ u v : Nat, u < i → v < i → getI (getLL p.2 (u : Int)) (v : Int) = atIJ b k p.1 u v) (fun p => k - p.1) ?_ _ (0, rows) _ _ ⟨by dsimp only; omega, hrows, hent⟩ (by show k - 0 < _; omega) (by
            have h := hg [.int .i64 (k : Int), .int .i64 (T : Int), .int .i64 0] rfl rows hrows
            rw [hTk] at h ⊢
            exact h)
          intro ⟨j, rows⟩ ⟨hj, hrows, hent⟩ K3 hK3
          dsimp only at hj hrows hent hK3 ⊢
          by_cases hjk : j < k
          · have hij : j < i := by omega
            have e49c := fun H => e49 (getI (getLL b (k : Int)) (j : Int)) 4 (by omega) (by omega) H
            have hm4 := modN_lt (getI (getLL b (k : Int)) (j : Int)) (n := 4) (by omega)
            have hx0 := hgx j
            have hX := hgX j
            have ld1 := hb_ld hrows hki
            have st1 := fun (v : Int) call => hb_st (call := call) (x := v) hrows hki hij
            have hr1 := fun (v : Int) => setLL_rows (j := j) (x := v) hrows hki
            have ld2 := fun (v : Int) => hb_ld (hr1 v) hij
            have st2 := fun (v : Int) call => hb_st (call := call) (x := v) (hr1 v) hij hki
            have hr2 := fun (v : Int) => setLL_rows (j := k) (x := v) (hr1 v) hij
            have hnext : ∀ z : Int, z = grX b k j → ∀ u v : Nat, u < i → v < i → getI (getLL (setLL (setLL rows k j z) j k z) (u : Int)) (v : Int) = atIJ b k (j + 1) u v := fun z hz u v hu hv => by
              rw [setLL_get (hr1 z) hij hki, setLL_get hrows hki hij, hent u v hu hv]
              unfold atIJ
              by_cases c1 : u = j ∧ v = k
              · rw [if_pos c1, if_pos (by omega), hz]
                unfold grE
                rw [c1.1, c1.2, if_neg (by omega), if_pos hjk]
              · rw [if_neg c1]
                by_cases c2 : u = k ∧ v = j
                · rw [if_pos c2, if_pos (by omega), hz]
                  unfold grE
                  rw [c2.1, c2.2, if_pos hjk]
                · rw [if_neg c2]
                  by_cases c3 : u < k ∧ v < k ∨ u = k ∧ v < j ∨ v = k ∧ u < j
                  · rw [if_pos c3, if_pos (by omega)]
                  · rw [if_neg c3, if_neg (by omega)]
            have hK31 := fun z : Int => hK3 (j + 1, setLL (setLL rows k j z) j k z)
            dsimp only at hK31
            have hgc := fun z : Int => hg [.int .i64 (k : Int), .int .i64 (T : Int), .int .i64 ((j + 1 : Nat) : Int)] rfl _ (hr2 z)
            by_cases hjr : k < b.length ∧ j < (getLL b (k : Int)).length
            · have hrowk := hx.at (i := (k : Int)) ⟨by omega, by omega⟩
              rw [if_pos hjr] at hx0
              by_cases hjT : j = T
              · rw [if_pos hjT] at hX
                repeat' first
 | (apply s_mov; (focus ((conv => lhs; whnf); done)))
 | (apply s_gT; exact rfl)
 | (apply c_nil)
 | (apply s_pickT; exact rfl; (focus ((conv => lhs; whnf); done)))
 | ((first | apply s_lss | apply s_leq | apply s_gtr | apply s_geq | apply s_eql | apply s_neq); exact rfl; all_goals (intro _; try (exfalso; omega)))
 | ((first | apply s_add | apply s_sub); exact rfl; omega)
 | (apply s_pn; (focus (repeat (first | apply opds_nil | (apply opds_cons; (first | (focus ((conv => lhs; whnf); done)) | exact rfl))))); exact lx _)
 | (apply s_cn; (focus (repeat (first | apply opds_nil | (apply opds_cons; (first | (focus ((conv => lhs; whnf); done)) | exact rfl))))); exact e49c _)
 | (apply s_pn; (focus (repeat (first | apply opds_nil | (apply opds_cons; (first | (focus ((conv => lhs; whnf); done)) | exact rfl))))); exact p_ixO hki)
 | (apply s_pn; (focus (repeat (first | apply opds_nil | (apply opds_cons; (first | (focus ((conv => lhs; whnf); done)) | exact rfl))))); exact p_ixO hij)
 | (apply s_pn; (focus (repeat (first | apply opds_nil | (apply opds_cons; (first | (focus ((conv => lhs; whnf); done)) | exact rfl))))); exact ld1)
 | (apply s_pn; (focus (repeat (first | apply opds_nil | (apply opds_cons; (first | (focus ((conv => lhs; whnf); done)) | exact rfl))))); exact ld2 _)
 | (apply s_st; (focus (repeat (first | apply opds_nil | (apply opds_cons; (first | (focus ((conv => lhs; whnf); done)) | exact rfl))))); exact st1 _ _)
 | (apply s_st; (focus (repeat (first | apply opds_nil | (apply opds_cons; (first | (focus ((conv => lhs; whnf); done)) | exact rfl))))); exact st2 _ _)
 | (apply s_len; (focus ((conv => lhs; whnf); done)); (first | assumption | (apply IsLL.at; assumption; omega)))
 | (apply s_idx; (focus ((conv => lhs; whnf); done)); exact rfl; (first | assumption | (apply IsLL.at; assumption; omega)); omega)
 | (apply s_idxLL; (focus ((conv => lhs; whnf); done)); exact rfl; assumption; omega)
 | (apply s_mx; exact rfl; exact rfl)
 | (apply s_ldI; exact rfl; omega)
 | (apply s_ldLL; exact rfl; assumption; omega)
 | (apply c_seq)
 | (apply c_reg)
 | (apply c_block)
 | (apply c_skip)
 | (apply c_condT; exact rfl)
 | (with_reducible apply k_c)
                all_goals first
                  | (exfalso; omega)
                  | (refine hK31 _ _ _ ⟨by omega, hr2 _, hnext _ ?_⟩ (by omega) (hgc _)
                     rw [hX, hx0])
              · rw [if_neg hjT] at hX
                repeat' first
 | (apply s_mov; (focus ((conv => lhs; whnf); done)))
 | (apply s_gT; exact rfl)
 | (apply c_nil)
 | (apply s_pickT; exact rfl; (focus ((conv => lhs; whnf); done)))
 | ((first | apply s_lss | apply s_leq | apply s_gtr | apply s_geq | apply s_eql | apply s_neq); exact rfl; all_goals (intro _; try (exfalso; omega)))
 | ((first | apply s_add | apply s_sub); exact rfl; omega)
 | (apply s_pn; (focus (repeat (first | apply opds_nil | (apply opds_cons; (first | (focus ((conv => lhs; whnf); done)) | exact rfl))))); exact lx _)
 | (apply s_cn; (focus (repeat (first | apply opds_nil | (apply opds_cons; (first | (focus ((conv => lhs; whnf); done)) | exact rfl))))); exact e49c _)
 | (apply s_pn; (focus (repeat (first | apply opds_nil | (apply opds_cons; (first | (focus ((conv => lhs; whnf); done)) | exact rfl))))); exact p_ixO hki)
 | (apply s_pn; (focus (repeat (first | apply opds_nil | (apply opds_cons; (first | (focus ((conv => lhs; whnf); done)) | exact rfl))))); exact p_ixO hij)
 | (apply s_pn; (focus (repeat (first | apply opds_nil | (apply opds_cons; (first | (focus ((conv => lhs; whnf); done)) | exact rfl))))); exact ld1)
 | (apply s_pn; (focus (repeat (first | apply opds_nil | (apply opds_cons; (first | (focus ((conv => lhs; whnf); done)) | exact rfl))))); exact ld2 _)
 | (apply s_st; (focus (repeat (first | apply opds_nil | (apply opds_cons; (first | (focus ((conv => lhs; whnf); done)) | exact rfl))))); exact st1 _ _)
 | (apply s_st; (focus (repeat (first | apply opds_nil | (apply opds_cons; (first | (focus ((conv => lhs; whnf); done)) | exact rfl))))); exact st2 _ _)
 | (apply s_len; (focus ((conv => lhs; whnf); done)); (first | assumption | (apply IsLL.at; assumption; omega)))
 | (apply s_idx; (focus ((conv => lhs; whnf); done)); exact rfl; (first | assumption | (apply IsLL.at; assumption; omega)); omega)
 | (apply s_idxLL; (focus ((conv => lhs; whnf); done)); exact rfl; assumption; omega)
 | (apply s_ldI; exact rfl; omega)
 | (apply s_ldLL; exact rfl; assumption; omega)
 | (apply c_seq)
 | (apply c_reg)
 | (apply c_block)
 | (apply c_skip)
 | (apply c_condT; exact rfl)
 | (apply c_condF; exact rfl)
 | (with_reducible apply k_c)
                all_goals first
                  | (exfalso; omega)
                  | (refine hK31 _ _ _ ⟨by omega, hr2 _, hnext _ ?_⟩ (by omega) (hgc _)
                     rw [hX, hx0])
            · rw [if_neg hjr] at hx0
              by_cases hkb : k < b.length
              · have hrowk := hx.at (i := (k : Int)) ⟨by omega, by omega⟩
                by_cases hjT : j = T
                · rw [if_pos hjT] at hX
                  repeat' first
 | (apply s_mov; (focus ((conv => lhs; whnf); done)))
 | (apply s_gT; exact rfl)
 | (apply c_nil)
 | (apply s_pickT; exact rfl; (focus ((conv => lhs; whnf); done)))
 | ((first | apply s_lss | apply s_leq | apply s_gtr | apply s_geq | apply s_eql | apply s_neq); exact rfl; all_goals (intro _; try (exfalso; omega)))
 | ((first | apply s_add | apply s_sub); exact rfl; omega)
 | (apply s_pn; (focus (repeat (first | apply opds_nil | (apply opds_cons; (first | (focus ((conv => lhs; whnf); done)) | exact rfl))))); exact lx _)
 | (apply s_pn; (focus (repeat (first | apply opds_nil | (apply opds_cons; (first | (focus ((conv => lhs; whnf); done)) | exact rfl))))); exact p_ixO hki)
 | (apply s_pn; (focus (repeat (first | apply opds_nil | (apply opds_cons; (first | (focus ((conv => lhs; whnf); done)) | exact rfl))))); exact p_ixO hij)
 | (apply s_pn; (focus (repeat (first | apply opds_nil | (apply opds_cons; (first | (focus ((conv => lhs; whnf); done)) | exact rfl))))); exact ld1)
 | (apply s_pn; (focus (repeat (first | apply opds_nil | (apply opds_cons; (first | (focus ((conv => lhs; whnf); done)) | exact rfl))))); exact ld2 _)
 | (apply s_st; (focus (repeat (first | apply opds_nil | (apply opds_cons; (first | (focus ((conv => lhs; whnf); done)) | exact rfl))))); exact st1 _ _)
 | (apply s_st; (focus (repeat (first | apply opds_nil | (apply opds_cons; (first | (focus ((conv => lhs; whnf); done)) | exact rfl))))); exact st2 _ _)
 | (apply s_len; (focus ((conv => lhs; whnf); done)); (first | assumption | (apply IsLL.at; assumption; omega)))
 | (apply s_idxLL; (focus ((conv => lhs; whnf); done)); exact rfl; assumption; omega)
 | (apply s_mx; exact rfl; exact rfl)
 | (apply s_ldLL; exact rfl; assumption; omega)
 | (apply c_seq)
 | (apply c_reg)
 | (apply c_block)
 | (apply c_skip)
 | (apply c_condT; exact rfl)
 | (apply c_condF; exact rfl)
 | (with_reducible apply k_c)
                  all_goals first
                    | (exfalso; omega)
                    | (refine hK31 _ _ _ ⟨by omega, hr2 _, hnext _ ?_⟩ (by omega) (hgc _)
                       rw [hX, hx0])
                · rw [if_neg hjT] at hX
                  repeat' first
 | (apply s_mov; (focus ((conv => lhs; whnf); done)))
 | (apply s_gT; exact rfl)
 | (apply c_nil)
 | (apply s_pickT; exact rfl; (focus ((conv => lhs; whnf); done)))
 | ((first | apply s_lss | apply s_leq | apply s_gtr | apply s_geq | apply s_eql | apply s_neq); exact rfl; all_goals (intro _; try (exfalso; omega)))
 | ((first | apply s_add | apply s_sub); exact rfl; omega)
 | (apply s_pn; (focus (repeat (first | apply opds_nil | (apply opds_cons; (first | (focus ((conv => lhs; whnf); done)) | exact rfl))))); exact lx _)
 | (apply s_pn; (focus (repeat (first | apply opds_nil | (apply opds_cons; (first | (focus ((conv => lhs; whnf); done)) | exact rfl))))); exact p_ixO hki)
 | (apply s_pn; (focus (repeat (first | apply opds_nil | (apply opds_cons; (first | (focus ((conv => lhs; whnf); done)) | exact rfl))))); exact p_ixO hij)
 | (apply s_pn; (focus (repeat (first | apply opds_nil | (apply opds_cons; (first | (focus ((conv => lhs; whnf); done)) | exact rfl))))); exact ld1)
 | (apply s_pn; (focus (repeat (first | apply opds_nil | (apply opds_cons; (first | (focus ((conv => lhs; whnf); done)) | exact rfl))))); exact ld2 _)
 | (apply s_st; (focus (repeat (first | apply opds_nil | (apply opds_cons; (first | (focus ((conv => lhs; whnf); done)) | exact rfl))))); exact st1 _ _)
 | (apply s_st; (focus (repeat (first | apply opds_nil | (apply opds_cons; (first | (focus ((conv => lhs; whnf); done)) | exact rfl))))); exact st2 _ _)
 | (apply s_len; (focus ((conv => lhs; whnf); done)); (first | assumption | (apply IsLL.at; assumption; omega)))
 | (apply s_idxLL; (focus ((conv => lhs; whnf); done)); exact rfl; assumption; omega)
 | (apply s_ldLL; exact rfl; assumption; omega)
 | (apply c_seq)
 | (apply c_reg)
 | (apply c_block)
 | (apply c_skip)
 | (apply c_condT; exact rfl)
 | (apply c_condF; exact rfl)
 | (with_reducible apply k_c)
                  all_goals first
                    | (exfalso; omega)
                    | (refine hK31 _ _ _ ⟨by omega, hr2 _, hnext _ ?_⟩ (by omega) (hgc _)
                       rw [hX, hx0])
              · skip
                by_cases hjT : j = T
                · rw [if_pos hjT] at hX
                  repeat' first
 | (apply s_mov; (focus ((conv => lhs; whnf); done)))
 | ((first | apply s_lss | apply s_leq | apply s_gtr | apply s_geq | apply s_eql | apply s_neq); exact rfl; all_goals (intro _; try (exfalso; omega)))
 | (apply c_seq)
 | (apply c_reg)
                  all_goals first
                    | (exfalso; omega)
                    | (refine hK31 _ _ _ ⟨by omega, hr2 _, hnext _ ?_⟩ (by omega) (hgc _)
                       rw [hX, hx0])
                · rw [if_neg hjT] at hX
                  repeat' first
 | (apply s_mov; (focus ((conv => lhs; whnf); done)))
 | ((first | apply s_lss | apply s_leq | apply s_gtr | apply s_geq | apply s_eql | apply s_neq); exact rfl; all_goals (intro _; try (exfalso; omega)))
 | (apply c_seq)
 | (apply c_reg)
                  all_goals first
                    | (exfalso; omega)
                    | (refine hK31 _ _ _ ⟨by omega, hr2 _, hnext _ ?_⟩ (by omega) (hgc _)
                       rw [hX, hx0])
          · obtain rfl : j = k := by omega
            repeat' first
 | (apply s_mov; (focus ((conv => lhs; whnf); done)))
 | (apply c_nil)
 | ((first | apply s_lss | apply s_leq | apply s_gtr | apply s_geq | apply s_eql | apply s_neq); exact rfl; all_goals (intro _; try (exfalso; omega)))
 | (apply c_seq)
 | (apply c_reg)
 | (apply c_exitH)
 | (apply c_condF; exact rfl)
 | (with_reducible apply k_c)
            all_goals try (exfalso; omega)
            apply c_pre
            · exact hg [.int .i64 (j : Int)] rfl rows hrows
            repeat' first
 | (apply s_mov; (focus ((conv => lhs; whnf); done)))
 | (apply c_nil)
 | ((first | apply s_add | apply s_sub); exact rfl; omega)
 | (apply c_reg)
            refine hK2 (j + 1, rows) _ _ ⟨by dsimp only; omega, by dsimp only; omega, hrows, fun u v hu hv => ?_⟩ (by show i - (j + 1) < _; omega) (hg [.int .i64 ((j + 1 : Nat) : Int)] rfl rows hrows)
            dsimp only
            rw [hent u v hu hv]
            unfold atIJ
            by_cases c3 : u < j ∧ v < j ∨ u = j ∧ v < j ∨ v = j ∧ u < j
            · rw [if_pos c3, if_pos (by omega)]
            · rw [if_neg c3]
              by_cases c4 : u = j ∧ v = j
              · rw [if_pos (by omega)]; unfold grE; rw [if_neg (by omega), if_neg (by omega)]
              · rw [if_neg (by omega)]
        · skip
          repeat' first
 | (apply s_mov; (focus ((conv => lhs; whnf); done)))
 | (apply s_gF; exact rfl)
 | (apply c_nil)
 | (apply s_pickF; exact rfl; (focus ((conv => lhs; whnf); done)))
 | ((first | apply s_lss | apply s_leq | apply s_gtr | apply s_geq | apply s_eql | apply s_neq); exact rfl; all_goals (intro _; try (exfalso; omega)))
 | ((first | apply s_add | apply s_sub); exact rfl; omega)
 | (apply s_pn; (focus (repeat (first | apply opds_nil | (apply opds_cons; (first | (focus ((conv => lhs; whnf); done)) | exact rfl))))); exact lx _)
 | (apply c_seq)
 | (apply c_reg)
 | (apply c_block)
 | (apply c_skip)
 | (apply c_condT; exact rfl)
 | (apply c_condF; exact rfl)
 | (with_reducible apply k_c)
          all_goals try (exfalso; omega)
          refine c_loop ?_
          refine loop_gc (σ := Nat × List (List Int)) (fun p => [x, .int .i64 (i : Int), .sl 0 1 0 i, .int .i64 (k : Int), .int .i64 (T : Int), .int .i64 (p.1 : Int)]) (fun p => HB i p.2) (fun p => p.1 ≤ k ∧ Rows i p.2 ∧ ∀ u v : Nat, u < i → v < i → getI (getLL p.2 (u : Int)) (v : Int) = atIJ b k p.1 u v) (fun p => k - p.1) ?_ _ (0, rows) _ _ ⟨by dsimp only; omega, hrows, hent⟩ (by show k - 0 < _; omega) (by
            have h := hg [.int .i64 (k : Int), .int .i64 (T : Int), .int .i64 0] rfl rows hrows
            rw [hTk] at h ⊢
            exact h)
          intro ⟨j, rows⟩ ⟨hj, hrows, hent⟩ K3 hK3
          dsimp only at hj hrows hent hK3 ⊢
          by_cases hjk : j < k
          · have hij : j < i := by omega
            have e49c := fun H => e49 (getI (getLL b (k : Int)) (j : Int)) 4 (by omega) (by omega) H
            have hm4 := modN_lt (getI (getLL b (k : Int)) (j : Int)) (n := 4) (by omega)
            have hx0 := hgx j
            have hX := hgX j
            have ld1 := hb_ld hrows hki
            have st1 := fun (v : Int) call => hb_st (call := call) (x := v) hrows hki hij
            have hr1 := fun (v : Int) => setLL_rows (j := j) (x := v) hrows hki
            have ld2 := fun (v : Int) => hb_ld (hr1 v) hij
            have st2 := fun (v : Int) call => hb_st (call := call) (x := v) (hr1 v) hij hki
            have hr2 := fun (v : Int) => setLL_rows (j := k) (x := v) (hr1 v) hij
            have hnext : ∀ z : Int, z = grX b k j → ∀ u v : Nat, u < i → v < i → getI (getLL (setLL (setLL rows k j z) j k z) (u : Int)) (v : Int) = atIJ b k (j + 1) u v := fun z hz u v hu hv => by
              rw [setLL_get (hr1 z) hij hki, setLL_get hrows hki hij, hent u v hu hv]
              unfold atIJ
              by_cases c1 : u = j ∧ v = k
              · rw [if_pos c1, if_pos (by omega), hz]
                unfold grE
                rw [c1.1, c1.2, if_neg (by omega), if_pos hjk]
              · rw [if_neg c1]
                by_cases c2 : u = k ∧ v = j
                · rw [if_pos c2, if_pos (by omega), hz]
                  unfold grE
                  rw [c2.1, c2.2, if_pos hjk]
                · rw [if_neg c2]
                  by_cases c3 : u < k ∧ v < k ∨ u = k ∧ v < j ∨ v = k ∧ u < j
                  · rw [if_pos c3, if_pos (by omega)]
                  · rw [if_neg c3, if_neg (by omega)]
            have hK31 := fun z : Int => hK3 (j + 1, setLL (setLL rows k j z) j k z)
            dsimp only at hK31
            have hgc := fun z : Int => hg [.int .i64 (k : Int), .int .i64 (T : Int), .int .i64 ((j + 1 : Nat) : Int)] rfl _ (hr2 z)
            by_cases hjr : k < b.length ∧ j < (getLL b (k : Int)).length
            · have hrowk := hx.at (i := (k : Int)) ⟨by omega, by omega⟩
              rw [if_pos hjr] at hx0
              by_cases hjT : j = T
              · rw [if_pos hjT] at hX
                repeat' first
 | (apply s_mov; (focus ((conv => lhs; whnf); done)))
 | ((first | apply s_lss | apply s_leq | apply s_gtr | apply s_geq | apply s_eql | apply s_neq); exact rfl; all_goals (intro _; try (exfalso; omega)))
 | (apply c_seq)
 | (apply c_reg)
                all_goals first
                  | (exfalso; omega)
                  | (refine hK31 _ _ _ ⟨by omega, hr2 _, hnext _ ?_⟩ (by omega) (hgc _)
                     rw [hX, hx0])
              · rw [if_neg hjT] at hX
                repeat' first
 | (apply s_mov; (focus ((conv => lhs; whnf); done)))
 | ((first | apply s_lss | apply s_leq | apply s_gtr | apply s_geq | apply s_eql | apply s_neq); exact rfl; all_goals (intro _; try (exfalso; omega)))
 | (apply c_seq)
 | (apply c_reg)
                all_goals first
                  | (exfalso; omega)
                  | (refine hK31 _ _ _ ⟨by omega, hr2 _, hnext _ ?_⟩ (by omega) (hgc _)
                     rw [hX, hx0])
            · rw [if_neg hjr] at hx0
              by_cases hkb : k < b.length
              · have hrowk := hx.at (i := (k : Int)) ⟨by omega, by omega⟩
                by_cases hjT : j = T
                · rw [if_pos hjT] at hX
                  repeat' first
 | (apply s_mov; (focus ((conv => lhs; whnf); done)))
 | ((first | apply s_lss | apply s_leq | apply s_gtr | apply s_geq | apply s_eql | apply s_neq); exact rfl; all_goals (intro _; try (exfalso; omega)))
 | (apply c_seq)
 | (apply c_reg)
                  all_goals first
                    | (exfalso; omega)
                    | (refine hK31 _ _ _ ⟨by omega, hr2 _, hnext _ ?_⟩ (by omega) (hgc _)
                       rw [hX, hx0])
                · rw [if_neg hjT] at hX
                  repeat' first
 | (apply s_mov; (focus ((conv => lhs; whnf); done)))
 | ((first | apply s_lss | apply s_leq | apply s_gtr | apply s_geq | apply s_eql | apply s_neq); exact rfl; all_goals (intro _; try (exfalso; omega)))
 | (apply c_seq)
 | (apply c_reg)
                  all_goals first
                    | (exfalso; omega)
                    | (refine hK31 _ _ _ ⟨by omega, hr2 _, hnext _ ?_⟩ (by omega) (hgc _)
                       rw [hX, hx0])
              · skip
                by_cases hjT : j = T
                · rw [if_pos hjT] at hX
                  repeat' first
 | (apply s_mov; (focus ((conv => lhs; whnf); done)))
 | (apply s_gF; exact rfl)
 | (apply c_nil)
 | (apply s_pickF; exact rfl; (focus ((conv => lhs; whnf); done)))
 | ((first | apply s_lss | apply s_leq | apply s_gtr | apply s_geq | apply s_eql | apply s_neq); exact rfl; all_goals (intro _; try (exfalso; omega)))
 | ((first | apply s_add | apply s_sub); exact rfl; omega)
 | (apply s_pn; (focus (repeat (first | apply opds_nil | (apply opds_cons; (first | (focus ((conv => lhs; whnf); done)) | exact rfl))))); exact lx _)
 | (apply s_pn; (focus (repeat (first | apply opds_nil | (apply opds_cons; (first | (focus ((conv => lhs; whnf); done)) | exact rfl))))); exact p_ixO hki)
 | (apply s_pn; (focus (repeat (first | apply opds_nil | (apply opds_cons; (first | (focus ((conv => lhs; whnf); done)) | exact rfl))))); exact p_ixO hij)
 | (apply s_pn; (focus (repeat (first | apply opds_nil | (apply opds_cons; (first | (focus ((conv => lhs; whnf); done)) | exact rfl))))); exact ld1)
 | (apply s_pn; (focus (repeat (first | apply opds_nil | (apply opds_cons; (first | (focus ((conv => lhs; whnf); done)) | exact rfl))))); exact ld2 _)
 | (apply s_st; (focus (repeat (first | apply opds_nil | (apply opds_cons; (first | (focus ((conv => lhs; whnf); done)) | exact rfl))))); exact st1 _ _)
 | (apply s_st; (focus (repeat (first | apply opds_nil | (apply opds_cons; (first | (focus ((conv => lhs; whnf); done)) | exact rfl))))); exact st2 _ _)
 | (apply s_mx; exact rfl; exact rfl)
 | (apply c_seq)
 | (apply c_reg)
 | (apply c_block)
 | (apply c_skip)
 | (apply c_condT; exact rfl)
 | (apply c_condF; exact rfl)
 | (with_reducible apply k_c)
                  all_goals first
                    | (exfalso; omega)
                    | (refine hK31 _ _ _ ⟨by omega, hr2 _, hnext _ ?_⟩ (by omega) (hgc _)
                       rw [hX, hx0])
                · rw [if_neg hjT] at hX
                  repeat' first
 | (apply s_mov; (focus ((conv => lhs; whnf); done)))
 | (apply s_gF; exact rfl)
 | (apply c_nil)
 | (apply s_pickF; exact rfl; (focus ((conv => lhs; whnf); done)))
 | ((first | apply s_lss | apply s_leq | apply s_gtr | apply s_geq | apply s_eql | apply s_neq); exact rfl; all_goals (intro _; try (exfalso; omega)))
 | ((first | apply s_add | apply s_sub); exact rfl; omega)
 | (apply s_pn; (focus (repeat (first | apply opds_nil | (apply opds_cons; (first | (focus ((conv => lhs; whnf); done)) | exact rfl))))); exact lx _)
 | (apply s_pn; (focus (repeat (first | apply opds_nil | (apply opds_cons; (first | (focus ((conv => lhs; whnf); done)) | exact rfl))))); exact p_ixO hki)
 | (apply s_pn; (focus (repeat (first | apply opds_nil | (apply opds_cons; (first | (focus ((conv => lhs; whnf); done)) | exact rfl))))); exact p_ixO hij)
 | (apply s_pn; (focus (repeat (first | apply opds_nil | (apply opds_cons; (first | (focus ((conv => lhs; whnf); done)) | exact rfl))))); exact ld1)
 | (apply s_pn; (focus (repeat (first | apply opds_nil | (apply opds_cons; (first | (focus ((conv => lhs; whnf); done)) | exact rfl))))); exact ld2 _)
 | (apply s_st; (focus (repeat (first | apply opds_nil | (apply opds_cons; (first | (focus ((conv => lhs; whnf); done)) | exact rfl))))); exact st1 _ _)
 | (apply s_st; (focus (repeat (first | apply opds_nil | (apply opds_cons; (first | (focus ((conv => lhs; whnf); done)) | exact rfl))))); exact st2 _ _)
 | (apply c_seq)
 | (apply c_reg)
 | (apply c_block)
 | (apply c_skip)
 | (apply c_condT; exact rfl)
 | (apply c_condF; exact rfl)
 | (with_reducible apply k_c)
                  all_goals first
                    | (exfalso; omega)
                    | (refine hK31 _ _ _ ⟨by omega, hr2 _, hnext _ ?_⟩ (by omega) (hgc _)
                       rw [hX, hx0])
          · obtain rfl : j = k := by omega
            repeat' first
 | (apply s_mov; (focus ((conv => lhs; whnf); done)))
 | (apply c_nil)
 | ((first | apply s_lss | apply s_leq | apply s_gtr | apply s_geq | apply s_eql | apply s_neq); exact rfl; all_goals (intro _; try (exfalso; omega)))
 | (apply c_seq)
 | (apply c_reg)
 | (apply c_exitH)
 | (apply c_condF; exact rfl)
 | (with_reducible apply k_c)
            all_goals try (exfalso; omega)
            apply c_pre
            · exact hg [.int .i64 (j : Int)] rfl rows hrows
            repeat' first
 | (apply s_mov; (focus ((conv => lhs; whnf); done)))
 | (apply c_nil)
 | ((first | apply s_add | apply s_sub); exact rfl; omega)
 | (apply c_reg)
            refine hK2 (j + 1, rows) _ _ ⟨by dsimp only; omega, by dsimp only; omega, hrows, fun u v hu hv => ?_⟩ (by show i - (j + 1) < _; omega) (hg [.int .i64 ((j + 1 : Nat) : Int)] rfl rows hrows)
            dsimp only
            rw [hent u v hu hv]
            unfold atIJ
            by_cases c3 : u < j ∧ v < j ∨ u = j ∧ v < j ∨ v = j ∧ u < j
            · rw [if_pos c3, if_pos (by omega)]
            · rw [if_neg c3]
              by_cases c4 : u = j ∧ v = j
              · rw [if_pos (by omega)]; unfold grE; rw [if_neg (by omega), if_neg (by omega)]
              · rw [if_neg (by omega)]
    · obtain rfl : k = i := by omega
      have hGe : rows = G := by
        refine List.ext_getElem (by rw [hrows.len, hgrow.len]) fun u h1 h2 => ?_
        have hu : u < k := by rw [hrows.len] at h1; exact h1
        have a := hrows.get hu
        have c := hgrow.get hu
        have hall : getLL rows (u : Int) = getLL G (u : Int) := ext_getI (by omega) fun v hv => by
          rw [hent u v hu (by omega), hgget hu (by omega)]
          unfold atIJ
          rw [if_pos (by omega)]
        rw [getLL_nat, getLL_nat] at hall
        simpa [List.getD, h1, h2] using hall
      subst hGe
      repeat' first
 | (apply s_mov; (focus ((conv => lhs; whnf); done)))
 | (apply c_nil)
 | ((first | apply s_lss | apply s_leq | apply s_gtr | apply s_geq | apply s_eql | apply s_neq); exact rfl; all_goals (intro _; try (exfalso; omega)))
 | (apply c_seq)
 | (apply c_reg)
 | (apply c_exitH)
 | (apply c_condF; exact rfl)
 | (with_reducible apply k_c)
      all_goals try (exfalso; omega)
      apply c_pre
      · exact gcHB (pre := []) (gs := []) hrows (by omega) rfl (by simp) rfl
      repeat' first
 | (apply s_mov; (focus ((conv => lhs; whnf); done)))
 | (apply c_nil)
 | (apply c_seq)
 | (apply c_reg)
 | (apply c_ret)
 | (with_reducible apply k_c)
      have hfin := gcHB (pre := []) (gs := []) (M := k) hrows (by omega) rfl (by simp) rfl
      simp only [List.nil_append] at hfin
      simp [finish, ress, resOf, look, looks, bindEnv, tupOf, hfin]
end Go.AM.Ch
