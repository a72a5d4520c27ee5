/- A part of the proof: U59. -/
import Derived.Test.YtmegimhfoedcdaaU58
set_option linter.unusedSectionVars false
set_option linter.unusedVariables false
set_option linter.unusedSimpArgs false
namespace Go.AM.Ch
attribute [local go_sem] gc subHeap reach_skip ren_free reach_new reach_newp reach_end rangeL roots boxCells nodupB posOf renL AV.ren pickO renH renO looks look bindEnv envOf reach_int reach_bool reach_nilS reach_rd putRow cells_sl cells_int cells_bool cells_nilS cells_rd cells_agg reach_agg reach_tup idFreeL idf_sl idf_ptr idf_int idf_bool idf_nilS idf_rd reach_fn reach_mp cells_fn cells_ptr cells_mp idf_mp idf_fn idf_agg idf_tup
set_option maxHeartbeats 8000000
/-- law 14 -/
theorem f14 {x y : AV} {b : List (List Int)} {l : List Int} {q : Int} (hx : IsLL x b) (hbl : b.length < 9223372036854775808) (hy : IsL y l) : ∃ m H', evF tab it m 14 [x, y, .int .i64 q] [] = some (.bool true, H') := by
  have h1 := grow_isB b (w := 7) (by decide)
  have hn1 := h1.n1; have hn2 := h1.n2
  have hn7 : (growL b 7).length ≤ 7 := by rw [growL_len]; exact (grN_le b (by decide)).2
  have hqn := modN_lt q (n := (growL b 7).length) (by omega)
  have fx := hx.free; have fy := hy.free
  have e34 := fun (m : Nat) (hm : 100 ≤ m) H => c34s (w := 7) hx hbl (by decide) hm H
  have e49 := fun (m : Nat) (hm : 1 ≤ m) H => c49 (x := q) (n := (growL b 7).length) (by omega) (by omega) hm H
  generalize growL b 7 = B at *
  generalize modN q B.length = Q at *
  have iB := isLL_fz B
  have e36 := fun (m : Nat) (hm : 100 ≤ m) H => c36o (w := 60) iB hy hn1 (by omega) (by decide) hm H
  have hSb : ∀ v : Nat, v < B.length → -60 ≤ getI (stL B.length l 60) (v : Int) ∧ getI (stL B.length l 60) (v : Int) ≤ 60 := fun v hv => by rw [stL_get hv]; have := stN_le (stX l v) 60; omega
  have hSl := stL_len B.length l 60
  generalize stL B.length l 60 = S at *
  -- the two states
  have hAl : (abL S).length = B.length := by simp [abL, hSl]
  have hAg := fun (v : Nat) (hv : v < B.length) => abL_get (s := S) (v := v) (by omega)
  have hAb : ∀ v : Nat, v < B.length → 0 ≤ getI (abL S) (v : Int) ∧ getI (abL S) (v : Int) ≤ 60 := fun v hv => by
    have := hSb v hv
    rw [hAg v hv]
    split <;> omega
  have hHl := halfL_len (abL S)
  rw [hAl] at hHl
  have hHg := fun (v : Nat) (hv : v < B.length) => halfL_get (l := abL S) (v := v) (by omega)
  have hHb : ∀ v : Nat, v < B.length → 0 ≤ getI (halfL (abL S)) (v : Int) ∧ getI (halfL (abL S)) (v : Int) ≤ getI (abL S) (v : Int) := fun v hv => by
    have := hAb v hv
    rw [hHg v hv]
    have := tdiv2 (getI (abL S) (v : Int))
    omega
  generalize hA : abL S = A at *
  generalize hH : halfL A = Hf at *
  obtain ⟨hy0, htwo⟩ := settle_two h1 hqn (s := A) (h := Hf) (fun v hv _ => (hAb v hv).1) (fun v hv _ => hHb v hv)
  have gA : SetG B A Q := ⟨⟨hAl, fun v hv => by
    obtain ⟨k, hk, e⟩ := List.getElem_of_mem hv
    have := hAb k (by omega)
    rw [getI_nat] at this
    have h2 : A.getD k 0 = v := by simp [List.getD, hk, e]
    rw [h2] at this
    omega⟩, fun v hv _ => (hAb v hv).1, by have := oth_le (n := B.length) (q := Q) (f := gf A) (M := 60) (by decide) (fun v hv _ => hAb v hv) (by omega); omega⟩
  have gH : SetG B Hf Q := ⟨⟨hHl, fun v hv => by
    obtain ⟨k, hk, e⟩ := List.getElem_of_mem hv
    have a := hHb k (by omega)
    have c := hAb k (by omega)
    rw [getI_nat Hf] at a
    have h2 : Hf.getD k 0 = v := by simp [List.getD, hk, e]
    rw [h2] at a
    omega⟩, fun v hv _ => (hHb v hv).1, by have := oth_le (n := B.length) (q := Q) (f := gf Hf) (M := 60) (by decide) (fun v hv _ => by have a := hHb v hv; have c := hAb v hv; unfold gf; omega) (by omega); omega⟩
  have g := gr_of h1
  have hd := dist_dst h1 hqn
  obtain ⟨d1, d2, d3⟩ := setT_ok h1 hqn gH.nn
  obtain ⟨c1, c2, c3⟩ := setT_ok h1 hqn gA.nn
  have hDle := SetOk.le g hqn hd (c := gf Hf) (t := gf (setT B Hf Q)) (fun v hv hvq => gH.nn v hv hvq) (M := 480) (by have := oth_le (n := B.length) (q := Q) (f := gf Hf) (M := 60) (by decide) (fun v hv _ => by have a := hHb v hv; have c := hAb v hv; unfold gf; omega) (by omega); omega) d2
  have hCle := SetOk.le g hqn hd (c := gf A) (t := gf (setT B A Q)) (fun v hv hvq => gA.nn v hv hvq) (M := 480) (by have := oth_le (n := B.length) (q := Q) (f := gf A) (M := 60) (by decide) (fun v hv _ => hAb v hv) (by omega); omega) c2
  -- the second portion
  have hYe : ∀ v : Nat, v < B.length → getI (apl B A (setT B Hf Q)) (v : Int) = getI (apl B Hf (setT B Hf Q)) (v : Int) + getI A (v : Int) - getI Hf (v : Int) := fun v hv => by
    rw [apl_ap h1 _ _ hv, apl_ap h1 _ _ hv]
    have e1 : gf A v = getI A (v : Int) := rfl
    have e2 : gf Hf v = getI Hf (v : Int) := rfl
    unfold ap
    omega
  have hYHb : ∀ v : Nat, v < B.length → 0 ≤ getI (apl B Hf (setT B Hf Q)) (v : Int) ∧ getI (apl B Hf (setT B Hf Q)) (v : Int) ≤ 540 := fun v hv => by
    rw [apl_ap h1 _ _ hv]
    by_cases e : v = Q
    · subst e
      have := hDle.2.1
      have a := hHb v hv
      have c := hAb v hv
      have e2 : gf Hf v = getI Hf (v : Int) := rfl
      omega
    · have a := hDle.1 v hv e
      have c := d2.pos v hv e
      omega
  have hYb : ∀ v : Nat, v < B.length → 0 ≤ getI (apl B A (setT B Hf Q)) (v : Int) ∧ getI (apl B A (setT B Hf Q)) (v : Int) ≤ 600 := fun v hv => by
    rw [hYe v hv]
    have := hYHb v hv
    have := hAb v hv
    have := hHb v hv
    omega
  have hYl := apl_len B A (setT B Hf Q)
  have hYoth : oth B.length Q (gf (apl B A (setT B Hf Q))) ≤ 480 := by
    have e : oth B.length Q (gf (apl B A (setT B Hf Q))) ≤ oth B.length Q (gf A) := by
      have e1 := oth_eq hqn (gf (apl B A (setT B Hf Q)))
      have e2 := oth_eq hqn (gf A)
      have e3 : sumTo (gf (apl B A (setT B Hf Q))) B.length = sumTo (gf A) B.length := by
        rw [← ap_sum g (gf A) (gf (setT B Hf Q))]
        exact sumTo_congr fun v hv => apl_ap h1 A _ hv
      have e4 : gf A Q ≤ gf (apl B A (setT B Hf Q)) Q := by
        have a : gf (apl B A (setT B Hf Q)) Q = ap B.length (ed B) (gf A) (gf (setT B Hf Q)) Q := apl_ap h1 A _ hqn
        have c := hDle.2.1.1
        unfold ap at a c
        omega
      omega
    have := oth_le (n := B.length) (q := Q) (f := gf A) (M := 60) (by decide) (fun v hv _ => hAb v hv) (by omega)
    omega
  have gY : SetG B (apl B A (setT B Hf Q)) Q := ⟨⟨hYl, fun v hv => by
    obtain ⟨k, hk, e⟩ := List.getElem_of_mem hv
    have := hYb k (by omega)
    rw [getI_nat] at this
    have h2 : (apl B A (setT B Hf Q)).getD k 0 = v := by simp [List.getD, hk, e]
    rw [h2] at this
    omega⟩, fun v hv hvq => hy0 v hv hvq, by omega⟩
  obtain ⟨M, hM⟩ : ∃ M, M = 100000 + 2 * (pot B.length (gf (dist B Q).1) (gf A)).toNat + 2 * (pot B.length (gf (dist B Q).1) (gf Hf)).toNat + 2 * (pot B.length (gf (dist B Q).1) (gf (apl B A (setT B Hf Q)))).toNat := ⟨_, rfl⟩
  have hM1 : 100000 ≤ M := by omega
  refine ⟨M + 1, [], ?_⟩
  have iA := rd_isL hAl
  have iH := rd_isL hHl
  have iY := rd_isL hYl
  have e34' := e34 M (by omega)
  have e49' := e49 M (by omega)
  have e36' := e36 M (by omega)
  have h25 := fun H => awakeN (m := M) (by omega) H
  have e47a := c47p iB iA h1 hqn gA (m := M) (by omega) [some (.data (iL A)), some (.data (iL Hf))] (args := [fzLL B, .sl 0 1 0 B.length, .int .i64 (Q : Int)]) (frzL_cons (frzV_of iB.free) (frzL_cons (frz_sl rfl hAl) (frzL_cons rfl frzL_nil)))
  have e47h := c47o iB iH h1 hqn gH (m := M) (by omega) [some (.data (iL A)), some (.data (iL Hf))] (args := [fzLL B, .sl 1 1 0 B.length, .int .i64 (Q : Int)]) (frzL_cons (frzV_of iB.free) (frzL_cons (frz_sl rfl hHl) (frzL_cons rfl frzL_nil)))
  have e47y := c47p iB iY h1 hqn gY (m := M) (by omega) [some (.data (iL (apl B A (setT B Hf Q))))] (args := [fzLL B, .sl 0 1 0 B.length, .int .i64 (Q : Int)]) (frzL_cons (frzV_of iB.free) (frzL_cons (frz_sl rfl hYl) (frzL_cons rfl frzL_nil)))
  rw [htwo] at e47y
  have e35 := fun (i : Nat) (hi : i < B.length) H => c35d iB h1 hi (m := M) (by omega) H
  have hinC : InR B.length 1099511627776 (setT B A Q) := ⟨c1, fun v hv => by
    obtain ⟨k, hk, e⟩ := List.getElem_of_mem hv
    have := hCle.2.2.1 k (by omega)
    have h2 : gf (setT B A Q) k = v := by unfold gf; rw [getI_nat]; simp [List.getD, hk, e]
    have h3 : (B.length : Int) * (B.length * 480) ≤ 7 * (7 * 480) := Int.mul_le_mul (by omega) (by omega) (by omega) (by omega)
    omega⟩
  have iC := rd_isL c1
  have e37 := c37s iB iA iC (by omega) (by omega) (by omega) ⟨h1, gA.inr, hinC⟩ (m := M) (by omega) [some (.data (iL A)), some (.data (iL Hf))] (args := [fzLL B, .sl 0 1 0 B.length, .rd 1 B.length (iL (setT B A Q))]) (frzL_cons (frzV_of iB.free) (frzL_cons (frz_sl rfl hAl) (frzL_cons rfl frzL_nil)))
  have hXl := apl_len B A (setT B A Q)
  have iX := rd_isL hXl
  have e22 := fun H => c22 iX iX (by omega) (m := M) (by omega) H
  simp only [decide_true] at e22
  have hXb : ∀ v : Nat, v < B.length → v ≠ Q → 0 ≤ getI (apl B A (setT B A Q)) (v : Int) ∧ getI (apl B A (setT B A Q)) (v : Int) < deg B.length (ed B) v := fun v hv hvq => by
    rw [apl_ap h1 _ _ hv]
    exact ⟨c2.pos v hv hvq, c3 v hv hvq⟩
  have hCb : ∀ v : Nat, v < B.length → 0 ≤ getI (setT B A Q) (v : Int) := fun v hv => c2.nn v hv
  have hCq : getI (setT B A Q) (Q : Int) = 0 := c2.q0
  have fB := iB.free
  have lB := fun H => p_lenLL (H := H) iB
  have mk := fun call H => @e_mkI call H B.length (by unfold most; omega)
  clear hM e34 e49 e36 hDle hCle htwo hy0 gA gH gY c2 c3 d2 d3 hYoth hinC
  have lX := fun H => p_lenI (H := H) iX
  have lC := fun H => p_lenI (H := H) iC
  rw [hXl] at lX
  rw [c1] at lC
  have fX := iX.free; have fC := iC.free
  have hYH := apl_len B Hf (setT B Hf Q)
  generalize hvX : AV.rd 1 B.length (iL (apl B A (setT B A Q))) = vX at *
  generalize hvC : AV.rd 1 B.length (iL (setT B A Q)) = vC at *
  generalize apl B A (setT B A Q) = X at *
  generalize setT B A Q = C at *
  generalize apl B A (setT B Hf Q) = Y at *
  generalize apl B Hf (setT B Hf Q) = Y0 at *
  generalize setT B Hf Q = D at *
  have al0 : (iL S).length = B.length := by rw [iL_len]; exact hSl
  refine f_enter rfl rfl ?_
  generalize evF tab it M = call at *
  generalize fzLL B = vB at *
  skip
  repeat' first
 | (apply s_mov; (focus ((conv => lhs; whnf); done)))
 | (apply c_nil)
 | (apply s_cn; (focus (repeat (first | apply opds_nil | (apply opds_cons; (first | (focus ((conv => lhs; whnf); done)) | exact rfl))))); exact e34' _)
 | (apply s_pn; (focus (repeat (first | apply opds_nil | (apply opds_cons; (first | (focus ((conv => lhs; whnf); done)) | exact rfl))))); exact lB _)
 | (apply s_cn; (focus (repeat (first | apply opds_nil | (apply opds_cons; (first | (focus ((conv => lhs; whnf); done)) | exact rfl))))); exact e49' _)
 | (apply s_en; (focus (repeat (first | apply opds_nil | (apply opds_cons; (first | (focus ((conv => lhs; whnf); done)) | exact rfl))))); exact e36' _)
 | (apply s_en; (focus (repeat (first | apply opds_nil | (apply opds_cons; (first | (focus ((conv => lhs; whnf); done)) | exact rfl))))); exact mk _ _)
 | (apply c_seq)
 | (apply c_reg)
 | (apply c_block)
 | (with_reducible apply k_c)
  all_goals try (exfalso; omega)
  have gc1 : ∀ (i : Nat) (U V : List AV), gc 0 [.int .i64 (Q : Int), vB, .sl 0 1 0 B.length, .sl 1 1 0 B.length, .int .i64 (i : Int)] [some (.data U), some (.data V)] = some ([.int .i64 (Q : Int), vB, .sl 0 1 0 B.length, .sl 1 1 0 B.length, .int .i64 (i : Int)], [some (.data U), some (.data V)]) := fun i U V => by simp [go_sem, fB]
  have gc2 : ∀ (i : Nat) (U V : List AV), gc 0 [.int .i64 (Q : Int), vB, .sl 0 1 0 B.length, .sl 1 1 0 B.length, vX, vC, .int .i64 (i : Int)] [some (.data U), some (.data V)] = some ([.int .i64 (Q : Int), vB, .sl 0 1 0 B.length, .sl 1 1 0 B.length, vX, vC, .int .i64 (i : Int)], [some (.data U), some (.data V)]) := fun i U V => by simp [go_sem, fB, fX, fC]
  have gc3 : ∀ (i : Nat) (U V W : List AV), gc 0 [.int .i64 (Q : Int), vB, .sl 0 1 0 B.length, .sl 1 1 0 B.length, vX, .sl 2 1 0 B.length, .int .i64 (i : Int)] [some (.data U), some (.data V), some (.data W)] = some ([.int .i64 (Q : Int), vB, .sl 0 1 0 B.length, .sl 1 1 0 B.length, vX, .sl 2 1 0 B.length, .int .i64 (i : Int)], [some (.data U), some (.data V), some (.data W)]) := fun i U V W => by simp [go_sem, fB, fX]
  have gc4 : ∀ (i : Nat) (U V W Z : List AV), gc 0 [.int .i64 (Q : Int), vB, .sl 0 1 0 B.length, .sl 1 1 0 B.length, vX, .sl 2 1 0 B.length, .int .i64 (i : Int)] [some (.data U), some (.data V), some (.data W), some (.data Z)] = some ([.int .i64 (Q : Int), vB, .sl 0 1 0 B.length, .sl 1 1 0 B.length, vX, .sl 2 1 0 B.length, .int .i64 (i : Int)], [some (.data U), some (.data V), some (.data W)]) := fun i U V W Z => by simp [go_sem, fB, fX]
  refine c_loop ?_
  refine loop_gc (σ := Nat × List Int × List Int) (fun p => [.int .i64 (Q : Int), vB, .sl 0 1 0 B.length, .sl 1 1 0 B.length, .int .i64 (p.1 : Int)]) (fun p => [some (.data (iL p.2.1)), some (.data (iL p.2.2))])
    (fun p => p.1 ≤ B.length ∧ p.2.1.length = B.length ∧ p.2.2.length = B.length ∧ (∀ j : Nat, j < B.length → getI p.2.1 (j : Int) = if j < p.1 then getI A (j : Int) else getI S (j : Int)) ∧ (∀ j : Nat, j < p.1 → getI p.2.2 (j : Int) = getI Hf (j : Int))) (fun p => B.length - p.1) ?_ _ (0, S, List.replicate B.length 0) _ _ ⟨by dsimp only; omega, hSl, by simp, fun j _ => by rw [if_neg (by dsimp only; omega)], fun j hj => by dsimp only at hj; omega⟩ (by show B.length - 0 < _; omega) (gc1 0 _ _)
  intro ⟨i, s', h'⟩ ⟨hi, hsl', hhl', hs', hh'⟩ K hK
  dsimp only at hi hsl' hhl' hs' hh' hK ⊢
  by_cases hin : i < B.length
  · have a1 := hs' i hin
    rw [if_neg (by omega)] at a1
    have a2 := hSb i hin
    have a3 := hAg i hin
    have a4 := hHg i hin
    have a5 := tdiv2 (getI A (i : Int))
    have ld1 := fun H h => p_ldO (H := H) (id := 0) (l := s') (i := i) h (by omega)
    have st1 := fun (vv : Int) call H h => e_stO (call := call) (H := H) (id := 0) (l := s') (i := i) (v := vv) h (by omega)
    have ld2 := fun (vv : Int) H h => p_ldO (H := H) (id := 0) (l := s'.set i vv) (i := i) h (by simp; omega)
    have st2 := fun (vv : Int) call H h => e_stO (call := call) (H := H) (id := 1) (l := h') (i := i) (v := vv) h (by omega)
    have gs2 := fun (vv : Int) => getI_set (l := s') (i := i) (j := i) (v := vv) (by omega)
    have ng := fun H => p_negI (H := H) (a := getI s' (i : Int)) (by omega)
    have quo := fun (z : Int) (h : -100 ≤ z ∧ z ≤ 100) H => p_quo2 (H := H) (a := z) (by omega)
    have hnext : ∀ s2 : List Int, s2.length = B.length → getI s2 (i : Int) = getI A (i : Int) → (∀ j : Nat, j < B.length → j ≠ i → getI s2 (j : Int) = getI s' (j : Int)) → ∀ j : Nat, j < B.length → getI s2 (j : Int) = if j < i + 1 then getI A (j : Int) else getI S (j : Int) := fun s2 _ h1 h2 j hj => by
      by_cases e : j = i
      · subst e; rw [if_pos (by omega), h1]
      · rw [h2 j hj e, hs' j hj]
        by_cases e2 : j < i
        · rw [if_pos e2, if_pos (by omega)]
        · rw [if_neg e2, if_neg (by omega)]
    have hnexth : ∀ z : Int, z = getI Hf (i : Int) → ∀ j : Nat, j < i + 1 → getI (h'.set i z) (j : Int) = getI Hf (j : Int) := fun z hz j hj => by
      rw [getI_set (by omega)]
      by_cases e : j = i
      · subst e; rw [if_pos rfl, hz]
      · rw [if_neg e]; exact hh' j (by omega)
    by_cases hneg : getI S (i : Int) < 0
    · rw [if_pos hneg] at a3
      have q1 := quo (getI (s'.set i (-getI s' (i : Int))) (i : Int)) (by rw [gs2, if_pos rfl]; omega)
      repeat' first
 | (apply s_mov; (focus ((conv => lhs; whnf); done)))
 | (apply c_nil)
 | ((first | apply s_lss | apply s_leq | apply s_gtr | apply s_geq | apply s_eql | apply s_neq); exact rfl; all_goals (intro _; try (exfalso; omega)))
 | ((first | apply s_add | apply s_sub); exact rfl; omega)
 | (apply s_pn; (focus (repeat (first | apply opds_nil | (apply opds_cons; (first | (focus ((conv => lhs; whnf); done)) | exact rfl))))); exact p_ixO hin)
 | (apply s_pn; (focus (repeat (first | apply opds_nil | (apply opds_cons; (first | (focus ((conv => lhs; whnf); done)) | exact rfl))))); exact ld1 _ rfl)
 | (apply s_pn; (focus (repeat (first | apply opds_nil | (apply opds_cons; (first | (focus ((conv => lhs; whnf); done)) | exact rfl))))); exact ng _)
 | (apply s_st; (focus (repeat (first | apply opds_nil | (apply opds_cons; (first | (focus ((conv => lhs; whnf); done)) | exact rfl))))); exact st1 _ _ _ rfl)
 | (apply s_pn; (focus (repeat (first | apply opds_nil | (apply opds_cons; (first | (focus ((conv => lhs; whnf); done)) | exact rfl))))); exact ld2 _ _ rfl)
 | (apply s_pn; (focus (repeat (first | apply opds_nil | (apply opds_cons; (first | (focus ((conv => lhs; whnf); done)) | exact rfl))))); exact q1 _)
 | (apply s_st; (focus (repeat (first | apply opds_nil | (apply opds_cons; (first | (focus ((conv => lhs; whnf); done)) | exact rfl))))); exact st2 _ _ _ rfl)
 | (apply s_lenSl; exact rfl)
 | (apply c_seq)
 | (apply c_reg)
 | (apply c_block)
 | (apply c_skip)
 | (apply c_condT; exact rfl)
 | (with_reducible apply k_c)
      all_goals first
        | (exfalso; omega)
        | (refine hK (i + 1, s'.set i (-getI s' (i : Int)), _) _ _ ⟨by omega, by simpa using hsl', by simpa using hhl', hnext _ (by simpa using hsl') (by rw [gs2, if_pos rfl]; omega) (fun j hj e => by rw [getI_set (by omega), if_neg e]), hnexth _ ?_⟩ (by show B.length - (i + 1) < _; omega) (gc1 (i + 1) _ _)
           rw [gs2, if_pos rfl, a4, a3, a1])
    · rw [if_neg hneg] at a3
      have q1 := quo (getI s' (i : Int)) (by omega)
      repeat' first
 | (apply s_mov; (focus ((conv => lhs; whnf); done)))
 | (apply c_nil)
 | ((first | apply s_lss | apply s_leq | apply s_gtr | apply s_geq | apply s_eql | apply s_neq); exact rfl; all_goals (intro _; try (exfalso; omega)))
 | ((first | apply s_add | apply s_sub); exact rfl; omega)
 | (apply s_pn; (focus (repeat (first | apply opds_nil | (apply opds_cons; (first | (focus ((conv => lhs; whnf); done)) | exact rfl))))); exact p_ixO hin)
 | (apply s_pn; (focus (repeat (first | apply opds_nil | (apply opds_cons; (first | (focus ((conv => lhs; whnf); done)) | exact rfl))))); exact ld1 _ rfl)
 | (apply s_pn; (focus (repeat (first | apply opds_nil | (apply opds_cons; (first | (focus ((conv => lhs; whnf); done)) | exact rfl))))); exact q1 _)
 | (apply s_st; (focus (repeat (first | apply opds_nil | (apply opds_cons; (first | (focus ((conv => lhs; whnf); done)) | exact rfl))))); exact st2 _ _ _ rfl)
 | (apply s_lenSl; exact rfl)
 | (apply c_seq)
 | (apply c_reg)
 | (apply c_block)
 | (apply c_skip)
 | (apply c_condT; exact rfl)
 | (apply c_condF; exact rfl)
 | (with_reducible apply k_c)
      all_goals first
        | (exfalso; omega)
        | (refine hK (i + 1, s', _) _ _ ⟨by omega, hsl', by simpa using hhl', hnext s' hsl' (by omega) (fun j hj e => rfl), hnexth _ ?_⟩ (by show B.length - (i + 1) < _; omega) (gc1 (i + 1) _ _)
           rw [a4, a3, a1])
  · obtain rfl : i = B.length := by omega
    obtain rfl : s' = A := ext_getI (by omega) fun j hj => by rw [hs' j (by omega), if_pos (by omega)]
    obtain rfl : h' = Hf := ext_getI (by omega) fun j hj => hh' j (by omega)
    repeat' first
 | (apply s_mov; (focus ((conv => lhs; whnf); done)))
 | (apply c_nil)
 | ((first | apply s_lss | apply s_leq | apply s_gtr | apply s_geq | apply s_eql | apply s_neq); exact rfl; all_goals (intro _; try (exfalso; omega)))
 | (apply s_lenSl; exact rfl)
 | (apply c_seq)
 | (apply c_reg)
 | (apply c_exitH)
 | (apply c_condF; exact rfl)
 | (with_reducible apply k_c)
    all_goals try (exfalso; omega)
    apply c_pre (vs := [.int .i64 (Q : Int), vB, .sl 0 1 0 B.length, .sl 1 1 0 B.length]) (H' := [some (.data (iL s')), some (.data (iL h'))])
    · simp [go_sem, fB]
    repeat' first
 | (apply s_mov; (focus ((conv => lhs; whnf); done)))
 | (apply s_gT; exact rfl)
 | (apply c_nil)
 | (apply s_pickF; exact rfl; (focus ((conv => lhs; whnf); done)))
 | ((first | apply s_lss | apply s_leq | apply s_gtr | apply s_geq | apply s_eql | apply s_neq); exact rfl; all_goals (intro _; try (exfalso; omega)))
 | (apply s_cn; (focus (repeat (first | apply opds_nil | (apply opds_cons; (first | (focus ((conv => lhs; whnf); done)) | exact rfl))))); exact e47a)
 | (apply s_pn; (focus (repeat (first | apply opds_nil | (apply opds_cons; (first | (focus ((conv => lhs; whnf); done)) | exact rfl))))); exact lX _)
 | (apply s_pn; (focus (repeat (first | apply opds_nil | (apply opds_cons; (first | (focus ((conv => lhs; whnf); done)) | exact rfl))))); exact lC _)
 | (apply s_pn; (focus (repeat (first | apply opds_nil | (apply opds_cons; (first | (focus ((conv => lhs; whnf); done)) | exact rfl))))); exact lB _)
 | (apply s_idx; (focus ((conv => lhs; whnf); done)); exact rfl; (first | assumption | (apply IsLL.at; assumption; omega)); omega)
 | (apply s_ldI; exact rfl; omega)
 | (apply s_pd; (focus ((conv => lhs; whnf); done)))
 | (apply c_seq)
 | (apply c_reg)
 | (apply c_block)
 | (apply c_skip)
 | (apply c_condF; exact rfl)
 | (with_reducible apply k_c)
    all_goals try (exfalso; omega)
    refine c_loop ?_
    refine loop_gc (σ := Nat) (fun i => [.int .i64 (Q : Int), vB, .sl 0 1 0 B.length, .sl 1 1 0 B.length, vX, vC, .int .i64 (i : Int)]) (fun _ => [some (.data (iL s')), some (.data (iL h'))]) (fun i => i ≤ B.length) (fun i => B.length - i) ?_ _ 0 _ _ (by omega) (by omega) (gc2 0 _ _)
    clear hK
    intro i hi K hK
    by_cases hin : i < B.length
    · have e35' := e35 i hin
      have b1 := hXb i hin
      have b2 := hCb i hin
      by_cases hiq : i = Q
      · subst hiq
        repeat' first
 | (apply s_mov; (focus ((conv => lhs; whnf); done)))
 | (apply s_gT; exact rfl)
 | (apply s_gF; exact rfl)
 | (apply s_gFD; exact rfl)
 | (apply c_nil)
 | (apply s_pickF; exact rfl; (focus ((conv => lhs; whnf); done)))
 | ((first | apply s_lss | apply s_leq | apply s_gtr | apply s_geq | apply s_eql | apply s_neq); exact rfl; all_goals (intro _; try (exfalso; omega)))
 | ((first | apply s_add | apply s_sub); exact rfl; omega)
 | (apply s_pn; (focus (repeat (first | apply opds_nil | (apply opds_cons; (first | (focus ((conv => lhs; whnf); done)) | exact rfl))))); exact lX _)
 | (apply s_idx; (focus ((conv => lhs; whnf); done)); exact rfl; (first | assumption | (apply IsLL.at; assumption; omega)); omega)
 | (apply s_ldI; exact rfl; omega)
 | (apply c_seq)
 | (apply c_reg)
 | (apply c_block)
 | (apply c_skip)
 | (apply c_condT; exact rfl)
 | (apply c_condF; exact rfl)
 | (with_reducible apply k_c)
        all_goals first
          | (exfalso; omega)
          | exact hK (i + 1) _ _ (by omega) (by omega) (gc2 (i + 1) _ _)
      · have b3 := b1 hiq
        repeat' first
 | (apply s_mov; (focus ((conv => lhs; whnf); done)))
 | (apply s_gT; exact rfl)
 | (apply c_nil)
 | (apply s_pickT; exact rfl; (focus ((conv => lhs; whnf); done)))
 | (apply s_pickF; exact rfl; (focus ((conv => lhs; whnf); done)))
 | ((first | apply s_lss | apply s_leq | apply s_gtr | apply s_geq | apply s_eql | apply s_neq); exact rfl; all_goals (intro _; try (exfalso; omega)))
 | ((first | apply s_add | apply s_sub); exact rfl; omega)
 | (apply s_pn; (focus (repeat (first | apply opds_nil | (apply opds_cons; (first | (focus ((conv => lhs; whnf); done)) | exact rfl))))); exact lX _)
 | (apply s_cn; (focus (repeat (first | apply opds_nil | (apply opds_cons; (first | (focus ((conv => lhs; whnf); done)) | exact rfl))))); exact e35' _)
 | (apply s_idx; (focus ((conv => lhs; whnf); done)); exact rfl; (first | assumption | (apply IsLL.at; assumption; omega)); omega)
 | (apply s_ldI; exact rfl; omega)
 | (apply c_seq)
 | (apply c_reg)
 | (apply c_block)
 | (apply c_skip)
 | (apply c_condT; exact rfl)
 | (apply c_condF; exact rfl)
 | (with_reducible apply k_c)
        all_goals first
          | (exfalso; omega)
          | exact hK (i + 1) _ _ (by omega) (by omega) (gc2 (i + 1) _ _)
    · obtain rfl : i = B.length := by omega
      repeat' first
 | (apply s_mov; (focus ((conv => lhs; whnf); done)))
 | (apply c_nil)
 | ((first | apply s_lss | apply s_leq | apply s_gtr | apply s_geq | apply s_eql | apply s_neq); exact rfl; all_goals (intro _; try (exfalso; omega)))
 | (apply s_pn; (focus (repeat (first | apply opds_nil | (apply opds_cons; (first | (focus ((conv => lhs; whnf); done)) | exact rfl))))); exact lX _)
 | (apply c_seq)
 | (apply c_reg)
 | (apply c_exitH)
 | (apply c_condF; exact rfl)
 | (with_reducible apply k_c)
      all_goals try (exfalso; omega)
      apply c_pre (vs := [.int .i64 (Q : Int), vB, .sl 0 1 0 B.length, .sl 1 1 0 B.length, vX, vC]) (H' := [some (.data (iL s')), some (.data (iL h'))])
      · simp [go_sem, fB, fX, fC]
      repeat' first
 | (apply s_mov; (focus ((conv => lhs; whnf); done)))
 | (apply s_gT; exact rfl)
 | (apply c_nil)
 | (apply s_pickF; exact rfl; (focus ((conv => lhs; whnf); done)))
 | (apply s_notT; exact rfl)
 | ((first | apply s_lss | apply s_leq | apply s_gtr | apply s_geq | apply s_eql | apply s_neq); exact rfl; all_goals (intro _; try (exfalso; omega)))
 | (apply s_cn; (focus (repeat (first | apply opds_nil | (apply opds_cons; (first | (focus ((conv => lhs; whnf); done)) | exact rfl))))); exact e37)
 | (apply s_en; (focus (repeat (first | apply opds_nil | (apply opds_cons; (first | (focus ((conv => lhs; whnf); done)) | exact rfl))))); exact e47h)
 | (apply s_cn; (focus (repeat (first | apply opds_nil | (apply opds_cons; (first | (focus ((conv => lhs; whnf); done)) | exact rfl))))); exact e22 _)
 | (apply s_pn; (focus (repeat (first | apply opds_nil | (apply opds_cons; (first | (focus ((conv => lhs; whnf); done)) | exact rfl))))); exact lB _)
 | (apply s_lenSl; exact rfl)
 | (apply s_pd; (focus ((conv => lhs; whnf); done)))
 | (apply c_seq)
 | (apply c_reg)
 | (apply c_block)
 | (apply c_skip)
 | (apply c_condF; exact rfl)
 | (with_reducible apply k_c)
      all_goals try (exfalso; omega)
      refine c_loop ?_
      refine loop_gc (σ := Nat × List Int) (fun p => [.int .i64 (Q : Int), vB, .sl 0 1 0 B.length, .sl 1 1 0 B.length, vX, .sl 2 1 0 B.length, .int .i64 (p.1 : Int)]) (fun p => [some (.data (iL s')), some (.data (iL h')), some (.data (iL p.2))])
        (fun p => p.1 ≤ B.length ∧ p.2.length = B.length ∧ (∀ j : Nat, j < B.length → getI p.2 (j : Int) = if j < p.1 then getI Y (j : Int) else getI Y0 (j : Int))) (fun p => B.length - p.1) ?_ _ (0, Y0) _ _ ⟨by dsimp only; omega, hYH, fun j _ => by rw [if_neg (by dsimp only; omega)]⟩ (by show B.length - 0 < _; omega) (gc4 0 _ _ _ _)
      clear hK
      intro ⟨i, y'⟩ ⟨hi, hyl', hy'⟩ K hK
      dsimp only at hi hyl' hy' hK ⊢
      by_cases hin : i < B.length
      · have a1 := hy' i hin
        rw [if_neg (by omega)] at a1
        have a2 := hYHb i hin
        have a3 := hYe i hin
        have a4 := hAb i hin
        have a5 := hHb i hin
        have ly := fun H h => p_ldO (H := H) (id := 2) (l := y') (i := i) h (by omega)
        have ls := fun H h => p_ldO (H := H) (id := 0) (l := s') (i := i) h (by omega)
        have lh := fun H h => p_ldO (H := H) (id := 1) (l := h') (i := i) h (by omega)
        have st := fun (vv : Int) call H h => e_stO (call := call) (H := H) (id := 2) (l := y') (i := i) (v := vv) h (by omega)
        repeat' first
 | (apply s_mov; (focus ((conv => lhs; whnf); done)))
 | (apply c_nil)
 | ((first | apply s_lss | apply s_leq | apply s_gtr | apply s_geq | apply s_eql | apply s_neq); exact rfl; all_goals (intro _; try (exfalso; omega)))
 | ((first | apply s_add | apply s_sub); exact rfl; omega)
 | (apply s_pn; (focus (repeat (first | apply opds_nil | (apply opds_cons; (first | (focus ((conv => lhs; whnf); done)) | exact rfl))))); exact p_ixO hin)
 | (apply s_pn; (focus (repeat (first | apply opds_nil | (apply opds_cons; (first | (focus ((conv => lhs; whnf); done)) | exact rfl))))); exact ly _ rfl)
 | (apply s_pn; (focus (repeat (first | apply opds_nil | (apply opds_cons; (first | (focus ((conv => lhs; whnf); done)) | exact rfl))))); exact ls _ rfl)
 | (apply s_pn; (focus (repeat (first | apply opds_nil | (apply opds_cons; (first | (focus ((conv => lhs; whnf); done)) | exact rfl))))); exact lh _ rfl)
 | (apply s_st; (focus (repeat (first | apply opds_nil | (apply opds_cons; (first | (focus ((conv => lhs; whnf); done)) | exact rfl))))); exact st _ _ _ rfl)
 | (apply s_lenSl; exact rfl)
 | (apply c_seq)
 | (apply c_reg)
 | (apply c_block)
 | (apply c_skip)
 | (apply c_condT; exact rfl)
 | (with_reducible apply k_c)
        all_goals first
          | (exfalso; omega)
          | (refine hK (i + 1, _) _ _ ⟨by omega, by simpa using hyl', fun j hj => ?_⟩ (by show B.length - (i + 1) < _; omega) (gc3 (i + 1) _ _ _)
             dsimp only
             rw [getI_set (by omega)]
             by_cases e : j = i
             · subst e; rw [if_pos rfl, if_pos (by omega)]; omega
             · rw [if_neg e, hy' j hj]
               by_cases e2 : j < i
               · rw [if_pos e2, if_pos (by omega)]
               · rw [if_neg e2, if_neg (by omega)])
      · obtain rfl : i = B.length := by omega
        obtain rfl : y' = Y := ext_getI (by omega) fun j hj => by rw [hy' j (by omega), if_pos (by omega)]
        repeat' first
 | (apply s_mov; (focus ((conv => lhs; whnf); done)))
 | (apply c_nil)
 | ((first | apply s_lss | apply s_leq | apply s_gtr | apply s_geq | apply s_eql | apply s_neq); exact rfl; all_goals (intro _; try (exfalso; omega)))
 | (apply s_lenSl; exact rfl)
 | (apply c_seq)
 | (apply c_reg)
 | (apply c_exitH)
 | (apply c_condF; exact rfl)
 | (with_reducible apply k_c)
        all_goals try (exfalso; omega)
        apply c_pre (vs := [.int .i64 (Q : Int), vB, vX, .sl 0 1 0 B.length]) (H' := [some (.data (iL y'))])
        · simp [go_sem, fB, fX]
        repeat' first
 | (apply s_mov; (focus ((conv => lhs; whnf); done)))
 | (apply s_gT; exact rfl)
 | (apply c_nil)
 | (apply s_pickT; exact rfl; (focus ((conv => lhs; whnf); done)))
 | ((first | apply s_lss | apply s_leq | apply s_gtr | apply s_geq | apply s_eql | apply s_neq); exact rfl; all_goals (intro _; try (exfalso; omega)))
 | (apply s_cn; (focus (repeat (first | apply opds_nil | (apply opds_cons; (first | (focus ((conv => lhs; whnf); done)) | exact rfl))))); exact e47y)
 | (apply s_cn; (focus (repeat (first | apply opds_nil | (apply opds_cons; (first | (focus ((conv => lhs; whnf); done)) | exact rfl))))); exact e22 _)
 | (apply s_cn; (focus (repeat (first | apply opds_nil | (apply opds_cons; (first | (focus ((conv => lhs; whnf); done)) | exact rfl))))); exact h25 _)
 | (apply s_pd; (focus ((conv => lhs; whnf); done)))
 | (apply c_seq)
 | (apply c_reg)
 | (apply c_ret)
 | (with_reducible apply k_c)
        all_goals first
          | (exfalso; omega)
          | exact fin_t (by (conv => lhs; whnf)) (by rfl) rfl
end Go.AM.Ch
