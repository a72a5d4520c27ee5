/- A part of the proof: T42. -/
import Derived.Test.YtdgkchedoooffaaT41
set_option linter.unusedVariables false
set_option linter.unusedSimpArgs false
set_option linter.unusedSectionVars false
namespace Go.AM.Tb
set_option maxHeartbeats 4000000
theorem b61_len (a : List (List Int)) : (b61 a).length ≤ 61 ∧ ∀ c ∈ b61 a, c.length ≤ 61 := by
  refine ⟨by simp [b61]; omega, fun c hc => ?_⟩
  obtain ⟨d, _, rfl⟩ := List.mem_map.1 hc
  rw [List.length_take]; omega
theorem b61_b61 (a : List (List Int)) : b61 (b61 a) = b61 a := by
  obtain ⟨h1, h2⟩ := b61_len a
  unfold b61 at h1 h2 ⊢
  rw [List.take_of_length_le h1]
  conv => rhs; rw [← List.map_id ((a.take 61).map fun x => x.take 61)]
  refine List.map_congr_left fun c hc => ?_
  exact List.take_of_length_le (h2 c hc)
theorem e_st2 {call : CallF} {H : Heap} {id : Nat} {a b c d : AV} (h : H[id]? = some (some (.box [c, d]))) (h1 : a.one = true) (h2 : b.one = true) : evE call H (.st 2) [.ptr id 0, .agg [a, b]] = some (.undef, H.set id (some (.box [a, b]))) := by
  simp [evE, stAt, AV.cells, oneL, h1, h2, h, putRow]
theorem p_ld2 {H : Heap} {id : Nat} {a b : AV} (h : H[id]? = some (some (.box [a, b]))) : evP H (.ld true 2) [.ptr id 0] = some (.agg [a, b]) := by
  have hc : Heap.cells? H id = some [a, b] := cells?_iff.2 (.inr h)
  simp [evP, ldc, getRow, hc, wholeOf]
theorem f10 {x u v : AV} {l : List Int} {k : Int} {U D : List (List Int)} (hx : IsL x l) (hu : IsLL u U) (hv : IsLL v D) : ∃ m H', evF tab it m 10 [x, .int .i64 k, .agg [u, v]] [] = some (.bool true, H') := by
  refine ⟨60001, [], ?_⟩
  have fx := hx.free
  have fu := hu.free
  have fv := hv.free
  have hw : (l.take 61).length ≤ 61 := by rw [List.length_take]; omega
  have e19 := fun H => c19 hx (m := 60000) (by omega) H
  generalize l.take 61 = w at *
  have hvw := isL_fz w
  have e19b := fun H => c19 hvw (m := 60000) (by omega) H
  rw [List.take_of_length_le hw] at e19b
  have eu := fun H => c41 hu (m := 60000) (by omega) H
  have ev := fun H => c41 hv (m := 60000) (by omega) H
  obtain ⟨u1, u2⟩ := b61_len U
  obtain ⟨d1, d2⟩ := b61_len D
  have ub := b61_b61 U
  have db := b61_b61 D
  generalize b61 U = U' at *
  generalize b61 D = D' at *
  have hvu := isLL_fz U'
  have hvd := isLL_fz D'
  have eu2 := fun H => c41 hvu (m := 60000) (by omega) H
  have ev2 := fun H => c41 hvd (m := 60000) (by omega) H
  rw [ub] at eu2
  rw [db] at ev2
  have e21 := fun H => c21 hvw hvw (by omega) (m := 60000) (by omega) H
  have e25u := fun H => c25 hvu hvu ⟨by omega, fun r hr => by have := u2 r hr; omega⟩ (m := 60000) (by omega) H
  have e25d := fun H => c25 hvd hvd ⟨by omega, fun r hr => by have := d2 r hr; omega⟩ (m := 60000) (by omega) H
  simp only [decide_true] at e21 e25u e25d
  have e39 := fun H => c39 (k := k) hvw hvu hvd hw ⟨by omega, fun c hc => by have := u2 c hc; omega⟩ ⟨by omega, fun c hc => by have := d2 c hc; omega⟩ (m := 60000) (by omega) H
  have e22 := fun H => callPure_free (call := evF tab it 60000) (H := H) (by simp [idFreeL, hvw.free]) (by simp) (f22 hvw (by omega) (m := 60000) (by omega)) rfl
  have e40 := fun q (hq : q ≤ 60) H => c40 (k := q) hvw hvu hvd hw ⟨by omega, fun c hc => by have := u2 c hc; omega⟩ ⟨by omega, fun c hc => by have := d2 c hc; omega⟩ hq (m := 60000) (by omega) H
  have e23 := fun H => awakeN (m := 60000) (by omega) H
  have fw := fzL_free w
  have o1 := hu.one
  have o2 := hv.one
  have o3 := hvu.one
  have o4 := hvd.one
  have hbl : ∀ H, evP H (.bld [.nilS, .nilS] [(0, 1), (1, 1)]) [fzLL U', fzLL D'] = some (.agg [fzLL U', fzLL D']) := fun H => by
    simp [evP, fillParts, hvu.cellsV, hvd.cellsV, hvu.solid, hvd.solid, putPart]
  have f3 := hvu.free
  have f4 := hvd.free
  refine f_enter rfl rfl ?_
  generalize fzL w = vw at *
  generalize fzLL U' = vu at *
  generalize fzLL D' = vd at *
  generalize evF tab it 60000 = call at *
  have b0 : evE call [] (.box false) [.agg [u, v]] = some (.ptr 0 0, [some (.box [u, v])]) := e_boxF o1 o2
  have q0 : ∀ H i, evP H (.fldA 0) [.ptr i 0] = some (.ptr i 0) := fun H i => rfl
  have q1 : ∀ H i, evP H (.fldA 1) [.ptr i 0] = some (.ptr i 1) := fun H i => rfl
  have ld0 : ∀ X, evP (some (HO.box [u, v]) :: X) (.ld false 1) [.ptr 0 0] = some u := fun X => p_ldX (j := 0) rfl rfl
  have ld1 : ∀ X, evP (some (HO.box [u, v]) :: X) (.ld false 1) [.ptr 0 1] = some v := fun X => p_ldX (j := 1) rfl rfl
  have al1 : evE call [some (HO.box [u, v])] (.alloc false [.nilS, .nilS]) [] = some (.ptr 1 0, [some (.box [u, v]), some (.box [.nilS, .nilS])]) := rfl
  have st1 : evE call [some (HO.box [u, v]), some (.box [.nilS, .nilS])] (.st 2) [.ptr 1 0, .agg [vu, vd]] = some (.undef, [some (.box [u, v]), some (.box [vu, vd])]) := e_st2 rfl o3 o4
  have ld2 : ∀ a X, evP (a :: some (HO.box [vu, vd]) :: X) (.ld false 1) [.ptr 1 0] = some vu := fun a X => p_ldX (j := 0) rfl rfl
  have ld3 : ∀ a X, evP (a :: some (HO.box [vu, vd]) :: X) (.ld false 1) [.ptr 1 1] = some vd := fun a X => p_ldX (j := 1) rfl rfl
  have al2 : evE call [some (HO.box [u, v]), some (.box [vu, vd])] (.alloc false [.nilS, .nilS]) [] = some (.ptr 2 0, [some (.box [u, v]), some (.box [vu, vd]), some (.box [.nilS, .nilS])]) := rfl
  have st2 : evE call [some (HO.box [u, v]), some (.box [vu, vd]), some (.box [.nilS, .nilS])] (.st 2) [.ptr 2 0, .agg [vu, vd]] = some (.undef, [some (.box [u, v]), some (.box [vu, vd]), some (.box [vu, vd])]) := e_st2 rfl o3 o4
  have lda : ∀ a b X, evP (a :: b :: some (HO.box [vu, vd]) :: X) (.ld true 2) [.ptr 2 0] = some (.agg [vu, vd]) := fun a b X => p_ld2 rfl
  have ldb : ∀ a X, evP (a :: some (HO.box [vu, vd]) :: X) (.ld true 2) [.ptr 1 0] = some (.agg [vu, vd]) := fun a X => p_ld2 rfl
  have ld4 : ∀ a b X, evP (a :: b :: some (HO.box [vu, vd]) :: X) (.ld false 1) [.ptr 2 0] = some vu := fun a b X => p_ldX (j := 0) rfl rfl
  have ld5 : ∀ a b X, evP (a :: b :: some (HO.box [vu, vd]) :: X) (.ld false 1) [.ptr 2 1] = some vd := fun a b X => p_ldX (j := 1) rfl rfl
  unfold ans39 at e39
  by_cases hW : IsW w
  · simp only [hW, decide_true] at e22
    by_cases hk : 1 ≤ k ∧ k ≤ 60
    · rw [if_pos ⟨hW, hk⟩] at e39
      obtain ⟨q, rfl⟩ : ∃ q : Nat, k = (q : Int) := ⟨k.toNat, by omega⟩
      rw [Int.toNat_natCast] at e39
      have e40' := e40 q (by omega)
      by_cases hr : RightF w q U' D'
      · simp only [if_pos hr] at e39
        simp only [hr, decide_true] at e40'
        repeat' first
 | (apply s_mov; exact aW)
 | (apply s_gT; exact rfl)
 | (apply c_nil)
 | (apply s_pickT; exact rfl; exact aW)
 | (apply s_pickF; exact rfl; exact aW)
 | (apply s_notT; exact rfl)
 | (apply s_lss; exact rfl; all_goals (intro _; try (exfalso; omega)))
 | (apply s_gtr; exact rfl; all_goals (intro _; try (exfalso; omega)))
 | (apply s_eql; exact rfl; all_goals (intro _; try (exfalso; omega)))
 | (apply s_en; exact aO; exact b0)
 | (apply s_cn; exact aO; exact e19 _)
 | (apply s_pn; exact aO; exact q0 _ _)
 | (apply s_pn; exact aO; exact q1 _ _)
 | (apply s_pn; exact aO; exact ld0 _)
 | (apply s_pn; exact aO; exact ld1 _)
 | (apply s_cn; exact aO; exact eu _)
 | (apply s_cn; exact aO; exact ev _)
 | (apply s_pn; exact aO; exact hbl _)
 | (apply s_en; exact aO; exact al1)
 | (apply s_st; exact aO; exact st1)
 | (apply s_cn; exact aO; exact e19b _)
 | (apply s_pn; exact aO; exact ld2 _ _)
 | (apply s_pn; exact aO; exact ld3 _ _)
 | (apply s_cn; exact aO; exact eu2 _)
 | (apply s_cn; exact aO; exact ev2 _)
 | (apply s_en; exact aO; exact al2)
 | (apply s_st; exact aO; exact st2)
 | (apply s_pn; exact aO; exact lda _ _ _)
 | (apply s_cn; exact aO; exact e39 _)
 | (apply s_cn; exact aO; exact e21 _)
 | (apply s_pn; exact aO; exact ld4 _ _ _)
 | (apply s_pn; exact aO; exact ld5 _ _ _)
 | (apply s_cn; exact aO; exact e25u _)
 | (apply s_cn; exact aO; exact e25d _)
 | (apply s_cn; exact aO; exact e22 _)
 | (apply s_pn; exact aO; exact ldb _ _)
 | (apply s_cn; exact aO; exact e40' _)
 | (apply s_cn; exact aO; exact e23 _)
 | (apply c_seq)
 | (apply c_reg)
 | (apply c_skip)
 | (apply c_ret)
 | (apply c_condF; exact rfl)
 | (with_reducible apply k_c)
        all_goals first
          | (exfalso; omega)
          | exact fin_t (by (conv => lhs; whnf)) (by rfl) rfl
      · simp only [if_neg hr] at e39
        simp only [hr, decide_false] at e40'
        repeat' first
 | (apply s_mov; exact aW)
 | (apply s_gT; exact rfl)
 | (apply c_nil)
 | (apply s_pickT; exact rfl; exact aW)
 | (apply s_pickF; exact rfl; exact aW)
 | (apply s_notT; exact rfl)
 | (apply s_notF; exact rfl)
 | (apply s_lss; exact rfl; all_goals (intro _; try (exfalso; omega)))
 | (apply s_gtr; exact rfl; all_goals (intro _; try (exfalso; omega)))
 | (apply s_eql; exact rfl; all_goals (intro _; try (exfalso; omega)))
 | (apply s_en; exact aO; exact b0)
 | (apply s_cn; exact aO; exact e19 _)
 | (apply s_pn; exact aO; exact q0 _ _)
 | (apply s_pn; exact aO; exact q1 _ _)
 | (apply s_pn; exact aO; exact ld0 _)
 | (apply s_pn; exact aO; exact ld1 _)
 | (apply s_cn; exact aO; exact eu _)
 | (apply s_cn; exact aO; exact ev _)
 | (apply s_pn; exact aO; exact hbl _)
 | (apply s_en; exact aO; exact al1)
 | (apply s_st; exact aO; exact st1)
 | (apply s_cn; exact aO; exact e19b _)
 | (apply s_pn; exact aO; exact ld2 _ _)
 | (apply s_pn; exact aO; exact ld3 _ _)
 | (apply s_cn; exact aO; exact eu2 _)
 | (apply s_cn; exact aO; exact ev2 _)
 | (apply s_en; exact aO; exact al2)
 | (apply s_st; exact aO; exact st2)
 | (apply s_pn; exact aO; exact lda _ _ _)
 | (apply s_cn; exact aO; exact e39 _)
 | (apply s_cn; exact aO; exact e21 _)
 | (apply s_pn; exact aO; exact ld4 _ _ _)
 | (apply s_pn; exact aO; exact ld5 _ _ _)
 | (apply s_cn; exact aO; exact e25u _)
 | (apply s_cn; exact aO; exact e25d _)
 | (apply s_cn; exact aO; exact e22 _)
 | (apply s_pn; exact aO; exact ldb _ _)
 | (apply s_cn; exact aO; exact e40' _)
 | (apply s_cn; exact aO; exact e23 _)
 | (apply c_seq)
 | (apply c_reg)
 | (apply c_skip)
 | (apply c_ret)
 | (apply c_condT; exact rfl)
 | (apply c_condF; exact rfl)
 | (with_reducible apply k_c)
        all_goals first
          | (exfalso; omega)
          | exact fin_t (by (conv => lhs; whnf)) (by rfl) rfl
    · have hn : ¬ (IsW w ∧ 1 ≤ k ∧ k ≤ 60) := fun h => hk h.2
      rw [if_neg hn] at e39
      repeat' first
 | (apply s_mov; exact aW)
 | (apply s_gT; exact rfl)
 | (apply s_gF; exact rfl)
 | (apply c_nil)
 | (apply s_pickT; exact rfl; exact aW)
 | (apply s_pickF; exact rfl; exact aW)
 | (apply s_notT; exact rfl)
 | (apply s_lss; exact rfl; all_goals (intro _; try (exfalso; omega)))
 | (apply s_gtr; exact rfl; all_goals (intro _; try (exfalso; omega)))
 | (apply s_eql; exact rfl; all_goals (intro _; try (exfalso; omega)))
 | (apply s_en; exact aO; exact b0)
 | (apply s_cn; exact aO; exact e19 _)
 | (apply s_pn; exact aO; exact q0 _ _)
 | (apply s_pn; exact aO; exact q1 _ _)
 | (apply s_pn; exact aO; exact ld0 _)
 | (apply s_pn; exact aO; exact ld1 _)
 | (apply s_cn; exact aO; exact eu _)
 | (apply s_cn; exact aO; exact ev _)
 | (apply s_pn; exact aO; exact hbl _)
 | (apply s_en; exact aO; exact al1)
 | (apply s_st; exact aO; exact st1)
 | (apply s_cn; exact aO; exact e19b _)
 | (apply s_pn; exact aO; exact ld2 _ _)
 | (apply s_pn; exact aO; exact ld3 _ _)
 | (apply s_cn; exact aO; exact eu2 _)
 | (apply s_cn; exact aO; exact ev2 _)
 | (apply s_en; exact aO; exact al2)
 | (apply s_st; exact aO; exact st2)
 | (apply s_pn; exact aO; exact lda _ _ _)
 | (apply s_cn; exact aO; exact e39 _)
 | (apply s_cn; exact aO; exact e21 _)
 | (apply s_pn; exact aO; exact ld4 _ _ _)
 | (apply s_pn; exact aO; exact ld5 _ _ _)
 | (apply s_cn; exact aO; exact e25u _)
 | (apply s_cn; exact aO; exact e25d _)
 | (apply s_cn; exact aO; exact e22 _)
 | (apply s_cn; exact aO; exact e23 _)
 | (apply c_seq)
 | (apply c_reg)
 | (apply c_skip)
 | (apply c_ret)
 | (apply c_condT; exact rfl)
 | (apply c_condF; exact rfl)
 | (with_reducible apply k_c)
      all_goals first
        | (exfalso; omega)
        | exact fin_t (by (conv => lhs; whnf)) (by rfl) rfl
  · have hn : ¬ (IsW w ∧ 1 ≤ k ∧ k ≤ 60) := fun h => hW h.1
    rw [if_neg hn] at e39
    simp only [hW, decide_false] at e22
    repeat' first
 | (apply s_mov; exact aW)
 | (apply s_gT; exact rfl)
 | (apply s_gF; exact rfl)
 | (apply c_nil)
 | (apply s_pickT; exact rfl; exact aW)
 | (apply s_pickF; exact rfl; exact aW)
 | (apply s_notT; exact rfl)
 | (apply s_notF; exact rfl)
 | (apply s_eql; exact rfl; all_goals (intro _; try (exfalso; omega)))
 | (apply s_en; exact aO; exact b0)
 | (apply s_cn; exact aO; exact e19 _)
 | (apply s_pn; exact aO; exact q0 _ _)
 | (apply s_pn; exact aO; exact q1 _ _)
 | (apply s_pn; exact aO; exact ld0 _)
 | (apply s_pn; exact aO; exact ld1 _)
 | (apply s_cn; exact aO; exact eu _)
 | (apply s_cn; exact aO; exact ev _)
 | (apply s_pn; exact aO; exact hbl _)
 | (apply s_en; exact aO; exact al1)
 | (apply s_st; exact aO; exact st1)
 | (apply s_cn; exact aO; exact e19b _)
 | (apply s_pn; exact aO; exact ld2 _ _)
 | (apply s_pn; exact aO; exact ld3 _ _)
 | (apply s_cn; exact aO; exact eu2 _)
 | (apply s_cn; exact aO; exact ev2 _)
 | (apply s_en; exact aO; exact al2)
 | (apply s_st; exact aO; exact st2)
 | (apply s_pn; exact aO; exact lda _ _ _)
 | (apply s_cn; exact aO; exact e39 _)
 | (apply s_cn; exact aO; exact e21 _)
 | (apply s_pn; exact aO; exact ld4 _ _ _)
 | (apply s_pn; exact aO; exact ld5 _ _ _)
 | (apply s_cn; exact aO; exact e25u _)
 | (apply s_cn; exact aO; exact e25d _)
 | (apply s_cn; exact aO; exact e22 _)
 | (apply s_cn; exact aO; exact e23 _)
 | (apply c_seq)
 | (apply c_reg)
 | (apply c_skip)
 | (apply c_ret)
 | (apply c_condT; exact rfl)
 | (apply c_condF; exact rfl)
 | (with_reducible apply k_c)
    all_goals first
      | (exfalso; omega)
      | exact fin_t (by (conv => lhs; whnf)) (by rfl) rfl
end Go.AM.Tb
