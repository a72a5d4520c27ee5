/- A part of the proof: U22. -/
import Derived.Test.YtmegimhfoedcdaaU21
set_option linter.unusedSectionVars false
set_option linter.unusedVariables false
set_option linter.unusedSimpArgs false
namespace Go.AM.Ch
set_option maxHeartbeats 8000000
theorem c46 {x y fv ov : AV} {b : List (List Int)} {s F O : List Int} {won : Bool} (hx : IsLL x b) (hy : IsL y s) (hF : IsL fv F) (hO : IsL ov O) (hB : IsB b) (hs : InR b.length 1048576 s) (hFl : F.length ≤ 1000) (hOl : O.length ≤ 1000) {m : Nat} (hm : 2100 ≤ m) (H : Heap) :
    callPure (evF tab it m) true 46 [x, y, .agg [.bool won, fv, ov]] H = some (.bool (decide (RightW b s won F O)), H) :=
  callPure_free (by simp [idFreeL, AV.idFree, hx.free, hy.free, hF.free, hO.free]) (by simp) (f46 hx hy hF hO hB hs hFl hOl hm) rfl
/-- Check -/
theorem c50 {x y fv ov : AV} {b : List (List Int)} {s F O : List Int} {won : Bool} (hx : IsLL x b) (hy : IsL y s) (hF : IsL fv F) (hO : IsL ov O) (hl : b.length < 100) (hsl : s.length ≤ 1000) (hFl : F.length ≤ 1000) (hOl : O.length ≤ 1000) {m : Nat} (hm : 2200 ≤ m) (H : Heap) :
    callPure (evF tab it m) true 50 [x, y, .agg [.bool won, fv, ov]] H = some (.int .i64 (if IsB b ∧ InR b.length 1048576 s then (if RightW b s won F O then 0 else 10) else 2), H) := by
  have f50 : evF tab it m 50 [x, y, .agg [.bool won, fv, ov]] [] = some (.int .i64 (if IsB b ∧ InR b.length 1048576 s then (if RightW b s won F O then 0 else 10) else 2), []) := by
    obtain ⟨m, rfl⟩ : ∃ j, m = j + 1 := ⟨m - 1, by omega⟩
    have fx := hx.free; have fy := hy.free; have ff := hF.free; have fo := hO.free
    have e52 := fun H => c52 hx hy hl hsl (m := m) (by omega) H
    have e79 := fun (h : IsB b ∧ InR b.length 1048576 s) H => c79 (won := won) hx hy hF hO h.1 h.2 hFl hOl (m := m) (by omega) H
    refine f_enter rfl rfl ?_
    generalize evF tab it m = call at *
    have o1 : ∀ x : Bool, (AV.bool x).one = true := fun _ => rfl
    have of : fv.one = true := by cases hF <;> rfl
    have oo : ov.one = true := by cases hO <;> rfl
    have ob : evE call [] (.box false) [.agg [.bool won, fv, ov]] = some (.ptr 0 0, [some (.box [.bool won, fv, ov])]) := by
      simp [evE, cells_agg, oneL, o1, of, oo, mkHO]
    have la : evP [some (.box [.bool won, fv, ov])] (.ld true 3) [.ptr 0 0] = some (.agg [.bool won, fv, ov]) := rfl
    by_cases h1 : IsB b ∧ InR b.length 1048576 s
    · rw [if_pos h1] at e52 ⊢
      have e79' := e79 h1
      by_cases h2 : RightW b s won F O <;> simp only [h2, decide_true, decide_false, if_true, if_false] at e79' ⊢
      all_goals
        repeat' first
 | (apply s_mov; (focus ((conv => lhs; whnf); done)))
 | (apply c_nil)
 | (apply s_notT; exact rfl)
 | (apply s_notF; exact rfl)
 | ((first | apply s_lss | apply s_leq | apply s_gtr | apply s_geq | apply s_eql | apply s_neq); exact rfl; all_goals (intro _; try (exfalso; omega)))
 | (apply s_en; (focus (repeat (first | apply opds_nil | (apply opds_cons; (first | (focus ((conv => lhs; whnf); done)) | exact rfl))))); exact ob)
 | (apply s_pn; (focus (repeat (first | apply opds_nil | (apply opds_cons; (first | (focus ((conv => lhs; whnf); done)) | exact rfl))))); exact la)
 | (apply s_cn; (focus (repeat (first | apply opds_nil | (apply opds_cons; (first | (focus ((conv => lhs; whnf); done)) | exact rfl))))); exact e52 _)
 | (apply s_cn; (focus (repeat (first | apply opds_nil | (apply opds_cons; (first | (focus ((conv => lhs; whnf); done)) | exact rfl))))); exact e79' _)
 | (apply c_seq)
 | (apply c_reg)
 | (apply c_skip)
 | (apply c_ret)
 | (apply c_condT; exact rfl)
 | (apply c_condF; exact rfl)
 | (with_reducible apply k_c)
      all_goals exact fin_t (by (conv => lhs; whnf)) (by rfl) rfl
    · rw [if_neg h1] at e52 ⊢
      repeat' first
 | (apply s_mov; (focus ((conv => lhs; whnf); done)))
 | (apply c_nil)
 | ((first | apply s_lss | apply s_leq | apply s_gtr | apply s_geq | apply s_eql | apply s_neq); exact rfl; all_goals (intro _; try (exfalso; omega)))
 | (apply s_en; (focus (repeat (first | apply opds_nil | (apply opds_cons; (first | (focus ((conv => lhs; whnf); done)) | exact rfl))))); exact ob)
 | (apply s_cn; (focus (repeat (first | apply opds_nil | (apply opds_cons; (first | (focus ((conv => lhs; whnf); done)) | exact rfl))))); exact e52 _)
 | (apply c_seq)
 | (apply c_reg)
 | (apply c_ret)
 | (apply c_condT; exact rfl)
 | (with_reducible apply k_c)
      all_goals exact fin_t (by (conv => lhs; whnf)) (by rfl) rfl
  exact callPure_free (by simp [idFreeL, AV.idFree, hx.free, hy.free, hF.free, hO.free]) (by simp) f50 rfl
theorem e_stA {call : CallF} {H : Heap} {id n : Nat} {c vs : List AV} (hH : H[id]? = some (some (.box c))) (h1 : (AV.agg vs).cells = vs) (h2 : vs.length = n) (h3 : oneL vs = true) (h4 : c.length = n) : evE call H (.st n) [.ptr id 0, .agg vs] = some (.undef, H.set id (some (.box vs))) := by
  subst h2
  simp [evE, stAt, hH, h1, h3, h4, putRow, List.drop_of_length_le]
/-- law 16 -/
theorem f16 {x y fv ov : AV} {b : List (List Int)} {s F O : List Int} {won : Bool} (hx : IsLL x b) (hy : IsL y s) (hF : IsL fv F) (hO : IsL ov O) : ∃ m H', evF tab it m 16 [x, y, .agg [.bool won, fv, ov]] [] = some (.bool true, H') := by
  refine ⟨60001, [], ?_⟩
  have h25 := c25
  have fx := hx.free; have fy := hy.free; have ff := hF.free; have fo := hO.free
  have a1 := fun H => c18 hx (m := 60000) (by omega) H
  have a2 := fun H => c19 hy (m := 60000) (by omega) H
  have a3 := fun H => c19 hF (m := 60000) (by omega) H
  have a4 := fun H => c19 hO (m := 60000) (by omega) H
  have b1 := fun H => c18 (isLL_fz (b12 b)) (m := 60000) (by omega) H
  have b2' := fun H => c19 (isL_fz (s.take 12)) (m := 60000) (by omega) H
  have b3 := fun H => c19 (isL_fz (F.take 12)) (m := 60000) (by omega) H
  have b4 := fun H => c19 (isL_fz (O.take 12)) (m := 60000) (by omega) H
  rw [b12_idem] at b1
  simp only [List.take_take, Nat.min_self] at b2' b3 b4
  have lb : (b12 b).length ≤ 12 := by simp [b12]; omega
  have lb2 : ∀ l ∈ b12 b, l.length < 100 := fun l hl => by
    obtain ⟨r, _, rfl⟩ := List.mem_map.1 hl
    simp; omega
  have ls : (s.take 12).length ≤ 12 := by simp; omega
  have lF : (F.take 12).length ≤ 12 := by simp; omega
  have lO : (O.take 12).length ≤ 12 := by simp; omega
  generalize b12 b = B at *
  generalize s.take 12 = S at *
  generalize F.take 12 = G at *
  generalize O.take 12 = Q at *
  have iB := isLL_fz B; have iS := isL_fz S; have iG := isL_fz G; have iQ := isL_fz Q
  have e50 := fun H => c50 (won := won) iB iS iG iQ (by omega) (by omega) (by omega) (by omega) (m := 60000) (by omega) H
  have e21 := fun H => c21 iB iB ⟨by omega, lb2⟩ (m := 60000) (by omega) H
  have e22s := fun H => c22 iS iS (by omega) (m := 60000) (by omega) H
  have e22g := fun H => c22 iG iG (by omega) (m := 60000) (by omega) H
  have e22q := fun H => c22 iQ iQ (by omega) (m := 60000) (by omega) H
  have e23 := fun H => c23 iB (by omega) (m := 60000) (by omega) H
  have e24 := fun H => c24 iB iS (by omega) (m := 60000) (by omega) H
  have e46 := fun (h : IsB B ∧ InR B.length 1048576 S) H => c46 (won := won) iB iS iG iQ h.1 h.2 (by omega) (by omega) (m := 60000) (by omega) H
  simp only [decide_true] at e21 e22s e22g e22q
  refine f_enter rfl rfl ?_
  generalize evF tab it 60000 = call at *
  have o1 : ∀ x : Bool, (AV.bool x).one = true := fun _ => rfl
  have of : fv.one = true := by cases hF <;> rfl
  have oo : ov.one = true := by cases hO <;> rfl
  have ob : evE call [] (.box false) [.agg [.bool won, fv, ov]] = some (.ptr 0 0, [some (.box [.bool won, fv, ov])]) := by
    simp [evE, cells_agg, oneL, o1, of, oo, mkHO]
  have fB := iB.free; have fS := iS.free; have fG := iG.free; have fQ := iQ.free
  have oG : (fzL G).one = true := by have h := iG; generalize fzL G = z at h ⊢; cases h <;> rfl
  have oQ : (fzL Q).one = true := by have h := iQ; generalize fzL Q = z at h ⊢; cases h <;> rfl
  have cG := iG.cellsV; have cQ := iQ.cellsV; have sG := iG.solid; have sQ := iQ.solid
  generalize fzLL B = vB at *
  generalize fzL S = vS at *
  generalize fzL G = vG at *
  generalize fzL Q = vQ at *
  have bl : ∀ H, evP H (.bld [.bool false, .nilS, .nilS] [(0, 1), (1, 1), (2, 1)]) [.bool won, vG, vQ] = some (.agg [.bool won, vG, vQ]) := fun H => by
    have c1 : (AV.bool won).cells = [.bool won] := rfl
    have s1 : (AV.bool won).solid = true := rfl
    simp [evP, fillParts, putPart, c1, s1, cG, cQ, sG, sQ]
  have b2 : oneL [.bool won, vG, vQ] = true := by simp [oneL, o1, oG, oQ]
  by_cases h1 : IsB B <;> by_cases h2 : InR B.length 1048576 S <;> simp only [h1, h2, and_self, and_true, and_false, true_and, false_and, decide_true, decide_false, if_true, if_false] at e50 e23 e24 e46
  · have e46' := e46 trivial
    by_cases h3 : RightW B S won G Q <;> simp only [h3, decide_true, decide_false, if_true, if_false] at e50 e46'
    all_goals
      repeat' first
 | (apply s_mov; (focus ((conv => lhs; whnf); done)))
 | (apply s_gT; exact rfl)
 | (apply c_nil)
 | (apply s_pickT; exact rfl; (focus ((conv => lhs; whnf); done)))
 | (apply s_pickF; exact rfl; (focus ((conv => lhs; whnf); done)))
 | (apply s_notT; exact rfl)
 | (apply s_notF; exact rfl)
 | ((first | apply s_lss | apply s_leq | apply s_gtr | apply s_geq | apply s_eql | apply s_neq); exact rfl; all_goals (intro _; try (exfalso; omega)))
 | (apply s_en; (focus (repeat (first | apply opds_nil | (apply opds_cons; (first | (focus ((conv => lhs; whnf); done)) | exact rfl))))); exact ob)
 | (apply s_pn; (focus (repeat (first | apply opds_nil | (apply opds_cons; (first | (focus ((conv => lhs; whnf); done)) | exact rfl))))); exact bl _)
 | (apply s_st; (focus (repeat (first | apply opds_nil | (apply opds_cons; (first | (focus ((conv => lhs; whnf); done)) | exact rfl))))); exact e_stA rfl rfl rfl b2 rfl)
 | (apply s_cn; (focus (repeat (first | apply opds_nil | (apply opds_cons; (first | (focus ((conv => lhs; whnf); done)) | exact rfl))))); exact a1 _)
 | (apply s_cn; (focus (repeat (first | apply opds_nil | (apply opds_cons; (first | (focus ((conv => lhs; whnf); done)) | exact rfl))))); exact a2 _)
 | (apply s_cn; (focus (repeat (first | apply opds_nil | (apply opds_cons; (first | (focus ((conv => lhs; whnf); done)) | exact rfl))))); exact a3 _)
 | (apply s_cn; (focus (repeat (first | apply opds_nil | (apply opds_cons; (first | (focus ((conv => lhs; whnf); done)) | exact rfl))))); exact a4 _)
 | (apply s_cn; (focus (repeat (first | apply opds_nil | (apply opds_cons; (first | (focus ((conv => lhs; whnf); done)) | exact rfl))))); exact b1 _)
 | (apply s_cn; (focus (repeat (first | apply opds_nil | (apply opds_cons; (first | (focus ((conv => lhs; whnf); done)) | exact rfl))))); exact b2' _)
 | (apply s_cn; (focus (repeat (first | apply opds_nil | (apply opds_cons; (first | (focus ((conv => lhs; whnf); done)) | exact rfl))))); exact b3 _)
 | (apply s_cn; (focus (repeat (first | apply opds_nil | (apply opds_cons; (first | (focus ((conv => lhs; whnf); done)) | exact rfl))))); exact b4 _)
 | (apply s_cn; (focus (repeat (first | apply opds_nil | (apply opds_cons; (first | (focus ((conv => lhs; whnf); done)) | exact rfl))))); exact e50 _)
 | (apply s_cn; (focus (repeat (first | apply opds_nil | (apply opds_cons; (first | (focus ((conv => lhs; whnf); done)) | exact rfl))))); exact e21 _)
 | (apply s_cn; (focus (repeat (first | apply opds_nil | (apply opds_cons; (first | (focus ((conv => lhs; whnf); done)) | exact rfl))))); exact e22s _)
 | (apply s_cn; (focus (repeat (first | apply opds_nil | (apply opds_cons; (first | (focus ((conv => lhs; whnf); done)) | exact rfl))))); exact e22g _)
 | (apply s_cn; (focus (repeat (first | apply opds_nil | (apply opds_cons; (first | (focus ((conv => lhs; whnf); done)) | exact rfl))))); exact e22q _)
 | (apply s_cn; (focus (repeat (first | apply opds_nil | (apply opds_cons; (first | (focus ((conv => lhs; whnf); done)) | exact rfl))))); exact e23 _)
 | (apply s_cn; (focus (repeat (first | apply opds_nil | (apply opds_cons; (first | (focus ((conv => lhs; whnf); done)) | exact rfl))))); exact e24 _)
 | (apply s_cn; (focus (repeat (first | apply opds_nil | (apply opds_cons; (first | (focus ((conv => lhs; whnf); done)) | exact rfl))))); exact e46' _)
 | (apply s_cn; (focus (repeat (first | apply opds_nil | (apply opds_cons; (first | (focus ((conv => lhs; whnf); done)) | exact rfl))))); exact h25 _)
 | (apply isE; apply s_ed; (focus ((conv => lhs; whnf); done)))
 | (apply s_pd; (focus ((conv => lhs; whnf); done)))
 | (apply c_seq)
 | (apply c_reg)
 | (apply c_skip)
 | (apply c_ret)
 | (apply c_condT; exact rfl)
 | (apply c_condF; exact rfl)
 | (with_reducible apply k_c)
    all_goals exact fin_t (by (conv => lhs; whnf)) (by rfl) rfl
  all_goals
    repeat' first
 | (apply s_mov; (focus ((conv => lhs; whnf); done)))
 | (apply s_gT; exact rfl)
 | (apply s_gF; exact rfl)
 | (apply s_gFD; exact rfl)
 | (apply c_nil)
 | (apply s_pickT; exact rfl; (focus ((conv => lhs; whnf); done)))
 | (apply s_pickF; exact rfl; (focus ((conv => lhs; whnf); done)))
 | (apply s_notT; exact rfl)
 | (apply s_notF; exact rfl)
 | ((first | apply s_lss | apply s_leq | apply s_gtr | apply s_geq | apply s_eql | apply s_neq); exact rfl; all_goals (intro _; try (exfalso; omega)))
 | (apply s_en; (focus (repeat (first | apply opds_nil | (apply opds_cons; (first | (focus ((conv => lhs; whnf); done)) | exact rfl))))); exact ob)
 | (apply s_pn; (focus (repeat (first | apply opds_nil | (apply opds_cons; (first | (focus ((conv => lhs; whnf); done)) | exact rfl))))); exact bl _)
 | (apply s_st; (focus (repeat (first | apply opds_nil | (apply opds_cons; (first | (focus ((conv => lhs; whnf); done)) | exact rfl))))); exact e_stA rfl rfl rfl b2 rfl)
 | (apply s_cn; (focus (repeat (first | apply opds_nil | (apply opds_cons; (first | (focus ((conv => lhs; whnf); done)) | exact rfl))))); exact a1 _)
 | (apply s_cn; (focus (repeat (first | apply opds_nil | (apply opds_cons; (first | (focus ((conv => lhs; whnf); done)) | exact rfl))))); exact a2 _)
 | (apply s_cn; (focus (repeat (first | apply opds_nil | (apply opds_cons; (first | (focus ((conv => lhs; whnf); done)) | exact rfl))))); exact a3 _)
 | (apply s_cn; (focus (repeat (first | apply opds_nil | (apply opds_cons; (first | (focus ((conv => lhs; whnf); done)) | exact rfl))))); exact a4 _)
 | (apply s_cn; (focus (repeat (first | apply opds_nil | (apply opds_cons; (first | (focus ((conv => lhs; whnf); done)) | exact rfl))))); exact b1 _)
 | (apply s_cn; (focus (repeat (first | apply opds_nil | (apply opds_cons; (first | (focus ((conv => lhs; whnf); done)) | exact rfl))))); exact b2' _)
 | (apply s_cn; (focus (repeat (first | apply opds_nil | (apply opds_cons; (first | (focus ((conv => lhs; whnf); done)) | exact rfl))))); exact b3 _)
 | (apply s_cn; (focus (repeat (first | apply opds_nil | (apply opds_cons; (first | (focus ((conv => lhs; whnf); done)) | exact rfl))))); exact b4 _)
 | (apply s_cn; (focus (repeat (first | apply opds_nil | (apply opds_cons; (first | (focus ((conv => lhs; whnf); done)) | exact rfl))))); exact e50 _)
 | (apply s_cn; (focus (repeat (first | apply opds_nil | (apply opds_cons; (first | (focus ((conv => lhs; whnf); done)) | exact rfl))))); exact e21 _)
 | (apply s_cn; (focus (repeat (first | apply opds_nil | (apply opds_cons; (first | (focus ((conv => lhs; whnf); done)) | exact rfl))))); exact e22s _)
 | (apply s_cn; (focus (repeat (first | apply opds_nil | (apply opds_cons; (first | (focus ((conv => lhs; whnf); done)) | exact rfl))))); exact e22g _)
 | (apply s_cn; (focus (repeat (first | apply opds_nil | (apply opds_cons; (first | (focus ((conv => lhs; whnf); done)) | exact rfl))))); exact e22q _)
 | (apply s_cn; (focus (repeat (first | apply opds_nil | (apply opds_cons; (first | (focus ((conv => lhs; whnf); done)) | exact rfl))))); exact e23 _)
 | (apply s_cn; (focus (repeat (first | apply opds_nil | (apply opds_cons; (first | (focus ((conv => lhs; whnf); done)) | exact rfl))))); exact e24 _)
 | (apply s_cn; (focus (repeat (first | apply opds_nil | (apply opds_cons; (first | (focus ((conv => lhs; whnf); done)) | exact rfl))))); exact h25 _)
 | (apply isE; apply s_ed; (focus ((conv => lhs; whnf); done)))
 | (apply s_pd; (focus ((conv => lhs; whnf); done)))
 | (apply c_seq)
 | (apply c_reg)
 | (apply c_skip)
 | (apply c_ret)
 | (apply c_condT; exact rfl)
 | (apply c_condF; exact rfl)
 | (with_reducible apply k_c)
  all_goals exact fin_t (by (conv => lhs; whnf)) (by rfl) rfl
end Go.AM.Ch
