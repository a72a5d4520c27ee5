/- A part of the proof: U55. -/
import Derived.Test.YtmegimhfoedcdaaU56
set_option linter.unusedSectionVars false
set_option linter.unusedVariables false
set_option linter.unusedSimpArgs false
namespace Go.AM.Ch
set_option maxHeartbeats 8000000
theorem sumI_gf (l : List Int) : sumI l = sumTo (gf l) l.length := rfl
/-- law 17 -/
theorem f17 {x y fv ov : AV} {b : List (List Int)} {l F O : List Int} {won : Bool} (hx : IsLL x b) (hbl : b.length < 9223372036854775808) (hy : IsL y l) (hF : IsL fv F) (hO : IsL ov O) : ∃ m H', evF tab it m 17 [x, y, .agg [.bool won, fv, ov]] [] = some (.bool true, H') := by
  obtain ⟨M, hM⟩ : ∃ M, M = smK + 30 := ⟨_, rfl⟩
  have hM1 : 100000 ≤ M := by have := smK_big; omega
  refine ⟨M + 1, [], ?_⟩
  have h25 := fun H => awakeN (m := M) (by omega) H
  have fx := hx.free; have fy := hy.free; have ff := hF.free; have fo := hO.free
  have e34 := fun H => c34 (w := 7) hx hbl (by decide) (m := M) (by omega) H
  have h1 := grow_isB b (w := 7) (by decide)
  have hn7 := (grN_le b (w := 7) (by decide)).2
  have hgl := growL_len b 7
  generalize growL b 7 = B at *
  have iB := isLL_fz B
  have hn1 := h1.n1
  have e36 := fun H => c36 (w := 100) iB hy hn1 (by omega) (by decide) (m := M) (by omega) H
  have h2 := stL_in B.length l 100 (by decide)
  have hs1 : ∀ v ∈ stL B.length l 100, -1099511627776 ≤ v ∧ v ≤ 1099511627776 := fun v hv => by have := h2.2 v hv; omega
  have hsl := stL_len B.length l 100
  generalize stL B.length l 100 = S at *
  have iS := isL_fz S
  have a3 := fun H => c19 hF (m := M) (by omega) H
  have a4 := fun H => c19 hO (m := M) (by omega) H
  have e32 := fun H => c32 iS (by omega) hs1 (m := M) (by omega) H
  have e42 := fun H => c42 iB h1 (m := M) (by omega) H
  have e39 := fun H => c39 iB iS h1 h2 (m := M) (by omega) H
  have hws := won_sum h1 h2
  have hon := once h1 h2
  rw [sumI_gf, hsl] at e32
  have iG := isL_fz (F.take 12)
  have iQ := isL_fz (O.take 12)
  have hGl : (F.take 12).length ≤ 1000 := by simp; omega
  have hQl : (O.take 12).length ≤ 1000 := by simp; omega
  have e50 := fun {o : AV} {O' : List Int} (ho : IsL o O') (hl : O'.length ≤ 1000) H => c50 (won := !wonB B S) iB iS iG ho (by omega) (by omega) hGl hl (m := M) (by omega) H
  have e50a := fun H => e50 iQ hQl H
  have e50b := fun H => e50 .nil (by simp) H
  simp only [h1, h2, and_self, if_true, hon, if_false] at e50a e50b
  clear e50
  have hdg : 0 ≤ degs B ∧ degs B ≤ 1000 := by
    have g := gr_of h1
    have a := sumTo_nn (f := fun v => deg B.length (ed B) v) (n := B.length) fun j hj => (deg_nn g hj).1
    have c := sumTo_le (f := fun v => deg B.length (ed B) v) (M := 36) (n := B.length) fun j hj => by have := deg_nn g hj; omega
    unfold degs
    omega
  have hRl := (redT_ok h1 S hn1).1
  have hol := ordB_len h1 S
  obtain ⟨pv, hpv, hp1⟩ : ∃ pv, (if wonB B S = true then AV.nilS else .rd 1 B.length (iL (ordB B S))) = pv ∧ pv.one = true := by
    cases wonB B S with
    | true => exact ⟨_, rfl, rfl⟩
    | false => exact ⟨_, rfl, rfl⟩
  simp only [hpv] at e39
  clear hpv
  have o1 : ∀ x : Bool, (AV.bool x).one = true := fun _ => rfl
  have of : fv.one = true := by cases hF <;> rfl
  have oo : ov.one = true := by cases hO <;> rfl
  have hF1 : (AV.rd 1 B.length (iL (redT B S 0))).one = true := rfl
  have oG : (fzL (F.take 12)).one = true := by have h := iG; generalize fzL (F.take 12) = z at h ⊢; generalize F.take 12 = F2 at h; cases h <;> rfl
  have oQ : (fzL (O.take 12)).one = true := by have h := iQ; generalize fzL (O.take 12) = z at h ⊢; generalize O.take 12 = O2 at h; cases h <;> rfl
  have cG := iG.cellsV; have cQ := iQ.cellsV; have sG := iG.solid; have sQ := iQ.solid
  have al : ∀ call H, evE call H (.alloc false [.bool false, .nilS, .nilS]) [] = some (.ptr H.length 0, H ++ [some (.box [.bool false, .nilS, .nilS])]) := fun call H => rfl
  generalize hvT : AV.rd 1 B.length (iL (redT B S 0)) = vT at *
  generalize fzL (F.take 12) = vG at *
  generalize fzL (O.take 12) = vQ at *
  generalize hW : wonB B S = W at *
  generalize sumTo (gf S) B.length = Z at *
  generalize degs B = D at *
  have ob : ∀ call, evE call [] (.box false) [.agg [.bool won, fv, ov]] = some (.ptr 0 0, [some (.box [.bool won, fv, ov])]) := fun call => by
    simp [evE, cells_agg, oneL, o1, of, oo, mkHO]
  have bl : ∀ H, evP H (.bld [.bool false, .nilS, .nilS] [(0, 1), (1, 1), (2, 1)]) [.bool (!W), vG, vQ] = some (.agg [.bool (!W), vG, vQ]) := fun H => by
    have c1 : (AV.bool (!W)).cells = [.bool (!W)] := rfl
    have s1 : (AV.bool (!W)).solid = true := rfl
    simp [evP, fillParts, putPart, c1, s1, cG, cQ, sG, sQ]
  have b2 : oneL [.bool (!W), vG, vQ] = true := by simp [oneL, o1, oG, oQ]
  have b3 : oneL [.bool W, vT, pv] = true := by simp [oneL, o1, hF1, hp1]
  clear hM
  refine f_enter rfl rfl ?_
  generalize evF tab it M = call at *
  have hds : D / 2 * 2 ≤ D ∧ D < D / 2 * 2 + 2 := by omega
  generalize D / 2 = D2 at *
  generalize fzLL B = vB at *
  generalize fzL S = vS at *
  have hz : ∀ (a c d : AV) (X Y : HO), evE call [some X, some Y, some (.box [a, c, d])] (.st 1) [.ptr 2 2, .nilS] = some (.undef, [some X, some Y, some (.box [a, c, .nilS])]) := fun a c d X Y => by
    simp [evE, stAt, oneL, AV.one, AV.cells, putRow]
  cases W with
  | true =>
    simp only [Bool.not_true] at bl b2 e50a
    have hw2 : ¬ Z < 0 := fun h => by have := hws.2 h; cases this
    repeat' first
 | (apply s_mov; (focus ((conv => lhs; whnf); done)))
 | (apply s_gT; exact rfl)
 | (apply s_gF; exact rfl)
 | (apply c_nil)
 | (apply s_pickT; exact rfl; (focus ((conv => lhs; whnf); done)))
 | (apply s_pickF; exact rfl; (focus ((conv => lhs; whnf); done)))
 | (apply s_notT; exact rfl)
 | ((first | apply s_lss | apply s_leq | apply s_gtr | apply s_geq | apply s_eql | apply s_neq); exact rfl; all_goals (intro _; try (exfalso; omega)))
 | (apply s_en; (focus (repeat (first | apply opds_nil | (apply opds_cons; (first | (focus ((conv => lhs; whnf); done)) | exact rfl))))); exact ob _)
 | (apply s_cn; (focus (repeat (first | apply opds_nil | (apply opds_cons; (first | (focus ((conv => lhs; whnf); done)) | exact rfl))))); exact e34 _)
 | (apply s_cn; (focus (repeat (first | apply opds_nil | (apply opds_cons; (first | (focus ((conv => lhs; whnf); done)) | exact rfl))))); exact e36 _)
 | (apply s_cn; (focus (repeat (first | apply opds_nil | (apply opds_cons; (first | (focus ((conv => lhs; whnf); done)) | exact rfl))))); exact e39 _)
 | (apply s_en; (focus (repeat (first | apply opds_nil | (apply opds_cons; (first | (focus ((conv => lhs; whnf); done)) | exact rfl))))); exact al _ _)
 | (apply s_st; (focus (repeat (first | apply opds_nil | (apply opds_cons; (first | (focus ((conv => lhs; whnf); done)) | exact rfl))))); exact e_stA' rfl rfl rfl b3 rfl)
 | (apply s_st; (focus (repeat (first | apply opds_nil | (apply opds_cons; (first | (focus ((conv => lhs; whnf); done)) | exact rfl))))); exact e_stA' rfl rfl rfl b2 rfl)
 | (apply s_cn; (focus (repeat (first | apply opds_nil | (apply opds_cons; (first | (focus ((conv => lhs; whnf); done)) | exact rfl))))); exact e32 _)
 | (apply s_cn; (focus (repeat (first | apply opds_nil | (apply opds_cons; (first | (focus ((conv => lhs; whnf); done)) | exact rfl))))); exact e42 _)
 | (apply s_cn; (focus (repeat (first | apply opds_nil | (apply opds_cons; (first | (focus ((conv => lhs; whnf); done)) | exact rfl))))); exact a3 _)
 | (apply s_cn; (focus (repeat (first | apply opds_nil | (apply opds_cons; (first | (focus ((conv => lhs; whnf); done)) | exact rfl))))); exact a4 _)
 | (apply s_pn; (focus (repeat (first | apply opds_nil | (apply opds_cons; (first | (focus ((conv => lhs; whnf); done)) | exact rfl))))); exact bl _)
 | (apply s_cn; (focus (repeat (first | apply opds_nil | (apply opds_cons; (first | (focus ((conv => lhs; whnf); done)) | exact rfl))))); exact e50a _)
 | (apply s_cn; (focus (repeat (first | apply opds_nil | (apply opds_cons; (first | (focus ((conv => lhs; whnf); done)) | exact rfl))))); exact h25 _)
 | (apply s_pd; (focus ((conv => lhs; whnf); done)))
 | (apply c_seq)
 | (apply c_reg)
 | (apply c_skip)
 | (apply c_ret)
 | (apply c_condF; exact rfl)
 | (with_reducible apply k_c)
    all_goals first
      | (exfalso; omega)
      | exact fin_t (by (conv => lhs; whnf)) (by rfl) rfl
  | false =>
    simp only [Bool.not_false] at bl b2 e50b
    have hst := hz (.bool true) vG vQ (.box [.bool won, fv, ov]) (.box [.bool false, vT, pv])
    have hw1 : ¬ D < 2 * Z + 2 * B.length := fun h => by have := hws.1 h; cases this
    repeat' first
 | (apply s_mov; (focus ((conv => lhs; whnf); done)))
 | (apply s_gT; exact rfl)
 | (apply s_gF; exact rfl)
 | (apply c_nil)
 | (apply s_pickT; exact rfl; (focus ((conv => lhs; whnf); done)))
 | (apply s_pickF; exact rfl; (focus ((conv => lhs; whnf); done)))
 | (apply s_notF; exact rfl)
 | ((first | apply s_lss | apply s_leq | apply s_gtr | apply s_geq | apply s_eql | apply s_neq); exact rfl; all_goals (intro _; try (exfalso; omega)))
 | (apply s_en; (focus (repeat (first | apply opds_nil | (apply opds_cons; (first | (focus ((conv => lhs; whnf); done)) | exact rfl))))); exact ob _)
 | (apply s_cn; (focus (repeat (first | apply opds_nil | (apply opds_cons; (first | (focus ((conv => lhs; whnf); done)) | exact rfl))))); exact e34 _)
 | (apply s_cn; (focus (repeat (first | apply opds_nil | (apply opds_cons; (first | (focus ((conv => lhs; whnf); done)) | exact rfl))))); exact e36 _)
 | (apply s_cn; (focus (repeat (first | apply opds_nil | (apply opds_cons; (first | (focus ((conv => lhs; whnf); done)) | exact rfl))))); exact e39 _)
 | (apply s_en; (focus (repeat (first | apply opds_nil | (apply opds_cons; (first | (focus ((conv => lhs; whnf); done)) | exact rfl))))); exact al _ _)
 | (apply s_st; (focus (repeat (first | apply opds_nil | (apply opds_cons; (first | (focus ((conv => lhs; whnf); done)) | exact rfl))))); exact e_stA' rfl rfl rfl b3 rfl)
 | (apply s_st; (focus (repeat (first | apply opds_nil | (apply opds_cons; (first | (focus ((conv => lhs; whnf); done)) | exact rfl))))); exact e_stA' rfl rfl rfl b2 rfl)
 | (apply s_cn; (focus (repeat (first | apply opds_nil | (apply opds_cons; (first | (focus ((conv => lhs; whnf); done)) | exact rfl))))); exact e32 _)
 | (apply s_cn; (focus (repeat (first | apply opds_nil | (apply opds_cons; (first | (focus ((conv => lhs; whnf); done)) | exact rfl))))); exact e42 _)
 | (apply s_cn; (focus (repeat (first | apply opds_nil | (apply opds_cons; (first | (focus ((conv => lhs; whnf); done)) | exact rfl))))); exact a3 _)
 | (apply s_cn; (focus (repeat (first | apply opds_nil | (apply opds_cons; (first | (focus ((conv => lhs; whnf); done)) | exact rfl))))); exact a4 _)
 | (apply s_pn; (focus (repeat (first | apply opds_nil | (apply opds_cons; (first | (focus ((conv => lhs; whnf); done)) | exact rfl))))); exact bl _)
 | (apply s_st; (focus (repeat (first | apply opds_nil | (apply opds_cons; (first | (focus ((conv => lhs; whnf); done)) | exact rfl))))); exact hst)
 | (apply s_cn; (focus (repeat (first | apply opds_nil | (apply opds_cons; (first | (focus ((conv => lhs; whnf); done)) | exact rfl))))); exact e50b _)
 | (apply s_cn; (focus (repeat (first | apply opds_nil | (apply opds_cons; (first | (focus ((conv => lhs; whnf); done)) | exact rfl))))); exact h25 _)
 | (apply s_pd; (focus ((conv => lhs; whnf); done)))
 | (apply c_seq)
 | (apply c_reg)
 | (apply c_skip)
 | (apply c_ret)
 | (apply c_condT; exact rfl)
 | (apply c_condF; exact rfl)
 | (with_reducible apply k_c)
    all_goals first
      | (exfalso; omega)
      | exact fin_t (by (conv => lhs; whnf)) (by rfl) rfl
end Go.AM.Ch
