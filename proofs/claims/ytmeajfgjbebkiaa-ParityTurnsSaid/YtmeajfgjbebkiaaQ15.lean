/- A part of the proof: Q15. -/
import Derived.Test.YtmeajfgjbebkiaaQ14
set_option linter.unusedSectionVars false
set_option linter.unusedVariables false
set_option linter.unusedSimpArgs false
namespace Go.AM.Pa
theorem getI_map (f : Int → Int) (l : List Int) (i : Nat) (h : i < l.length) : getI (l.map f) i = f (getI l i) := by
  simp [getI_nat, List.getD, h]
set_option maxHeartbeats 4000000
theorem f8 {x : AV} {a : Gm} (hx : IsG x a) : ∃ m H', evF tab it m 8 [x] [] = some (.bool true, H') := by
  refine ⟨201, [], ?_⟩
  obtain ⟨xo, xr, xn, rfl, ho, hr, hn⟩ := id hx
  have fo := ho.free; have fr := hr.free; have fn := hn.free
  have ob : ∀ call, evE call [] (.box false) [.agg [xo, xr, xn]] = some (.ptr 0 0, [some (.box [xo, xr, xn])]) := fun call => by simp [evE, AV.cells, oneL, ho.one, hr.one, hn.one, mkHO]
  have h16 := fun H => c16 hx (m := 200) (by omega) H
  have hzo := isL_fz (g30 a).owner
  have hzr := isL_fz (g30 a).rank
  have hzn := isLL_fz (g30 a).next
  have hgl := g30_len a
  have hgr := g30_row (a := a)
  have hG := isG_fz (g30 a)
  unfold fzG at h16 hG
  generalize g30 a = g at *
  generalize fzL g.owner = zo at *
  generalize fzL g.rank = zr at *
  generalize fzLL g.next = zn at *
  have go := hzo.free; have gr := hzr.free; have gn := hzn.free
  have stG : ∀ call H id, H[id]? = some (some (.box [.nilS, .nilS, .nilS])) → evE call H (.st 3) [.ptr id 0, .agg [zo, zr, zn]] = some (.undef, H.set id (some (.box [zo, zr, zn]))) := fun call H id h => e_st3 hzo.one hzr.one hzn.one h
  have h19 := fun H => c19 hG hG ⟨by omega, by omega, by omega, fun l hl => by have := hgr l hl; omega⟩ (m := 200) (by omega) H
  simp only [and_self, decide_true] at h19
  have h33 := fun H => f33 hG ⟨by omega, by omega, hgr⟩ 200 (by omega) H
  have h21 := fun H => c21 hG ⟨by omega, fun l hl => by have := hgr l hl; omega⟩ (m := 200) (by omega) H
  have h23 := c23
  have hrow := getLL_lt hgr (by omega)
  by_cases hc : Good g ∧ ¬ (9 : Int) ∈ g.rank
  · simp only [if_pos hc] at h33
    obtain ⟨hg, h9⟩ := hc
    have hg1 := hg.1; have hg2 := hg.2.1; have hg3 := hg.2.2.1
    have h9' : ∀ j : Nat, j < g.rank.length → getI g.rank j ≠ 9 := fun j hj e => h9 (by rw [← e, getI_nat]; simp [List.getD, hj])
    have hto := isL_fz (turnG g).owner
    have htr := isL_fz (turnG g).rank
    have htn := isLL_fz (turnG g).next
    have l1 : (turnG g).owner.length = g.next.length := by simp [turnG, hg2]
    have l2 : (turnG g).rank.length = g.next.length := by simp [turnG, hg3]
    have l3 : (turnG g).next = g.next := rfl
    have m1 : ∀ i : Nat, i < g.next.length → getI (turnG g).owner i = 1 - getI g.owner i := fun i h => getI_map _ _ _ (by omega)
    have m2 : ∀ i : Nat, i < g.next.length → getI (turnG g).rank i = getI g.rank i + 1 := fun i h => getI_map _ _ _ (by omega)
    unfold fzG at h33
    rw [l3] at htn h33
    generalize (turnG g).owner = tO at *
    generalize (turnG g).rank = tR at *
    generalize fzL tO = to at *
    generalize fzL tR = tr at *
    generalize fzLL g.next = tn at *
    have ko := hto.free; have kr := htr.free; have kn := htn.free
    have stT : ∀ call H id, H[id]? = some (some (.box [.nilS, .nilS, .nilS])) → evE call H (.st 3) [.ptr id 0, .agg [to, tr, tn]] = some (.undef, H.set id (some (.box [to, tr, tn]))) := fun call H id h => e_st3 hto.one htr.one htn.one h
    have h20 := fun (i : Int) (hi : 0 ≤ i ∧ i < g.next.length) H => c20 (htn.at hi) (hzn.at hi) (by have := hrow i; omega) (m := 200) (by omega) H
    simp only [decide_true] at h20
    refine f_enter rfl rfl ?_
    generalize evF tab it 200 = call at *
    repeat' first
      | (apply s_mov; (focus ((conv => lhs; whnf); done)))
      | (apply s_gT; exact rfl)
      | (apply s_gF; exact rfl)
      | (apply s_gFD; exact rfl)
      | (apply s_gFE; exact rfl)
      | apply c_nil
      | (apply s_pickT; exact rfl; (focus ((conv => lhs; whnf); done)))
      | (apply s_pickF; exact rfl; (focus ((conv => lhs; whnf); done)))
      | (apply s_notT; exact rfl)
      | (apply s_notF; exact rfl)
      | (apply s_lss; exact rfl; all_goals (intro _; try (exfalso; omega)))
      | (apply s_leq; exact rfl; all_goals (intro _; try (exfalso; omega)))
      | (apply s_gtr; exact rfl; all_goals (intro _; try (exfalso; omega)))
      | (apply s_geq; exact rfl; all_goals (intro _; try (exfalso; omega)))
      | (apply s_eql; exact rfl; all_goals (intro _; try (exfalso; omega)))
      | (apply s_neq; exact rfl; all_goals (intro _; try (exfalso; omega)))
      | (apply s_add; exact rfl; omega)
      | (apply s_sub; exact rfl; omega)
      | (apply s_en; (focus (repeat (first | apply opds_nil | (apply opds_cons; (first | (focus ((conv => lhs; whnf); done)) | exact rfl))))); exact ob _)
      | (apply s_cn; (focus (repeat (first | apply opds_nil | (apply opds_cons; (first | (focus ((conv => lhs; whnf); done)) | exact rfl))))); exact h16 _)
      | (apply s_cn; (focus (repeat (first | apply opds_nil | (apply opds_cons; (first | (focus ((conv => lhs; whnf); done)) | exact rfl))))); exact h33 _)
      | (apply s_cn; (focus (repeat (first | apply opds_nil | (apply opds_cons; (first | (focus ((conv => lhs; whnf); done)) | exact rfl))))); exact h19 _)
      | (apply isE; refine s_cB (by (focus (repeat (first | apply opds_nil | (apply opds_cons; (first | (focus ((conv => lhs; whnf); done)) | exact rfl)))))) (h21 _) (fun _ => ?_) (fun _ => ?_))
      | (apply s_st; (focus (repeat (first | apply opds_nil | (apply opds_cons; (first | (focus ((conv => lhs; whnf); done)) | exact rfl))))); exact stG _ _ _ rfl)
      | (apply s_st; (focus (repeat (first | apply opds_nil | (apply opds_cons; (first | (focus ((conv => lhs; whnf); done)) | exact rfl))))); exact stT _ _ _ rfl)
      | (apply isE; apply s_ed; (focus ((conv => lhs; whnf); done)))
      | (apply s_len; (focus ((conv => lhs; whnf); done)); (first | assumption | (apply IsLL.at; assumption; omega)))
      | (apply s_lenLL; (focus ((conv => lhs; whnf); done)); assumption)
      | (apply s_lenRd; exact rfl)
      | (apply s_lenSl; exact rfl)
      | (apply s_idx; (focus ((conv => lhs; whnf); done)); exact rfl; (first | assumption | (apply IsLL.at; assumption; omega)); omega)
      | (apply s_idxLL; (focus ((conv => lhs; whnf); done)); exact rfl; assumption; omega)
      | (apply s_idxP; exact rfl; exact rfl; omega)
      | (apply s_ldB; exact rfl; exact rfl; omega; all_goals intro _)
      | (apply s_ldRB; exact rfl; omega; all_goals intro _)
      | (apply s_idxRB; exact rfl; exact rfl; omega)
      | (apply s_idxS; exact rfl; exact rfl; omega)
      | (apply s_ldI; exact rfl; omega)
      | (apply s_ldLL; exact rfl; assumption; omega)
      | (apply s_pd; (focus ((conv => lhs; whnf); done)))
      | apply c_seq
      | apply c_reg
      | apply c_block
      | apply c_exitH
      | apply c_skip
      | apply c_ret
      | (apply c_condT; exact rfl)
      | (apply c_condF; exact rfl)
      | (apply c_exitM; exact rfl)
      | (apply c_preF; (focus (repeat (first | apply looks_nil | (apply looks_cons; (focus ((conv => lhs; whnf); done)))))); (focus (simp [idFreeL, AV.idFree, *]; done)))
      | with_reducible apply k_c
    any_goals contradiction
    refine c_loop ?_
    refine loop_gc (σ := Nat) (fun i => [.ptr 0 0, .ptr 1 0, .int .i64 0, .bool false, .int .i64 i]) (fun _ => [some (.box [zo, zr, zn]), some (.box [to, tr, tn])]) (fun i => i ≤ g.rank.length) (fun i => g.rank.length - i) ?_ _ 0 _ _ (by omega) (by omega) (by simp [gc, subHeap, reach_skip, ren_free, reach_new, reach_newp, reach_end, rangeL, roots, boxCells, nodupB, posOf, renL, AV.ren, pickO, renH, renO, looks, look, bindEnv, envOf, reach_int, reach_bool, reach_nilS, reach_rd, putRow, cells_sl, cells_int, cells_bool, cells_nilS, cells_rd, cells_agg, reach_agg, reach_tup, idFreeL, idf_sl, idf_ptr, idf_int, idf_bool, idf_nilS, idf_rd, fo, fr, fn, go, gr, gn, ko, kr, kn]; done)
    intro i hi K hK
    have h9i := h9' i
    repeat' first
      | (apply s_mov; (focus ((conv => lhs; whnf); done)))
      | (apply s_gT; exact rfl)
      | (apply s_gF; exact rfl)
      | (apply s_gFD; exact rfl)
      | (apply s_gFE; exact rfl)
      | apply c_nil
      | (apply s_pickT; exact rfl; (focus ((conv => lhs; whnf); done)))
      | (apply s_pickF; exact rfl; (focus ((conv => lhs; whnf); done)))
      | (apply s_notT; exact rfl)
      | (apply s_notF; exact rfl)
      | (apply s_lss; exact rfl; all_goals (intro _; try (exfalso; omega)))
      | (apply s_leq; exact rfl; all_goals (intro _; try (exfalso; omega)))
      | (apply s_gtr; exact rfl; all_goals (intro _; try (exfalso; omega)))
      | (apply s_geq; exact rfl; all_goals (intro _; try (exfalso; omega)))
      | (apply s_eql; exact rfl; all_goals (intro _; try (exfalso; omega)))
      | (apply s_neq; exact rfl; all_goals (intro _; try (exfalso; omega)))
      | (apply s_add; exact rfl; omega)
      | (apply s_sub; exact rfl; omega)
      | (apply s_len; (focus ((conv => lhs; whnf); done)); (first | assumption | (apply IsLL.at; assumption; omega)))
      | (apply s_lenLL; (focus ((conv => lhs; whnf); done)); assumption)
      | (apply s_lenRd; exact rfl)
      | (apply s_lenSl; exact rfl)
      | (apply s_idx; (focus ((conv => lhs; whnf); done)); exact rfl; (first | assumption | (apply IsLL.at; assumption; omega)); omega)
      | (apply s_idxLL; (focus ((conv => lhs; whnf); done)); exact rfl; assumption; omega)
      | (apply s_idxP; exact rfl; exact rfl; omega)
      | (apply s_ldB; exact rfl; exact rfl; omega; all_goals intro _)
      | (apply s_ldRB; exact rfl; omega; all_goals intro _)
      | (apply s_idxRB; exact rfl; exact rfl; omega)
      | (apply s_idxS; exact rfl; exact rfl; omega)
      | (apply s_ldI; exact rfl; omega)
      | (apply s_ldLL; exact rfl; assumption; omega)
      | (apply s_pd; (focus ((conv => lhs; whnf); done)))
      | apply c_seq
      | apply c_reg
      | apply c_block
      | apply c_exitH
      | apply c_skip
      | apply c_ret
      | (apply c_condT; exact rfl)
      | (apply c_condF; exact rfl)
      | (apply c_exitM; exact rfl)
      | (apply c_preF; (focus (repeat (first | apply looks_nil | (apply looks_cons; (focus ((conv => lhs; whnf); done)))))); (focus (simp [idFreeL, AV.idFree, *]; done)))
      | with_reducible apply k_c
    · exact hK (i + 1) _ _ (by omega) (by omega) (by simp [gc, subHeap, reach_skip, ren_free, reach_new, reach_newp, reach_end, rangeL, roots, boxCells, nodupB, posOf, renL, AV.ren, pickO, renH, renO, looks, look, bindEnv, envOf, reach_int, reach_bool, reach_nilS, reach_rd, putRow, cells_sl, cells_int, cells_bool, cells_nilS, cells_rd, cells_agg, reach_agg, reach_tup, idFreeL, idf_sl, idf_ptr, idf_int, idf_bool, idf_nilS, idf_rd, go, gr, gn, ko, kr, kn]; done)
    · clear hK h9i
      refine c_pre (vs := [.ptr 0 0, .ptr 1 0, .int .i64 0, .bool false]) (H' := [some (.box [zo, zr, zn]), some (.box [to, tr, tn])]) (by simp [gc, subHeap, reach_skip, ren_free, reach_new, reach_newp, reach_end, rangeL, roots, boxCells, nodupB, posOf, renL, AV.ren, pickO, renH, renO, looks, look, bindEnv, envOf, reach_int, reach_bool, reach_nilS, reach_rd, putRow, cells_sl, cells_int, cells_bool, cells_nilS, cells_rd, cells_agg, reach_agg, reach_tup, idFreeL, idf_sl, idf_ptr, idf_int, idf_bool, idf_nilS, idf_rd, go, gr, gn, ko, kr, kn]; done) ?_
      repeat' first
        | (apply s_mov; (focus ((conv => lhs; whnf); done)))
        | (apply s_gT; exact rfl)
        | (apply s_gF; exact rfl)
        | (apply s_gFD; exact rfl)
        | (apply s_gFE; exact rfl)
        | apply c_nil
        | (apply s_pickT; exact rfl; (focus ((conv => lhs; whnf); done)))
        | (apply s_pickF; exact rfl; (focus ((conv => lhs; whnf); done)))
        | (apply s_notT; exact rfl)
        | (apply s_notF; exact rfl)
        | (apply s_lss; exact rfl; all_goals (intro _; try (exfalso; omega)))
        | (apply s_leq; exact rfl; all_goals (intro _; try (exfalso; omega)))
        | (apply s_gtr; exact rfl; all_goals (intro _; try (exfalso; omega)))
        | (apply s_geq; exact rfl; all_goals (intro _; try (exfalso; omega)))
        | (apply s_eql; exact rfl; all_goals (intro _; try (exfalso; omega)))
        | (apply s_neq; exact rfl; all_goals (intro _; try (exfalso; omega)))
        | (apply s_add; exact rfl; omega)
        | (apply s_sub; exact rfl; omega)
        | (apply s_len; (focus ((conv => lhs; whnf); done)); (first | assumption | (apply IsLL.at; assumption; omega)))
        | (apply s_lenLL; (focus ((conv => lhs; whnf); done)); assumption)
        | (apply s_lenRd; exact rfl)
        | (apply s_lenSl; exact rfl)
        | (apply s_idx; (focus ((conv => lhs; whnf); done)); exact rfl; (first | assumption | (apply IsLL.at; assumption; omega)); omega)
        | (apply s_idxLL; (focus ((conv => lhs; whnf); done)); exact rfl; assumption; omega)
        | (apply s_idxP; exact rfl; exact rfl; omega)
        | (apply s_ldB; exact rfl; exact rfl; omega; all_goals intro _)
        | (apply s_ldRB; exact rfl; omega; all_goals intro _)
        | (apply s_idxRB; exact rfl; exact rfl; omega)
        | (apply s_idxS; exact rfl; exact rfl; omega)
        | (apply s_ldI; exact rfl; omega)
        | (apply s_ldLL; exact rfl; assumption; omega)
        | (apply s_pd; (focus ((conv => lhs; whnf); done)))
        | apply c_seq
        | apply c_reg
        | apply c_block
        | apply c_exitH
        | apply c_skip
        | apply c_ret
        | (apply c_condT; exact rfl)
        | (apply c_condF; exact rfl)
        | (apply c_exitM; exact rfl)
        | (apply c_preF; (focus (repeat (first | apply looks_nil | (apply looks_cons; (focus ((conv => lhs; whnf); done)))))); (focus (simp [idFreeL, AV.idFree, *]; done)))
        | with_reducible apply k_c
      refine c_loop ?_
      refine loop_gc (σ := Nat) (fun i => [.ptr 0 0, .ptr 1 0, .int .i64 i]) (fun _ => [some (.box [zo, zr, zn]), some (.box [to, tr, tn])]) (fun i => i ≤ g.owner.length) (fun i => g.owner.length - i) ?_ _ 0 _ _ (by omega) (by omega) (by simp [gc, subHeap, reach_skip, ren_free, reach_new, reach_newp, reach_end, rangeL, roots, boxCells, nodupB, posOf, renL, AV.ren, pickO, renH, renO, looks, look, bindEnv, envOf, reach_int, reach_bool, reach_nilS, reach_rd, putRow, cells_sl, cells_int, cells_bool, cells_nilS, cells_rd, cells_agg, reach_agg, reach_tup, idFreeL, idf_sl, idf_ptr, idf_int, idf_bool, idf_nilS, idf_rd, go, gr, gn, ko, kr, kn]; done)
      intro i hi K hK
      have m1i := m1 i
      have m2i := m2 i
      have hok : i < g.next.length → (0 ≤ getI g.owner i ∧ getI g.owner i ≤ 1) ∧ (0 ≤ getI g.rank i ∧ getI g.rank i ≤ 9) := fun h => ⟨(hg.2.2.2 i h).1, (hg.2.2.2 i h).2.1⟩
      repeat' first
        | (apply s_mov; (focus ((conv => lhs; whnf); done)))
        | (apply s_gT; exact rfl)
        | (apply s_gF; exact rfl)
        | (apply s_gFD; exact rfl)
        | (apply s_gFE; exact rfl)
        | apply c_nil
        | (apply s_pickT; exact rfl; (focus ((conv => lhs; whnf); done)))
        | (apply s_pickF; exact rfl; (focus ((conv => lhs; whnf); done)))
        | (apply s_notT; exact rfl)
        | (apply s_notF; exact rfl)
        | (apply s_lss; exact rfl; all_goals (intro _; try (exfalso; omega)))
        | (apply s_leq; exact rfl; all_goals (intro _; try (exfalso; omega)))
        | (apply s_gtr; exact rfl; all_goals (intro _; try (exfalso; omega)))
        | (apply s_geq; exact rfl; all_goals (intro _; try (exfalso; omega)))
        | (apply s_eql; exact rfl; all_goals (intro _; try (exfalso; omega)))
        | (apply s_neq; exact rfl; all_goals (intro _; try (exfalso; omega)))
        | (apply s_add; exact rfl; omega)
        | (apply s_sub; exact rfl; omega)
        | (apply s_cn; (focus (repeat (first | apply opds_nil | (apply opds_cons; (first | (focus ((conv => lhs; whnf); done)) | exact rfl))))); exact h20 _ (by omega) _)
        | (apply s_cn; (focus (repeat (first | apply opds_nil | (apply opds_cons; (first | (focus ((conv => lhs; whnf); done)) | exact rfl))))); exact h23 _)
        | (apply s_len; (focus ((conv => lhs; whnf); done)); (first | assumption | (apply IsLL.at; assumption; omega)))
        | (apply s_lenLL; (focus ((conv => lhs; whnf); done)); assumption)
        | (apply s_lenRd; exact rfl)
        | (apply s_lenSl; exact rfl)
        | (apply s_idx; (focus ((conv => lhs; whnf); done)); exact rfl; (first | assumption | (apply IsLL.at; assumption; omega)); omega)
        | (apply s_idxLL; (focus ((conv => lhs; whnf); done)); exact rfl; assumption; omega)
        | (apply s_idxP; exact rfl; exact rfl; omega)
        | (apply s_ldB; exact rfl; exact rfl; omega; all_goals intro _)
        | (apply s_ldRB; exact rfl; omega; all_goals intro _)
        | (apply s_idxRB; exact rfl; exact rfl; omega)
        | (apply s_idxS; exact rfl; exact rfl; omega)
        | (apply s_ldI; exact rfl; omega)
        | (apply s_ldLL; exact rfl; assumption; omega)
        | (apply s_pd; (focus ((conv => lhs; whnf); done)))
        | apply c_seq
        | apply c_reg
        | apply c_block
        | apply c_exitH
        | apply c_skip
        | apply c_ret
        | (apply c_condT; exact rfl)
        | (apply c_condF; exact rfl)
        | (apply c_exitM; exact rfl)
        | (apply c_preF; (focus (repeat (first | apply looks_nil | (apply looks_cons; (focus ((conv => lhs; whnf); done)))))); (focus (simp [idFreeL, AV.idFree, *]; done)))
        | with_reducible apply k_c
      · exact hK (i + 1) _ _ (by omega) (by omega) (by simp [gc, subHeap, reach_skip, ren_free, reach_new, reach_newp, reach_end, rangeL, roots, boxCells, nodupB, posOf, renL, AV.ren, pickO, renH, renO, looks, look, bindEnv, envOf, reach_int, reach_bool, reach_nilS, reach_rd, putRow, cells_sl, cells_int, cells_bool, cells_nilS, cells_rd, cells_agg, reach_agg, reach_tup, idFreeL, idf_sl, idf_ptr, idf_int, idf_bool, idf_nilS, idf_rd, go, gr, gn, ko, kr, kn]; done)
      · exact fin_t rfl rfl rfl
  · simp only [if_neg hc] at h33
    have stT := @e_st3
    refine f_enter rfl rfl ?_
    generalize evF tab it 200 = call at *
    repeat' first
      | (apply s_mov; (focus ((conv => lhs; whnf); done)))
      | (apply s_gT; exact rfl)
      | (apply s_gF; exact rfl)
      | (apply s_gFD; exact rfl)
      | (apply s_gFE; exact rfl)
      | apply c_nil
      | (apply s_pickT; exact rfl; (focus ((conv => lhs; whnf); done)))
      | (apply s_pickF; exact rfl; (focus ((conv => lhs; whnf); done)))
      | (apply s_notT; exact rfl)
      | (apply s_notF; exact rfl)
      | (apply s_lss; exact rfl; all_goals (intro _; try (exfalso; omega)))
      | (apply s_leq; exact rfl; all_goals (intro _; try (exfalso; omega)))
      | (apply s_gtr; exact rfl; all_goals (intro _; try (exfalso; omega)))
      | (apply s_geq; exact rfl; all_goals (intro _; try (exfalso; omega)))
      | (apply s_eql; exact rfl; all_goals (intro _; try (exfalso; omega)))
      | (apply s_neq; exact rfl; all_goals (intro _; try (exfalso; omega)))
      | (apply s_add; exact rfl; omega)
      | (apply s_sub; exact rfl; omega)
      | (apply s_en; (focus (repeat (first | apply opds_nil | (apply opds_cons; (first | (focus ((conv => lhs; whnf); done)) | exact rfl))))); exact ob _)
      | (apply s_cn; (focus (repeat (first | apply opds_nil | (apply opds_cons; (first | (focus ((conv => lhs; whnf); done)) | exact rfl))))); exact h16 _)
      | (apply s_cn; (focus (repeat (first | apply opds_nil | (apply opds_cons; (first | (focus ((conv => lhs; whnf); done)) | exact rfl))))); exact h33 _)
      | (apply s_cn; (focus (repeat (first | apply opds_nil | (apply opds_cons; (first | (focus ((conv => lhs; whnf); done)) | exact rfl))))); exact h19 _)
      | (apply isE; refine s_cB (by (focus (repeat (first | apply opds_nil | (apply opds_cons; (first | (focus ((conv => lhs; whnf); done)) | exact rfl)))))) (h21 _) (fun _ => ?_) (fun _ => ?_))
      | (apply s_st; (focus (repeat (first | apply opds_nil | (apply opds_cons; (first | (focus ((conv => lhs; whnf); done)) | exact rfl))))); exact stG _ _ _ rfl)
      | (apply s_st; (focus (repeat (first | apply opds_nil | (apply opds_cons; (first | (focus ((conv => lhs; whnf); done)) | exact rfl))))); exact e_st3 rfl rfl rfl rfl)
      | (apply isE; apply s_ed; (focus ((conv => lhs; whnf); done)))
      | (apply s_len; (focus ((conv => lhs; whnf); done)); (first | assumption | (apply IsLL.at; assumption; omega)))
      | (apply s_lenLL; (focus ((conv => lhs; whnf); done)); assumption)
      | (apply s_lenRd; exact rfl)
      | (apply s_lenSl; exact rfl)
      | (apply s_idx; (focus ((conv => lhs; whnf); done)); exact rfl; (first | assumption | (apply IsLL.at; assumption; omega)); omega)
      | (apply s_idxLL; (focus ((conv => lhs; whnf); done)); exact rfl; assumption; omega)
      | (apply s_idxP; exact rfl; exact rfl; omega)
      | (apply s_ldB; exact rfl; exact rfl; omega; all_goals intro _)
      | (apply s_ldRB; exact rfl; omega; all_goals intro _)
      | (apply s_idxRB; exact rfl; exact rfl; omega)
      | (apply s_idxS; exact rfl; exact rfl; omega)
      | (apply s_ldI; exact rfl; omega)
      | (apply s_ldLL; exact rfl; assumption; omega)
      | (apply s_pd; (focus ((conv => lhs; whnf); done)))
      | apply c_seq
      | apply c_reg
      | apply c_block
      | apply c_exitH
      | apply c_skip
      | apply c_ret
      | (apply c_condT; exact rfl)
      | (apply c_condF; exact rfl)
      | (apply c_exitM; exact rfl)
      | (apply c_preF; (focus (repeat (first | apply looks_nil | (apply looks_cons; (focus ((conv => lhs; whnf); done)))))); (focus (simp [idFreeL, AV.idFree, *]; done)))
      | with_reducible apply k_c
    · refine c_loop ?_
      refine loop_gc (σ := Nat × Bool) (fun s => [.ptr 0 0, .ptr 1 0, .int .i64 2, .bool s.2, .int .i64 s.1]) (fun _ => [some (.box [zo, zr, zn]), some (.box [.nilS, .nilS, .nilS])]) (fun s => s.1 ≤ g.rank.length ∧ (s.2 = false → Good g ∧ ∀ j : Nat, j < s.1 → getI g.rank j ≠ 9)) (fun s => g.rank.length - s.1) ?_ _ (0, false) _ _ ⟨by simp, fun _ => ⟨by assumption, fun j hj => by simp at hj⟩⟩ (by simp; omega) (by simp [gc, subHeap, reach_skip, ren_free, reach_new, reach_newp, reach_end, rangeL, roots, boxCells, nodupB, posOf, renL, AV.ren, pickO, renH, renO, looks, look, bindEnv, envOf, reach_int, reach_bool, reach_nilS, reach_rd, putRow, cells_sl, cells_int, cells_bool, cells_nilS, cells_rd, cells_agg, reach_agg, reach_tup, idFreeL, idf_sl, idf_ptr, idf_int, idf_bool, idf_nilS, idf_rd, fo, fr, fn, go, gr, gn]; done)
      intro ⟨i, bad⟩ ⟨hi, hb⟩ K hK
      simp only at hi hb hK ⊢
      cases bad
      · skip
        repeat' first
          | (apply s_mov; (focus ((conv => lhs; whnf); done)))
          | (apply s_gT; exact rfl)
          | (apply s_gF; exact rfl)
          | (apply s_gFD; exact rfl)
          | (apply s_gFE; exact rfl)
          | apply c_nil
          | (apply s_pickT; exact rfl; (focus ((conv => lhs; whnf); done)))
          | (apply s_pickF; exact rfl; (focus ((conv => lhs; whnf); done)))
          | (apply s_notT; exact rfl)
          | (apply s_notF; exact rfl)
          | (apply s_lss; exact rfl; all_goals (intro _; try (exfalso; omega)))
          | (apply s_leq; exact rfl; all_goals (intro _; try (exfalso; omega)))
          | (apply s_gtr; exact rfl; all_goals (intro _; try (exfalso; omega)))
          | (apply s_geq; exact rfl; all_goals (intro _; try (exfalso; omega)))
          | (apply s_eql; exact rfl; all_goals (intro _; try (exfalso; omega)))
          | (apply s_neq; exact rfl; all_goals (intro _; try (exfalso; omega)))
          | (apply s_add; exact rfl; omega)
          | (apply s_sub; exact rfl; omega)
          | (apply s_len; (focus ((conv => lhs; whnf); done)); (first | assumption | (apply IsLL.at; assumption; omega)))
          | (apply s_lenLL; (focus ((conv => lhs; whnf); done)); assumption)
          | (apply s_lenRd; exact rfl)
          | (apply s_lenSl; exact rfl)
          | (apply s_idx; (focus ((conv => lhs; whnf); done)); exact rfl; (first | assumption | (apply IsLL.at; assumption; omega)); omega)
          | (apply s_idxLL; (focus ((conv => lhs; whnf); done)); exact rfl; assumption; omega)
          | (apply s_idxP; exact rfl; exact rfl; omega)
          | (apply s_ldB; exact rfl; exact rfl; omega; all_goals intro _)
          | (apply s_ldRB; exact rfl; omega; all_goals intro _)
          | (apply s_idxRB; exact rfl; exact rfl; omega)
          | (apply s_idxS; exact rfl; exact rfl; omega)
          | (apply s_ldI; exact rfl; omega)
          | (apply s_ldLL; exact rfl; assumption; omega)
          | (apply s_pd; (focus ((conv => lhs; whnf); done)))
          | apply c_seq
          | apply c_reg
          | apply c_block
          | apply c_exitH
          | apply c_skip
          | apply c_ret
          | (apply c_condT; exact rfl)
          | (apply c_condF; exact rfl)
          | (apply c_exitM; exact rfl)
          | (apply c_preF; (focus (repeat (first | apply looks_nil | (apply looks_cons; (focus ((conv => lhs; whnf); done)))))); (focus (simp [idFreeL, AV.idFree, *]; done)))
          | with_reducible apply k_c
        · exact hK (i + 1, true) _ _ ⟨by simp; omega, fun h => by cases h⟩ (by simp; omega) (by simp [gc, subHeap, reach_skip, ren_free, reach_new, reach_newp, reach_end, rangeL, roots, boxCells, nodupB, posOf, renL, AV.ren, pickO, renH, renO, looks, look, bindEnv, envOf, reach_int, reach_bool, reach_nilS, reach_rd, putRow, cells_sl, cells_int, cells_bool, cells_nilS, cells_rd, cells_agg, reach_agg, reach_tup, idFreeL, idf_sl, idf_ptr, idf_int, idf_bool, idf_nilS, idf_rd, go, gr, gn]; done)
        · refine hK (i + 1, false) _ _ ⟨by simp; omega, fun _ => ⟨(hb rfl).1, fun j hj => ?_⟩⟩ (by simp; omega) (by simp [gc, subHeap, reach_skip, ren_free, reach_new, reach_newp, reach_end, rangeL, roots, boxCells, nodupB, posOf, renL, AV.ren, pickO, renH, renO, looks, look, bindEnv, envOf, reach_int, reach_bool, reach_nilS, reach_rd, putRow, cells_sl, cells_int, cells_bool, cells_nilS, cells_rd, cells_agg, reach_agg, reach_tup, idFreeL, idf_sl, idf_ptr, idf_int, idf_bool, idf_nilS, idf_rd, go, gr, gn]; done)
          rcases (by simp at hj; omega : j < i ∨ j = i) with h | rfl
          · exact (hb rfl).2 j h
          · assumption
        · exfalso
          refine hc ⟨(hb rfl).1, fun h9 => ?_⟩
          obtain ⟨j, hj, e⟩ := List.getElem_of_mem h9
          refine (hb rfl).2 j (by omega) ?_
          rw [getI_nat]; simp [hj, e]
      · skip
        repeat' first
          | (apply s_mov; (focus ((conv => lhs; whnf); done)))
          | (apply s_gT; exact rfl)
          | (apply s_gF; exact rfl)
          | (apply s_gFD; exact rfl)
          | (apply s_gFE; exact rfl)
          | apply c_nil
          | (apply s_pickT; exact rfl; (focus ((conv => lhs; whnf); done)))
          | (apply s_pickF; exact rfl; (focus ((conv => lhs; whnf); done)))
          | (apply s_notT; exact rfl)
          | (apply s_notF; exact rfl)
          | (apply s_lss; exact rfl; all_goals (intro _; try (exfalso; omega)))
          | (apply s_leq; exact rfl; all_goals (intro _; try (exfalso; omega)))
          | (apply s_gtr; exact rfl; all_goals (intro _; try (exfalso; omega)))
          | (apply s_geq; exact rfl; all_goals (intro _; try (exfalso; omega)))
          | (apply s_eql; exact rfl; all_goals (intro _; try (exfalso; omega)))
          | (apply s_neq; exact rfl; all_goals (intro _; try (exfalso; omega)))
          | (apply s_add; exact rfl; omega)
          | (apply s_sub; exact rfl; omega)
          | (apply s_len; (focus ((conv => lhs; whnf); done)); (first | assumption | (apply IsLL.at; assumption; omega)))
          | (apply s_lenLL; (focus ((conv => lhs; whnf); done)); assumption)
          | (apply s_lenRd; exact rfl)
          | (apply s_lenSl; exact rfl)
          | (apply s_idx; (focus ((conv => lhs; whnf); done)); exact rfl; (first | assumption | (apply IsLL.at; assumption; omega)); omega)
          | (apply s_idxLL; (focus ((conv => lhs; whnf); done)); exact rfl; assumption; omega)
          | (apply s_idxP; exact rfl; exact rfl; omega)
          | (apply s_ldB; exact rfl; exact rfl; omega; all_goals intro _)
          | (apply s_ldRB; exact rfl; omega; all_goals intro _)
          | (apply s_idxRB; exact rfl; exact rfl; omega)
          | (apply s_idxS; exact rfl; exact rfl; omega)
          | (apply s_ldI; exact rfl; omega)
          | (apply s_ldLL; exact rfl; assumption; omega)
          | (apply s_pd; (focus ((conv => lhs; whnf); done)))
          | apply c_seq
          | apply c_reg
          | apply c_block
          | apply c_exitH
          | apply c_skip
          | apply c_ret
          | (apply c_condT; exact rfl)
          | (apply c_condF; exact rfl)
          | (apply c_exitM; exact rfl)
          | (apply c_preF; (focus (repeat (first | apply looks_nil | (apply looks_cons; (focus ((conv => lhs; whnf); done)))))); (focus (simp [idFreeL, AV.idFree, *]; done)))
          | with_reducible apply k_c
        · exact hK (i + 1, true) _ _ ⟨by simp; omega, fun h => by cases h⟩ (by simp; omega) (by simp [gc, subHeap, reach_skip, ren_free, reach_new, reach_newp, reach_end, rangeL, roots, boxCells, nodupB, posOf, renL, AV.ren, pickO, renH, renO, looks, look, bindEnv, envOf, reach_int, reach_bool, reach_nilS, reach_rd, putRow, cells_sl, cells_int, cells_bool, cells_nilS, cells_rd, cells_agg, reach_agg, reach_tup, idFreeL, idf_sl, idf_ptr, idf_int, idf_bool, idf_nilS, idf_rd, go, gr, gn]; done)
        · refine c_pre (vs := [.ptr 0 0, .ptr 1 0, .int .i64 2, .bool true]) (H' := [some (.box [zo, zr, zn]), some (.box [.nilS, .nilS, .nilS])]) (by simp [gc, subHeap, reach_skip, ren_free, reach_new, reach_newp, reach_end, rangeL, roots, boxCells, nodupB, posOf, renL, AV.ren, pickO, renH, renO, looks, look, bindEnv, envOf, reach_int, reach_bool, reach_nilS, reach_rd, putRow, cells_sl, cells_int, cells_bool, cells_nilS, cells_rd, cells_agg, reach_agg, reach_tup, idFreeL, idf_sl, idf_ptr, idf_int, idf_bool, idf_nilS, idf_rd, go, gr, gn]; done) ?_
          repeat' first
            | (apply s_mov; (focus ((conv => lhs; whnf); done)))
            | (apply s_gT; exact rfl)
            | (apply s_gF; exact rfl)
            | (apply s_gFD; exact rfl)
            | (apply s_gFE; exact rfl)
            | apply c_nil
            | (apply s_pickT; exact rfl; (focus ((conv => lhs; whnf); done)))
            | (apply s_pickF; exact rfl; (focus ((conv => lhs; whnf); done)))
            | (apply s_notT; exact rfl)
            | (apply s_notF; exact rfl)
            | (apply s_lss; exact rfl; all_goals (intro _; try (exfalso; omega)))
            | (apply s_leq; exact rfl; all_goals (intro _; try (exfalso; omega)))
            | (apply s_gtr; exact rfl; all_goals (intro _; try (exfalso; omega)))
            | (apply s_geq; exact rfl; all_goals (intro _; try (exfalso; omega)))
            | (apply s_eql; exact rfl; all_goals (intro _; try (exfalso; omega)))
            | (apply s_neq; exact rfl; all_goals (intro _; try (exfalso; omega)))
            | (apply s_add; exact rfl; omega)
            | (apply s_sub; exact rfl; omega)
            | (apply s_cn; (focus (repeat (first | apply opds_nil | (apply opds_cons; (first | (focus ((conv => lhs; whnf); done)) | exact rfl))))); exact h23 _)
            | (apply s_len; (focus ((conv => lhs; whnf); done)); (first | assumption | (apply IsLL.at; assumption; omega)))
            | (apply s_lenLL; (focus ((conv => lhs; whnf); done)); assumption)
            | (apply s_lenRd; exact rfl)
            | (apply s_lenSl; exact rfl)
            | (apply s_idx; (focus ((conv => lhs; whnf); done)); exact rfl; (first | assumption | (apply IsLL.at; assumption; omega)); omega)
            | (apply s_idxLL; (focus ((conv => lhs; whnf); done)); exact rfl; assumption; omega)
            | (apply s_idxP; exact rfl; exact rfl; omega)
            | (apply s_ldB; exact rfl; exact rfl; omega; all_goals intro _)
            | (apply s_ldRB; exact rfl; omega; all_goals intro _)
            | (apply s_idxRB; exact rfl; exact rfl; omega)
            | (apply s_idxS; exact rfl; exact rfl; omega)
            | (apply s_ldI; exact rfl; omega)
            | (apply s_ldLL; exact rfl; assumption; omega)
            | (apply s_pd; (focus ((conv => lhs; whnf); done)))
            | apply c_seq
            | apply c_reg
            | apply c_block
            | apply c_exitH
            | apply c_skip
            | apply c_ret
            | (apply c_condT; exact rfl)
            | (apply c_condF; exact rfl)
            | (apply c_exitM; exact rfl)
            | (apply c_preF; (focus (repeat (first | apply looks_nil | (apply looks_cons; (focus ((conv => lhs; whnf); done)))))); (focus (simp [idFreeL, AV.idFree, *]; done)))
            | with_reducible apply k_c
          exact fin_t rfl rfl rfl
    · refine c_loop ?_
      refine loop_gc (σ := Nat × Bool) (fun s => [.ptr 0 0, .ptr 1 0, .int .i64 2, .bool s.2, .int .i64 s.1]) (fun _ => [some (.box [zo, zr, zn]), some (.box [.nilS, .nilS, .nilS])]) (fun s => s.1 ≤ g.rank.length ∧ (s.2 = false → Good g ∧ ∀ j : Nat, j < s.1 → getI g.rank j ≠ 9)) (fun s => g.rank.length - s.1) ?_ _ (0, true) _ _ ⟨by simp, fun h => by cases h⟩ (by simp; omega) (by simp [gc, subHeap, reach_skip, ren_free, reach_new, reach_newp, reach_end, rangeL, roots, boxCells, nodupB, posOf, renL, AV.ren, pickO, renH, renO, looks, look, bindEnv, envOf, reach_int, reach_bool, reach_nilS, reach_rd, putRow, cells_sl, cells_int, cells_bool, cells_nilS, cells_rd, cells_agg, reach_agg, reach_tup, idFreeL, idf_sl, idf_ptr, idf_int, idf_bool, idf_nilS, idf_rd, fo, fr, fn, go, gr, gn]; done)
      intro ⟨i, bad⟩ ⟨hi, hb⟩ K hK
      simp only at hi hb hK ⊢
      cases bad
      · skip
        repeat' first
          | (apply s_mov; (focus ((conv => lhs; whnf); done)))
          | (apply s_gT; exact rfl)
          | (apply s_gF; exact rfl)
          | (apply s_gFD; exact rfl)
          | (apply s_gFE; exact rfl)
          | apply c_nil
          | (apply s_pickT; exact rfl; (focus ((conv => lhs; whnf); done)))
          | (apply s_pickF; exact rfl; (focus ((conv => lhs; whnf); done)))
          | (apply s_notT; exact rfl)
          | (apply s_notF; exact rfl)
          | (apply s_lss; exact rfl; all_goals (intro _; try (exfalso; omega)))
          | (apply s_leq; exact rfl; all_goals (intro _; try (exfalso; omega)))
          | (apply s_gtr; exact rfl; all_goals (intro _; try (exfalso; omega)))
          | (apply s_geq; exact rfl; all_goals (intro _; try (exfalso; omega)))
          | (apply s_eql; exact rfl; all_goals (intro _; try (exfalso; omega)))
          | (apply s_neq; exact rfl; all_goals (intro _; try (exfalso; omega)))
          | (apply s_add; exact rfl; omega)
          | (apply s_sub; exact rfl; omega)
          | (apply s_len; (focus ((conv => lhs; whnf); done)); (first | assumption | (apply IsLL.at; assumption; omega)))
          | (apply s_lenLL; (focus ((conv => lhs; whnf); done)); assumption)
          | (apply s_lenRd; exact rfl)
          | (apply s_lenSl; exact rfl)
          | (apply s_idx; (focus ((conv => lhs; whnf); done)); exact rfl; (first | assumption | (apply IsLL.at; assumption; omega)); omega)
          | (apply s_idxLL; (focus ((conv => lhs; whnf); done)); exact rfl; assumption; omega)
          | (apply s_idxP; exact rfl; exact rfl; omega)
          | (apply s_ldB; exact rfl; exact rfl; omega; all_goals intro _)
          | (apply s_ldRB; exact rfl; omega; all_goals intro _)
          | (apply s_idxRB; exact rfl; exact rfl; omega)
          | (apply s_idxS; exact rfl; exact rfl; omega)
          | (apply s_ldI; exact rfl; omega)
          | (apply s_ldLL; exact rfl; assumption; omega)
          | (apply s_pd; (focus ((conv => lhs; whnf); done)))
          | apply c_seq
          | apply c_reg
          | apply c_block
          | apply c_exitH
          | apply c_skip
          | apply c_ret
          | (apply c_condT; exact rfl)
          | (apply c_condF; exact rfl)
          | (apply c_exitM; exact rfl)
          | (apply c_preF; (focus (repeat (first | apply looks_nil | (apply looks_cons; (focus ((conv => lhs; whnf); done)))))); (focus (simp [idFreeL, AV.idFree, *]; done)))
          | with_reducible apply k_c
        · exact hK (i + 1, true) _ _ ⟨by simp; omega, fun h => by cases h⟩ (by simp; omega) (by simp [gc, subHeap, reach_skip, ren_free, reach_new, reach_newp, reach_end, rangeL, roots, boxCells, nodupB, posOf, renL, AV.ren, pickO, renH, renO, looks, look, bindEnv, envOf, reach_int, reach_bool, reach_nilS, reach_rd, putRow, cells_sl, cells_int, cells_bool, cells_nilS, cells_rd, cells_agg, reach_agg, reach_tup, idFreeL, idf_sl, idf_ptr, idf_int, idf_bool, idf_nilS, idf_rd, go, gr, gn]; done)
        · refine hK (i + 1, false) _ _ ⟨by simp; omega, fun _ => ⟨(hb rfl).1, fun j hj => ?_⟩⟩ (by simp; omega) (by simp [gc, subHeap, reach_skip, ren_free, reach_new, reach_newp, reach_end, rangeL, roots, boxCells, nodupB, posOf, renL, AV.ren, pickO, renH, renO, looks, look, bindEnv, envOf, reach_int, reach_bool, reach_nilS, reach_rd, putRow, cells_sl, cells_int, cells_bool, cells_nilS, cells_rd, cells_agg, reach_agg, reach_tup, idFreeL, idf_sl, idf_ptr, idf_int, idf_bool, idf_nilS, idf_rd, go, gr, gn]; done)
          rcases (by simp at hj; omega : j < i ∨ j = i) with h | rfl
          · exact (hb rfl).2 j h
          · assumption
        · exfalso
          refine hc ⟨(hb rfl).1, fun h9 => ?_⟩
          obtain ⟨j, hj, e⟩ := List.getElem_of_mem h9
          refine (hb rfl).2 j (by omega) ?_
          rw [getI_nat]; simp [hj, e]
      · skip
        repeat' first
          | (apply s_mov; (focus ((conv => lhs; whnf); done)))
          | (apply s_gT; exact rfl)
          | (apply s_gF; exact rfl)
          | (apply s_gFD; exact rfl)
          | (apply s_gFE; exact rfl)
          | apply c_nil
          | (apply s_pickT; exact rfl; (focus ((conv => lhs; whnf); done)))
          | (apply s_pickF; exact rfl; (focus ((conv => lhs; whnf); done)))
          | (apply s_notT; exact rfl)
          | (apply s_notF; exact rfl)
          | (apply s_lss; exact rfl; all_goals (intro _; try (exfalso; omega)))
          | (apply s_leq; exact rfl; all_goals (intro _; try (exfalso; omega)))
          | (apply s_gtr; exact rfl; all_goals (intro _; try (exfalso; omega)))
          | (apply s_geq; exact rfl; all_goals (intro _; try (exfalso; omega)))
          | (apply s_eql; exact rfl; all_goals (intro _; try (exfalso; omega)))
          | (apply s_neq; exact rfl; all_goals (intro _; try (exfalso; omega)))
          | (apply s_add; exact rfl; omega)
          | (apply s_sub; exact rfl; omega)
          | (apply s_len; (focus ((conv => lhs; whnf); done)); (first | assumption | (apply IsLL.at; assumption; omega)))
          | (apply s_lenLL; (focus ((conv => lhs; whnf); done)); assumption)
          | (apply s_lenRd; exact rfl)
          | (apply s_lenSl; exact rfl)
          | (apply s_idx; (focus ((conv => lhs; whnf); done)); exact rfl; (first | assumption | (apply IsLL.at; assumption; omega)); omega)
          | (apply s_idxLL; (focus ((conv => lhs; whnf); done)); exact rfl; assumption; omega)
          | (apply s_idxP; exact rfl; exact rfl; omega)
          | (apply s_ldB; exact rfl; exact rfl; omega; all_goals intro _)
          | (apply s_ldRB; exact rfl; omega; all_goals intro _)
          | (apply s_idxRB; exact rfl; exact rfl; omega)
          | (apply s_idxS; exact rfl; exact rfl; omega)
          | (apply s_ldI; exact rfl; omega)
          | (apply s_ldLL; exact rfl; assumption; omega)
          | (apply s_pd; (focus ((conv => lhs; whnf); done)))
          | apply c_seq
          | apply c_reg
          | apply c_block
          | apply c_exitH
          | apply c_skip
          | apply c_ret
          | (apply c_condT; exact rfl)
          | (apply c_condF; exact rfl)
          | (apply c_exitM; exact rfl)
          | (apply c_preF; (focus (repeat (first | apply looks_nil | (apply looks_cons; (focus ((conv => lhs; whnf); done)))))); (focus (simp [idFreeL, AV.idFree, *]; done)))
          | with_reducible apply k_c
        · exact hK (i + 1, true) _ _ ⟨by simp; omega, fun h => by cases h⟩ (by simp; omega) (by simp [gc, subHeap, reach_skip, ren_free, reach_new, reach_newp, reach_end, rangeL, roots, boxCells, nodupB, posOf, renL, AV.ren, pickO, renH, renO, looks, look, bindEnv, envOf, reach_int, reach_bool, reach_nilS, reach_rd, putRow, cells_sl, cells_int, cells_bool, cells_nilS, cells_rd, cells_agg, reach_agg, reach_tup, idFreeL, idf_sl, idf_ptr, idf_int, idf_bool, idf_nilS, idf_rd, go, gr, gn]; done)
        · refine c_pre (vs := [.ptr 0 0, .ptr 1 0, .int .i64 2, .bool true]) (H' := [some (.box [zo, zr, zn]), some (.box [.nilS, .nilS, .nilS])]) (by simp [gc, subHeap, reach_skip, ren_free, reach_new, reach_newp, reach_end, rangeL, roots, boxCells, nodupB, posOf, renL, AV.ren, pickO, renH, renO, looks, look, bindEnv, envOf, reach_int, reach_bool, reach_nilS, reach_rd, putRow, cells_sl, cells_int, cells_bool, cells_nilS, cells_rd, cells_agg, reach_agg, reach_tup, idFreeL, idf_sl, idf_ptr, idf_int, idf_bool, idf_nilS, idf_rd, go, gr, gn]; done) ?_
          repeat' first
            | (apply s_mov; (focus ((conv => lhs; whnf); done)))
            | (apply s_gT; exact rfl)
            | (apply s_gF; exact rfl)
            | (apply s_gFD; exact rfl)
            | (apply s_gFE; exact rfl)
            | apply c_nil
            | (apply s_pickT; exact rfl; (focus ((conv => lhs; whnf); done)))
            | (apply s_pickF; exact rfl; (focus ((conv => lhs; whnf); done)))
            | (apply s_notT; exact rfl)
            | (apply s_notF; exact rfl)
            | (apply s_lss; exact rfl; all_goals (intro _; try (exfalso; omega)))
            | (apply s_leq; exact rfl; all_goals (intro _; try (exfalso; omega)))
            | (apply s_gtr; exact rfl; all_goals (intro _; try (exfalso; omega)))
            | (apply s_geq; exact rfl; all_goals (intro _; try (exfalso; omega)))
            | (apply s_eql; exact rfl; all_goals (intro _; try (exfalso; omega)))
            | (apply s_neq; exact rfl; all_goals (intro _; try (exfalso; omega)))
            | (apply s_add; exact rfl; omega)
            | (apply s_sub; exact rfl; omega)
            | (apply s_cn; (focus (repeat (first | apply opds_nil | (apply opds_cons; (first | (focus ((conv => lhs; whnf); done)) | exact rfl))))); exact h23 _)
            | (apply s_len; (focus ((conv => lhs; whnf); done)); (first | assumption | (apply IsLL.at; assumption; omega)))
            | (apply s_lenLL; (focus ((conv => lhs; whnf); done)); assumption)
            | (apply s_lenRd; exact rfl)
            | (apply s_lenSl; exact rfl)
            | (apply s_idx; (focus ((conv => lhs; whnf); done)); exact rfl; (first | assumption | (apply IsLL.at; assumption; omega)); omega)
            | (apply s_idxLL; (focus ((conv => lhs; whnf); done)); exact rfl; assumption; omega)
            | (apply s_idxP; exact rfl; exact rfl; omega)
            | (apply s_ldB; exact rfl; exact rfl; omega; all_goals intro _)
            | (apply s_ldRB; exact rfl; omega; all_goals intro _)
            | (apply s_idxRB; exact rfl; exact rfl; omega)
            | (apply s_idxS; exact rfl; exact rfl; omega)
            | (apply s_ldI; exact rfl; omega)
            | (apply s_ldLL; exact rfl; assumption; omega)
            | (apply s_pd; (focus ((conv => lhs; whnf); done)))
            | apply c_seq
            | apply c_reg
            | apply c_block
            | apply c_exitH
            | apply c_skip
            | apply c_ret
            | (apply c_condT; exact rfl)
            | (apply c_condF; exact rfl)
            | (apply c_exitM; exact rfl)
            | (apply c_preF; (focus (repeat (first | apply looks_nil | (apply looks_cons; (focus ((conv => lhs; whnf); done)))))); (focus (simp [idFreeL, AV.idFree, *]; done)))
            | with_reducible apply k_c
          exact fin_t rfl rfl rfl
end Go.AM.Pa
