/- A part of the proof: Q4. -/
import Derived.Test.YtmeajfgjbebkiaaQ3
set_option linter.unusedSectionVars false
set_option linter.unusedVariables false
set_option linter.unusedSimpArgs false
namespace Go.AM.Pa
attribute [local go_sem] gc subHeap reach_skip ren_free reach_new reach_newp reach_end rangeL roots boxCells nodupB posOf renL AV.ren pickO renH renO looks look bindEnv envOf reach_int reach_bool reach_nilS reach_rd putRow cells_sl cells_int cells_bool cells_nilS cells_rd cells_agg reach_agg reach_tup idFreeL idf_sl idf_ptr idf_int idf_bool idf_nilS idf_rd
def g30 (g : Gm) : Gm := ⟨g.owner.take 30, g.rank.take 30, (g.next.take 30).map (·.take 30)⟩
/-- the rows that game has copied -/
def rws (a : Gm) (i : Nat) : List AV := (a.next.take i).map fun r => fzL (r.take 30)
theorem rws_succ (a : Gm) {i : Nat} (h : i < a.next.length) : rws a (i + 1) = rws a i ++ [fzL ((getLL a.next i).take 30)] := by
  simp only [rws, List.take_add_one, List.getElem?_eq_getElem h, Option.toList_some, List.map_append, List.map_cons, List.map_nil, getLL_nat, List.getD, Option.getD_some]
def hp16 (b0 b1 : Option HO) (zo zr : AV) (rows : List AV) : Heap := match rows with
  | [] => [b0, b1, some (.box [zo, zr, .nilS])]
  | c :: cs => [b0, b1, some (.box [zo, zr, .sl 3 1 0 (cs.length + 1)]), some (.data (c :: cs))]
set_option maxHeartbeats 1000000
theorem f16 {x : AV} {a : Gm} (hx : IsG x a) (m : Nat) (hm : 103 ≤ m) : evF tab it m 16 [x] [] = some (.agg [fzL (a.owner.take 30), fzL (a.rank.take 30), ownV 0 (rws a 30)], owH (rws a 30)) := by
  obtain ⟨m, rfl⟩ : ∃ j, m = j + 1 := ⟨m - 1, by omega⟩
  obtain ⟨xo, xr, xn, rfl, ho, hr, hn⟩ := hx
  have fo := ho.free; have fr := hr.free; have fn := hn.free
  have ob : ∀ call, evE call [] (.box false) [.agg [xo, xr, xn]] = some (.ptr 0 0, [some (.box [xo, xr, xn])]) := fun call => by simp [evE, AV.cells, oneL, ho.one, hr.one, hn.one, mkHO]
  have hzo := isL_fz (a.owner.take 30)
  have hzr := isL_fz (a.rank.take 30)
  have w1 := fun m hm H => @c17 _ _ ho m hm H
  have w2 := fun m hm H => @c17 _ _ hr m hm H
  generalize fzL (a.owner.take 30) = zo at *
  generalize fzL (a.rank.take 30) = zr at *
  have go := hzo.free; have gr := hzr.free
  have bld : ∀ H, evP H (.bld [.nilS, .nilS, .nilS] [(0, 1), (1, 1)]) [zo, zr] = some (.agg [zo, zr, .nilS]) := fun H => by simp [evP, fillParts, hzo.cellsV, hzo.solid, hzr.cellsV, hzr.solid, putPart]
  have st3 : ∀ call b0 b1, evE call [b0, b1, some (.box [.nilS, .nilS, .nilS])] (.st 3) [.ptr 2 0, .agg [zo, zr, .nilS]] = some (.undef, [b0, b1, some (.box [zo, zr, .nilS])]) := fun call b0 b1 => by simp [evE, stAt, AV.cells, oneL, hzo.one, hzr.one, putRow]; rfl
  refine f_enter rfl rfl ?_
  repeat' first
 | (apply s_mov; (focus ((conv => lhs; whnf); done)))
 | (apply c_nil)
 | (apply s_en; (focus (repeat (first | apply opds_nil | (apply opds_cons; (first | (focus ((conv => lhs; whnf); done)) | exact rfl))))); exact ob _)
 | (apply s_cn; (focus (repeat (first | apply opds_nil | (apply opds_cons; (first | (focus ((conv => lhs; whnf); done)) | exact rfl))))); exact w1 _ (by omega) _)
 | (apply s_cn; (focus (repeat (first | apply opds_nil | (apply opds_cons; (first | (focus ((conv => lhs; whnf); done)) | exact rfl))))); exact w2 _ (by omega) _)
 | (apply s_pn; (focus (repeat (first | apply opds_nil | (apply opds_cons; (first | (focus ((conv => lhs; whnf); done)) | exact rfl))))); exact bld _)
 | (apply s_st; (focus (repeat (first | apply opds_nil | (apply opds_cons; (first | (focus ((conv => lhs; whnf); done)) | exact rfl))))); exact st3 _ _ _)
 | (apply isE; apply s_ed; focus ((conv => lhs; whnf); done))
 | (apply s_pd; (focus ((conv => lhs; whnf); done)))
 | (apply c_seq)
 | (apply c_reg)
 | (apply c_block)
 | (with_reducible apply k_c)
  refine c_loop ?_
  refine loop_gc (σ := Nat) (fun i => [.ptr 0 0, .ptr 1 0, .ptr 2 0, .int .i64 i]) (fun i => hp16 (some (.box [xo, xr, xn])) (some (.box [.nilS, .nilS, .nilS])) zo zr (rws a i)) (fun i => i ≤ a.next.length ∧ i ≤ 30) (fun i => 30 - i) ?_ _ 0 _ _ ⟨by omega, by omega⟩ ?_ ?_
  · intro i ⟨hi, hi'⟩ K hK
    have hlen : (rws a i).length ≤ 30 := by simp [rws]; omega
    have hs := fun h => @rws_succ a i h
    have hall : ¬ (i : Int) < a.next.length ∨ ¬ (i : Int) < 30 → rws a 30 = rws a i := fun h => by
      simp only [rws]
      congr 1
      rcases Nat.lt_or_ge i a.next.length with h' | h'
      · rw [show i = 30 by omega]
      · rw [List.take_of_length_le (by omega), List.take_of_length_le (by omega)]
    generalize rws a i = rows at *
    rcases rows with _ | ⟨c, cs⟩
    · simp only [hp16]
      repeat' first
 | (apply s_mov; (focus ((conv => lhs; whnf); done)))
 | (apply s_gT; exact rfl)
 | (apply s_gF; exact rfl)
 | (apply c_nil)
 | (apply s_pickT; exact rfl; (focus ((conv => lhs; whnf); done)))
 | (apply s_pickF; exact rfl; (focus ((conv => lhs; whnf); done)))
 | ((first | apply s_lss | apply s_leq | apply s_gtr | apply s_geq | apply s_eql | apply s_neq); exact rfl; all_goals (intro _; try (exfalso; omega)))
 | ((first | apply s_add | apply s_sub); exact rfl; omega)
 | (apply s_cn; (focus (repeat (first | apply opds_nil | (apply opds_cons; (first | (focus ((conv => lhs; whnf); done)) | exact rfl))))); exact c17 (by first | assumption | exact IsLL.at (by assumption) (by omega)) (by omega) _)
 | (apply s_en; (focus (repeat (first | apply opds_nil | (apply opds_cons; (first | (focus ((conv => lhs; whnf); done)) | exact rfl))))); exact e_bld1 (isL_fz _).cellsV (isL_fz _).solid (isL_fz _).one (isL_fz _).free)
 | (apply s_en; (focus (repeat (first | apply opds_nil | (apply opds_cons; (first | (focus ((conv => lhs; whnf); done)) | exact rfl))))); exact e_app_nil rfl (by omega) (by decide))
 | (apply isE; apply s_st; (focus (repeat (first | apply opds_nil | (apply opds_cons; (focus ((conv => lhs; whnf); done)))))); focus ((conv => lhs; whnf); done))
 | (apply s_lenLL; (focus ((conv => lhs; whnf); done)); assumption)
 | (apply s_idxLL; (focus ((conv => lhs; whnf); done)); exact rfl; assumption; omega)
 | (apply s_ldLL; exact rfl; assumption; omega)
 | (apply s_pd; (focus ((conv => lhs; whnf); done)))
 | (apply c_seq)
 | (apply c_reg)
 | (apply c_block)
 | (apply c_exitH)
 | (apply c_skip)
 | (apply c_condT; exact rfl)
 | (apply c_condF; exact rfl)
 | (with_reducible apply k_c)
      any_goals (refine hK (i + 1) _ _ ⟨by omega, by omega⟩ (by omega) ?_; rw [hs (by omega)]; exact (by simp [go_sem, fo, fr, fn, go, gr, hp16, putRow]; done))
      all_goals
        have stF : ∀ call v rest, v.one = true → evE call (some (.box [.nilS, .nilS, .nilS]) :: some (.box [zo, zr, v]) :: rest) (.st 3) [.ptr 0 0, .agg [zo, zr, v]] = some (.undef, some (.box [zo, zr, v]) :: some (.box [zo, zr, v]) :: rest) := fun call v rest hv => by
          simp [evE, stAt, AV.cells, oneL, hzo.one, hzr.one, hv, putRow]
        rw [hall (by omega)]
        refine c_pre (vs := [.ptr 0 0, .ptr 1 0]) (H' := [some (.box [.nilS, .nilS, .nilS]), some (.box [zo, zr, .nilS])]) (by simp [go_sem, fo, fr, fn, go, gr]; done) ?_
        repeat' first
 | (apply c_nil)
 | (apply s_st; (focus (repeat (first | apply opds_nil | (apply opds_cons; (first | (focus ((conv => lhs; whnf); done)) | exact rfl))))); exact stF _ _ _ rfl)
 | (apply s_pd; (focus ((conv => lhs; whnf); done)))
 | (apply c_seq)
 | (apply c_reg)
 | (apply c_ret)
 | (with_reducible apply k_c)
        simp [finish, ress, resOf, look, tupOf, ldc, getRow, Heap.cells?, HO.cells?, wholeOf, ownV, owH, gc, subHeap, reach_skip, ren_free, reach_new, reach_newp, reach_end, rangeL, roots, boxCells, nodupB, posOf, renL, AV.ren, pickO, renH, renO, looks, look, bindEnv, fo, fr, fn, go, gr, reach_agg, idFreeL, idf_sl, idf_nilS, reach_nilS]
    · simp only [hp16]
      repeat' first
 | (apply s_mov; (focus ((conv => lhs; whnf); done)))
 | (apply s_gT; exact rfl)
 | (apply s_gF; exact rfl)
 | (apply c_nil)
 | (apply s_pickT; exact rfl; (focus ((conv => lhs; whnf); done)))
 | (apply s_pickF; exact rfl; (focus ((conv => lhs; whnf); done)))
 | ((first | apply s_lss | apply s_leq | apply s_gtr | apply s_geq | apply s_eql | apply s_neq); exact rfl; all_goals (intro _; try (exfalso; omega)))
 | ((first | apply s_add | apply s_sub); exact rfl; omega)
 | (apply s_cn; (focus (repeat (first | apply opds_nil | (apply opds_cons; (first | (focus ((conv => lhs; whnf); done)) | exact rfl))))); exact c17 (by first | assumption | exact IsLL.at (by assumption) (by omega)) (by omega) _)
 | (apply s_en; (focus (repeat (first | apply opds_nil | (apply opds_cons; (first | (focus ((conv => lhs; whnf); done)) | exact rfl))))); exact e_bld1 (isL_fz _).cellsV (isL_fz _).solid (isL_fz _).one (isL_fz _).free)
 | (apply s_en; (focus (repeat (first | apply opds_nil | (apply opds_cons; (first | (focus ((conv => lhs; whnf); done)) | exact rfl))))); exact e_app_sl rfl rfl (by omega) (by simp at hlen; unfold most; omega))
 | (apply isE; apply s_st; (focus (repeat (first | apply opds_nil | (apply opds_cons; (focus ((conv => lhs; whnf); done)))))); focus ((conv => lhs; whnf); done))
 | (apply s_lenLL; (focus ((conv => lhs; whnf); done)); assumption)
 | (apply s_idxLL; (focus ((conv => lhs; whnf); done)); exact rfl; assumption; omega)
 | (apply s_ldLL; exact rfl; assumption; omega)
 | (apply s_pd; (focus ((conv => lhs; whnf); done)))
 | (apply c_seq)
 | (apply c_reg)
 | (apply c_block)
 | (apply c_exitH)
 | (apply c_skip)
 | (apply c_condT; exact rfl)
 | (apply c_condF; exact rfl)
 | (with_reducible apply k_c)
      any_goals (refine hK (i + 1) _ _ ⟨by omega, by omega⟩ (by omega) ?_; rw [hs (by omega)]; exact (by simp [go_sem, fo, fr, fn, go, gr, hp16, putRow]; done))
      all_goals
        have stF : ∀ call v rest, v.one = true → evE call (some (.box [.nilS, .nilS, .nilS]) :: some (.box [zo, zr, v]) :: rest) (.st 3) [.ptr 0 0, .agg [zo, zr, v]] = some (.undef, some (.box [zo, zr, v]) :: some (.box [zo, zr, v]) :: rest) := fun call v rest hv => by
          simp [evE, stAt, AV.cells, oneL, hzo.one, hzr.one, hv, putRow]
        rw [hall (by omega)]
        refine c_pre (vs := [.ptr 0 0, .ptr 1 0]) (H' := [some (.box [.nilS, .nilS, .nilS]), some (.box [zo, zr, .sl 2 1 0 (cs.length + 1)]), some (.data (c :: cs))]) (by simp [go_sem, fo, fr, fn, go, gr]; done) ?_
        repeat' first
 | (apply c_nil)
 | (apply s_st; (focus (repeat (first | apply opds_nil | (apply opds_cons; (first | (focus ((conv => lhs; whnf); done)) | exact rfl))))); exact stF _ _ _ rfl)
 | (apply s_pd; (focus ((conv => lhs; whnf); done)))
 | (apply c_seq)
 | (apply c_reg)
 | (apply c_ret)
 | (with_reducible apply k_c)
        simp [finish, ress, resOf, look, tupOf, ldc, getRow, Heap.cells?, HO.cells?, wholeOf, ownV, owH, gc, subHeap, reach_skip, ren_free, reach_new, reach_newp, reach_end, rangeL, roots, boxCells, nodupB, posOf, renL, AV.ren, pickO, renH, renO, looks, look, bindEnv, fo, fr, fn, go, gr, reach_agg, idFreeL, idf_sl, idf_nilS, reach_nilS]
  · omega
  · have h0 : rws a 0 = [] := by simp [rws]
    rw [h0]
    exact (by simp [go_sem, fo, fr, fn, go, gr, hp16]; done)
theorem c16 {x : AV} {a : Gm} (hx : IsG x a) {m : Nat} (hm : 103 ≤ m) (H : Heap) : callPure (evF tab it m) true 16 [x] H = some (fzG (g30 a), H) := by
  refine callPure_frz (by simp [idFreeL, hx.free]) (by simp) (f16 hx m hm) ?_
  have e : rws a 30 = ((a.next.take 30).map (·.take 30)).map fzL := by simp [rws, Function.comp_def]
  rw [e]
  have h1 := fzL_free (a.owner.take 30)
  have h2 := fzL_free (a.rank.take 30)
  simp only [fzG, g30]
  generalize (a.next.take 30).map (·.take 30) = L
  rcases L with _ | ⟨c, cs⟩
  · simp [ownV, owH, frzV, h1, h2, idFreeL, idf_nilS, fzLL]
  · simp [ownV, owH, frzV_agg, frzL_cons, frzL_nil, frzV_sl, h1, h2, idFreeL, idf_sl, fzLL, Heap.data?, frzV_free, List.take_of_length_le]
end Go.AM.Pa
