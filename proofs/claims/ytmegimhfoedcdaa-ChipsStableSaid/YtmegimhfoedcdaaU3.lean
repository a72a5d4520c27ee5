/- A part of the proof: U3. -/
import Derived.Test.YtmegimhfoedcdaaU2
set_option linter.unusedSectionVars false
set_option linter.unusedVariables false
set_option linter.unusedSimpArgs false
namespace Go.AM.Ch
attribute [local go_sem] gc subHeap reach_skip ren_free reach_new reach_newp reach_end rangeL roots boxCells nodupB posOf renL AV.ren pickO renH renO looks look bindEnv envOf reach_int reach_bool reach_nilS reach_rd putRow cells_sl cells_int cells_bool cells_nilS cells_rd cells_agg reach_agg reach_tup idFreeL idf_sl idf_ptr idf_int idf_bool idf_nilS idf_rd reach_fn reach_mp cells_fn cells_ptr cells_mp idf_mp idf_fn idf_agg idf_tup
set_option maxHeartbeats 1000000
/-- list -/
theorem f19 {x : AV} {l : List Int} (hx : IsL x l) (m : Nat) (hm : 1 ≤ m) : evF tab it m 19 [x] [] = some (ownV 0 (iL (l.take 12)), owH (iL (l.take 12))) := by
  obtain ⟨m, rfl⟩ : ∃ j, m = j + 1 := ⟨m - 1, by omega⟩
  have fx := hx.free
  refine f_enter rfl rfl ?_
  repeat' first
 | (apply s_mov; (focus ((conv => lhs; whnf); done)))
 | (apply c_nil)
 | (apply s_pn; (focus (repeat (first | apply opds_nil | (apply opds_cons; (first | (focus ((conv => lhs; whnf); done)) | exact rfl))))); exact p_slc0 (by assumption) (by omega))
 | (apply s_len; (focus ((conv => lhs; whnf); done)); (first | assumption | (apply IsLL.at; assumption; omega)))
 | (apply s_pd; (focus ((conv => lhs; whnf); done)))
 | (apply c_seq)
 | (apply c_reg)
 | (with_reducible apply k_c)
  generalize hk : (if (12 : Int) < ↑l.length then (12 : Int) else ↑l.length) = k
  have ht : l.take 12 = l.take k.toNat := by
    subst hk
    split
    · rfl
    · rw [Int.toNat_natCast, List.take_length, List.take_of_length_le (by omega)]
  have hkl : 0 ≤ k ∧ k ≤ l.length ∧ k ≤ 12 := by subst hk; split <;> omega
  rw [ht]
  rcases Int.lt_or_le 0 k with h | h
  · rw [tkL_rd hx ⟨h, hkl.2.1⟩]
    refine s_en (by (focus (repeat (first | apply opds_nil | (apply opds_cons; (first | (focus ((conv => lhs; whnf); done)) | exact rfl)))))) (e_app_nil rfl (by omega) (by unfold most; omega)) ?_
    repeat' first
 | (apply s_mov; (focus ((conv => lhs; whnf); done)))
 | (apply c_nil)
 | (apply c_ret)
 | (with_reducible apply k_c)
    have hll : (l.take k.toNat).length = k.toNat := by rw [List.length_take]; omega
    rcases hc : l.take k.toNat with _ | ⟨a, r⟩
    · rw [hc] at hll; simp at hll; omega
    · rw [hc] at hll
      simp only [List.length_cons] at hll
      simp [finish, ress, resOf, look, tupOf, iL, ownV, owH, ← hll, gc, subHeap, reach_new, reach_end, rangeL, roots, boxCells, nodupB, posOf, renL, AV.ren, pickO, renH, renO]
  · have : k = 0 := by omega
    subst this
    obtain ⟨g1, g2⟩ := tkL_len hx
    refine s_en (by (focus (repeat (first | apply opds_nil | (apply opds_cons; (first | (focus ((conv => lhs; whnf); done)) | exact rfl)))))) (e_app_none g1 g2) ?_
    repeat' first
 | (apply s_mov; (focus ((conv => lhs; whnf); done)))
 | (apply c_nil)
 | (apply c_ret)
 | (with_reducible apply k_c)
    refine fin_t (by (conv => lhs; whnf)) (by rfl) (by simp [iL, ownV, owH])
theorem c19 {x : AV} {l : List Int} (hx : IsL x l) {m : Nat} (hm : 1 ≤ m) (H : Heap) : callPure (evF tab it m) true 19 [x] H = some (fzL (l.take 12), H) := by
  refine callPure_frz (by simp [idFreeL, hx.free]) (by simp) (f19 hx m hm) (frz_own _)
/-- the rows that board has copied -/
def rws (a : List (List Int)) (i : Nat) : List AV := (a.take i).map fun r => fzL (r.take 12)
theorem rws_succ (a : List (List Int)) {i : Nat} (h : i < a.length) : rws a (i + 1) = rws a i ++ [fzL ((getLL a i).take 12)] := by
  simp only [rws, List.take_add_one, List.getElem?_eq_getElem h, Option.toList_some, List.map_append, List.map_cons, List.map_nil, getLL_nat, List.getD, Option.getD_some]
theorem own_gc (x : AV) (i : Nat) (l : List AV) (fx : x.idFree = true) : gc 0 [x, ownV 0 l, .int .i64 (i : Int)] (owH l) = some ([x, ownV 0 l, .int .i64 (i : Int)], owH l) := by
  cases l <;> simp [ownV, owH, go_sem, fx]
def b12 (a : List (List Int)) : List (List Int) := (a.take 12).map (·.take 12)
/-- board -/
theorem f18 {x : AV} {a : List (List Int)} (hx : IsLL x a) (m : Nat) (hm : 103 ≤ m) : evF tab it m 18 [x] [] = some (ownV 0 (rws a 12), owH (rws a 12)) := by
  obtain ⟨m, rfl⟩ : ∃ j, m = j + 1 := ⟨m - 1, by omega⟩
  have fx := hx.free
  refine f_enter rfl rfl ?_
  have e19 := fun {i : Nat} (h1 : i < a.length) H => c19 (m := m) (hx.at (i := (i : Int)) ⟨by omega, by omega⟩) (by omega) H
  generalize evF tab it m = call at *
  repeat' first
 | (apply s_mov; (focus ((conv => lhs; whnf); done)))
 | (apply c_nil)
 | (apply c_seq)
 | (apply c_reg)
 | (apply c_block)
 | (with_reducible apply k_c)
  refine c_loop ?_
  refine loop_gc (σ := Nat) (fun i => [x, ownV 0 (rws a i), .int .i64 (i : Int)]) (fun i => owH (rws a i)) (fun i => i ≤ a.length ∧ i ≤ 12) (fun i => 12 - i) ?_ _ 0 _ _ ⟨by omega, by omega⟩ (by omega) (own_gc x 0 [] fx)
  intro i ⟨hi, hi'⟩ K hK
  have hlen : (rws a i).length ≤ 12 := by simp [rws]; omega
  have hs := fun h => @rws_succ a i h
  have hg := own_gc x (i + 1) (rws a (i + 1)) fx
  have hall : ¬ (i : Int) < a.length ∨ ¬ (i : Int) < 12 → rws a 12 = rws a i := fun h => by
    simp only [rws]
    congr 1
    rcases Nat.lt_or_ge i a.length with h' | h'
    · rw [show i = 12 by omega]
    · rw [List.take_of_length_le (by omega), List.take_of_length_le (by omega)]
  have hK1 := hK (i + 1)
  have hz := isL_fz ((getLL a i).take 12)
  by_cases hin : i < a.length ∧ i < 12
  · rw [hs hin.1] at hg hK1
    have e19' := e19 hin.1
    generalize fzL ((getLL a (i : Int)).take 12) = z at *
    generalize rws a i = rows at *
    rcases rows with _ | ⟨c, cs⟩
    · simp only [ownV, owH] at *
      repeat' first
 | (apply s_mov; (focus ((conv => lhs; whnf); done)))
 | (apply s_gT; exact rfl)
 | (apply c_nil)
 | (apply s_pickT; exact rfl; (focus ((conv => lhs; whnf); done)))
 | ((first | apply s_lss | apply s_leq | apply s_gtr | apply s_geq | apply s_eql | apply s_neq); exact rfl; all_goals (intro _; try (exfalso; omega)))
 | ((first | apply s_add | apply s_sub); exact rfl; omega)
 | (apply s_cn; (focus (repeat (first | apply opds_nil | (apply opds_cons; (first | (focus ((conv => lhs; whnf); done)) | exact rfl))))); exact e19' _)
 | (apply s_en; (focus (repeat (first | apply opds_nil | (apply opds_cons; (first | (focus ((conv => lhs; whnf); done)) | exact rfl))))); exact e_bld1 hz.cellsV hz.solid hz.one hz.free)
 | (apply s_en; (focus (repeat (first | apply opds_nil | (apply opds_cons; (first | (focus ((conv => lhs; whnf); done)) | exact rfl))))); exact e_app_nil rfl (by omega) (by decide))
 | (apply s_lenLL; (focus ((conv => lhs; whnf); done)); assumption)
 | (apply s_idxLL; (focus ((conv => lhs; whnf); done)); exact rfl; assumption; omega)
 | (apply s_ldLL; exact rfl; assumption; omega)
 | (apply c_seq)
 | (apply c_reg)
 | (apply c_block)
 | (apply c_skip)
 | (apply c_condT; exact rfl)
 | (with_reducible apply k_c)
      all_goals first | exact hK1 _ _ ⟨by omega, by omega⟩ (by omega) (by simp [ownV, owH, go_sem, fx]) | (exfalso; omega)
    · simp only [ownV, owH] at *
      repeat' first
 | (apply s_mov; (focus ((conv => lhs; whnf); done)))
 | (apply s_gT; exact rfl)
 | (apply c_nil)
 | (apply s_pickT; exact rfl; (focus ((conv => lhs; whnf); done)))
 | ((first | apply s_lss | apply s_leq | apply s_gtr | apply s_geq | apply s_eql | apply s_neq); exact rfl; all_goals (intro _; try (exfalso; omega)))
 | ((first | apply s_add | apply s_sub); exact rfl; omega)
 | (apply s_cn; (focus (repeat (first | apply opds_nil | (apply opds_cons; (first | (focus ((conv => lhs; whnf); done)) | exact rfl))))); exact e19' _)
 | (apply s_en; (focus (repeat (first | apply opds_nil | (apply opds_cons; (first | (focus ((conv => lhs; whnf); done)) | exact rfl))))); exact e_bld1 hz.cellsV hz.solid hz.one hz.free)
 | (apply s_en; (focus (repeat (first | apply opds_nil | (apply opds_cons; (first | (focus ((conv => lhs; whnf); done)) | exact rfl))))); exact e_app_sl rfl rfl (by omega) (by simp at hlen; unfold most; omega))
 | (apply s_lenLL; (focus ((conv => lhs; whnf); done)); assumption)
 | (apply s_idxLL; (focus ((conv => lhs; whnf); done)); exact rfl; assumption; omega)
 | (apply s_ldLL; exact rfl; assumption; omega)
 | (apply c_seq)
 | (apply c_reg)
 | (apply c_block)
 | (apply c_skip)
 | (apply c_condT; exact rfl)
 | (with_reducible apply k_c)
      all_goals first | exact hK1 _ _ ⟨by omega, by omega⟩ (by omega) (by simp [ownV, owH, go_sem, fx]) | (exfalso; omega)
  · rw [hall (by omega)]
    generalize rws a i = rows at *
    repeat' first
 | (apply s_mov; (focus ((conv => lhs; whnf); done)))
 | (apply s_gT; exact rfl)
 | (apply s_gF; exact rfl)
 | (apply c_nil)
 | (apply s_pickT; exact rfl; (focus ((conv => lhs; whnf); done)))
 | (apply s_pickF; exact rfl; (focus ((conv => lhs; whnf); done)))
 | ((first | apply s_lss | apply s_leq | apply s_gtr | apply s_geq | apply s_eql | apply s_neq); exact rfl; all_goals (intro _; try (exfalso; omega)))
 | (apply s_lenLL; (focus ((conv => lhs; whnf); done)); assumption)
 | (apply c_seq)
 | (apply c_reg)
 | (apply c_exitH)
 | (apply c_condF; exact rfl)
 | (with_reducible apply k_c)
    all_goals first | (exfalso; omega) | skip
    all_goals apply c_pre (vs := [ownV 0 rows]) (H' := owH rows)
    all_goals first | (cases rows <;> simp [ownV, owH, go_sem, look, looks, bindEnv, envOf]; done) | skip
    repeat' first
 | (apply s_mov; (focus ((conv => lhs; whnf); done)))
 | (apply c_nil)
 | (apply c_seq)
 | (apply c_reg)
 | (apply c_ret)
 | (with_reducible apply k_c)
    all_goals (cases rows <;> simp [finish, ress, resOf, look, tupOf, ownV, owH, go_sem])
theorem c18 {x : AV} {a : List (List Int)} (hx : IsLL x a) {m : Nat} (hm : 103 ≤ m) (H : Heap) : callPure (evF tab it m) true 18 [x] H = some (fzLL (b12 a), H) := by
  refine callPure_frz (by simp [idFreeL, hx.free]) (by simp) (f18 hx m hm) ?_
  have e : rws a 12 = (b12 a).map fzL := by simp [rws, b12, Function.comp_def]
  rw [e]
  generalize b12 a = L
  rcases L with _ | ⟨c, cs⟩
  · simp [ownV, owH, frzV, fzLL]
  · simp [ownV, owH, frzV_sl, fzLL, Heap.data?, List.take_of_length_le]
end Go.AM.Ch
