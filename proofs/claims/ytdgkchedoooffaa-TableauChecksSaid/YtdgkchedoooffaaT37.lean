/- A part of the proof: T37. -/
import Derived.Test.YtdgkchedoooffaaT4
import Derived.Test.YtdgkchedoooffaaT15
set_option linter.unusedVariables false
set_option linter.unusedSimpArgs false
set_option linter.unusedSectionVars false
namespace Go.AM.Tb
attribute [local go_sem] gc subHeap reach_skip ren_free reach_new reach_newp reach_end rangeL roots boxCells nodupB posOf renL AV.ren pickO renH renO looks look bindEnv envOf reach_int reach_bool reach_nilS reach_rd putRow cells_sl cells_int cells_bool cells_nilS cells_rd cells_agg reach_agg reach_tup idFreeL idf_sl idf_ptr idf_int idf_bool idf_nilS idf_rd reach_fn reach_mp cells_fn cells_ptr cells_mp idf_mp idf_fn idf_agg idf_tup
set_option maxHeartbeats 1000000
def rws (a : List (List Int)) (i : Nat) : List AV := (a.take i).map fun r => fzL (r.take 61)
theorem rws_succ (a : List (List Int)) {i : Nat} (h : i < a.length) : rws a (i + 1) = rws a i ++ [fzL ((getLL a i).take 61)] := by
  simp only [rws, List.take_add_one, List.getElem?_eq_getElem h, Option.toList_some, List.map_append, List.map_cons, List.map_nil, getLL_nat, List.getD, Option.getD_some]
theorem own_gc (x : AV) (i : Nat) (l : List AV) (fx : x.idFree = true) : gc 0 [x, ownV 0 l, .int .i64 (i : Int)] (owH l) = some ([x, ownV 0 l, .int .i64 (i : Int)], owH l) := by
  cases l <;> simp [ownV, owH, go_sem, fx]
theorem f41 {x : AV} {a : List (List Int)} (hx : IsLL x a) (m : Nat) (hm : 103 ≤ m) : evF tab it m 41 [x] [] = some (ownV 0 (rws a 61), owH (rws a 61)) := by
  obtain ⟨m, rfl⟩ : ∃ j, m = j + 1 := ⟨m - 1, by omega⟩
  have fx := hx.free
  refine f_enter rfl rfl ?_
  have e19 := fun {i : Nat} (h1 : i < a.length) H => c19 (m := m) (hx.at (i := (i : Int)) ⟨by omega, by omega⟩) (by omega) H
  generalize evF tab it m = call at *
  repeat' first
 | (apply s_mov; exact aW)
 | (apply c_nil)
 | (apply c_seq)
 | (apply c_reg)
 | (apply c_block)
 | (with_reducible apply k_c)
  refine c_loop ?_
  refine loop_gc (σ := Nat) (fun i => [x, ownV 0 (rws a i), .int .i64 (i : Int)]) (fun i => owH (rws a i)) (fun i => i ≤ a.length ∧ i ≤ 61) (fun i => 61 - i) ?_ _ 0 _ _ ⟨by omega, by omega⟩ (by omega) (own_gc x 0 [] fx)
  intro i ⟨hi, hi'⟩ K hK
  have hlen : (rws a i).length ≤ 61 := by simp [rws]; omega
  have hs := fun h => @rws_succ a i h
  have hg := own_gc x (i + 1) (rws a (i + 1)) fx
  have hall : ¬ (i : Int) < a.length ∨ ¬ (i : Int) < 61 → rws a 61 = rws a i := fun h => by
    simp only [rws]
    congr 1
    rcases Nat.lt_or_ge i a.length with h' | h'
    · rw [show i = 61 by omega]
    · rw [List.take_of_length_le (by omega), List.take_of_length_le (by omega)]
  have hK1 := hK (i + 1)
  have hz := isL_fz ((getLL a i).take 61)
  by_cases hin : i < a.length ∧ i < 61
  · rw [hs hin.1] at hg hK1
    have e19' := e19 hin.1
    generalize fzL ((getLL a (i : Int)).take 61) = z at *
    generalize rws a i = rows at *
    rcases rows with _ | ⟨c, cs⟩
    · simp only [ownV, owH] at *
      repeat' first
 | (apply s_mov; exact aW)
 | (apply s_gT; exact rfl)
 | (apply c_nil)
 | (apply s_pickT; exact rfl; exact aW)
 | (apply s_lss; exact rfl; all_goals (intro _; try (exfalso; omega)))
 | (apply s_add; exact rfl; omega)
 | (apply s_cn; exact aO; exact e19' _)
 | (apply s_en; exact aO; exact e_bld1 hz.cellsV hz.solid hz.one hz.free)
 | (apply s_en; exact aO; exact e_app_nil rfl (by omega) (by decide))
 | (apply s_lenLL; exact aW; assumption)
 | (apply s_idxLL; exact aW; exact rfl; assumption; omega)
 | (apply s_ldLL; exact rfl; assumption; omega)
 | (apply c_seq)
 | (apply c_reg)
 | (apply c_block)
 | (apply c_skip)
 | (apply c_condT; exact rfl)
 | (with_reducible apply k_c)
      all_goals first | exact hK1 _ _ ⟨by omega, by omega⟩ (by omega) (by simp [ownV, owH, go_sem, fx]) | (exfalso; omega)
    · simp only [ownV, owH] at *
      repeat' first
 | (apply s_mov; exact aW)
 | (apply s_gT; exact rfl)
 | (apply c_nil)
 | (apply s_pickT; exact rfl; exact aW)
 | (apply s_lss; exact rfl; all_goals (intro _; try (exfalso; omega)))
 | (apply s_add; exact rfl; omega)
 | (apply s_cn; exact aO; exact e19' _)
 | (apply s_en; exact aO; exact e_bld1 hz.cellsV hz.solid hz.one hz.free)
 | (apply s_en; exact aO; exact e_app_sl rfl rfl (by omega) (by simp at hlen; unfold most; omega))
 | (apply s_lenLL; exact aW; assumption)
 | (apply s_idxLL; exact aW; exact rfl; assumption; omega)
 | (apply s_ldLL; exact rfl; assumption; omega)
 | (apply c_seq)
 | (apply c_reg)
 | (apply c_block)
 | (apply c_skip)
 | (apply c_condT; exact rfl)
 | (with_reducible apply k_c)
      all_goals first | exact hK1 _ _ ⟨by omega, by omega⟩ (by omega) (by simp [ownV, owH, go_sem, fx]) | (exfalso; omega)
  · rw [hall (by omega)]
    generalize rws a i = rows at *
    repeat' first
 | (apply s_mov; exact aW)
 | (apply s_gT; exact rfl)
 | (apply s_gF; exact rfl)
 | (apply c_nil)
 | (apply s_pickT; exact rfl; exact aW)
 | (apply s_pickF; exact rfl; exact aW)
 | (apply s_lss; exact rfl; all_goals (intro _; try (exfalso; omega)))
 | (apply s_lenLL; exact aW; assumption)
 | (apply c_seq)
 | (apply c_reg)
 | (apply c_exitH)
 | (apply c_condF; exact rfl)
 | (with_reducible apply k_c)
    all_goals first | (exfalso; omega) | skip
    all_goals apply c_pre (vs := [ownV 0 rows]) (H' := owH rows)
    all_goals first | (cases rows <;> simp [ownV, owH, go_sem, look, looks, bindEnv, envOf]; done) | skip
    repeat' first
 | (apply s_mov; exact aW)
 | (apply c_nil)
 | (apply c_seq)
 | (apply c_reg)
 | (apply c_ret)
 | (with_reducible apply k_c)
    all_goals (cases rows <;> simp [finish, ress, resOf, look, tupOf, ownV, owH, go_sem])
theorem c41 {x : AV} {a : List (List Int)} (hx : IsLL x a) {m : Nat} (hm : 103 ≤ m) (H : Heap) : callPure (evF tab it m) true 41 [x] H = some (fzLL (b61 a), H) := by
  refine callPure_frz (by simp [idFreeL, hx.free]) (by simp) (f41 hx m hm) ?_
  have e : rws a 61 = (b61 a).map fzL := by simp [rws, b61, Function.comp_def]
  rw [e]
  generalize b61 a = L
  rcases L with _ | ⟨c, cs⟩
  · simp [ownV, owH, frzV, fzLL]
  · simp [ownV, owH, frzV_sl, fzLL, Heap.data?, List.take_of_length_le]
theorem T45 : T 45 = some ⟨.struct [(0, 24), (1, 24)], 2, 48, [.nilS, .nilS]⟩ := rfl
theorem arg_family {k : Nat} {x : AV} (h : TyArg T k 45 x) : ∃ (u v : AV) (U V : List (List Int)), x = .agg [u, v] ∧ IsLL u U ∧ IsLL v V := by
  rcases h with ⟨s, xs, hs, ha, rfl, h⟩ | ⟨s, hs, ha, h⟩
  · cases k with
    | zero => exact h.elim
    | succ k =>
      obtain ⟨s', hs', hm0⟩ := h
      rw [T45] at hs'; cases hs'
      obtain ⟨hl, hm⟩ := hm0
      obtain ⟨s1, e1, t1⟩ := hm (0, 24) (by simp)
      obtain ⟨s2, e2, t2⟩ := hm (1, 24) (by simp)
      simp only at e1 e2 hl
      rw [T24] at e1 e2
      cases e1; cases e2
      match xs, hl with
      | [b, c], _ =>
        simp at t1 t2
        obtain ⟨y, F, hy, hF⟩ := ty_rows t1
        obtain ⟨z, O, hz, hO⟩ := ty_rows t2
        simp only [List.cons.injEq, and_true] at hy hz
        subst hy; subst hz
        exact ⟨b, c, F, O, rfl, hF, hO⟩
  · rw [T45] at hs; cases hs; cases ha
end Go.AM.Tb
