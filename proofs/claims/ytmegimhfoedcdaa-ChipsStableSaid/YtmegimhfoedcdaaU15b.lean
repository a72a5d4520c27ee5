/- A part of the proof: U15b. -/
import Derived.Test.YtmegimhfoedcdaaU15
set_option linter.unusedSectionVars false
set_option linter.unusedVariables false
set_option linter.unusedSimpArgs false
namespace Go.AM.Ch
attribute [local go_sem] gc subHeap reach_skip ren_free reach_new reach_newp reach_end rangeL roots boxCells nodupB posOf renL AV.ren pickO renH renO looks look bindEnv envOf reach_int reach_bool reach_nilS reach_rd putRow cells_sl cells_int cells_bool cells_nilS cells_rd cells_agg reach_agg reach_tup idFreeL idf_sl idf_ptr idf_int idf_bool idf_nilS idf_rd reach_fn reach_mp cells_fn cells_ptr cells_mp idf_mp idf_fn idf_agg idf_tup
set_option maxHeartbeats 2000000
/-- reached or not -/
def sn (d : List Int) : List AV := d.map fun x => .bool (decide (0 ≤ x))
theorem sn_len (d : List Int) : (sn d).length = d.length := by simp [sn]
theorem p_ldS {H : Heap} {id : Nat} {d : List Int} {i : Nat} (h : H.data? id = some (sn d)) (hi : i < d.length) : evP H (.ld false 1) [.ptr id i] = some (.bool (decide (0 ≤ getI d (i : Int)))) := by
  have hc : H.cells? id = some (sn d) := cells_of_data h
  have hl := sn_len d
  have e : ((sn d).drop i).take 1 = [.bool (decide (0 ≤ getI d (i : Int)))] := by
    rw [List.drop_eq_getElem_cons (by omega), getI_nat]
    simp [sn, List.getD, hi]
  have hg : getRow H id i 1 = some [.bool (decide (0 ≤ getI d (i : Int)))] := by
    unfold getRow
    rw [hc, Option.bind_some, if_pos (by omega), e]
  simp [evP, ldc, hg, wholeOf]
theorem e_stS {call : CallF} {H : Heap} {id : Nat} {d : List Int} {i : Nat} {a : Int} (h : H.data? id = some (sn d)) (hi : i < d.length) (ha : 0 ≤ a) : evE call H (.st 1) [.ptr id i, .bool true] = some (.undef, H.set id (some (.data (sn (d.set i a))))) := by
  have h1 := data?_iff.1 h
  have hl := sn_len d
  have e : putRow (sn d) i [.bool true] = sn (d.set i a) := by
    unfold putRow sn
    rw [List.map_set]
    simp only [ha, decide_true, List.length_cons, List.length_nil]
    rw [List.set_eq_take_append_cons_drop]
    simp [hi]
  have hf : idFreeL [AV.bool true] = true := rfl
  have e' : List.take i (sn d) ++ AV.bool true :: List.drop (i + 1) (sn d) = sn (d.set i a) := by simpa [putRow] using e
  simp [evE, stAt, h1, go_sem, oneL, AV.one, hl, show i + 1 ≤ d.length by omega]
  rw [e']
end Go.AM.Ch
