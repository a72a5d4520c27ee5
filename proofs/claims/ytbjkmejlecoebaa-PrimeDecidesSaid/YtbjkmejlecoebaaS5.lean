/- A part of the proof: S5. -/
import Derived.Test.YtbjkmejlecoebaaS4
set_option linter.unusedSectionVars false
set_option linter.unusedVariables false
set_option linter.unusedSimpArgs false
namespace Go.AM.Pr
attribute [local go_sem] gc subHeap reach_skip ren_free reach_new reach_newp reach_end rangeL roots boxCells nodupB posOf renL AV.ren pickO renH renO looks look bindEnv envOf reach_int reach_bool reach_nilS reach_rd putRow cells_sl cells_int cells_bool cells_nilS cells_rd cells_agg reach_agg reach_tup idFreeL idf_sl idf_ptr idf_int idf_bool idf_nilS idf_rd reach_fn reach_mp cells_fn cells_ptr cells_mp idf_mp idf_fn idf_agg idf_tup
open Go.AM.Num
theorem e_appz_nil {call : CallF} {q sz : Nat} {H : Heap} {cs : List AV} {n : Nat} (hn : n ≠ 0) (hm : n ≤ most) : evE call H (.app false sz q) [.nilS, .rd sz n cs] = some (.sl H.length sz 0 n, H ++ [some (.data cs)]) := by
  simp [evE, appOf, szOk, lenOf, rowOf, hn, hm, killRow, newRow]
theorem e_appz_sl {call : CallF} {q id sz : Nat} {H : Heap} {cs bs : List AV} {n k : Nat} (h : H.data? id = some cs) (hl : cs.length = k * sz) (hn : n ≠ 0) (hm : k + n ≤ most) : evE call H (.app false sz q) [.sl id sz 0 k, .rd sz n bs] = some (.sl (H.set id none).length sz 0 (k + n), H.set id none ++ [some (.data (cs ++ bs))]) := by
  simp [evE, appOf, szOk, lenOf, rowOf, hn, hm, killRow, newRow, h, hl, List.take_of_length_le]
theorem e_stBox {call : CallF} {H : Heap} {id : Nat} {v w : AV} (hH : H[id]? = some (some (.box [w]))) (h1 : v.cells = [v]) (h2 : v.solid = true) (h3 : v.one = true) : evE call H (.st 1) [.ptr id 0, v] = some (.undef, H.set id (some (.box [v]))) := by
  simp [evE, stAt, hH, h1, h2, oneL, h3, putRow]
theorem e_bldP {call : CallF} {H : Heap} {a b : Int} : evE call H (.bldS true true 2 1 [.int .i64 0, .int .i64 0] [(0, 2)]) [.agg [.int .i64 a, .int .i64 b]] = some (.rd 2 1 [.int .i64 a, .int .i64 b], H) := rfl
theorem p_bldP {H : Heap} {a b : Int} : evP H (.bld [.int .i64 0, .int .i64 0] [(0, 1), (1, 1)]) [.int .i64 a, .int .i64 b] = some (.agg [.int .i64 a, .int .i64 b]) := rfl
def cellH (sz : Nat) : Nat → List AV → Heap
  | 0, _ => [some (.box [.nilS])]
  | n + 1, C => [some (.box [.sl 1 sz 0 (n + 1)]), some (.data C)]
def pcs (l : List (Nat × Nat)) : List AV := l.flatMap fun x => [.int .i64 (x.1 : Int), .int .i64 (x.2 : Int)]
theorem pcs_len (l : List (Nat × Nat)) : (pcs l).length = l.length * 2 := by
  induction l with
  | nil => rfl
  | cons x l ih =>
    have : pcs (x :: l) = .int .i64 (x.1 : Int) :: .int .i64 (x.2 : Int) :: pcs l := rfl
    rw [this]
    simp only [List.length_cons, ih]
    omega
theorem pcs_app (l r : List (Nat × Nat)) : pcs (l ++ r) = pcs l ++ pcs r := by simp [pcs]
theorem f62 {q t : Nat} {l : List (Nat × Nat)} (hl : l.length < 1000) {m : Nat} (hm : 1 ≤ m) : evF tab it m 62 [.int .i64 (q : Int), .int .i64 (t : Int), .ptr 0 0] (cellH 2 l.length (pcs l)) =
    some (.tup [], if l.length = 0 then cellH 2 1 (pcs (l ++ [(q, t)])) else [some (.box [.sl 2 2 0 (l.length + 1)]), none, some (.data (pcs (l ++ [(q, t)])))]) := by
  obtain ⟨m, rfl⟩ : ∃ j, m = j + 1 := ⟨m - 1, by omega⟩
  have hlen := pcs_len l
  have hp := pcs_app l [(q, t)]
  generalize evF tab it m = call at *
  have hp1 : pcs [(q, t)] = [.int .i64 (q : Int), .int .i64 (t : Int)] := rfl
  rw [hp1] at hp
  cases hn : l.length with
  | zero =>
    obtain rfl : l = [] := List.length_eq_zero_iff.1 hn
    rw [if_pos rfl]
    refine f_enterH rfl rfl ?_
    rw [hp]
    simp only [cellH]
    repeat' first
 | (apply s_mov; (focus ((conv => lhs; whnf); done)))
 | (apply c_nil)
 | (apply s_pn; (focus (repeat (first | apply opds_nil | (apply opds_cons; (first | (focus ((conv => lhs; whnf); done)) | exact rfl))))); exact p_bldP)
 | (apply s_en; (focus (repeat (first | apply opds_nil | (apply opds_cons; (first | (focus ((conv => lhs; whnf); done)) | exact rfl))))); exact e_bldP)
 | (apply s_en; (focus (repeat (first | apply opds_nil | (apply opds_cons; (first | (focus ((conv => lhs; whnf); done)) | exact rfl))))); exact e_appz_nil (by omega) (by decide))
 | (apply s_st; (focus (repeat (first | apply opds_nil | (apply opds_cons; (first | (focus ((conv => lhs; whnf); done)) | exact rfl))))); exact e_stBox rfl rfl rfl rfl)
 | (apply s_pd; exact rfl)
 | (apply c_reg)
    simp [finish, ress, tupOf, go_sem, pcs]
  | succ n =>
    rw [if_neg (by omega)]
    rw [hn] at hlen
    refine f_enterH rfl rfl ?_
    generalize hC : pcs l = C at *
    generalize pcs (l ++ [(q, t)]) = D at *
    simp only [cellH]
    repeat' first
 | (apply s_mov; (focus ((conv => lhs; whnf); done)))
 | (apply c_nil)
 | (apply s_pn; (focus (repeat (first | apply opds_nil | (apply opds_cons; (first | (focus ((conv => lhs; whnf); done)) | exact rfl))))); exact p_bldP)
 | (apply s_en; (focus (repeat (first | apply opds_nil | (apply opds_cons; (first | (focus ((conv => lhs; whnf); done)) | exact rfl))))); exact e_bldP)
 | (apply s_en; (focus (repeat (first | apply opds_nil | (apply opds_cons; (first | (focus ((conv => lhs; whnf); done)) | exact rfl))))); exact e_appz_sl rfl hlen (by omega) (by unfold most; omega))
 | (apply s_st; (focus (repeat (first | apply opds_nil | (apply opds_cons; (first | (focus ((conv => lhs; whnf); done)) | exact rfl))))); exact e_stBox rfl rfl rfl rfl)
 | (apply s_pd; exact rfl)
 | (apply c_reg)
    rw [hp]
    simp [finish, ress, tupOf, go_sem]
/-- the heap behind a closure that appends -/
theorem clo_cell {call : CallF} {g sz n : Nat} {C D : List AV} {x y : Int}
    (hc : call g [.int .i64 x, .int .i64 y, .ptr 0 0] (cellH sz n C) = some (.tup [], if n = 0 then cellH sz 1 D else [some (.box [.sl 2 sz 0 (n + 1)]), none, some (.data D)])) :
    ∃ H', callMut call g [.int .i64 x, .int .i64 y, .ptr 0 0] (cellH sz n C) = some (.tup [], H') ∧
      (∀ a b : Int, gc 1 [.int .i64 a, .fn g [.ptr 0 0], .int .i64 b] H' = some ([.int .i64 a, .fn g [.ptr 0 0], .int .i64 b], cellH sz (n + 1) D)) ∧ gc 1 [.tup []] H' = some ([.tup []], cellH sz (n + 1) D) := by
  cases n with
  | zero =>
    simp only [cellH, if_true] at hc ⊢
    refine ⟨[some (.box [.sl 1 sz 0 1]), some (.data D)], ?_, fun a b => ?_, ?_⟩
    · simp [callMut, subHeap, backOf, writeBack, hc, go_sem]
    · simp [go_sem]
    · simp [go_sem]
  | succ n =>
    rw [if_neg (by omega)] at hc
    simp only [cellH] at hc ⊢
    refine ⟨[some (.box [.sl 2 sz 0 (n + 1 + 1)]), none, some (.data D)], ?_, fun a b => ?_, ?_⟩
    · simp [callMut, subHeap, backOf, writeBack, hc, go_sem]
    · simp [go_sem]
    · simp [go_sem]
end Go.AM.Pr
