/- A part of the proof: S42. -/
import Derived.Test.YtbjkmejlecoebaaS41
set_option linter.unusedSectionVars false
set_option linter.unusedVariables false
set_option linter.unusedSimpArgs false
namespace Go.AM.Pr
attribute [local go_sem] gc subHeap reach_skip ren_free reach_new reach_newp reach_end rangeL roots boxCells nodupB posOf renL AV.ren pickO renH renO looks look bindEnv envOf reach_int reach_bool reach_nilS reach_rd putRow cells_sl cells_int cells_bool cells_nilS cells_rd cells_agg reach_agg reach_tup idFreeL idf_sl idf_ptr idf_int idf_bool idf_nilS idf_rd reach_fn reach_mp cells_fn cells_ptr cells_mp idf_mp idf_fn idf_agg idf_tup
open Go.AM.Num
set_option maxHeartbeats 4000000
def cellG (k : Nat) (C : List AV) (M : List (AV × AV)) : Heap := match k with
  | 0 => [some (.box [.nilS]), some (.box [.mp 2]), some (.map M)]
  | k + 1 => [some (.box [.sl 3 1 0 (k + 1)]), some (.box [.mp 2]), some (.map M), some (.data C)]
theorem e_bld1 {call : CallF} {H : Heap} {a : Int} : evE call H (.bldS true true 1 1 [.int .i64 0] [(0, 1)]) [.int .i64 a] = some (.rd 1 1 [.int .i64 a], H) := rfl
theorem f66 {m q t k : Nat} {C : List AV} {M M' : List (AV × AV)} (hC : C.length = k) (hk : k < 1000) (h54 : evF tab it m 54 [.int .i64 (q : Int), .mp 0] [some (.map M)] = some (.tup [], [some (.map M')])) :
    ∃ H', callMut (evF tab it (m + 1)) 66 [.int .i64 (q : Int), .int .i64 (t : Int), .ptr 0 0, .ptr 1 0] (cellG k C M) = some (.tup [], H') ∧
      (∀ a b : Int, gc 3 [.int .i64 a, .fn 66 [.ptr 0 0, .ptr 1 0], .int .i64 b] H' = some ([.int .i64 a, .fn 66 [.ptr 0 0, .ptr 1 0], .int .i64 b], cellG (k + 1) (C ++ [.int .i64 (q : Int)]) M')) ∧
      gc 3 [.tup []] H' = some ([.tup []], cellG (k + 1) (C ++ [.int .i64 (q : Int)]) M') := by
  cases k with
  | zero =>
    obtain rfl : C = [] := List.eq_nil_of_length_eq_zero hC
    have hf : evF tab it (m + 1) 66 [.int .i64 (q : Int), .int .i64 (t : Int), .ptr 0 0, .ptr 1 0] [some (.box [.nilS]), some (.box [.mp 2]), some (.map M)] = some (.tup [], [some (.box [.sl 3 1 0 1]), some (.box [.mp 2]), some (.map M'), some (.data [.int .i64 (q : Int)])]) := by
      have h1 : callMut (evF tab it m) 54 [.int .i64 (q : Int), .mp 2] [some (.box [.sl 3 1 0 1]), some (.box [.mp 2]), some (.map M), some (.data [.int .i64 (q : Int)])] = some (.tup [], [some (.box [.sl 3 1 0 1]), some (.box [.mp 2]), some (.map M'), some (.data [.int .i64 (q : Int)])]) := by
        simp [callMut, subHeap, backOf, writeBack, h54, go_sem]
      refine f_enterH rfl rfl ?_
      generalize evF tab it m = call at *
      repeat' first
 | (apply s_mov; (focus ((conv => lhs; whnf); done)))
 | (apply c_nil)
 | (apply s_en; (focus (repeat (first | apply opds_nil | (apply opds_cons; (first | (focus ((conv => lhs; whnf); done)) | exact rfl))))); exact e_bld1)
 | (apply s_en; (focus (repeat (first | apply opds_nil | (apply opds_cons; (first | (focus ((conv => lhs; whnf); done)) | exact rfl))))); exact e_appz_nil (by omega) (by decide))
 | (apply s_st; (focus (repeat (first | apply opds_nil | (apply opds_cons; (first | (focus ((conv => lhs; whnf); done)) | exact rfl))))); exact e_stBox rfl rfl rfl rfl)
 | (apply s_en; (focus (repeat (first | apply opds_nil | (apply opds_cons; (first | (focus ((conv => lhs; whnf); done)) | exact rfl))))); exact h1)
 | (apply s_pd; exact rfl)
 | (apply c_seq)
 | (apply c_reg)
 | (with_reducible apply k_c)
      simp [finish, ress, tupOf, go_sem]
    refine ⟨[some (.box [.sl 3 1 0 1]), some (.box [.mp 2]), some (.map M'), some (.data [.int .i64 (q : Int)])], ?_, fun a b => ?_, ?_⟩
    · simp [callMut, subHeap, backOf, writeBack, hf, go_sem, cellG]
    · simp [go_sem, cellG]
    · simp [go_sem, cellG]
  | succ k =>
    have hf : evF tab it (m + 1) 66 [.int .i64 (q : Int), .int .i64 (t : Int), .ptr 0 0, .ptr 2 0] [some (.box [.sl 1 1 0 (k + 1)]), some (.data C), some (.box [.mp 3]), some (.map M)] = some (.tup [], [some (.box [.sl 4 1 0 (k + 2)]), none, some (.box [.mp 3]), some (.map M'), some (.data (C ++ [.int .i64 (q : Int)]))]) := by
      have h1 : callMut (evF tab it m) 54 [.int .i64 (q : Int), .mp 3] [some (.box [.sl 4 1 0 (k + 2)]), none, some (.box [.mp 3]), some (.map M), some (.data (C ++ [.int .i64 (q : Int)]))] = some (.tup [], [some (.box [.sl 4 1 0 (k + 2)]), none, some (.box [.mp 3]), some (.map M'), some (.data (C ++ [.int .i64 (q : Int)]))]) := by
        simp [callMut, subHeap, backOf, writeBack, h54, go_sem]
      refine f_enterH rfl rfl ?_
      generalize evF tab it m = call at *
      have hC1 : C.length = (k + 1) * 1 := by omega
      repeat' first
 | (apply s_mov; (focus ((conv => lhs; whnf); done)))
 | (apply c_nil)
 | (apply s_en; (focus (repeat (first | apply opds_nil | (apply opds_cons; (first | (focus ((conv => lhs; whnf); done)) | exact rfl))))); exact e_bld1)
 | (apply s_en; (focus (repeat (first | apply opds_nil | (apply opds_cons; (first | (focus ((conv => lhs; whnf); done)) | exact rfl))))); exact e_appz_sl rfl hC1 (by omega) (by unfold most; omega))
 | (apply s_st; (focus (repeat (first | apply opds_nil | (apply opds_cons; (first | (focus ((conv => lhs; whnf); done)) | exact rfl))))); exact e_stBox rfl rfl rfl rfl)
 | (apply s_en; (focus (repeat (first | apply opds_nil | (apply opds_cons; (first | (focus ((conv => lhs; whnf); done)) | exact rfl))))); exact h1)
 | (apply s_pd; exact rfl)
 | (apply c_seq)
 | (apply c_reg)
 | (with_reducible apply k_c)
      simp [finish, ress, tupOf, go_sem]
    refine ⟨[some (.box [.sl 4 1 0 (k + 2)]), some (.box [.mp 2]), some (.map M'), none, some (.data (C ++ [.int .i64 (q : Int)]))], ?_, fun a b => ?_, ?_⟩
    · simp [callMut, subHeap, backOf, writeBack, hf, go_sem, cellG]
    · simp [go_sem, cellG]
    · simp [go_sem, cellG]
theorem clo66 {n m : Nat} {s : List Nat} {L : List (Nat × Nat)} (hL : L.length ≤ 30)
    (h54 : ∀ l q t r, L = l ++ (q, t) :: r → evF tab it m 54 [.int .i64 ((q : Nat) : Int), .mp 0] [some (.map (mE (KM (pvL n s l))))] = some (.tup [], [some (.map (mE (KM (pvF n q (pvL n s l)))))])) :
    Clo (m + 1) 66 [.ptr 0 0, .ptr 1 0] 3 (fun l => cellG l.length (iL (ps l)) (mE (KM (pvL n s l)))) L where
  hk := rfl
  g2 l a := by cases l <;> simp [cellG, go_sem]
  g3 l a b := by cases l <;> simp [cellG, go_sem]
  g4 l a b c := by cases l <;> simp [cellG, go_sem]
  fin l := by cases l <;> simp [cellG, go_sem]
  call l q t r h := by
    have hl : l.length < 1000 := by rw [h] at hL; simp at hL; omega
    have := f66 (t := t) (C := iL (ps l)) (k := l.length) (by rw [iL_len, ps_len]) hl (h54 l q t r h)
    have e1 : iL (ps (l ++ [(q, t)])) = iL (ps l) ++ [.int .i64 (q : Int)] := by rw [ps_app]; simp [iL, ps]
    simp only [e1, pvL_app, List.length_append, List.length_cons, List.length_nil, Nat.zero_add]
    exact this
end Go.AM.Pr
