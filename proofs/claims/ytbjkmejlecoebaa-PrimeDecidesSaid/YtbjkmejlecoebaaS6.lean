/- A part of the proof: S6. -/
import Derived.Test.YtbjkmejlecoebaaS5
set_option linter.unusedSectionVars false
set_option linter.unusedVariables false
set_option linter.unusedSimpArgs false
namespace Go.AM.Pr
attribute [local go_sem] gc subHeap reach_skip ren_free reach_new reach_newp reach_end rangeL roots boxCells nodupB posOf renL AV.ren pickO renH renO looks look bindEnv envOf reach_int reach_bool reach_nilS reach_rd putRow cells_sl cells_int cells_bool cells_nilS cells_rd cells_agg reach_agg reach_tup idFreeL idf_sl idf_ptr idf_int idf_bool idf_nilS idf_rd reach_fn reach_mp cells_fn cells_ptr cells_mp idf_mp idf_fn idf_agg idf_tup
open Go.AM.Num
theorem fac_len {l : List (Nat × Nat)} (h : FacR l) : 2 ^ l.length ≤ prodL l := by
  induction l with
  | nil => simp [prodL]
  | cons x l ih =>
    rw [prodL_cons, List.length_cons, Nat.pow_succ, Nat.mul_comm]
    have hx := h.all x List.mem_cons_self
    have := Nat.pow_le_pow_right (show 0 < x.1 by have := hx.1.1; omega) hx.2
    rw [Nat.pow_one] at this
    exact Nat.mul_le_mul (Nat.le_trans hx.1.1 this) (ih h.tail)
theorem fac_len31 {l : List (Nat × Nat)} {N : Nat} (h : Fac l N) (hN : N ≤ 2147483647) : l.length ≤ 30 := by
  rcases Nat.lt_or_ge 30 l.length with h1 | h1
  · have a := fac_len h.toFacR
    rw [h.prod] at a
    have := Nat.pow_le_pow_right (show 0 < 2 by omega) (show 31 ≤ l.length by omega)
    omega
  · exact h1
theorem gcell2 {g sz n : Nat} {C : List AV} (a : Int) : gc 1 [.int .i64 a, .fn g [.ptr 0 0]] (cellH sz n C) = some ([.int .i64 a, .fn g [.ptr 0 0]], cellH sz n C) := by
  cases n <;> simp [cellH, go_sem]
theorem gcell3 {g sz n : Nat} {C : List AV} (a b : Int) : gc 1 [.int .i64 a, .fn g [.ptr 0 0], .int .i64 b] (cellH sz n C) = some ([.int .i64 a, .fn g [.ptr 0 0], .int .i64 b], cellH sz n C) := by
  cases n <;> simp [cellH, go_sem]
theorem gcell4 {g sz n : Nat} {C : List AV} (a b c : Int) : gc 1 [.int .i64 a, .fn g [.ptr 0 0], .int .i64 b, .int .i64 c] (cellH sz n C) = some ([.int .i64 a, .fn g [.ptr 0 0], .int .i64 b, .int .i64 c], cellH sz n C) := by
  cases n <;> simp [cellH, go_sem]
theorem gcellf {sz n : Nat} {C : List AV} : gc 1 [.tup []] (cellH sz n C) = some ([.tup []], cellH sz n C) := by
  cases n <;> simp [cellH, go_sem]
theorem clo62 {L : List (Nat × Nat)} (hL : L.length ≤ 30) {m : Nat} (hm : 1 ≤ m) : Clo m 62 [.ptr 0 0] 1 (fun l => cellH 2 l.length (pcs l)) L where
  hk := rfl
  g2 l a := gcell2 a
  g3 l a b := gcell3 a b
  g4 l a b c := gcell4 a b c
  fin l := gcellf
  call l q t r h := by
    have hl : l.length < 1000 := by rw [h] at hL; simp at hL; omega
    have := clo_cell (f62 (q := q) (t := t) hl hm)
    simpa using this
/-- a call of divide with one cell -/
theorem mut58 {N g sz n : Nat} {C : List AV} {m : Nat} (hc : evF tab it m 58 [.int .i64 (N : Int), .fn g [.ptr 0 0]] [some (.box [.nilS])] = some (.tup [], cellH sz n C)) :
    callMut (evF tab it m) 58 [.int .i64 (N : Int), .fn g [.ptr 0 0]] [some (.box [.nilS])] = some (.tup [], cellH sz n C) := by
  cases n <;> simp [callMut, subHeap, backOf, writeBack, hc, go_sem, cellH]
def fzP (l : List (Nat × Nat)) : AV := match l with
  | [] => .nilS
  | x :: r => .rd 2 (r.length + 1) (pcs (x :: r))
def owP (l : List (Nat × Nat)) : AV := match l with
  | [] => .nilS
  | _ :: r => .sl 0 2 0 (r.length + 1)
def owPH (l : List (Nat × Nat)) : Heap := match l with
  | [] => []
  | x :: r => [some (.data (pcs (x :: r)))]
theorem e_alB {call : CallF} {H : Heap} : evE call H (.alloc false [.nilS]) [] = some (.ptr H.length 0, H ++ [some (.box [.nilS])]) := rfl
theorem e_alB0 {call : CallF} : evE call [] (.alloc false [.nilS]) [] = some (.ptr 0 0, [some (.box [.nilS])]) := rfl
theorem p_mkfn {H : Heap} {g : Nat} {c : List AV} : evP H (.mkfn g) c = some (.fn g c) := by cases c <;> rfl
theorem p_ldBox {H : Heap} {id : Nat} {v : AV} (h : H[id]? = some (some (.box [v]))) : evP H (.ld false 1) [.ptr id 0] = some v := by
  simp [evP, ldc, getRow, Heap.cells?, HO.cells?, h, wholeOf]
theorem f42 {N : Nat} {L : List (Nat × Nat)} (h1 : 1 ≤ N) (hN : N ≤ 2147483647) (hL : Fac L N) {m : Nat} (hm : 46402 ≤ m) : evF tab it m 42 [.int .i64 (N : Int)] [] = some (owP L, owPH L) := by
  obtain ⟨m, rfl⟩ : ∃ j, m = j + 1 := ⟨m - 1, by omega⟩
  obtain ⟨m', rfl⟩ : ∃ j, m = j + 1 := ⟨m - 1, by omega⟩
  have hc := mut58 (f58 h1 hN hL (clo62 (fac_len31 hL hN) (m := m') (by omega)) (by omega))
  refine f_enter rfl rfl ?_
  generalize evF tab it (m' + 1) = call at *
  cases L with
  | nil =>
    simp only [List.length_nil, cellH] at hc
    repeat' first
 | (apply s_mov; (focus ((conv => lhs; whnf); done)))
 | (apply c_nil)
 | (apply s_en; (focus (repeat (first | apply opds_nil | (apply opds_cons; (first | (focus ((conv => lhs; whnf); done)) | exact rfl))))); exact e_alB0)
 | (apply s_en; (focus (repeat (first | apply opds_nil | (apply opds_cons; (first | (focus ((conv => lhs; whnf); done)) | exact rfl))))); exact hc)
 | (apply s_pn; (focus (repeat (first | apply opds_nil | (apply opds_cons; (first | (focus ((conv => lhs; whnf); done)) | exact rfl))))); exact p_mkfn)
 | (apply s_pn; (focus (repeat (first | apply opds_nil | (apply opds_cons; (first | (focus ((conv => lhs; whnf); done)) | exact rfl))))); exact p_ldBox rfl)
 | (apply c_seq)
 | (apply c_reg)
 | (apply c_ret)
 | (with_reducible apply k_c)
    simp [finish, ress, tupOf, resOf, look, go_sem, owP, owPH]
  | cons x r =>
    simp only [List.length_cons, cellH, owP, owPH] at hc ⊢
    generalize pcs (x :: r) = C at *
    repeat' first
 | (apply s_mov; (focus ((conv => lhs; whnf); done)))
 | (apply c_nil)
 | (apply s_en; (focus (repeat (first | apply opds_nil | (apply opds_cons; (first | (focus ((conv => lhs; whnf); done)) | exact rfl))))); exact e_alB0)
 | (apply s_en; (focus (repeat (first | apply opds_nil | (apply opds_cons; (first | (focus ((conv => lhs; whnf); done)) | exact rfl))))); exact hc)
 | (apply s_pn; (focus (repeat (first | apply opds_nil | (apply opds_cons; (first | (focus ((conv => lhs; whnf); done)) | exact rfl))))); exact p_mkfn)
 | (apply s_pn; (focus (repeat (first | apply opds_nil | (apply opds_cons; (first | (focus ((conv => lhs; whnf); done)) | exact rfl))))); exact p_ldBox rfl)
 | (apply c_seq)
 | (apply c_reg)
 | (apply c_ret)
 | (with_reducible apply k_c)
    simp [finish, ress, tupOf, resOf, look, go_sem]
theorem frz_owP (l : List (Nat × Nat)) : frzV (owPH l) 40 (owP l) = some (fzP l) := by
  rcases l with _ | ⟨a, r⟩
  · rfl
  · have := pcs_len (a :: r)
    rw [List.length_cons] at this
    simp [owP, owPH, frzV, Heap.data?, fzP, List.take_of_length_le, this]
theorem c42 {N : Nat} {L : List (Nat × Nat)} (h1 : 1 ≤ N) (hN : N ≤ 2147483647) (hL : Fac L N) {m : Nat} (hm : 46402 ≤ m) (H : Heap) : callPure (evF tab it m) true 42 [.int .i64 (N : Int)] H = some (fzP L, H) := by
  have e : frzL H 40 [AV.int .i64 (N : Int)] = some [AV.int .i64 (N : Int)] := rfl
  simp [callPure, e, f42 h1 hN hL hm, frz_owP, idFreeL, AV.idFree]
end Go.AM.Pr
