/- A part of the proof: S12. -/
import Derived.Test.YtbjkmejlecoebaaS10
import Derived.Test.YtbjkmejlecoebaaSE4
set_option linter.unusedSectionVars false
set_option linter.unusedVariables false
set_option linter.unusedSimpArgs false
namespace Go.AM.Pr
attribute [local go_sem] gc subHeap reach_skip ren_free reach_new reach_newp reach_end rangeL roots boxCells nodupB posOf renL AV.ren pickO renH renO looks look bindEnv envOf reach_int reach_bool reach_nilS reach_rd putRow cells_sl cells_int cells_bool cells_nilS cells_rd cells_agg reach_agg reach_tup idFreeL idf_sl idf_ptr idf_int idf_bool idf_nilS idf_rd reach_fn reach_mp cells_fn cells_ptr cells_mp idf_mp idf_fn idf_agg idf_tup
open Go.AM.Num
theorem e_stI1 {call : CallF} {H : Heap} {id : Nat} {v w : Int} (hH : H[id]? = some (some (.data [.int .i64 w]))) : evE call H (.st 1) [.ptr id 0, .int .i64 v] = some (.undef, H.set id (some (.data [.int .i64 v]))) := by
  simp [evE, stAt, hH, cells_int, oneL, AV.one, putRow, idFreeL, AV.idFree]
theorem p_ldI1 {H : Heap} {id : Nat} {v : Int} (h : H[id]? = some (some (.data [.int .i64 v]))) : evP H (.ld false 1) [.ptr id 0] = some (.int .i64 v) := by
  simp [evP, ldc, getRow, Heap.cells?, HO.cells?, h, wholeOf]
/-! ### the totient -/
def totS (L l : List (Nat × Nat)) : Nat := totL l * prodL (L.drop l.length)
theorem f74 {q t v : Nat} (hq : 2 ≤ q) (hqm : q ≤ 2147483647) (hv : v ≤ 2147483647) {m : Nat} (hm : 1 ≤ m) (hb : v / q * (q - 1) < 9223372036854775808) : evF tab it m 74 [.int .i64 (q : Int), .int .i64 (t : Int), .ptr 0 0] [some (.data [.int .i64 (v : Int)])] = some (.tup [], [some (.data [.int .i64 ((v / q * (q - 1) : Nat) : Int)])]) := by
  obtain ⟨m, rfl⟩ : ∃ j, m = j + 1 := ⟨m - 1, by omega⟩
  refine f_enterH rfl rfl ?_
  generalize evF tab it m = call at *
  repeat' first
 | (apply s_mov; (focus ((conv => lhs; whnf); done)))
 | (apply c_nil)
 | (apply s_pn; (focus (repeat (first | apply opds_nil | (apply opds_cons; (first | (focus ((conv => lhs; whnf); done)) | exact rfl))))); exact p_ldI1 rfl)
 | (apply s_st; (focus (repeat (first | apply opds_nil | (apply opds_cons; (first | (focus ((conv => lhs; whnf); done)) | exact rfl))))); exact e_stI1 rfl)
 | (apply s_subN (b := 1); exact rfl; omega; omega)
 | (apply s_mulN; exact rfl; omega)
 | (apply s_quoN; exact rfl; omega; omega)
 | (apply c_reg)
  simp [finish, ress, tupOf, go_sem]
theorem clo74 {L : List (Nat × Nat)} {N : Nat} (hL : Fac L N) (hN : N ≤ 2147483647) {m : Nat} (hm : 1 ≤ m) : Clo m 74 [.ptr 0 0] 1 (fun l => [some (.data [.int .i64 ((totS L l : Nat) : Int)])]) L where
  hk := rfl
  g2 l a := by simp [go_sem]
  g3 l a b := by simp [go_sem]
  g4 l a b c := by simp [go_sem]
  fin l := by simp [go_sem]
  call l q t r h := by
    obtain ⟨f1, f2, f3⟩ := FacR.append (h ▸ hL.toFacR)
    have hq := f2.all (q, t) List.mem_cons_self
    have hq2 := hq.1.1
    have e1 : totS L l = totL l * prodL ((q, t) :: r) := by rw [totS, h]; simp
    have e2 : totS L (l ++ [(q, t)]) = totL (l ++ [(q, t)]) * prodL r := by
      rw [totS, h]
      have : l ++ (q, t) :: r = (l ++ [(q, t)]) ++ r := by simp
      rw [this, List.drop_left']
      rfl
    have e3 := tot_step (l := l) (r := r) hq2 hq.2
    rw [← e1, ← e2] at e3
    have hle : totS L l ≤ N := by
      rw [e1, ← hL.prod]
      conv => rhs; rw [h]
      rw [prodL_append]
      exact Nat.mul_le_mul_right _ (totL_le f1).2
    have hle2 : totS L (l ++ [(q, t)]) ≤ totS L l := by
      rw [← e3]
      exact Nat.le_trans (Nat.mul_le_mul_left _ (Nat.sub_le q 1)) (Nat.div_mul_le_self _ _)
    have hqm : q ≤ 2147483647 := by
      have := (exp_lt hL hN (i := l.length) (by rw [h]; simp)).2.2.2
      rw [gp_lt (by rw [h]; simp)] at this
      simp [h] at this
      omega
    have hc := f74 (q := q) (t := t) (v := totS L l) hq2 hqm (by omega) hm (by rw [e3]; omega)
    rw [e3] at hc
    refine ⟨[some (.data [.int .i64 ((totS L (l ++ [(q, t)]) : Nat) : Int)])], ?_, fun a b => ?_, ?_⟩
    · generalize evF tab it m = call at *
      simp [callMut, subHeap, backOf, writeBack, hc, go_sem]
    · simp [go_sem]
    · simp [go_sem]
theorem e_al64 {call : CallF} : evE call [] (.alloc true [.int .i64 0]) [] = some (.ptr 0 0, [some (.data [.int .i64 0])]) := rfl
theorem f64 {N : Nat} {L : List (Nat × Nat)} (h1 : 1 ≤ N) (hN : N ≤ 2147483647) (hL : Fac L N) {m : Nat} (hm : 46402 ≤ m) : evF tab it m 64 [.int .i64 (N : Int)] [] = some (.int .i64 ((totL L : Nat) : Int), []) := by
  obtain ⟨m, rfl⟩ : ∃ j, m = j + 1 := ⟨m - 1, by omega⟩
  obtain ⟨m', rfl⟩ : ∃ j, m = j + 1 := ⟨m - 1, by omega⟩
  have h58 := f58 h1 hN hL (clo74 hL hN (m := m') (by omega)) (by omega)
  have e1 : totS L [] = N := by simp [totS, totL, hL.prod]
  have e2 : totS L L = totL L := by simp [totS, prodL]
  simp only [e1, e2] at h58
  refine f_enter rfl rfl ?_
  generalize evF tab it (m' + 1) = call at *
  have hc : callMut call 58 [.int .i64 (N : Int), .fn 74 [.ptr 0 0]] [some (.data [.int .i64 (N : Int)])] = some (.tup [], [some (.data [.int .i64 ((totL L : Nat) : Int)])]) := by
    simp [callMut, subHeap, backOf, writeBack, h58, go_sem]
  repeat' first
 | (apply s_mov; (focus ((conv => lhs; whnf); done)))
 | (apply c_nil)
 | (apply s_en; (focus (repeat (first | apply opds_nil | (apply opds_cons; (first | (focus ((conv => lhs; whnf); done)) | exact rfl))))); exact e_al64)
 | (apply s_en; (focus (repeat (first | apply opds_nil | (apply opds_cons; (first | (focus ((conv => lhs; whnf); done)) | exact rfl))))); exact hc)
 | (apply s_pn; (focus (repeat (first | apply opds_nil | (apply opds_cons; (first | (focus ((conv => lhs; whnf); done)) | exact rfl))))); exact p_mkfn)
 | (apply s_pn; (focus (repeat (first | apply opds_nil | (apply opds_cons; (first | (focus ((conv => lhs; whnf); done)) | exact rfl))))); exact p_ldI1 rfl)
 | (apply s_st; (focus (repeat (first | apply opds_nil | (apply opds_cons; (first | (focus ((conv => lhs; whnf); done)) | exact rfl))))); exact e_stI1 rfl)
 | (apply c_seq)
 | (apply c_reg)
 | (apply c_ret)
 | (with_reducible apply k_c)
  exact fin_t (by (conv => lhs; whnf)) (by rfl) rfl
theorem c64 {N : Nat} {L : List (Nat × Nat)} (h1 : 1 ≤ N) (hN : N ≤ 2147483647) (hL : Fac L N) {m : Nat} (hm : 46402 ≤ m) (H : Heap) : callPure (evF tab it m) true 64 [.int .i64 (N : Int)] H = some (.int .i64 ((totL L : Nat) : Int), H) :=
  callPure_free rfl (by simp) (f64 h1 hN hL hm) rfl
end Go.AM.Pr
