/- A part of the proof: U51. -/
import Derived.Test.YtmegimhfoedcdaaU40
import Derived.Test.YtmegimhfoedcdaaU30
set_option linter.unusedSectionVars false
set_option linter.unusedVariables false
set_option linter.unusedSimpArgs false
namespace Go.AM.Ch
attribute [local go_sem] gc subHeap reach_skip ren_free reach_new reach_newp reach_end rangeL roots boxCells nodupB posOf renL AV.ren pickO renH renO looks look bindEnv envOf reach_int reach_bool reach_nilS reach_rd putRow cells_sl cells_int cells_bool cells_nilS cells_rd cells_agg reach_agg reach_tup idFreeL idf_sl idf_ptr idf_int idf_bool idf_nilS idf_rd reach_fn reach_mp cells_fn cells_ptr cells_mp idf_mp idf_fn idf_agg idf_tup
set_option maxHeartbeats 8000000
def modN (x : Int) (n : Nat) : Nat := (x % 18446744073709551616).toNat % n
theorem modN_lt (x : Int) {n : Nat} (h : 0 < n) : modN x n < n := Nat.mod_lt _ h
theorem wrapU {x : Int} : IntKind.u64.wrap x = x % 18446744073709551616 := by
  simp [IntKind.wrap, IntKind.signed, IntKind.bits]
theorem f49 {x : Int} {n : Nat} (hn : 0 < n) (hn2 : n < 9223372036854775808) {m : Nat} (hm : 1 ≤ m) : evF tab it m 49 [.int .i64 x, .int .i64 (n : Int)] [] = some (.int .i64 (modN x n : Nat), []) := by
  obtain ⟨m, rfl⟩ : ∃ j, m = j + 1 := ⟨m - 1, by omega⟩
  have c1 : ∀ H, evP H (.conv .u64) [.int .i64 x] = some (.int .u64 (((x % 18446744073709551616).toNat : Nat) : Int)) := fun H => by
    simp only [evP, wrapU]
    rw [Int.toNat_of_nonneg (Int.emod_nonneg _ (by decide))]
  have c2 : ∀ H, evP H (.conv .u64) [.int .i64 (n : Int)] = some (.int .u64 (n : Int)) := fun H => by
    simp only [evP, wrapU]
    rw [Int.emod_eq_of_lt (by omega) (by omega)]
  have c3 : ∀ H, evP H (.bin .rem) [.int .u64 (((x % 18446744073709551616).toNat : Nat) : Int), .int .u64 (n : Int)] = some (.int .u64 (modN x n : Nat)) := fun H => by
    simp only [evP, binV, isShift, binInt, Bool.false_eq_true, if_false, if_true]
    rw [if_neg (by omega)]
    rfl
  have hlt : modN x n < n := Nat.mod_lt _ hn
  have c4 : ∀ H, evP H (.conv .i64) [.int .u64 (modN x n : Nat)] = some (.int .i64 (modN x n : Nat)) := fun H => by
    simp only [evP]
    rw [wrapI (by omega)]
  refine f_enter rfl rfl ?_
  repeat' first
 | (apply s_mov; (focus ((conv => lhs; whnf); done)))
 | (apply c_nil)
 | (apply s_pn; (focus (repeat (first | apply opds_nil | (apply opds_cons; (first | (focus ((conv => lhs; whnf); done)) | exact rfl))))); exact c1 _)
 | (apply s_pn; (focus (repeat (first | apply opds_nil | (apply opds_cons; (first | (focus ((conv => lhs; whnf); done)) | exact rfl))))); exact c2 _)
 | (apply s_pn; (focus (repeat (first | apply opds_nil | (apply opds_cons; (first | (focus ((conv => lhs; whnf); done)) | exact rfl))))); exact c3 _)
 | (apply s_pn; (focus (repeat (first | apply opds_nil | (apply opds_cons; (first | (focus ((conv => lhs; whnf); done)) | exact rfl))))); exact c4 _)
 | (apply c_seq)
 | (apply c_reg)
 | (apply c_ret)
 | (with_reducible apply k_c)
  exact fin_t (by (conv => lhs; whnf)) (by rfl) rfl
theorem c49 {x : Int} {n : Nat} (hn : 0 < n) (hn2 : n < 9223372036854775808) {m : Nat} (hm : 1 ≤ m) (H : Heap) : callPure (evF tab it m) true 49 [.int .i64 x, .int .i64 (n : Int)] H = some (.int .i64 (modN x n : Nat), H) :=
  callPure_free rfl (by simp) (f49 hn hn2 hm) rfl
/-- a number of a state -/
def stN (x : Int) (w : Nat) : Int := if x < -(w : Int) ∨ x > w then (modN x (2 * w + 1) : Nat) - (w : Int) else x
theorem stN_le (x : Int) (w : Nat) : -(w : Int) ≤ stN x w ∧ stN x w ≤ w := by
  have := modN_lt x (n := 2 * w + 1) (by omega)
  unfold stN
  split <;> omega
def stX (l : List Int) (i : Nat) : Int := if i < l.length then getI l (i : Int) else 0
def stL (n : Nat) (l : List Int) (w : Nat) : List Int := (List.range n).map fun i => stN (stX l i) w
theorem stL_len (n : Nat) (l : List Int) (w : Nat) : (stL n l w).length = n := by simp [stL]
theorem stL_get {n : Nat} {l : List Int} {w i : Nat} (h : i < n) : getI (stL n l w) (i : Int) = stN (stX l i) w := by
  rw [getI_nat]; simp [stL, List.getD, h]
theorem stL_in (n : Nat) (l : List Int) (w : Nat) (hw : w ≤ 1048576) : InR n 1048576 (stL n l w) := by
  refine ⟨stL_len _ _ _, fun v hv => ?_⟩
  obtain ⟨i, _, rfl⟩ := List.mem_map.1 hv
  have := stN_le (stX l i) w
  omega
/-- state -/
theorem f36 {x y : AV} {b : List (List Int)} {l : List Int} {w : Nat} (hx : IsLL x b) (hy : IsL y l) (h0 : 1 ≤ b.length) (hb : b.length ≤ 12) (hw : w ≤ 1048576) {m : Nat} (hm : 100 ≤ m) :
    evF tab it m 36 [x, y, .int .i64 (w : Int)] [] = some (ownV 0 (iL (stL b.length l w)), owH (iL (stL b.length l w))) := by
  obtain ⟨m, rfl⟩ : ∃ j, m = j + 1 := ⟨m - 1, by omega⟩
  have fx := hx.free; have fy := hy.free
  have lx : ∀ H, evP H .len [x] = some (.int .i64 ((b.length : Nat) : Int)) := fun H => by cases hx <;> rfl
  have ly : ∀ H, evP H .len [y] = some (.int .i64 ((l.length : Nat) : Int)) := fun H => p_lenI hy
  have hRl := stL_len b.length l w
  have hRg := fun (i : Nat) (h : i < b.length) => stL_get (l := l) (w := w) h
  have e49 := fun (z : Int) H => c49 (x := z) (n := 2 * w + 1) (by omega) (by omega) (m := m) (by omega) H
  rw [show ((2 * w + 1 : Nat) : Int) = 2 * (w : Int) + 1 by omega] at e49
  have mu := fun H => p_mul2 (H := H) (a := (w : Int)) (by omega)
  have ngw := fun H => p_negI (H := H) (a := (w : Int)) (by omega)
  generalize stL b.length l w = R at *
  refine f_enter rfl rfl ?_
  generalize evF tab it m = call at *
  have own_gc : ∀ (i : Nat) (L : List AV), gc 0 [x, y, .int .i64 (w : Int), ownV 0 L, .int .i64 (i : Int)] (owH L) = some ([x, y, .int .i64 (w : Int), ownV 0 L, .int .i64 (i : Int)], owH L) := fun i L => by
    cases L <;> simp [ownV, owH, go_sem, fx, fy]
  repeat' first
 | (apply s_mov; (focus ((conv => lhs; whnf); done)))
 | (apply c_nil)
 | (apply c_seq)
 | (apply c_reg)
 | (apply c_block)
 | (with_reducible apply k_c)
  refine c_loop ?_
  refine loop_gc (σ := Nat) (fun i => [x, y, .int .i64 (w : Int), ownV 0 (iL (R.take i)), .int .i64 (i : Int)]) (fun i => owH (iL (R.take i))) (fun i => i ≤ b.length) (fun i => b.length - i) ?_ _ 0 _ _ (by omega) (by omega) (own_gc 0 [])
  intro i hi K hK
  by_cases hin : i < b.length
  · have h3 := hRg i hin
    have hstep : R.take (i + 1) = R.take i ++ [stN (stX l i) w] := by
      rw [← List.take_append_getElem (by omega : i < R.length)]
      congr 1
      rw [getI_nat] at h3
      simpa [List.getD, show i < R.length by omega] using h3
    have hK1 := hK (i + 1)
    rw [hstep] at hK1
    have e1 : ∀ z : Int, iL (R.take i ++ [z]) = iL (R.take i) ++ [.int .i64 z] := fun z => by simp [iL]
    rw [e1] at hK1
    have hAl : (iL (R.take i)).length ≤ 12 := by rw [iL_len]; simp; omega
    generalize iL (R.take i) = A at *
    have hX : (i < l.length ∧ stX l i = getI l (i : Int)) ∨ (¬ i < l.length ∧ stX l i = 0) := by
      unfold stX
      by_cases h : i < l.length
      · left; exact ⟨h, if_pos h⟩
      · right; exact ⟨h, if_neg h⟩
    have hN : ((stX l i < -(w : Int) ∨ stX l i > w) ∧ stN (stX l i) w = (modN (stX l i) (2 * w + 1) : Nat) - (w : Int)) ∨ (¬ (stX l i < -(w : Int) ∨ stX l i > w) ∧ stN (stX l i) w = stX l i) := by
      unfold stN
      by_cases h : stX l i < -(w : Int) ∨ stX l i > w
      · left; exact ⟨h, if_pos h⟩
      · right; exact ⟨h, if_neg h⟩
    have e49' := e49 (stX l i)
    have hmod := modN_lt (stX l i) (n := 2 * w + 1) (by omega)
    generalize stN (stX l i) w = Q at *
    generalize stX l i = X at *
    rcases hX with ⟨hx1, rfl⟩ | ⟨hx1, rfl⟩ <;> rcases hN with ⟨hn1, rfl⟩ | ⟨hn1, rfl⟩ <;> rcases A with _ | ⟨u, us⟩ <;> simp only [ownV, owH] at *
    all_goals
      repeat' first
 | (apply s_mov; (focus ((conv => lhs; whnf); done)))
 | (apply s_gT; exact rfl)
 | (apply s_gF; exact rfl)
 | (apply c_nil)
 | (apply s_pickT; exact rfl; (focus ((conv => lhs; whnf); done)))
 | (apply s_pickF; exact rfl; (focus ((conv => lhs; whnf); done)))
 | ((first | apply s_lss | apply s_leq | apply s_gtr | apply s_geq | apply s_eql | apply s_neq); exact rfl; all_goals (intro _; try (exfalso; omega)))
 | ((first | apply s_add | apply s_sub); exact rfl; omega)
 | (apply s_pn; (focus (repeat (first | apply opds_nil | (apply opds_cons; (first | (focus ((conv => lhs; whnf); done)) | exact rfl))))); exact lx _)
 | (apply s_pn; (focus (repeat (first | apply opds_nil | (apply opds_cons; (first | (focus ((conv => lhs; whnf); done)) | exact rfl))))); exact ly _)
 | (apply s_pn; (focus (repeat (first | apply opds_nil | (apply opds_cons; (first | (focus ((conv => lhs; whnf); done)) | exact rfl))))); exact mu _)
 | (apply s_pn; (focus (repeat (first | apply opds_nil | (apply opds_cons; (first | (focus ((conv => lhs; whnf); done)) | exact rfl))))); exact ngw _)
 | (apply s_cn; (focus (repeat (first | apply opds_nil | (apply opds_cons; (first | (focus ((conv => lhs; whnf); done)) | exact rfl))))); exact e49' _)
 | (apply s_en; (focus (repeat (first | apply opds_nil | (apply opds_cons; (first | (focus ((conv => lhs; whnf); done)) | exact rfl))))); exact e_bld1 rfl rfl rfl rfl)
 | (apply s_en; (focus (repeat (first | apply opds_nil | (apply opds_cons; (first | (focus ((conv => lhs; whnf); done)) | exact rfl))))); exact e_app_nil rfl (by omega) (by decide))
 | (apply s_en; (focus (repeat (first | apply opds_nil | (apply opds_cons; (first | (focus ((conv => lhs; whnf); done)) | exact rfl))))); exact e_app_sl rfl rfl (by omega) (by simp at hAl; unfold most; omega))
 | (apply s_idx; (focus ((conv => lhs; whnf); done)); exact rfl; (first | assumption | (apply IsLL.at; assumption; omega)); omega)
 | (apply s_ldI; exact rfl; omega)
 | (apply c_seq)
 | (apply c_reg)
 | (apply c_block)
 | (apply c_skip)
 | (apply c_condT; exact rfl)
 | (apply c_condF; exact rfl)
 | (with_reducible apply k_c)
    all_goals first | (exfalso; omega) | exact hK1 _ _ (by omega) (by omega) (by simp [ownV, owH, go_sem, fx, fy])
  · obtain rfl : i = b.length := by omega
    have hall : R.take b.length = R := List.take_of_length_le (by omega)
    rw [hall]
    generalize hA : iL R = A at *
    repeat' first
 | (apply s_mov; (focus ((conv => lhs; whnf); done)))
 | (apply c_nil)
 | ((first | apply s_lss | apply s_leq | apply s_gtr | apply s_geq | apply s_eql | apply s_neq); exact rfl; all_goals (intro _; try (exfalso; omega)))
 | (apply s_pn; (focus (repeat (first | apply opds_nil | (apply opds_cons; (first | (focus ((conv => lhs; whnf); done)) | exact rfl))))); exact lx _)
 | (apply c_seq)
 | (apply c_reg)
 | (apply c_exitH)
 | (apply c_condF; exact rfl)
 | (with_reducible apply k_c)
    apply c_pre (vs := [ownV 0 A]) (H' := owH A)
    · cases A <;> simp [ownV, owH, go_sem, look, looks, bindEnv, envOf]
    repeat' first
 | (apply s_mov; (focus ((conv => lhs; whnf); done)))
 | (apply c_nil)
 | (apply c_seq)
 | (apply c_reg)
 | (apply c_ret)
 | (with_reducible apply k_c)
    cases A <;> simp [finish, ress, resOf, look, tupOf, ownV, owH, go_sem]
theorem c36 {x y : AV} {b : List (List Int)} {l : List Int} {w : Nat} (hx : IsLL x b) (hy : IsL y l) (h0 : 1 ≤ b.length) (hb : b.length ≤ 12) (hw : w ≤ 1048576) {m : Nat} (hm : 100 ≤ m) (H : Heap) :
    callPure (evF tab it m) true 36 [x, y, .int .i64 (w : Int)] H = some (fzL (stL b.length l w), H) :=
  callPure_frz (by simp [idFreeL, AV.idFree, hx.free, hy.free]) (by simp) (f36 hx hy h0 hb hw hm) (frz_own _)
/-- own -/
theorem c36o {x y : AV} {b : List (List Int)} {l : List Int} {w : Nat} (hx : IsLL x b) (hy : IsL y l) (h0 : 1 ≤ b.length) (hb : b.length ≤ 12) (hw : w ≤ 1048576) {m : Nat} (hm : 100 ≤ m) (H : Heap) :
    callPure (evF tab it m) false 36 [x, y, .int .i64 (w : Int)] H = some (.sl H.length 1 0 b.length, H ++ [some (.data (iL (stL b.length l w)))]) := by
  have ff : idFreeL [x, y, .int .i64 (w : Int)] = true := by simp [idFreeL, AV.idFree, hx.free, hy.free]
  have f := f36 hx hy h0 hb hw hm
  have hl := iL_len (stL b.length l w)
  rw [stL_len] at hl
  generalize iL (stL b.length l w) = A at *
  rcases A with _ | ⟨u, us⟩
  · simp at hl; omega
  · simp only [List.length_cons] at hl
    simp only [ownV, owH, hl] at f
    simp [callPure, frzL_free H 40 [x, y, .int .i64 (w : Int)] (by simp) ff, f, ff, shiftH, AV.ren, renH, renO]
end Go.AM.Ch
