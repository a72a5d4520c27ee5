/- A part of the proof: S10. -/
import Derived.Test.YtbjkmejlecoebaaS9
import Derived.Test.YtbjkmejlecoebaaSE3
set_option linter.unusedSectionVars false
set_option linter.unusedVariables false
set_option linter.unusedSimpArgs false
namespace Go.AM.Pr
open Go.AM.Num
def modN (x : Int) (n : Nat) : Nat := (x % 18446744073709551616).toNat % n
theorem wrapU {x : Int} : IntKind.u64.wrap x = x % 18446744073709551616 := by
  simp [IntKind.wrap, IntKind.signed, IntKind.bits]
theorem f29 {x : Int} {n : Nat} (hn : 0 < n) (hn2 : n < 9223372036854775808) {m : Nat} (hm : 1 ≤ m) : evF tab it m 29 [.int .i64 x, .int .i64 (n : Int)] [] = some (.int .i64 (modN x n : Nat), []) := by
  obtain ⟨m, rfl⟩ : ∃ j, m = j + 1 := ⟨m - 1, by omega⟩
  have c1 : ∀ H, evP H (.conv .u64) [.int .i64 x] = some (.int .u64 (((x % 18446744073709551616).toNat : Nat) : Int)) := fun H => by
    simp only [evP, wrapU]
    rw [Int.toNat_of_nonneg (Int.emod_nonneg _ (by decide))]
  have c2 : ∀ H, evP H (.conv .u64) [.int .i64 (n : Int)] = some (.int .u64 (n : Int)) := fun H => by
    simp only [evP, wrapU]
    rw [Int.emod_eq_of_lt (by omega) (by omega)]
  have c3 : ∀ H, evP H (.bin .rem) [.int .u64 (((x % 18446744073709551616).toNat : Nat) : Int), .int .u64 (n : Int)] = some (.int .u64 (modN x n : Nat)) := fun H => by
    simp only [evP, binV, isShift, binInt, Bool.false_eq_true, if_false, if_true]
    rw [if_neg (by omega)]
    rfl
  have hlt : modN x n < n := Nat.mod_lt _ hn
  have c4 : ∀ H, evP H (.conv .i64) [.int .u64 (modN x n : Nat)] = some (.int .i64 (modN x n : Nat)) := fun H => by
    simp only [evP]
    rw [wrapI (by omega)]
  refine f_enter rfl rfl ?_
  repeat' first
 | (apply s_mov; (focus ((conv => lhs; whnf); done)))
 | (apply c_nil)
 | (apply s_pn; (focus (repeat (first | apply opds_nil | (apply opds_cons; (first | (focus ((conv => lhs; whnf); done)) | exact rfl))))); exact c1 _)
 | (apply s_pn; (focus (repeat (first | apply opds_nil | (apply opds_cons; (first | (focus ((conv => lhs; whnf); done)) | exact rfl))))); exact c2 _)
 | (apply s_pn; (focus (repeat (first | apply opds_nil | (apply opds_cons; (first | (focus ((conv => lhs; whnf); done)) | exact rfl))))); exact c3 _)
 | (apply s_pn; (focus (repeat (first | apply opds_nil | (apply opds_cons; (first | (focus ((conv => lhs; whnf); done)) | exact rfl))))); exact c4 _)
 | (apply c_seq)
 | (apply c_reg)
 | (apply c_ret)
 | (with_reducible apply k_c)
  exact fin_t (by (conv => lhs; whnf)) (by rfl) rfl
theorem c29 {x : Int} {n : Nat} (hn : 0 < n) (hn2 : n < 9223372036854775808) {m : Nat} (hm : 1 ≤ m) (H : Heap) : callPure (evF tab it m) true 29 [.int .i64 x, .int .i64 (n : Int)] H = some (.int .i64 (modN x n : Nat), H) :=
  callPure_free rfl (by simp) (f29 hn hn2 hm) rfl
def numN (x : Int) (most : Nat) : Nat := if 1 ≤ x ∧ x ≤ most then x.toNat else 1 + modN x most
theorem numN_le {x : Int} {most : Nat} (h : 1 ≤ most) : 1 ≤ numN x most ∧ numN x most ≤ most := by
  have := Nat.mod_lt (x % 18446744073709551616).toNat (show most > 0 by omega)
  unfold numN modN
  split <;> omega
theorem f28 {x : Int} {n : Nat} (hn : 0 < n) (hn2 : n < 9223372036854775807) {m : Nat} (hm : 2 ≤ m) : evF tab it m 28 [.int .i64 x, .int .i64 (n : Int)] [] = some (.int .i64 (numN x n : Nat), []) := by
  obtain ⟨m, rfl⟩ : ∃ j, m = j + 1 := ⟨m - 1, by omega⟩
  have hlt : modN x n < n := Nat.mod_lt _ hn
  have hc := c29 (x := x) hn (by omega) (m := m) (by omega) []
  refine f_enter rfl rfl ?_
  repeat' first
 | (apply s_mov; (focus ((conv => lhs; whnf); done)))
 | (apply s_gT; exact rfl)
 | (apply s_gF; exact rfl)
 | (apply c_nil)
 | (apply s_pickT; exact rfl; (focus ((conv => lhs; whnf); done)))
 | (apply s_pickF; exact rfl; (focus ((conv => lhs; whnf); done)))
 | ((first | apply s_lss | apply s_leq | apply s_gtr | apply s_geq | apply s_eql | apply s_neq); exact rfl; all_goals (intro _; try (exfalso; omega)))
 | ((first | apply s_add | apply s_sub); exact rfl; omega)
 | (apply s_cn; (focus (repeat (first | apply opds_nil | (apply opds_cons; (first | (focus ((conv => lhs; whnf); done)) | exact rfl))))); exact hc)
 | (apply c_seq)
 | (apply c_reg)
 | (apply c_skip)
 | (apply c_ret)
 | (apply c_condT; exact rfl)
 | (apply c_condF; exact rfl)
 | (with_reducible apply k_c)
  · rw [show ((numN x n : Nat) : Int) = x by unfold numN; rw [if_pos (by omega)]; omega]
    exact fin_t (by (conv => lhs; whnf)) (by rfl) rfl
  all_goals
    rw [show ((numN x n : Nat) : Int) = 1 + (modN x n : Nat) by unfold numN; rw [if_neg (by omega)]; omega]
    exact fin_t (by (conv => lhs; whnf)) (by rfl) rfl
theorem c28 {x : Int} {n : Nat} (hn : 0 < n) (hn2 : n < 9223372036854775807) {m : Nat} (hm : 2 ≤ m) (H : Heap) : callPure (evF tab it m) true 28 [.int .i64 x, .int .i64 (n : Int)] H = some (.int .i64 (numN x n : Nat), H) :=
  callPure_free rfl (by simp) (f28 hn hn2 hm) rfl
/-! ### reading a factorization -/
theorem p_idxG {H : Heap} {l : List (Nat × Nat)} {i : Nat} (h : i < l.length) : evP H (.idxA 2) [fzP l, .int .i64 (i : Int)] = some (.rp ((pcs l).drop (i * 2))) := p_idxP2 h
theorem p_fld0 {H : Heap} {l : List (Nat × Nat)} {i : Nat} : evP H (.fldA 0) [.rp ((pcs l).drop (i * 2))] = some (.rp ((pcs l).drop (i * 2))) := by
  simp [evP, fldAt]
theorem p_fld1 {H : Heap} {l : List (Nat × Nat)} {i : Nat} : evP H (.fldA 1) [.rp ((pcs l).drop (i * 2))] = some (.rp ((pcs l).drop (i * 2 + 1))) := by
  simp [evP, fldAt]
theorem p_ld0 {H : Heap} {l : List (Nat × Nat)} {i : Nat} (h : i < l.length) : evP H (.ld false 1) [.rp ((pcs l).drop (i * 2))] = some (.int .i64 ((gp l i).1 : Int)) := by
  obtain ⟨r, hr⟩ := pcs_at h
  rw [hr, gp_lt h]
  simp [evP, ldc, wholeOf]
theorem p_ld1 {H : Heap} {l : List (Nat × Nat)} {i : Nat} (h : i < l.length) : evP H (.ld false 1) [.rp ((pcs l).drop (i * 2 + 1))] = some (.int .i64 ((gp l i).2 : Int)) := by
  obtain ⟨r, hr⟩ := pcs_at h
  have : (pcs l).drop (i * 2 + 1) = .int .i64 (l[i].2 : Int) :: r := by rw [← List.drop_drop, hr]; rfl
  rw [this, gp_lt h]
  simp [evP, ldc, wholeOf]
end Go.AM.Pr
