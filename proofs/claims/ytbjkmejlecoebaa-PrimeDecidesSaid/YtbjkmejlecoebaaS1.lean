/- A part of the proof: S1. -/
import Derived.Test.YtbjkmejlecoebaaPc
import Derived.Test.YtbjkmejlecoebaaM3
set_option linter.unusedSectionVars false
set_option linter.unusedVariables false
set_option linter.unusedSimpArgs false
namespace Go.AM.Pr
def IsNum (a : Int) : Prop := 1 ≤ a ∧ a ≤ 2147483647
instance (a : Int) : Decidable (IsNum a) := by unfold IsNum; infer_instance
def IsRest (a m : Int) : Prop := IsNum m ∧ 0 ≤ a ∧ a < m
instance (a m : Int) : Decidable (IsRest a m) := by unfold IsRest; infer_instance
theorem f41 (a : Int) (m : Nat) (hm : 1 ≤ m) : evF tab it m 41 [.int .i64 a] [] = some (.bool (decide (IsNum a)), []) := by
  obtain ⟨m, rfl⟩ : ∃ j, m = j + 1 := ⟨m - 1, by omega⟩
  refine f_enter rfl rfl ?_
  repeat' first
 | (apply s_mov; (focus ((conv => lhs; whnf); done)))
 | (apply s_gT; exact rfl)
 | (apply s_gF; exact rfl)
 | (apply c_nil)
 | (apply s_pickT; exact rfl; (focus ((conv => lhs; whnf); done)))
 | (apply s_pickF; exact rfl; (focus ((conv => lhs; whnf); done)))
 | ((first | apply s_lss | apply s_leq | apply s_gtr | apply s_geq | apply s_eql | apply s_neq); exact rfl; all_goals (intro _; try (exfalso; omega)))
 | (apply c_seq)
 | (apply c_reg)
 | (apply c_ret)
 | (with_reducible apply k_c)
  all_goals refine fin_t (by (conv => lhs; whnf)) (by rfl) ?_
  all_goals first | exact leafT (by unfold IsNum; omega) | exact leafF (by unfold IsNum; omega)
theorem c41 {m : Nat} (hm : 1 ≤ m) (a : Int) (H : Heap) : callPure (evF tab it m) true 41 [.int .i64 a] H = some (.bool (decide (IsNum a)), H) :=
  callPure_free rfl (by simp) (f41 a m hm) rfl
theorem f17 (a : Int) (m : Nat) (hm : 1 ≤ m) : evF tab it m 17 [.int .i64 a] [] = some (.bool (decide (IsNum a)), []) := by
  obtain ⟨m, rfl⟩ : ∃ j, m = j + 1 := ⟨m - 1, by omega⟩
  refine f_enter rfl rfl ?_
  repeat' first
 | (apply s_mov; (focus ((conv => lhs; whnf); done)))
 | (apply s_gT; exact rfl)
 | (apply s_gF; exact rfl)
 | (apply c_nil)
 | (apply s_pickT; exact rfl; (focus ((conv => lhs; whnf); done)))
 | (apply s_pickF; exact rfl; (focus ((conv => lhs; whnf); done)))
 | ((first | apply s_lss | apply s_leq | apply s_gtr | apply s_geq | apply s_eql | apply s_neq); exact rfl; all_goals (intro _; try (exfalso; omega)))
 | (apply c_seq)
 | (apply c_reg)
 | (apply c_ret)
 | (with_reducible apply k_c)
  all_goals refine fin_t (by (conv => lhs; whnf)) (by rfl) ?_
  all_goals first | exact leafT (by unfold IsNum; omega) | exact leafF (by unfold IsNum; omega)
theorem c17 {m : Nat} (hm : 1 ≤ m) (a : Int) (H : Heap) : callPure (evF tab it m) true 17 [.int .i64 a] H = some (.bool (decide (IsNum a)), H) :=
  callPure_free rfl (by simp) (f17 a m hm) rfl
theorem f49 (a n : Int) (m : Nat) (hm : 2 ≤ m) : evF tab it m 49 [.int .i64 a, .int .i64 n] [] = some (.bool (decide (IsRest a n)), []) := by
  obtain ⟨m, rfl⟩ : ∃ j, m = j + 1 := ⟨m - 1, by omega⟩
  refine f_enter rfl rfl ?_
  repeat' first
 | (apply s_mov; (focus ((conv => lhs; whnf); done)))
 | (apply s_gT; exact rfl)
 | (apply s_gF; exact rfl)
 | (apply c_nil)
 | (apply s_pickT; exact rfl; (focus ((conv => lhs; whnf); done)))
 | (apply s_pickF; exact rfl; (focus ((conv => lhs; whnf); done)))
 | ((first | apply s_lss | apply s_leq | apply s_gtr | apply s_geq | apply s_eql | apply s_neq); exact rfl; all_goals (intro _; try (exfalso; omega)))
 | (apply isE; refine s_cB (by (focus (repeat (first | apply opds_nil | (apply opds_cons; (first | (focus ((conv => lhs; whnf); done)) | exact rfl)))))) (c41 (by omega) _ _) (fun _ => ?_) (fun _ => ?_))
 | (apply c_seq)
 | (apply c_reg)
 | (apply c_ret)
 | (with_reducible apply k_c)
  all_goals refine fin_t (by (conv => lhs; whnf)) (by rfl) ?_
  all_goals first | exact leafT (by unfold IsRest; refine ⟨by assumption, by omega, by omega⟩) | exact leafF (fun h => by unfold IsRest at h; first | omega | exact absurd h.1 (by assumption))
theorem c49 {m : Nat} (hm : 2 ≤ m) (a n : Int) (H : Heap) : callPure (evF tab it m) true 49 [.int .i64 a, .int .i64 n] H = some (.bool (decide (IsRest a n)), H) :=
  callPure_free rfl (by simp) (f49 a n m hm) rfl
theorem f46 {a b n : Nat} (hn : 0 < n) (hab : a * b < 9223372036854775808) (m : Nat) (hm : 1 ≤ m) : evF tab it m 46 [.int .i64 (a : Int), .int .i64 (b : Int), .int .i64 (n : Int)] [] = some (.int .i64 ((a * b % n : Nat) : Int), []) := by
  obtain ⟨m, rfl⟩ : ∃ j, m = j + 1 := ⟨m - 1, by omega⟩
  refine f_enter rfl rfl ?_
  repeat' first
 | (apply s_mov; (focus ((conv => lhs; whnf); done)))
 | (apply c_nil)
 | (apply s_mulN; exact rfl; omega)
 | (apply s_remN; exact rfl; omega)
 | (apply c_seq)
 | (apply c_reg)
 | (apply c_ret)
 | (with_reducible apply k_c)
  exact fin_t (by (conv => lhs; whnf)) (by rfl) rfl
theorem c46 {a b n : Nat} (hn : 0 < n) (hab : a * b < 9223372036854775808) {m : Nat} (hm : 1 ≤ m) (H : Heap) : callPure (evF tab it m) true 46 [.int .i64 (a : Int), .int .i64 (b : Int), .int .i64 (n : Int)] H = some (.int .i64 ((a * b % n : Nat) : Int), H) :=
  callPure_free rfl (by simp) (f46 hn hab m hm) rfl
end Go.AM.Pr
