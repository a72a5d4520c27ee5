/- A part of the proof: S27. -/
import Derived.Test.YtbjkmejlecoebaaS26
set_option linter.unusedSectionVars false
set_option linter.unusedVariables false
set_option linter.unusedSimpArgs false
namespace Go.AM.Pr
open Go.AM.Num
theorem p_mnN {H : Heap} {a b : Nat} : evP H .mn [.int .i64 (a : Int), .int .i64 (b : Int)] = some (.int .i64 ((min a b : Nat) : Int)) := by
  simp only [evP, mnOf]
  split <;> (congr 2; omega)
/-- the number whose square is asked for -/
def IsRoot (a p r : Nat) : Prop := r * r % p = a ∧ r < p ∧ (r = 0 ∨ r ≤ p - r)
theorem neg_sq_mod {p X : Nat} (hX : X < p) : (p - X) * (p - X) % p = X * X % p := by
  obtain ⟨d, hd⟩ : ∃ d, p = X + d := ⟨p - X, by omega⟩
  rw [hd, Nat.add_sub_cancel_left]
  have e : d * d + (X + d) * X = X * X + (X + d) * d := by
    rw [Nat.add_mul, Nat.add_mul, Nat.mul_comm d X]; omega
  have h1 : (d * d + (X + d) * X) % (X + d) = d * d % (X + d) := by rw [Nat.add_mul_mod_self_left]
  have h2 : (X * X + (X + d) * d) % (X + d) = X * X % (X + d) := by rw [Nat.add_mul_mod_self_left]
  rw [← h1, ← h2, e]
theorem f20 {a p : Nat} (hp : IsPr p) (hp2 : p ≤ 2147483647) (ha : a < p) (hsq : ¬ (2 < p ∧ 0 < a ∧ a ^ ((p - 1) / 2) % p ≠ 1)) {m : Nat} (hm : 47000 + p ≤ m) : ∃ r, IsRoot a p r ∧ evF tab it m 20 [.int .i64 (a : Int), .int .i64 (p : Int)] [] = some (.tup [.int .i64 (r : Int), .int .i64 0], []) := by
  obtain ⟨m, rfl⟩ : ∃ j, m = j + 1 := ⟨m - 1, by omega⟩
  have hpp := hp.1
  have h44 := fun H => c44 (m := m) (by omega) (p : Int) H
  have hPN : IsPN (p : Int) := ⟨⟨by omega, by omega⟩, by simpa using hp⟩
  simp only [hPN, decide_true] at h44
  by_cases h2 : p = 2
  · subst h2
    refine ⟨a, ⟨?_, ha, by omega⟩, ?_⟩
    · rcases (by omega : a = 0 ∨ a = 1) with rfl | rfl <;> rfl
    · refine f_enter rfl rfl ?_
      generalize evF tab it m = call at *
      repeat' first
 | (apply s_mov; (focus ((conv => lhs; whnf); done)))
 | (apply s_gT; exact rfl)
 | (apply s_gF; exact rfl)
 | (apply s_gFD; exact rfl)
 | (apply s_gFE; exact rfl)
 | apply c_nil
 | (apply s_pickT; exact rfl; (focus ((conv => lhs; whnf); done)))
 | (apply s_pickF; exact rfl; (focus ((conv => lhs; whnf); done)))
 | (apply s_notT; exact rfl)
 | (apply s_notF; exact rfl)
 | ((first | apply s_lss | apply s_leq | apply s_gtr | apply s_geq | apply s_eql | apply s_neq); exact rfl; all_goals (intro _; try (exfalso; omega)))
 | ((first | apply s_add | apply s_sub); exact rfl; omega)
 | (apply s_cn; (focus (repeat (first | apply opds_nil | (apply opds_cons; (first | (focus ((conv => lhs; whnf); done)) | exact rfl))))); exact h44 _)
 | (apply s_len; (focus ((conv => lhs; whnf); done)); (first | assumption | (apply IsLL.at; assumption; omega)))
 | (apply s_lenLL; (focus ((conv => lhs; whnf); done)); assumption)
 | (apply s_lenRd; exact rfl)
 | (apply s_lenSl; exact rfl)
 | (apply s_idx; (focus ((conv => lhs; whnf); done)); exact rfl; (first | assumption | (apply IsLL.at; assumption; omega)); omega)
 | (apply s_idxLL; (focus ((conv => lhs; whnf); done)); exact rfl; assumption; omega)
 | (apply s_idxP; exact rfl; exact rfl; omega)
 | (apply s_ldB; exact rfl; exact rfl; omega; all_goals intro _)
 | (apply s_ldRB; exact rfl; omega; all_goals intro _)
 | (apply s_idxRB; exact rfl; exact rfl; omega)
 | (apply s_idxS; exact rfl; exact rfl; omega)
 | (apply s_slcT; exact rfl; exact rfl; omega)
 | (apply s_slcF; exact rfl; exact rfl; omega)
 | (apply s_mx; exact rfl; exact rfl)
 | (apply s_rem2; exact rfl)
 | (apply s_ldI; exact rfl; omega)
 | (apply s_ldLL; exact rfl; assumption; omega)
 | (apply s_pd; (focus ((conv => lhs; whnf); done)))
 | apply c_seq
 | apply c_reg
 | apply c_block
 | apply c_exitH
 | apply c_skip
 | apply c_ret
 | (apply c_condT; exact rfl)
 | (apply c_condF; exact rfl)
 | (apply c_exitM; exact rfl)
 | (apply c_preF; (focus (repeat (first | apply looks_nil | (apply looks_cons; (focus ((conv => lhs; whnf); done)))))); (focus (simp [idFreeL, AV.idFree, *]; done)))
 | (with_reducible apply k_c)
      exact fin_tt (by (conv => lhs; whnf)) (by (conv => lhs; whnf)) (by rfl) (by rfl) rfl
  · by_cases ha0 : a = 0
    · subst ha0
      have e45 : evF tab it m 45 [.int .i64 ((0 : Nat) : Int), .int .i64 (p : Int)] [] = some (.tup [.int .i64 0, .bool true], []) := by
        obtain ⟨m, rfl⟩ : ∃ j, m = j + 1 := ⟨m - 1, by omega⟩
        refine f_enter rfl rfl ?_
        repeat' first
 | (apply s_mov; (focus ((conv => lhs; whnf); done)))
 | (apply s_gT; exact rfl)
 | (apply s_gF; exact rfl)
 | (apply s_gFD; exact rfl)
 | (apply s_gFE; exact rfl)
 | apply c_nil
 | (apply s_pickT; exact rfl; (focus ((conv => lhs; whnf); done)))
 | (apply s_pickF; exact rfl; (focus ((conv => lhs; whnf); done)))
 | (apply s_notT; exact rfl)
 | (apply s_notF; exact rfl)
 | ((first | apply s_lss | apply s_leq | apply s_gtr | apply s_geq | apply s_eql | apply s_neq); exact rfl; all_goals (intro _; try (exfalso; omega)))
 | ((first | apply s_add | apply s_sub); exact rfl; omega)
 | (apply s_len; (focus ((conv => lhs; whnf); done)); (first | assumption | (apply IsLL.at; assumption; omega)))
 | (apply s_lenLL; (focus ((conv => lhs; whnf); done)); assumption)
 | (apply s_lenRd; exact rfl)
 | (apply s_lenSl; exact rfl)
 | (apply s_idx; (focus ((conv => lhs; whnf); done)); exact rfl; (first | assumption | (apply IsLL.at; assumption; omega)); omega)
 | (apply s_idxLL; (focus ((conv => lhs; whnf); done)); exact rfl; assumption; omega)
 | (apply s_idxP; exact rfl; exact rfl; omega)
 | (apply s_ldB; exact rfl; exact rfl; omega; all_goals intro _)
 | (apply s_ldRB; exact rfl; omega; all_goals intro _)
 | (apply s_idxRB; exact rfl; exact rfl; omega)
 | (apply s_idxS; exact rfl; exact rfl; omega)
 | (apply s_slcT; exact rfl; exact rfl; omega)
 | (apply s_slcF; exact rfl; exact rfl; omega)
 | (apply s_mx; exact rfl; exact rfl)
 | (apply s_rem2; exact rfl)
 | (apply s_ldI; exact rfl; omega)
 | (apply s_ldLL; exact rfl; assumption; omega)
 | (apply s_pd; (focus ((conv => lhs; whnf); done)))
 | apply c_seq
 | apply c_reg
 | apply c_block
 | apply c_exitH
 | apply c_skip
 | apply c_ret
 | (apply c_condT; exact rfl)
 | (apply c_condF; exact rfl)
 | (apply c_exitM; exact rfl)
 | (apply c_preF; (focus (repeat (first | apply looks_nil | (apply looks_cons; (focus ((conv => lhs; whnf); done)))))); (focus (simp [idFreeL, AV.idFree, *]; done)))
 | (with_reducible apply k_c)
        exact fin_tt (by (conv => lhs; whnf)) (by (conv => lhs; whnf)) (by rfl) (by rfl) rfl
      have c45 : ∀ H, callPure (evF tab it m) true 45 [.int .i64 ((0 : Nat) : Int), .int .i64 (p : Int)] H = some (.tup [.int .i64 ((0 : Nat) : Int), .bool true], H) := fun H => callPure_free rfl (by simp) e45 rfl
      refine ⟨0, ⟨by simp, by omega, .inl rfl⟩, ?_⟩
      refine f_enter rfl rfl ?_
      generalize evF tab it m = call at *
      have hmin : min 0 ((p - 0) % p) = 0 := by omega
      repeat' first
 | (apply s_mov; (focus ((conv => lhs; whnf); done)))
 | (apply s_gT; exact rfl)
 | (apply s_gF; exact rfl)
 | (apply s_gFD; exact rfl)
 | (apply s_gFE; exact rfl)
 | apply c_nil
 | (apply s_pickT; exact rfl; (focus ((conv => lhs; whnf); done)))
 | (apply s_pickF; exact rfl; (focus ((conv => lhs; whnf); done)))
 | (apply s_notT; exact rfl)
 | (apply s_notF; exact rfl)
 | ((first | apply s_lss | apply s_leq | apply s_gtr | apply s_geq | apply s_eql | apply s_neq); exact rfl; all_goals (intro _; try (exfalso; omega)))
 | (apply s_cn; (focus (repeat (first | apply opds_nil | (apply opds_cons; (first | (focus ((conv => lhs; whnf); done)) | exact rfl))))); exact h44 _)
 | (apply s_cn; (focus (repeat (first | apply opds_nil | (apply opds_cons; (first | (focus ((conv => lhs; whnf); done)) | exact rfl))))); exact c45 _)
 | (apply s_subN; exact rfl; omega; omega)
 | (apply s_pn; (focus (repeat (first | apply opds_nil | (apply opds_cons; (first | (focus ((conv => lhs; whnf); done)) | exact rfl))))); exact p_mnN)
 | ((first | apply s_add | apply s_sub); exact rfl; omega)
 | (apply s_mulN; exact rfl; omega)
 | (apply s_quoN; exact rfl; omega; omega)
 | (apply s_remN; exact rfl; omega)
 | (apply s_and1; exact rfl; omega)
 | (apply s_shr1; exact rfl)
 | (apply s_len; (focus ((conv => lhs; whnf); done)); (first | assumption | (apply IsLL.at; assumption; omega)))
 | (apply s_lenLL; (focus ((conv => lhs; whnf); done)); assumption)
 | (apply s_lenRd; exact rfl)
 | (apply s_lenSl; exact rfl)
 | (apply s_idx; (focus ((conv => lhs; whnf); done)); exact rfl; (first | assumption | (apply IsLL.at; assumption; omega)); omega)
 | (apply s_idxLL; (focus ((conv => lhs; whnf); done)); exact rfl; assumption; omega)
 | (apply s_idxP; exact rfl; exact rfl; omega)
 | (apply s_ldB; exact rfl; exact rfl; omega; all_goals intro _)
 | (apply s_ldRB; exact rfl; omega; all_goals intro _)
 | (apply s_idxRB; exact rfl; exact rfl; omega)
 | (apply s_idxS; exact rfl; exact rfl; omega)
 | (apply s_slcT; exact rfl; exact rfl; omega)
 | (apply s_slcF; exact rfl; exact rfl; omega)
 | (apply s_mx; exact rfl; exact rfl)
 | (apply s_rem2; exact rfl)
 | (apply s_ldI; exact rfl; omega)
 | (apply s_ldLL; exact rfl; assumption; omega)
 | (apply s_pd; (focus ((conv => lhs; whnf); done)))
 | apply c_seq
 | apply c_reg
 | apply c_block
 | apply c_exitH
 | apply c_skip
 | apply c_ret
 | (apply c_condT; exact rfl)
 | (apply c_condF; exact rfl)
 | (apply c_exitM; exact rfl)
 | (apply c_preF; (focus (repeat (first | apply looks_nil | (apply looks_cons; (focus ((conv => lhs; whnf); done)))))); (focus (simp [idFreeL, AV.idFree, *]; done)))
 | (with_reducible apply k_c)
      exact fin_tt (by (conv => lhs; whnf)) (by (conv => lhs; whnf)) (by rfl) (by rfl) (by rw [hmin])
    · have hsq' : a ^ ((p - 1) / 2) % p = 1 := Classical.byContradiction fun h => hsq ⟨by omega, by omega, h⟩
      obtain ⟨X, X1, X2, X3⟩ := f45 hp (by omega) hp2 (by omega) ha hsq' (m := m) (by omega)
      have c45 : ∀ H, callPure (evF tab it m) true 45 [.int .i64 (a : Int), .int .i64 (p : Int)] H = some (.tup [.int .i64 (X : Int), .bool true], H) := fun H => callPure_free rfl (by simp) X3 rfl
      have hX0 : X ≠ 0 := fun h => by subst h; simp at X1; omega
      refine ⟨min X (p - X), ⟨?_, by omega, by omega⟩, ?_⟩
      · rcases Nat.le_total X (p - X) with h | h
        · rw [Nat.min_eq_left h, X1]
        · rw [Nat.min_eq_right h, neg_sq_mod X2, X1]
      · refine f_enter rfl rfl ?_
        generalize evF tab it m = call at *
        have hmin : min X ((p - X) % p) = min X (p - X) := by rw [Nat.mod_eq_of_lt (by omega)]
        repeat' first
 | (apply s_mov; (focus ((conv => lhs; whnf); done)))
 | (apply s_gT; exact rfl)
 | (apply s_gF; exact rfl)
 | (apply s_gFD; exact rfl)
 | (apply s_gFE; exact rfl)
 | apply c_nil
 | (apply s_pickT; exact rfl; (focus ((conv => lhs; whnf); done)))
 | (apply s_pickF; exact rfl; (focus ((conv => lhs; whnf); done)))
 | (apply s_notT; exact rfl)
 | (apply s_notF; exact rfl)
 | ((first | apply s_lss | apply s_leq | apply s_gtr | apply s_geq | apply s_eql | apply s_neq); exact rfl; all_goals (intro _; try (exfalso; omega)))
 | (apply s_cn; (focus (repeat (first | apply opds_nil | (apply opds_cons; (first | (focus ((conv => lhs; whnf); done)) | exact rfl))))); exact h44 _)
 | (apply s_cn; (focus (repeat (first | apply opds_nil | (apply opds_cons; (first | (focus ((conv => lhs; whnf); done)) | exact rfl))))); exact c45 _)
 | (apply s_subN; exact rfl; omega; omega)
 | (apply s_pn; (focus (repeat (first | apply opds_nil | (apply opds_cons; (first | (focus ((conv => lhs; whnf); done)) | exact rfl))))); exact p_mnN)
 | ((first | apply s_add | apply s_sub); exact rfl; omega)
 | (apply s_mulN; exact rfl; omega)
 | (apply s_quoN; exact rfl; omega; omega)
 | (apply s_remN; exact rfl; omega)
 | (apply s_and1; exact rfl; omega)
 | (apply s_shr1; exact rfl)
 | (apply s_len; (focus ((conv => lhs; whnf); done)); (first | assumption | (apply IsLL.at; assumption; omega)))
 | (apply s_lenLL; (focus ((conv => lhs; whnf); done)); assumption)
 | (apply s_lenRd; exact rfl)
 | (apply s_lenSl; exact rfl)
 | (apply s_idx; (focus ((conv => lhs; whnf); done)); exact rfl; (first | assumption | (apply IsLL.at; assumption; omega)); omega)
 | (apply s_idxLL; (focus ((conv => lhs; whnf); done)); exact rfl; assumption; omega)
 | (apply s_idxP; exact rfl; exact rfl; omega)
 | (apply s_ldB; exact rfl; exact rfl; omega; all_goals intro _)
 | (apply s_ldRB; exact rfl; omega; all_goals intro _)
 | (apply s_idxRB; exact rfl; exact rfl; omega)
 | (apply s_idxS; exact rfl; exact rfl; omega)
 | (apply s_slcT; exact rfl; exact rfl; omega)
 | (apply s_slcF; exact rfl; exact rfl; omega)
 | (apply s_mx; exact rfl; exact rfl)
 | (apply s_rem2; exact rfl)
 | (apply s_ldI; exact rfl; omega)
 | (apply s_ldLL; exact rfl; assumption; omega)
 | (apply s_pd; (focus ((conv => lhs; whnf); done)))
 | apply c_seq
 | apply c_reg
 | apply c_block
 | apply c_exitH
 | apply c_skip
 | apply c_ret
 | (apply c_condT; exact rfl)
 | (apply c_condF; exact rfl)
 | (apply c_exitM; exact rfl)
 | (apply c_preF; (focus (repeat (first | apply looks_nil | (apply looks_cons; (focus ((conv => lhs; whnf); done)))))); (focus (simp [idFreeL, AV.idFree, *]; done)))
 | (with_reducible apply k_c)
        exact fin_tt (by (conv => lhs; whnf)) (by (conv => lhs; whnf)) (by rfl) (by rfl) (by rw [hmin])
theorem f20n {a p : Nat} (hp : IsPr p) (hp2 : p ≤ 2147483647) (ha : a < p) (hsq : 2 < p ∧ 0 < a ∧ a ^ ((p - 1) / 2) % p ≠ 1) {m : Nat} (hm : 47000 ≤ m) : evF tab it m 20 [.int .i64 (a : Int), .int .i64 (p : Int)] [] = some (.tup [.int .i64 0, .int .i64 6], []) := by
  obtain ⟨m, rfl⟩ : ∃ j, m = j + 1 := ⟨m - 1, by omega⟩
  have h44 := fun H => c44 (m := m) (by omega) (p : Int) H
  have hPN : IsPN (p : Int) := ⟨⟨by omega, by omega⟩, by simpa using hp⟩
  simp only [hPN, decide_true] at h44
  obtain ⟨q1, q2, q3⟩ := hsq
  have e45 : evF tab it m 45 [.int .i64 (a : Int), .int .i64 (p : Int)] [] = some (.tup [.int .i64 0, .bool false], []) := by
    obtain ⟨m, rfl⟩ : ∃ j, m = j + 1 := ⟨m - 1, by omega⟩
    have e0 := fun H => c47 (A := a) (E := (p - 1) / 2) (n := p) (by omega) hp2 ha (by omega) (m := m) (by omega) H
    refine f_enter rfl rfl ?_
    repeat' first
 | (apply s_mov; (focus ((conv => lhs; whnf); done)))
 | (apply s_gT; exact rfl)
 | (apply s_gF; exact rfl)
 | (apply s_gFD; exact rfl)
 | (apply s_gFE; exact rfl)
 | apply c_nil
 | (apply s_pickT; exact rfl; (focus ((conv => lhs; whnf); done)))
 | (apply s_pickF; exact rfl; (focus ((conv => lhs; whnf); done)))
 | (apply s_notT; exact rfl)
 | (apply s_notF; exact rfl)
 | ((first | apply s_lss | apply s_leq | apply s_gtr | apply s_geq | apply s_eql | apply s_neq); exact rfl; all_goals (intro _; try (exfalso; omega)))
 | (apply s_subN (b := 1); exact rfl; omega; omega)
 | (apply s_quoN (b := 2); exact rfl; omega; omega)
 | (apply s_cn; (focus (repeat (first | apply opds_nil | (apply opds_cons; (first | (focus ((conv => lhs; whnf); done)) | exact rfl))))); exact e0 _)
 | ((first | apply s_add | apply s_sub); exact rfl; omega)
 | (apply s_mulN; exact rfl; omega)
 | (apply s_quoN; exact rfl; omega; omega)
 | (apply s_remN; exact rfl; omega)
 | (apply s_and1; exact rfl; omega)
 | (apply s_shr1; exact rfl)
 | (apply s_len; (focus ((conv => lhs; whnf); done)); (first | assumption | (apply IsLL.at; assumption; omega)))
 | (apply s_lenLL; (focus ((conv => lhs; whnf); done)); assumption)
 | (apply s_lenRd; exact rfl)
 | (apply s_lenSl; exact rfl)
 | (apply s_idx; (focus ((conv => lhs; whnf); done)); exact rfl; (first | assumption | (apply IsLL.at; assumption; omega)); omega)
 | (apply s_idxLL; (focus ((conv => lhs; whnf); done)); exact rfl; assumption; omega)
 | (apply s_idxP; exact rfl; exact rfl; omega)
 | (apply s_ldB; exact rfl; exact rfl; omega; all_goals intro _)
 | (apply s_ldRB; exact rfl; omega; all_goals intro _)
 | (apply s_idxRB; exact rfl; exact rfl; omega)
 | (apply s_idxS; exact rfl; exact rfl; omega)
 | (apply s_slcT; exact rfl; exact rfl; omega)
 | (apply s_slcF; exact rfl; exact rfl; omega)
 | (apply s_mx; exact rfl; exact rfl)
 | (apply s_rem2; exact rfl)
 | (apply s_ldI; exact rfl; omega)
 | (apply s_ldLL; exact rfl; assumption; omega)
 | (apply s_pd; (focus ((conv => lhs; whnf); done)))
 | apply c_seq
 | apply c_reg
 | apply c_block
 | apply c_exitH
 | apply c_skip
 | apply c_ret
 | (apply c_condT; exact rfl)
 | (apply c_condF; exact rfl)
 | (apply c_exitM; exact rfl)
 | (apply c_preF; (focus (repeat (first | apply looks_nil | (apply looks_cons; (focus ((conv => lhs; whnf); done)))))); (focus (simp [idFreeL, AV.idFree, *]; done)))
 | (with_reducible apply k_c)
    exact fin_tt (by (conv => lhs; whnf)) (by (conv => lhs; whnf)) (by rfl) (by rfl) rfl
  have c45 : ∀ H, callPure (evF tab it m) true 45 [.int .i64 (a : Int), .int .i64 (p : Int)] H = some (.tup [.int .i64 0, .bool false], H) := fun H => callPure_free rfl (by simp) e45 rfl
  refine f_enter rfl rfl ?_
  generalize evF tab it m = call at *
  repeat' first
 | (apply s_mov; (focus ((conv => lhs; whnf); done)))
 | (apply s_gT; exact rfl)
 | (apply s_gF; exact rfl)
 | (apply s_gFD; exact rfl)
 | (apply s_gFE; exact rfl)
 | apply c_nil
 | (apply s_pickT; exact rfl; (focus ((conv => lhs; whnf); done)))
 | (apply s_pickF; exact rfl; (focus ((conv => lhs; whnf); done)))
 | (apply s_notT; exact rfl)
 | (apply s_notF; exact rfl)
 | ((first | apply s_lss | apply s_leq | apply s_gtr | apply s_geq | apply s_eql | apply s_neq); exact rfl; all_goals (intro _; try (exfalso; omega)))
 | (apply s_cn; (focus (repeat (first | apply opds_nil | (apply opds_cons; (first | (focus ((conv => lhs; whnf); done)) | exact rfl))))); exact h44 _)
 | (apply s_cn; (focus (repeat (first | apply opds_nil | (apply opds_cons; (first | (focus ((conv => lhs; whnf); done)) | exact rfl))))); exact c45 _)
 | ((first | apply s_add | apply s_sub); exact rfl; omega)
 | (apply s_mulN; exact rfl; omega)
 | (apply s_quoN; exact rfl; omega; omega)
 | (apply s_remN; exact rfl; omega)
 | (apply s_and1; exact rfl; omega)
 | (apply s_shr1; exact rfl)
 | (apply s_len; (focus ((conv => lhs; whnf); done)); (first | assumption | (apply IsLL.at; assumption; omega)))
 | (apply s_lenLL; (focus ((conv => lhs; whnf); done)); assumption)
 | (apply s_lenRd; exact rfl)
 | (apply s_lenSl; exact rfl)
 | (apply s_idx; (focus ((conv => lhs; whnf); done)); exact rfl; (first | assumption | (apply IsLL.at; assumption; omega)); omega)
 | (apply s_idxLL; (focus ((conv => lhs; whnf); done)); exact rfl; assumption; omega)
 | (apply s_idxP; exact rfl; exact rfl; omega)
 | (apply s_ldB; exact rfl; exact rfl; omega; all_goals intro _)
 | (apply s_ldRB; exact rfl; omega; all_goals intro _)
 | (apply s_idxRB; exact rfl; exact rfl; omega)
 | (apply s_idxS; exact rfl; exact rfl; omega)
 | (apply s_slcT; exact rfl; exact rfl; omega)
 | (apply s_slcF; exact rfl; exact rfl; omega)
 | (apply s_mx; exact rfl; exact rfl)
 | (apply s_rem2; exact rfl)
 | (apply s_ldI; exact rfl; omega)
 | (apply s_ldLL; exact rfl; assumption; omega)
 | (apply s_pd; (focus ((conv => lhs; whnf); done)))
 | apply c_seq
 | apply c_reg
 | apply c_block
 | apply c_exitH
 | apply c_skip
 | apply c_ret
 | (apply c_condT; exact rfl)
 | (apply c_condF; exact rfl)
 | (apply c_exitM; exact rfl)
 | (apply c_preF; (focus (repeat (first | apply looks_nil | (apply looks_cons; (focus ((conv => lhs; whnf); done)))))); (focus (simp [idFreeL, AV.idFree, *]; done)))
 | (with_reducible apply k_c)
  exact fin_tt (by (conv => lhs; whnf)) (by (conv => lhs; whnf)) (by rfl) (by rfl) rfl
theorem f20e {a p : Int} (h : ¬ (IsPN p ∧ 0 ≤ a ∧ a < p)) {m : Nat} (hm : 47000 ≤ m) : evF tab it m 20 [.int .i64 a, .int .i64 p] [] = some (.tup [.int .i64 0, .int .i64 2], []) := by
  obtain ⟨m, rfl⟩ : ∃ j, m = j + 1 := ⟨m - 1, by omega⟩
  have h44 := fun H => c44 (m := m) (by omega) p H
  refine f_enter rfl rfl ?_
  generalize evF tab it m = call at *
  repeat' first
 | (apply s_mov; (focus ((conv => lhs; whnf); done)))
 | (apply s_gT; exact rfl)
 | (apply s_gF; exact rfl)
 | (apply s_gFD; exact rfl)
 | (apply s_gFE; exact rfl)
 | apply c_nil
 | (apply s_pickT; exact rfl; (focus ((conv => lhs; whnf); done)))
 | (apply s_pickF; exact rfl; (focus ((conv => lhs; whnf); done)))
 | (apply s_notT; exact rfl)
 | (apply s_notF; exact rfl)
 | ((first | apply s_lss | apply s_leq | apply s_gtr | apply s_geq | apply s_eql | apply s_neq); exact rfl; all_goals (intro _; try (exfalso; omega)))
 | ((first | apply s_add | apply s_sub); exact rfl; omega)
 | (apply isE; refine s_cB (by (focus (repeat (first | apply opds_nil | (apply opds_cons; (first | (focus ((conv => lhs; whnf); done)) | exact rfl)))))) (h44 _) (fun _ => ?_) (fun _ => ?_))
 | (apply s_len; (focus ((conv => lhs; whnf); done)); (first | assumption | (apply IsLL.at; assumption; omega)))
 | (apply s_lenLL; (focus ((conv => lhs; whnf); done)); assumption)
 | (apply s_lenRd; exact rfl)
 | (apply s_lenSl; exact rfl)
 | (apply s_idx; (focus ((conv => lhs; whnf); done)); exact rfl; (first | assumption | (apply IsLL.at; assumption; omega)); omega)
 | (apply s_idxLL; (focus ((conv => lhs; whnf); done)); exact rfl; assumption; omega)
 | (apply s_idxP; exact rfl; exact rfl; omega)
 | (apply s_ldB; exact rfl; exact rfl; omega; all_goals intro _)
 | (apply s_ldRB; exact rfl; omega; all_goals intro _)
 | (apply s_idxRB; exact rfl; exact rfl; omega)
 | (apply s_idxS; exact rfl; exact rfl; omega)
 | (apply s_slcT; exact rfl; exact rfl; omega)
 | (apply s_slcF; exact rfl; exact rfl; omega)
 | (apply s_mx; exact rfl; exact rfl)
 | (apply s_rem2; exact rfl)
 | (apply s_ldI; exact rfl; omega)
 | (apply s_ldLL; exact rfl; assumption; omega)
 | (apply s_pd; (focus ((conv => lhs; whnf); done)))
 | apply c_seq
 | apply c_reg
 | apply c_block
 | apply c_exitH
 | apply c_skip
 | apply c_ret
 | (apply c_condT; exact rfl)
 | (apply c_condF; exact rfl)
 | (apply c_exitM; exact rfl)
 | (apply c_preF; (focus (repeat (first | apply looks_nil | (apply looks_cons; (focus ((conv => lhs; whnf); done)))))); (focus (simp [idFreeL, AV.idFree, *]; done)))
 | (with_reducible apply k_c)
  all_goals first | exact absurd ⟨by assumption, by omega, by omega⟩ h | exact fin_tt (by (conv => lhs; whnf)) (by (conv => lhs; whnf)) (by rfl) (by rfl) rfl
theorem f4 {a p : Int} : ∃ m H', evF tab it m 4 [.int .i64 a, .int .i64 p] [] = some (.bool true, H') := by
  refine ⟨60001 + p.toNat, [], ?_⟩
  have h18 := fun H => awakeM (m := 60000 + p.toNat) (by omega) H
  have h21 := fun H => c21 (m := 60000 + p.toNat) (by omega) p H
  rw [show 60001 + p.toNat = 60000 + p.toNat + 1 by omega]
  by_cases h : IsPN p ∧ 0 ≤ a ∧ a < p
  · obtain ⟨hpn, k1, k2⟩ := h
    simp only [hpn, decide_true] at h21
    obtain ⟨P, rfl⟩ : ∃ P : Nat, p = P := ⟨p.toNat, by have := hpn.1.1; omega⟩
    obtain ⟨A, rfl⟩ : ∃ A : Nat, a = A := ⟨a.toNat, by omega⟩
    have hP : IsPr P := by simpa using hpn.2
    have hP2 : P ≤ 2147483647 := by have := hpn.1.2; omega
    have hpp := hP.1
    rw [Int.toNat_natCast] at *
    have h22 := fun H => c22 (A := A) (E := (P - 1) / 2) (n := P) (by omega) hP2 (by omega) (m := 60000 + P) (by omega) H
    by_cases hs : 2 < P ∧ 0 < A ∧ A ^ ((P - 1) / 2) % P ≠ 1
    · have e20 : ∀ H, callPure (evF tab it (60000 + P)) true 20 [.int .i64 (A : Int), .int .i64 (P : Int)] H = some (.tup [.int .i64 0, .int .i64 6], H) := fun H => callPure_free rfl (by simp) (f20n hP hP2 (by omega) hs (by omega)) rfl
      obtain ⟨q1, q2, q3⟩ := hs
      refine f_enter rfl rfl ?_
      generalize evF tab it (60000 + P) = call at *
      repeat' first
 | (apply s_mov; (focus ((conv => lhs; whnf); done)))
 | (apply s_gT; exact rfl)
 | (apply s_gF; exact rfl)
 | (apply s_gFD; exact rfl)
 | (apply s_gFE; exact rfl)
 | apply c_nil
 | (apply s_pickT; exact rfl; (focus ((conv => lhs; whnf); done)))
 | (apply s_pickF; exact rfl; (focus ((conv => lhs; whnf); done)))
 | (apply s_notT; exact rfl)
 | (apply s_notF; exact rfl)
 | ((first | apply s_lss | apply s_leq | apply s_gtr | apply s_geq | apply s_eql | apply s_neq); exact rfl; all_goals (intro _; try (exfalso; omega)))
 | (apply s_cn; (focus (repeat (first | apply opds_nil | (apply opds_cons; (first | (focus ((conv => lhs; whnf); done)) | exact rfl))))); exact e20 _)
 | (apply s_cn; (focus (repeat (first | apply opds_nil | (apply opds_cons; (first | (focus ((conv => lhs; whnf); done)) | exact rfl))))); exact h21 _)
 | (apply s_cn; (focus (repeat (first | apply opds_nil | (apply opds_cons; (first | (focus ((conv => lhs; whnf); done)) | exact rfl))))); exact h22 _)
 | (apply s_cn; (focus (repeat (first | apply opds_nil | (apply opds_cons; (first | (focus ((conv => lhs; whnf); done)) | exact rfl))))); exact h18 _)
 | (apply s_subN (b := 1); exact rfl; omega; omega)
 | (apply s_quoN (b := 2); exact rfl; omega; omega)
 | ((first | apply s_add | apply s_sub); exact rfl; omega)
 | (apply s_mulN; exact rfl; omega)
 | (apply s_quoN; exact rfl; omega; omega)
 | (apply s_remN; exact rfl; omega)
 | (apply s_and1; exact rfl; omega)
 | (apply s_shr1; exact rfl)
 | (apply s_len; (focus ((conv => lhs; whnf); done)); (first | assumption | (apply IsLL.at; assumption; omega)))
 | (apply s_lenLL; (focus ((conv => lhs; whnf); done)); assumption)
 | (apply s_lenRd; exact rfl)
 | (apply s_lenSl; exact rfl)
 | (apply s_idx; (focus ((conv => lhs; whnf); done)); exact rfl; (first | assumption | (apply IsLL.at; assumption; omega)); omega)
 | (apply s_idxLL; (focus ((conv => lhs; whnf); done)); exact rfl; assumption; omega)
 | (apply s_idxP; exact rfl; exact rfl; omega)
 | (apply s_ldB; exact rfl; exact rfl; omega; all_goals intro _)
 | (apply s_ldRB; exact rfl; omega; all_goals intro _)
 | (apply s_idxRB; exact rfl; exact rfl; omega)
 | (apply s_idxS; exact rfl; exact rfl; omega)
 | (apply s_slcT; exact rfl; exact rfl; omega)
 | (apply s_slcF; exact rfl; exact rfl; omega)
 | (apply s_mx; exact rfl; exact rfl)
 | (apply s_rem2; exact rfl)
 | (apply s_ldI; exact rfl; omega)
 | (apply s_ldLL; exact rfl; assumption; omega)
 | (apply s_pd; (focus ((conv => lhs; whnf); done)))
 | apply c_seq
 | apply c_reg
 | apply c_block
 | apply c_exitH
 | apply c_skip
 | apply c_ret
 | (apply c_condT; exact rfl)
 | (apply c_condF; exact rfl)
 | (apply c_exitM; exact rfl)
 | (apply c_preF; (focus (repeat (first | apply looks_nil | (apply looks_cons; (focus ((conv => lhs; whnf); done)))))); (focus (simp [idFreeL, AV.idFree, *]; done)))
 | (with_reducible apply k_c)
      exact fin_t (by (conv => lhs; whnf)) (by rfl) rfl
    · obtain ⟨r, ⟨r1, r2, r3⟩, r4⟩ := f20 hP hP2 (by omega) hs (m := 60000 + P) (by omega)
      have e20 : ∀ H, callPure (evF tab it (60000 + P)) true 20 [.int .i64 (A : Int), .int .i64 (P : Int)] H = some (.tup [.int .i64 (r : Int), .int .i64 0], H) := fun H => callPure_free rfl (by simp) r4 rfl
      have hrr := Nat.mul_le_mul (show r ≤ 2147483647 by omega) (show r ≤ 2147483647 by omega)
      have hcase : 2 < P → 0 < A → A ^ ((P - 1) / 2) % P = 1 := fun a b => Classical.byContradiction fun c => hs ⟨a, b, c⟩
      generalize A ^ ((P - 1) / 2) % P = W at *
      refine f_enter rfl rfl ?_
      generalize evF tab it (60000 + P) = call at *
      repeat' first
 | (apply s_mov; (focus ((conv => lhs; whnf); done)))
 | (apply s_gT; exact rfl)
 | (apply s_gF; exact rfl)
 | (apply s_gFD; exact rfl)
 | (apply s_gFE; exact rfl)
 | apply c_nil
 | (apply s_pickT; exact rfl; (focus ((conv => lhs; whnf); done)))
 | (apply s_pickF; exact rfl; (focus ((conv => lhs; whnf); done)))
 | (apply s_notT; exact rfl)
 | (apply s_notF; exact rfl)
 | ((first | apply s_lss | apply s_leq | apply s_gtr | apply s_geq | apply s_eql | apply s_neq); exact rfl; all_goals (intro _; try (exfalso; omega)))
 | (apply s_cn; (focus (repeat (first | apply opds_nil | (apply opds_cons; (first | (focus ((conv => lhs; whnf); done)) | exact rfl))))); exact e20 _)
 | (apply s_cn; (focus (repeat (first | apply opds_nil | (apply opds_cons; (first | (focus ((conv => lhs; whnf); done)) | exact rfl))))); exact h21 _)
 | (apply s_cn; (focus (repeat (first | apply opds_nil | (apply opds_cons; (first | (focus ((conv => lhs; whnf); done)) | exact rfl))))); exact h22 _)
 | (apply s_cn; (focus (repeat (first | apply opds_nil | (apply opds_cons; (first | (focus ((conv => lhs; whnf); done)) | exact rfl))))); exact h18 _)
 | (apply s_subN (b := 1); exact rfl; omega; omega)
 | (apply s_quoN (b := 2); exact rfl; omega; omega)
 | ((first | apply s_add | apply s_sub); exact rfl; omega)
 | (apply s_mulN; exact rfl; omega)
 | (apply s_quoN; exact rfl; omega; omega)
 | (apply s_remN; exact rfl; omega)
 | (apply s_and1; exact rfl; omega)
 | (apply s_shr1; exact rfl)
 | (apply s_len; (focus ((conv => lhs; whnf); done)); (first | assumption | (apply IsLL.at; assumption; omega)))
 | (apply s_lenLL; (focus ((conv => lhs; whnf); done)); assumption)
 | (apply s_lenRd; exact rfl)
 | (apply s_lenSl; exact rfl)
 | (apply s_idx; (focus ((conv => lhs; whnf); done)); exact rfl; (first | assumption | (apply IsLL.at; assumption; omega)); omega)
 | (apply s_idxLL; (focus ((conv => lhs; whnf); done)); exact rfl; assumption; omega)
 | (apply s_idxP; exact rfl; exact rfl; omega)
 | (apply s_ldB; exact rfl; exact rfl; omega; all_goals intro _)
 | (apply s_ldRB; exact rfl; omega; all_goals intro _)
 | (apply s_idxRB; exact rfl; exact rfl; omega)
 | (apply s_idxS; exact rfl; exact rfl; omega)
 | (apply s_slcT; exact rfl; exact rfl; omega)
 | (apply s_slcF; exact rfl; exact rfl; omega)
 | (apply s_mx; exact rfl; exact rfl)
 | (apply s_rem2; exact rfl)
 | (apply s_ldI; exact rfl; omega)
 | (apply s_ldLL; exact rfl; assumption; omega)
 | (apply s_pd; (focus ((conv => lhs; whnf); done)))
 | apply c_seq
 | apply c_reg
 | apply c_block
 | apply c_exitH
 | apply c_skip
 | apply c_ret
 | (apply c_condT; exact rfl)
 | (apply c_condF; exact rfl)
 | (apply c_exitM; exact rfl)
 | (apply c_preF; (focus (repeat (first | apply looks_nil | (apply looks_cons; (focus ((conv => lhs; whnf); done)))))); (focus (simp [idFreeL, AV.idFree, *]; done)))
 | (with_reducible apply k_c)
      all_goals first | exact fin_t (by (conv => lhs; whnf)) (by rfl) rfl | (exfalso; have := hcase (by omega) (by omega); omega)
  · have e20 : ∀ H, callPure (evF tab it (60000 + p.toNat)) true 20 [.int .i64 a, .int .i64 p] H = some (.tup [.int .i64 0, .int .i64 2], H) := fun H => callPure_free rfl (by simp) (f20e h (by omega)) rfl
    refine f_enter rfl rfl ?_
    generalize evF tab it (60000 + p.toNat) = call at *
    repeat' first
 | (apply s_mov; (focus ((conv => lhs; whnf); done)))
 | (apply s_gT; exact rfl)
 | (apply s_gF; exact rfl)
 | (apply s_gFD; exact rfl)
 | (apply s_gFE; exact rfl)
 | apply c_nil
 | (apply s_pickT; exact rfl; (focus ((conv => lhs; whnf); done)))
 | (apply s_pickF; exact rfl; (focus ((conv => lhs; whnf); done)))
 | (apply s_notT; exact rfl)
 | (apply s_notF; exact rfl)
 | ((first | apply s_lss | apply s_leq | apply s_gtr | apply s_geq | apply s_eql | apply s_neq); exact rfl; all_goals (intro _; try (exfalso; omega)))
 | ((first | apply s_add | apply s_sub); exact rfl; omega)
 | (apply s_cn; (focus (repeat (first | apply opds_nil | (apply opds_cons; (first | (focus ((conv => lhs; whnf); done)) | exact rfl))))); exact e20 _)
 | (apply isE; refine s_cB (by (focus (repeat (first | apply opds_nil | (apply opds_cons; (first | (focus ((conv => lhs; whnf); done)) | exact rfl)))))) (h21 _) (fun _ => ?_) (fun _ => ?_))
 | (apply s_cn; (focus (repeat (first | apply opds_nil | (apply opds_cons; (first | (focus ((conv => lhs; whnf); done)) | exact rfl))))); exact h18 _)
 | (apply s_len; (focus ((conv => lhs; whnf); done)); (first | assumption | (apply IsLL.at; assumption; omega)))
 | (apply s_lenLL; (focus ((conv => lhs; whnf); done)); assumption)
 | (apply s_lenRd; exact rfl)
 | (apply s_lenSl; exact rfl)
 | (apply s_idx; (focus ((conv => lhs; whnf); done)); exact rfl; (first | assumption | (apply IsLL.at; assumption; omega)); omega)
 | (apply s_idxLL; (focus ((conv => lhs; whnf); done)); exact rfl; assumption; omega)
 | (apply s_idxP; exact rfl; exact rfl; omega)
 | (apply s_ldB; exact rfl; exact rfl; omega; all_goals intro _)
 | (apply s_ldRB; exact rfl; omega; all_goals intro _)
 | (apply s_idxRB; exact rfl; exact rfl; omega)
 | (apply s_idxS; exact rfl; exact rfl; omega)
 | (apply s_slcT; exact rfl; exact rfl; omega)
 | (apply s_slcF; exact rfl; exact rfl; omega)
 | (apply s_mx; exact rfl; exact rfl)
 | (apply s_rem2; exact rfl)
 | (apply s_ldI; exact rfl; omega)
 | (apply s_ldLL; exact rfl; assumption; omega)
 | (apply s_pd; (focus ((conv => lhs; whnf); done)))
 | apply c_seq
 | apply c_reg
 | apply c_block
 | apply c_exitH
 | apply c_skip
 | apply c_ret
 | (apply c_condT; exact rfl)
 | (apply c_condF; exact rfl)
 | (apply c_exitM; exact rfl)
 | (apply c_preF; (focus (repeat (first | apply looks_nil | (apply looks_cons; (focus ((conv => lhs; whnf); done)))))); (focus (simp [idFreeL, AV.idFree, *]; done)))
 | (with_reducible apply k_c)
    all_goals first | exact absurd ⟨by assumption, by omega, by omega⟩ h | exact fin_t (by (conv => lhs; whnf)) (by rfl) rfl
end Go.AM.Pr
