/- A part of the proof: S14. -/
import Derived.Test.YtbjkmejlecoebaaS13
set_option linter.unusedSectionVars false
set_option linter.unusedVariables false
set_option linter.unusedSimpArgs false
namespace Go.AM.Pr
open Go.AM.Num
theorem f33 {A E N : Nat} (hr : IsRest (A : Int) (N : Int)) (hE : E < 9223372036854775808) {m : Nat} (hm : 200 ≤ m) : evF tab it m 33 [.int .i64 (A : Int), .int .i64 (E : Int), .int .i64 (N : Int)] [] = some (.tup [.int .i64 ((A ^ E % N : Nat) : Int), .int .i64 0], []) := by
  obtain ⟨m, rfl⟩ : ∃ j, m = j + 1 := ⟨m - 1, by omega⟩
  have hr' := hr
  unfold IsRest IsNum at hr'
  refine f_enter rfl rfl ?_
  repeat' first
 | (apply s_mov; (focus ((conv => lhs; whnf); done)))
 | (apply s_gT; exact rfl)
 | (apply s_gF; exact rfl)
 | (apply c_nil)
 | (apply s_pickT; exact rfl; (focus ((conv => lhs; whnf); done)))
 | (apply s_pickF; exact rfl; (focus ((conv => lhs; whnf); done)))
 | (apply s_notT; exact rfl)
 | (apply s_notF; exact rfl)
 | ((first | apply s_lss | apply s_leq | apply s_gtr | apply s_geq | apply s_eql | apply s_neq); exact rfl; all_goals (intro _; try (exfalso; omega)))
 | (apply isE; refine s_cB (by (focus (repeat (first | apply opds_nil | (apply opds_cons; (first | (focus ((conv => lhs; whnf); done)) | exact rfl)))))) (c49 (by omega) _ _ _) (fun _ => ?_) (fun _ => ?_))
 | (apply s_cn; (focus (repeat (first | apply opds_nil | (apply opds_cons; (first | (focus ((conv => lhs; whnf); done)) | exact rfl))))); exact c47 (by omega) (by omega) (by omega) hE (by omega) _)
 | (apply c_seq)
 | (apply c_reg)
 | (apply c_skip)
 | (apply c_ret)
 | (apply c_condT; exact rfl)
 | (apply c_condF; exact rfl)
 | (with_reducible apply k_c)
  all_goals first | exact absurd hr (by assumption) | exact fin_tt (by (conv => lhs; whnf)) (by (conv => lhs; whnf)) (by rfl) (by rfl) rfl
theorem f33e {a e n : Int} (hr : ¬ IsRest a n ∨ e < 0) {m : Nat} (hm : 200 ≤ m) : evF tab it m 33 [.int .i64 a, .int .i64 e, .int .i64 n] [] = some (.tup [.int .i64 0, .int .i64 2], []) := by
  obtain ⟨m, rfl⟩ : ∃ j, m = j + 1 := ⟨m - 1, by omega⟩
  refine f_enter rfl rfl ?_
  repeat' first
 | (apply s_mov; (focus ((conv => lhs; whnf); done)))
 | (apply s_gT; exact rfl)
 | (apply s_gF; exact rfl)
 | (apply c_nil)
 | (apply s_pickT; exact rfl; (focus ((conv => lhs; whnf); done)))
 | (apply s_pickF; exact rfl; (focus ((conv => lhs; whnf); done)))
 | (apply s_notT; exact rfl)
 | (apply s_notF; exact rfl)
 | ((first | apply s_lss | apply s_leq | apply s_gtr | apply s_geq | apply s_eql | apply s_neq); exact rfl; all_goals (intro _; try (exfalso; omega)))
 | (apply isE; refine s_cB (by (focus (repeat (first | apply opds_nil | (apply opds_cons; (first | (focus ((conv => lhs; whnf); done)) | exact rfl)))))) (c49 (by omega) _ _ _) (fun _ => ?_) (fun _ => ?_))
 | (apply c_seq)
 | (apply c_reg)
 | (apply c_skip)
 | (apply c_ret)
 | (apply c_condT; exact rfl)
 | (apply c_condF; exact rfl)
 | (with_reducible apply k_c)
  all_goals first | exact fin_tt (by (conv => lhs; whnf)) (by (conv => lhs; whnf)) (by rfl) (by rfl) rfl | (exfalso; rcases hr with h | h; exact absurd (by assumption) h; omega)
theorem c33 {A E N : Nat} (hr : IsRest (A : Int) (N : Int)) (hE : E < 9223372036854775808) {m : Nat} (hm : 200 ≤ m) (H : Heap) : callPure (evF tab it m) true 33 [.int .i64 (A : Int), .int .i64 (E : Int), .int .i64 (N : Int)] H = some (.tup [.int .i64 ((A ^ E % N : Nat) : Int), .int .i64 0], H) :=
  callPure_free rfl (by simp) (f33 hr hE hm) rfl
theorem c33e {a e n : Int} (hr : ¬ IsRest a n ∨ e < 0) {m : Nat} (hm : 200 ≤ m) (H : Heap) : callPure (evF tab it m) true 33 [.int .i64 a, .int .i64 e, .int .i64 n] H = some (.tup [.int .i64 0, .int .i64 2], H) :=
  callPure_free rfl (by simp) (f33e hr hm) rfl
/-- what Order returns -/
noncomputable def ordR (a n : Int) : List AV := if IsRest a n then (if Nat.gcd a.toNat n.toNat = 1 then [.int .i64 (ordN a.toNat n.toNat : Nat), .int .i64 0] else [.int .i64 0, .int .i64 6]) else [.int .i64 0, .int .i64 2]
theorem f35 {a n : Int} {m : Nat} (hm : 46406 ≤ m) : evF tab it m 35 [.int .i64 a, .int .i64 n] [] = some (.tup (ordR a n), []) := by
  obtain ⟨m, rfl⟩ : ∃ j, m = j + 1 := ⟨m - 1, by omega⟩
  have h34 := fun H => c34 (m := m) (by omega) a n H
  unfold ordR
  by_cases hr : IsRest a n
  · simp only [if_pos hr] at h34 ⊢
    obtain ⟨A, rfl⟩ : ∃ A : Nat, a = A := ⟨a.toNat, by have := hr.2.1; omega⟩
    obtain ⟨N, rfl⟩ : ∃ A : Nat, n = A := ⟨n.toNat, by have := hr.1.1; omega⟩
    have hr' := hr
    unfold IsRest IsNum at hr'
    simp only [Int.toNat_natCast] at h34 ⊢
    by_cases hg : Nat.gcd A N = 1
    · simp only [if_pos hg] at h34 ⊢
      refine f_enter rfl rfl ?_
      repeat' first
 | (apply s_mov; (focus ((conv => lhs; whnf); done)))
 | (apply c_nil)
 | ((first | apply s_lss | apply s_leq | apply s_gtr | apply s_geq | apply s_eql | apply s_neq); exact rfl; all_goals (intro _; try (exfalso; omega)))
 | (apply s_cn; (focus (repeat (first | apply opds_nil | (apply opds_cons; (first | (focus ((conv => lhs; whnf); done)) | exact rfl))))); exact h34 _)
 | (apply s_cn; (focus (repeat (first | apply opds_nil | (apply opds_cons; (first | (focus ((conv => lhs; whnf); done)) | exact rfl))))); exact c48 (by omega) (by omega) (by omega) (by omega) _)
 | (apply s_pd; (focus ((conv => lhs; whnf); done)))
 | (apply c_seq)
 | (apply c_reg)
 | (apply c_skip)
 | (apply c_ret)
 | (apply c_condF; exact rfl)
 | (with_reducible apply k_c)
      all_goals first | exact fin_tt (by (conv => lhs; whnf)) (by (conv => lhs; whnf)) (by rfl) (by rfl) rfl | (exfalso; omega)
    · simp only [if_neg hg] at h34 ⊢
      refine f_enter rfl rfl ?_
      repeat' first
 | (apply s_mov; (focus ((conv => lhs; whnf); done)))
 | (apply c_nil)
 | ((first | apply s_lss | apply s_leq | apply s_gtr | apply s_geq | apply s_eql | apply s_neq); exact rfl; all_goals (intro _; try (exfalso; omega)))
 | (apply s_cn; (focus (repeat (first | apply opds_nil | (apply opds_cons; (first | (focus ((conv => lhs; whnf); done)) | exact rfl))))); exact h34 _)
 | (apply s_pd; (focus ((conv => lhs; whnf); done)))
 | (apply c_seq)
 | (apply c_reg)
 | (apply c_ret)
 | (apply c_condT; exact rfl)
 | (with_reducible apply k_c)
      all_goals first | exact fin_tt (by (conv => lhs; whnf)) (by (conv => lhs; whnf)) (by rfl) (by rfl) rfl | (exfalso; omega)
  · simp only [if_neg hr] at h34 ⊢
    refine f_enter rfl rfl ?_
    repeat' first
 | (apply s_mov; (focus ((conv => lhs; whnf); done)))
 | (apply c_nil)
 | ((first | apply s_lss | apply s_leq | apply s_gtr | apply s_geq | apply s_eql | apply s_neq); exact rfl; all_goals (intro _; try (exfalso; omega)))
 | (apply s_cn; (focus (repeat (first | apply opds_nil | (apply opds_cons; (first | (focus ((conv => lhs; whnf); done)) | exact rfl))))); exact h34 _)
 | (apply s_pd; (focus ((conv => lhs; whnf); done)))
 | (apply c_seq)
 | (apply c_reg)
 | (apply c_ret)
 | (apply c_condT; exact rfl)
 | (with_reducible apply k_c)
    all_goals first | exact fin_tt (by (conv => lhs; whnf)) (by (conv => lhs; whnf)) (by rfl) (by rfl) rfl | (exfalso; omega)
theorem c35 {a n : Int} {m : Nat} (hm : 46406 ≤ m) (H : Heap) : callPure (evF tab it m) true 35 [.int .i64 a, .int .i64 n] H = some (.tup (ordR a n), H) :=
  callPure_free rfl (by simp) (f35 hm) (by unfold ordR; split <;> (try split) <;> rfl)
/-- the reference accepts the order -/
theorem f37 {A N : Nat} (hr : IsRest (A : Int) (N : Int)) (hg : Nat.gcd A N = 1) {m : Nat} (hm : 46406 ≤ m) : evF tab it m 37 [.int .i64 (A : Int), .int .i64 (ordN A N : Nat), .int .i64 (N : Int)] [] = some (.bool true, []) := by
  obtain ⟨m, rfl⟩ : ∃ j, m = j + 1 := ⟨m - 1, by omega⟩
  have hr' := hr
  unfold IsRest IsNum at hr'
  obtain ⟨o1, o2, o3, o4⟩ := ordN_spec (a := A) (m := N) (by omega) hg
  have ht := totN_le (n := N) (by omega)
  have hle := Nat.le_of_dvd (by omega) o3
  generalize ordN A N = e at *
  have hL := facOf_fac o2
  generalize facOf e = L at *
  have h19 := fun H => c19 o2 (by omega) hL (m := m) (by omega) H
  have h22 := fun {E : Nat} (hE : E ≤ 2147483647) H => c22 (A := A) (E := E) (n := N) (by omega) (by omega) (by omega) (m := m) (by omega) H
  have ll := fun H => p_lenP (H := H) L
  have il := fun H i h => p_idxG (H := H) (l := L) (i := i) h
  have fl := fzP_free L
  have zl := fac_len31 hL (by omega)
  have he := h22 (E := e) (by omega) []
  unfold Pow1 at o1
  refine f_enter rfl rfl ?_
  generalize evF tab it m = call at *
  generalize fzP L = X at *
  repeat' first
 | (apply s_mov; (focus ((conv => lhs; whnf); done)))
 | (apply s_gT; exact rfl)
 | (apply c_nil)
 | (apply s_pickF; exact rfl; (focus ((conv => lhs; whnf); done)))
 | ((first | apply s_lss | apply s_leq | apply s_gtr | apply s_geq | apply s_eql | apply s_neq); exact rfl; all_goals (intro _; try (exfalso; omega)))
 | (apply s_cn; (focus (repeat (first | apply opds_nil | (apply opds_cons; (first | (focus ((conv => lhs; whnf); done)) | exact rfl))))); exact he)
 | (apply s_cn; (focus (repeat (first | apply opds_nil | (apply opds_cons; (first | (focus ((conv => lhs; whnf); done)) | exact rfl))))); exact h19 _)
 | (apply s_remN (a := 1); exact rfl; omega)
 | (apply c_seq)
 | (apply c_reg)
 | (apply c_block)
 | (apply c_skip)
 | (apply c_condF; exact rfl)
 | (with_reducible apply k_c)
  all_goals try (exfalso; omega)
  refine c_loop ?_
  refine loop_gc (σ := Nat) (fun i => [.int .i64 (A : Int), .int .i64 (e : Int), .int .i64 (N : Int), X, .int .i64 (i : Int)]) (fun _ => []) (fun i => i ≤ L.length) (fun i => L.length - i) ?_ _ 0 _ _ (by omega) (by omega) (gc_to rfl (by simp [idFreeL, AV.idFree, fl]))
  intro i hi K hK
  repeat' first
 | (apply s_mov; (focus ((conv => lhs; whnf); done)))
 | (apply c_nil)
 | ((first | apply s_lss | apply s_leq | apply s_gtr | apply s_geq | apply s_eql | apply s_neq); exact rfl; all_goals (intro _; try (exfalso; omega)))
 | (apply s_pn; (focus (repeat (first | apply opds_nil | (apply opds_cons; (first | (focus ((conv => lhs; whnf); done)) | exact rfl))))); exact ll _)
 | (apply c_seq)
 | (apply c_reg)
 | (apply c_block)
 | (apply c_exitH)
 | (apply c_skip)
 | (apply c_ret)
 | (apply c_condT; exact rfl)
 | (apply c_condF; exact rfl)
 | (apply c_preF; (focus (repeat (first | apply looks_nil | (apply looks_cons; (focus ((conv => lhs; whnf); done)))))); (focus (simp [idFreeL, AV.idFree, *]; done)))
 | (with_reducible apply k_c)
  · have hi' : i < L.length := by omega
    have g1 := il [] i hi'
    have g2 := p_ld0 (H := []) hi'
    have g3 := exp_lt hL (by omega) hi'
    have g4 := hL.all _ (gp_mem hi')
    have g5 := o4 _ g4.1 (by rw [← hL.prod]; exact Nat.dvd_trans (Nat.dvd_of_pow_dvd g4.2 (Nat.dvd_refl _)) (mem_dvd_prod (gp_mem hi')))
    unfold Pow1 at g5
    generalize (gp L i).1 = p at *
    have g6 := Nat.div_le_self e p
    have g7 := h22 (E := e / p) (by omega) []
    repeat' first
 | (apply s_mov; (focus ((conv => lhs; whnf); done)))
 | (apply c_nil)
 | ((first | apply s_lss | apply s_leq | apply s_gtr | apply s_geq | apply s_eql | apply s_neq); exact rfl; all_goals (intro _; try (exfalso; omega)))
 | (apply s_pn; (focus (repeat (first | apply opds_nil | (apply opds_cons; (first | (focus ((conv => lhs; whnf); done)) | exact rfl))))); exact g1)
 | (apply s_pn; (focus (repeat (first | apply opds_nil | (apply opds_cons; (first | (focus ((conv => lhs; whnf); done)) | exact rfl))))); exact p_fld0)
 | (apply s_pn; (focus (repeat (first | apply opds_nil | (apply opds_cons; (first | (focus ((conv => lhs; whnf); done)) | exact rfl))))); exact g2)
 | (apply s_cn; (focus (repeat (first | apply opds_nil | (apply opds_cons; (first | (focus ((conv => lhs; whnf); done)) | exact rfl))))); exact g7)
 | (apply s_remN (a := 1); exact rfl; omega)
 | ((first | apply s_add | apply s_sub); exact rfl; omega)
 | (apply s_quoN; exact rfl; omega; omega)
 | (apply c_reg)
 | (apply c_skip)
 | (apply c_condF; exact rfl)
 | (with_reducible apply k_c)
    · exact hK (i + 1) _ _ (by omega) (by omega) (gc_to rfl (by simp [idFreeL, AV.idFree, fl]))
  · exact fin_t (by (conv => lhs; whnf)) (by rfl) rfl
theorem c37 {A N : Nat} (hr : IsRest (A : Int) (N : Int)) (hg : Nat.gcd A N = 1) {m : Nat} (hm : 46406 ≤ m) (H : Heap) : callPure (evF tab it m) true 37 [.int .i64 (A : Int), .int .i64 (ordN A N : Nat), .int .i64 (N : Int)] H = some (.bool true, H) :=
  callPure_free rfl (by simp) (f37 hr hg hm) rfl
theorem wf_lt {n : Int} (h : (Lit.int .i64 n).wf = true) : -9223372036854775808 ≤ n ∧ n < 9223372036854775808 := by
  simp [Lit.wf, IntKind.min, IntKind.max, IntKind.signed, IntKind.bits] at h
  omega
end Go.AM.Pr
