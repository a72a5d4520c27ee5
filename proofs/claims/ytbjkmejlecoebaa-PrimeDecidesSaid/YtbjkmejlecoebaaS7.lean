/- A part of the proof: S7. -/
import Derived.Test.YtbjkmejlecoebaaS6
set_option linter.unusedSectionVars false
set_option linter.unusedVariables false
set_option linter.unusedSimpArgs false
namespace Go.AM.Pr
open Go.AM.Num
noncomputable instance (n : Nat) : Decidable (IsPr n) := Classical.propDecidable _
theorem fzP_free (l : List (Nat × Nat)) : (fzP l).idFree = true := by cases l <;> rfl
theorem fac_single {x : Nat × Nat} {N : Nat} (h : Fac [x] N) : IsPr N ↔ x.2 = 1 := by
  constructor
  · intro hp
    have := fac_uniq h (fac_pr hp)
    simp at this
    rw [this]
  · intro h2
    have := h.prod
    simp [prodL, h2] at this
    exact this ▸ (h.all x (by simp)).1
theorem fac_multi {l : List (Nat × Nat)} {N : Nat} (h : Fac l N) (hl : l.length ≠ 1) : ¬ IsPr N := fun hp => by
  have := fac_uniq h (fac_pr hp)
  rw [this] at hl
  simp at hl
theorem f63 {N : Nat} (h1 : 1 ≤ N) (hN : N ≤ 2147483647) {m : Nat} (hm : 46403 ≤ m) : evF tab it m 63 [.int .i64 (N : Int)] [] = some (.bool (decide (IsPr N)), []) := by
  obtain ⟨m, rfl⟩ : ∃ j, m = j + 1 := ⟨m - 1, by omega⟩
  obtain ⟨L, hL⟩ := fac_ex h1
  have hc := c42 h1 hN hL (m := m) (by omega)
  refine f_enter rfl rfl ?_
  generalize evF tab it m = call at *
  rcases L with _ | ⟨x, _ | ⟨y, r⟩⟩
  · skip
    repeat' first
 | (apply s_mov; (focus ((conv => lhs; whnf); done)))
 | (apply s_gF; exact rfl)
 | (apply c_nil)
 | (apply s_pickF; exact rfl; (focus ((conv => lhs; whnf); done)))
 | ((first | apply s_lss | apply s_leq | apply s_gtr | apply s_geq | apply s_eql | apply s_neq); exact rfl; all_goals (intro _; try (exfalso; omega)))
 | (apply s_cn; (focus (repeat (first | apply opds_nil | (apply opds_cons; (first | (focus ((conv => lhs; whnf); done)) | exact rfl))))); exact hc _)
 | (apply s_pd; exact rfl)
 | (apply c_seq)
 | (apply c_reg)
 | (apply c_ret)
 | (with_reducible apply k_c)
    all_goals refine fin_t (by (conv => lhs; whnf)) (by rfl) ?_
    all_goals first | exact leafF (fac_multi hL (by simp)) | (exfalso; omega)
  · have hs := fac_single hL
    simp only [fzP, pcs, List.flatMap_cons, List.flatMap_nil, List.append_nil, List.length_nil] at hc
    repeat' first
 | (apply s_mov; (focus ((conv => lhs; whnf); done)))
 | (apply s_gT; exact rfl)
 | (apply c_nil)
 | (apply s_pickT; exact rfl; (focus ((conv => lhs; whnf); done)))
 | ((first | apply s_lss | apply s_leq | apply s_gtr | apply s_geq | apply s_eql | apply s_neq); exact rfl; all_goals (intro _; try (exfalso; omega)))
 | (apply s_cn; (focus (repeat (first | apply opds_nil | (apply opds_cons; (first | (focus ((conv => lhs; whnf); done)) | exact rfl))))); exact hc _)
 | (apply s_pd; exact rfl)
 | (apply c_seq)
 | (apply c_reg)
 | (apply c_ret)
 | (with_reducible apply k_c)
    all_goals refine fin_t (by (conv => lhs; whnf)) (by rfl) ?_
    all_goals first | exact leafT (hs.2 (by omega)) | exact leafF (fun h => by have := hs.1 h; omega)
  · generalize hF : fzP (x :: y :: r) = F at *
    have hlen : ∀ H, evP H .len [F] = some (.int .i64 ((r.length + 2 : Nat) : Int)) := fun H => by rw [← hF]; rfl
    repeat' first
 | (apply s_mov; (focus ((conv => lhs; whnf); done)))
 | (apply s_gF; exact rfl)
 | (apply c_nil)
 | (apply s_pickF; exact rfl; (focus ((conv => lhs; whnf); done)))
 | ((first | apply s_lss | apply s_leq | apply s_gtr | apply s_geq | apply s_eql | apply s_neq); exact rfl; all_goals (intro _; try (exfalso; omega)))
 | (apply s_cn; (focus (repeat (first | apply opds_nil | (apply opds_cons; (first | (focus ((conv => lhs; whnf); done)) | exact rfl))))); exact hc _)
 | (apply s_pn; (focus (repeat (first | apply opds_nil | (apply opds_cons; (first | (focus ((conv => lhs; whnf); done)) | exact rfl))))); exact hlen _)
 | (apply c_seq)
 | (apply c_reg)
 | (apply c_ret)
 | (with_reducible apply k_c)
    all_goals refine fin_t (by (conv => lhs; whnf)) (by rfl) ?_
    all_goals first | exact leafF (fac_multi hL (by simp)) | (exfalso; omega)
theorem c63 {N : Nat} (h1 : 1 ≤ N) (hN : N ≤ 2147483647) {m : Nat} (hm : 46403 ≤ m) (H : Heap) : callPure (evF tab it m) true 63 [.int .i64 (N : Int)] H = some (.bool (decide (IsPr N)), H) :=
  callPure_free rfl (by simp) (f63 h1 hN hm) rfl
/-- a prime number -/
def IsPN (p : Int) : Prop := IsNum p ∧ IsPr p.toNat
noncomputable instance (n : Int) : Decidable (IsPN n) := Classical.propDecidable _
theorem f44 {p : Int} {m : Nat} (hm : 46404 ≤ m) : evF tab it m 44 [.int .i64 p] [] = some (.bool (decide (IsPN p)), []) := by
  obtain ⟨m, rfl⟩ : ∃ j, m = j + 1 := ⟨m - 1, by omega⟩
  by_cases hp : IsNum p
  · obtain ⟨N, rfl⟩ : ∃ N : Nat, p = N := ⟨p.toNat, by have := hp.1; omega⟩
    have hp' := hp
    unfold IsNum at hp'
    refine f_enter rfl rfl ?_
    repeat' first
 | (apply s_mov; (focus ((conv => lhs; whnf); done)))
 | (apply s_gT; exact rfl)
 | (apply s_gF; exact rfl)
 | (apply s_gFD; exact rfl)
 | (apply c_nil)
 | (apply s_pickT; exact rfl; (focus ((conv => lhs; whnf); done)))
 | (apply s_pickF; exact rfl; (focus ((conv => lhs; whnf); done)))
 | (apply isE; refine s_cB (by (focus (repeat (first | apply opds_nil | (apply opds_cons; (first | (focus ((conv => lhs; whnf); done)) | exact rfl)))))) (c41 (by omega) _ _) (fun _ => ?_) (fun _ => ?_))
 | (apply isE; refine s_cB (by (focus (repeat (first | apply opds_nil | (apply opds_cons; (first | (focus ((conv => lhs; whnf); done)) | exact rfl)))))) (c63 (by omega) (by omega) (by omega) _) (fun _ => ?_) (fun _ => ?_))
 | (apply c_seq)
 | (apply c_reg)
 | (apply c_ret)
 | (with_reducible apply k_c)
    all_goals refine fin_t (by (conv => lhs; whnf)) (by rfl) ?_
    all_goals first | exact leafT ⟨hp, by simpa using (by assumption : IsPr N)⟩ | exact leafF (fun h => by have := h.2; simp only [Int.toNat_natCast] at this; exact absurd this (by assumption)) | exact absurd hp (by assumption)
  · refine f_enter rfl rfl ?_
    repeat' first
 | (apply s_mov; (focus ((conv => lhs; whnf); done)))
 | (apply s_gT; exact rfl)
 | (apply s_gF; exact rfl)
 | (apply s_gFD; exact rfl)
 | (apply c_nil)
 | (apply s_pickF; exact rfl; (focus ((conv => lhs; whnf); done)))
 | (apply isE; refine s_cB (by (focus (repeat (first | apply opds_nil | (apply opds_cons; (first | (focus ((conv => lhs; whnf); done)) | exact rfl)))))) (c41 (by omega) _ _) (fun _ => ?_) (fun _ => ?_))
 | (apply c_seq)
 | (apply c_reg)
 | (apply c_ret)
 | (with_reducible apply k_c)
    · exact absurd (by assumption) hp
    all_goals refine fin_t (by (conv => lhs; whnf)) (by rfl) ?_
    all_goals exact leafF (fun h => hp h.1)
theorem c44 {m : Nat} (hm : 46404 ≤ m) (p : Int) (H : Heap) : callPure (evF tab it m) true 44 [.int .i64 p] H = some (.bool (decide (IsPN p)), H) :=
  callPure_free rfl (by simp) (f44 hm) rfl
theorem f21 {p : Int} {m : Nat} (hm : 46404 ≤ m) : evF tab it m 21 [.int .i64 p] [] = some (.bool (decide (IsPN p)), []) := by
  obtain ⟨m, rfl⟩ : ∃ j, m = j + 1 := ⟨m - 1, by omega⟩
  by_cases hp : IsNum p
  · obtain ⟨N, rfl⟩ : ∃ N : Nat, p = N := ⟨p.toNat, by have := hp.1; omega⟩
    have hp' := hp
    unfold IsNum at hp'
    obtain ⟨d, hd, hc⟩ := c43 (n := N) (by omega) (by omega) (m := m) (by omega) []
    have hpd : IsPN (N : Int) ↔ 1 < N ∧ d = N := by
      constructor
      · intro h
        have h2 : IsPr N := by simpa using h.2
        refine ⟨h2.1, ?_⟩
        obtain ⟨e1, e2, e3⟩ := hd.1 h2.1
        exact pr_dvd_pr e1 h2 e2
      · rintro ⟨h1, rfl⟩
        exact ⟨hp, by simpa using (hd.1 h1).1⟩
    refine f_enter rfl rfl ?_
    repeat' first
 | (apply s_mov; (focus ((conv => lhs; whnf); done)))
 | (apply s_gT; exact rfl)
 | (apply s_gF; exact rfl)
 | (apply s_gFD; exact rfl)
 | (apply c_nil)
 | (apply s_pickT; exact rfl; (focus ((conv => lhs; whnf); done)))
 | (apply s_pickF; exact rfl; (focus ((conv => lhs; whnf); done)))
 | ((first | apply s_lss | apply s_leq | apply s_gtr | apply s_geq | apply s_eql | apply s_neq); exact rfl; all_goals (intro _; try (exfalso; omega)))
 | (apply isE; refine s_cB (by (focus (repeat (first | apply opds_nil | (apply opds_cons; (first | (focus ((conv => lhs; whnf); done)) | exact rfl)))))) (c17 (by omega) _ _) (fun _ => ?_) (fun _ => ?_))
 | (apply s_cn; (focus (repeat (first | apply opds_nil | (apply opds_cons; (first | (focus ((conv => lhs; whnf); done)) | exact rfl))))); exact hc)
 | (apply c_seq)
 | (apply c_reg)
 | (apply c_ret)
 | (with_reducible apply k_c)
    all_goals first
      | exact absurd hp (by assumption)
      | (refine fin_t (by (conv => lhs; whnf)) (by rfl) ?_
         first | exact leafT (hpd.2 ⟨by omega, by omega⟩) | exact leafF (fun h => by have := hpd.1 h; omega))
  · refine f_enter rfl rfl ?_
    repeat' first
 | (apply s_mov; (focus ((conv => lhs; whnf); done)))
 | (apply s_gT; exact rfl)
 | (apply s_gF; exact rfl)
 | (apply s_gFD; exact rfl)
 | (apply c_nil)
 | (apply s_pickT; exact rfl; (focus ((conv => lhs; whnf); done)))
 | (apply s_pickF; exact rfl; (focus ((conv => lhs; whnf); done)))
 | ((first | apply s_lss | apply s_leq | apply s_gtr | apply s_geq | apply s_eql | apply s_neq); exact rfl; all_goals (intro _; try (exfalso; omega)))
 | (apply isE; refine s_cB (by (focus (repeat (first | apply opds_nil | (apply opds_cons; (first | (focus ((conv => lhs; whnf); done)) | exact rfl)))))) (c17 (by omega) _ _) (fun _ => ?_) (fun _ => ?_))
 | (apply c_seq)
 | (apply c_reg)
 | (apply c_ret)
 | (with_reducible apply k_c)
    · exact absurd (by assumption) hp
    all_goals refine fin_t (by (conv => lhs; whnf)) (by rfl) ?_
    all_goals exact leafF (fun h => hp h.1)
theorem c21 {m : Nat} (hm : 46404 ≤ m) (p : Int) (H : Heap) : callPure (evF tab it m) true 21 [.int .i64 p] H = some (.bool (decide (IsPN p)), H) :=
  callPure_free rfl (by simp) (f21 hm) rfl
end Go.AM.Pr
