/- A part of the proof: S35. -/
import Derived.Test.YtbjkmejlecoebaaS34
set_option linter.unusedSectionVars false
set_option linter.unusedVariables false
set_option linter.unusedSimpArgs false
namespace Go.AM.Pr
open Go.AM.Num
set_option maxHeartbeats 4000000
/-- a right verdict -/
def RV (n d : Int) (l : List En) : Prop := (d = 0 ∧ GP l n) ∨ (d ≠ 0 ∧ l.length = 0 ∧ (n = 1 ∧ d = 1 ∨ 1 < d ∧ d < n ∧ n.tmod d = 0))
noncomputable instance (n d : Int) (l : List En) : Decidable (RV n d l) := Classical.propDecidable _
structure Small (l : List En) : Prop where
  len : l.length ≤ 1000
  each : ∀ e ∈ l, e.f.length ≤ 1000
theorem f31 {n d : Int} {pv : AV} {l : List En} (hn : IsNum n) (hv : IsP pv l) (hs : Small l) {m : Nat} (hm : 4002 ≤ m) : evF tab it m 31 [.int .i64 n, .agg [.int .i64 d, pv]] [] = some (.bool (decide (RV n d l)), []) := by
  obtain ⟨m, rfl⟩ : ∃ j, m = j + 1 := ⟨m - 1, by omega⟩
  have fv := hv.free
  have hn' := hn
  unfold IsNum at hn'
  have e57 : ∀ H, callPure (evF tab it m) true 57 [.int .i64 n, pv] H = some (.bool (decide (GP l n)), H) := fun H => callPure_free (by simp [idFreeL, AV.idFree, fv]) (by simp) (f57 hn hv hs.len hs.each (m := m) (by omega)) rfl
  have le := fun H => p_lenE (H := H) hv
  refine f_enter rfl rfl ?_
  generalize evF tab it m = call at *
  have fo : pv.one = true := by obtain ⟨_, ⟨rfl, _⟩ | rfl⟩ := hv <;> rfl
  have o1 : ∀ x : Int, (AV.int .i64 x).one = true := fun _ => rfl
  have ob : evE call [] (.box false) [.agg [.int .i64 d, pv]] = some (.ptr 0 0, [some (.box [.int .i64 d, pv])]) := by
    simp [evE, cells_agg, oneL, o1, fo, mkHO]
  have d0 : ∀ H, evP H (.fldA 0) [.ptr 0 0] = some (.ptr 0 0) := fun _ => rfl
  have d1 : ∀ H, evP H (.fldA 1) [.ptr 0 0] = some (.ptr 0 1) := fun _ => rfl
  have l0 : evP [some (.box [.int .i64 d, pv])] (.ld false 1) [.ptr 0 0] = some (.int .i64 d) := rfl
  have l1 : evP [some (.box [.int .i64 d, pv])] (.ld false 1) [.ptr 0 1] = some pv := rfl
  by_cases hd : d = 0
  · subst hd
    have hR : RV n 0 l ↔ GP l n := ⟨fun h => h.elim (·.2) (fun h => absurd rfl h.1), fun h => .inl ⟨rfl, h⟩⟩
    repeat' first
 | (apply s_mov; (focus ((conv => lhs; whnf); done)))
 | (apply c_nil)
 | ((first | apply s_lss | apply s_leq | apply s_gtr | apply s_geq | apply s_eql | apply s_neq); exact rfl; all_goals (intro _; try (exfalso; omega)))
 | (apply s_en; (focus (repeat (first | apply opds_nil | (apply opds_cons; (first | (focus ((conv => lhs; whnf); done)) | exact rfl))))); exact ob)
 | (apply s_pn; (focus (repeat (first | apply opds_nil | (apply opds_cons; (first | (focus ((conv => lhs; whnf); done)) | exact rfl))))); exact d0 _)
 | (apply s_pn; (focus (repeat (first | apply opds_nil | (apply opds_cons; (first | (focus ((conv => lhs; whnf); done)) | exact rfl))))); exact d1 _)
 | (apply s_pn; (focus (repeat (first | apply opds_nil | (apply opds_cons; (first | (focus ((conv => lhs; whnf); done)) | exact rfl))))); exact l0)
 | (apply s_pn; (focus (repeat (first | apply opds_nil | (apply opds_cons; (first | (focus ((conv => lhs; whnf); done)) | exact rfl))))); exact l1)
 | (apply isE; refine s_cB (by (focus (repeat (first | apply opds_nil | (apply opds_cons; (first | (focus ((conv => lhs; whnf); done)) | exact rfl)))))) (e57 _) (fun _ => ?_) (fun _ => ?_))
 | (apply c_seq)
 | (apply c_reg)
 | (apply c_ret)
 | (apply c_condT; exact rfl)
 | (with_reducible apply k_c)
    · exact fin_t (by (conv => lhs; whnf)) (by rfl) (leafT (hR.2 (by assumption)))
    · exact fin_t (by (conv => lhs; whnf)) (by rfl) (leafF (fun h => absurd (hR.1 h) (by assumption)))
  · have hR : RV n d l ↔ l.length = 0 ∧ (n = 1 ∧ d = 1 ∨ 1 < d ∧ d < n ∧ n.tmod d = 0) := ⟨fun h => h.elim (fun h => absurd h.1 hd) (·.2), fun h => .inr ⟨hd, h⟩⟩
    repeat' first
 | (apply s_mov; (focus ((conv => lhs; whnf); done)))
 | (apply s_gT; exact rfl)
 | (apply s_gF; exact rfl)
 | (apply c_nil)
 | (apply s_pickT; exact rfl; (focus ((conv => lhs; whnf); done)))
 | (apply s_pickF; exact rfl; (focus ((conv => lhs; whnf); done)))
 | ((first | apply s_lss | apply s_leq | apply s_gtr | apply s_geq | apply s_eql | apply s_neq); exact rfl; all_goals (intro _; try (exfalso; omega)))
 | (apply s_en; (focus (repeat (first | apply opds_nil | (apply opds_cons; (first | (focus ((conv => lhs; whnf); done)) | exact rfl))))); exact ob)
 | (apply s_pn; (focus (repeat (first | apply opds_nil | (apply opds_cons; (first | (focus ((conv => lhs; whnf); done)) | exact rfl))))); exact d0 _)
 | (apply s_pn; (focus (repeat (first | apply opds_nil | (apply opds_cons; (first | (focus ((conv => lhs; whnf); done)) | exact rfl))))); exact d1 _)
 | (apply s_pn; (focus (repeat (first | apply opds_nil | (apply opds_cons; (first | (focus ((conv => lhs; whnf); done)) | exact rfl))))); exact l0)
 | (apply s_pn; (focus (repeat (first | apply opds_nil | (apply opds_cons; (first | (focus ((conv => lhs; whnf); done)) | exact rfl))))); exact l1)
 | (apply s_pn; (focus (repeat (first | apply opds_nil | (apply opds_cons; (first | (focus ((conv => lhs; whnf); done)) | exact rfl))))); exact le _)
 | (apply s_rem; exact rfl; omega)
 | (apply c_seq)
 | (apply c_reg)
 | (apply c_skip)
 | (apply c_ret)
 | (apply c_condT; exact rfl)
 | (apply c_condF; exact rfl)
 | (with_reducible apply k_c)
    all_goals refine fin_t (by (conv => lhs; whnf)) (by rfl) ?_
    all_goals first | exact leafT (hR.2 ⟨by omega, by omega⟩) | exact leafF (fun h => by have := hR.1 h; omega)
theorem f38 {n d : Int} {pv : AV} {l : List En} (hn : IsNum n) (hv : IsP pv l) (hs : Small l) {m : Nat} (hm : 4002 ≤ m) : evF tab it m 38 [.int .i64 n, .agg [.int .i64 d, pv]] [] = some (.int .i64 (if RV n d l then 0 else 10), []) := by
  obtain ⟨m, rfl⟩ : ∃ j, m = j + 1 := ⟨m - 1, by omega⟩
  have fv := hv.free
  have hn' := hn
  unfold IsNum at hn'
  have e61 := fun H => c61 (by omega) hv hs.len hs.each (n := n) (m := m) (by omega) H
  have e41 := fun H => c41 (m := m) (by omega) n H
  simp only [hn, decide_true] at e41
  have le := fun H => p_lenE (H := H) hv
  refine f_enter rfl rfl ?_
  generalize evF tab it m = call at *
  have fo : pv.one = true := by obtain ⟨_, ⟨rfl, _⟩ | rfl⟩ := hv <;> rfl
  have o1 : ∀ x : Int, (AV.int .i64 x).one = true := fun _ => rfl
  have ob : evE call [] (.box false) [.agg [.int .i64 d, pv]] = some (.ptr 0 0, [some (.box [.int .i64 d, pv])]) := by
    simp [evE, cells_agg, oneL, o1, fo, mkHO]
  have d0 : ∀ H, evP H (.fldA 0) [.ptr 0 0] = some (.ptr 0 0) := fun _ => rfl
  have d1 : ∀ H, evP H (.fldA 1) [.ptr 0 0] = some (.ptr 0 1) := fun _ => rfl
  have l0 : evP [some (.box [.int .i64 d, pv])] (.ld false 1) [.ptr 0 0] = some (.int .i64 d) := rfl
  have l1 : evP [some (.box [.int .i64 d, pv])] (.ld false 1) [.ptr 0 1] = some pv := rfl
  by_cases hd : d = 0
  · subst hd
    have hR : RV n 0 l ↔ GP l n := ⟨fun h => h.elim (·.2) (fun h => absurd rfl h.1), fun h => .inl ⟨rfl, h⟩⟩
    repeat' first
 | (apply s_mov; (focus ((conv => lhs; whnf); done)))
 | (apply c_nil)
 | (apply s_notT; exact rfl)
 | (apply s_notF; exact rfl)
 | ((first | apply s_lss | apply s_leq | apply s_gtr | apply s_geq | apply s_eql | apply s_neq); exact rfl; all_goals (intro _; try (exfalso; omega)))
 | (apply s_cn; (focus (repeat (first | apply opds_nil | (apply opds_cons; (first | (focus ((conv => lhs; whnf); done)) | exact rfl))))); exact e41 _)
 | (apply s_en; (focus (repeat (first | apply opds_nil | (apply opds_cons; (first | (focus ((conv => lhs; whnf); done)) | exact rfl))))); exact ob)
 | (apply s_pn; (focus (repeat (first | apply opds_nil | (apply opds_cons; (first | (focus ((conv => lhs; whnf); done)) | exact rfl))))); exact d0 _)
 | (apply s_pn; (focus (repeat (first | apply opds_nil | (apply opds_cons; (first | (focus ((conv => lhs; whnf); done)) | exact rfl))))); exact d1 _)
 | (apply s_pn; (focus (repeat (first | apply opds_nil | (apply opds_cons; (first | (focus ((conv => lhs; whnf); done)) | exact rfl))))); exact l0)
 | (apply s_pn; (focus (repeat (first | apply opds_nil | (apply opds_cons; (first | (focus ((conv => lhs; whnf); done)) | exact rfl))))); exact l1)
 | (apply isE; refine s_cB (by (focus (repeat (first | apply opds_nil | (apply opds_cons; (first | (focus ((conv => lhs; whnf); done)) | exact rfl)))))) (e61 _) (fun _ => ?_) (fun _ => ?_))
 | (apply c_seq)
 | (apply c_reg)
 | (apply c_block)
 | (apply c_skip)
 | (apply c_ret)
 | (apply c_condT; exact rfl)
 | (apply c_condF; exact rfl)
 | (with_reducible apply k_c)
    · rw [if_pos (hR.2 (by assumption))]; exact fin_t (by (conv => lhs; whnf)) (by rfl) rfl
    · rw [if_neg (fun h => absurd (hR.1 h) (by assumption))]; exact fin_t (by (conv => lhs; whnf)) (by rfl) rfl
  · have hR : RV n d l ↔ l.length = 0 ∧ (n = 1 ∧ d = 1 ∨ 1 < d ∧ d < n ∧ n.tmod d = 0) := ⟨fun h => h.elim (fun h => absurd h.1 hd) (·.2), fun h => .inr ⟨hd, h⟩⟩
    repeat' first
 | (apply s_mov; (focus ((conv => lhs; whnf); done)))
 | (apply s_gT; exact rfl)
 | (apply s_gF; exact rfl)
 | (apply c_nil)
 | (apply s_pickT; exact rfl; (focus ((conv => lhs; whnf); done)))
 | (apply s_pickF; exact rfl; (focus ((conv => lhs; whnf); done)))
 | (apply s_notT; exact rfl)
 | (apply s_notF; exact rfl)
 | ((first | apply s_lss | apply s_leq | apply s_gtr | apply s_geq | apply s_eql | apply s_neq); exact rfl; all_goals (intro _; try (exfalso; omega)))
 | (apply s_cn; (focus (repeat (first | apply opds_nil | (apply opds_cons; (first | (focus ((conv => lhs; whnf); done)) | exact rfl))))); exact e41 _)
 | (apply s_en; (focus (repeat (first | apply opds_nil | (apply opds_cons; (first | (focus ((conv => lhs; whnf); done)) | exact rfl))))); exact ob)
 | (apply s_pn; (focus (repeat (first | apply opds_nil | (apply opds_cons; (first | (focus ((conv => lhs; whnf); done)) | exact rfl))))); exact d0 _)
 | (apply s_pn; (focus (repeat (first | apply opds_nil | (apply opds_cons; (first | (focus ((conv => lhs; whnf); done)) | exact rfl))))); exact d1 _)
 | (apply s_pn; (focus (repeat (first | apply opds_nil | (apply opds_cons; (first | (focus ((conv => lhs; whnf); done)) | exact rfl))))); exact l0)
 | (apply s_pn; (focus (repeat (first | apply opds_nil | (apply opds_cons; (first | (focus ((conv => lhs; whnf); done)) | exact rfl))))); exact l1)
 | (apply s_pn; (focus (repeat (first | apply opds_nil | (apply opds_cons; (first | (focus ((conv => lhs; whnf); done)) | exact rfl))))); exact le _)
 | (apply s_rem; exact rfl; omega)
 | (apply c_seq)
 | (apply c_reg)
 | (apply c_block)
 | (apply c_skip)
 | (apply c_ret)
 | (apply c_condT; exact rfl)
 | (apply c_condF; exact rfl)
 | (with_reducible apply k_c)
    all_goals first
      | (rw [if_pos (hR.2 ⟨by omega, by omega⟩)]; exact fin_t (by (conv => lhs; whnf)) (by rfl) rfl)
      | (rw [if_neg (fun h => by have := hR.1 h; omega)]; exact fin_t (by (conv => lhs; whnf)) (by rfl) rfl)
theorem f38e {n d : Int} {pv : AV} {l : List En} (hn : ¬ IsNum n) (hv : IsP pv l) {m : Nat} (hm : 4002 ≤ m) : evF tab it m 38 [.int .i64 n, .agg [.int .i64 d, pv]] [] = some (.int .i64 2, []) := by
  obtain ⟨m, rfl⟩ : ∃ j, m = j + 1 := ⟨m - 1, by omega⟩
  have e41 := fun H => c41 (m := m) (by omega) n H
  simp only [hn, decide_false] at e41
  refine f_enter rfl rfl ?_
  generalize evF tab it m = call at *
  have fo : pv.one = true := by obtain ⟨_, ⟨rfl, _⟩ | rfl⟩ := hv <;> rfl
  have o1 : ∀ x : Int, (AV.int .i64 x).one = true := fun _ => rfl
  have ob : evE call [] (.box false) [.agg [.int .i64 d, pv]] = some (.ptr 0 0, [some (.box [.int .i64 d, pv])]) := by
    simp [evE, cells_agg, oneL, o1, fo, mkHO]
  repeat' first
 | (apply s_mov; (focus ((conv => lhs; whnf); done)))
 | (apply c_nil)
 | (apply s_notF; exact rfl)
 | (apply s_cn; (focus (repeat (first | apply opds_nil | (apply opds_cons; (first | (focus ((conv => lhs; whnf); done)) | exact rfl))))); exact e41 _)
 | (apply s_en; (focus (repeat (first | apply opds_nil | (apply opds_cons; (first | (focus ((conv => lhs; whnf); done)) | exact rfl))))); exact ob)
 | (apply c_seq)
 | (apply c_reg)
 | (apply c_ret)
 | (apply c_condT; exact rfl)
 | (with_reducible apply k_c)
  exact fin_t (by (conv => lhs; whnf)) (by rfl) rfl
end Go.AM.Pr
