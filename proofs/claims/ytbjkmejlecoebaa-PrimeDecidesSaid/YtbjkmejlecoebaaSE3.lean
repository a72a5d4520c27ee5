/- A part of the proof: SE3. -/
import Derived.Test.YtbjkmejlecoebaaSE2
set_option linter.unusedSectionVars false
set_option linter.unusedVariables false
set_option linter.unusedSimpArgs false
namespace Go.AM.Num
def gp (l : List (Nat × Nat)) (i : Nat) : Nat × Nat := l.getD i (0, 0)
theorem gp_lt {l : List (Nat × Nat)} {i : Nat} (h : i < l.length) : gp l i = l[i] := by simp [gp, List.getD, h]
theorem gp_mem {l : List (Nat × Nat)} {i : Nat} (h : i < l.length) : gp l i ∈ l := by rw [gp_lt h]; exact List.getElem_mem h
/-- how often p occurs -/
def expo (p : Nat) : List (Nat × Nat) → Nat
  | [] => 0
  | x :: l => (if x.1 = p then x.2 else 0) + expo p l
theorem expo_app (p : Nat) : ∀ (l r : List (Nat × Nat)), expo p (l ++ r) = expo p l + expo p r
  | [], r => by simp [expo]
  | x :: l, r => by rw [List.cons_append]; simp only [expo]; rw [expo_app p l r]; omega
theorem take_succ {l : List (Nat × Nat)} {i : Nat} (h : i < l.length) : l.take (i + 1) = l.take i ++ [gp l i] := by
  rw [gp_lt h, List.take_append_getElem h]
theorem expo_take (p : Nat) {l : List (Nat × Nat)} {i : Nat} (h : i < l.length) : expo p (l.take (i + 1)) = expo p (l.take i) + (if (gp l i).1 = p then (gp l i).2 else 0) := by
  rw [take_succ h, expo_app]; simp [expo]
theorem expo_val {p : Nat} (hp : IsPr p) : ∀ {l : List (Nat × Nat)}, (∀ x ∈ l, IsPr x.1 ∧ 1 ≤ x.2) → ∃ c, prodL l = p ^ expo p l * c ∧ ¬ p ∣ c
  | [], _ => ⟨1, by simp [prodL, expo], fun h => by have := Nat.le_of_dvd (by omega) h; have := hp.1; omega⟩
  | x :: l, h => by
    obtain ⟨c, h1, h2⟩ := expo_val hp (l := l) fun y hy => h y (List.mem_cons_of_mem _ hy)
    have hx := h x List.mem_cons_self
    rw [prodL_cons, h1]
    by_cases e : x.1 = p
    · refine ⟨c, ?_, h2⟩
      simp only [expo, e, if_true]
      rw [Nat.pow_add, Nat.mul_assoc]
    · refine ⟨x.1 ^ x.2 * c, ?_, fun hd => ?_⟩
      · simp only [expo, if_neg e, Nat.zero_add]
        rw [Nat.mul_left_comm]
      · rcases pr_dvd_mul hp hd with g | g
        · exact e (pr_dvd_pr hp hx.1 (pr_dvd_pow hp g)).symm
        · exact h2 g
theorem expo_none {p : Nat} : ∀ {l : List (Nat × Nat)}, (∀ x ∈ l, p < x.1) → expo p l = 0
  | [], _ => rfl
  | x :: l, h => by
    have h1 := h x List.mem_cons_self
    simp only [expo]
    rw [if_neg (by omega), expo_none fun y hy => h y (List.mem_cons_of_mem _ hy)]
theorem expo_at : ∀ {l : List (Nat × Nat)} {i : Nat}, FacR l → i < l.length → expo (gp l i).1 l = (gp l i).2
  | x :: l, 0, h, _ => by
    show (if x.1 = x.1 then x.2 else 0) + expo x.1 l = x.2
    rw [if_pos rfl, expo_none h.head_lt]; rfl
  | x :: l, i + 1, h, hi => by
    have hi' : i < l.length := by simpa using hi
    have := expo_at h.tail hi'
    have hl := h.head_lt _ (gp_mem hi')
    show (if x.1 = (gp l i).1 then x.2 else 0) + expo (gp l i).1 l = (gp l i).2
    rw [if_neg (by omega), this, Nat.zero_add]
/-- the exponents of a product add up -/
theorem expo_join {a b : Nat} {la lb lc : List (Nat × Nat)} (ha : Fac la a) (hb : Fac lb b) (hc : Fac lc (a * b)) {i : Nat} (hi : i < lc.length) : expo (gp lc i).1 la + expo (gp lc i).1 lb = (gp lc i).2 := by
  have hp := (hc.all _ (gp_mem hi)).1
  obtain ⟨c1, e1, n1⟩ := expo_val hp ha.all
  obtain ⟨c2, e2, n2⟩ := expo_val hp hb.all
  obtain ⟨c3, e3, n3⟩ := expo_val hp hc.all
  rw [ha.prod] at e1; rw [hb.prod] at e2; rw [hc.prod, expo_at hc.toFacR hi] at e3
  generalize (gp lc i).1 = p at *
  have : p ^ (expo p la + expo p lb) * (c1 * c2) = p ^ (gp lc i).2 * c3 := by
    rw [← e3, e1, e2, Nat.pow_add]
    rw [← e1, ← e2]
    conv => rhs; rw [e1, e2]
    simp only [Nat.mul_comm, Nat.mul_left_comm, Nat.mul_assoc]
  exact (pow_cancel hp.1 (fun h => (pr_dvd_mul hp h).elim n1 n2) n3 this).1
theorem gp_asc {l : List (Nat × Nat)} (h : FacR l) {i : Nat} (h0 : 0 < i) (hi : i < l.length) : (gp l (i - 1)).1 < (gp l i).1 := by
  obtain ⟨j, rfl⟩ : ∃ j, i = j + 1 := ⟨i - 1, by omega⟩
  have hs : l = l.take (j + 1) ++ l.drop (j + 1) := (List.take_append_drop _ _).symm
  have := (FacR.append (hs ▸ h)).2.2 (gp l j) (by rw [take_succ (by omega)]; simp) (gp l (j + 1)) (by
    rw [gp_lt hi]
    rw [List.drop_eq_getElem_cons hi]
    exact List.mem_cons_self)
  exact this
/-- the product of the first ones, times a power -/
theorem prod_take_le {l : List (Nat × Nat)} (h : FacR l) {i k : Nat} (hi : i < l.length) (hk : k ≤ (gp l i).2) : prodL (l.take i) * (gp l i).1 ^ k ≤ prodL l := by
  have hs : l = l.take (i + 1) ++ l.drop (i + 1) := (List.take_append_drop _ _).symm
  have e : prodL l = prodL (l.take i) * (gp l i).1 ^ (gp l i).2 * prodL (l.drop (i + 1)) := by
    conv => lhs; rw [hs]
    rw [prodL_append, take_succ hi, prodL_append]
    simp [prodL]
  have hpos := (FacR.append (hs ▸ h)).2.1.pos
  have h2 := (h.all _ (gp_mem hi)).1.1
  have h3 := Nat.pow_le_pow_right (show 0 < (gp l i).1 by omega) hk
  rw [e]
  exact Nat.le_trans (Nat.mul_le_mul_left _ h3) (Nat.le_mul_of_pos_right _ hpos)
theorem prod_take_succ {l : List (Nat × Nat)} {i : Nat} (hi : i < l.length) : prodL (l.take (i + 1)) = prodL (l.take i) * (gp l i).1 ^ (gp l i).2 := by
  rw [take_succ hi, prodL_append]
  simp [prodL]
theorem exp_lt {l : List (Nat × Nat)} {N : Nat} (h : Fac l N) (hN : N ≤ 2147483647) {i : Nat} (hi : i < l.length) : 1 ≤ (gp l i).2 ∧ (gp l i).2 ≤ 30 ∧ 2 ≤ (gp l i).1 ∧ (gp l i).1 ≤ N := by
  have hx := h.all _ (gp_mem hi)
  have hd := Nat.le_of_dvd (by have := h.toFacR.pos; rw [h.prod] at this; omega) (h.prod ▸ mem_dvd_prod (gp_mem hi))
  have h2 := hx.1.1
  refine ⟨hx.2, ?_, h2, ?_⟩
  · rcases Nat.lt_or_ge 30 (gp l i).2 with g | g
    · have a := Nat.pow_le_pow_right (show 0 < 2 by omega) (show 31 ≤ (gp l i).2 by omega)
      have b := Nat.pow_le_pow_left h2 (gp l i).2
      omega
    · exact g
  · have := Nat.pow_le_pow_right (show 0 < (gp l i).1 by omega) hx.2
    rw [Nat.pow_one] at this
    omega
end Go.AM.Num
