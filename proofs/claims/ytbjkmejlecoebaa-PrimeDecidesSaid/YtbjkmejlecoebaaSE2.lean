/- A part of the proof: SE2. -/
import Derived.Test.YtbjkmejlecoebaaSE1
set_option linter.unusedSectionVars false
set_option linter.unusedVariables false
set_option linter.unusedSimpArgs false
namespace Go.AM.Num
structure FacR (l : List (Nat × Nat)) : Prop where
  all : ∀ x ∈ l, IsPr x.1 ∧ 1 ≤ x.2
  asc : (l.map (·.1)).Pairwise (· < ·)
structure Fac (l : List (Nat × Nat)) (n : Nat) : Prop extends FacR l where
  prod : prodL l = n
theorem prodL_cons (x : Nat × Nat) (l : List (Nat × Nat)) : prodL (x :: l) = x.1 ^ x.2 * prodL l := rfl
theorem prodL_append : ∀ (l r : List (Nat × Nat)), prodL (l ++ r) = prodL l * prodL r
  | [], r => by simp [prodL]
  | x :: l, r => by rw [List.cons_append, prodL_cons, prodL_cons, prodL_append l r, Nat.mul_assoc]
theorem FacR.tail {x : Nat × Nat} {l : List (Nat × Nat)} (h : FacR (x :: l)) : FacR l := ⟨fun y hy => h.all y (List.mem_cons_of_mem _ hy), by have := h.asc; rw [List.map_cons, List.pairwise_cons] at this; exact this.2⟩
theorem FacR.head_lt {x : Nat × Nat} {l : List (Nat × Nat)} (h : FacR (x :: l)) : ∀ y ∈ l, x.1 < y.1 := fun y hy => by
  have := h.asc
  rw [List.map_cons, List.pairwise_cons] at this
  exact this.1 y.1 (List.mem_map_of_mem hy)
theorem FacR.append {l r : List (Nat × Nat)} (h : FacR (l ++ r)) : FacR l ∧ FacR r ∧ ∀ x ∈ l, ∀ y ∈ r, x.1 < y.1 := by
  have h2 := h.asc
  rw [List.map_append, List.pairwise_append] at h2
  exact ⟨⟨fun x hx => h.all x (List.mem_append_left _ hx), h2.1⟩, ⟨fun x hx => h.all x (List.mem_append_right _ hx), h2.2.1⟩, fun x hx y hy => h2.2.2 _ (List.mem_map_of_mem hx) _ (List.mem_map_of_mem hy)⟩
theorem FacR.pos {l : List (Nat × Nat)} (h : FacR l) : 1 ≤ prodL l := by
  induction l with
  | nil => simp [prodL]
  | cons x l ih =>
    rw [prodL_cons]
    have := (h.all x List.mem_cons_self).1.1
    exact Nat.mul_le_mul (Nat.pow_pos (by omega)) (ih h.tail)
theorem fac_ex {n : Nat} (h1 : 1 ≤ n) : ∃ l, Fac l n := by
  obtain ⟨e1, e2, e3⟩ := dv_spec n 2 n (by omega) h1 (fun d h _ => h) (by
    have := Nat.mul_le_mul (show 1 ≤ 2 + n by omega) (show n + 1 ≤ 2 + n by omega)
    omega)
  exact ⟨dv n 2 n, ⟨fun x hx => ⟨(e2 x hx).1, (e2 x hx).2.1⟩, e3⟩, e1⟩
theorem pr_dvd_pr {p q : Nat} (hp : IsPr p) (hq : IsPr q) (h : p ∣ q) : p = q := by
  rcases hq.2 p h with e | e
  · have := hp.1; omega
  · exact e
/-- a prime that does not divide is prime to it -/
theorem pr_cop_or {p n : Nat} (hp : IsPr p) : Nat.Coprime p n ∨ p ∣ n := by
  rcases hp.2 (Nat.gcd p n) (Nat.gcd_dvd_left p n) with e | e
  · exact .inl e
  · exact .inr (e ▸ Nat.gcd_dvd_right p n)
theorem pr_dvd_mul {p a b : Nat} (hp : IsPr p) (h : p ∣ a * b) : p ∣ a ∨ p ∣ b := by
  rcases pr_cop_or (n := a) hp with e | e
  · exact .inr (Nat.Coprime.dvd_of_dvd_mul_left e h)
  · exact .inl e
theorem pr_dvd_pow {p a : Nat} (hp : IsPr p) : ∀ {k : Nat}, p ∣ a ^ k → p ∣ a
  | 0, h => by
    rw [Nat.pow_zero] at h
    have := Nat.le_of_dvd (by omega) h
    have := hp.1
    omega
  | k + 1, h => by
    rw [Nat.pow_succ] at h
    rcases pr_dvd_mul hp h with e | e
    · exact pr_dvd_pow hp e
    · exact e
theorem pr_dvd_prod {p : Nat} (hp : IsPr p) : ∀ {l : List (Nat × Nat)}, (∀ x ∈ l, IsPr x.1 ∧ 1 ≤ x.2) → p ∣ prodL l → ∃ e, (p, e) ∈ l
  | [], _, h => by
    simp [prodL] at h
    have := hp.1
    omega
  | x :: l, ha, h => by
    rw [prodL_cons] at h
    rcases pr_dvd_mul hp h with e | e
    · have := pr_dvd_pr hp (ha x List.mem_cons_self).1 (pr_dvd_pow hp e)
      exact ⟨x.2, by rw [this]; exact List.mem_cons_self⟩
    · obtain ⟨k, hk⟩ := pr_dvd_prod hp (fun y hy => ha y (List.mem_cons_of_mem _ hy)) e
      exact ⟨k, List.mem_cons_of_mem _ hk⟩
theorem mem_dvd_prod : ∀ {l : List (Nat × Nat)} {x : Nat × Nat}, x ∈ l → x.1 ^ x.2 ∣ prodL l
  | y :: l, x, h => by
    rw [prodL_cons]
    rcases List.mem_cons.1 h with rfl | h
    · exact ⟨_, rfl⟩
    · exact Nat.dvd_trans (mem_dvd_prod h) ⟨_, Nat.mul_comm _ _⟩
theorem FacR.not_dvd {p : Nat} {l : List (Nat × Nat)} (hl : ∀ x ∈ l, IsPr x.1 ∧ 1 ≤ x.2) (hp : IsPr p) (h : ∀ x ∈ l, p < x.1) : ¬ p ∣ prodL l := fun hd => by
  obtain ⟨e, he⟩ := pr_dvd_prod hp hl hd
  exact absurd (h _ he) (Nat.lt_irrefl p)
theorem pow_cancel {p a b x y : Nat} (hp : 2 ≤ p) (hx : ¬ p ∣ x) (hy : ¬ p ∣ y) (h : p ^ a * x = p ^ b * y) : a = b ∧ x = y := by
  have key : ∀ {a b x y : Nat}, ¬ p ∣ x → p ^ a * x = p ^ b * y → ¬ a < b := fun {a b x y} hx h hlt => by
    obtain ⟨c, rfl⟩ : ∃ c, b = a + (c + 1) := ⟨b - a - 1, by omega⟩
    rw [Nat.pow_add, Nat.mul_assoc] at h
    have := Nat.eq_of_mul_eq_mul_left (Nat.pow_pos (by omega)) h
    rw [Nat.pow_succ] at this
    exact hx ⟨p ^ c * y, by rw [this]; simp only [Nat.mul_comm, Nat.mul_left_comm, Nat.mul_assoc]⟩
  have e : a = b := by
    have := key hx h
    have := key hy h.symm
    omega
  subst e
  exact ⟨rfl, Nat.eq_of_mul_eq_mul_left (Nat.pow_pos (by omega)) h⟩
theorem fac_one {l : List (Nat × Nat)} (h : Fac l 1) : l = [] := by
  cases l with
  | nil => rfl
  | cons x l =>
    have hx := h.all x List.mem_cons_self
    have := mem_dvd_prod (l := x :: l) (x := x) List.mem_cons_self
    rw [h.prod] at this
    have := Nat.le_of_dvd (by omega) this
    have := Nat.pow_le_pow_right (show 0 < x.1 by have := hx.1.1; omega) hx.2
    have := hx.1.1
    rw [Nat.pow_one] at *
    omega
theorem fac_uniq : ∀ {l r : List (Nat × Nat)} {n : Nat}, Fac l n → Fac r n → l = r
  | [], r, n, h, g => by
    have : n = 1 := h.prod.symm
    subst this
    exact (fac_one g).symm
  | x :: l, [], n, h, g => by
    have : n = 1 := g.prod.symm
    subst this
    exact fac_one h
  | x :: l, y :: r, n, h, g => by
    have hx := h.all x List.mem_cons_self
    have hy := g.all y List.mem_cons_self
    have dx : x.1 ∣ prodL (y :: r) := by rw [g.prod, ← h.prod]; exact Nat.dvd_trans (Nat.dvd_of_pow_dvd hx.2 (Nat.dvd_refl _)) (mem_dvd_prod List.mem_cons_self)
    have dy : y.1 ∣ prodL (x :: l) := by rw [h.prod, ← g.prod]; exact Nat.dvd_trans (Nat.dvd_of_pow_dvd hy.2 (Nat.dvd_refl _)) (mem_dvd_prod List.mem_cons_self)
    obtain ⟨e, he⟩ := pr_dvd_prod hx.1 g.all dx
    obtain ⟨f, hf⟩ := pr_dvd_prod hy.1 h.all dy
    have l1 : y.1 ≤ x.1 := by
      rcases List.mem_cons.1 he with q | q
      · rw [← q]; exact Nat.le_refl _
      · exact Nat.le_of_lt (g.toFacR.head_lt (x.1, e) q)
    have l2 : x.1 ≤ y.1 := by
      rcases List.mem_cons.1 hf with q | q
      · rw [← q]; exact Nat.le_refl _
      · exact Nat.le_of_lt (h.toFacR.head_lt (y.1, f) q)
    have e1 : x.1 = y.1 := by omega
    have hp := h.prod.trans g.prod.symm
    rw [prodL_cons, prodL_cons, ← e1] at hp
    obtain ⟨e2, e3⟩ := pow_cancel hx.1.1 (FacR.not_dvd (fun y hy => h.all y (List.mem_cons_of_mem _ hy)) hx.1 h.toFacR.head_lt) (FacR.not_dvd (fun y hy => g.all y (List.mem_cons_of_mem _ hy)) hx.1 (e1 ▸ g.toFacR.head_lt)) hp
    have := fac_uniq ⟨h.toFacR.tail, e3⟩ ⟨g.toFacR.tail, rfl⟩
    rw [this]
    obtain ⟨a, b⟩ := x
    obtain ⟨c, d⟩ := y
    simp only at e1 e2
    rw [e1, e2]
theorem fac_pr {n : Nat} (h : IsPr n) : Fac [(n, 1)] n := ⟨⟨fun x hx => by simp at hx; subst hx; exact ⟨h, Nat.le_refl 1⟩, by simp⟩, by simp [prodL]⟩
theorem pr_ex {n : Nat} (h : 1 < n) : ∃ p, IsPr p ∧ p ∣ n := by
  obtain ⟨l, hl⟩ := fac_ex (n := n) (by omega)
  cases l with
  | nil => have := hl.prod; simp [prodL] at this; omega
  | cons x l =>
    have hx := hl.all x List.mem_cons_self
    exact ⟨x.1, hx.1, by rw [← hl.prod]; exact Nat.dvd_trans (Nat.dvd_of_pow_dvd hx.2 (Nat.dvd_refl _)) (mem_dvd_prod List.mem_cons_self)⟩
/-- no prime below q divides it -/
theorem FacR.rough {r : List (Nat × Nat)} {q : Nat} (h : FacR r) (hq : ∀ x ∈ r, q ≤ x.1) : Rough q (prodL r) := fun d h1 h2 => by
  obtain ⟨p, hp, hd⟩ := pr_ex h1
  obtain ⟨e, he⟩ := pr_dvd_prod hp h.all (Nat.dvd_trans hd h2)
  have := hq _ he
  have := Nat.le_of_dvd (by omega) hd
  omega
end Go.AM.Num
