/- A part of the proof: S44. -/
import Derived.Test.YtbjkmejlecoebaaS43
set_option linter.unusedSectionVars false
set_option linter.unusedVariables false
set_option linter.unusedSimpArgs false
namespace Go.AM.Pr
open Go.AM.Num
structure Gd (s : List Nat) : Prop where
  pr : ∀ q ∈ s, IsPr q
  nd : s.Nodup
  cl : ∀ q ∈ s, q ≠ 2 → ∀ x ∈ facOf (q - 1), x.1 ∈ s
theorem Gd.nil : Gd [] := ⟨by simp, List.nodup_nil, by simp⟩
theorem Gd.add {s : List Nat} {p : Nat} (h : Gd s) (hp : IsPr p) (hn : p ∉ s) (hc : p ≠ 2 → ∀ x ∈ facOf (p - 1), x.1 ∈ s) : Gd (s ++ [p]) := by
  refine ⟨fun q hq => ?_, ?_, fun q hq h2 x hx => ?_⟩
  · rcases List.mem_append.1 hq with hq | hq
    · exact h.pr q hq
    · simp at hq; subst hq; exact hp
  · rw [List.nodup_append]
    exact ⟨h.nd, by simp, fun a ha b hb e => by simp at hb; subst hb; subst e; exact hn ha⟩
  · rcases List.mem_append.1 hq with hq | hq
    · exact List.mem_append_left _ (h.cl q hq h2 x hx)
    · simp at hq; subst hq; exact List.mem_append_left _ (hc h2 x hx)
theorem pvL_good {n : Nat} (ih : ∀ p s, p ≤ n → IsPr p → Gd s → Gd (pvF n p s) ∧ p ∈ pvF n p s ∧ ∀ y ∈ s, y ∈ pvF n p s) : ∀ (l : List (Nat × Nat)) (s : List Nat), (∀ x ∈ l, IsPr x.1 ∧ x.1 ≤ n) → Gd s →
    Gd (pvL n s l) ∧ (∀ x ∈ l, x.1 ∈ pvL n s l) ∧ ∀ y ∈ s, y ∈ pvL n s l
  | [], s, _, h => ⟨h, by simp, fun y hy => hy⟩
  | x :: l, s, hl, h => by
    obtain ⟨a1, a2, a3⟩ := ih x.1 s (hl x List.mem_cons_self).2 (hl x List.mem_cons_self).1 h
    obtain ⟨b1, b2, b3⟩ := pvL_good ih l (pvF n x.1 s) (fun y hy => hl y (List.mem_cons_of_mem _ hy)) a1
    refine ⟨b1, fun y hy => ?_, fun y hy => b3 y (a3 y hy)⟩
    rcases List.mem_cons.1 hy with rfl | hy
    · exact b3 _ a2
    · exact b2 y hy
theorem pvF_good : ∀ (n p : Nat) (s : List Nat), p ≤ n → IsPr p → Gd s → Gd (pvF n p s) ∧ p ∈ pvF n p s ∧ ∀ y ∈ s, y ∈ pvF n p s
  | 0, p, s, hn, hp, _ => by have := hp.1; omega
  | n + 1, p, s, hn, hp, h => by
    have h1 := hp.1
    by_cases hs : p ∈ s
    · have e : pvF (n + 1) p s = s := by simp [pvF, hs]
      rw [e]
      exact ⟨h, hs, fun y hy => hy⟩
    · by_cases h2 : p = 2
      · have e : pvF (n + 1) p s = s ++ [p] := by subst h2; simp [pvF, hs]
        rw [e]
        exact ⟨h.add hp hs (fun h => absurd h2 h), by simp, fun y hy => List.mem_append_left _ hy⟩
      · have e : pvF (n + 1) p s = pvL n s (facOf (p - 1)) ++ [p] := by simp [pvF, hs, h2, pvL]
        have hlt := fac_lt h1
        obtain ⟨a1, a2, a3⟩ := pvL_good (pvF_good n) (facOf (p - 1)) s (fun x hx => ⟨(hlt x hx).1, by have := (hlt x hx).2.1; omega⟩) h
        have hnm : p ∉ pvL n s (facOf (p - 1)) := fun hc => by
          rcases pvL_le (fun p s y => pvF_le n p s y) _ s p hc (fun x hx => (hlt x hx).2.1) with h | h
          · exact hs h
          · omega
        rw [e]
        exact ⟨a1.add hp hnm (fun _ => a2), by simp, fun y hy => List.mem_append_left _ (a3 y hy)⟩
theorem pvL_size {n : Nat} (ih : ∀ p s, p ≤ n → IsPr p → 2 ^ ((pvF n p s).length + 1) ≤ p ^ 2 * 2 ^ s.length) : ∀ (l : List (Nat × Nat)) (s : List Nat), (∀ x ∈ l, IsPr x.1 ∧ 1 ≤ x.2 ∧ x.1 ≤ n) →
    2 ^ ((pvL n s l).length + l.length) ≤ (prodL l) ^ 2 * 2 ^ s.length
  | [], s, _ => by simp [pvL, prodL]
  | x :: l, s, hl => by
    obtain ⟨x1, x2, x3⟩ := hl x List.mem_cons_self
    have a := ih x.1 s x3 x1
    have b := pvL_size ih l (pvF n x.1 s) (fun y hy => hl y (List.mem_cons_of_mem _ hy))
    have e : pvL n s (x :: l) = pvL n (pvF n x.1 s) l := rfl
    rw [e, List.length_cons, prodL_cons]
    have c : x.1 ≤ x.1 ^ x.2 := by
      have := Nat.pow_le_pow_right (show 0 < x.1 by have := x1.1; omega) x2
      simpa using this
    have c2 : x.1 ^ 2 ≤ (x.1 ^ x.2) ^ 2 := Nat.pow_le_pow_left c 2
    calc 2 ^ ((pvL n (pvF n x.1 s) l).length + (l.length + 1)) = 2 ^ ((pvL n (pvF n x.1 s) l).length + l.length) * 2 := by rw [← Nat.add_assoc, Nat.pow_succ]
      _ ≤ (prodL l ^ 2 * 2 ^ (pvF n x.1 s).length) * 2 := Nat.mul_le_mul_right _ b
      _ = prodL l ^ 2 * 2 ^ ((pvF n x.1 s).length + 1) := by rw [Nat.mul_assoc, ← Nat.pow_succ]
      _ ≤ prodL l ^ 2 * (x.1 ^ 2 * 2 ^ s.length) := Nat.mul_le_mul_left _ a
      _ ≤ prodL l ^ 2 * ((x.1 ^ x.2) ^ 2 * 2 ^ s.length) := Nat.mul_le_mul_left _ (Nat.mul_le_mul_right _ c2)
      _ = (x.1 ^ x.2 * prodL l) ^ 2 * 2 ^ s.length := by rw [Nat.mul_pow]; simp only [Nat.mul_comm, Nat.mul_left_comm, Nat.mul_assoc]
theorem odd_pr {p : Nat} (hp : IsPr p) (h3 : 3 ≤ p) : 2 ∣ p - 1 := by
  have : ¬ 2 ∣ p := fun h => by
    rcases hp.2 2 h with e | e <;> omega
  omega
theorem pvF_size : ∀ (n p : Nat) (s : List Nat), p ≤ n → IsPr p → 2 ^ ((pvF n p s).length + 1) ≤ p ^ 2 * 2 ^ s.length
  | 0, p, s, hn, hp => by have := hp.1; omega
  | n + 1, p, s, hn, hp => by
    have h1 := hp.1
    have h4 : 2 ^ 2 ≤ p ^ 2 := Nat.pow_le_pow_left h1 2
    by_cases hs : p ∈ s
    · have e : pvF (n + 1) p s = s := by simp [pvF, hs]
      rw [e, Nat.pow_succ, Nat.mul_comm]
      exact Nat.mul_le_mul_right _ (by omega)
    · by_cases h2 : p = 2
      · have e : pvF (n + 1) p s = s ++ [p] := by subst h2; simp [pvF, hs]
        rw [e, List.length_append, List.length_singleton, Nat.add_assoc, Nat.pow_add, Nat.mul_comm]
        exact Nat.mul_le_mul_right _ h4
      · have e : pvF (n + 1) p s = pvL n s (facOf (p - 1)) ++ [p] := by simp [pvF, hs, h2, pvL]
        have hL := fac_pm hp
        have hlt := fac_lt h1
        have a := pvL_size (pvF_size n) (facOf (p - 1)) s (fun x hx => ⟨(hlt x hx).1, (hL.all x hx).2, by have := (hlt x hx).2.1; omega⟩)
        rw [hL.prod] at a
        rw [e, List.length_append, List.length_singleton]
        have hd : 2 ∣ p - 1 := odd_pr hp (by omega)
        have h2p : IsPr 2 := ⟨by omega, fun d hd => by
          have := Nat.le_of_dvd (by decide) hd
          rcases (by omega : d = 0 ∨ d = 1 ∨ d = 2) with rfl | h | h
          · obtain ⟨c, hc⟩ := hd; omega
          · exact .inl h
          · exact .inr h⟩
        obtain ⟨e2, he2⟩ := pr_dvd_prod h2p hL.all (by rw [hL.prod]; exact hd)
        rcases Nat.lt_or_ge (facOf (p - 1)).length 2 with hk | hk
        · have hk1 : facOf (p - 1) = [(2, e2)] := by
            cases hq : facOf (p - 1) with
            | nil => rw [hq] at he2; cases he2
            | cons y r =>
              rw [hq] at hk he2
              have : r = [] := List.eq_nil_of_length_eq_zero (by simp at hk; omega)
              subst this
              simp at he2
              rw [← he2]
          rw [hk1] at a ⊢
          have b := pvF_size n 2 s (by omega) h2p
          have e' : pvL n s [(2, e2)] = pvF n 2 s := rfl
          rw [e']
          have h9 : 3 ^ 2 ≤ p ^ 2 := Nat.pow_le_pow_left (by omega) 2
          rw [Nat.pow_succ]
          have := Nat.mul_le_mul_right (2 ^ s.length) h9
          omega
        · have c : (pvL n s (facOf (p - 1))).length + 1 + 1 ≤ (pvL n s (facOf (p - 1))).length + (facOf (p - 1)).length := by omega
          refine Nat.le_trans (Nat.pow_le_pow_right (by omega) c) (Nat.le_trans a (Nat.mul_le_mul_right _ (Nat.pow_le_pow_left (by omega) 2)))
theorem pv_len {p : Nat} (hp : IsPr p) (hp2 : p ≤ 2147483647) : (pvF p p []).length ≤ 100 := by
  have a := pvF_size p p [] (Nat.le_refl _) hp
  rcases Nat.lt_or_ge 100 (pvF p p []).length with h | h
  · exfalso
    have b := Nat.pow_le_pow_right (show 0 < 2 by omega) (show 100 ≤ (pvF p p []).length + 1 by omega)
    have c := Nat.pow_le_pow_left hp2 2
    simp only [List.length_nil, Nat.pow_zero, Nat.mul_one] at a
    have : 2 ^ 100 ≤ 2147483647 ^ 2 := Nat.le_trans b (Nat.le_trans a c)
    exact absurd this (by decide)
  · exact h
end Go.AM.Pr
