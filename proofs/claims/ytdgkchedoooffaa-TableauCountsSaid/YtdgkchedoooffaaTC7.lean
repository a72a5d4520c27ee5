/- A part of the proof: TC7. -/
import Derived.Test.YtdgkchedoooffaaTC5
import Derived.Test.YtdgkchedoooffaaM3
set_option linter.unusedVariables false
set_option linter.unusedSimpArgs false
set_option linter.unusedSectionVars false
namespace Go.AM.Tb
def pk (l : List Int) : Nat → Nat → Nat × Nat
  | 0, k => (0, k)
  | r + 1, k => if crn l r then (if cntS (lessL l r) ≤ k then pk l r (k - cntS (lessL l r)) else (r, k)) else pk l r k
theorem pk_ok {l : List Int} : ∀ r k, k < sN r (fun j => if crn l j then cntS (lessL l j) else 0) → (pk l r k).1 < r ∧ crn l (pk l r k).1 = true ∧ (pk l r k).2 < cntS (lessL l (pk l r k).1)
  | 0, k, h => by simp [sN] at h
  | r + 1, k, h => by
    simp only [sN] at h
    simp only [pk]
    by_cases hc : crn l r = true
    · rw [if_pos hc] at h ⊢
      by_cases hk : cntS (lessL l r) ≤ k
      · rw [if_pos hk]
        have := pk_ok (l := l) r (k - cntS (lessL l r)) (by omega)
        exact ⟨by omega, this.2⟩
      · rw [if_neg hk]
        exact ⟨by simp, hc, by simp; omega⟩
    · rw [if_neg hc] at h ⊢
      have := pk_ok (l := l) r k (by omega)
      exact ⟨by omega, this.2⟩
theorem pk_all {l : List Int} (h : IsSh l) (h0 : l ≠ []) {k : Nat} (hk : k < cntS l) : (pk l l.length k).1 < l.length ∧ crn l (pk l l.length k).1 = true ∧ (pk l l.length k).2 < cntS (lessL l (pk l l.length k).1) := pk_ok _ _ (by rw [← cntS_eq h h0]; exact hk)
def put2 (T : List (List Int)) (r c : Nat) (v : Int) : List (List Int) := T.set r ((getLL T (r : Int)).set c v)
def ur : Nat → List Int → Nat → List (List Int) → List (List Int)
  | 0, _, _, T => T
  | n + 1, l, k, T => ur n (lessL l (pk l l.length k).1) (pk l l.length k).2 (put2 T (pk l l.length k).1 (lam l (pk l l.length k).1 - 1) ((n : Int) + 1))
def zer (s : List Int) : List (List Int) := s.map fun a => List.replicate a.toNat 0
def unrk (s : List Int) (k : Nat) : List (List Int) := ur (siz s) s k (zer s)
end Go.AM.Tb
