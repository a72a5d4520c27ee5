/- A part of the proof: TC4. -/
import Derived.Test.YtdgkchedoooffaaTC2
set_option linter.unusedVariables false
set_option linter.unusedSimpArgs false
set_option linter.unusedSectionVars false
namespace Go.AM.Tb
def IsSh (l : List Int) : Prop := ∀ j : Nat, j < l.length → 1 ≤ getI l (j : Int) ∧ (0 < j → getI l (j : Int) ≤ getI l ((j - 1 : Nat) : Int))
instance (l : List Int) : Decidable (IsSh l) := by unfold IsSh; exact inferInstance
def lam (l : List Int) (i : Nat) : Nat := (getI l (i : Int)).toNat
theorem getI_out {l : List Int} {i : Nat} (h : l.length ≤ i) : getI l (i : Int) = 0 := by rw [getI_nat]; simp [List.getD, h]
theorem lam_out {l : List Int} {i : Nat} (h : l.length ≤ i) : lam l i = 0 := by unfold lam; rw [getI_out h]; rfl
theorem IsSh.mono {l : List Int} (h : IsSh l) : ∀ m, Mono (lam l) m := by
  have key : ∀ d i, lam l (i + d) ≤ lam l i := by
    intro d
    induction d with
    | zero => intro i; exact Nat.le_refl _
    | succ d ih =>
      intro i
      refine Nat.le_trans ?_ (ih i)
      rcases Nat.lt_or_ge (i + (d + 1)) l.length with h1 | h1
      · have := (h (i + (d + 1)) h1).2 (by omega)
        rw [show i + (d + 1) - 1 = i + d by omega] at this
        unfold lam; omega
      · rw [lam_out h1]; omega
  intro m i j hij _
  have := key (j - i) i
  rwa [show i + (j - i) = j by omega] at this
end Go.AM.Tb
