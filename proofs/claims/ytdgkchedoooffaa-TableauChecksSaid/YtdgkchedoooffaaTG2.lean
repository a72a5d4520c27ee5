/- A part of the proof: TG2. -/
import Derived.Test.YtdgkchedoooffaaTG1
set_option linter.unusedVariables false
set_option linter.unusedSimpArgs false
set_option linter.unusedSectionVars false
namespace Go.AM.Tb
def Srt (r : List Int) : Prop := r.Pairwise (· ≤ ·)
def Col (r s : List Int) : Prop := s.length ≤ r.length ∧ ∀ i (h : i < s.length) (h' : i < r.length), r[i] < s[i]
def Cch : List Int → List (List Int) → Prop
  | _, [] => True
  | r, s :: R => Col r s ∧ Cch s R
def Tab : List (List Int) → Prop
  | [] => True
  | r :: R => (∀ s ∈ r :: R, Srt s ∧ s ≠ []) ∧ Cch r R
theorem Tab.rows {P} (h : Tab P) : ∀ s ∈ P, Srt s ∧ s ≠ [] := by
  cases P with
  | nil => simp
  | cons r R => exact h.1
theorem Col.trans {r s t} (h : Col r s) (g : Col s t) : Col r t := ⟨Nat.le_trans g.1 h.1, fun i h1 h2 => by have := h.2 i (by have := g.1; omega) h2; have := g.2 i h1 (by have := g.1; omega); omega⟩
end Go.AM.Tb
