/- A part of the proof: TC5. -/
import Derived.Test.YtdgkchedoooffaaTC4
set_option linter.unusedVariables false
set_option linter.unusedSimpArgs false
set_option linter.unusedSectionVars false
namespace Go.AM.Tb
theorem sN_cons {f : Nat → Nat} : ∀ m, sN (m + 1) f = f 0 + sN m (fun j => f (j + 1))
  | 0 => by simp [sN]
  | m + 1 => by rw [sN, sN_cons m, sN]; omega
end Go.AM.Tb
