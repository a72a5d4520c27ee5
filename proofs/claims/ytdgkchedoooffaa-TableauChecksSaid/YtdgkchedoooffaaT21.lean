/- A part of the proof: T21. -/
import Derived.Test.YtdgkchedoooffaaT6
import Derived.Test.YtdgkchedoooffaaTC4
set_option linter.unusedVariables false
set_option linter.unusedSimpArgs false
set_option linter.unusedSectionVars false
namespace Go.AM.Tb
set_option maxHeartbeats 4000000
theorem pred_i {i : Nat} (h : 0 < i) : ((i - 1 : Nat) : Int) = (i : Int) - 1 := by omega
end Go.AM.Tb
