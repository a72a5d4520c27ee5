/- A part of the proof: T12. -/
import Derived.Test.YtdgkchedoooffaaT9
set_option linter.unusedVariables false
set_option linter.unusedSimpArgs false
set_option linter.unusedSectionVars false
namespace Go.AM.Tb
set_option maxHeartbeats 4000000
theorem take_snoc {P : List (List Int)} {i : Nat} (h : i < P.length) : P.take (i + 1) = P.take i ++ [getLL P (i : Int)] := by
  rw [List.take_succ_eq_append_getElem h, getLL_get h]
end Go.AM.Tb
