/- A part of the proof: T9. -/
import Derived.Test.YtdgkchedoooffaaT7
import Derived.Test.YtdgkchedoooffaaTG2
set_option linter.unusedVariables false
set_option linter.unusedSimpArgs false
set_option linter.unusedSectionVars false
namespace Go.AM.Tb
set_option maxHeartbeats 4000000
section
variable {call : CallF} {it : IterF} {n k : Nat} {X : Nat → KT} {K Rt : KT} {env : Env} {H : Heap} {res : R} {c : AC} {G : R → Prop}
end
theorem getLL_get {P : List (List Int)} {k : Nat} (h : k < P.length) : getLL P (k : Int) = P[k] := by rw [getLL_nat]; simp [List.getD, h]
end Go.AM.Tb
