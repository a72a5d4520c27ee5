/- PrimePowers: for any ints, Power, Inverse and Order return the specified values, or the specified errors. No condition beyond the statement's own. -/
import Derived.Test.YtbjkmejlecoebaaRow
import Derived.Test.YtbjkmejlecoebaaS15
namespace Go.Proofs.Ytbjkmejlecoebaa
open Go.AM Go.AM.Pr
theorem primePowers_pure : Go.AM.Pr.primePowers.Pure := by
  intro x0 x1 x2 h0 h1 h2
  obtain ⟨a, rfl, _⟩ := arg_int h0
  obtain ⟨b, rfl, hb⟩ := arg_int h1
  obtain ⟨c, rfl, _⟩ := arg_int h2
  exact f11 (wf_lt hb)
theorem primePowers_holds : Rows.PrimePowersSaid := Go.AM.Pr.primePowers.over primePowers_pure
end Go.Proofs.Ytbjkmejlecoebaa
