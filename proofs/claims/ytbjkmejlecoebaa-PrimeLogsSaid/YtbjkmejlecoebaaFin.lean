/- PrimeLogs: for any prime, Log returns the minimum exponent, ErrNone exactly if there is no such exponent, or ErrArg. No condition beyond the statement's own. -/
import Derived.Test.YtbjkmejlecoebaaRow
import Derived.Test.YtbjkmejlecoebaaS29
namespace Go.Proofs.Ytbjkmejlecoebaa
open Go.AM Go.AM.Pr
theorem primeLogs_pure : Go.AM.Pr.primeLogs.Pure := by
  intro x0 x1 x2 h0 h1 h2
  obtain ⟨a, rfl, _⟩ := arg_int h0
  obtain ⟨b, rfl, _⟩ := arg_int h1
  obtain ⟨c, rfl, _⟩ := arg_int h2
  exact f5
theorem primeLogs_holds : Rows.PrimeLogsSaid := Go.AM.Pr.primeLogs.over primeLogs_pure
end Go.Proofs.Ytbjkmejlecoebaa
