/- PrimeRoots: for any prime, Root returns the minimum square root, ErrNone exactly if there is no square root, or ErrArg. No condition beyond the statement's own. -/
import Derived.Test.YtbjkmejlecoebaaRow
import Derived.Test.YtbjkmejlecoebaaS27
namespace Go.Proofs.Ytbjkmejlecoebaa
open Go.AM Go.AM.Pr
theorem primeRoots_pure : Go.AM.Pr.primeRoots.Pure := by
  intro x0 x1 h0 h1
  obtain ⟨a, rfl, _⟩ := arg_int h0
  obtain ⟨b, rfl, _⟩ := arg_int h1
  exact f4
theorem primeRoots_holds : Rows.PrimeRootsSaid := Go.AM.Pr.primeRoots.over primeRoots_pure
end Go.Proofs.Ytbjkmejlecoebaa
