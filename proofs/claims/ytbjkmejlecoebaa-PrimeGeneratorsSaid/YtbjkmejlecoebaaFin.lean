/- PrimeGenerators: for any prime, Generator returns the minimum generator, or ErrArg. No condition beyond the statement's own. -/
import Derived.Test.YtbjkmejlecoebaaRow
import Derived.Test.YtbjkmejlecoebaaS25
namespace Go.Proofs.Ytbjkmejlecoebaa
open Go.AM Go.AM.Pr
theorem primeGenerators_pure : Go.AM.Pr.primeGenerators.Pure := by
  intro x0 h0
  obtain ⟨a, rfl, _⟩ := arg_int h0
  exact f10
theorem primeGenerators_holds : Rows.PrimeGeneratorsSaid := Go.AM.Pr.primeGenerators.over primeGenerators_pure
end Go.Proofs.Ytbjkmejlecoebaa
