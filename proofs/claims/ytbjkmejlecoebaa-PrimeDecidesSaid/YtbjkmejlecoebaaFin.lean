/- PrimeDecides: for any number, Decide returns a correct verdict, and Check accepts it; for any other int both return ErrArg. No condition beyond the statement's own. -/
import Derived.Test.YtbjkmejlecoebaaRow
import Derived.Test.YtbjkmejlecoebaaS48
namespace Go.Proofs.Ytbjkmejlecoebaa
open Go.AM Go.AM.Pr
theorem primeDecides_pure : Go.AM.Pr.primeDecides.Pure := by
  intro x0 h0
  obtain ⟨n, rfl, _⟩ := arg_int h0
  exact f13
theorem primeDecides_holds : Rows.PrimeDecidesSaid := Go.AM.Pr.primeDecides.over primeDecides_pure
end Go.Proofs.Ytbjkmejlecoebaa
