/- PrimeJoins: the factorization of a product combines the factorizations of both factors. No condition beyond the statement's own. -/
import Derived.Test.YtbjkmejlecoebaaRow
import Derived.Test.YtbjkmejlecoebaaS11
namespace Go.Proofs.Ytbjkmejlecoebaa
open Go.AM Go.AM.Pr
theorem primeJoins_pure : Go.AM.Pr.primeJoins.Pure := by
  intro x0 x1 h0 h1
  obtain ⟨a, rfl, _⟩ := arg_int h0
  obtain ⟨b, rfl, _⟩ := arg_int h1
  exact f7
theorem primeJoins_holds : Rows.PrimeJoinsSaid := Go.AM.Pr.primeJoins.over primeJoins_pure
end Go.Proofs.Ytbjkmejlecoebaa
