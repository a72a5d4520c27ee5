/- PrimeFactors: for any number, Factor returns the prime factorization, or ErrArg. No condition beyond the statement's own. -/
import Derived.Test.YtbjkmejlecoebaaRow
import Derived.Test.YtbjkmejlecoebaaS9
namespace Go.Proofs.Ytbjkmejlecoebaa
open Go.AM Go.AM.Pr
theorem primeFactors_pure : Go.AM.Pr.primeFactors.Pure := by
  intro x0 h0
  obtain ⟨n, rfl, hw⟩ := arg_int h0
  exact f3 hw
theorem primeFactors_holds : Rows.PrimeFactorsSaid := Go.AM.Pr.primeFactors.over primeFactors_pure
end Go.Proofs.Ytbjkmejlecoebaa
