/- PrimeRests: the result of Common has all remainders and is less than the least common multiple, and the remainders of one number lead back to that number. No condition beyond the statement's own. -/
import Derived.Test.YtbjkmejlecoebaaRow
import Derived.Test.YtbjkmejlecoebaaS22
namespace Go.Proofs.Ytbjkmejlecoebaa
open Go.AM Go.AM.Pr
theorem primeRests_pure : Go.AM.Pr.primeRests.Pure := by
  intro x0 x1 h0 h1
  obtain ⟨a, rfl, _⟩ := arg_int h0
  obtain ⟨b, hb⟩ := arg_ints h1
  exact f8 hb
theorem primeRests_holds : Rows.PrimeRestsSaid := Go.AM.Pr.primeRests.over primeRests_pure
end Go.Proofs.Ytbjkmejlecoebaa
