/- PrimeGroup: powers add their exponents, logarithms to a generator map products to sums modulo p - 1, orders divide p - 1, and a root of a square is one of its two roots. No condition beyond the statement's own. -/
import Derived.Test.YtbjkmejlecoebaaRow
import Derived.Test.YtbjkmejlecoebaaS30
namespace Go.Proofs.Ytbjkmejlecoebaa
open Go.AM Go.AM.Pr
theorem primeGroup_pure : Go.AM.Pr.primeGroup.Pure := by
  intro x0 x1 x2 h0 h1 h2
  obtain ⟨a, rfl, _⟩ := arg_int h0
  obtain ⟨b, rfl, _⟩ := arg_int h1
  obtain ⟨c, rfl, _⟩ := arg_int h2
  exact f12
theorem primeGroup_holds : Rows.PrimeGroupSaid := Go.AM.Pr.primeGroup.over primeGroup_pure
end Go.Proofs.Ytbjkmejlecoebaa
