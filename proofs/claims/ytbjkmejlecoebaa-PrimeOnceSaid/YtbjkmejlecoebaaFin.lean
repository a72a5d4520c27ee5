/- PrimeOnce: no number has correct verdicts of both kinds: Check returns ErrAnswer for every verdict of the kind that Decide did not return. No condition beyond the statement's own. -/
import Derived.Test.YtbjkmejlecoebaaRow
import Derived.Test.YtbjkmejlecoebaaS49
namespace Go.Proofs.Ytbjkmejlecoebaa
open Go.AM Go.AM.Pr
theorem primeOnce_pure : Go.AM.Pr.primeOnce.Pure := by
  intro x0 x1 h0 h1
  obtain ⟨n, rfl, _⟩ := arg_int h0
  obtain ⟨d, pv, l, rfl, hv⟩ := arg_verdict h1
  exact f15 hv
theorem primeOnce_holds : Rows.PrimeOnceSaid := Go.AM.Pr.primeOnce.over primeOnce_pure
end Go.Proofs.Ytbjkmejlecoebaa
