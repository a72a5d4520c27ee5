/- PrimeChecks: Check returns OK exactly for the correct verdicts of a number, and ErrAnswer for any other verdict, which stays as it is. No condition beyond the statement's own. -/
import Derived.Test.YtbjkmejlecoebaaRow
import Derived.Test.YtbjkmejlecoebaaS38
namespace Go.Proofs.Ytbjkmejlecoebaa
open Go.AM Go.AM.Pr
theorem primeChecks_pure : Go.AM.Pr.primeChecks.Pure := by
  intro x0 x1 h0 h1
  obtain ⟨n, rfl, _⟩ := arg_int h0
  obtain ⟨d, pv, l, rfl, hv⟩ := arg_verdict h1
  exact f14 hv
theorem primeChecks_holds : Rows.PrimeChecksSaid := Go.AM.Pr.primeChecks.over primeChecks_pure
end Go.Proofs.Ytbjkmejlecoebaa
