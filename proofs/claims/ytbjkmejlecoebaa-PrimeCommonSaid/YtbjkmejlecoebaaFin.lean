/- PrimeCommon: for any remainders and moduli, Common returns the minimum common number and the least common multiple, or the specified error; both lists stay as they are. No condition beyond the statement's own. -/
import Derived.Test.YtbjkmejlecoebaaRow
import Derived.Test.YtbjkmejlecoebaaS20
namespace Go.Proofs.Ytbjkmejlecoebaa
open Go.AM Go.AM.Pr
theorem primeCommon_pure : Go.AM.Pr.primeCommon.Pure := by
  intro x0 x1 h0 h1
  obtain ⟨a, ha⟩ := arg_ints h0
  obtain ⟨b, hb⟩ := arg_ints h1
  exact f6 ha hb
theorem primeCommon_holds : Rows.PrimeCommonSaid := Go.AM.Pr.primeCommon.over primeCommon_pure
end Go.Proofs.Ytbjkmejlecoebaa
