/- ParityOwn: results are new memory, and Solve, Turn and Attract do not change their arguments. No condition beyond the statement's own. -/
import Derived.Test.YtmeajfgjbebkiaaRow
import Derived.Test.YtmeajfgjbebkiaaQ13
import Derived.Test.YtmeajfgjbebkiaaQ57
namespace Go.Proofs.Ytmeajfgjbebkiaa
open Go.AM Go.AM.Pa
theorem parityOwn_pure : Go.AM.Pa.parityOwn.Pure := by
  intro x0 h0
  obtain ⟨g, hg⟩ := arg_game h0
  exact f9 hg
theorem parityOwn_holds : Rows.ParityOwnSaid := Go.AM.Pa.parityOwn.over parityOwn_pure
end Go.Proofs.Ytmeajfgjbebkiaa
