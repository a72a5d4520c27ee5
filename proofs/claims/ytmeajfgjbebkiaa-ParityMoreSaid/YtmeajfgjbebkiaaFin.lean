/- ParityMore: an additional successor of a position never makes the owner of the position lose a position that it won. No condition beyond the statement's own. -/
import Derived.Test.YtmeajfgjbebkiaaRow
import Derived.Test.YtmeajfgjbebkiaaQ13
import Derived.Test.YtmeajfgjbebkiaaQ35
namespace Go.Proofs.Ytmeajfgjbebkiaa
open Go.AM Go.AM.Pa
theorem parityMore_pure : Go.AM.Pa.parityMore.Pure := by
  intro x0 x1 h0 h1
  obtain ⟨g, hg⟩ := arg_game h0
  obtain ⟨a, b, rfl⟩ := arg_two h1
  exact f6 hg
theorem parityMore_holds : Rows.ParityMoreSaid := Go.AM.Pa.parityMore.over parityMore_pure
end Go.Proofs.Ytmeajfgjbebkiaa
