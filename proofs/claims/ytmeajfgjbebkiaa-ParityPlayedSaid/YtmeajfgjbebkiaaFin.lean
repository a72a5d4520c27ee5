/- ParityPlayed: if the winner of a position follows the moves of an outcome, and the other player any plan, the winner wins the play. No condition beyond the statement's own. -/
import Derived.Test.YtmeajfgjbebkiaaRow
import Derived.Test.YtmeajfgjbebkiaaQ13
import Derived.Test.YtmeajfgjbebkiaaQ38
namespace Go.Proofs.Ytmeajfgjbebkiaa
open Go.AM Go.AM.Pa
theorem parityPlayed_pure : Go.AM.Pa.parityPlayed.Pure := by
  intro x0 x1 x2 h0 h1 h2
  obtain ⟨g, hg⟩ := arg_game h0
  obtain ⟨p, rfl, -⟩ := arg_int h1
  obtain ⟨l, hl⟩ := arg_ints h2
  exact f7 hg hl
theorem parityPlayed_holds : Rows.ParityPlayedSaid := Go.AM.Pa.parityPlayed.over parityPlayed_pure
end Go.Proofs.Ytmeajfgjbebkiaa
