/- ParityPlays: for any game, position and plan, Play returns both parts of the play and the winner, or ErrArg. No condition beyond the statement's own. -/
import Derived.Test.YtmeajfgjbebkiaaRow
import Derived.Test.YtmeajfgjbebkiaaQ13
import Derived.Test.YtmeajfgjbebkiaaQ19
namespace Go.Proofs.Ytmeajfgjbebkiaa
open Go.AM Go.AM.Pa
theorem parityPlays_pure : Go.AM.Pa.parityPlays.Pure := by
  intro x0 x1 x2 h0 h1 h2
  obtain ⟨g, hg⟩ := arg_game h0
  obtain ⟨p, rfl, -⟩ := arg_int h1
  obtain ⟨l, hl⟩ := arg_ints h2
  exact f4 hg hl
theorem parityPlays_holds : Rows.ParityPlaysSaid := Go.AM.Pa.parityPlays.over parityPlays_pure
end Go.Proofs.Ytmeajfgjbebkiaa
