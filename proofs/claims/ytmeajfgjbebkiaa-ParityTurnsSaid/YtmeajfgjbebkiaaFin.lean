/- ParityTurns: for any game, Turn swaps the players and increases all ranks by 1, or returns ErrArg. No condition beyond the statement's own. -/
import Derived.Test.YtmeajfgjbebkiaaRow
import Derived.Test.YtmeajfgjbebkiaaQ13
import Derived.Test.YtmeajfgjbebkiaaQ15
namespace Go.Proofs.Ytmeajfgjbebkiaa
open Go.AM Go.AM.Pa
theorem parityTurns_pure : Go.AM.Pa.parityTurns.Pure := by
  intro x0 h0
  obtain ⟨g, hg⟩ := arg_game h0
  exact f8 hg
theorem parityTurns_holds : Rows.ParityTurnsSaid := Go.AM.Pa.parityTurns.over parityTurns_pure
end Go.Proofs.Ytmeajfgjbebkiaa
