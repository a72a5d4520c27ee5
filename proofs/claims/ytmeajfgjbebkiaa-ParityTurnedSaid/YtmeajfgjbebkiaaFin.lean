/- ParityTurned: the winners of the turned game are the other players, with the same moves. No condition beyond the statement's own. -/
import Derived.Test.YtmeajfgjbebkiaaRow
import Derived.Test.YtmeajfgjbebkiaaQ13
import Derived.Test.YtmeajfgjbebkiaaQ49
namespace Go.Proofs.Ytmeajfgjbebkiaa
open Go.AM Go.AM.Pa
theorem parityTurned_pure : Go.AM.Pa.parityTurned.Pure := by
  intro x0 h0
  obtain ⟨g, hg⟩ := arg_game h0
  exact f15 hg
theorem parityTurned_holds : Rows.ParityTurnedSaid := Go.AM.Pa.parityTurned.over parityTurned_pure
end Go.Proofs.Ytmeajfgjbebkiaa
