/- ParityBeats: for any game, player and plan, Beats returns the positions from which the plan wins, or ErrArg. No condition beyond the statement's own. -/
import Derived.Test.YtmeajfgjbebkiaaRow
import Derived.Test.YtmeajfgjbebkiaaQ13
import Derived.Test.YtmeajfgjbebkiaaQ44
namespace Go.Proofs.Ytmeajfgjbebkiaa
open Go.AM Go.AM.Pa
theorem parityBeats_pure : Go.AM.Pa.parityBeats.Pure := by
  intro x0 x1 x2 h0 h1 h2
  obtain ⟨g, hg⟩ := arg_game h0
  obtain ⟨p, rfl, -⟩ := arg_int h1
  obtain ⟨l, hl⟩ := arg_ints h2
  exact f10 hg hl
theorem parityBeats_holds : Rows.ParityBeatsSaid := Go.AM.Pa.parityBeats.over parityBeats_pure
end Go.Proofs.Ytmeajfgjbebkiaa
