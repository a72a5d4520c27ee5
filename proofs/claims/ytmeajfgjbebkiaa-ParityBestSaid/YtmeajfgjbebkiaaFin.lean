/- ParityBest: no plan beats more positions than its player wins, and the moves of a correct outcome, completed by any plan, beat all of them. No condition beyond the statement's own. -/
import Derived.Test.YtmeajfgjbebkiaaRow
import Derived.Test.YtmeajfgjbebkiaaQ13
import Derived.Test.YtmeajfgjbebkiaaQ45
namespace Go.Proofs.Ytmeajfgjbebkiaa
open Go.AM Go.AM.Pa
theorem parityBest_pure : Go.AM.Pa.parityBest.Pure := by
  intro x0 x1 h0 h1
  obtain ⟨g, hg⟩ := arg_game h0
  obtain ⟨l, hl⟩ := arg_ints h1
  exact f11 hg hl
theorem parityBest_holds : Rows.ParityBestSaid := Go.AM.Pa.parityBest.over parityBest_pure
end Go.Proofs.Ytmeajfgjbebkiaa
