/- ParitySolves: for any game, Solve returns a correct outcome with the unique winners, and Check accepts it; for any other input both return ErrArg. No condition beyond the statement's own. -/
import Derived.Test.YtmeajfgjbebkiaaRow
import Derived.Test.YtmeajfgjbebkiaaQ13
import Derived.Test.YtmeajfgjbebkiaaQ56
namespace Go.Proofs.Ytmeajfgjbebkiaa
open Go.AM Go.AM.Pa
theorem paritySolves_pure : Go.AM.Pa.paritySolves.Pure := by
  intro x0 h0
  obtain ⟨g, hg⟩ := arg_game h0
  exact f12 hg
theorem paritySolves_holds : Rows.ParitySolvesSaid := Go.AM.Pa.paritySolves.over paritySolves_pure
end Go.Proofs.Ytmeajfgjbebkiaa
