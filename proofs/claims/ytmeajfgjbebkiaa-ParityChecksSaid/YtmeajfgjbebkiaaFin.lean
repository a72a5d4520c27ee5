/- ParityChecks: Check returns OK exactly for the correct outcomes of a game, and ErrAnswer for any other outcome. No condition beyond the statement's own. -/
import Derived.Test.YtmeajfgjbebkiaaRow
import Derived.Test.YtmeajfgjbebkiaaQ13
import Derived.Test.YtmeajfgjbebkiaaQ52
namespace Go.Proofs.Ytmeajfgjbebkiaa
open Go.AM Go.AM.Pa
theorem parityChecks_pure : Go.AM.Pa.parityChecks.Pure := by
  intro x0 x1 h0 h1
  obtain ⟨g, hg⟩ := arg_game h0
  obtain ⟨w, m, W, M, rfl, hw, hm⟩ := arg_out h1
  exact f13 hg hw hm
theorem parityChecks_holds : Rows.ParityChecksSaid := Go.AM.Pa.parityChecks.over parityChecks_pure
end Go.Proofs.Ytmeajfgjbebkiaa
