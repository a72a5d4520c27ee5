/- ParityRegions: the attractor of what a player wins is itself, attractors are idempotent and monotone, and the other player can leave no position of an attractor outside. No condition beyond the statement's own. -/
import Derived.Test.YtmeajfgjbebkiaaRow
import Derived.Test.YtmeajfgjbebkiaaQ13
import Derived.Test.YtmeajfgjbebkiaaQ33
namespace Go.Proofs.Ytmeajfgjbebkiaa
open Go.AM Go.AM.Pa
theorem parityRegions_pure : Go.AM.Pa.parityRegions.Pure := by
  intro x0 x1 h0 h1
  obtain ⟨g, hg⟩ := arg_game h0
  obtain ⟨l, hl, hb⟩ := arg_intsB h1
  exact f5 hg hl hb
theorem parityRegions_holds : Rows.ParityRegionsSaid := Go.AM.Pa.parityRegions.over parityRegions_pure
end Go.Proofs.Ytmeajfgjbebkiaa
