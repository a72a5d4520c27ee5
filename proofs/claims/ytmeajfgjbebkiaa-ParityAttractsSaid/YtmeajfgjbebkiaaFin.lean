/- ParityAttracts: for any game, player and set, Attract returns the attractor, or ErrArg. No condition beyond the statement's own. -/
import Derived.Test.YtmeajfgjbebkiaaRow
import Derived.Test.YtmeajfgjbebkiaaQ13
namespace Go.Proofs.Ytmeajfgjbebkiaa
open Go.AM Go.AM.Pa
theorem parityAttracts_pure : Go.AM.Pa.parityAttracts.Pure := by
  intro x0 x1 x2 h0 h1 h2
  obtain ⟨g, hg⟩ := arg_game h0
  obtain ⟨p, rfl, -⟩ := arg_int h1
  obtain ⟨l, hl⟩ := arg_ints h2
  exact f3 hg hl fun hgood hasc _ => attr_eq hgood rfl hasc
theorem parityAttracts_holds : Rows.ParityAttractsSaid := Go.AM.Pa.parityAttracts.over parityAttracts_pure
end Go.Proofs.Ytmeajfgjbebkiaa
