/- ParityOnce: the winners are unique: an outcome with the winners of any positions changed is not correct. No condition beyond the statement's own. -/
import Derived.Test.YtmeajfgjbebkiaaRow
import Derived.Test.YtmeajfgjbebkiaaQ13
import Derived.Test.YtmeajfgjbebkiaaQ50
namespace Go.Proofs.Ytmeajfgjbebkiaa
open Go.AM Go.AM.Pa
theorem parityOnce_pure : Go.AM.Pa.parityOnce.Pure := by
  intro x0 x1 x2 h0 h1 h2
  obtain ⟨g, hg⟩ := arg_game h0
  obtain ⟨p, rfl, -⟩ := arg_int h1
  obtain ⟨l, hl⟩ := arg_ints h2
  exact f14 hg hl
theorem parityOnce_holds : Rows.ParityOnceSaid := Go.AM.Pa.parityOnce.over parityOnce_pure
end Go.Proofs.Ytmeajfgjbebkiaa
