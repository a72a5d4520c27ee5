/- ChipsReduces: for any board, state and place, Reduce returns the reduced list and the script that leads to it, or ErrArg. No condition beyond the statement's own. -/
import Derived.Test.YtmegimhfoedcdaaRow
import Derived.Test.YtmegimhfoedcdaaU48
namespace Go.Proofs.Ytmegimhfoedcdaa
open Go.AM Go.AM.Ch
theorem chipsReduces_pure : Go.AM.Ch.chipsReduces.Pure := by
  intro x0 x1 x2 h0 h1 h2
  obtain ⟨b, hb⟩ := arg_rows h0
  obtain ⟨s, hs⟩ := arg_ints h1
  obtain ⟨q, rfl, _⟩ := arg_int h2
  exact f3 hb hs
theorem chipsReduces_holds : Rows.ChipsReducesSaid := Go.AM.Ch.chipsReduces.over chipsReduces_pure
end Go.Proofs.Ytmegimhfoedcdaa
