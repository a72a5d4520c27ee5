/- ChipsSettles: for any board, state and place, Settle returns the numbers in the end and how often each place fired, or the specified error. No condition beyond the statement's own. -/
import Derived.Test.YtmegimhfoedcdaaRow
import Derived.Test.YtmegimhfoedcdaaU32
namespace Go.Proofs.Ytmegimhfoedcdaa
open Go.AM Go.AM.Ch
theorem chipsSettles_pure : Go.AM.Ch.chipsSettles.Pure := by
  intro x0 x1 x2 h0 h1 h2
  obtain ⟨b, hb⟩ := arg_rows h0
  obtain ⟨s, hs⟩ := arg_ints h1
  obtain ⟨q, rfl, _⟩ := arg_int h2
  exact f13 hb hs
theorem chipsSettles_holds : Rows.ChipsSettlesSaid := Go.AM.Ch.chipsSettles.over chipsSettles_pure
end Go.Proofs.Ytmegimhfoedcdaa
