/- ChipsMoves: applying a script preserves the sum, scripts add up, a constant script changes nothing, and states that are equal in value have the same reduced list and are both won or both not won. No condition beyond the statement's own. -/
import Derived.Test.YtmegimhfoedcdaaRow
import Derived.Test.YtmegimhfoedcdaaU57
namespace Go.Proofs.Ytmegimhfoedcdaa
open Go.AM Go.AM.Ch
theorem chipsMoves_pure : Go.AM.Ch.chipsMoves.Pure := by
  intro x0 x1 x2 h0 h1 h2
  obtain ⟨b, hb, hbl⟩ := arg_rowsB h0
  obtain ⟨s, hs⟩ := arg_ints h1
  obtain ⟨t, ht⟩ := arg_ints h2
  exact f8 hb hbl hs ht
theorem chipsMoves_holds : Rows.ChipsMovesSaid := Go.AM.Ch.chipsMoves.over chipsMoves_pure
end Go.Proofs.Ytmegimhfoedcdaa
