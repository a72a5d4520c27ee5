/- ChipsPeriods: a state multiplied by its period is equal in value to zeros, and the states multiplied by smaller numbers are not. No condition beyond the statement's own. -/
import Derived.Test.YtmegimhfoedcdaaRow
import Derived.Test.YtmegimhfoedcdaaE15
namespace Go.Proofs.Ytmegimhfoedcdaa
open Go.AM Go.AM.Ch
theorem chipsPeriods_pure : Go.AM.Ch.chipsPeriods.Pure := by
  intro x0 x1 h0 h1
  obtain ⟨b, hb, hbl⟩ := arg_rowsB h0
  obtain ⟨s, hs⟩ := arg_ints h1
  exact f6 hb hbl hs
theorem chipsPeriods_holds : Rows.ChipsPeriodsSaid := Go.AM.Ch.chipsPeriods.over chipsPeriods_pure
end Go.Proofs.Ytmegimhfoedcdaa
