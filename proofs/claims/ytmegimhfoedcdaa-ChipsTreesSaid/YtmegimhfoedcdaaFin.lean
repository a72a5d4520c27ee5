/- ChipsTrees: the number of spanning trees is the number without an edge plus the number with its ends merged; a single circle has as many trees as edges, and its genus is 1. No condition beyond the statement's own. -/
import Derived.Test.YtmegimhfoedcdaaRow
import Derived.Test.YtmegimhfoedcdaaJ11
set_option linter.unusedVariables false
set_option linter.unusedSimpArgs false
set_option linter.unusedSectionVars false
namespace Go.Proofs.Ytmegimhfoedcdaa
open Go.AM Go.AM.Ch
theorem chipsTrees_pure : Go.AM.Ch.chipsTrees.Pure := by
  intro x0 h0
  obtain ⟨b, hb, hbl⟩ := arg_rowsB h0
  exact f11 hb hbl
theorem chipsTrees_holds : Rows.ChipsTreesSaid := Go.AM.Ch.chipsTrees.over chipsTrees_pure
end Go.Proofs.Ytmegimhfoedcdaa
