/- ChipsNumbers: for any board and state, Trees returns the number of spanning trees, and Period returns the period, or the specified error. No condition beyond the statement's own. -/
import Derived.Test.YtmegimhfoedcdaaRow
import Derived.Test.YtmegimhfoedcdaaH6
set_option linter.unusedVariables false
set_option linter.unusedSimpArgs false
set_option linter.unusedSectionVars false
namespace Go.Proofs.Ytmegimhfoedcdaa
open Go.AM Go.AM.Ch
theorem chipsNumbers_pure : Go.AM.Ch.chipsNumbers.Pure := by
  intro x0 x1 h0 h1
  obtain ⟨b, hb, hbl⟩ := arg_rowsB h0
  obtain ⟨s, hs⟩ := arg_ints h1
  exact f4 hb hs
theorem chipsNumbers_holds : Rows.ChipsNumbersSaid := Go.AM.Ch.chipsNumbers.over chipsNumbers_pure
end Go.Proofs.Ytmegimhfoedcdaa
