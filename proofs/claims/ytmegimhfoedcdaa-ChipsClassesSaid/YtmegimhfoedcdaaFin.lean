/- ChipsClasses: the number of reduced lists with a given sum is the number of spanning trees, and the period of every state divides it. No condition beyond the statement's own. -/
import Derived.Test.YtmegimhfoedcdaaRow
import Derived.Test.YtmegimhfoedcdaaJ3
set_option linter.unusedVariables false
set_option linter.unusedSimpArgs false
set_option linter.unusedSectionVars false
namespace Go.Proofs.Ytmegimhfoedcdaa
open Go.AM Go.AM.Ch
theorem chipsClasses_pure : Go.AM.Ch.chipsClasses.Pure := by
  intro x0 x1 h0 h1
  obtain ⟨b, hb, hbl⟩ := arg_rowsB h0
  obtain ⟨s, hs⟩ := arg_ints h1
  exact f5 hb hbl hs
theorem chipsClasses_holds : Rows.ChipsClassesSaid := Go.AM.Ch.chipsClasses.over chipsClasses_pure
end Go.Proofs.Ytmegimhfoedcdaa
