/- TableauInverse: the tableaux of the inverse of a permutation are those of the permutation, swapped. No condition beyond the statement's own. -/
import Derived.Test.YtdgkchedoooffaaRow
import Derived.Test.YtdgkchedoooffaaT36
set_option linter.unusedVariables false
set_option linter.unusedSimpArgs false
set_option linter.unusedSectionVars false
namespace Go.Proofs.Ytdgkchedoooffaa
open Go.AM Go.AM.Tb
theorem tableauInverse_pure : Go.AM.Tb.tableauInverse.Pure := by
  intro x0 h0
  obtain ⟨l, hl⟩ := arg_ints h0
  exact f6 hl
theorem tableauInverse_holds : Rows.TableauInverseSaid := Go.AM.Tb.tableauInverse.over tableauInverse_pure
end Go.Proofs.Ytdgkchedoooffaa
