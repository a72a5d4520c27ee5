/- TableauCorners: the number of standard tableaux of a shape is the sum of the numbers for the shapes with one box less, and the transposed shape has the same number. No condition beyond the statement's own. -/
import Derived.Test.YtdgkchedoooffaaRow
import Derived.Test.YtdgkchedoooffaaT34
set_option linter.unusedVariables false
set_option linter.unusedSimpArgs false
set_option linter.unusedSectionVars false
namespace Go.Proofs.Ytdgkchedoooffaa
open Go.AM Go.AM.Tb
theorem tableauCorners_pure : Go.AM.Tb.tableauCorners.Pure := by
  intro x0 h0
  obtain ⟨l, hl⟩ := arg_ints h0
  exact f8 hl
theorem tableauCorners_holds : Rows.TableauCornersSaid := Go.AM.Tb.tableauCorners.over tableauCorners_pure
end Go.Proofs.Ytdgkchedoooffaa
