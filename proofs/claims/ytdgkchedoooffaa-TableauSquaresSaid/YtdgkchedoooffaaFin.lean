/- TableauSquares: the squares of the numbers of standard tableaux of all shapes with n boxes add up to the factorial of n. No condition beyond the statement's own. -/
import Derived.Test.YtdgkchedoooffaaRow
import Derived.Test.YtdgkchedoooffaaT32
set_option linter.unusedVariables false
set_option linter.unusedSimpArgs false
set_option linter.unusedSectionVars false
namespace Go.Proofs.Ytdgkchedoooffaa
open Go.AM Go.AM.Tb
theorem tableauSquares_pure : Go.AM.Tb.tableauSquares.Pure := by
  intro x0 h0
  obtain ⟨k, rfl, -⟩ := arg_int h0
  exact f7
theorem tableauSquares_holds : Rows.TableauSquaresSaid := Go.AM.Tb.tableauSquares.over tableauSquares_pure
end Go.Proofs.Ytdgkchedoooffaa
