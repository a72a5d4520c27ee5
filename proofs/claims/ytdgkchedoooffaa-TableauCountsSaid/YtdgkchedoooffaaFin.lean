/- TableauCounts: for any shape and any number, Count returns the number of standard tableaux, and Standard returns the one with this rank, or the specified error. No condition beyond the statement's own. -/
import Derived.Test.YtdgkchedoooffaaRow
import Derived.Test.YtdgkchedoooffaaT30
set_option linter.unusedVariables false
set_option linter.unusedSimpArgs false
set_option linter.unusedSectionVars false
namespace Go.Proofs.Ytdgkchedoooffaa
open Go.AM Go.AM.Tb
theorem tableauCounts_pure : Go.AM.Tb.tableauCounts.Pure := by
  intro x0 x1 h0 h1
  obtain ⟨l, hl⟩ := arg_ints h0
  obtain ⟨k, rfl, -⟩ := arg_int h1
  exact f4 hl
theorem tableauCounts_holds : Rows.TableauCountsSaid := Go.AM.Tb.tableauCounts.over tableauCounts_pure
end Go.Proofs.Ytdgkchedoooffaa
