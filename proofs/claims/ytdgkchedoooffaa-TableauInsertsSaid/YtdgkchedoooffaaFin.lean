/- TableauInserts: for any word, Insert returns the pair of tableaux, or ErrArg. No condition beyond the statement's own. -/
import Derived.Test.YtdgkchedoooffaaRow
import Derived.Test.YtdgkchedoooffaaT16
set_option linter.unusedVariables false
set_option linter.unusedSimpArgs false
set_option linter.unusedSectionVars false
namespace Go.Proofs.Ytdgkchedoooffaa
open Go.AM Go.AM.Tb
theorem tableauInserts_pure : Go.AM.Tb.tableauInserts.Pure := by
  intro x0 h0
  obtain ⟨l, hl⟩ := arg_ints h0
  exact f3 hl
theorem tableauInserts_holds : Rows.TableauInsertsSaid := Go.AM.Tb.tableauInserts.over tableauInserts_pure
end Go.Proofs.Ytdgkchedoooffaa
