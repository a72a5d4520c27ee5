/- TableauChecks: Check returns OK exactly for the correct families, and ErrAnswer for any other family. No condition beyond the statement's own. -/
import Derived.Test.YtdgkchedoooffaaRow
import Derived.Test.YtdgkchedoooffaaT42
set_option linter.unusedVariables false
set_option linter.unusedSimpArgs false
set_option linter.unusedSectionVars false
namespace Go.Proofs.Ytdgkchedoooffaa
open Go.AM Go.AM.Tb
theorem tableauChecks_pure : Go.AM.Tb.tableauChecks.Pure := by
  intro x0 x1 x2 h0 h1 h2
  obtain ⟨l, hl⟩ := arg_ints h0
  obtain ⟨k, rfl, -⟩ := arg_int h1
  obtain ⟨u, v, U, V, rfl, hu, hv⟩ := arg_family h2
  exact f10 hl hu hv
theorem tableauChecks_holds : Rows.TableauChecksSaid := Go.AM.Tb.tableauChecks.over tableauChecks_pure
end Go.Proofs.Ytdgkchedoooffaa
