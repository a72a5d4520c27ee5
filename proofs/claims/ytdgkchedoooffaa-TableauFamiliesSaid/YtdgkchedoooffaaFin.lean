/- TableauFamilies: for any word and any number of chains, Family returns a correct family, and Check accepts it; for any other input both return ErrArg. No condition beyond the statement's own. -/
import Derived.Test.YtdgkchedoooffaaRow
import Derived.Test.YtdgkchedoooffaaT68
set_option linter.unusedVariables false
set_option linter.unusedSimpArgs false
set_option linter.unusedSectionVars false
namespace Go.Proofs.Ytdgkchedoooffaa
open Go.AM Go.AM.Tb
theorem tableauFamilies_pure : Go.AM.Tb.tableauFamilies.Pure := by
  intro x0 x1 h0 h1
  obtain ⟨l, hl⟩ := arg_ints h0
  obtain ⟨k, rfl, -⟩ := arg_int h1
  exact f9 hl
theorem tableauFamilies_holds : Rows.TableauFamiliesSaid := Go.AM.Tb.tableauFamilies.over tableauFamilies_pure
end Go.Proofs.Ytdgkchedoooffaa
