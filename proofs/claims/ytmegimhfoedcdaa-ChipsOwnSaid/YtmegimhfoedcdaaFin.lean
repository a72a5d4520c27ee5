/- ChipsOwn: results are new memory, and Reduce, Win and Canonical do not change their arguments. No condition beyond the statement's own. -/
import Derived.Test.YtmegimhfoedcdaaRow
import Derived.Test.YtmegimhfoedcdaaU62
namespace Go.Proofs.Ytmegimhfoedcdaa
open Go.AM Go.AM.Ch
theorem chipsOwn_pure : Go.AM.Ch.chipsOwn.Pure := by
  intro x0 x1 h0 h1
  obtain ⟨b, hb, hbl⟩ := arg_rowsB h0
  obtain ⟨s, hs⟩ := arg_ints h1
  exact f12 hb hbl hs
theorem chipsOwn_holds : Rows.ChipsOwnSaid := Go.AM.Ch.chipsOwn.over chipsOwn_pure
end Go.Proofs.Ytmegimhfoedcdaa
