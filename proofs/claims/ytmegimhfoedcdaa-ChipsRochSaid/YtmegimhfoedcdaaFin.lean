/- ChipsRoch: the rank of a state minus the rank of the canonical state minus the state is the sum of the state plus 1 minus the genus. No condition beyond the statement's own. -/
import Derived.Test.YtmegimhfoedcdaaRow
import Derived.Test.YtmegimhfoedcdaaU71
namespace Go.Proofs.Ytmegimhfoedcdaa
open Go.AM Go.AM.Ch
theorem chipsRoch_pure : Go.AM.Ch.chipsRoch.Pure := by
  intro x0 x1 h0 h1
  obtain ⟨b, hb, hbl⟩ := arg_rowsB h0
  obtain ⟨s, hs⟩ := arg_ints h1
  exact f10 hb hbl hs
theorem chipsRoch_holds : Rows.ChipsRochSaid := Go.AM.Ch.chipsRoch.over chipsRoch_pure
end Go.Proofs.Ytmegimhfoedcdaa
