/- ChipsOnce: no state has correct winnings of both kinds: Check returns ErrAnswer for every winning of the kind that Win did not return; a state whose sum is at least the genus is won, and a state with a negative sum is not. No condition beyond the statement's own. -/
import Derived.Test.YtmegimhfoedcdaaRow
import Derived.Test.YtmegimhfoedcdaaU55
namespace Go.Proofs.Ytmegimhfoedcdaa
open Go.AM Go.AM.Ch
theorem chipsOnce_pure : Go.AM.Ch.chipsOnce.Pure := by
  intro x0 x1 x2 h0 h1 h2
  obtain ⟨b, hb, hbl⟩ := arg_rowsB h0
  obtain ⟨s, hs⟩ := arg_ints h1
  obtain ⟨won, fv, ov, F, O, rfl, hF, hO⟩ := arg_winning h2
  exact f17 hb hbl hs hF hO
theorem chipsOnce_holds : Rows.ChipsOnceSaid := Go.AM.Ch.chipsOnce.over chipsOnce_pure
end Go.Proofs.Ytmegimhfoedcdaa
