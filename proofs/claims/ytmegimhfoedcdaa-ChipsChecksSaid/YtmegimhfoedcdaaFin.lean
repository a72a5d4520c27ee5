/- ChipsChecks: Check returns OK exactly for the correct winnings of a board and a state, and ErrAnswer for any other winning. No condition beyond the statement's own. -/
import Derived.Test.YtmegimhfoedcdaaRow
import Derived.Test.YtmegimhfoedcdaaU23
namespace Go.Proofs.Ytmegimhfoedcdaa
open Go.AM Go.AM.Ch
theorem chipsChecks_pure : Go.AM.Ch.chipsChecks.Pure := by
  intro x0 x1 x2 h0 h1 h2
  obtain ⟨b, hb⟩ := arg_rows h0
  obtain ⟨s, hs⟩ := arg_ints h1
  obtain ⟨won, fv, ov, F, O, rfl, hF, hO⟩ := arg_winning h2
  exact f16 hb hs hF hO
theorem chipsChecks_holds : Rows.ChipsChecksSaid := Go.AM.Ch.chipsChecks.over chipsChecks_pure
end Go.Proofs.Ytmegimhfoedcdaa
