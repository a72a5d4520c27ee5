/- ChipsApplies: for any board, state and script, Apply returns the numbers after applying the script, or ErrArg. No condition beyond the statement's own. -/
import Derived.Test.YtmegimhfoedcdaaRow
import Derived.Test.YtmegimhfoedcdaaU18
namespace Go.Proofs.Ytmegimhfoedcdaa
open Go.AM Go.AM.Ch
theorem chipsApplies_pure : Go.AM.Ch.chipsApplies.Pure := by
  intro x0 x1 x2 h0 h1 h2
  obtain ⟨b, hb⟩ := arg_rows h0
  obtain ⟨s, hs⟩ := arg_ints h1
  obtain ⟨t, ht⟩ := arg_ints h2
  exact f7 hb hs ht
theorem chipsApplies_holds : Rows.ChipsAppliesSaid := Go.AM.Ch.chipsApplies.over chipsApplies_pure
end Go.Proofs.Ytmegimhfoedcdaa
