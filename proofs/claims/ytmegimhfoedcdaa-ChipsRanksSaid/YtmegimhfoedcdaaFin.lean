/- ChipsRanks: for any board and state, Rank returns the rank, or the specified error; Canonical returns the canonical state and the genus, or ErrArg. No condition beyond the statement's own. -/
import Derived.Test.YtmegimhfoedcdaaRow
import Derived.Test.YtmegimhfoedcdaaU68
namespace Go.Proofs.Ytmegimhfoedcdaa
open Go.AM Go.AM.Ch
theorem chipsRanks_pure : Go.AM.Ch.chipsRanks.Pure := by
  intro x0 x1 h0 h1
  obtain ⟨b, hb, hbl⟩ := arg_rowsB h0
  obtain ⟨s, hs⟩ := arg_ints h1
  exact f9 hb hs
theorem chipsRanks_holds : Rows.ChipsRanksSaid := Go.AM.Ch.chipsRanks.over chipsRanks_pure
end Go.Proofs.Ytmegimhfoedcdaa
