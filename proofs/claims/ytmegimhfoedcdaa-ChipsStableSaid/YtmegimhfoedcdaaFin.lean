/- ChipsStable: after settling every place other than the given one has fewer chips than edges, the counts are a script that leads to the result, and settling in two portions leads to the same numbers. No condition beyond the statement's own. -/
import Derived.Test.YtmegimhfoedcdaaRow
import Derived.Test.YtmegimhfoedcdaaU59
namespace Go.Proofs.Ytmegimhfoedcdaa
open Go.AM Go.AM.Ch
theorem chipsStable_pure : Go.AM.Ch.chipsStable.Pure := by
  intro x0 x1 x2 h0 h1 h2
  obtain ⟨b, hb, hbl⟩ := arg_rowsB h0
  obtain ⟨s, hs⟩ := arg_ints h1
  obtain ⟨q, rfl, _⟩ := arg_int h2
  exact f14 hb hbl hs
theorem chipsStable_holds : Rows.ChipsStableSaid := Go.AM.Ch.chipsStable.over chipsStable_pure
end Go.Proofs.Ytmegimhfoedcdaa
