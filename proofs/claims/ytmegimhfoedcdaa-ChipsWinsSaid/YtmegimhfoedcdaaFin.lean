/- ChipsWins: for any board and state, Win returns a correct winning, which is won exactly if all debts can be paid, and Check accepts it; for any other input both return ErrArg. No condition beyond the statement's own. -/
import Derived.Test.YtmegimhfoedcdaaRow
import Derived.Test.YtmegimhfoedcdaaU50
namespace Go.Proofs.Ytmegimhfoedcdaa
open Go.AM Go.AM.Ch
theorem chipsWins_pure : Go.AM.Ch.chipsWins.Pure := by
  intro x0 x1 h0 h1
  obtain ⟨b, hb⟩ := arg_rows h0
  obtain ⟨s, hs⟩ := arg_ints h1
  exact f15 hb hs
theorem chipsWins_holds : Rows.ChipsWinsSaid := Go.AM.Ch.chipsWins.over chipsWins_pure
end Go.Proofs.Ytmegimhfoedcdaa
