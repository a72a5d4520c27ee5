/- A part of the proof: TC8. -/
import Derived.Test.YtdgkchedoooffaaTC6
set_option linter.unusedVariables false
set_option linter.unusedSimpArgs false
set_option linter.unusedSectionVars false
namespace Go.AM.Tb
theorem lam_nL (ns : List Nat) : lam (nL ns) = fun i => ns.getD i 0 := by
  funext i
  unfold lam
  rw [nL_get, Int.toNat_natCast]
theorem hN_pos {l : List Int} (h : IsSh l) : 0 < hN (lam l) l.length := by
  have := cnt_hook _ l h rfl
  have hp := facN_pos (siz l)
  exact Nat.pos_of_ne_zero fun e => by rw [e] at this; omega
theorem nL_append (a b : List Nat) : nL (a ++ b) = nL a ++ nL b := by simp [nL]
end Go.AM.Tb
