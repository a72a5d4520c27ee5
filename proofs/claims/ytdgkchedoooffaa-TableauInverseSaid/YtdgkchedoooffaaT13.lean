/- A part of the proof: T13. -/
import Derived.Test.YtdgkchedoooffaaT11
set_option linter.unusedVariables false
set_option linter.unusedSimpArgs false
set_option linter.unusedSectionVars false
namespace Go.AM.Tb
set_option maxHeartbeats 4000000
theorem c53 {x : AV} {w : List Int} (hx : IsL x w) (hw : w.length ≤ 61) {m : Nat} (hm : 2100 ≤ m) (H : Heap) : callPure (evF tab it m) true 53 [x] H = some (.tup [fzLL (pq w w.length).1, fzLL (pq w w.length).2], H) := by
  obtain ⟨v, R, e1, e2⟩ := f53 hx hw hm
  exact callPure_frz (by simp [idFreeL, hx.free]) (by simp) e1 e2
end Go.AM.Tb
