/- A part of the proof: U17. -/
import Derived.Test.YtmegimhfoedcdaaU16
import Derived.Test.YtmegimhfoedcdaaM3
set_option linter.unusedSectionVars false
set_option linter.unusedVariables false
set_option linter.unusedSimpArgs false
namespace Go.AM.Ch
set_option maxHeartbeats 8000000
theorem c23 {x : AV} {b : List (List Int)} (hx : IsLL x b) (hl : b.length < 100) {m : Nat} (hm : 2100 ≤ m) (H : Heap) : callPure (evF tab it m) true 23 [x] H = some (.bool (decide (IsB b)), H) :=
  callPure_free (by simp [idFreeL, hx.free]) (by simp) (f23 hx hl hm) rfl
theorem b12_idem (b : List (List Int)) : b12 (b12 b) = b12 b := by
  unfold b12
  rw [← List.map_take, List.take_take, List.map_map]
  simp only [Nat.min_self]
  congr 1
  funext l
  simp [List.take_take]
theorem c25 (H : Heap) : callPure (evF tab it 60000) true 25 [] H = some (.bool true, H) := callPure_free rfl (by simp) awake rfl
theorem awakeN {m : Nat} (hm : 60000 ≤ m) (H : Heap) : callPure (evF tab it m) true 25 [] H = some (.bool true, H) :=
  callPure_free rfl (by simp) (evF_mono hm _ _ _ _ awake) rfl
end Go.AM.Ch
