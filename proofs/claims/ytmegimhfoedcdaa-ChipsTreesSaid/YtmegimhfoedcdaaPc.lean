/- The table whole, and the closed run. -/
import Derived.Test.YtmegimhfoedcdaaPb
set_option linter.unusedVariables false
set_option linter.unusedSimpArgs false
set_option linter.unusedSectionVars false
set_option maxRecDepth 100000
namespace Go.AM.Ch
open Go.Proofs
theorem tab_ok : TabOk Try.prog T tab := by
  intro f af h
  unfold tab at h
  split at h
  · cases h; exact ⟨Try.f11, Try.func11, ok11⟩
  · cases h; exact ⟨Try.f18, Try.func18, ok18⟩
  · cases h; exact ⟨Try.f19, Try.func19, ok19⟩
  · cases h; exact ⟨Try.f20, Try.func20, ok20⟩
  · cases h; exact ⟨Try.f22, Try.func22, ok22⟩
  · cases h; exact ⟨Try.f25, Try.func25, ok25⟩
  · cases h; exact ⟨Try.f29, Try.func29, ok29⟩
  · cases h; exact ⟨Try.f30, Try.func30, ok30⟩
  · cases h; exact ⟨Try.f39, Try.func39, ok39⟩
  · cases h; exact ⟨Try.f40, Try.func40, ok40⟩
  · cases h; exact ⟨Try.f41, Try.func41, ok41⟩
  · cases h; exact ⟨Try.f44, Try.func44, ok44⟩
  · cases h; exact ⟨Try.f45, Try.func45, ok45⟩
  · cases h; exact ⟨Try.f49, Try.func49, ok49⟩
  · cases h; exact ⟨Try.f52, Try.func52, ok52⟩
  · cases h; exact ⟨Try.f53, Try.func53, ok53⟩
  · cases h; exact ⟨Try.f54, Try.func54, ok54⟩
  · cases h; exact ⟨Try.f55, Try.func55, ok55⟩
  · cases h; exact ⟨Try.f60, Try.func60, ok60⟩
  · cases h; exact ⟨Try.f61, Try.func61, ok61⟩
  · cases h; exact ⟨Try.f62, Try.func62, ok62⟩
  · cases h; exact ⟨Try.f63, Try.func63, ok63⟩
  · cases h; exact ⟨Try.f64, Try.func64, ok64⟩
  · cases h; exact ⟨Try.f69, Try.func69, ok69⟩
  · cases h; exact ⟨Try.f71, Try.func71, ok71⟩
  · cases h; exact ⟨Try.f72, Try.func72, ok72⟩
  · cases h; exact ⟨Try.f73, Try.func73, ok73⟩
  · cases h; exact ⟨Try.f74, Try.func74, ok74⟩
  · cases h; exact ⟨Try.f76, Try.func76, ok76⟩
  · cases h; exact ⟨Try.f77, Try.func77, ok77⟩
  · cases h; exact ⟨Try.f80, Try.func80, ok80⟩
  · cases h; exact ⟨Try.f81, Try.func81, ok81⟩
  · cases h; exact ⟨Try.f83, Try.func83, ok83⟩
  · cases h; exact ⟨Try.f84, Try.func84, ok84⟩
  · cases h; exact ⟨Try.f85, Try.func85, ok85⟩
  · cases h; exact ⟨Try.f86, Try.func86, ok86⟩
  · cases h; exact ⟨Try.f87, Try.func87, ok87⟩
  · cases h; exact ⟨Try.f88, Try.func88, ok88⟩
  · cases h; exact ⟨Try.f89, Try.func89, ok89⟩
  · cases h; exact ⟨Try.f90, Try.func90, ok90⟩
  · cases h; exact ⟨Try.f91, Try.func91, ok91⟩
  · cases h; exact ⟨Try.f92, Try.func92, ok92⟩
  · cases h; exact ⟨Try.f93, Try.func93, ok93⟩
  · cases h; exact ⟨Try.f98, Try.func98, ok98⟩
  · cases h; exact ⟨Try.f99, Try.func99, ok99⟩
  · cases h; exact ⟨Try.f100, Try.func100, ok100⟩
  · cases h; exact ⟨Try.f101, Try.func101, ok101⟩
  · cases h; exact ⟨Try.f104, Try.func104, ok104⟩
  · cases h; exact ⟨Try.f105, Try.func105, ok105⟩
  · cases h; exact ⟨Try.f109, Try.func109, ok109⟩
  · cases h; exact ⟨Try.f110, Try.func110, ok110⟩
  · cases h; exact ⟨Try.f111, Try.func111, ok111⟩
  · cases h; exact ⟨Try.f112, Try.func112, ok112⟩
  · cases h; exact ⟨Try.f113, Try.func113, ok113⟩
  · cases h
theorem tabI_ok : TabIOk Try.prog T tabI := by
  intro f af h
  unfold tabI at h
  split at h
  · cases h
def it : IterF := itF tabI 60
theorem it_ok : ItOk Try.prog it := itF_ok tok tabI_ok 60
theorem calls (n : Nat) : CallOk Try.prog (evF tab it n) := evF_sound mix it_ok tok tab_ok n
theorem awake : evF tab it 60000 25 [] [] = some (.bool true, []) := by kernel_rfl
end Go.AM.Ch
