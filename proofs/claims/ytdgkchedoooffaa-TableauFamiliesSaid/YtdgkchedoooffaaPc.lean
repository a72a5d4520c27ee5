/- The table whole, and the closed run. -/
import Derived.Test.YtdgkchedoooffaaPb
set_option linter.unusedVariables false
set_option linter.unusedSimpArgs false
set_option linter.unusedSectionVars false
set_option maxRecDepth 100000
namespace Go.AM.Tb
open Go.Proofs
theorem tab_ok : TabOk Try.prog T tab := by
  intro f af h
  unfold tab at h
  split at h
  · cases h; exact ⟨Try.f9, Try.func9, ok9⟩
  · cases h; exact ⟨Try.f19, Try.func19, ok19⟩
  · cases h; exact ⟨Try.f20, Try.func20, ok20⟩
  · cases h; exact ⟨Try.f21, Try.func21, ok21⟩
  · cases h; exact ⟨Try.f22, Try.func22, ok22⟩
  · cases h; exact ⟨Try.f23, Try.func23, ok23⟩
  · cases h; exact ⟨Try.f25, Try.func25, ok25⟩
  · cases h; exact ⟨Try.f26, Try.func26, ok26⟩
  · cases h; exact ⟨Try.f27, Try.func27, ok27⟩
  · cases h; exact ⟨Try.f34, Try.func34, ok34⟩
  · cases h; exact ⟨Try.f39, Try.func39, ok39⟩
  · cases h; exact ⟨Try.f40, Try.func40, ok40⟩
  · cases h; exact ⟨Try.f52, Try.func52, ok52⟩
  · cases h; exact ⟨Try.f53, Try.func53, ok53⟩
  · cases h; exact ⟨Try.f55, Try.func55, ok55⟩
  · cases h; exact ⟨Try.f56, Try.func56, ok56⟩
  · cases h; exact ⟨Try.f57, Try.func57, ok57⟩
  · cases h; exact ⟨Try.f60, Try.func60, ok60⟩
  · cases h; exact ⟨Try.f61, Try.func61, ok61⟩
  · cases h; exact ⟨Try.f62, Try.func62, ok62⟩
  · cases h; exact ⟨Try.f63, Try.func63, ok63⟩
  · cases h; exact ⟨Try.f64, Try.func64, ok64⟩
  · cases h; exact ⟨Try.f72, Try.func72, ok72⟩
  · cases h; exact ⟨Try.f73, Try.func73, ok73⟩
  · cases h; exact ⟨Try.f74, Try.func74, ok74⟩
  · cases h; exact ⟨Try.f75, Try.func75, ok75⟩
  · cases h; exact ⟨Try.f76, Try.func76, ok76⟩
  · cases h; exact ⟨Try.f77, Try.func77, ok77⟩
  · cases h; exact ⟨Try.f78, Try.func78, ok78⟩
  · cases h; exact ⟨Try.f79, Try.func79, ok79⟩
  · cases h; exact ⟨Try.f80, Try.func80, ok80⟩
  · cases h; exact ⟨Try.f81, Try.func81, ok81⟩
  · cases h; exact ⟨Try.f82, Try.func82, ok82⟩
  · cases h; exact ⟨Try.f83, Try.func83, ok83⟩
  · cases h; exact ⟨Try.f84, Try.func84, ok84⟩
  · cases h; exact ⟨Try.f85, Try.func85, ok85⟩
  · cases h; exact ⟨Try.f91, Try.func91, ok91⟩
  · cases h; exact ⟨Try.f93, Try.func93, ok93⟩
  · cases h; exact ⟨Try.f94, Try.func94, ok94⟩
  · cases h; exact ⟨Try.f95, Try.func95, ok95⟩
  · cases h; exact ⟨Try.f96, Try.func96, ok96⟩
  · cases h
theorem tabI_ok : TabIOk Try.prog T tabI := by
  intro f af h
  unfold tabI at h
  split at h
  · cases h
def it : IterF := itF tabI 60
theorem it_ok : ItOk Try.prog it := itF_ok tok tabI_ok 60
theorem calls (n : Nat) : CallOk Try.prog (evF tab it n) := evF_sound mix it_ok tok tab_ok n
theorem awake : evF tab it 60000 23 [] [] = some (.bool true, []) := by kernel_rfl
end Go.AM.Tb
