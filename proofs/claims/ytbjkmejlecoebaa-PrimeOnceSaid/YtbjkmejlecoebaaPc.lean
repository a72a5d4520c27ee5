/- The table whole, and the closed run. -/
import Derived.Test.YtbjkmejlecoebaaPb
set_option maxRecDepth 100000
namespace Go.AM.Pr
open Go.Proofs

theorem tab_ok : TabOk Try.prog T tab := by
  intro f af h
  unfold tab at h
  split at h
  · cases h; exact ⟨Try.f3, Try.func3, ok3⟩
  · cases h; exact ⟨Try.f6, Try.func6, ok6⟩
  · cases h; exact ⟨Try.f10, Try.func10, ok10⟩
  · cases h; exact ⟨Try.f13, Try.func13, ok13⟩
  · cases h; exact ⟨Try.f14, Try.func14, ok14⟩
  · cases h; exact ⟨Try.f15, Try.func15, ok15⟩
  · cases h; exact ⟨Try.f16, Try.func16, ok16⟩
  · cases h; exact ⟨Try.f17, Try.func17, ok17⟩
  · cases h; exact ⟨Try.f18, Try.func18, ok18⟩
  · cases h; exact ⟨Try.f19, Try.func19, ok19⟩
  · cases h; exact ⟨Try.f20, Try.func20, ok20⟩
  · cases h; exact ⟨Try.f21, Try.func21, ok21⟩
  · cases h; exact ⟨Try.f22, Try.func22, ok22⟩
  · cases h; exact ⟨Try.f23, Try.func23, ok23⟩
  · cases h; exact ⟨Try.f24, Try.func24, ok24⟩
  · cases h; exact ⟨Try.f25, Try.func25, ok25⟩
  · cases h; exact ⟨Try.f26, Try.func26, ok26⟩
  · cases h; exact ⟨Try.f27, Try.func27, ok27⟩
  · cases h; exact ⟨Try.f28, Try.func28, ok28⟩
  · cases h; exact ⟨Try.f29, Try.func29, ok29⟩
  · cases h; exact ⟨Try.f30, Try.func30, ok30⟩
  · cases h; exact ⟨Try.f31, Try.func31, ok31⟩
  · cases h; exact ⟨Try.f32, Try.func32, ok32⟩
  · cases h; exact ⟨Try.f33, Try.func33, ok33⟩
  · cases h; exact ⟨Try.f34, Try.func34, ok34⟩
  · cases h; exact ⟨Try.f35, Try.func35, ok35⟩
  · cases h; exact ⟨Try.f36, Try.func36, ok36⟩
  · cases h; exact ⟨Try.f37, Try.func37, ok37⟩
  · cases h; exact ⟨Try.f38, Try.func38, ok38⟩
  · cases h; exact ⟨Try.f39, Try.func39, ok39⟩
  · cases h; exact ⟨Try.f40, Try.func40, ok40⟩
  · cases h; exact ⟨Try.f41, Try.func41, ok41⟩
  · cases h; exact ⟨Try.f42, Try.func42, ok42⟩
  · cases h; exact ⟨Try.f43, Try.func43, ok43⟩
  · cases h; exact ⟨Try.f44, Try.func44, ok44⟩
  · cases h; exact ⟨Try.f45, Try.func45, ok45⟩
  · cases h; exact ⟨Try.f46, Try.func46, ok46⟩
  · cases h; exact ⟨Try.f47, Try.func47, ok47⟩
  · cases h; exact ⟨Try.f48, Try.func48, ok48⟩
  · cases h; exact ⟨Try.f49, Try.func49, ok49⟩
  · cases h; exact ⟨Try.f50, Try.func50, ok50⟩
  · cases h; exact ⟨Try.f51, Try.func51, ok51⟩
  · cases h; exact ⟨Try.f52, Try.func52, ok52⟩
  · cases h; exact ⟨Try.f53, Try.func53, ok53⟩
  · cases h; exact ⟨Try.f54, Try.func54, ok54⟩
  · cases h; exact ⟨Try.f56, Try.func56, ok56⟩
  · cases h; exact ⟨Try.f57, Try.func57, ok57⟩
  · cases h; exact ⟨Try.f58, Try.func58, ok58⟩
  · cases h; exact ⟨Try.f59, Try.func59, ok59⟩
  · cases h; exact ⟨Try.f60, Try.func60, ok60⟩
  · cases h; exact ⟨Try.f61, Try.func61, ok61⟩
  · cases h; exact ⟨Try.f62, Try.func62, ok62⟩
  · cases h; exact ⟨Try.f63, Try.func63, ok63⟩
  · cases h; exact ⟨Try.f64, Try.func64, ok64⟩
  · cases h; exact ⟨Try.f65, Try.func65, ok65⟩
  · cases h; exact ⟨Try.f66, Try.func66, ok66⟩
  · cases h; exact ⟨Try.f70, Try.func70, ok70⟩
  · cases h; exact ⟨Try.f71, Try.func71, ok71⟩
  · cases h; exact ⟨Try.f72, Try.func72, ok72⟩
  · cases h; exact ⟨Try.f73, Try.func73, ok73⟩
  · cases h; exact ⟨Try.f74, Try.func74, ok74⟩
  · cases h; exact ⟨Try.f78, Try.func78, ok78⟩
  · cases h

theorem tabI_ok : TabIOk Try.prog T tabI := by
  intro f af h
  unfold tabI at h
  split at h
  · cases h

def it : IterF := itF tabI 60
theorem it_ok : ItOk Try.prog it := itF_ok tok tabI_ok 60
theorem calls (n : Nat) : CallOk Try.prog (evF tab it n) := evF_sound mix it_ok tok tab_ok n
theorem awake : evF tab it 60000 18 [] [] = some (.bool true, []) := by kernel_rfl
end Go.AM.Pr
