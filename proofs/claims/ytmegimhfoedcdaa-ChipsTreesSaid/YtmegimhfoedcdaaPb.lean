/- The table is the program's: closed facts. -/
import Derived.Test.YtmegimhfoedcdaaPa2
import Derived.Test.YtmegimhfoedcdaaProg
set_option linter.unusedVariables false
set_option linter.unusedSimpArgs false
set_option linter.unusedSectionVars false
set_option maxRecDepth 100000
namespace Go.AM.Ch
open Go.Proofs
def tlook : List (Nat × TS) → Tab
  | [], _ => none
  | (u, s) :: r, t => if u = t then some s else tlook r t
def T : Tab := tlook types
theorem tlook_mem : ∀ {l : List (Nat × TS)} {t s}, tlook l t = some s → (t, s) ∈ l
  | (u, x) :: r, t, s, h => by
    simp only [tlook] at h
    split at h
    · rename_i e; cases h; subst e; exact List.mem_cons_self
    · exact List.mem_cons_of_mem _ (tlook_mem h)
theorem types_ok : (types.all fun x => tOkB Try.prog x.1 x.2) = true := by kernel_rfl
theorem tok : TOk Try.prog T := fun t s h => by
  have := types_ok
  rw [List.all_eq_true] at this
  exact this (t, s) (tlook_mem h)
theorem mix : Try.prog.follows .mixedOrders = true := by kernel_rfl
theorem ok11 : okF T Try.f11 af11 = true := by kernel_rfl
theorem ok18 : okF T Try.f18 af18 = true := by kernel_rfl
theorem ok19 : okF T Try.f19 af19 = true := by kernel_rfl
theorem ok20 : okF T Try.f20 af20 = true := by kernel_rfl
theorem ok22 : okF T Try.f22 af22 = true := by kernel_rfl
theorem ok25 : okF T Try.f25 af25 = true := by kernel_rfl
theorem ok29 : okF T Try.f29 af29 = true := by kernel_rfl
theorem ok30 : okF T Try.f30 af30 = true := by kernel_rfl
theorem ok39 : okF T Try.f39 af39 = true := by kernel_rfl
theorem ok40 : okF T Try.f40 af40 = true := by kernel_rfl
theorem ok41 : okF T Try.f41 af41 = true := by kernel_rfl
theorem ok44 : okF T Try.f44 af44 = true := by kernel_rfl
theorem ok45 : okF T Try.f45 af45 = true := by kernel_rfl
theorem ok49 : okF T Try.f49 af49 = true := by kernel_rfl
theorem ok52 : okF T Try.f52 af52 = true := by kernel_rfl
theorem ok53 : okF T Try.f53 af53 = true := by kernel_rfl
theorem ok54 : okF T Try.f54 af54 = true := by kernel_rfl
theorem ok55 : okF T Try.f55 af55 = true := by kernel_rfl
theorem ok60 : okF T Try.f60 af60 = true := by kernel_rfl
theorem ok61 : okF T Try.f61 af61 = true := by kernel_rfl
theorem ok62 : okF T Try.f62 af62 = true := by kernel_rfl
theorem ok63 : okF T Try.f63 af63 = true := by kernel_rfl
theorem ok64 : okF T Try.f64 af64 = true := by kernel_rfl
theorem ok69 : okF T Try.f69 af69 = true := by kernel_rfl
theorem ok71 : okF T Try.f71 af71 = true := by kernel_rfl
theorem ok72 : okF T Try.f72 af72 = true := by kernel_rfl
theorem ok73 : okF T Try.f73 af73 = true := by kernel_rfl
theorem ok74 : okF T Try.f74 af74 = true := by kernel_rfl
theorem ok76 : okF T Try.f76 af76 = true := by kernel_rfl
theorem ok77 : okF T Try.f77 af77 = true := by kernel_rfl
theorem ok80 : okF T Try.f80 af80 = true := by kernel_rfl
theorem ok81 : okF T Try.f81 af81 = true := by kernel_rfl
theorem ok83 : okF T Try.f83 af83 = true := by kernel_rfl
theorem ok84 : okF T Try.f84 af84 = true := by kernel_rfl
theorem ok85 : okF T Try.f85 af85 = true := by kernel_rfl
theorem ok86 : okF T Try.f86 af86 = true := by kernel_rfl
theorem ok87 : okF T Try.f87 af87 = true := by kernel_rfl
theorem ok88 : okF T Try.f88 af88 = true := by kernel_rfl
theorem ok89 : okF T Try.f89 af89 = true := by kernel_rfl
theorem ok90 : okF T Try.f90 af90 = true := by kernel_rfl
theorem ok91 : okF T Try.f91 af91 = true := by kernel_rfl
theorem ok92 : okF T Try.f92 af92 = true := by kernel_rfl
theorem ok93 : okF T Try.f93 af93 = true := by kernel_rfl
theorem ok98 : okF T Try.f98 af98 = true := by kernel_rfl
theorem ok99 : okF T Try.f99 af99 = true := by kernel_rfl
theorem ok100 : okF T Try.f100 af100 = true := by kernel_rfl
theorem ok101 : okF T Try.f101 af101 = true := by kernel_rfl
theorem ok104 : okF T Try.f104 af104 = true := by kernel_rfl
theorem ok105 : okF T Try.f105 af105 = true := by kernel_rfl
theorem ok109 : okF T Try.f109 af109 = true := by kernel_rfl
theorem ok110 : okF T Try.f110 af110 = true := by kernel_rfl
theorem ok111 : okF T Try.f111 af111 = true := by kernel_rfl
theorem ok112 : okF T Try.f112 af112 = true := by kernel_rfl
theorem ok113 : okF T Try.f113 af113 = true := by kernel_rfl
end Go.AM.Ch
