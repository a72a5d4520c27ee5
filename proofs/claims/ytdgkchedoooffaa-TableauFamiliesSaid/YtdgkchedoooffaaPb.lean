/- The table is the program's: closed facts. -/
import Derived.Test.YtdgkchedoooffaaPa2
import Derived.Test.YtdgkchedoooffaaProg
set_option linter.unusedVariables false
set_option linter.unusedSimpArgs false
set_option linter.unusedSectionVars false
set_option maxRecDepth 100000
namespace Go.AM.Tb
open Go.Proofs
def tlook : List (Nat × TS) → Tab
  | [], _ => none
  | (u, s) :: r, t => if u = t then some s else tlook r t
def T : Tab := tlook types
theorem tlook_mem : ∀ {l : List (Nat × TS)} {t s}, tlook l t = some s → (t, s) ∈ l
  | (u, x) :: r, t, s, h => by
    simp only [tlook] at h
    split at h
    · rename_i e; cases h; subst e; exact List.mem_cons_self
    · exact List.mem_cons_of_mem _ (tlook_mem h)
theorem types_ok : (types.all fun x => tOkB Try.prog x.1 x.2) = true := by kernel_rfl
theorem tok : TOk Try.prog T := fun t s h => by
  have := types_ok
  rw [List.all_eq_true] at this
  exact this (t, s) (tlook_mem h)
theorem mix : Try.prog.follows .mixedOrders = true := by kernel_rfl
theorem ok9 : okF T Try.f9 af9 = true := by kernel_rfl
theorem ok19 : okF T Try.f19 af19 = true := by kernel_rfl
theorem ok20 : okF T Try.f20 af20 = true := by kernel_rfl
theorem ok21 : okF T Try.f21 af21 = true := by kernel_rfl
theorem ok22 : okF T Try.f22 af22 = true := by kernel_rfl
theorem ok23 : okF T Try.f23 af23 = true := by kernel_rfl
theorem ok25 : okF T Try.f25 af25 = true := by kernel_rfl
theorem ok26 : okF T Try.f26 af26 = true := by kernel_rfl
theorem ok27 : okF T Try.f27 af27 = true := by kernel_rfl
theorem ok34 : okF T Try.f34 af34 = true := by kernel_rfl
theorem ok39 : okF T Try.f39 af39 = true := by kernel_rfl
theorem ok40 : okF T Try.f40 af40 = true := by kernel_rfl
theorem ok52 : okF T Try.f52 af52 = true := by kernel_rfl
theorem ok53 : okF T Try.f53 af53 = true := by kernel_rfl
theorem ok55 : okF T Try.f55 af55 = true := by kernel_rfl
theorem ok56 : okF T Try.f56 af56 = true := by kernel_rfl
theorem ok57 : okF T Try.f57 af57 = true := by kernel_rfl
theorem ok60 : okF T Try.f60 af60 = true := by kernel_rfl
theorem ok61 : okF T Try.f61 af61 = true := by kernel_rfl
theorem ok62 : okF T Try.f62 af62 = true := by kernel_rfl
theorem ok63 : okF T Try.f63 af63 = true := by kernel_rfl
theorem ok64 : okF T Try.f64 af64 = true := by kernel_rfl
theorem ok72 : okF T Try.f72 af72 = true := by kernel_rfl
theorem ok73 : okF T Try.f73 af73 = true := by kernel_rfl
theorem ok74 : okF T Try.f74 af74 = true := by kernel_rfl
theorem ok75 : okF T Try.f75 af75 = true := by kernel_rfl
theorem ok76 : okF T Try.f76 af76 = true := by kernel_rfl
theorem ok77 : okF T Try.f77 af77 = true := by kernel_rfl
theorem ok78 : okF T Try.f78 af78 = true := by kernel_rfl
theorem ok79 : okF T Try.f79 af79 = true := by kernel_rfl
theorem ok80 : okF T Try.f80 af80 = true := by kernel_rfl
theorem ok81 : okF T Try.f81 af81 = true := by kernel_rfl
theorem ok82 : okF T Try.f82 af82 = true := by kernel_rfl
theorem ok83 : okF T Try.f83 af83 = true := by kernel_rfl
theorem ok84 : okF T Try.f84 af84 = true := by kernel_rfl
theorem ok85 : okF T Try.f85 af85 = true := by kernel_rfl
theorem ok91 : okF T Try.f91 af91 = true := by kernel_rfl
theorem ok93 : okF T Try.f93 af93 = true := by kernel_rfl
theorem ok94 : okF T Try.f94 af94 = true := by kernel_rfl
theorem ok95 : okF T Try.f95 af95 = true := by kernel_rfl
theorem ok96 : okF T Try.f96 af96 = true := by kernel_rfl
end Go.AM.Tb
