/- The table is the program's: closed facts. -/
import Derived.Test.YtbjkmejlecoebaaPa2
import Derived.Test.YtbjkmejlecoebaaProg
set_option maxRecDepth 100000
namespace Go.AM.Pr
open Go.Proofs

def tlook : List (Nat × TS) → Tab
  | [], _ => none
  | (u, s) :: r, t => if u = t then some s else tlook r t
def T : Tab := tlook types
theorem tlook_mem : ∀ {l : List (Nat × TS)} {t s}, tlook l t = some s → (t, s) ∈ l
  | (u, x) :: r, t, s, h => by
    simp only [tlook] at h
    split at h
    · rename_i e; cases h; subst e; exact List.mem_cons_self
    · exact List.mem_cons_of_mem _ (tlook_mem h)
theorem types_ok : (types.all fun x => tOkB Try.prog x.1 x.2) = true := by kernel_rfl
theorem tok : TOk Try.prog T := fun t s h => by
  have := types_ok
  rw [List.all_eq_true] at this
  exact this (t, s) (tlook_mem h)
theorem mix : Try.prog.follows .mixedOrders = true := by kernel_rfl
theorem ok3 : okF T Try.f3 af3 = true := by kernel_rfl
theorem ok6 : okF T Try.f6 af6 = true := by kernel_rfl
theorem ok10 : okF T Try.f10 af10 = true := by kernel_rfl
theorem ok13 : okF T Try.f13 af13 = true := by kernel_rfl
theorem ok14 : okF T Try.f14 af14 = true := by kernel_rfl
theorem ok15 : okF T Try.f15 af15 = true := by kernel_rfl
theorem ok16 : okF T Try.f16 af16 = true := by kernel_rfl
theorem ok17 : okF T Try.f17 af17 = true := by kernel_rfl
theorem ok18 : okF T Try.f18 af18 = true := by kernel_rfl
theorem ok19 : okF T Try.f19 af19 = true := by kernel_rfl
theorem ok20 : okF T Try.f20 af20 = true := by kernel_rfl
theorem ok21 : okF T Try.f21 af21 = true := by kernel_rfl
theorem ok22 : okF T Try.f22 af22 = true := by kernel_rfl
theorem ok23 : okF T Try.f23 af23 = true := by kernel_rfl
theorem ok24 : okF T Try.f24 af24 = true := by kernel_rfl
theorem ok25 : okF T Try.f25 af25 = true := by kernel_rfl
theorem ok26 : okF T Try.f26 af26 = true := by kernel_rfl
theorem ok27 : okF T Try.f27 af27 = true := by kernel_rfl
theorem ok28 : okF T Try.f28 af28 = true := by kernel_rfl
theorem ok29 : okF T Try.f29 af29 = true := by kernel_rfl
theorem ok30 : okF T Try.f30 af30 = true := by kernel_rfl
theorem ok31 : okF T Try.f31 af31 = true := by kernel_rfl
theorem ok32 : okF T Try.f32 af32 = true := by kernel_rfl
theorem ok33 : okF T Try.f33 af33 = true := by kernel_rfl
theorem ok34 : okF T Try.f34 af34 = true := by kernel_rfl
theorem ok35 : okF T Try.f35 af35 = true := by kernel_rfl
theorem ok36 : okF T Try.f36 af36 = true := by kernel_rfl
theorem ok37 : okF T Try.f37 af37 = true := by kernel_rfl
theorem ok38 : okF T Try.f38 af38 = true := by kernel_rfl
theorem ok39 : okF T Try.f39 af39 = true := by kernel_rfl
theorem ok40 : okF T Try.f40 af40 = true := by kernel_rfl
theorem ok41 : okF T Try.f41 af41 = true := by kernel_rfl
theorem ok42 : okF T Try.f42 af42 = true := by kernel_rfl
theorem ok43 : okF T Try.f43 af43 = true := by kernel_rfl
theorem ok44 : okF T Try.f44 af44 = true := by kernel_rfl
theorem ok45 : okF T Try.f45 af45 = true := by kernel_rfl
theorem ok46 : okF T Try.f46 af46 = true := by kernel_rfl
theorem ok47 : okF T Try.f47 af47 = true := by kernel_rfl
theorem ok48 : okF T Try.f48 af48 = true := by kernel_rfl
theorem ok49 : okF T Try.f49 af49 = true := by kernel_rfl
theorem ok50 : okF T Try.f50 af50 = true := by kernel_rfl
theorem ok51 : okF T Try.f51 af51 = true := by kernel_rfl
theorem ok52 : okF T Try.f52 af52 = true := by kernel_rfl
theorem ok53 : okF T Try.f53 af53 = true := by kernel_rfl
theorem ok54 : okF T Try.f54 af54 = true := by kernel_rfl
theorem ok56 : okF T Try.f56 af56 = true := by kernel_rfl
theorem ok57 : okF T Try.f57 af57 = true := by kernel_rfl
theorem ok58 : okF T Try.f58 af58 = true := by kernel_rfl
theorem ok59 : okF T Try.f59 af59 = true := by kernel_rfl
theorem ok60 : okF T Try.f60 af60 = true := by kernel_rfl
theorem ok61 : okF T Try.f61 af61 = true := by kernel_rfl
theorem ok62 : okF T Try.f62 af62 = true := by kernel_rfl
theorem ok63 : okF T Try.f63 af63 = true := by kernel_rfl
theorem ok64 : okF T Try.f64 af64 = true := by kernel_rfl
theorem ok65 : okF T Try.f65 af65 = true := by kernel_rfl
theorem ok66 : okF T Try.f66 af66 = true := by kernel_rfl
theorem ok70 : okF T Try.f70 af70 = true := by kernel_rfl
theorem ok71 : okF T Try.f71 af71 = true := by kernel_rfl
theorem ok72 : okF T Try.f72 af72 = true := by kernel_rfl
theorem ok73 : okF T Try.f73 af73 = true := by kernel_rfl
theorem ok74 : okF T Try.f74 af74 = true := by kernel_rfl
theorem ok78 : okF T Try.f78 af78 = true := by kernel_rfl
end Go.AM.Pr
