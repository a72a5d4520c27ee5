/- A part of the proof: T15. -/
import Derived.Test.YtdgkchedoooffaaPc
import Derived.Test.YtdgkchedoooffaaM3
set_option linter.unusedVariables false
set_option linter.unusedSimpArgs false
set_option linter.unusedSectionVars false
namespace Go.AM.Tb
theorem T3 : T 3 = some ⟨.int .i64, 1, 8, [.int .i64 0]⟩ := rfl
theorem ty_int {k : Nat} {cs : List AV} (h : TyAV T k 3 cs) : ∃ n : Int, cs = [.int .i64 n] ∧ (Lit.int .i64 n).wf = true := by
  cases k with
  | zero => exact h.elim
  | succ k =>
    obtain ⟨s, hs, hm⟩ := h
    rw [T3] at hs; cases hs
    exact hm
theorem arg_int {k : Nat} {x : AV} (h : TyArg T k 3 x) : ∃ n : Int, x = .int .i64 n ∧ (Lit.int .i64 n).wf = true := by
  rcases h with ⟨s, xs, hs, ha, _⟩ | ⟨s, hs, ha, h⟩
  · rw [T3] at hs; cases hs; cases ha
  · obtain ⟨n, hn, hw⟩ := ty_int h
    simp only [List.cons.injEq, and_true] at hn
    exact ⟨n, hn, hw⟩
theorem awakeN {m : Nat} (hm : 60000 ≤ m) (H : Heap) : callPure (evF tab it m) true 23 [] H = some (.bool true, H) :=
  callPure_free rfl (by simp) (evF_mono hm _ _ _ _ awake) rfl
end Go.AM.Tb
