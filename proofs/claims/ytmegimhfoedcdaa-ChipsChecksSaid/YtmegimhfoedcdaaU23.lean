/- A part of the proof: U23. -/
import Derived.Test.YtmegimhfoedcdaaU22
set_option linter.unusedSectionVars false
set_option linter.unusedVariables false
set_option linter.unusedSimpArgs false
namespace Go.AM.Ch
theorem T4 : T 4 = some ⟨.bool, 1, 1, [.bool false]⟩ := rfl
theorem T48 : T 48 = some ⟨.struct [(0, 4), (1, 23), (2, 23)], 3, 56, [.bool false, .nilS, .nilS]⟩ := rfl
theorem ty_bool {k : Nat} {cs : List AV} (h : TyAV T k 4 cs) : ∃ v : Bool, cs = [.bool v] := by
  cases k with
  | zero => exact h.elim
  | succ k =>
    obtain ⟨s, hs, hm⟩ := h
    rw [T4] at hs; cases hs
    exact hm
theorem arg_winning {k : Nat} {x : AV} (h : TyArg T k 48 x) : ∃ (won : Bool) (fv ov : AV) (F O : List Int), x = .agg [.bool won, fv, ov] ∧ IsL fv F ∧ IsL ov O := by
  rcases h with ⟨s, xs, hs, ha, rfl, h⟩ | ⟨s, hs, ha, h⟩
  · cases k with
    | zero => exact h.elim
    | succ k =>
      obtain ⟨s', hs', hm0⟩ := h
      rw [T48] at hs'; cases hs'
      obtain ⟨hl, hm⟩ := hm0
      obtain ⟨s0, e0, t0⟩ := hm (0, 4) (by simp)
      obtain ⟨s1, e1, t1⟩ := hm (1, 23) (by simp)
      obtain ⟨s2, e2, t2⟩ := hm (2, 23) (by simp)
      simp only at e0 e1 e2 hl
      rw [T4] at e0; rw [T23] at e1 e2
      cases e0; cases e1; cases e2
      match xs, hl with
      | [a, b, c], _ =>
        simp at t0 t1 t2
        obtain ⟨w, hw⟩ := ty_bool t0
        obtain ⟨y, F, hy, hF⟩ := ty_ints t1
        obtain ⟨z, O, hz, hO⟩ := ty_ints t2
        simp only [List.cons.injEq, and_true] at hw hy hz
        subst hw; subst hy; subst hz
        exact ⟨w, b, c, F, O, rfl, hF, hO⟩
  · rw [T48] at hs; cases hs; cases ha
end Go.AM.Ch
