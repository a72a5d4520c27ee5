/- A part of the proof: U56. -/
import Derived.Test.YtmegimhfoedcdaaU18
set_option linter.unusedSectionVars false
set_option linter.unusedVariables false
set_option linter.unusedSimpArgs false
namespace Go.AM.Ch
theorem ty_rowsB {k : Nat} {cs : List AV} (h : TyAV T k 22 cs) : ∃ x l, cs = [x] ∧ IsLL x l ∧ l.length < 2 ^ 63 := by
  cases k with
  | zero => exact h.elim
  | succ k =>
    obtain ⟨s, hs, hm⟩ := h
    rw [T22] at hs; cases hs
    rcases hm with rfl | ⟨len, cells, se, h1, rfl, h3, h5, h4⟩
    · exact ⟨_, [], rfl, .nil, by simp⟩
    · rw [T23] at h1; cases h1
      simp only [Nat.mul_one] at h3 h4
      have key : ∀ (cs : List AV), (∀ i, i < cs.length → ∃ l, IsL (cs.getD i .undef) l) → ∃ ll : List (List Int), cs.length = ll.length ∧ ∀ i, i < ll.length → IsL (cs.getD i .undef) (ll.getD i []) := by
        intro cs
        induction cs with
        | nil => intro _; exact ⟨[], rfl, fun i hi => by simp at hi⟩
        | cons c cs ih =>
          intro h
          obtain ⟨l, hl⟩ := h 0 (by simp)
          obtain ⟨ll, h1, h2⟩ := ih fun i hi => by simpa using h (i + 1) (by simpa using hi)
          refine ⟨l :: ll, by simp [h1], fun i hi => ?_⟩
          cases i with
          | zero => simpa using hl
          | succ i => simpa using h2 i (by simpa using hi)
      obtain ⟨ll, e1, e2⟩ := key cells fun i hi => by
        obtain ⟨x, l, hx, hl⟩ := ty_ints (h4 i (by omega))
        rw [take1 hi] at hx
        simp only [List.cons.injEq, and_true] at hx
        exact ⟨l, by rw [hx]; exact hl⟩
      have e3 : len = ll.length := by omega
      subst e3
      exact ⟨_, ll, rfl, .rd cells ll e1 e2, h5⟩
theorem arg_rowsB {k : Nat} {x : AV} (h : TyArg T k 22 x) : ∃ l, IsLL x l ∧ l.length < 9223372036854775808 := by
  rcases h with ⟨s, xs, hs, ha, _⟩ | ⟨s, hs, ha, h⟩
  · rw [T22] at hs; cases hs; cases ha
  · obtain ⟨y, l, hy, hl, hb⟩ := ty_rowsB h
    simp only [List.cons.injEq, and_true] at hy
    exact ⟨l, by rw [hy]; exact hl, hb⟩
end Go.AM.Ch
