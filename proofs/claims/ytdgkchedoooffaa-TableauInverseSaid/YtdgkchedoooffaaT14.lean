/- A part of the proof: T14. -/
import Derived.Test.YtdgkchedoooffaaT13
set_option linter.unusedVariables false
set_option linter.unusedSimpArgs false
set_option linter.unusedSectionVars false
namespace Go.AM.Tb
set_option maxHeartbeats 4000000
theorem fzLL_free (l : List (List Int)) : (fzLL l).idFree = true := (isLL_fz l).free
theorem c52 {x : AV} {l : List Int} (hx : IsL x l) (hl : l.length ≤ 1000) {m : Nat} (hm : 2100 ≤ m) (H : Heap) : callPure (evF tab it m) true 52 [x] H = some (.bool (decide (IsW l)), H) := callPure_free (by simp [idFreeL, hx.free]) (by simp) (f52 hx hl hm) rfl
theorem f20 {x : AV} {w : List Int} (hx : IsL x w) (hw : w.length ≤ 61) {m : Nat} (hm : 2200 ≤ m) : evF tab it m 20 [x] [] = some (if IsW w then .tup [fzLL (pq w w.length).1, fzLL (pq w w.length).2, .int .i64 0] else .tup [.nilS, .nilS, .int .i64 2], []) := by
  obtain ⟨m, rfl⟩ : ∃ j, m = j + 1 := ⟨m - 1, by omega⟩
  have fx := hx.free
  have e53 := fun H => c53 hx hw (m := m) (by omega) H
  have e52 := fun H => c52 hx (by omega) (m := m) (by omega) H
  have f1 := fzLL_free (pq w w.length).1
  have f2 := fzLL_free (pq w w.length).2
  refine f_enter rfl rfl ?_
  generalize evF tab it m = call at *
  by_cases h : IsW w
  · rw [if_pos h]
    simp only [h, decide_true] at e52
    repeat' first
 | (apply s_mov; exact aW)
 | (apply c_nil)
 | (apply s_notT; exact rfl)
 | (apply s_cn; exact aO; exact e52 _)
 | (apply s_cn; exact aO; exact e53 _)
 | (apply s_pd; exact aW)
 | (apply c_seq)
 | (apply c_reg)
 | (apply c_skip)
 | (apply c_ret)
 | (apply c_condF; exact rfl)
 | (with_reducible apply k_c)
    simp [finish, ress, resOf, look, tupOf, gc_free, idFreeL, AV.idFree, f1, f2]
  · rw [if_neg h]
    simp only [h, decide_false] at e52
    repeat' first
 | (apply s_mov; exact aW)
 | (apply c_nil)
 | (apply s_notF; exact rfl)
 | (apply s_cn; exact aO; exact e52 _)
 | (apply c_seq)
 | (apply c_reg)
 | (apply c_ret)
 | (apply c_condT; exact rfl)
 | (with_reducible apply k_c)
    rfl
theorem c20 {x : AV} {w : List Int} (hx : IsL x w) (hw : w.length ≤ 61) {m : Nat} (hm : 2200 ≤ m) (H : Heap) : callPure (evF tab it m) true 20 [x] H = some (if IsW w then .tup [fzLL (pq w w.length).1, fzLL (pq w w.length).2, .int .i64 0] else .tup [.nilS, .nilS, .int .i64 2], H) := by
  refine callPure_free (by simp [idFreeL, hx.free]) (by simp) (f20 hx hw hm) ?_
  split <;> simp [AV.idFree, idFreeL, fzLL_free]
end Go.AM.Tb
