/- A part of the proof: T3. -/
import Derived.Test.YtdgkchedoooffaaT2
set_option linter.unusedVariables false
set_option linter.unusedSimpArgs false
set_option linter.unusedSectionVars false
namespace Go.AM.Tb
set_option maxHeartbeats 1000000
theorem f19 {x : AV} {l : List Int} (hx : IsL x l) (m : Nat) (hm : 1 ≤ m) : evF tab it m 19 [x] [] = some (ownV 0 (iL (l.take 61)), owH (iL (l.take 61))) := by
  obtain ⟨m, rfl⟩ : ∃ j, m = j + 1 := ⟨m - 1, by omega⟩
  have fx := hx.free
  refine f_enter rfl rfl ?_
  repeat' first
 | (apply s_mov; exact aW)
 | (apply c_nil)
 | (apply s_pn; exact aO; exact p_slc0 (by assumption) (by omega))
 | (apply s_len; exact aW; exact aI)
 | (apply s_pd; exact aW)
 | (apply c_seq)
 | (apply c_reg)
 | (with_reducible apply k_c)
  generalize hk : (if (61 : Int) < ↑l.length then (61 : Int) else ↑l.length) = k
  have ht : l.take 61 = l.take k.toNat := by
    subst hk
    split
    · rfl
    · rw [Int.toNat_natCast, List.take_length, List.take_of_length_le (by omega)]
  have hkl : 0 ≤ k ∧ k ≤ l.length ∧ k ≤ 61 := by subst hk; split <;> omega
  rw [ht]
  rcases Int.lt_or_le 0 k with h | h
  · rw [tkL_rd hx ⟨h, hkl.2.1⟩]
    refine s_en (by exact aO) (e_app_nil rfl (by omega) (by unfold most; omega)) ?_
    repeat' first
 | (apply s_mov; exact aW)
 | (apply c_nil)
 | (apply c_ret)
 | (with_reducible apply k_c)
    have hll : (l.take k.toNat).length = k.toNat := by rw [List.length_take]; omega
    rcases hc : l.take k.toNat with _ | ⟨a, r⟩
    · rw [hc] at hll; simp at hll; omega
    · rw [hc] at hll
      simp only [List.length_cons] at hll
      simp [finish, ress, resOf, look, tupOf, iL, ownV, owH, ← hll, gc, subHeap, reach_new, reach_end, rangeL, roots, boxCells, nodupB, posOf, renL, AV.ren, pickO, renH, renO]
  · have : k = 0 := by omega
    subst this
    obtain ⟨g1, g2⟩ := tkL_len hx
    refine s_en (by exact aO) (e_app_none g1 g2) ?_
    repeat' first
 | (apply s_mov; exact aW)
 | (apply c_nil)
 | (apply c_ret)
 | (with_reducible apply k_c)
    refine fin_t (by (conv => lhs; whnf)) (by rfl) (by simp [iL, ownV, owH])
theorem c19 {x : AV} {l : List Int} (hx : IsL x l) {m : Nat} (hm : 1 ≤ m) (H : Heap) : callPure (evF tab it m) true 19 [x] H = some (fzL (l.take 61), H) := by
  refine callPure_frz (by simp [idFreeL, hx.free]) (by simp) (f19 hx m hm) (frz_own _)
def b61 (a : List (List Int)) : List (List Int) := (a.take 61).map (·.take 61)
end Go.AM.Tb
