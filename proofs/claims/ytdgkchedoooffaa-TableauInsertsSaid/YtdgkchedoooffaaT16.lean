/- A part of the proof: T16. -/
import Derived.Test.YtdgkchedoooffaaT14
import Derived.Test.YtdgkchedoooffaaT15
set_option linter.unusedVariables false
set_option linter.unusedSimpArgs false
set_option linter.unusedSectionVars false
namespace Go.AM.Tb
set_option maxHeartbeats 4000000
theorem take61 (l : List Int) : (l.take 61).length ≤ 61 := by rw [List.length_take]; omega
theorem f3 {x : AV} {l : List Int} (hx : IsL x l) : ∃ m H', evF tab it m 3 [x] [] = some (.bool true, H') := by
  refine ⟨60001, [], ?_⟩
  have fx := hx.free
  have hw := take61 l
  have e19 := fun H => c19 hx (m := 60000) (by omega) H
  generalize l.take 61 = w at *
  have e20 := fun H => c20 (isL_fz w) hw (m := 60000) (by omega) H
  have e21 := fun H => c21 (isL_fz w) (isL_fz w) (by omega) (m := 60000) (by omega) H
  have e22 := fun H => c22 (isL_fz w) (by omega) (m := 60000) (by omega) H
  have e24 := fun H => c24 (isL_fz w) hw (m := 60000) (by omega) H
  have e23 := fun H => awakeN (m := 60000) (by omega) H
  obtain ⟨l1, l2, l3, l4⟩ := pq_len w w.length
  have hp : (pq w w.length).1.length < 100 ∧ ∀ r ∈ (pq w w.length).1, r.length < 100 := ⟨by omega, fun r hr => by have := (l3 r hr).2; omega⟩
  have hq : (pq w w.length).2.length < 100 ∧ ∀ r ∈ (pq w w.length).2, r.length < 100 := ⟨by omega, fun r hr => by have := l4 r hr; omega⟩
  have e25a := fun H => c25 (isLL_fz (pq w w.length).1) (isLL_fz (pq w w.length).1) hp (m := 60000) (by omega) H
  have e25b := fun H => c25 (isLL_fz (pq w w.length).2) (isLL_fz (pq w w.length).2) hq (m := 60000) (by omega) H
  have f0 := fzL_free w
  have f1 := fzLL_free (pq w w.length).1
  have f2 := fzLL_free (pq w w.length).2
  simp only [decide_true] at e21 e25a e25b
  refine f_enter rfl rfl ?_
  generalize fzL w = vw at *
  generalize fzLL (pq w w.length).1 = vp at *
  generalize fzLL (pq w w.length).2 = vq at *
  generalize evF tab it 60000 = call at *
  by_cases h : IsW w
  · simp only [h, decide_true, if_true] at e20 e22
    repeat' first
 | (apply s_mov; exact aW)
 | (apply s_gT; exact rfl)
 | (apply c_nil)
 | (apply s_pickT; exact rfl; exact aW)
 | (apply s_notT; exact rfl)
 | (apply s_eql; exact rfl; all_goals (intro _; try (exfalso; omega)))
 | (apply s_cn; exact aO; exact e19 _)
 | (apply s_cn; exact aO; exact e20 _)
 | (apply s_cn; exact aO; exact e21 _)
 | (apply s_cn; exact aO; exact e22 _)
 | (apply s_cn; exact aO; exact e24 _)
 | (apply s_cn; exact aO; exact e25a _)
 | (apply s_cn; exact aO; exact e25b _)
 | (apply s_cn; exact aO; exact e23 _)
 | (apply s_pd; exact aW)
 | (apply c_seq)
 | (apply c_reg)
 | (apply c_skip)
 | (apply c_ret)
 | (apply c_condF; exact rfl)
 | (with_reducible apply k_c)
    all_goals exact fin_t (by (conv => lhs; whnf)) (by rfl) rfl
  · simp only [h, decide_false, if_false] at e20 e22
    repeat' first
 | (apply s_mov; exact aW)
 | (apply s_gT; exact rfl)
 | (apply c_nil)
 | (apply s_pickT; exact rfl; exact aW)
 | (apply s_notT; exact rfl)
 | (apply s_notF; exact rfl)
 | (apply s_eql; exact rfl; all_goals (intro _; try (exfalso; omega)))
 | (apply s_cn; exact aO; exact e19 _)
 | (apply s_cn; exact aO; exact e20 _)
 | (apply s_cn; exact aO; exact e21 _)
 | (apply s_cn; exact aO; exact e22 _)
 | (apply s_cn; exact aO; exact e23 _)
 | (apply s_pd; exact aW)
 | (apply c_seq)
 | (apply c_reg)
 | (apply c_skip)
 | (apply c_ret)
 | (apply c_condT; exact rfl)
 | (apply c_condF; exact rfl)
 | (with_reducible apply k_c)
    all_goals exact fin_t (by (conv => lhs; whnf)) (by rfl) rfl
end Go.AM.Tb
