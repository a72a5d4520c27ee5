/- A part of the proof: T30. -/
import Derived.Test.YtdgkchedoooffaaT29
import Derived.Test.YtdgkchedoooffaaT15
set_option linter.unusedVariables false
set_option linter.unusedSimpArgs false
set_option linter.unusedSectionVars false
namespace Go.AM.Tb
set_option maxHeartbeats 4000000
theorem zer_mem {s : List Int} (h : IsSh s) (h30 : siz s ≤ 30) : ∀ r ∈ zer s, r.length ≤ 30 := by
  intro r hr
  obtain ⟨i, hi, rfl⟩ := List.mem_iff_getElem.1 hr
  rw [zer_len] at hi
  have := lam_siz (l := s) hi
  have hz := zer_get hi
  rw [getLL_get (by rw [zer_len]; exact hi)] at hz
  rw [hz, List.length_replicate]; omega
theorem ur_len : ∀ n l k T, (ur n l k T).length = T.length
  | 0, l, k, T => rfl
  | n + 1, l, k, T => by rw [ur, ur_len, put2_len]
theorem ur_rows : ∀ n l k (T : List (List Int)), (∀ r ∈ T, r.length ≤ 30) → ∀ r ∈ ur n l k T, r.length ≤ 30
  | 0, l, k, T, h => h
  | n + 1, l, k, T, h => by
    rw [ur]
    refine ur_rows n _ _ _ fun r hr => ?_
    unfold put2 at hr
    by_cases hp : (pk l l.length k).1 < T.length
    · rcases List.mem_or_eq_of_mem_set hr with hr | rfl
      · exact h r hr
      · rw [List.length_set, getLL_get hp]
        exact h _ (List.getElem_mem _)
    · rw [List.set_eq_of_length_le (by omega)] at hr
      exact h r hr
theorem f4 {x : AV} {l : List Int} {k : Int} (hx : IsL x l) : ∃ m H', evF tab it m 4 [x, .int .i64 k] [] = some (.bool true, H') := by
  refine ⟨60001, [], ?_⟩
  have fx := hx.free
  have hw : (l.take 61).length ≤ 61 := by rw [List.length_take]; omega
  have e19 := fun H => c19 hx (m := 60000) (by omega) H
  generalize l.take 61 = w at *
  have hvw := isL_fz w
  have e21 := fun H => c21 hvw hvw (by omega) (m := 60000) (by omega) H
  have e26 := fun H => c26 hvw (by omega) (m := 60000) (by omega) H
  have e27 := fun H => c27 (k := k) hvw (by omega) (m := 60000) (by omega) H
  have e28 := fun H => c28 hvw (by omega) (m := 60000) (by omega) H
  have e23 := fun H => awakeN (m := 60000) (by omega) H
  simp only [decide_true] at e21
  have f0 := fzL_free w
  unfold ans26 at e26
  unfold ans27 at e27
  by_cases hsh : IsSh w
  · have e29 := fun H => c29 hvw hsh (by omega) (b := 30) (by omega) (m := 60000) (by omega) H
    simp only [if_pos hsh] at e26 e27
    simp only [hsh, decide_true] at e28
    by_cases h30 : siz w ≤ 30
    · simp only [if_pos h30] at e26 e27 e29
      have e30 := fun H => c30 hvw hsh h30 (m := 60000) (by omega) H
      by_cases hk : k < 0 ∨ (cntS w : Int) ≤ k
      · simp only [if_pos hk] at e27
        refine f_enter rfl rfl ?_
        generalize fzL w = vw at *
        generalize evF tab it 60000 = call at *
        repeat' first
 | (apply s_mov; exact aW)
 | (apply s_gT; exact rfl)
 | (apply s_gF; exact rfl)
 | (apply c_nil)
 | (apply s_pickT; exact rfl; exact aW)
 | (apply s_pickF; exact rfl; exact aW)
 | (apply s_notT; exact rfl)
 | (apply s_lss; exact rfl; all_goals (intro _; try (exfalso; omega)))
 | (apply s_gtr; exact rfl; all_goals (intro _; try (exfalso; omega)))
 | (apply s_geq; exact rfl; all_goals (intro _; try (exfalso; omega)))
 | (apply s_eql; exact rfl; all_goals (intro _; try (exfalso; omega)))
 | (apply s_neq; exact rfl; all_goals (intro _; try (exfalso; omega)))
 | (apply s_cn; exact aO; exact e19 _)
 | (apply s_cn; exact aO; exact e26 _)
 | (apply s_cn; exact aO; exact e27 _)
 | (apply s_cn; exact aO; exact e21 _)
 | (apply s_cn; exact aO; exact e28 _)
 | (apply s_cn; exact aO; exact e29 _)
 | (apply s_cn; exact aO; exact e30 _)
 | (apply s_cn; exact aO; exact e23 _)
 | (apply s_pd; exact aW)
 | (apply c_seq)
 | (apply c_reg)
 | (apply c_skip)
 | (apply c_ret)
 | (apply c_condT; exact rfl)
 | (apply c_condF; exact rfl)
 | (with_reducible apply k_c)
        all_goals first
          | (exfalso; omega)
          | exact fin_t (by (conv => lhs; whnf)) (by rfl) rfl
      · simp only [if_neg hk] at e27
        obtain ⟨q, rfl⟩ : ∃ q : Nat, k = (q : Int) := ⟨k.toNat, by omega⟩
        obtain ⟨v, hv, e31⟩ := c31 hvw hsh h30 (k := q) (by omega) (m := 60000) (by omega)
        have hls := len_siz hsh
        have e25 := fun H => c25 (isLL_rdLL (unrk w q)) hv ⟨by unfold unrk; rw [ur_len, zer_len]; omega, fun r hr => by have := ur_rows _ _ _ _ (zer_mem hsh h30) r hr; omega⟩ (m := 60000) (by omega) H
        simp only [decide_true] at e25
        rw [Int.toNat_natCast] at e27
        have fr := rdLL_free (unrk w q)
        have fv := hv.free
        refine f_enter rfl rfl ?_
        generalize fzL w = vw at *
        generalize rdLL (unrk w q) = vr at *
        generalize evF tab it 60000 = call at *
        repeat' first
 | (apply s_mov; exact aW)
 | (apply s_gT; exact rfl)
 | (apply c_nil)
 | (apply s_pickT; exact rfl; exact aW)
 | (apply s_pickF; exact rfl; exact aW)
 | (apply s_notT; exact rfl)
 | (apply s_lss; exact rfl; all_goals (intro _; try (exfalso; omega)))
 | (apply s_gtr; exact rfl; all_goals (intro _; try (exfalso; omega)))
 | (apply s_geq; exact rfl; all_goals (intro _; try (exfalso; omega)))
 | (apply s_eql; exact rfl; all_goals (intro _; try (exfalso; omega)))
 | (apply s_neq; exact rfl; all_goals (intro _; try (exfalso; omega)))
 | (apply s_cn; exact aO; exact e19 _)
 | (apply s_cn; exact aO; exact e26 _)
 | (apply s_cn; exact aO; exact e27 _)
 | (apply s_cn; exact aO; exact e21 _)
 | (apply s_cn; exact aO; exact e28 _)
 | (apply s_cn; exact aO; exact e29 _)
 | (apply s_cn; exact aO; exact e30 _)
 | (apply s_cn; exact aO; exact e31 _)
 | (apply s_cn; exact aO; exact e25 _)
 | (apply s_cn; exact aO; exact e23 _)
 | (apply s_pd; exact aW)
 | (apply c_seq)
 | (apply c_reg)
 | (apply c_skip)
 | (apply c_ret)
 | (apply c_condF; exact rfl)
 | (with_reducible apply k_c)
        all_goals first
          | (exfalso; omega)
          | exact fin_t (by (conv => lhs; whnf)) (by rfl) rfl
    · simp only [if_neg h30] at e26 e27 e29
      refine f_enter rfl rfl ?_
      generalize fzL w = vw at *
      generalize evF tab it 60000 = call at *
      repeat' first
 | (apply s_mov; exact aW)
 | (apply s_gT; exact rfl)
 | (apply c_nil)
 | (apply s_pickT; exact rfl; exact aW)
 | (apply s_notT; exact rfl)
 | (apply s_gtr; exact rfl; all_goals (intro _; try (exfalso; omega)))
 | (apply s_eql; exact rfl; all_goals (intro _; try (exfalso; omega)))
 | (apply s_neq; exact rfl; all_goals (intro _; try (exfalso; omega)))
 | (apply s_cn; exact aO; exact e19 _)
 | (apply s_cn; exact aO; exact e26 _)
 | (apply s_cn; exact aO; exact e27 _)
 | (apply s_cn; exact aO; exact e21 _)
 | (apply s_cn; exact aO; exact e28 _)
 | (apply s_cn; exact aO; exact e29 _)
 | (apply s_cn; exact aO; exact e23 _)
 | (apply s_pd; exact aW)
 | (apply c_seq)
 | (apply c_reg)
 | (apply c_skip)
 | (apply c_ret)
 | (apply c_condT; exact rfl)
 | (apply c_condF; exact rfl)
 | (with_reducible apply k_c)
      all_goals first
        | (exfalso; omega)
        | exact fin_t (by (conv => lhs; whnf)) (by rfl) rfl
  · simp only [if_neg hsh] at e26 e27
    simp only [hsh, decide_false] at e28
    refine f_enter rfl rfl ?_
    generalize fzL w = vw at *
    generalize evF tab it 60000 = call at *
    repeat' first
 | (apply s_mov; exact aW)
 | (apply s_gT; exact rfl)
 | (apply c_nil)
 | (apply s_pickT; exact rfl; exact aW)
 | (apply s_notT; exact rfl)
 | (apply s_notF; exact rfl)
 | (apply s_eql; exact rfl; all_goals (intro _; try (exfalso; omega)))
 | (apply s_neq; exact rfl; all_goals (intro _; try (exfalso; omega)))
 | (apply s_cn; exact aO; exact e19 _)
 | (apply s_cn; exact aO; exact e26 _)
 | (apply s_cn; exact aO; exact e27 _)
 | (apply s_cn; exact aO; exact e21 _)
 | (apply s_cn; exact aO; exact e28 _)
 | (apply s_cn; exact aO; exact e23 _)
 | (apply s_pd; exact aW)
 | (apply c_seq)
 | (apply c_reg)
 | (apply c_skip)
 | (apply c_ret)
 | (apply c_condT; exact rfl)
 | (apply c_condF; exact rfl)
 | (with_reducible apply k_c)
    all_goals first
      | (exfalso; omega)
      | exact fin_t (by (conv => lhs; whnf)) (by rfl) rfl
end Go.AM.Tb
