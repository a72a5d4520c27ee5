/- A part of the proof: T4. -/
import Derived.Test.YtdgkchedoooffaaT3
set_option linter.unusedVariables false
set_option linter.unusedSimpArgs false
set_option linter.unusedSectionVars false
namespace Go.AM.Tb
set_option maxHeartbeats 1000000
def fi (Q : Int → Bool) : List Int → Nat → Int
  | [], _ => -1
  | x :: l, k => if Q x = true then k else fi Q l (k + 1)
theorem fi_pos (Q : Int → Bool) : ∀ (l : List Int) (k : Nat), 0 ≤ fi Q l k ↔ ∃ x ∈ l, Q x = true
  | [], k => by simp [fi]
  | x :: l, k => by
    have := fi_pos Q l (k + 1)
    simp only [fi]
    split
    · rename_i h; simp; exact .inl h
    · rename_i h; rw [this]; simp [h]
theorem drop_getI {F : List Int} {i : Nat} (h : i < F.length) : F.drop i = getI F i :: F.drop (i + 1) := by
  rw [getI_nat]
  simp [List.getD, h]
theorem f93 {x : AV} {F : List Int} {g : Nat} {Q : Int → Bool} (hx : IsL x F) (hl : F.length ≤ 1000) {m : Nat} (hm : 2000 ≤ m) (hg : ∀ v H, callPure (evF tab it m) true g [.int .i64 v] H = some (.bool (Q v), H)) :
    evF tab it (m + 1) 93 [x, .fn g []] [] = some (.int .i64 (fi Q F 0), []) := by
  have fx := hx.free
  generalize hR : fi Q F 0 = R
  refine f_enter rfl rfl ?_
  generalize evF tab it m = call at *
  repeat' first
 | (apply s_mov; exact aW)
 | (apply c_nil)
 | (apply s_len; exact aW; exact aI)
 | (apply c_seq)
 | (apply c_reg)
 | (apply c_block)
 | (with_reducible apply k_c)
  refine c_loop ?_
  refine loop_gc (σ := Nat) (fun i => [x, .fn g [], .int .i64 (F.length : Int), .int .i64 (i : Int)]) (fun _ => []) (fun i => i ≤ F.length ∧ fi Q (F.drop i) i = R) (fun i => F.length - i) ?_ _ 0 _ _ ⟨by omega, hR⟩ (by omega) (gc_to rfl (by simp [idFreeL, AV.idFree, fx]))
  intro i ⟨hi, hr⟩ K hK
  by_cases hiF : i < F.length
  · have ecv : evE call [] (.callv true true) [.fn g [], .int .i64 (getI F i)] = some (.bool (Q (getI F i)), []) := by
      simpa [evE] using hg (getI F i) []
    rw [drop_getI hiF] at hr
    simp only [fi] at hr
    cases hq : Q (getI F i) with
    | true =>
      rw [hq] at ecv
      rw [if_pos hq] at hr
      repeat' first
 | (apply s_mov; exact aW)
 | (apply c_nil)
 | (apply s_lss; exact rfl; all_goals (intro _; try (exfalso; omega)))
 | (apply s_en; exact aO; exact ecv)
 | (apply s_idx; exact aW; exact rfl; exact aI; omega)
 | (apply s_ldI; exact rfl; omega)
 | (apply c_seq)
 | (apply c_reg)
 | (apply c_block)
 | (apply c_skip)
 | (apply c_ret)
 | (apply c_condT; exact rfl)
 | (with_reducible apply k_c)
      all_goals exact fin_t (by (conv => lhs; whnf)) (by rfl) (by rw [hr])
    | false =>
      rw [hq] at ecv
      rw [if_neg (by rw [hq]; decide)] at hr
      repeat' first
 | (apply s_mov; exact aW)
 | (apply c_nil)
 | (apply s_lss; exact rfl; all_goals (intro _; try (exfalso; omega)))
 | (apply s_add; exact rfl; omega)
 | (apply s_en; exact aO; exact ecv)
 | (apply s_idx; exact aW; exact rfl; exact aI; omega)
 | (apply s_ldI; exact rfl; omega)
 | (apply c_seq)
 | (apply c_reg)
 | (apply c_block)
 | (apply c_skip)
 | (apply c_condT; exact rfl)
 | (apply c_condF; exact rfl)
 | (with_reducible apply k_c)
      all_goals exact hK (i + 1) _ _ ⟨by omega, hr⟩ (by omega) (gc_to rfl (by simp [idFreeL, AV.idFree, fx]))
  · obtain rfl : F.length = i := by omega
    rw [List.drop_length] at hr
    simp only [fi] at hr
    repeat' first
 | (apply s_mov; exact aW)
 | (apply c_nil)
 | (apply s_lss; exact rfl; all_goals (intro _; try (exfalso; omega)))
 | (apply c_seq)
 | (apply c_reg)
 | (apply c_exitH)
 | (apply c_ret)
 | (apply c_condF; exact rfl)
 | (apply c_preF; exact aK; exact aF)
 | (with_reducible apply k_c)
    exact fin_t (by (conv => lhs; whnf)) (by rfl) (by rw [← hr])
theorem f72 {x : AV} {F : List Int} {g : Nat} {Q : Int → Bool} (hx : IsL x F) (hl : F.length ≤ 1000) {m : Nat} (hm : 2000 ≤ m) (hg : ∀ v H, callPure (evF tab it m) true g [.int .i64 v] H = some (.bool (Q v), H)) :
    evF tab it (m + 2) 72 [x, .fn g []] [] = some (.bool (decide (∃ v ∈ F, Q v = true)), []) := by
  have e93 := fun H => callPure_free (H := H) (by simp [idFreeL, AV.idFree, hx.free]) (by simp) (f93 hx hl hm hg) rfl
  have hp := fi_pos Q F 0
  generalize fi Q F 0 = R at *
  refine f_enter rfl rfl ?_
  generalize evF tab it (m + 1) = call at *
  repeat' first
 | (apply s_mov; exact aW)
 | (apply c_nil)
 | (apply s_geq; exact rfl; all_goals (intro _; try (exfalso; omega)))
 | (apply s_cn; exact aO; exact e93 _)
 | (apply c_seq)
 | (apply c_reg)
 | (apply c_ret)
 | (with_reducible apply k_c)
  · exact fin_t (by (conv => lhs; whnf)) (by rfl) (leafT (hp.1 (by omega)))
  · exact fin_t (by (conv => lhs; whnf)) (by rfl) (leafF fun h => by have := hp.2 h; omega)
theorem f74 {m : Nat} (hm : 1 ≤ m) (v : Int) : evF tab it m 74 [.int .i64 v] [] = some (.bool (decide (0 ≤ v ∧ v ≤ 1000)), []) := by
  obtain ⟨m, rfl⟩ : ∃ j, m = j + 1 := ⟨m - 1, by omega⟩
  refine f_enter rfl rfl ?_
  repeat' first
 | (apply s_mov; exact aW)
 | (apply s_gT; exact rfl)
 | (apply s_gF; exact rfl)
 | (apply c_nil)
 | (apply s_pickT; exact rfl; exact aW)
 | (apply s_pickF; exact rfl; exact aW)
 | (apply s_leq; exact rfl; all_goals (intro _; try (exfalso; omega)))
 | (apply s_geq; exact rfl; all_goals (intro _; try (exfalso; omega)))
 | (apply c_seq)
 | (apply c_reg)
 | (apply c_ret)
 | (with_reducible apply k_c)
  all_goals refine fin_t (by (conv => lhs; whnf)) (by rfl) ?_
  all_goals first | exact leafT (by omega) | exact leafF (by omega)
theorem c74 {m : Nat} (hm : 1 ≤ m) (v : Int) (H : Heap) : callPure (evF tab it m) true 74 [.int .i64 v] H = some (.bool (decide (0 ≤ v ∧ v ≤ 1000)), H) := callPure_free rfl (by simp) (f74 hm v) rfl
theorem f73 {m : Nat} (hm : 2 ≤ m) (v : Int) : evF tab it m 73 [.int .i64 v] [] = some (.bool (!decide (0 ≤ v ∧ v ≤ 1000)), []) := by
  obtain ⟨m, rfl⟩ : ∃ j, m = j + 1 := ⟨m - 1, by omega⟩
  refine f_enter rfl rfl ?_
  repeat' first
 | (apply s_mov; exact aW)
 | (apply c_nil)
 | (apply s_notT; exact rfl)
 | (apply s_notF; exact rfl)
 | (apply isE; refine s_cB (by exact aO) (c74 (by omega) _ _) (fun _ => ?_) (fun _ => ?_))
 | (apply c_seq)
 | (apply c_reg)
 | (apply c_ret)
 | (with_reducible apply k_c)
  · exact fin_t (by (conv => lhs; whnf)) (by rfl) (by rename_i h; simp [h])
  · exact fin_t (by (conv => lhs; whnf)) (by rfl) (by rename_i h; simp [h])
theorem c73 {m : Nat} (hm : 2 ≤ m) (v : Int) (H : Heap) : callPure (evF tab it m) true 73 [.int .i64 v] H = some (.bool (!decide (0 ≤ v ∧ v ≤ 1000)), H) := callPure_free rfl (by simp) (f73 hm v) rfl
def IsW (l : List Int) : Prop := l.length ≤ 60 ∧ ∀ v ∈ l, 0 ≤ v ∧ v ≤ 1000
instance (l : List Int) : Decidable (IsW l) := by unfold IsW; exact inferInstance
theorem isw_iff (l : List Int) : IsW l ↔ l.length ≤ 60 ∧ ¬ ∃ v ∈ l, (!decide (0 ≤ v ∧ v ≤ 1000)) = true := by
  unfold IsW
  refine and_congr_right fun _ => ⟨fun h ⟨v, hv, hn⟩ => by have := h v hv; simp [this] at hn, fun h v hv => ?_⟩
  rcases Decidable.em (0 ≤ v ∧ v ≤ 1000) with h' | h'
  · exact h'
  · exact absurd ⟨v, hv, by simp [h']⟩ h
theorem isw_get (l : List Int) : IsW l ↔ l.length ≤ 60 ∧ ∀ j : Nat, j < l.length → 0 ≤ getI l j ∧ getI l j ≤ 1000 := by
  unfold IsW
  refine and_congr_right fun _ => ⟨fun h j hj => ?_, fun h v hv => ?_⟩
  · have := h _ (List.getElem_mem hj)
    rw [getI_nat]
    simpa [List.getD, hj] using this
  · obtain ⟨j, hj, rfl⟩ := List.getElem_of_mem hv
    have := h j hj
    rw [getI_nat] at this
    simpa [List.getD, hj] using this
theorem f52 {x : AV} {l : List Int} (hx : IsL x l) (hl : l.length ≤ 1000) {m : Nat} (hm : 2100 ≤ m) : evF tab it m 52 [x] [] = some (.bool (decide (IsW l)), []) := by
  obtain ⟨m, rfl⟩ : ∃ j, m = j + 1 := ⟨m - 1, by omega⟩
  have fx := hx.free
  have e72 := fun H => callPure_free (H := H) (by simp [idFreeL, AV.idFree, hx.free]) (by simp) (f72 (g := 73) (Q := fun v => !decide (0 ≤ v ∧ v ≤ 1000)) hx hl (m := m - 2) (by omega) (fun v H => c73 (by omega) v H)) rfl
  rw [show m - 2 + 2 = m by omega] at e72
  refine f_enter rfl rfl ?_
  generalize evF tab it m = call at *
  repeat' first
 | (apply s_mov; exact aW)
 | (apply s_gT; exact rfl)
 | (apply s_gF; exact rfl)
 | (apply s_gFD; exact rfl)
 | (apply c_nil)
 | (apply s_pickT; exact rfl; exact aW)
 | (apply s_pickF; exact rfl; exact aW)
 | (apply s_notT; exact rfl)
 | (apply s_notF; exact rfl)
 | (apply s_leq; exact rfl; all_goals (intro _; try (exfalso; omega)))
 | (apply isE; refine s_cB (by exact aO) (e72 _) (fun _ => ?_) (fun _ => ?_))
 | (apply s_len; exact aW; exact aI)
 | (apply c_seq)
 | (apply c_reg)
 | (apply c_ret)
 | (with_reducible apply k_c)
  all_goals refine fin_t (by (conv => lhs; whnf)) (by rfl) ?_
  all_goals first
    | exact leafT ((isw_iff l).2 ⟨by omega, by assumption⟩)
    | (refine leafF fun h => ?_
       have h := (isw_iff l).1 h
       first
         | (exact absurd (by assumption) h.2)
         | omega)
theorem f22 {x : AV} {l : List Int} (hx : IsL x l) (hl : l.length ≤ 1000) {m : Nat} (hm : 2100 ≤ m) : evF tab it m 22 [x] [] = some (.bool (decide (IsW l)), []) := by
  obtain ⟨m, rfl⟩ : ∃ j, m = j + 1 := ⟨m - 1, by omega⟩
  have fx := hx.free
  refine f_enter rfl rfl ?_
  repeat' first
 | (apply s_mov; exact aW)
 | (apply c_nil)
 | (apply c_seq)
 | (apply c_reg)
 | (apply c_block)
 | (with_reducible apply k_c)
  refine c_loop ?_
  refine loop_gc (σ := Nat) (fun i => [x, .int .i64 i]) (fun _ => []) (fun i => i ≤ l.length ∧ ∀ j : Nat, j < i → 0 ≤ getI l j ∧ getI l j ≤ 1000) (fun i => l.length - i) ?_ _ 0 _ _ ⟨by omega, by omega⟩ (by omega) (gc_to rfl (by simp [idFreeL, AV.idFree, *]; done))
  intro i ⟨hi, hb⟩ K hK
  repeat' first
 | (apply s_mov; exact aW)
 | (apply s_gT; exact rfl)
 | (apply s_gF; exact rfl)
 | (apply c_nil)
 | (apply s_pickT; exact rfl; exact aW)
 | (apply s_pickF; exact rfl; exact aW)
 | (apply s_lss; exact rfl; all_goals (intro _; try (exfalso; omega)))
 | (apply s_leq; exact rfl; all_goals (intro _; try (exfalso; omega)))
 | (apply s_gtr; exact rfl; all_goals (intro _; try (exfalso; omega)))
 | (apply s_add; exact rfl; omega)
 | (apply s_len; exact aW; exact aI)
 | (apply s_idx; exact aW; exact rfl; exact aI; omega)
 | (apply s_ldI; exact rfl; omega)
 | (apply c_seq)
 | (apply c_reg)
 | (apply c_block)
 | (apply c_exitH)
 | (apply c_skip)
 | (apply c_ret)
 | (apply c_condT; exact rfl)
 | (apply c_condF; exact rfl)
 | (apply c_preF; exact aK; exact aF)
 | (with_reducible apply k_c)
  all_goals first
    | (refine hK (i + 1) _ _ ⟨by omega, fun j hj => ?_⟩ (by omega) (gc_to rfl (by simp [idFreeL, AV.idFree, *]; done))
       rcases (by omega : j < i ∨ j = i) with h | rfl
       · exact hb j h
       · omega)
    | exact fin_t (by (conv => lhs; whnf)) (by rfl) (leafT ((isw_get l).2 ⟨by omega, fun j hj => hb j (by omega)⟩))
    | (refine fin_t (by (conv => lhs; whnf)) (by rfl) (leafF fun h => ?_)
       have h := (isw_get l).1 h
       first
         | omega
         | (have := h.2 i (by omega); omega))
end Go.AM.Tb
