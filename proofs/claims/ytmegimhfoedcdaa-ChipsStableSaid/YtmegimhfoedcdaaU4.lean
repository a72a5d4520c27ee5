/- A part of the proof: U4. -/
import Derived.Test.YtmegimhfoedcdaaU3
set_option linter.unusedSectionVars false
set_option linter.unusedVariables false
set_option linter.unusedSimpArgs false
namespace Go.AM.Ch
set_option maxHeartbeats 1000000
/-- the first place of what is asked for -/
def fi (Q : Int → Bool) : List Int → Nat → Int
  | [], _ => -1
  | x :: l, k => if Q x = true then k else fi Q l (k + 1)
theorem fi_pos (Q : Int → Bool) : ∀ (l : List Int) (k : Nat), 0 ≤ fi Q l k ↔ ∃ x ∈ l, Q x = true
  | [], k => by simp [fi]
  | x :: l, k => by
    have := fi_pos Q l (k + 1)
    simp only [fi]
    split
    · rename_i h; simp; exact .inl h
    · rename_i h; rw [this]; simp [h]
theorem drop_getI {F : List Int} {i : Nat} (h : i < F.length) : F.drop i = getI F i :: F.drop (i + 1) := by
  rw [getI_nat]
  simp [List.getD, h]
theorem f98 {x : AV} {F : List Int} {g : Nat} {Q : Int → Bool} (hx : IsL x F) (hl : F.length ≤ 1000) {m : Nat} (hm : 2000 ≤ m) (hg : ∀ v H, callPure (evF tab it m) true g [.int .i64 v] H = some (.bool (Q v), H)) :
    evF tab it (m + 1) 98 [x, .fn g []] [] = some (.int .i64 (fi Q F 0), []) := by
  have fx := hx.free
  generalize hR : fi Q F 0 = R
  refine f_enter rfl rfl ?_
  generalize evF tab it m = call at *
  repeat' first
 | (apply s_mov; (focus ((conv => lhs; whnf); done)))
 | (apply c_nil)
 | (apply s_len; (focus ((conv => lhs; whnf); done)); (first | assumption | (apply IsLL.at; assumption; omega)))
 | (apply c_seq)
 | (apply c_reg)
 | (apply c_block)
 | (with_reducible apply k_c)
  refine c_loop ?_
  refine loop_gc (σ := Nat) (fun i => [x, .fn g [], .int .i64 (F.length : Int), .int .i64 (i : Int)]) (fun _ => []) (fun i => i ≤ F.length ∧ fi Q (F.drop i) i = R) (fun i => F.length - i) ?_ _ 0 _ _ ⟨by omega, hR⟩ (by omega) (gc_to rfl (by simp [idFreeL, AV.idFree, fx]))
  intro i ⟨hi, hr⟩ K hK
  by_cases hiF : i < F.length
  · have ecv : evE call [] (.callv true true) [.fn g [], .int .i64 (getI F i)] = some (.bool (Q (getI F i)), []) := by
      simpa [evE] using hg (getI F i) []
    rw [drop_getI hiF] at hr
    simp only [fi] at hr
    cases hq : Q (getI F i) with
    | true =>
      rw [hq] at ecv
      rw [if_pos hq] at hr
      repeat' first
 | (apply s_mov; (focus ((conv => lhs; whnf); done)))
 | (apply c_nil)
 | ((first | apply s_lss | apply s_leq | apply s_gtr | apply s_geq | apply s_eql | apply s_neq); exact rfl; all_goals (intro _; try (exfalso; omega)))
 | (apply s_en; (focus (repeat (first | apply opds_nil | (apply opds_cons; (first | (focus ((conv => lhs; whnf); done)) | exact rfl))))); exact ecv)
 | (apply s_idx; (focus ((conv => lhs; whnf); done)); exact rfl; (first | assumption | (apply IsLL.at; assumption; omega)); omega)
 | (apply s_ldI; exact rfl; omega)
 | (apply c_seq)
 | (apply c_reg)
 | (apply c_block)
 | (apply c_skip)
 | (apply c_ret)
 | (apply c_condT; exact rfl)
 | (with_reducible apply k_c)
      all_goals exact fin_t (by (conv => lhs; whnf)) (by rfl) (by rw [hr])
    | false =>
      rw [hq] at ecv
      rw [if_neg (by rw [hq]; decide)] at hr
      repeat' first
 | (apply s_mov; (focus ((conv => lhs; whnf); done)))
 | (apply c_nil)
 | ((first | apply s_lss | apply s_leq | apply s_gtr | apply s_geq | apply s_eql | apply s_neq); exact rfl; all_goals (intro _; try (exfalso; omega)))
 | ((first | apply s_add | apply s_sub); exact rfl; omega)
 | (apply s_en; (focus (repeat (first | apply opds_nil | (apply opds_cons; (first | (focus ((conv => lhs; whnf); done)) | exact rfl))))); exact ecv)
 | (apply s_idx; (focus ((conv => lhs; whnf); done)); exact rfl; (first | assumption | (apply IsLL.at; assumption; omega)); omega)
 | (apply s_ldI; exact rfl; omega)
 | (apply c_seq)
 | (apply c_reg)
 | (apply c_block)
 | (apply c_skip)
 | (apply c_condT; exact rfl)
 | (apply c_condF; exact rfl)
 | (with_reducible apply k_c)
      all_goals exact hK (i + 1) _ _ ⟨by omega, hr⟩ (by omega) (gc_to rfl (by simp [idFreeL, AV.idFree, fx]))
  · obtain rfl : F.length = i := by omega
    rw [List.drop_length] at hr
    simp only [fi] at hr
    repeat' first
 | (apply s_mov; (focus ((conv => lhs; whnf); done)))
 | (apply c_nil)
 | ((first | apply s_lss | apply s_leq | apply s_gtr | apply s_geq | apply s_eql | apply s_neq); exact rfl; all_goals (intro _; try (exfalso; omega)))
 | (apply c_seq)
 | (apply c_reg)
 | (apply c_exitH)
 | (apply c_ret)
 | (apply c_condF; exact rfl)
 | (apply c_preF; (focus (repeat (first | apply looks_nil | (apply looks_cons; (focus ((conv => lhs; whnf); done)))))); (focus (simp [idFreeL, AV.idFree, *]; done)))
 | (with_reducible apply k_c)
    exact fin_t (by (conv => lhs; whnf)) (by rfl) (by rw [← hr])
/-- ContainsFunc -/
theorem f69 {x : AV} {F : List Int} {g : Nat} {Q : Int → Bool} (hx : IsL x F) (hl : F.length ≤ 1000) {m : Nat} (hm : 2000 ≤ m) (hg : ∀ v H, callPure (evF tab it m) true g [.int .i64 v] H = some (.bool (Q v), H)) :
    evF tab it (m + 2) 69 [x, .fn g []] [] = some (.bool (decide (∃ v ∈ F, Q v = true)), []) := by
  have e98 := fun H => callPure_free (H := H) (by simp [idFreeL, AV.idFree, hx.free]) (by simp) (f98 hx hl hm hg) rfl
  have hp := fi_pos Q F 0
  generalize fi Q F 0 = R at *
  refine f_enter rfl rfl ?_
  generalize evF tab it (m + 1) = call at *
  repeat' first
 | (apply s_mov; (focus ((conv => lhs; whnf); done)))
 | (apply c_nil)
 | ((first | apply s_lss | apply s_leq | apply s_gtr | apply s_geq | apply s_eql | apply s_neq); exact rfl; all_goals (intro _; try (exfalso; omega)))
 | (apply s_cn; (focus (repeat (first | apply opds_nil | (apply opds_cons; (first | (focus ((conv => lhs; whnf); done)) | exact rfl))))); exact e98 _)
 | (apply c_seq)
 | (apply c_reg)
 | (apply c_ret)
 | (with_reducible apply k_c)
  · exact fin_t (by (conv => lhs; whnf)) (by rfl) (leafT (hp.1 (by omega)))
  · exact fin_t (by (conv => lhs; whnf)) (by rfl) (leafF fun h => by have := hp.2 h; omega)
theorem f70 {m : Nat} (hm : 2 ≤ m) (v : Int) : evF tab it m 70 [.int .i64 v] [] = some (.bool (!decide (-1099511627776 ≤ v ∧ v ≤ 1099511627776)), []) := by
  obtain ⟨m, rfl⟩ : ∃ j, m = j + 1 := ⟨m - 1, by omega⟩
  refine f_enter rfl rfl ?_
  repeat' first
 | (apply s_mov; (focus ((conv => lhs; whnf); done)))
 | (apply c_nil)
 | (apply s_notT; exact rfl)
 | (apply s_notF; exact rfl)
 | (apply isE; refine s_cB (by (focus (repeat (first | apply opds_nil | (apply opds_cons; (first | (focus ((conv => lhs; whnf); done)) | exact rfl)))))) (c53 (by omega) _ _ _ _) (fun _ => ?_) (fun _ => ?_))
 | (apply c_seq)
 | (apply c_reg)
 | (apply c_ret)
 | (with_reducible apply k_c)
  · exact fin_t (by (conv => lhs; whnf)) (by rfl) (by rename_i h; simp [h])
  · exact fin_t (by (conv => lhs; whnf)) (by rfl) (by rename_i h; simp [h])
theorem c70 {m : Nat} (hm : 2 ≤ m) (v : Int) (H : Heap) : callPure (evF tab it m) true 70 [.int .i64 v] H = some (.bool (!decide (-1099511627776 ≤ v ∧ v ≤ 1099511627776)), H) := callPure_free rfl (by simp) (f70 hm v) rfl
theorem f104 {m : Nat} (hm : 2 ≤ m) (v : Int) : evF tab it m 104 [.int .i64 v] [] = some (.bool (!decide (-1048576 ≤ v ∧ v ≤ 1048576)), []) := by
  obtain ⟨m, rfl⟩ : ∃ j, m = j + 1 := ⟨m - 1, by omega⟩
  refine f_enter rfl rfl ?_
  repeat' first
 | (apply s_mov; (focus ((conv => lhs; whnf); done)))
 | (apply c_nil)
 | (apply s_notT; exact rfl)
 | (apply s_notF; exact rfl)
 | (apply isE; refine s_cB (by (focus (repeat (first | apply opds_nil | (apply opds_cons; (first | (focus ((conv => lhs; whnf); done)) | exact rfl)))))) (c53 (by omega) _ _ _ _) (fun _ => ?_) (fun _ => ?_))
 | (apply c_seq)
 | (apply c_reg)
 | (apply c_ret)
 | (with_reducible apply k_c)
  · exact fin_t (by (conv => lhs; whnf)) (by rfl) (by rename_i h; simp [h])
  · exact fin_t (by (conv => lhs; whnf)) (by rfl) (by rename_i h; simp [h])
theorem c104 {m : Nat} (hm : 2 ≤ m) (v : Int) (H : Heap) : callPure (evF tab it m) true 104 [.int .i64 v] H = some (.bool (!decide (-1048576 ≤ v ∧ v ≤ 1048576)), H) := callPure_free rfl (by simp) (f104 hm v) rfl
end Go.AM.Ch
