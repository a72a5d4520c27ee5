/- A part of the proof: S20. -/
import Derived.Test.YtbjkmejlecoebaaS19
set_option linter.unusedSectionVars false
set_option linter.unusedVariables false
set_option linter.unusedSimpArgs false
namespace Go.AM.Pr
open Go.AM.Num
theorem getI_ext' {a b : List Int} (hl : a.length = b.length) (h : ∀ j : Nat, j < a.length → getI a j = getI b j) : a = b := by
  refine List.ext_getElem hl fun i h1 h2 => ?_
  have := h i h1
  rw [getI_nat, getI_nat] at this
  simpa [List.getD, h1, h2] using this
theorem f27 {x y : AV} {a b : List Int} (hx : IsL x a) (hy : IsL y b) (ha : a.length < 100) (m : Nat) (hm : 102 ≤ m) : evF tab it m 27 [x, y] [] = some (.bool (decide (a = b)), []) := by
  obtain ⟨m, rfl⟩ : ∃ j, m = j + 1 := ⟨m - 1, by omega⟩
  have fx := hx.free
  have fy := hy.free
  refine f_enter rfl rfl ?_
  repeat' first
 | (apply s_mov; (focus ((conv => lhs; whnf); done)))
 | (apply c_nil)
 | ((first | apply s_lss | apply s_leq | apply s_gtr | apply s_geq | apply s_eql | apply s_neq); exact rfl; all_goals (intro _; try (exfalso; omega)))
 | (apply s_len; (focus ((conv => lhs; whnf); done)); (first | assumption | (apply IsLL.at; assumption; omega)))
 | (apply c_seq)
 | (apply c_reg)
 | (apply c_block)
 | (apply c_skip)
 | (apply c_ret)
 | (apply c_condT; exact rfl)
 | (apply c_condF; exact rfl)
 | (with_reducible apply k_c)
  · refine c_loop ?_
    refine loop_gc (σ := Nat) (fun i => [x, y, .int .i64 i]) (fun _ => []) (fun i => i ≤ a.length ∧ ∀ j : Nat, j < i → getI a j = getI b j) (fun i => a.length - i) ?_ _ 0 _ _ ⟨by omega, by omega⟩ (by omega) (gc_to rfl (by simp [idFreeL, AV.idFree, *]; done))
    intro i ⟨hi, hb⟩ K hK
    repeat' first
 | (apply s_mov; (focus ((conv => lhs; whnf); done)))
 | (apply c_nil)
 | ((first | apply s_lss | apply s_leq | apply s_gtr | apply s_geq | apply s_eql | apply s_neq); exact rfl; all_goals (intro _; try (exfalso; omega)))
 | ((first | apply s_add | apply s_sub); exact rfl; omega)
 | (apply s_len; (focus ((conv => lhs; whnf); done)); (first | assumption | (apply IsLL.at; assumption; omega)))
 | (apply s_idx; (focus ((conv => lhs; whnf); done)); exact rfl; (first | assumption | (apply IsLL.at; assumption; omega)); omega)
 | (apply s_ldI; exact rfl; omega)
 | (apply c_seq)
 | (apply c_reg)
 | (apply c_block)
 | (apply c_exitH)
 | (apply c_skip)
 | (apply c_ret)
 | (apply c_condT; exact rfl)
 | (apply c_condF; exact rfl)
 | (apply c_preF; (focus (repeat (first | apply looks_nil | (apply looks_cons; (focus ((conv => lhs; whnf); done)))))); (focus (simp [idFreeL, AV.idFree, *]; done)))
 | (with_reducible apply k_c)
    · refine hK (i + 1) _ _ ⟨by omega, fun j hj => ?_⟩ (by omega) (gc_to rfl (by simp [idFreeL, AV.idFree, *]; done))
      rcases (by omega : j < i ∨ j = i) with h | rfl
      · exact hb j h
      · assumption
    · refine fin_t (by (conv => lhs; whnf)) (by rfl) (leafF fun h => ?_)
      subst h; contradiction
    · refine fin_t (by (conv => lhs; whnf)) (by rfl) (leafT ?_)
      refine List.ext_getElem (by omega) fun j h1 h2 => ?_
      have := hb j (by omega)
      simpa [getI, h1, h2] using this
  · refine fin_t (by (conv => lhs; whnf)) (by rfl) (leafF fun h => ?_)
    subst h; contradiction
theorem c27 {x y : AV} {a b : List Int} (hx : IsL x a) (hy : IsL y b) (ha : a.length < 100) {m : Nat} (hm : 102 ≤ m) (H : Heap) : callPure (evF tab it m) true 27 [x, y] H = some (.bool (decide (a = b)), H) :=
  callPure_free (by simp [idFreeL, hx.free, hy.free]) (by simp) (f27 hx hy ha m hm) rfl


theorem e_appT {call : CallF} {H : Heap} {v : AV} {l : List Int} (h : IsL v l) (hl : l.length ≤ most) : evE call H (.app true 1 8) [.nilS, v] = some (fzL l, H) := by
  cases h with
  | nil => simp [evE, appOf, szOk, lenOf, AV.idFree, fzL]
  | rd l =>
    cases l with
    | nil => simp [evE, appOf, szOk, lenOf, AV.idFree, fzL, iL]
    | cons a r =>
      have : (a :: r).length = r.length + 1 := rfl
      rw [this] at hl
      simp [evE, appOf, szOk, lenOf, rowOf, killRow, newRow, hl, fzL, iL]
theorem p_mn40 {H : Heap} {n : Nat} {k : Nat} (h : k = min n 40) : evP H .mn [.int .i64 (n : Int), .int .i64 40] = some (.int .i64 (k : Int)) := by
  subst h
  simp only [evP, mnOf]
  split
  · rename_i h; congr 2; omega
  · rename_i h; congr 2; omega
theorem f6 {x y : AV} {R M : List Int} (hx : IsL x R) (hy : IsL y M) : ∃ m H', evF tab it m 6 [x, y] [] = some (.bool true, H') := by
  refine ⟨60001, [], ?_⟩
  have h18 := c18
  have fx := hx.free; have fy := hy.free
  have m1 := fun H => p_mn40 (H := H) (n := R.length) rfl
  have m2 := fun H => p_mn40 (H := H) (n := M.length) rfl
  have s1 := fun H => p_slc0 (H := H) (q := .i64) (h := ((min R.length 40 : Nat) : Int)) hx ⟨by omega, by omega⟩
  have s2 := fun H => p_slc0 (H := H) (q := .i64) (h := ((min M.length 40 : Nat) : Int)) hy ⟨by omega, by omega⟩
  have i1 := isL_tk (h := ((min R.length 40 : Nat) : Int)) hx ⟨by omega, by omega⟩
  have i2 := isL_tk (h := ((min M.length 40 : Nat) : Int)) hy ⟨by omega, by omega⟩
  have l1 : (R.take ((min R.length 40 : Nat) : Int).toNat).length ≤ 40 := by simp; omega
  have l2 : (M.take ((min M.length 40 : Nat) : Int).toNat).length ≤ 40 := by simp; omega
  generalize R.take ((min R.length 40 : Nat) : Int).toNat = A at *
  generalize M.take ((min M.length 40 : Nat) : Int).toNat = B at *
  generalize tkL x ((min R.length 40 : Nat) : Int) = tx at *
  generalize tkL y ((min M.length 40 : Nat) : Int) = ty at *
  generalize min R.length 40 = nx at *
  generalize min M.length 40 = ny at *
  have a1 := fun call H => e_appT (call := call) (H := H) i1 (by unfold most; omega)
  have a2 := fun call H => e_appT (call := call) (H := H) i2 (by unfold most; omega)
  have a3 := fun call H => e_appT (call := call) (H := H) (isL_fz A) (by unfold most; omega)
  have a4 := fun call H => e_appT (call := call) (H := H) (isL_fz B) (by unfold most; omega)
  have e25 := fun H => c25 (isL_fz A) (isL_fz B) (m := 60000) (by omega) H
  have e26 := fun H => c26 (isL_fz A) (isL_fz B) (m := 60000) (by omega) H
  have e27 := fun H => c27 (isL_fz A) (isL_fz A) (by omega) (m := 60000) (by omega) H
  have e28 := fun H => c27 (isL_fz B) (isL_fz B) (by omega) (m := 60000) (by omega) H
  simp only [decide_true] at e27 e28
  have hcom : ∃ p q e : Int, comR A B = [.int .i64 p, .int .i64 q, .int .i64 e] := by
    unfold comR; split <;> (try split) <;> exact ⟨_, _, _, rfl⟩
  obtain ⟨p, q, e, hc⟩ := hcom
  rw [hc] at e25 e26
  refine f_enter rfl rfl ?_
  generalize evF tab it 60000 = call at *
  generalize fzL A = fa at *
  generalize fzL B = fb at *
  repeat' first
 | (apply s_mov; (focus ((conv => lhs; whnf); done)))
 | (apply s_gT; exact rfl)
 | (apply c_nil)
 | (apply s_pickT; exact rfl; (focus ((conv => lhs; whnf); done)))
 | ((first | apply s_lss | apply s_leq | apply s_gtr | apply s_geq | apply s_eql | apply s_neq); exact rfl; all_goals (intro _; try (exfalso; omega)))
 | (apply s_pn; (focus (repeat (first | apply opds_nil | (apply opds_cons; (first | (focus ((conv => lhs; whnf); done)) | exact rfl))))); exact m1 _)
 | (apply s_pn; (focus (repeat (first | apply opds_nil | (apply opds_cons; (first | (focus ((conv => lhs; whnf); done)) | exact rfl))))); exact m2 _)
 | (apply s_pn; (focus (repeat (first | apply opds_nil | (apply opds_cons; (first | (focus ((conv => lhs; whnf); done)) | exact rfl))))); exact s1 _)
 | (apply s_pn; (focus (repeat (first | apply opds_nil | (apply opds_cons; (first | (focus ((conv => lhs; whnf); done)) | exact rfl))))); exact s2 _)
 | (apply s_en; (focus (repeat (first | apply opds_nil | (apply opds_cons; (first | (focus ((conv => lhs; whnf); done)) | exact rfl))))); exact a1 _ _)
 | (apply s_en; (focus (repeat (first | apply opds_nil | (apply opds_cons; (first | (focus ((conv => lhs; whnf); done)) | exact rfl))))); exact a2 _ _)
 | (apply s_en; (focus (repeat (first | apply opds_nil | (apply opds_cons; (first | (focus ((conv => lhs; whnf); done)) | exact rfl))))); exact a3 _ _)
 | (apply s_en; (focus (repeat (first | apply opds_nil | (apply opds_cons; (first | (focus ((conv => lhs; whnf); done)) | exact rfl))))); exact a4 _ _)
 | (apply s_cn; (focus (repeat (first | apply opds_nil | (apply opds_cons; (first | (focus ((conv => lhs; whnf); done)) | exact rfl))))); exact e25 _)
 | (apply s_cn; (focus (repeat (first | apply opds_nil | (apply opds_cons; (first | (focus ((conv => lhs; whnf); done)) | exact rfl))))); exact e26 _)
 | (apply s_cn; (focus (repeat (first | apply opds_nil | (apply opds_cons; (first | (focus ((conv => lhs; whnf); done)) | exact rfl))))); exact e27 _)
 | (apply s_cn; (focus (repeat (first | apply opds_nil | (apply opds_cons; (first | (focus ((conv => lhs; whnf); done)) | exact rfl))))); exact e28 _)
 | (apply s_cn; (focus (repeat (first | apply opds_nil | (apply opds_cons; (first | (focus ((conv => lhs; whnf); done)) | exact rfl))))); exact h18 _)
 | (apply s_len; (focus ((conv => lhs; whnf); done)); (first | assumption | (apply IsLL.at; assumption; omega)))
 | (apply s_pd; (focus ((conv => lhs; whnf); done)))
 | (apply c_seq)
 | (apply c_reg)
 | (apply c_ret)
 | (with_reducible apply k_c)
  all_goals first | exact fin_t (by (conv => lhs; whnf)) (by rfl) rfl | (exfalso; omega)
end Go.AM.Pr
