/- A part of the proof: Q47. -/
import Derived.Test.YtmeajfgjbebkiaaQ46
import Derived.Test.YtmeajfgjbebkiaaQ43
set_option linter.unusedSectionVars false
set_option linter.unusedVariables false
set_option linter.unusedSimpArgs false
namespace Go.AM.Pa
/-! ContainsFunc -/
theorem c68 {w mo : AV} {W : List Int} (hw : IsL w W) {u : Int} {v : Nat} (hu : 0 ≤ u ∧ u < W.length) (hv : v < W.length) {m : Nat} (hm : 1 ≤ m) (H : Heap) :
    callPure (evF tab it m) true 68 [.int .i64 u, .rp [w, mo], .rp [.int .i64 (v : Int)]] H = some (.bool (decide (¬ getI W u = getI W v)), H) := by
  have fw := hw.free
  refine callPure_free (by simp [idFreeL, AV.idFree]) (by simp) (H1 := []) ?_ rfl
  obtain ⟨m, rfl⟩ : ∃ j, m = j + 1 := ⟨m - 1, by omega⟩
  refine f_enter rfl rfl ?_
  repeat' first
 | (apply s_mov; (focus ((conv => lhs; whnf); done)))
 | (apply c_nil)
 | ((first | apply s_lss | apply s_leq | apply s_gtr | apply s_geq | apply s_eql | apply s_neq); exact rfl; all_goals (intro _; try (exfalso; omega)))
 | (apply s_idx; (focus ((conv => lhs; whnf); done)); exact rfl; (first | assumption | (apply IsLL.at; assumption; omega)); omega)
 | (apply s_ldI; exact rfl; omega)
 | (apply s_pd; (focus ((conv => lhs; whnf); done)))
 | (apply c_seq)
 | (apply c_reg)
 | (apply c_ret)
 | (with_reducible apply k_c)
  · exact fin_t rfl rfl (leafF (by simpa using (by assumption)))
  · exact fin_t rfl rfl (leafT (by assumption))
theorem f73g {x cf : AV} {l : List Int} {q : Int → Bool} (hx : IsL x l) (ff : cf.idFree = true) (hl : l.length < 50) {m : Nat} (hm : 51 ≤ m) (cv : ∀ H (j : Nat), j < l.length → evE (evF tab it m) H (.callv true true) [cf, .int .i64 (getI l j)] = some (.bool (q (getI l j)), H)) :
    evF tab it (m + 1) 73 [x, cf] [] = some (.int .i64 (match l.findIdx? q with | some j => (j : Int) | none => -1), []) := by
  have fx := hx.free
  refine f_enter rfl rfl ?_
  repeat' first
 | (apply s_mov; (focus ((conv => lhs; whnf); done)))
 | (apply c_nil)
 | (apply s_len; (focus ((conv => lhs; whnf); done)); (first | assumption | (apply IsLL.at; assumption; omega)))
 | (apply c_seq)
 | (apply c_reg)
 | (apply c_block)
 | (with_reducible apply k_c)
  refine c_loop ?_
  refine loop_gc (σ := Nat) (fun i => [x, cf, .int .i64 l.length, .int .i64 i]) (fun _ => []) (fun i => i ≤ l.length ∧ ∀ j : Nat, j < i → q (getI l j) = false) (fun i => l.length - i) ?_ _ 0 _ _ ⟨by omega, by omega⟩ (by omega) (gc_to rfl (by simp [idFreeL, AV.idFree, *]; done))
  intro i ⟨hi, hbb⟩ K hK
  have hnone : i = l.length → l.findIdx? q = none := fun e => by
    rw [List.findIdx?_eq_none_iff]
    intro u hu
    obtain ⟨j, hj, rfl⟩ := List.getElem_of_mem hu
    have := hbb j (by omega)
    rw [getI_nat] at this
    simpa [List.getD, hj] using this
  cases hgb : q (getI l i)
  · have k2 : i < l.length → ∀ H, evE (evF tab it m) H (.callv true true) [cf, .int .i64 (getI l i)] = some (.bool false, H) := fun h H => by have := cv H i h; rw [hgb] at this; exact this
    repeat' first
 | (apply s_mov; (focus ((conv => lhs; whnf); done)))
 | (apply c_nil)
 | ((first | apply s_lss | apply s_leq | apply s_gtr | apply s_geq | apply s_eql | apply s_neq); exact rfl; all_goals (intro _; try (exfalso; omega)))
 | ((first | apply s_add | apply s_sub); exact rfl; omega)
 | (apply s_en; (focus (repeat (first | apply opds_nil | (apply opds_cons; (first | (focus ((conv => lhs; whnf); done)) | exact rfl))))); exact k2 (by omega) _)
 | (apply s_idx; (focus ((conv => lhs; whnf); done)); exact rfl; (first | assumption | (apply IsLL.at; assumption; omega)); omega)
 | (apply s_ldI; exact rfl; omega)
 | (apply c_seq)
 | (apply c_reg)
 | (apply c_block)
 | (apply c_exitH)
 | (apply c_skip)
 | (apply c_ret)
 | (apply c_condT; exact rfl)
 | (apply c_condF; exact rfl)
 | (apply c_preF; (focus (repeat (first | apply looks_nil | (apply looks_cons; (focus ((conv => lhs; whnf); done)))))); (focus (simp [idFreeL, AV.idFree, *]; done)))
 | (with_reducible apply k_c)
    · refine hK (i + 1) _ _ ⟨by omega, fun j hj => ?_⟩ (by omega) (gc_to rfl (by simp [idFreeL, AV.idFree, *]; done))
      rcases (by omega : j < i ∨ j = i) with h | rfl
      · exact hbb j h
      · exact hgb
    · rw [hnone (by omega)]
      exact fin_t rfl rfl rfl
  · have k2 : i < l.length → ∀ H, evE (evF tab it m) H (.callv true true) [cf, .int .i64 (getI l i)] = some (.bool true, H) := fun h H => by have := cv H i h; rw [hgb] at this; exact this
    repeat' first
 | (apply s_mov; (focus ((conv => lhs; whnf); done)))
 | (apply c_nil)
 | ((first | apply s_lss | apply s_leq | apply s_gtr | apply s_geq | apply s_eql | apply s_neq); exact rfl; all_goals (intro _; try (exfalso; omega)))
 | (apply s_en; (focus (repeat (first | apply opds_nil | (apply opds_cons; (first | (focus ((conv => lhs; whnf); done)) | exact rfl))))); exact k2 (by omega) _)
 | (apply s_idx; (focus ((conv => lhs; whnf); done)); exact rfl; (first | assumption | (apply IsLL.at; assumption; omega)); omega)
 | (apply s_ldI; exact rfl; omega)
 | (apply c_seq)
 | (apply c_reg)
 | (apply c_block)
 | (apply c_exitH)
 | (apply c_skip)
 | (apply c_ret)
 | (apply c_condT; exact rfl)
 | (apply c_condF; exact rfl)
 | (apply c_preF; (focus (repeat (first | apply looks_nil | (apply looks_cons; (focus ((conv => lhs; whnf); done)))))); (focus (simp [idFreeL, AV.idFree, *]; done)))
 | (with_reducible apply k_c)
    · have hil : i < l.length := by omega
      have : l.findIdx? q = some i := by
        rw [List.findIdx?_eq_some_iff_getElem]
        refine ⟨hil, ?_, fun j hj => ?_⟩
        · rw [getI_nat] at hgb; simpa [List.getD, hil] using hgb
        · have := hbb j hj
          rw [getI_nat] at this
          simpa [List.getD, show j < l.length by omega] using this
      rw [this]
      exact fin_t rfl rfl rfl
    · rw [hnone (by omega)]
      exact fin_t rfl rfl rfl
theorem f67 {x w mo : AV} {l W : List Int} (hx : IsL x l) (hw : IsL w W) (hl : l.length < 50) {v : Nat} (hv : v < W.length) (hu : ∀ u ∈ l, 0 ≤ u ∧ u < W.length) {m : Nat} (hm : 53 ≤ m) :
    evF tab it m 67 [x, .fn 68 [.rp [w, mo], .rp [.int .i64 (v : Int)]]] [] = some (.bool (decide (∃ u ∈ l, ¬ getI W u = getI W v)), []) := by
  obtain ⟨m, rfl⟩ : ∃ j, m = j + 1 + 1 := ⟨m - 2, by omega⟩
  have fx := hx.free
  have ff : AV.idFree (.fn 68 [.rp [w, mo], .rp [.int .i64 (v : Int)]]) = true := by simp [AV.idFree, idFreeL]
  have h73 := f73g (q := fun u => decide (¬ getI W u = getI W v)) hx ff hl (m := m) (by omega) fun H j hj => c68 hw (hu _ (getI_memB hj)) hv (by omega) H
  have h73c := fun H => callPure_free (H := H) (args := [x, .fn 68 [.rp [w, mo], .rp [.int .i64 (v : Int)]]]) (by simp [idFreeL, fx, ff]) (by simp) h73 rfl
  rcases hf : l.findIdx? (fun u => decide (¬ getI W u = getI W v)) with _ | j
  · rw [hf] at h73c
    rw [List.findIdx?_eq_none_iff] at hf
    have hno : ¬ ∃ u ∈ l, ¬ getI W u = getI W v := fun ⟨u, h1, h2⟩ => by
      have := hf u h1
      simp [h2] at this
    rw [decide_eq_false hno]
    simp only at h73c
    refine f_enter rfl rfl ?_
    generalize evF tab it (m + 1) = call at *
    repeat' first
 | (apply s_mov; (focus ((conv => lhs; whnf); done)))
 | (apply c_nil)
 | ((first | apply s_lss | apply s_leq | apply s_gtr | apply s_geq | apply s_eql | apply s_neq); exact rfl; all_goals (intro _; try (exfalso; omega)))
 | (apply s_cn; (focus (repeat (first | apply opds_nil | (apply opds_cons; (first | (focus ((conv => lhs; whnf); done)) | exact rfl))))); exact h73c _)
 | (apply c_seq)
 | (apply c_reg)
 | (apply c_ret)
 | (with_reducible apply k_c)
    exact fin_t rfl rfl rfl
  · rw [hf] at h73c
    rw [List.findIdx?_eq_some_iff_getElem] at hf
    obtain ⟨h1, h2, -⟩ := hf
    have hyes : ∃ u ∈ l, ¬ getI W u = getI W v := ⟨_, List.getElem_mem h1, by simpa using h2⟩
    rw [decide_eq_true hyes]
    simp only at h73c
    refine f_enter rfl rfl ?_
    generalize evF tab it (m + 1) = call at *
    repeat' first
 | (apply s_mov; (focus ((conv => lhs; whnf); done)))
 | (apply c_nil)
 | ((first | apply s_lss | apply s_leq | apply s_gtr | apply s_geq | apply s_eql | apply s_neq); exact rfl; all_goals (intro _; try (exfalso; omega)))
 | (apply s_cn; (focus (repeat (first | apply opds_nil | (apply opds_cons; (first | (focus ((conv => lhs; whnf); done)) | exact rfl))))); exact h73c _)
 | (apply c_seq)
 | (apply c_reg)
 | (apply c_ret)
 | (with_reducible apply k_c)
    exact fin_t rfl rfl rfl
theorem c67 {x w mo : AV} {l W : List Int} (hx : IsL x l) (hw : IsL w W) (fm : mo.idFree = true) (hl : l.length < 50) {v : Nat} (hv : v < W.length) (hu : ∀ u ∈ l, 0 ≤ u ∧ u < W.length) {a b : Nat} {m : Nat} (hm : 53 ≤ m) {H : Heap} (h1 : H[a]? = some (some (.box [w, mo]))) (h2 : H[b]? = some (some (.data [.int .i64 (v : Int)]))) :
    callPure (evF tab it m) true 67 [x, .fn 68 [.ptr a 0, .ptr b 0]] H = some (.bool (decide (∃ u ∈ l, ¬ getI W u = getI W v)), H) := by
  have fw := hw.free
  have e1 : frzL H 40 [x, .fn 68 [.ptr a 0, .ptr b 0]] = some [x, .fn 68 [.rp [w, mo], .rp [.int .i64 (v : Int)]]] := by
    simp [frzL_cons, frzL_nil, frzV_fn, frzV_ptr, frzV_int, frzV_free, AV.idFree, idFreeL, fw, fm, hx.free, h1, h2]
  simp only [callPure, e1, Option.bind_some, f67 hx hw hl hv hu hm]
  simp [AV.hasRd, frzV_bool]
end Go.AM.Pa
