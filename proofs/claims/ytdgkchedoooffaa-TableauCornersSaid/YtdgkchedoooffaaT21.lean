/- A part of the proof: T21. -/
import Derived.Test.YtdgkchedoooffaaT20
set_option linter.unusedVariables false
set_option linter.unusedSimpArgs false
set_option linter.unusedSectionVars false
namespace Go.AM.Tb
set_option maxHeartbeats 4000000
theorem pred_i {i : Nat} (h : 0 < i) : ((i - 1 : Nat) : Int) = (i : Int) - 1 := by omega
theorem sh_i {l : List Int} (h : IsSh l) {i : Nat} (hi : i < l.length) : 1 ≤ getI l (i : Int) ∧ (0 < (i : Int) → getI l (i : Int) ≤ getI l ((i : Int) - 1)) := by
  have := h i hi
  refine ⟨this.1, fun h0 => ?_⟩
  have := this.2 (by omega)
  rwa [pred_i (by omega)] at this
theorem f76 {x : AV} {l : List Int} (hx : IsL x l) (hl : l.length ≤ 1000) {m : Nat} (hm : 1010 ≤ m) : evF tab it m 76 [x] [] = some (.bool (decide (IsSh l)), []) := by
  obtain ⟨m, rfl⟩ : ∃ j, m = j + 1 := ⟨m - 1, by omega⟩
  have fx := hx.free
  refine f_enter rfl rfl ?_
  repeat' first
 | (apply s_mov; exact aW)
 | (apply c_nil)
 | (apply s_len; exact aW; exact aI)
 | (apply c_seq)
 | (apply c_reg)
 | (apply c_block)
 | (with_reducible apply k_c)
  refine c_loop ?_
  refine loop_gc (σ := Nat) (fun i => [x, x, .int .i64 l.length, .int .i64 i]) (fun _ => []) (fun i => i ≤ l.length ∧ ∀ j : Nat, j < i → 1 ≤ getI l (j : Int) ∧ (0 < j → getI l (j : Int) ≤ getI l ((j - 1 : Nat) : Int))) (fun i => l.length - i) ?_ _ 0 _ _ ⟨by omega, by omega⟩ (by omega) (gc_to rfl (by simp [idFreeL, AV.idFree, *]; done))
  intro i ⟨hi, hb⟩ K hK
  repeat' first
 | (apply s_mov; exact aW)
 | (apply s_gT; exact rfl)
 | (apply s_gF; exact rfl)
 | (apply c_nil)
 | (apply s_pickT; exact rfl; exact aW)
 | (apply s_pickF; exact rfl; exact aW)
 | (apply s_lss; exact rfl; all_goals (intro _; try (exfalso; omega)))
 | (apply s_gtr; exact rfl; all_goals (intro _; try (exfalso; omega)))
 | (apply s_add; exact rfl; omega)
 | (apply s_sub; exact rfl; omega)
 | (apply s_idx; exact aW; exact rfl; exact aI; omega)
 | (apply s_ldI; exact rfl; omega)
 | (apply c_seq)
 | (apply c_reg)
 | (apply c_block)
 | (apply c_exitH)
 | (apply c_skip)
 | (apply c_ret)
 | (apply c_condT; exact rfl)
 | (apply c_condF; exact rfl)
 | (apply c_preF; exact aK; exact aF)
 | (with_reducible apply k_c)
  all_goals first
    | (refine hK (i + 1) _ _ ⟨by omega, fun j hj => ?_⟩ (by omega) (gc_to rfl (by simp [idFreeL, AV.idFree, *]; done))
       rcases (by omega : j < i ∨ j = i) with h | rfl
       · exact hb j h
       · refine ⟨by omega, fun h0 => ?_⟩
         rw [pred_i h0]
         omega)
    | exact fin_t (by (conv => lhs; whnf)) (by rfl) (leafT fun j hj => hb j (by omega))
    | (refine fin_t (by (conv => lhs; whnf)) (by rfl) (leafF fun h => ?_)
       have h := sh_i h (i := i) (by omega)
       first
         | omega
         | (have := h.2 (by omega); omega))
theorem c76 {x : AV} {l : List Int} (hx : IsL x l) (hl : l.length ≤ 1000) {m : Nat} (hm : 1010 ≤ m) (H : Heap) : callPure (evF tab it m) true 76 [x] H = some (.bool (decide (IsSh l)), H) := callPure_free (by simp [idFreeL, hx.free]) (by simp) (f76 hx hl hm) rfl
theorem sN_mono {f : Nat → Nat} : ∀ {a b : Nat}, a ≤ b → sN a f ≤ sN b f
  | a, 0, h => by have e : a = 0 := by omega
                  rw [e]; exact Nat.le_refl _
  | a, b + 1, h => by
    rcases Nat.lt_or_ge b a with h1 | h1
    · obtain rfl : a = b + 1 := by omega
      exact Nat.le_refl _
    · have := sN_mono (f := f) h1
      rw [sN]; omega
theorem f55 {x : AV} {l : List Int} (hx : IsL x l) (hl : l.length ≤ 1000) {m : Nat} (hm : 1020 ≤ m) : evF tab it m 55 [x] [] = some (.int .i64 (if IsSh l then (if siz l ≤ 30 then 0 else 5) else 2), []) := by
  obtain ⟨m, rfl⟩ : ∃ j, m = j + 1 := ⟨m - 1, by omega⟩
  have fx := hx.free
  have e76 := fun H => c76 hx hl (m := m) (by omega) H
  refine f_enter rfl rfl ?_
  generalize evF tab it m = call at *
  by_cases h : IsSh l
  · rw [if_pos h]
    simp only [h, decide_true] at e76
    repeat' first
 | (apply s_mov; exact aW)
 | (apply c_nil)
 | (apply s_notT; exact rfl)
 | (apply s_cn; exact aO; exact e76 _)
 | (apply s_len; exact aW; exact aI)
 | (apply c_seq)
 | (apply c_reg)
 | (apply c_block)
 | (apply c_skip)
 | (apply c_condF; exact rfl)
 | (with_reducible apply k_c)
    refine c_loop ?_
    refine loop_gc (σ := Nat) (fun i => [.int .i64 (sN i (lam l) : Nat), x, .int .i64 l.length, .int .i64 i]) (fun _ => []) (fun i => i ≤ l.length ∧ sN i (lam l) ≤ 30) (fun i => l.length - i) ?_ _ 0 _ _ ⟨by omega, by simp [sN]⟩ (by omega) (gc_to rfl (by simp [idFreeL, AV.idFree, *]; done))
    intro i ⟨hi, hb⟩ K hK
    by_cases hil : i < l.length
    · have hp := h.pos hil
      have hs : sN (i + 1) (lam l) = sN i (lam l) + lam l i := rfl
      have hm := sN_mono (f := lam l) (a := i + 1) (b := l.length) (by omega)
      by_cases h30 : sN (i + 1) (lam l) ≤ 30
      · have e : ((sN (i + 1) (lam l) : Nat) : Int) = (sN i (lam l) : Nat) + getI l (i : Int) := by rw [hs]; omega
        have hK' := hK (i + 1)
        rw [e] at hK'
        repeat' first
 | (apply s_mov; exact aW)
 | (apply c_nil)
 | (apply s_lss; exact rfl; all_goals (intro _; try (exfalso; omega)))
 | (apply s_gtr; exact rfl; all_goals (intro _; try (exfalso; omega)))
 | (apply s_add; exact rfl; omega)
 | (apply s_sub; exact rfl; omega)
 | (apply s_idx; exact aW; exact rfl; exact aI; omega)
 | (apply s_ldI; exact rfl; omega)
 | (apply c_seq)
 | (apply c_reg)
 | (apply c_block)
 | (apply c_skip)
 | (apply c_condT; exact rfl)
 | (apply c_condF; exact rfl)
 | (with_reducible apply k_c)
        exact hK' _ _ ⟨by omega, h30⟩ (by omega) (gc_to rfl (by simp [idFreeL, AV.idFree, *]; done))
      · rw [if_neg (by unfold siz; omega)]
        repeat' first
 | (apply s_mov; exact aW)
 | (apply c_nil)
 | (apply s_lss; exact rfl; all_goals (intro _; try (exfalso; omega)))
 | (apply s_gtr; exact rfl; all_goals (intro _; try (exfalso; omega)))
 | (apply s_sub; exact rfl; omega)
 | (apply s_idx; exact aW; exact rfl; exact aI; omega)
 | (apply s_ldI; exact rfl; omega)
 | (apply c_seq)
 | (apply c_reg)
 | (apply c_block)
 | (apply c_skip)
 | (apply c_ret)
 | (apply c_condT; exact rfl)
 | (with_reducible apply k_c)
        exact fin_t (by (conv => lhs; whnf)) (by rfl) rfl
    · obtain rfl : i = l.length := by omega
      rw [if_pos (by unfold siz; exact hb)]
      repeat' first
 | (apply s_mov; exact aW)
 | (apply c_nil)
 | (apply s_lss; exact rfl; all_goals (intro _; try (exfalso; omega)))
 | (apply c_seq)
 | (apply c_reg)
 | (apply c_exitH)
 | (apply c_ret)
 | (apply c_condF; exact rfl)
 | (apply c_preF; exact aK; exact aF)
 | (with_reducible apply k_c)
      exact fin_t (by (conv => lhs; whnf)) (by rfl) rfl
  · rw [if_neg h]
    simp only [h, decide_false] at e76
    repeat' first
 | (apply s_mov; exact aW)
 | (apply c_nil)
 | (apply s_notF; exact rfl)
 | (apply s_cn; exact aO; exact e76 _)
 | (apply c_seq)
 | (apply c_reg)
 | (apply c_ret)
 | (apply c_condT; exact rfl)
 | (with_reducible apply k_c)
    exact fin_t (by (conv => lhs; whnf)) (by rfl) rfl
theorem c55 {x : AV} {l : List Int} (hx : IsL x l) (hl : l.length ≤ 1000) {m : Nat} (hm : 1020 ≤ m) (H : Heap) : callPure (evF tab it m) true 55 [x] H = some (.int .i64 (if IsSh l then (if siz l ≤ 30 then 0 else 5) else 2), H) := callPure_free (by simp [idFreeL, hx.free]) (by simp) (f55 hx hl hm) rfl
def keyL (l : List Int) : List Int := l ++ List.replicate (30 - l.length) 0
theorem iL_one : ∀ l : List Int, oneL (iL l) = true
  | [] => rfl
  | a :: l => by simpa [iL, oneL, AV.one] using iL_one l
theorem iL_rep (n : Nat) (v : Int) : iL (List.replicate n v) = List.replicate n (.int .i64 v) := by simp [iL]
theorem fin_cellI {p n id : Nat} {env : Env} {H : Heap} {k : List AV} (h : look env p = .ptr id 0) (hH : H.cells? id = some k) (hl : k.length = n) (hf : idFreeL k = true) : finish 0 [.cell p true n] env H = some (.agg k, []) := by
  have h1 : ldc H n (.ptr id 0) = some k := by
    simp only [ldc, getRow, hH, Option.bind_some, hl, Nat.zero_add, Nat.le_refl, if_true, List.drop_zero]
    rw [List.take_of_length_le (by omega)]
  simp only [finish, ress, resOf, h, h1, Option.bind_some, wholeOf, if_true, Option.map_some, tupOf]
  rw [gc_free (by simp [idFreeL, AV.idFree, hf])]
  rfl
theorem c77 {x : AV} {l : List Int} (hx : IsL x l) (h0 : l ≠ []) (hl : l.length ≤ 30) {m : Nat} (hm : 2 ≤ m) (H : Heap) : callPure (evF tab it m) true 77 [x] H = some (.agg (iL (keyL l)), H) := by
  obtain ⟨m, rfl⟩ : ∃ j, m = j + 1 := ⟨m - 1, by omega⟩
  have hxr := isL_rd hx h0
  have hll : l.length ≠ 0 := fun e => h0 (List.length_eq_zero_iff.1 e)
  have hkl : (keyL l).length = 30 := by simp [keyL]; omega
  refine callPure_free (H1 := []) (by simp [idFreeL, hx.free]) (by simp) ?_ (by simp [AV.idFree, iL_free])
  have b1 : ∀ call H, evE call H (.alloc true (List.replicate 30 (.int .i64 0))) [] = some (.ptr H.length 0, H ++ [some (.data (iL (List.replicate 30 0)))]) := fun call H => rfl
  have p1 : ∀ c : List AV, c.length = 30 → evP [some (HO.data c), some (HO.data c)] (.slcP 30 1 false false) [.ptr 1 0] = some (.sl 1 1 0 30) := fun c hc => by
    simp [evP, slcPOf, getRow, Heap.cells?, HO.cells?, hc]
  have hput : putRow (iL (List.replicate 30 0)) 0 (iL l) = iL (keyL l) := by
    unfold putRow keyL
    rw [iL_rep, iL_len, List.take_zero, List.nil_append, Nat.zero_add, List.drop_replicate]
    simp only [iL, List.map_append, List.map_replicate]
  have b2 : ∀ call, evE call [some (HO.data (iL (List.replicate 30 0))), some (HO.data (iL (List.replicate 30 0)))] (.cpy 1) [.sl 1 1 0 30, x] = some (.int .i64 (l.length : Int), [some (HO.data (iL (List.replicate 30 0))), some (HO.data (iL (keyL l)))]) := fun call => by
    rw [hxr]
    have hmin : min l.length 30 = l.length := Nat.min_eq_left hl
    have hmi : min (l.length : Int) 30 = l.length := by omega
    have htk : (iL l).take (l.length * 1) = iL l := by rw [Nat.mul_one, ← iL_len, List.take_length]
    have hz : (iL (List.replicate 30 0)).length = 30 := by rw [iL_len, List.length_replicate]
    generalize iL (List.replicate 30 0) = z at *
    simp [evE, szOk, lenOf, rowOf, hz, hmin, hmi, hl]
    rw [← hput, ← iL_len, List.take_length]
  have p2 : evP [some (HO.data (iL (List.replicate 30 0))), some (HO.data (iL (keyL l)))] (.ld true 30) [.ptr 1 0] = some (.agg (iL (keyL l))) := by
    simp [evP, ldc, getRow, Heap.cells?, HO.cells?, iL_len, hkl, wholeOf]
    rw [List.take_of_length_le (by rw [iL_len]; omega)]
  have b3 : ∀ call, evE call [some (HO.data (iL (List.replicate 30 0))), some (HO.data (iL (keyL l)))] (.st 30) [.ptr 0 0, .agg (iL (keyL l))] = some (.undef, [some (HO.data (iL (keyL l))), some (HO.data (iL (keyL l)))]) := fun call => by
    have hz : (iL (List.replicate 30 0)).length = 30 := by rw [iL_len, List.length_replicate]
    have hk : (iL (keyL l)).length = 30 := by rw [iL_len, hkl]
    have ho : oneL (iL (keyL l)) = true := iL_one _
    have hf : idFreeL (iL (keyL l)) = true := iL_free _
    generalize iL (List.replicate 30 0) = z at *
    generalize iL (keyL l) = k at *
    simp [evE, stAt, AV.cells, hz, hk, ho, hf, putRow]
  refine f_enter rfl rfl ?_
  generalize evF tab it m = call at *
  repeat' first
 | (apply s_mov; exact aW)
 | (apply c_nil)
 | (apply s_en; exact aO; exact b1 _ _)
 | (apply s_pn; exact aO; exact p1 _ rfl)
 | (apply s_en; exact aO; exact b2 _)
 | (apply s_pn; exact aO; exact p2)
 | (apply s_st; exact aO; exact b3 _)
 | (apply c_seq)
 | (apply c_reg)
 | (apply c_ret)
 | (with_reducible apply k_c)
  have hk : (iL (keyL l)).length = 30 := by rw [iL_len, hkl]
  have hf : idFreeL (iL (keyL l)) = true := iL_free _
  exact fin_cellI rfl rfl hk hf
end Go.AM.Tb
