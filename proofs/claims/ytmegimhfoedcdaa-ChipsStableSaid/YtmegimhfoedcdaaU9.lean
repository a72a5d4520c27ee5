/- A part of the proof: U9. -/
import Derived.Test.YtmegimhfoedcdaaU8
set_option linter.unusedSectionVars false
set_option linter.unusedVariables false
set_option linter.unusedSimpArgs false
namespace Go.AM.Ch
attribute [local go_sem] gc subHeap reach_skip ren_free reach_new reach_newp reach_end rangeL roots boxCells nodupB posOf renL AV.ren pickO renH renO looks look bindEnv envOf reach_int reach_bool reach_nilS reach_rd putRow cells_sl cells_int cells_bool cells_nilS cells_rd cells_agg reach_agg reach_tup idFreeL idf_sl idf_ptr idf_int idf_bool idf_nilS idf_rd reach_fn reach_mp cells_fn cells_ptr cells_mp idf_mp idf_fn idf_agg idf_tup
set_option maxHeartbeats 4000000
theorem apl_len (b : List (List Int)) (s t : List Int) : (apl b s t).length = b.length := by simp [apl]
theorem c55 {x y z : AV} {b : List (List Int)} {s t : List Int} (hx : IsLL x b) (hy : IsL y s) (hz : IsL z t) (hb : Bd b) (hsn : s.length = b.length) (htn : t.length = b.length)
    (ht : ∀ v : Nat, v < b.length → -4503599627370496 ≤ getI t (v : Int) ∧ getI t (v : Int) ≤ 4503599627370496) (hs : ∀ v : Nat, v < b.length → -288230376151711744 ≤ getI s (v : Int) ∧ getI s (v : Int) ≤ 288230376151711744)
    {m : Nat} (hm : 100 ≤ m) (H : Heap) : callPure (evF tab it m) true 55 [x, y, z] H = some (.rd 1 (apl b s t).length (iL (apl b s t)), H) := by
  refine callPure_frz (by simp [idFreeL, hx.free, hy.free, hz.free]) (by simp) (f55 hx hy hz hb hsn htn ht hs hm) ?_
  have h1 := iL_len (apl b s t)
  have h2 := apl_len b s t
  rw [h2] at h1 ⊢
  simp [frzV_sl, Heap.data?, h1, List.take_of_length_le]
theorem isL_apl (b : List (List Int)) (s t : List Int) : IsL (.rd 1 (apl b s t).length (iL (apl b s t))) (apl b s t) := .rd _
/-- edges go both ways -/
def Sym (b : List (List Int)) : Prop := ∀ v k : Nat, v < b.length → k < b.length → getI (getLL b (v : Int)) (k : Int) = getI (getLL b (k : Int)) (v : Int)
theorem sumTo_mul (a : Int) (f : Nat → Int) : ∀ n, a * sumTo f n = sumTo (fun k => a * f k) n
  | 0 => by simp [sumTo]
  | n + 1 => by simp only [sumTo]; rw [Int.mul_add, sumTo_mul a f n]
/-- what the reference computes -/
theorem apl_ref {b : List (List Int)} (hb : Bd b) (hsy : Sym b) (s t : List Int) {i : Nat} (hi : i < b.length) :
    mid b s t b.length 0 i = getI s (i : Int) - getI t (i : Int) * sumI (getLL b (i : Int)) + sumTo (fun j => getI t (j : Int) * getI (getLL b (i : Int)) (j : Int)) b.length := by
  unfold mid
  rw [if_pos hi, if_neg (Nat.not_lt_zero i), Int.add_zero]
  have e1 : sumTo (wt b t i) b.length = getI t (i : Int) * sumI (getLL b (i : Int)) := by
    unfold sumI
    rw [hb.row i hi, sumTo_mul]
    rfl
  have e2 : sumTo (fun j => wt b t j i) b.length = sumTo (fun j => getI t (j : Int) * getI (getLL b (i : Int)) (j : Int)) b.length := sumTo_congr fun j hj => by
    unfold wt
    rw [hsy j i hj hi]
  rw [e1, e2]
theorem mulK {a c T K : Int} (ha : -T ≤ a ∧ a ≤ T) (hc : 0 ≤ c ∧ c ≤ K) (hT : 0 ≤ T) : -(T * K) ≤ a * c ∧ a * c ≤ T * K := by
  have h1 : a * c ≤ T * c := Int.mul_le_mul_of_nonneg_right ha.2 hc.1
  have h2 : T * c ≤ T * K := Int.mul_le_mul_of_nonneg_left hc.2 hT
  have h3 : -T * c ≤ a * c := Int.mul_le_mul_of_nonneg_right ha.1 hc.1
  rw [Int.neg_mul] at h3
  omega
theorem p_mul {H : Heap} {a c : Int} (h : -9223372036854775808 ≤ a * c ∧ a * c < 9223372036854775808) : evP H (.bin .mul) [.int .i64 a, .int .i64 c] = some (.int .i64 (a * c)) := by
  simp only [evP, binV, isShift, binInt]
  rw [show IntKind.i64.wrap (a * c) = a * c from wrapI h]
  rfl
theorem sumTo_nn {f : Nat → Int} : ∀ {n : Nat}, (∀ j, j < n → 0 ≤ f j) → 0 ≤ sumTo f n
  | 0, _ => Int.le_refl 0
  | n + 1, h => by
    have a := sumTo_nn (n := n) fun j hj => h j (by omega)
    have b := h n (by omega)
    simp only [sumTo]
    omega
/-- the reference's Apply -/
theorem f26 {x y z : AV} {b : List (List Int)} {s t : List Int} (hx : IsLL x b) (hy : IsL y s) (hz : IsL z t) (hb : Bd b) (hsy : Sym b) (hn : 1 ≤ b.length) (hsn : s.length = b.length) (htn : t.length = b.length)
    (ht : ∀ v : Nat, v < b.length → -4503599627370496 ≤ getI t (v : Int) ∧ getI t (v : Int) ≤ 4503599627370496) (hs : ∀ v : Nat, v < b.length → -288230376151711744 ≤ getI s (v : Int) ∧ getI s (v : Int) ≤ 288230376151711744)
    {m : Nat} (hm : 1100 ≤ m) : evF tab it m 26 [x, y, z] [] = some (ownV 0 (iL (apl b s t)), owH (iL (apl b s t))) := by
  obtain ⟨m, rfl⟩ : ∃ j, m = j + 1 := ⟨m - 1, by omega⟩
  have fx := hx.free; have fy := hy.free; have fz := hz.free
  have hl12 := hb.len
  have hrv : ∀ i : Nat, i < b.length → ∀ v ∈ getLL b (i : Int), 0 ≤ v ∧ v ≤ 3 := fun i hi v hv => by
    obtain ⟨k, hk, e⟩ := List.getElem_of_mem hv
    have := hb.val i k hi (by rw [← hb.row i hi]; exact hk)
    rw [getI_nat] at this
    simpa [List.getD, hk, e] using this
  have e35 := fun (i : Nat) (hi : i < b.length) H => c35 (m := m) hx hi (by rw [hb.row i hi]; omega) (fun v hv => by have := hrv i hi v hv; omega) (by omega) H
  have hdeg : ∀ i : Nat, i < b.length → 0 ≤ sumI (getLL b (i : Int)) ∧ sumI (getLL b (i : Int)) ≤ 36 := fun i hi => by
    have := sumTo_le (f := fun j => getI (getLL b (i : Int)) (j : Int)) (M := 3) (n := (getLL b (i : Int)).length) fun j hj => by
      have := hb.val i j hi (by rw [← hb.row i hi]; exact hj)
      omega
    have h0 := sumTo_nn (f := fun j => getI (getLL b (i : Int)) (j : Int)) (n := (getLL b (i : Int)).length) fun j hj => (hb.val i j hi (by rw [← hb.row i hi]; exact hj)).1
    rw [hb.row i hi] at this h0
    unfold sumI
    rw [hb.row i hi]
    omega
  have lx : ∀ H, evP H .len [x] = some (.int .i64 ((b.length : Nat) : Int)) := fun H => by cases hx <;> rfl
  have ap := fun {i : Nat} (hi : i < b.length) => apl_ref hb hsy s t hi
  refine f_enter rfl rfl ?_
  generalize evF tab it m = call at *
  have own_gc : ∀ (i : Nat) (l : List AV), gc 0 [x, y, z, ownV 0 l, .int .i64 (i : Int)] (owH l) = some ([x, y, z, ownV 0 l, .int .i64 (i : Int)], owH l) := fun i l => by
    cases l <;> simp [ownV, owH, go_sem, fx, fy, fz]
  have own_gc2 : ∀ (i j : Nat) (a : Int) (l : List AV), gc 0 [x, y, z, ownV 0 l, .int .i64 (i : Int), .int .i64 a, .int .i64 (j : Int)] (owH l) = some ([x, y, z, ownV 0 l, .int .i64 (i : Int), .int .i64 a, .int .i64 (j : Int)], owH l) := fun i j a l => by
    cases l <;> simp [ownV, owH, go_sem, fx, fy, fz]
  have own_gc3 : ∀ (i : Nat) (a : Int) (l : List AV), gc 0 [x, y, z, ownV 0 l, .int .i64 (i : Int), .int .i64 a] (owH l) = some ([x, y, z, ownV 0 l, .int .i64 (i : Int), .int .i64 a], owH l) := fun i a l => by
    cases l <;> simp [ownV, owH, go_sem, fx, fy, fz]
  repeat' first
 | (apply s_mov; (focus ((conv => lhs; whnf); done)))
 | (apply c_nil)
 | (apply c_seq)
 | (apply c_reg)
 | (apply c_block)
 | (with_reducible apply k_c)
  refine c_loop ?_
  refine loop_gc (σ := Nat) (fun i => [x, y, z, ownV 0 (iL ((apl b s t).take i)), .int .i64 (i : Int)]) (fun i => owH (iL ((apl b s t).take i))) (fun i => i ≤ b.length) (fun i => b.length - i) ?_ _ 0 _ _ (by omega) (by omega) (own_gc 0 [])
  intro i hi K hK
  by_cases hin : i < b.length
  · have e35' := e35 i hin
    have hd := hdeg i hin
    have hti := ht i hin
    have hsi := hs i hin
    have hpe := ap hin
    have hstep : (apl b s t).take (i + 1) = (apl b s t).take i ++ [mid b s t b.length 0 i] := by
      rw [← List.take_append_getElem (by rw [apl_len]; exact hin)]
      simp [apl]
    have hmd := mulK hti hd (by omega)
    have hmul := fun H => p_mul (H := H) (a := getI t (i : Int)) (c := sumI (getLL b (i : Int))) (by omega)
    have hwt := fun (j : Nat) (hj : j < b.length) => mul3 (ht j hj) (hb.val i j hin hj) (by omega)
    have hsum := fun (j : Nat) (hj : j ≤ b.length) => sumTo_le (f := fun j => getI t (j : Int) * getI (getLL b (i : Int)) (j : Int)) (M := 3 * 4503599627370496) (n := j) fun j' hj' => hwt j' (by omega)
    have hrl := hb.row i hin
    have hrow := hx.at (i := (i : Int)) ⟨by omega, by omega⟩
    generalize hP : getI t (i : Int) * sumI (getLL b (i : Int)) = P at *
    generalize sumI (getLL b (i : Int)) = dg at *
    rw [hpe] at hstep
    have hK1 := hK (i + 1)
    rw [hstep] at hK1
    have hAl : (iL ((apl b s t).take i)).length ≤ 12 := by rw [iL_len]; simp; omega
    have e1 : ∀ a : Int, iL ((apl b s t).take i ++ [a]) = iL ((apl b s t).take i) ++ [.int .i64 a] := fun a => by simp [iL]
    rw [e1] at hK1
    generalize iL ((apl b s t).take i) = A at *
    repeat' first
 | (apply s_mov; (focus ((conv => lhs; whnf); done)))
 | (apply c_nil)
 | ((first | apply s_lss | apply s_leq | apply s_gtr | apply s_geq | apply s_eql | apply s_neq); exact rfl; all_goals (intro _; try (exfalso; omega)))
 | ((first | apply s_add | apply s_sub); exact rfl; omega)
 | (apply s_pn; (focus (repeat (first | apply opds_nil | (apply opds_cons; (first | (focus ((conv => lhs; whnf); done)) | exact rfl))))); exact lx _)
 | (apply s_cn; (focus (repeat (first | apply opds_nil | (apply opds_cons; (first | (focus ((conv => lhs; whnf); done)) | exact rfl))))); exact e35' _)
 | (apply s_pn; (focus (repeat (first | apply opds_nil | (apply opds_cons; (first | (focus ((conv => lhs; whnf); done)) | exact rfl))))); exact hmul _)
 | (apply s_idx; (focus ((conv => lhs; whnf); done)); exact rfl; (first | assumption | (apply IsLL.at; assumption; omega)); omega)
 | (apply s_ldI; exact rfl; omega)
 | (apply c_seq)
 | (apply c_reg)
 | (apply c_block)
 | (apply c_skip)
 | (apply c_condT; exact rfl)
 | (with_reducible apply k_c)
    refine c_loop ?_
    refine loop_gc (σ := Nat) (fun j => [x, y, z, ownV 0 A, .int .i64 (i : Int), .int .i64 (getI s (i : Int) - P + sumTo (fun j => getI t (j : Int) * getI (getLL b (i : Int)) (j : Int)) j), .int .i64 (j : Int)]) (fun _ => owH A) (fun j => j ≤ b.length) (fun j => b.length - j) ?_ _ 0 _ _ (by omega) (by omega) (by rw [show sumTo (fun j => getI t (j : Int) * getI (getLL b (i : Int)) (j : Int)) 0 = 0 from rfl, Int.add_zero]; exact own_gc2 i 0 _ A)
    intro j hj K2 hK2
    have hsj := hsum j hj
    have hK21 := hK2 (j + 1)
    simp only [sumTo] at hK21
    rw [← Int.add_assoc] at hK21
    by_cases hjn : j < b.length
    · have hw := hwt j hjn
      have hm2 := fun H => p_mul (H := H) (a := getI t (j : Int)) (c := getI (getLL b (i : Int)) (j : Int)) (by omega)
      generalize sumTo (fun j => getI t (j : Int) * getI (getLL b (i : Int)) (j : Int)) j = S at *
      generalize getI t (j : Int) * getI (getLL b (i : Int)) (j : Int) = w at *
      repeat' first
 | (apply s_mov; (focus ((conv => lhs; whnf); done)))
 | (apply c_nil)
 | ((first | apply s_lss | apply s_leq | apply s_gtr | apply s_geq | apply s_eql | apply s_neq); exact rfl; all_goals (intro _; try (exfalso; omega)))
 | ((first | apply s_add | apply s_sub); exact rfl; omega)
 | (apply s_pn; (focus (repeat (first | apply opds_nil | (apply opds_cons; (first | (focus ((conv => lhs; whnf); done)) | exact rfl))))); exact lx _)
 | (apply s_pn; (focus (repeat (first | apply opds_nil | (apply opds_cons; (first | (focus ((conv => lhs; whnf); done)) | exact rfl))))); exact hm2 _)
 | (apply s_idx; (focus ((conv => lhs; whnf); done)); exact rfl; (first | assumption | (apply IsLL.at; assumption; omega)); omega)
 | (apply s_idxLL; (focus ((conv => lhs; whnf); done)); exact rfl; assumption; omega)
 | (apply s_ldI; exact rfl; omega)
 | (apply s_ldLL; exact rfl; assumption; omega)
 | (apply c_seq)
 | (apply c_reg)
 | (apply c_block)
 | (apply c_skip)
 | (apply c_condT; exact rfl)
 | (with_reducible apply k_c)
      exact hK21 _ _ (by omega) (by omega) (own_gc2 i (j + 1) _ A)
    · obtain rfl : j = b.length := by omega
      generalize sumTo (fun j => getI t (j : Int) * getI (getLL b (i : Int)) (j : Int)) b.length = S at *
      repeat' first
 | (apply s_mov; (focus ((conv => lhs; whnf); done)))
 | (apply c_nil)
 | ((first | apply s_lss | apply s_leq | apply s_gtr | apply s_geq | apply s_eql | apply s_neq); exact rfl; all_goals (intro _; try (exfalso; omega)))
 | (apply s_pn; (focus (repeat (first | apply opds_nil | (apply opds_cons; (first | (focus ((conv => lhs; whnf); done)) | exact rfl))))); exact lx _)
 | (apply c_seq)
 | (apply c_reg)
 | (apply c_exitH)
 | (apply c_condF; exact rfl)
 | (with_reducible apply k_c)
      apply c_pre
      · exact own_gc3 i _ A
      rcases A with _ | ⟨c, cs⟩
      · simp only [ownV, owH] at *
        repeat' first
 | (apply s_mov; (focus ((conv => lhs; whnf); done)))
 | (apply c_nil)
 | (apply s_en; (focus (repeat (first | apply opds_nil | (apply opds_cons; (first | (focus ((conv => lhs; whnf); done)) | exact rfl))))); exact e_bld1 rfl rfl rfl rfl)
 | (apply s_en; (focus (repeat (first | apply opds_nil | (apply opds_cons; (first | (focus ((conv => lhs; whnf); done)) | exact rfl))))); exact e_app_nil rfl (by omega) (by decide))
 | (apply c_reg)
 | (with_reducible apply k_c)
        apply c_pre (vs := [x, y, z, .sl 0 1 0 1, .int .i64 (i : Int)]) (H' := [some (.data [.int .i64 (getI s (i : Int) - P + S)])])
        · simp [go_sem, fx, fy, fz]
        repeat' first
 | (apply s_mov; (focus ((conv => lhs; whnf); done)))
 | (apply c_nil)
 | ((first | apply s_add | apply s_sub); exact rfl; omega)
 | (apply c_reg)
        exact hK1 _ _ (by omega) (by omega) (by simp [ownV, owH, go_sem, fx, fy, fz])
      · simp only [ownV, owH] at *
        repeat' first
 | (apply s_mov; (focus ((conv => lhs; whnf); done)))
 | (apply c_nil)
 | (apply s_en; (focus (repeat (first | apply opds_nil | (apply opds_cons; (first | (focus ((conv => lhs; whnf); done)) | exact rfl))))); exact e_bld1 rfl rfl rfl rfl)
 | (apply s_en; (focus (repeat (first | apply opds_nil | (apply opds_cons; (first | (focus ((conv => lhs; whnf); done)) | exact rfl))))); exact e_app_sl rfl rfl (by omega) (by simp at hAl; unfold most; omega))
 | (apply c_reg)
 | (with_reducible apply k_c)
        apply c_pre (vs := [x, y, z, .sl 0 1 0 (cs.length + 1 + 1), .int .i64 (i : Int)]) (H' := [some (.data (c :: cs ++ [.int .i64 (getI s (i : Int) - P + S)]))])
        · simp [go_sem, fx, fy, fz]
        repeat' first
 | (apply s_mov; (focus ((conv => lhs; whnf); done)))
 | (apply c_nil)
 | ((first | apply s_add | apply s_sub); exact rfl; omega)
 | (apply c_reg)
        exact hK1 _ _ (by omega) (by omega) (by simp [ownV, owH, go_sem, fx, fy, fz])
  · obtain rfl : i = b.length := by omega
    have hall : (apl b s t).take b.length = apl b s t := List.take_of_length_le (by rw [apl_len]; omega)
    rw [hall]
    generalize hA : iL (apl b s t) = A at *
    repeat' first
 | (apply s_mov; (focus ((conv => lhs; whnf); done)))
 | (apply c_nil)
 | ((first | apply s_lss | apply s_leq | apply s_gtr | apply s_geq | apply s_eql | apply s_neq); exact rfl; all_goals (intro _; try (exfalso; omega)))
 | (apply s_pn; (focus (repeat (first | apply opds_nil | (apply opds_cons; (first | (focus ((conv => lhs; whnf); done)) | exact rfl))))); exact lx _)
 | (apply c_seq)
 | (apply c_reg)
 | (apply c_exitH)
 | (apply c_condF; exact rfl)
 | (with_reducible apply k_c)
    apply c_pre (vs := [ownV 0 A]) (H' := owH A)
    · cases A <;> simp [ownV, owH, go_sem, look, looks, bindEnv, envOf]
    repeat' first
 | (apply s_mov; (focus ((conv => lhs; whnf); done)))
 | (apply c_nil)
 | (apply c_seq)
 | (apply c_reg)
 | (apply c_ret)
 | (with_reducible apply k_c)
    cases A <;> simp [finish, ress, resOf, look, tupOf, ownV, owH, go_sem]
end Go.AM.Ch
