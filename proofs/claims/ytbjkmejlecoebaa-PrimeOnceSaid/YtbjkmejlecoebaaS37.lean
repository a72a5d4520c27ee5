/- A part of the proof: S19 S20 S36 S37. -/
import Derived.Test.YtbjkmejlecoebaaS18
set_option linter.unusedSectionVars false
set_option linter.unusedVariables false
set_option linter.unusedSimpArgs false
namespace Go.AM.Pr
open Go.AM.Num
set_option maxHeartbeats 4000000
def leastR (M : List Int) : List AV := if ∀ i, i < M.length → hv M (i + 1) ≤ 4611686018427387904 then [.int .i64 (hv M M.length : Nat), .bool true] else [.int .i64 0, .bool false]
theorem f52 {y : AV} {M : List Int} (hy : IsL y M) (hl : M.length ≤ 32) (hmo : ∀ i, i < M.length → IsNum (getI M i)) {m : Nat} (hm : 500 ≤ m) : evF tab it m 52 [y] [] = some (.tup (leastR M), []) := by
  obtain ⟨m, rfl⟩ : ∃ j, m = j + 1 := ⟨m - 1, by omega⟩
  have fy := hy.free
  have h53 := fun {A B : Nat} (hA : A < 9223372036854775808) (hB : B < 9223372036854775808) H => c53 (A := A) (B := B) hA hB (m := m) (by omega) H
  unfold leastR
  refine f_enter rfl rfl ?_
  generalize evF tab it m = call at *
  repeat' first
 | (apply s_mov; (focus ((conv => lhs; whnf); done)))
 | (apply c_nil)
 | (apply c_seq)
 | (apply c_reg)
 | (apply c_block)
 | (with_reducible apply k_c)
  refine c_loop ?_
  refine loop_gc (σ := Nat) (fun i => [y, .int .i64 (hv M i : Nat), .int .i64 (i : Int)]) (fun _ => []) (fun i => i ≤ M.length ∧ ∀ j, j < i → hv M (j + 1) ≤ 4611686018427387904) (fun i => M.length - i) ?_ _ 0 _ _ ⟨by omega, by omega⟩ (by omega) (gc_to rfl (by simp [idFreeL, AV.idFree, fy]))
  intro i ⟨hi, hok⟩ K hK
  have hhv : hv M i ≤ 4611686018427387904 := by
    cases i with
    | zero => show 1 ≤ _; omega
    | succ k => exact hok k (by omega)
  by_cases hiM : i < M.length
  · have hn := hmo i hiM
    have m1 : getI M i = (mo M i : Nat) := by unfold IsNum at hn; unfold mo; omega
    have m2 : 1 ≤ mo M i := by unfold IsNum at hn; omega
    have m3 : mo M i ≤ 2147483647 := by unfold IsNum at hn; omega
    have g0 := gg_pos m2
    have p0 := part_pos m2
    have p1 := part_le M i
    have hM : ∀ H, evP H (.ld false 1) [.rp (iL (M.drop ((i : Int).toNat)))] = some (.int .i64 (mo M i : Nat)) := fun H => by
      rw [p_ld ⟨by omega, by omega⟩, m1]
    have hW := hv_succ M i
    have hquo : ∀ H, evP H (.bin .quo) [.int .i64 (mo M i : Nat), .int .i64 (gg M i : Nat)] = some (.int .i64 (part M i : Nat)) := fun H => by
      simp only [evP, binV, isShift, binInt, Bool.false_eq_true, if_false, if_true]
      rw [if_neg (by omega), show ((mo M i : Nat) : Int).tdiv (gg M i : Nat) = (part M i : Nat) from rfl, wrapI (by omega)]
    have e53 := h53 (A := mo M i) (B := hv M i % mo M i) (by omega) (by have := Nat.mod_lt (hv M i) m2; omega) []
    rw [Nat.gcd_comm, gcd_mod, show Nat.gcd (hv M i) (mo M i) = gg M i from rfl] at e53
    have hdiv : hv M i ≤ 4611686018427387904 / part M i ↔ hv M (i + 1) ≤ 4611686018427387904 := by
      rw [hW]
      exact Nat.le_div_iff_mul_le p0
    repeat' first
 | (apply s_mov; (focus ((conv => lhs; whnf); done)))
 | (apply c_nil)
 | ((first | apply s_lss | apply s_leq | apply s_gtr | apply s_geq | apply s_eql | apply s_neq); exact rfl; all_goals (intro _; try (exfalso; omega)))
 | (apply s_pn; (focus (repeat (first | apply opds_nil | (apply opds_cons; (first | (focus ((conv => lhs; whnf); done)) | exact rfl))))); exact hM _)
 | (apply s_pn; (focus (repeat (first | apply opds_nil | (apply opds_cons; (first | (focus ((conv => lhs; whnf); done)) | exact rfl))))); exact hquo _)
 | (apply s_cn; (focus (repeat (first | apply opds_nil | (apply opds_cons; (first | (focus ((conv => lhs; whnf); done)) | exact rfl))))); exact e53)
 | (apply s_remN; exact rfl; omega)
 | (apply s_quoN (a := 4611686018427387904); exact rfl; omega; omega)
 | ((first | apply s_add | apply s_sub); exact rfl; omega)
 | (apply s_mulN; exact rfl; omega)
 | (apply s_len; (focus ((conv => lhs; whnf); done)); (first | assumption | (apply IsLL.at; assumption; omega)))
 | (apply s_idx; (focus ((conv => lhs; whnf); done)); exact rfl; (first | assumption | (apply IsLL.at; assumption; omega)); omega)
 | (apply c_seq)
 | (apply c_reg)
 | (apply c_block)
 | (apply c_skip)
 | (apply c_ret)
 | (apply c_condT; exact rfl)
 | (apply c_condF; exact rfl)
 | (with_reducible apply k_c)
    · rw [if_neg (fun h => by have := hdiv.2 (h i hiM); omega)]
      exact fin_tt (by (conv => lhs; whnf)) (by (conv => lhs; whnf)) (by rfl) (by rfl) rfl
    · refine hK (i + 1) _ _ ⟨by omega, fun j hj => ?_⟩ (by omega) (gc_to rfl (by simp [idFreeL, AV.idFree, fy]))
      rcases (by omega : j < i ∨ j = i) with h | rfl
      · exact hok j h
      · exact hdiv.1 (by omega)
  · obtain rfl : M.length = i := by omega
    rw [if_pos hok]
    repeat' first
 | (apply s_mov; (focus ((conv => lhs; whnf); done)))
 | (apply c_nil)
 | ((first | apply s_lss | apply s_leq | apply s_gtr | apply s_geq | apply s_eql | apply s_neq); exact rfl; all_goals (intro _; try (exfalso; omega)))
 | (apply s_len; (focus ((conv => lhs; whnf); done)); (first | assumption | (apply IsLL.at; assumption; omega)))
 | (apply c_seq)
 | (apply c_reg)
 | (apply c_exitH)
 | (apply c_ret)
 | (apply c_condF; exact rfl)
 | (apply c_preF; (focus (repeat (first | apply looks_nil | (apply looks_cons; (focus ((conv => lhs; whnf); done)))))); (focus (simp [idFreeL, AV.idFree, *]; done)))
 | (with_reducible apply k_c)
    exact fin_tt (by (conv => lhs; whnf)) (by (conv => lhs; whnf)) (by rfl) (by rfl) rfl
theorem c52 {y : AV} {M : List Int} (hy : IsL y M) (hl : M.length ≤ 32) (hmo : ∀ i, i < M.length → IsNum (getI M i)) {m : Nat} (hm : 500 ≤ m) (H : Heap) : callPure (evF tab it m) true 52 [y] H = some (.tup (leastR M), H) :=
  callPure_free (by simp [idFreeL, hy.free]) (by simp) (f52 hy hl hmo hm) (by unfold leastR; split <;> rfl)
theorem sub_mod_mod (a b : Int) (n : Int) : (a - b % n) % n = (a - b) % n := by
  refine Int.emod_eq_emod_iff_emod_sub_eq_zero.2 (Int.emod_eq_zero_of_dvd ⟨b / n, ?_⟩)
  have := Int.emod_add_mul_ediv b n
  omega
theorem f26 {x y : AV} {R M : List Int} (hx : IsL x R) (hy : IsL y M) {m : Nat} (hm : 600 ≤ m) : evF tab it m 26 [x, y] [] = some (.tup (comR R M), []) := by
  obtain ⟨m, rfl⟩ : ∃ j, m = j + 1 := ⟨m - 1, by omega⟩
  have fx := hx.free; have fy := hy.free
  have h17 := fun a H => c17 (m := m) (by omega) a H
  have h53 := fun {A B : Nat} (hA : A < 9223372036854775808) (hB : B < 9223372036854775808) H => c53 (A := A) (B := B) hA hB (m := m) (by omega) H
  have h36 := fun {A B : Nat} (h1 : 1 ≤ B) (hB : B ≤ 2147483647) (hA : A < 9223372036854775808) H => c36 (A := A) (B := B) h1 hB hA (m := m) (by omega) H
  have h52 := fun (hl : M.length ≤ 32) (hmo : ∀ i, i < M.length → IsNum (getI M i)) H => c52 hy hl hmo (m := m) (by omega) H
  unfold comR
  by_cases hlen : R.length = M.length ∧ R.length ≤ 32
  · obtain ⟨hl1, hl2⟩ := hlen
    refine f_enter rfl rfl ?_
    generalize evF tab it m = call at *
    repeat' first
 | (apply s_mov; (focus ((conv => lhs; whnf); done)))
 | (apply s_gT; exact rfl)
 | (apply c_nil)
 | (apply s_pickF; exact rfl; (focus ((conv => lhs; whnf); done)))
 | ((first | apply s_lss | apply s_leq | apply s_gtr | apply s_geq | apply s_eql | apply s_neq); exact rfl; all_goals (intro _; try (exfalso; omega)))
 | (apply s_len; (focus ((conv => lhs; whnf); done)); (first | assumption | (apply IsLL.at; assumption; omega)))
 | (apply c_seq)
 | (apply c_reg)
 | (apply c_block)
 | (apply c_skip)
 | (apply c_condF; exact rfl)
 | (with_reducible apply k_c)
    refine c_loop ?_
    refine loop_gc (σ := Nat) (fun i => [x, y, .int .i64 (i : Int)]) (fun _ => []) (fun i => i ≤ R.length ∧ ∀ j, j < i → IsRest (getI R j) (getI M j)) (fun i => R.length - i) ?_ _ 0 _ _ ⟨by omega, by omega⟩ (by omega) (gc_to rfl (by simp [idFreeL, AV.idFree, fx, fy]))
    intro i ⟨hi, hv'⟩ K hK
    by_cases hiR : i < R.length
    · by_cases hr : IsRest (getI R i) (getI M i)
      · have hr' := hr
        unfold IsRest at hr'
        repeat' first
 | (apply s_mov; (focus ((conv => lhs; whnf); done)))
 | (apply s_gT; exact rfl)
 | (apply s_gF; exact rfl)
 | (apply c_nil)
 | (apply s_pickT; exact rfl; (focus ((conv => lhs; whnf); done)))
 | (apply s_pickF; exact rfl; (focus ((conv => lhs; whnf); done)))
 | (apply s_notT; exact rfl)
 | (apply s_notF; exact rfl)
 | ((first | apply s_lss | apply s_leq | apply s_gtr | apply s_geq | apply s_eql | apply s_neq); exact rfl; all_goals (intro _; try (exfalso; omega)))
 | ((first | apply s_add | apply s_sub); exact rfl; omega)
 | (apply isE; refine s_cB (by (focus (repeat (first | apply opds_nil | (apply opds_cons; (first | (focus ((conv => lhs; whnf); done)) | exact rfl)))))) (h17 _ _) (fun _ => ?_) (fun _ => ?_))
 | (apply s_len; (focus ((conv => lhs; whnf); done)); (first | assumption | (apply IsLL.at; assumption; omega)))
 | (apply s_idx; (focus ((conv => lhs; whnf); done)); exact rfl; (first | assumption | (apply IsLL.at; assumption; omega)); omega)
 | (apply s_ldI; exact rfl; omega)
 | (apply c_seq)
 | (apply c_reg)
 | (apply c_block)
 | (apply c_skip)
 | (apply c_ret)
 | (apply c_condT; exact rfl)
 | (apply c_condF; exact rfl)
 | (with_reducible apply k_c)
        all_goals first
          | exact absurd hr'.1 (by assumption)
          | (exfalso; omega)
          | (refine hK (i + 1) _ _ ⟨by omega, fun j hj => ?_⟩ (by omega) (gc_to rfl (by simp [idFreeL, AV.idFree, fx, fy]))
             rcases (by omega : j < i ∨ j = i) with h | rfl
             · exact hv' j h
             · exact hr)
      · rw [if_neg (fun h : okAll R M => hr (h.2 i hiR).1)]
        repeat' first
 | (apply s_mov; (focus ((conv => lhs; whnf); done)))
 | (apply s_gT; exact rfl)
 | (apply s_gF; exact rfl)
 | (apply c_nil)
 | (apply s_pickT; exact rfl; (focus ((conv => lhs; whnf); done)))
 | (apply s_pickF; exact rfl; (focus ((conv => lhs; whnf); done)))
 | (apply s_notT; exact rfl)
 | (apply s_notF; exact rfl)
 | ((first | apply s_lss | apply s_leq | apply s_gtr | apply s_geq | apply s_eql | apply s_neq); exact rfl; all_goals (intro _; try (exfalso; omega)))
 | ((first | apply s_add | apply s_sub); exact rfl; omega)
 | (apply isE; refine s_cB (by (focus (repeat (first | apply opds_nil | (apply opds_cons; (first | (focus ((conv => lhs; whnf); done)) | exact rfl)))))) (h17 _ _) (fun _ => ?_) (fun _ => ?_))
 | (apply s_len; (focus ((conv => lhs; whnf); done)); (first | assumption | (apply IsLL.at; assumption; omega)))
 | (apply s_idx; (focus ((conv => lhs; whnf); done)); exact rfl; (first | assumption | (apply IsLL.at; assumption; omega)); omega)
 | (apply s_ldI; exact rfl; omega)
 | (apply c_seq)
 | (apply c_reg)
 | (apply c_block)
 | (apply c_skip)
 | (apply c_ret)
 | (apply c_condT; exact rfl)
 | (apply c_condF; exact rfl)
 | (with_reducible apply k_c)
        all_goals first
          | exact fin_3 (by (conv => lhs; whnf)) (by (conv => lhs; whnf)) (by (conv => lhs; whnf)) (by rfl) (by rfl) (by rfl) rfl
          | exact absurd ⟨by assumption, by omega, by omega⟩ hr
    · obtain rfl : R.length = i := by omega
      have hnum : ∀ i, i < M.length → IsNum (getI M i) := fun i hi => (hv' i (by omega)).1
      have e52 := fun H => h52 (by omega) hnum H
      unfold leastR at e52
      by_cases hbig : ∀ i, i < M.length → hv M (i + 1) ≤ 4611686018427387904
      · have hall : okAll R M := ⟨⟨hl1, hl2⟩, fun i hi => ⟨hv' i hi, hbig i (by omega)⟩⟩
        have hok := hall.2
        simp only [if_pos hbig] at e52
        rw [if_pos hall]
        repeat' first
 | (apply s_mov; (focus ((conv => lhs; whnf); done)))
 | (apply c_nil)
 | (apply s_notT; exact rfl)
 | ((first | apply s_lss | apply s_leq | apply s_gtr | apply s_geq | apply s_eql | apply s_neq); exact rfl; all_goals (intro _; try (exfalso; omega)))
 | (apply s_cn; (focus (repeat (first | apply opds_nil | (apply opds_cons; (first | (focus ((conv => lhs; whnf); done)) | exact rfl))))); exact e52 _)
 | (apply s_len; (focus ((conv => lhs; whnf); done)); (first | assumption | (apply IsLL.at; assumption; omega)))
 | (apply s_pd; (focus ((conv => lhs; whnf); done)))
 | (apply c_seq)
 | (apply c_reg)
 | (apply c_block)
 | (apply c_exitH)
 | (apply c_skip)
 | (apply c_condF; exact rfl)
 | (apply c_preF; (focus (repeat (first | apply looks_nil | (apply looks_cons; (focus ((conv => lhs; whnf); done)))))); (focus (simp [idFreeL, AV.idFree, *]; done)))
 | (with_reducible apply k_c)
        refine c_loop ?_
        refine loop_gc (σ := Nat) (fun k => [x, y, .int .i64 (xs R M k : Nat), .int .i64 (hv M k : Nat), .int .i64 (k : Int)]) (fun _ => []) (fun k => k ≤ R.length ∧ ∀ j, j < k → fit R M j) (fun k => R.length - k) ?_ _ 0 _ _ ⟨by omega, by omega⟩ (by omega) (gc_to rfl (by simp [idFreeL, AV.idFree, fx, fy]))
        intro k ⟨hk, hf⟩ K2 hK2
        by_cases hkR : k < R.length
        · have hmo : ∀ i, i < R.length → 1 ≤ mo M i := fun i hi => (okAt_mo (hok i hi).1).2.1
          obtain ⟨m1, m2, m3, m4, m5⟩ := okAt_mo (hok k hkR).1
          have g0 := gg_pos m2
          have g1 := gg_le m2
          have p0 := part_pos m2
          have p1 := part_le M k
          have hM : ∀ H, evP H (.ld false 1) [.rp (iL (M.drop ((k : Int).toNat)))] = some (.int .i64 (mo M k : Nat)) := fun H => by
            rw [p_ld ⟨by omega, by omega⟩, m1]
          have hh := hv_le (k := k) fun i hi => hok i (by omega)
          have hh2 := (hok k hkR).2
          have hxl := xs_lt (R := R) (M := M) (k := k) fun i hi => hmo i (by omega)
          have htl := tt_lt (R := R) m2 (xs R M k)
          have hgl := gap_lt (R := R) m2 (xs R M k)
          have hil := inv_lt m2
          have hW := hv_succ M k
          have hmul := Nat.mul_le_mul_left (hv M k) (show tt R M (xs R M k) k + 1 ≤ part M k by omega)
          rw [Nat.mul_add, ← hW, Nat.mul_comm] at hmul
          have e53 := h53 (A := mo M k) (B := hv M k % mo M k) (by omega) (by have := Nat.mod_lt (hv M k) m2; omega) []
          rw [Nat.gcd_comm, gcd_mod, show Nat.gcd (hv M k) (mo M k) = gg M k from rfl] at e53
          have hcop : Nat.gcd (hv M k / gg M k % part M k) (part M k) = 1 := by
            rw [← Nat.gcd_rec, Nat.gcd_comm]
            exact Nat.coprime_div_gcd_div_gcd (gg_pos m2)
          have e36 := h36 (A := hv M k / gg M k % part M k) (B := part M k) p0 (by omega) (by have := Nat.mod_lt (hv M k / gg M k) p0; omega) []
          have hinvc : invOf (hv M k / gg M k % part M k) (part M k) = ((inv M k : Nat) : Int) := (Int.toNat_of_nonneg (invOf_spec p0 hcop).1).symm
          rw [if_pos hcop, hinvc] at e36
          have t1 := tmod_b (x := getI R k - ((xs R M k % mo M k : Nat) : Int)) m2
          have hxm := Nat.mod_lt (xs R M k) m2
          have hgap : ∀ H, evP H (.bin .rem) [.int .i64 ((getI R k - ((xs R M k % mo M k : Nat) : Int)).tmod (mo M k : Nat) + (mo M k : Nat)), .int .i64 (mo M k : Nat)] = some (.int .i64 (gapN R M (xs R M k) k : Nat)) := fun H => by
            simp only [evP, binV, isShift, binInt, Bool.false_eq_true, if_false, if_true]
            rw [if_neg (by omega), tmod_add (by omega), gap_cast m2, show ((xs R M k % mo M k : Nat) : Int) = (xs R M k : Int) % (mo M k : Int) from rfl, sub_mod_mod]
          have hquo : ∀ H, evP H (.bin .quo) [.int .i64 (mo M k : Nat), .int .i64 (gg M k : Nat)] = some (.int .i64 (part M k : Nat)) := fun H => by
            simp only [evP, binV, isShift, binInt, Bool.false_eq_true, if_false, if_true]
            rw [if_neg (by omega), show ((mo M k : Nat) : Int).tdiv (gg M k : Nat) = (part M k : Nat) from rfl, wrapI (by omega)]
          have ha := Nat.mod_lt (gapN R M (xs R M k) k / gg M k) p0
          have hab := Nat.mul_le_mul (show gapN R M (xs R M k) k / gg M k % part M k ≤ 2147483647 by omega) (show inv M k ≤ 2147483647 by omega)
          have htt : gapN R M (xs R M k) k / gg M k % part M k * inv M k % part M k = tt R M (xs R M k) k := rfl
          have hgN : gapN R M (xs R M k) k / gg M k ≤ gapN R M (xs R M k) k := Nat.div_le_self _ _
          have hfit : fit R M k ↔ gapN R M (xs R M k) k % gg M k = 0 := Iff.rfl
          have hrt : ∀ H, evP H (.bin .rem) [.int .i64 ((gapN R M (xs R M k) k / gg M k % part M k * inv M k : Nat) : Int), .int .i64 (part M k : Nat)] = some (.int .i64 (tt R M (xs R M k) k : Nat)) := fun H => by
            simp only [evP, binV, isShift, binInt, Bool.false_eq_true, if_false, if_true]
            rw [if_neg (by omega)]
            rfl
          generalize hgx : gapN R M (xs R M k) k = gp at *
          repeat' first
 | (apply s_mov; (focus ((conv => lhs; whnf); done)))
 | (apply c_nil)
 | ((first | apply s_lss | apply s_leq | apply s_gtr | apply s_geq | apply s_eql | apply s_neq); exact rfl; all_goals (intro _; try (exfalso; omega)))
 | (apply s_pn; (focus (repeat (first | apply opds_nil | (apply opds_cons; (first | (focus ((conv => lhs; whnf); done)) | exact rfl))))); exact hM _)
 | (apply s_pn; (focus (repeat (first | apply opds_nil | (apply opds_cons; (first | (focus ((conv => lhs; whnf); done)) | exact rfl))))); exact hquo _)
 | (apply s_pn; (focus (repeat (first | apply opds_nil | (apply opds_cons; (first | (focus ((conv => lhs; whnf); done)) | exact rfl))))); exact hgap _)
 | (apply s_pn; (focus (repeat (first | apply opds_nil | (apply opds_cons; (first | (focus ((conv => lhs; whnf); done)) | exact rfl))))); exact hrt _)
 | (apply s_remN; exact rfl; omega)
 | (apply s_cn; (focus (repeat (first | apply opds_nil | (apply opds_cons; (first | (focus ((conv => lhs; whnf); done)) | exact rfl))))); exact e53)
 | (apply s_cn; (focus (repeat (first | apply opds_nil | (apply opds_cons; (first | (focus ((conv => lhs; whnf); done)) | exact rfl))))); exact e36)
 | (apply s_rem; exact rfl; omega)
 | ((first | apply s_add | apply s_sub); exact rfl; omega)
 | (apply s_mulN; exact rfl; omega)
 | (apply s_quoN; exact rfl; omega; omega)
 | (apply s_len; (focus ((conv => lhs; whnf); done)); (first | assumption | (apply IsLL.at; assumption; omega)))
 | (apply s_idx; (focus ((conv => lhs; whnf); done)); exact rfl; (first | assumption | (apply IsLL.at; assumption; omega)); omega)
 | (apply s_ldI; exact rfl; omega)
 | (apply s_pd; (focus ((conv => lhs; whnf); done)))
 | (apply c_seq)
 | (apply c_reg)
 | (apply c_block)
 | (apply c_skip)
 | (apply c_ret)
 | (apply c_condT; exact rfl)
 | (apply c_condF; exact rfl)
 | (with_reducible apply k_c)
          · rw [Nat.mul_comm (tt R M (xs R M k) k)]
            refine hK2 (k + 1) _ _ ⟨by omega, fun j hj => ?_⟩ (by omega) (gc_to rfl (by simp [idFreeL, AV.idFree, fx, fy]))
            rcases (by omega : j < k ∨ j = k) with h | rfl
            · exact hf j h
            · exact hfit.2 (by omega)
          · rw [if_neg (fun h => by have := hfit.1 (h k hkR); omega)]
            exact fin_3 (by (conv => lhs; whnf)) (by (conv => lhs; whnf)) (by (conv => lhs; whnf)) (by rfl) (by rfl) (by rfl) rfl
        · obtain rfl : R.length = k := by omega
          rw [if_pos hf]
          repeat' first
 | (apply s_mov; (focus ((conv => lhs; whnf); done)))
 | (apply c_nil)
 | ((first | apply s_lss | apply s_leq | apply s_gtr | apply s_geq | apply s_eql | apply s_neq); exact rfl; all_goals (intro _; try (exfalso; omega)))
 | (apply s_len; (focus ((conv => lhs; whnf); done)); (first | assumption | (apply IsLL.at; assumption; omega)))
 | (apply c_seq)
 | (apply c_reg)
 | (apply c_exitH)
 | (apply c_ret)
 | (apply c_condF; exact rfl)
 | (apply c_preF; (focus (repeat (first | apply looks_nil | (apply looks_cons; (focus ((conv => lhs; whnf); done)))))); (focus (simp [idFreeL, AV.idFree, *]; done)))
 | (with_reducible apply k_c)
          exact fin_3 (by (conv => lhs; whnf)) (by (conv => lhs; whnf)) (by (conv => lhs; whnf)) (by rfl) (by rfl) (by rfl) rfl
      · simp only [if_neg hbig] at e52
        rw [if_neg (fun h : okAll R M => hbig fun i hi => (h.2 i (by omega)).2)]
        repeat' first
 | (apply s_mov; (focus ((conv => lhs; whnf); done)))
 | (apply c_nil)
 | (apply s_notF; exact rfl)
 | ((first | apply s_lss | apply s_leq | apply s_gtr | apply s_geq | apply s_eql | apply s_neq); exact rfl; all_goals (intro _; try (exfalso; omega)))
 | (apply s_cn; (focus (repeat (first | apply opds_nil | (apply opds_cons; (first | (focus ((conv => lhs; whnf); done)) | exact rfl))))); exact e52 _)
 | (apply s_len; (focus ((conv => lhs; whnf); done)); (first | assumption | (apply IsLL.at; assumption; omega)))
 | (apply s_pd; (focus ((conv => lhs; whnf); done)))
 | (apply c_seq)
 | (apply c_reg)
 | (apply c_exitH)
 | (apply c_ret)
 | (apply c_condT; exact rfl)
 | (apply c_condF; exact rfl)
 | (apply c_preF; (focus (repeat (first | apply looks_nil | (apply looks_cons; (focus ((conv => lhs; whnf); done)))))); (focus (simp [idFreeL, AV.idFree, *]; done)))
 | (with_reducible apply k_c)
        exact fin_3 (by (conv => lhs; whnf)) (by (conv => lhs; whnf)) (by (conv => lhs; whnf)) (by rfl) (by rfl) (by rfl) rfl
  · rw [if_neg (fun h => hlen h.1)]
    refine f_enter rfl rfl ?_
    generalize evF tab it m = call at *
    repeat' first
 | (apply s_mov; (focus ((conv => lhs; whnf); done)))
 | (apply s_gT; exact rfl)
 | (apply s_gF; exact rfl)
 | (apply c_nil)
 | (apply s_pickT; exact rfl; (focus ((conv => lhs; whnf); done)))
 | (apply s_pickF; exact rfl; (focus ((conv => lhs; whnf); done)))
 | ((first | apply s_lss | apply s_leq | apply s_gtr | apply s_geq | apply s_eql | apply s_neq); exact rfl; all_goals (intro _; try (exfalso; omega)))
 | (apply s_len; (focus ((conv => lhs; whnf); done)); (first | assumption | (apply IsLL.at; assumption; omega)))
 | (apply c_seq)
 | (apply c_reg)
 | (apply c_ret)
 | (apply c_condT; exact rfl)
 | (with_reducible apply k_c)
    all_goals first | exact fin_3 (by (conv => lhs; whnf)) (by (conv => lhs; whnf)) (by (conv => lhs; whnf)) (by rfl) (by rfl) (by rfl) rfl | (exfalso; omega)
theorem c26 {x y : AV} {R M : List Int} (hx : IsL x R) (hy : IsL y M) {m : Nat} (hm : 600 ≤ m) (H : Heap) : callPure (evF tab it m) true 26 [x, y] H = some (.tup (comR R M), H) :=
  callPure_free (by simp [idFreeL, hx.free, hy.free]) (by simp) (f26 hx hy hm) (comR_free R M)
end Go.AM.Pr

set_option linter.unusedSectionVars false
set_option linter.unusedVariables false
set_option linter.unusedSimpArgs false
namespace Go.AM.Pr
open Go.AM.Num
theorem getI_ext' {a b : List Int} (hl : a.length = b.length) (h : ∀ j : Nat, j < a.length → getI a j = getI b j) : a = b := by
  refine List.ext_getElem hl fun i h1 h2 => ?_
  have := h i h1
  rw [getI_nat, getI_nat] at this
  simpa [List.getD, h1, h2] using this
theorem f27 {x y : AV} {a b : List Int} (hx : IsL x a) (hy : IsL y b) (ha : a.length < 100) (m : Nat) (hm : 102 ≤ m) : evF tab it m 27 [x, y] [] = some (.bool (decide (a = b)), []) := by
  obtain ⟨m, rfl⟩ : ∃ j, m = j + 1 := ⟨m - 1, by omega⟩
  have fx := hx.free
  have fy := hy.free
  refine f_enter rfl rfl ?_
  repeat' first
 | (apply s_mov; (focus ((conv => lhs; whnf); done)))
 | (apply c_nil)
 | ((first | apply s_lss | apply s_leq | apply s_gtr | apply s_geq | apply s_eql | apply s_neq); exact rfl; all_goals (intro _; try (exfalso; omega)))
 | (apply s_len; (focus ((conv => lhs; whnf); done)); (first | assumption | (apply IsLL.at; assumption; omega)))
 | (apply c_seq)
 | (apply c_reg)
 | (apply c_block)
 | (apply c_skip)
 | (apply c_ret)
 | (apply c_condT; exact rfl)
 | (apply c_condF; exact rfl)
 | (with_reducible apply k_c)
  · refine c_loop ?_
    refine loop_gc (σ := Nat) (fun i => [x, y, .int .i64 i]) (fun _ => []) (fun i => i ≤ a.length ∧ ∀ j : Nat, j < i → getI a j = getI b j) (fun i => a.length - i) ?_ _ 0 _ _ ⟨by omega, by omega⟩ (by omega) (gc_to rfl (by simp [idFreeL, AV.idFree, *]; done))
    intro i ⟨hi, hb⟩ K hK
    repeat' first
 | (apply s_mov; (focus ((conv => lhs; whnf); done)))
 | (apply c_nil)
 | ((first | apply s_lss | apply s_leq | apply s_gtr | apply s_geq | apply s_eql | apply s_neq); exact rfl; all_goals (intro _; try (exfalso; omega)))
 | ((first | apply s_add | apply s_sub); exact rfl; omega)
 | (apply s_len; (focus ((conv => lhs; whnf); done)); (first | assumption | (apply IsLL.at; assumption; omega)))
 | (apply s_idx; (focus ((conv => lhs; whnf); done)); exact rfl; (first | assumption | (apply IsLL.at; assumption; omega)); omega)
 | (apply s_ldI; exact rfl; omega)
 | (apply c_seq)
 | (apply c_reg)
 | (apply c_block)
 | (apply c_exitH)
 | (apply c_skip)
 | (apply c_ret)
 | (apply c_condT; exact rfl)
 | (apply c_condF; exact rfl)
 | (apply c_preF; (focus (repeat (first | apply looks_nil | (apply looks_cons; (focus ((conv => lhs; whnf); done)))))); (focus (simp [idFreeL, AV.idFree, *]; done)))
 | (with_reducible apply k_c)
    · refine hK (i + 1) _ _ ⟨by omega, fun j hj => ?_⟩ (by omega) (gc_to rfl (by simp [idFreeL, AV.idFree, *]; done))
      rcases (by omega : j < i ∨ j = i) with h | rfl
      · exact hb j h
      · assumption
    · refine fin_t (by (conv => lhs; whnf)) (by rfl) (leafF fun h => ?_)
      subst h; contradiction
    · refine fin_t (by (conv => lhs; whnf)) (by rfl) (leafT ?_)
      refine List.ext_getElem (by omega) fun j h1 h2 => ?_
      have := hb j (by omega)
      simpa [getI, h1, h2] using this
  · refine fin_t (by (conv => lhs; whnf)) (by rfl) (leafF fun h => ?_)
    subst h; contradiction
theorem c27 {x y : AV} {a b : List Int} (hx : IsL x a) (hy : IsL y b) (ha : a.length < 100) {m : Nat} (hm : 102 ≤ m) (H : Heap) : callPure (evF tab it m) true 27 [x, y] H = some (.bool (decide (a = b)), H) :=
  callPure_free (by simp [idFreeL, hx.free, hy.free]) (by simp) (f27 hx hy ha m hm) rfl


theorem e_appT {call : CallF} {H : Heap} {v : AV} {l : List Int} (h : IsL v l) (hl : l.length ≤ most) : evE call H (.app true 1 8) [.nilS, v] = some (fzL l, H) := by
  cases h with
  | nil => simp [evE, appOf, szOk, lenOf, AV.idFree, fzL]
  | rd l =>
    cases l with
    | nil => simp [evE, appOf, szOk, lenOf, AV.idFree, fzL, iL]
    | cons a r =>
      have : (a :: r).length = r.length + 1 := rfl
      rw [this] at hl
      simp [evE, appOf, szOk, lenOf, rowOf, killRow, newRow, hl, fzL, iL]
theorem p_mn40 {H : Heap} {n : Nat} {k : Nat} (h : k = min n 40) : evP H .mn [.int .i64 (n : Int), .int .i64 40] = some (.int .i64 (k : Int)) := by
  subst h
  simp only [evP, mnOf]
  split
  · rename_i h; congr 2; omega
  · rename_i h; congr 2; omega
theorem f6 {x y : AV} {R M : List Int} (hx : IsL x R) (hy : IsL y M) : ∃ m H', evF tab it m 6 [x, y] [] = some (.bool true, H') := by
  refine ⟨60001, [], ?_⟩
  have h18 := c18
  have fx := hx.free; have fy := hy.free
  have m1 := fun H => p_mn40 (H := H) (n := R.length) rfl
  have m2 := fun H => p_mn40 (H := H) (n := M.length) rfl
  have s1 := fun H => p_slc0 (H := H) (q := .i64) (h := ((min R.length 40 : Nat) : Int)) hx ⟨by omega, by omega⟩
  have s2 := fun H => p_slc0 (H := H) (q := .i64) (h := ((min M.length 40 : Nat) : Int)) hy ⟨by omega, by omega⟩
  have i1 := isL_tk (h := ((min R.length 40 : Nat) : Int)) hx ⟨by omega, by omega⟩
  have i2 := isL_tk (h := ((min M.length 40 : Nat) : Int)) hy ⟨by omega, by omega⟩
  have l1 : (R.take ((min R.length 40 : Nat) : Int).toNat).length ≤ 40 := by simp; omega
  have l2 : (M.take ((min M.length 40 : Nat) : Int).toNat).length ≤ 40 := by simp; omega
  generalize R.take ((min R.length 40 : Nat) : Int).toNat = A at *
  generalize M.take ((min M.length 40 : Nat) : Int).toNat = B at *
  generalize tkL x ((min R.length 40 : Nat) : Int) = tx at *
  generalize tkL y ((min M.length 40 : Nat) : Int) = ty at *
  generalize min R.length 40 = nx at *
  generalize min M.length 40 = ny at *
  have a1 := fun call H => e_appT (call := call) (H := H) i1 (by unfold most; omega)
  have a2 := fun call H => e_appT (call := call) (H := H) i2 (by unfold most; omega)
  have a3 := fun call H => e_appT (call := call) (H := H) (isL_fz A) (by unfold most; omega)
  have a4 := fun call H => e_appT (call := call) (H := H) (isL_fz B) (by unfold most; omega)
  have e25 := fun H => c25 (isL_fz A) (isL_fz B) (m := 60000) (by omega) H
  have e26 := fun H => c26 (isL_fz A) (isL_fz B) (m := 60000) (by omega) H
  have e27 := fun H => c27 (isL_fz A) (isL_fz A) (by omega) (m := 60000) (by omega) H
  have e28 := fun H => c27 (isL_fz B) (isL_fz B) (by omega) (m := 60000) (by omega) H
  simp only [decide_true] at e27 e28
  have hcom : ∃ p q e : Int, comR A B = [.int .i64 p, .int .i64 q, .int .i64 e] := by
    unfold comR; split <;> (try split) <;> exact ⟨_, _, _, rfl⟩
  obtain ⟨p, q, e, hc⟩ := hcom
  rw [hc] at e25 e26
  refine f_enter rfl rfl ?_
  generalize evF tab it 60000 = call at *
  generalize fzL A = fa at *
  generalize fzL B = fb at *
  repeat' first
 | (apply s_mov; (focus ((conv => lhs; whnf); done)))
 | (apply s_gT; exact rfl)
 | (apply c_nil)
 | (apply s_pickT; exact rfl; (focus ((conv => lhs; whnf); done)))
 | ((first | apply s_lss | apply s_leq | apply s_gtr | apply s_geq | apply s_eql | apply s_neq); exact rfl; all_goals (intro _; try (exfalso; omega)))
 | (apply s_pn; (focus (repeat (first | apply opds_nil | (apply opds_cons; (first | (focus ((conv => lhs; whnf); done)) | exact rfl))))); exact m1 _)
 | (apply s_pn; (focus (repeat (first | apply opds_nil | (apply opds_cons; (first | (focus ((conv => lhs; whnf); done)) | exact rfl))))); exact m2 _)
 | (apply s_pn; (focus (repeat (first | apply opds_nil | (apply opds_cons; (first | (focus ((conv => lhs; whnf); done)) | exact rfl))))); exact s1 _)
 | (apply s_pn; (focus (repeat (first | apply opds_nil | (apply opds_cons; (first | (focus ((conv => lhs; whnf); done)) | exact rfl))))); exact s2 _)
 | (apply s_en; (focus (repeat (first | apply opds_nil | (apply opds_cons; (first | (focus ((conv => lhs; whnf); done)) | exact rfl))))); exact a1 _ _)
 | (apply s_en; (focus (repeat (first | apply opds_nil | (apply opds_cons; (first | (focus ((conv => lhs; whnf); done)) | exact rfl))))); exact a2 _ _)
 | (apply s_en; (focus (repeat (first | apply opds_nil | (apply opds_cons; (first | (focus ((conv => lhs; whnf); done)) | exact rfl))))); exact a3 _ _)
 | (apply s_en; (focus (repeat (first | apply opds_nil | (apply opds_cons; (first | (focus ((conv => lhs; whnf); done)) | exact rfl))))); exact a4 _ _)
 | (apply s_cn; (focus (repeat (first | apply opds_nil | (apply opds_cons; (first | (focus ((conv => lhs; whnf); done)) | exact rfl))))); exact e25 _)
 | (apply s_cn; (focus (repeat (first | apply opds_nil | (apply opds_cons; (first | (focus ((conv => lhs; whnf); done)) | exact rfl))))); exact e26 _)
 | (apply s_cn; (focus (repeat (first | apply opds_nil | (apply opds_cons; (first | (focus ((conv => lhs; whnf); done)) | exact rfl))))); exact e27 _)
 | (apply s_cn; (focus (repeat (first | apply opds_nil | (apply opds_cons; (first | (focus ((conv => lhs; whnf); done)) | exact rfl))))); exact e28 _)
 | (apply s_cn; (focus (repeat (first | apply opds_nil | (apply opds_cons; (first | (focus ((conv => lhs; whnf); done)) | exact rfl))))); exact h18 _)
 | (apply s_len; (focus ((conv => lhs; whnf); done)); (first | assumption | (apply IsLL.at; assumption; omega)))
 | (apply s_pd; (focus ((conv => lhs; whnf); done)))
 | (apply c_seq)
 | (apply c_reg)
 | (apply c_ret)
 | (with_reducible apply k_c)
  all_goals first | exact fin_t (by (conv => lhs; whnf)) (by rfl) rfl | (exfalso; omega)
end Go.AM.Pr

set_option linter.unusedSectionVars false
set_option linter.unusedVariables false
set_option linter.unusedSimpArgs false
namespace Go.AM.Pr
attribute [local go_sem] gc subHeap reach_skip ren_free reach_new reach_newp reach_end rangeL roots boxCells nodupB posOf renL AV.ren pickO renH renO looks look bindEnv envOf reach_int reach_bool reach_nilS reach_rd putRow cells_sl cells_int cells_bool cells_nilS cells_rd cells_agg reach_agg reach_tup idFreeL idf_sl idf_ptr idf_int idf_bool idf_nilS idf_rd reach_fn reach_mp cells_fn cells_ptr cells_mp idf_mp idf_fn idf_agg idf_tup
open Go.AM.Num
set_option maxHeartbeats 4000000
theorem p_fldE1 {H : Heap} {l : List En} {i : Nat} : evP H (.fldA 1) [.rp ((pcE l).drop (i * 3))] = some (.rp ((pcE l).drop (i * 3 + 1))) := by simp [evP, fldAt]
theorem p_fldE2 {H : Heap} {l : List En} {i : Nat} : evP H (.fldA 2) [.rp ((pcE l).drop (i * 3))] = some (.rp ((pcE l).drop (i * 3 + 2))) := by simp [evP, fldAt]
theorem p_ldE1 {H : Heap} {l : List En} {i : Nat} (hi : i < l.length) : evP H (.ld false 1) [.rp ((pcE l).drop (i * 3 + 1))] = some (.int .i64 (ge l i).w) := by
  obtain ⟨r, hr⟩ := pcE_at hi
  have : (pcE l).drop (i * 3 + 1) = .int .i64 (ge l i).w :: (ge l i).fv :: r := by rw [← List.drop_drop, hr]; rfl
  rw [this]
  simp [evP, ldc, wholeOf]
theorem p_ldE2 {H : Heap} {l : List En} {i : Nat} (hi : i < l.length) : evP H (.ld false 1) [.rp ((pcE l).drop (i * 3 + 2))] = some (ge l i).fv := by
  obtain ⟨r, hr⟩ := pcE_at hi
  have : (pcE l).drop (i * 3 + 2) = (ge l i).fv :: r := by rw [← List.drop_drop, hr]; rfl
  rw [this]
  simp [evP, ldc, wholeOf]
/-- equal: a verdict and itself -/
theorem f40 {d : Int} {pv : AV} {l : List En} (hv : IsP pv l) (hs : l.length ≤ 60) (hfl : ∀ e ∈ l, e.f.length < 100) {m : Nat} (hm : 200 ≤ m) : evF tab it m 40 [.agg [.int .i64 d, pv], .agg [.int .i64 d, pv]] [] = some (.bool true, []) := by
  obtain ⟨m, rfl⟩ : ∃ j, m = j + 1 := ⟨m - 1, by omega⟩
  have fv := hv.free
  have le := fun H => p_lenE (H := H) hv
  have ie := fun H i h => p_idxE (H := H) hv (i := i) h
  have e27 := fun {x : AV} {a : List Int} (hx : IsL x a) (ha : a.length < 100) H => c27 hx hx ha (m := m) (by omega) H
  refine f_enter rfl rfl ?_
  generalize evF tab it m = call at *
  have fo : pv.one = true := by obtain ⟨_, ⟨rfl, _⟩ | rfl⟩ := hv <;> rfl
  have o1 : ∀ x : Int, (AV.int .i64 x).one = true := fun _ => rfl
  have oa : evE call [] (.box false) [.agg [.int .i64 d, pv]] = some (.ptr 0 0, [some (.box [.int .i64 d, pv])]) := by
    simp [evE, cells_agg, oneL, o1, fo, mkHO]
  have ob : evE call [some (.box [.int .i64 d, pv])] (.box false) [.agg [.int .i64 d, pv]] = some (.ptr 1 0, [some (.box [.int .i64 d, pv]), some (.box [.int .i64 d, pv])]) := by
    simp [evE, cells_agg, oneL, o1, fo, mkHO]
  have d0 : ∀ i H, evP H (.fldA 0) [.ptr i 0] = some (.ptr i 0) := fun _ _ => rfl
  have d1 : ∀ i H, evP H (.fldA 1) [.ptr i 0] = some (.ptr i 1) := fun _ _ => rfl
  have l0 : evP [some (.box [.int .i64 d, pv]), some (.box [.int .i64 d, pv])] (.ld false 1) [.ptr 0 0] = some (.int .i64 d) := rfl
  have l0' : evP [some (.box [.int .i64 d, pv]), some (.box [.int .i64 d, pv])] (.ld false 1) [.ptr 1 0] = some (.int .i64 d) := rfl
  have l1 : evP [some (.box [.int .i64 d, pv]), some (.box [.int .i64 d, pv])] (.ld false 1) [.ptr 0 1] = some pv := rfl
  have l1' : evP [some (.box [.int .i64 d, pv]), some (.box [.int .i64 d, pv])] (.ld false 1) [.ptr 1 1] = some pv := rfl
  have gcX : ∀ a : Int, gc 0 [.ptr 0 0, .ptr 1 0, .int .i64 a] [some (.box [.int .i64 d, pv]), some (.box [.int .i64 d, pv])] = some ([.ptr 0 0, .ptr 1 0, .int .i64 a], [some (.box [.int .i64 d, pv]), some (.box [.int .i64 d, pv])]) := fun a => by simp [go_sem, fv]
  repeat' first
 | (apply s_mov; (focus ((conv => lhs; whnf); done)))
 | (apply s_gT; exact rfl)
 | (apply c_nil)
 | (apply s_pickF; exact rfl; (focus ((conv => lhs; whnf); done)))
 | ((first | apply s_lss | apply s_leq | apply s_gtr | apply s_geq | apply s_eql | apply s_neq); exact rfl; all_goals (intro _; try (exfalso; omega)))
 | (apply s_en; (focus (repeat (first | apply opds_nil | (apply opds_cons; (first | (focus ((conv => lhs; whnf); done)) | exact rfl))))); exact oa)
 | (apply s_en; (focus (repeat (first | apply opds_nil | (apply opds_cons; (first | (focus ((conv => lhs; whnf); done)) | exact rfl))))); exact ob)
 | (apply s_pn; (focus (repeat (first | apply opds_nil | (apply opds_cons; (first | (focus ((conv => lhs; whnf); done)) | exact rfl))))); exact d0 _ _)
 | (apply s_pn; (focus (repeat (first | apply opds_nil | (apply opds_cons; (first | (focus ((conv => lhs; whnf); done)) | exact rfl))))); exact d1 _ _)
 | (apply s_pn; (focus (repeat (first | apply opds_nil | (apply opds_cons; (first | (focus ((conv => lhs; whnf); done)) | exact rfl))))); exact l0)
 | (apply s_pn; (focus (repeat (first | apply opds_nil | (apply opds_cons; (first | (focus ((conv => lhs; whnf); done)) | exact rfl))))); exact l1)
 | (apply s_pn; (focus (repeat (first | apply opds_nil | (apply opds_cons; (first | (focus ((conv => lhs; whnf); done)) | exact rfl))))); exact le _)
 | (apply c_seq)
 | (apply c_reg)
 | (apply c_block)
 | (apply c_skip)
 | (apply c_condF; exact rfl)
 | (with_reducible apply k_c)
  refine c_loop ?_
  refine loop_gc (σ := Nat) (fun i => [.ptr 0 0, .ptr 1 0, .int .i64 (i : Int)]) (fun _ => [some (.box [.int .i64 d, pv]), some (.box [.int .i64 d, pv])]) (fun i => i ≤ l.length) (fun i => l.length - i) ?_ _ 0 _ _ (by omega) (by omega) (gcX _)
  intro i hi K hK
  by_cases hil : i < l.length
  · have hmem := ge_mem hil
    have hfe := hv.1 _ hmem
    have i1 := ie [some (.box [.int .i64 d, pv]), some (.box [.int .i64 d, pv])] i hil
    have k0 := p_ldE0 (H := [some (.box [.int .i64 d, pv]), some (.box [.int .i64 d, pv])]) hil
    have k1 := p_ldE1 (H := [some (.box [.int .i64 d, pv]), some (.box [.int .i64 d, pv])]) hil
    have k2 := p_ldE2 (H := [some (.box [.int .i64 d, pv]), some (.box [.int .i64 d, pv])]) hil
    have q27 := e27 hfe (hfl _ hmem) [some (.box [.int .i64 d, pv]), some (.box [.int .i64 d, pv])]
    simp only [decide_true] at q27
    generalize (ge l i).fv = efv at *
    generalize (ge l i).p = ep at *
    generalize (ge l i).w = ew at *
    repeat' first
 | (apply s_mov; (focus ((conv => lhs; whnf); done)))
 | (apply s_gT; exact rfl)
 | (apply c_nil)
 | (apply s_pickF; exact rfl; (focus ((conv => lhs; whnf); done)))
 | (apply s_notT; exact rfl)
 | ((first | apply s_lss | apply s_leq | apply s_gtr | apply s_geq | apply s_eql | apply s_neq); exact rfl; all_goals (intro _; try (exfalso; omega)))
 | ((first | apply s_add | apply s_sub); exact rfl; omega)
 | (apply s_pn; (focus (repeat (first | apply opds_nil | (apply opds_cons; (first | (focus ((conv => lhs; whnf); done)) | exact rfl))))); exact d1 _ _)
 | (apply s_pn; (focus (repeat (first | apply opds_nil | (apply opds_cons; (first | (focus ((conv => lhs; whnf); done)) | exact rfl))))); exact l1)
 | (apply s_pn; (focus (repeat (first | apply opds_nil | (apply opds_cons; (first | (focus ((conv => lhs; whnf); done)) | exact rfl))))); exact le _)
 | (apply s_pn; (focus (repeat (first | apply opds_nil | (apply opds_cons; (first | (focus ((conv => lhs; whnf); done)) | exact rfl))))); exact i1)
 | (apply s_pn; (focus (repeat (first | apply opds_nil | (apply opds_cons; (first | (focus ((conv => lhs; whnf); done)) | exact rfl))))); exact p_fldE0)
 | (apply s_pn; (focus (repeat (first | apply opds_nil | (apply opds_cons; (first | (focus ((conv => lhs; whnf); done)) | exact rfl))))); exact p_fldE1)
 | (apply s_pn; (focus (repeat (first | apply opds_nil | (apply opds_cons; (first | (focus ((conv => lhs; whnf); done)) | exact rfl))))); exact p_fldE2)
 | (apply s_pn; (focus (repeat (first | apply opds_nil | (apply opds_cons; (first | (focus ((conv => lhs; whnf); done)) | exact rfl))))); exact k0)
 | (apply s_pn; (focus (repeat (first | apply opds_nil | (apply opds_cons; (first | (focus ((conv => lhs; whnf); done)) | exact rfl))))); exact k1)
 | (apply s_pn; (focus (repeat (first | apply opds_nil | (apply opds_cons; (first | (focus ((conv => lhs; whnf); done)) | exact rfl))))); exact k2)
 | (apply s_cn; (focus (repeat (first | apply opds_nil | (apply opds_cons; (first | (focus ((conv => lhs; whnf); done)) | exact rfl))))); exact q27)
 | (apply c_seq)
 | (apply c_reg)
 | (apply c_block)
 | (apply c_skip)
 | (apply c_condT; exact rfl)
 | (apply c_condF; exact rfl)
 | (with_reducible apply k_c)
    all_goals exact hK (i + 1) _ _ (by omega) (by omega) (gcX _)
  · obtain rfl : l.length = i := by omega
    repeat' first
 | (apply s_mov; (focus ((conv => lhs; whnf); done)))
 | (apply c_nil)
 | ((first | apply s_lss | apply s_leq | apply s_gtr | apply s_geq | apply s_eql | apply s_neq); exact rfl; all_goals (intro _; try (exfalso; omega)))
 | (apply s_pn; (focus (repeat (first | apply opds_nil | (apply opds_cons; (first | (focus ((conv => lhs; whnf); done)) | exact rfl))))); exact d1 _ _)
 | (apply s_pn; (focus (repeat (first | apply opds_nil | (apply opds_cons; (first | (focus ((conv => lhs; whnf); done)) | exact rfl))))); exact l1)
 | (apply s_pn; (focus (repeat (first | apply opds_nil | (apply opds_cons; (first | (focus ((conv => lhs; whnf); done)) | exact rfl))))); exact le _)
 | (apply c_seq)
 | (apply c_reg)
 | (apply c_exitH)
 | (apply c_ret)
 | (apply c_condF; exact rfl)
 | (apply c_preF; (focus (repeat (first | apply looks_nil | (apply looks_cons; (focus ((conv => lhs; whnf); done)))))); (focus (simp [idFreeL, AV.idFree, *]; done)))
 | (with_reducible apply k_c)
    exact fin_t (by (conv => lhs; whnf)) (by rfl) rfl
theorem c40 {d : Int} {pv : AV} {l : List En} (hv : IsP pv l) (hs : l.length ≤ 60) (hfl : ∀ e ∈ l, e.f.length < 100) {m : Nat} (hm : 200 ≤ m) (H : Heap) : callPure (evF tab it m) true 40 [.agg [.int .i64 d, pv], .agg [.int .i64 d, pv]] H = some (.bool true, H) :=
  callPure_free (by simp [idFreeL, AV.idFree, hv.free]) (by simp) (f40 hv hs hfl hm) rfl
end Go.AM.Pr

set_option linter.unusedSectionVars false
set_option linter.unusedVariables false
set_option linter.unusedSimpArgs false
namespace Go.AM.Pr
attribute [local go_sem] gc subHeap reach_skip ren_free reach_new reach_newp reach_end rangeL roots boxCells nodupB posOf renL AV.ren pickO renH renO looks look bindEnv envOf reach_int reach_bool reach_nilS reach_rd putRow cells_sl cells_int cells_bool cells_nilS cells_rd cells_agg reach_agg reach_tup idFreeL idf_sl idf_ptr idf_int idf_bool idf_nilS idf_rd reach_fn reach_mp cells_fn cells_ptr cells_mp idf_mp idf_fn idf_agg idf_tup
open Go.AM.Num
set_option maxHeartbeats 4000000
def cpE (e : En) : En := ⟨e.p, e.w, fzL (e.f.take 20), e.f.take 20⟩
def cpl (l : List En) : List En := l.map cpE
def ownH (d : Int) (pv : AV) (C : List AV) : Nat → Heap
  | 0 => [some (.box [.int .i64 d, pv]), some (.box [.int .i64 0, .nilS]), some (.box [.int .i64 d, .nilS])]
  | n + 1 => [some (.box [.int .i64 d, pv]), some (.box [.int .i64 0, .nilS]), some (.box [.int .i64 d, .sl 3 3 0 (n + 1)]), some (.data C)]
theorem e_stB {call : CallF} {H : Heap} {id off : Nat} {c : List AV} {v : AV} (hH : H[id]? = some (some (.box c))) (h1 : v.cells = [v]) (h3 : v.one = true) (ho : off + 1 ≤ c.length) : evE call H (.st 1) [.ptr id off, v] = some (.undef, H.set id (some (.box (putRow c off [v])))) := by
  simp [evE, stAt, hH, h1, oneL, h3, ho]
theorem e_stA {call : CallF} {H : Heap} {id n : Nat} {c vs : List AV} (hH : H[id]? = some (some (.box c))) (h1 : (AV.agg vs).cells = vs) (h2 : vs.length = n) (h3 : oneL vs = true) (h4 : c.length = n) : evE call H (.st n) [.ptr id 0, .agg vs] = some (.undef, H.set id (some (.box vs))) := by
  subst h2
  simp [evE, stAt, hH, h1, h3, h4, putRow, List.drop_of_length_le]
theorem e_bldE {call : CallF} {H : Heap} {p w : Int} {v : AV} (hv : v.idFree = true) (h1 : v.one = true) (h2 : v.cells = [v]) : evE call H (.bldS true true 3 1 [.int .i64 0, .int .i64 0, .nilS] [(0, 3)]) [.agg [.int .i64 p, .int .i64 w, v]] = some (.rd 3 1 [.int .i64 p, .int .i64 w, v], H) := by
  simp [evE, go_sem, hv, h1, h2, oneL, fillParts, repl, newRow, AV.one, AV.solid, putPart]
  cases v <;> simp_all [AV.one]
theorem p_mn20 {H : Heap} {n : Nat} {k : Nat} (h : k = min n 20) : evP H .mn [.int .i64 (n : Int), .int .i64 20] = some (.int .i64 (k : Int)) := by
  subst h
  simp only [evP, mnOf]
  split
  · rename_i h; congr 2; omega
  · rename_i h; congr 2; omega
theorem p_bldW {H : Heap} {a b : Int} : evP H (.bld [.int .i64 0, .int .i64 0, .nilS] [(0, 1), (1, 1)]) [.int .i64 a, .int .i64 b] = some (.agg [.int .i64 a, .int .i64 b, .nilS]) := rfl
theorem isL_one {x : AV} {l : List Int} (h : IsL x l) : x.one = true ∧ x.cells = [x] := by
  cases h <;> exact ⟨rfl, rfl⟩
theorem cpl_take (l : List En) {i : Nat} (h : i < l.length) : cpl (l.take (i + 1)) = cpl (l.take i) ++ [cpE (ge l i)] := by
  rw [List.take_add_one, ge_lt h]
  simp only [cpl, List.getElem?_eq_getElem h, Option.toList_some, List.map_append, List.map_cons, List.map_nil]
theorem cpl_len (l : List En) (i : Nat) : (cpl (l.take i)).length = min i l.length := by simp [cpl]
theorem fin_cellA {p n : Nat} {a v v' : AV} {env : Env} {H H' : Heap} (h : look env p = a) (hl : evP H (.ld true n) [a] = some v) (hg : gc 0 [v] H = some ([v'], H')) : finish 0 [.cell p true n] env H = some (v', H') := by
  simp only [evP] at hl
  simp [finish, ress, resOf, h, hl, tupOf, hg]
theorem f39 {d : Int} {pv : AV} {l : List En} (hv : IsP pv l) {m : Nat} (hm : 100 ≤ m) : evF tab it m 39 [.agg [.int .i64 d, pv]] [] = some (match min l.length 60 with
    | 0 => (.agg [.int .i64 d, .nilS], [])
    | n + 1 => (.agg [.int .i64 d, .sl 0 3 0 (n + 1)], [some (.data (pcE (cpl (l.take 60))))])) := by
  obtain ⟨m, rfl⟩ : ∃ j, m = j + 1 := ⟨m - 1, by omega⟩
  have fv := hv.free
  have le := fun H => p_lenE (H := H) hv
  have ie := fun H i h => p_idxE (H := H) hv (i := i) h
  refine f_enter rfl rfl ?_
  generalize evF tab it m = call at *
  have fo : pv.one = true := by obtain ⟨_, ⟨rfl, _⟩ | rfl⟩ := hv <;> rfl
  have o1 : ∀ x : Int, (AV.int .i64 x).one = true := fun _ => rfl
  have oa : evE call [] (.box false) [.agg [.int .i64 d, pv]] = some (.ptr 0 0, [some (.box [.int .i64 d, pv])]) := by
    simp [evE, cells_agg, oneL, o1, fo, mkHO]
  have gcX : ∀ (i : Nat) C, gc 0 [.ptr 0 0, .ptr 1 0, .ptr 2 0, .int .i64 (i : Int)] (ownH d pv C i) = some ([.ptr 0 0, .ptr 1 0, .ptr 2 0, .int .i64 (i : Int)], ownH d pv C i) := by
    intro i C
    cases i <;> simp [go_sem, fv, ownH]
  repeat' first
 | (apply s_mov; (focus ((conv => lhs; whnf); done)))
 | (apply c_nil)
 | (apply s_en; (focus (repeat (first | apply opds_nil | (apply opds_cons; (first | (focus ((conv => lhs; whnf); done)) | exact rfl))))); exact oa)
 | (apply s_st; (focus (repeat (first | apply opds_nil | (apply opds_cons; (first | (focus ((conv => lhs; whnf); done)) | exact rfl))))); exact e_stA rfl rfl rfl rfl rfl)
 | (apply isE; apply s_ed; (focus ((conv => lhs; whnf); done)))
 | (apply s_pd; (focus ((conv => lhs; whnf); done)))
 | (apply c_seq)
 | (apply c_reg)
 | (apply c_block)
 | (with_reducible apply k_c)
  refine c_loop ?_
  refine loop_gc (σ := Nat) (fun i => [.ptr 0 0, .ptr 1 0, .ptr 2 0, .int .i64 (i : Int)]) (fun i => ownH d pv (pcE (cpl (l.take i))) i) (fun i => i ≤ min l.length 60) (fun i => 60 - i) ?_ _ 0 _ _ (by omega) (by omega) (gcX 0 _)
  intro i hi K hK
  by_cases hil : i < min l.length 60
  · have hi2 : i < l.length := by omega
    have hmem := ge_mem hi2
    have hfe := hv.1 _ hmem
    have i1 := fun H => ie H i hi2
    have k0 := fun H => p_ldE0 (H := H) hi2
    have k1 := fun H => p_ldE1 (H := H) hi2
    have k2 := fun H => p_ldE2 (H := H) hi2
    have m1 := fun H => p_mn20 (H := H) (n := (ge l i).f.length) rfl
    have s1 := fun H => p_slc0 (H := H) (q := .i64) (h := ((min (ge l i).f.length 20 : Nat) : Int)) hfe ⟨by omega, by omega⟩
    have j1 := isL_tk (h := ((min (ge l i).f.length 20 : Nat) : Int)) hfe ⟨by omega, by omega⟩
    have ht : (ge l i).f.take ((min (ge l i).f.length 20 : Nat) : Int).toNat = (ge l i).f.take 20 := by
      rw [Int.toNat_natCast]
      rcases Nat.le_total (ge l i).f.length 20 with h | h
      · rw [Nat.min_eq_left h, List.take_of_length_le (by omega), List.take_of_length_le h]
      · rw [Nat.min_eq_right h]
    rw [ht] at j1
    have hlen : ((ge l i).f.take 20).length ≤ most := by unfold most; simp; omega
    have a1 := fun call H => e_appT (call := call) (H := H) j1 hlen
    have hz := (isL_fz ((ge l i).f.take 20))
    obtain ⟨z1, z2⟩ := isL_one hz
    have z3 := hz.free
    have hnx := cpl_take l hi2
    have hpc : pcE (cpl (l.take (i + 1))) = pcE (cpl (l.take i)) ++ [.int .i64 (ge l i).p, .int .i64 (ge l i).w, fzL ((ge l i).f.take 20)] := by
      rw [hnx, pcE_app]; rfl
    have hln := pcE_len (cpl (l.take i))
    rw [cpl_len, Nat.min_eq_left (by omega)] at hln
    have hgc := gcX (i + 1) (pcE (cpl (l.take (i + 1))))
    rw [hpc] at hgc
    generalize fzL ((ge l i).f.take 20) = fz at *
    generalize tkL (ge l i).fv ((min (ge l i).f.length 20 : Nat) : Int) = tk at *
    generalize (ge l i).fv = efv at *
    generalize (ge l i).p = ep at *
    generalize (ge l i).w = ew at *
    generalize min (ge l i).f.length 20 = mn at *
    have hlf := hfe
    generalize (ge l i).f = lf at *
    have hK1 := hK (i + 1)
    rw [hpc] at hK1
    generalize pcE (cpl (l.take i)) = C at *
    have hgc2 := gcX (i + 1) (C ++ [.int .i64 ep, .int .i64 ew, fz])
    cases i with
    | zero =>
      obtain rfl : C = [] := List.eq_nil_of_length_eq_zero (by omega)
      simp only [ownH] at *
      repeat' first
 | (apply s_mov; (focus ((conv => lhs; whnf); done)))
 | (apply s_gT; exact rfl)
 | (apply c_nil)
 | (apply s_pickT; exact rfl; (focus ((conv => lhs; whnf); done)))
 | ((first | apply s_lss | apply s_leq | apply s_gtr | apply s_geq | apply s_eql | apply s_neq); exact rfl; all_goals (intro _; try (exfalso; omega)))
 | ((first | apply s_add | apply s_sub); exact rfl; omega)
 | (apply s_pn; (focus (repeat (first | apply opds_nil | (apply opds_cons; (first | (focus ((conv => lhs; whnf); done)) | exact rfl))))); exact p_bldW)
 | (apply s_pn; (focus (repeat (first | apply opds_nil | (apply opds_cons; (first | (focus ((conv => lhs; whnf); done)) | exact rfl))))); exact le _)
 | (apply s_pn; (focus (repeat (first | apply opds_nil | (apply opds_cons; (first | (focus ((conv => lhs; whnf); done)) | exact rfl))))); exact i1 _)
 | (apply s_pn; (focus (repeat (first | apply opds_nil | (apply opds_cons; (first | (focus ((conv => lhs; whnf); done)) | exact rfl))))); exact p_fldE0)
 | (apply s_pn; (focus (repeat (first | apply opds_nil | (apply opds_cons; (first | (focus ((conv => lhs; whnf); done)) | exact rfl))))); exact p_fldE1)
 | (apply s_pn; (focus (repeat (first | apply opds_nil | (apply opds_cons; (first | (focus ((conv => lhs; whnf); done)) | exact rfl))))); exact p_fldE2)
 | (apply s_pn; (focus (repeat (first | apply opds_nil | (apply opds_cons; (first | (focus ((conv => lhs; whnf); done)) | exact rfl))))); exact k0 _)
 | (apply s_pn; (focus (repeat (first | apply opds_nil | (apply opds_cons; (first | (focus ((conv => lhs; whnf); done)) | exact rfl))))); exact k1 _)
 | (apply s_pn; (focus (repeat (first | apply opds_nil | (apply opds_cons; (first | (focus ((conv => lhs; whnf); done)) | exact rfl))))); exact k2 _)
 | (apply s_len; exact rfl; exact hlf)
 | (apply s_pn; (focus (repeat (first | apply opds_nil | (apply opds_cons; (first | (focus ((conv => lhs; whnf); done)) | exact rfl))))); exact m1 _)
 | (apply s_pn; (focus (repeat (first | apply opds_nil | (apply opds_cons; (first | (focus ((conv => lhs; whnf); done)) | exact rfl))))); exact s1 _)
 | (apply s_en; (focus (repeat (first | apply opds_nil | (apply opds_cons; (first | (focus ((conv => lhs; whnf); done)) | exact rfl))))); exact a1 _ _)
 | (apply s_st; (focus (repeat (first | apply opds_nil | (apply opds_cons; (first | (focus ((conv => lhs; whnf); done)) | exact rfl))))); exact e_stA rfl rfl rfl rfl rfl)
 | (apply s_st; (focus (repeat (first | apply opds_nil | (apply opds_cons; (first | (focus ((conv => lhs; whnf); done)) | exact rfl))))); exact e_stB rfl z2 z1 (Nat.le_of_ble_eq_true rfl))
 | (apply s_en; (focus (repeat (first | apply opds_nil | (apply opds_cons; (first | (focus ((conv => lhs; whnf); done)) | exact rfl))))); exact e_bldE z3 z1 z2)
 | (apply s_en; (focus (repeat (first | apply opds_nil | (apply opds_cons; (first | (focus ((conv => lhs; whnf); done)) | exact rfl))))); exact e_appz_nil (by omega) (by decide))
 | (apply s_st; (focus (repeat (first | apply opds_nil | (apply opds_cons; (first | (focus ((conv => lhs; whnf); done)) | exact rfl))))); exact e_stB rfl rfl rfl (Nat.le_of_ble_eq_true rfl))
 | (apply isE; apply s_ed; (focus ((conv => lhs; whnf); done)))
 | (apply s_pd; (focus ((conv => lhs; whnf); done)))
 | (apply c_seq)
 | (apply c_reg)
 | (apply c_block)
 | (apply c_skip)
 | (apply c_condT; exact rfl)
 | (with_reducible apply k_c)
      all_goals refine hK1 _ _ (by omega) (by omega) ?_
      simp only [looks, look, bindEnv, envOf, beq_self_eq_true, if_true, ite_false, Nat.reduceBEq, Bool.false_eq_true]
      simp [go_sem, fv, z3]
    | succ k =>
      simp only [ownH] at *
      repeat' first
 | (apply s_mov; (focus ((conv => lhs; whnf); done)))
 | (apply s_gT; exact rfl)
 | (apply c_nil)
 | (apply s_pickT; exact rfl; (focus ((conv => lhs; whnf); done)))
 | ((first | apply s_lss | apply s_leq | apply s_gtr | apply s_geq | apply s_eql | apply s_neq); exact rfl; all_goals (intro _; try (exfalso; omega)))
 | ((first | apply s_add | apply s_sub); exact rfl; omega)
 | (apply s_pn; (focus (repeat (first | apply opds_nil | (apply opds_cons; (first | (focus ((conv => lhs; whnf); done)) | exact rfl))))); exact p_bldW)
 | (apply s_pn; (focus (repeat (first | apply opds_nil | (apply opds_cons; (first | (focus ((conv => lhs; whnf); done)) | exact rfl))))); exact le _)
 | (apply s_pn; (focus (repeat (first | apply opds_nil | (apply opds_cons; (first | (focus ((conv => lhs; whnf); done)) | exact rfl))))); exact i1 _)
 | (apply s_pn; (focus (repeat (first | apply opds_nil | (apply opds_cons; (first | (focus ((conv => lhs; whnf); done)) | exact rfl))))); exact p_fldE0)
 | (apply s_pn; (focus (repeat (first | apply opds_nil | (apply opds_cons; (first | (focus ((conv => lhs; whnf); done)) | exact rfl))))); exact p_fldE1)
 | (apply s_pn; (focus (repeat (first | apply opds_nil | (apply opds_cons; (first | (focus ((conv => lhs; whnf); done)) | exact rfl))))); exact p_fldE2)
 | (apply s_pn; (focus (repeat (first | apply opds_nil | (apply opds_cons; (first | (focus ((conv => lhs; whnf); done)) | exact rfl))))); exact k0 _)
 | (apply s_pn; (focus (repeat (first | apply opds_nil | (apply opds_cons; (first | (focus ((conv => lhs; whnf); done)) | exact rfl))))); exact k1 _)
 | (apply s_pn; (focus (repeat (first | apply opds_nil | (apply opds_cons; (first | (focus ((conv => lhs; whnf); done)) | exact rfl))))); exact k2 _)
 | (apply s_len; exact rfl; exact hlf)
 | (apply s_pn; (focus (repeat (first | apply opds_nil | (apply opds_cons; (first | (focus ((conv => lhs; whnf); done)) | exact rfl))))); exact m1 _)
 | (apply s_pn; (focus (repeat (first | apply opds_nil | (apply opds_cons; (first | (focus ((conv => lhs; whnf); done)) | exact rfl))))); exact s1 _)
 | (apply s_en; (focus (repeat (first | apply opds_nil | (apply opds_cons; (first | (focus ((conv => lhs; whnf); done)) | exact rfl))))); exact a1 _ _)
 | (apply s_st; (focus (repeat (first | apply opds_nil | (apply opds_cons; (first | (focus ((conv => lhs; whnf); done)) | exact rfl))))); exact e_stA rfl rfl rfl rfl rfl)
 | (apply s_st; (focus (repeat (first | apply opds_nil | (apply opds_cons; (first | (focus ((conv => lhs; whnf); done)) | exact rfl))))); exact e_stB rfl z2 z1 (Nat.le_of_ble_eq_true rfl))
 | (apply s_en; (focus (repeat (first | apply opds_nil | (apply opds_cons; (first | (focus ((conv => lhs; whnf); done)) | exact rfl))))); exact e_bldE z3 z1 z2)
 | (apply s_en; (focus (repeat (first | apply opds_nil | (apply opds_cons; (first | (focus ((conv => lhs; whnf); done)) | exact rfl))))); exact e_appz_sl rfl hln (by omega) (by unfold most; omega))
 | (apply s_st; (focus (repeat (first | apply opds_nil | (apply opds_cons; (first | (focus ((conv => lhs; whnf); done)) | exact rfl))))); exact e_stB rfl rfl rfl (Nat.le_of_ble_eq_true rfl))
 | (apply isE; apply s_ed; (focus ((conv => lhs; whnf); done)))
 | (apply s_pd; (focus ((conv => lhs; whnf); done)))
 | (apply c_seq)
 | (apply c_reg)
 | (apply c_block)
 | (apply c_skip)
 | (apply c_condT; exact rfl)
 | (with_reducible apply k_c)
      all_goals refine hK1 _ _ (by omega) (by omega) ?_
      simp only [looks, look, bindEnv, envOf, beq_self_eq_true, if_true, ite_false, Nat.reduceBEq, Bool.false_eq_true]
      simp [go_sem, fv, z3]
  · obtain rfl : i = min l.length 60 := by omega
    have hc : l.take (min l.length 60) = l.take 60 := by
      rcases Nat.le_total l.length 60 with h | h
      · rw [Nat.min_eq_left h, List.take_of_length_le (Nat.le_refl _), List.take_of_length_le h]
      · rw [Nat.min_eq_right h]
    rw [hc]
    generalize hC : pcE (cpl (l.take 60)) = C at *
    cases hq : min l.length 60 with
    | zero =>
      rw [hq] at hil
      obtain hl0 : l.length = 0 := by omega
      rw [hl0] at le
      simp only [ownH] at *
      repeat' first
 | (apply s_mov; (focus ((conv => lhs; whnf); done)))
 | (apply s_gF; exact rfl)
 | (apply c_nil)
 | (apply s_pickF; exact rfl; (focus ((conv => lhs; whnf); done)))
 | ((first | apply s_lss | apply s_leq | apply s_gtr | apply s_geq | apply s_eql | apply s_neq); exact rfl; all_goals (intro _; try (exfalso; omega)))
 | (apply s_pn; (focus (repeat (first | apply opds_nil | (apply opds_cons; (first | (focus ((conv => lhs; whnf); done)) | exact rfl))))); exact le _)
 | (apply s_pd; (focus ((conv => lhs; whnf); done)))
 | (apply c_seq)
 | (apply c_reg)
 | (apply c_exitH)
 | (apply c_condF; exact rfl)
 | (with_reducible apply k_c)
      all_goals apply c_pre (vs := [.ptr 0 0, .ptr 1 0]) (H' := [some (.box [.int .i64 0, .nilS]), some (.box [.int .i64 d, .nilS])])
      all_goals first | (simp [go_sem, fv]; done) | skip
      repeat' first
 | (apply c_nil)
 | (apply s_st; (focus (repeat (first | apply opds_nil | (apply opds_cons; (first | (focus ((conv => lhs; whnf); done)) | exact rfl))))); exact e_stA rfl rfl rfl rfl rfl)
 | (apply s_pd; exact rfl)
 | (apply c_seq)
 | (apply c_reg)
 | (apply c_ret)
 | (with_reducible apply k_c)
      all_goals exact fin_cellA (by rfl) (by rfl) (by simp [go_sem, fv])
    | succ k =>
      rw [hq] at hil
      simp only [ownH] at *
      repeat' first
 | (apply s_mov; (focus ((conv => lhs; whnf); done)))
 | (apply s_gT; exact rfl)
 | (apply s_gF; exact rfl)
 | (apply c_nil)
 | (apply s_pickT; exact rfl; (focus ((conv => lhs; whnf); done)))
 | (apply s_pickF; exact rfl; (focus ((conv => lhs; whnf); done)))
 | ((first | apply s_lss | apply s_leq | apply s_gtr | apply s_geq | apply s_eql | apply s_neq); exact rfl; all_goals (intro _; try (exfalso; omega)))
 | (apply s_pn; (focus (repeat (first | apply opds_nil | (apply opds_cons; (first | (focus ((conv => lhs; whnf); done)) | exact rfl))))); exact le _)
 | (apply s_pd; (focus ((conv => lhs; whnf); done)))
 | (apply c_seq)
 | (apply c_reg)
 | (apply c_exitH)
 | (apply c_condF; exact rfl)
 | (with_reducible apply k_c)
      all_goals apply c_pre (vs := [.ptr 0 0, .ptr 1 0]) (H' := [some (.box [.int .i64 0, .nilS]), some (.box [.int .i64 d, .sl 2 3 0 (k + 1)]), some (.data C)])
      all_goals first | (simp [go_sem, fv]; done) | skip
      repeat' first
 | (apply c_nil)
 | (apply s_st; (focus (repeat (first | apply opds_nil | (apply opds_cons; (first | (focus ((conv => lhs; whnf); done)) | exact rfl))))); exact e_stA rfl rfl rfl rfl rfl)
 | (apply s_pd; exact rfl)
 | (apply c_seq)
 | (apply c_reg)
 | (apply c_ret)
 | (with_reducible apply k_c)
      all_goals exact fin_cellA (by rfl) (by rfl) (by simp [go_sem, fv])
end Go.AM.Pr
