/- A part of the proof: S19. -/
import Derived.Test.YtbjkmejlecoebaaS18
set_option linter.unusedSectionVars false
set_option linter.unusedVariables false
set_option linter.unusedSimpArgs false
namespace Go.AM.Pr
open Go.AM.Num
set_option maxHeartbeats 4000000
def leastR (M : List Int) : List AV := if ∀ i, i < M.length → hv M (i + 1) ≤ 4611686018427387904 then [.int .i64 (hv M M.length : Nat), .bool true] else [.int .i64 0, .bool false]
theorem f52 {y : AV} {M : List Int} (hy : IsL y M) (hl : M.length ≤ 32) (hmo : ∀ i, i < M.length → IsNum (getI M i)) {m : Nat} (hm : 500 ≤ m) : evF tab it m 52 [y] [] = some (.tup (leastR M), []) := by
  obtain ⟨m, rfl⟩ : ∃ j, m = j + 1 := ⟨m - 1, by omega⟩
  have fy := hy.free
  have h53 := fun {A B : Nat} (hA : A < 9223372036854775808) (hB : B < 9223372036854775808) H => c53 (A := A) (B := B) hA hB (m := m) (by omega) H
  unfold leastR
  refine f_enter rfl rfl ?_
  generalize evF tab it m = call at *
  repeat' first
 | (apply s_mov; (focus ((conv => lhs; whnf); done)))
 | (apply c_nil)
 | (apply c_seq)
 | (apply c_reg)
 | (apply c_block)
 | (with_reducible apply k_c)
  refine c_loop ?_
  refine loop_gc (σ := Nat) (fun i => [y, .int .i64 (hv M i : Nat), .int .i64 (i : Int)]) (fun _ => []) (fun i => i ≤ M.length ∧ ∀ j, j < i → hv M (j + 1) ≤ 4611686018427387904) (fun i => M.length - i) ?_ _ 0 _ _ ⟨by omega, by omega⟩ (by omega) (gc_to rfl (by simp [idFreeL, AV.idFree, fy]))
  intro i ⟨hi, hok⟩ K hK
  have hhv : hv M i ≤ 4611686018427387904 := by
    cases i with
    | zero => show 1 ≤ _; omega
    | succ k => exact hok k (by omega)
  by_cases hiM : i < M.length
  · have hn := hmo i hiM
    have m1 : getI M i = (mo M i : Nat) := by unfold IsNum at hn; unfold mo; omega
    have m2 : 1 ≤ mo M i := by unfold IsNum at hn; omega
    have m3 : mo M i ≤ 2147483647 := by unfold IsNum at hn; omega
    have g0 := gg_pos m2
    have p0 := part_pos m2
    have p1 := part_le M i
    have hM : ∀ H, evP H (.ld false 1) [.rp (iL (M.drop ((i : Int).toNat)))] = some (.int .i64 (mo M i : Nat)) := fun H => by
      rw [p_ld ⟨by omega, by omega⟩, m1]
    have hW := hv_succ M i
    have hquo : ∀ H, evP H (.bin .quo) [.int .i64 (mo M i : Nat), .int .i64 (gg M i : Nat)] = some (.int .i64 (part M i : Nat)) := fun H => by
      simp only [evP, binV, isShift, binInt, Bool.false_eq_true, if_false, if_true]
      rw [if_neg (by omega), show ((mo M i : Nat) : Int).tdiv (gg M i : Nat) = (part M i : Nat) from rfl, wrapI (by omega)]
    have e53 := h53 (A := mo M i) (B := hv M i % mo M i) (by omega) (by have := Nat.mod_lt (hv M i) m2; omega) []
    rw [Nat.gcd_comm, gcd_mod, show Nat.gcd (hv M i) (mo M i) = gg M i from rfl] at e53
    have hdiv : hv M i ≤ 4611686018427387904 / part M i ↔ hv M (i + 1) ≤ 4611686018427387904 := by
      rw [hW]
      exact Nat.le_div_iff_mul_le p0
    repeat' first
 | (apply s_mov; (focus ((conv => lhs; whnf); done)))
 | (apply c_nil)
 | ((first | apply s_lss | apply s_leq | apply s_gtr | apply s_geq | apply s_eql | apply s_neq); exact rfl; all_goals (intro _; try (exfalso; omega)))
 | (apply s_pn; (focus (repeat (first | apply opds_nil | (apply opds_cons; (first | (focus ((conv => lhs; whnf); done)) | exact rfl))))); exact hM _)
 | (apply s_pn; (focus (repeat (first | apply opds_nil | (apply opds_cons; (first | (focus ((conv => lhs; whnf); done)) | exact rfl))))); exact hquo _)
 | (apply s_cn; (focus (repeat (first | apply opds_nil | (apply opds_cons; (first | (focus ((conv => lhs; whnf); done)) | exact rfl))))); exact e53)
 | (apply s_remN; exact rfl; omega)
 | (apply s_quoN (a := 4611686018427387904); exact rfl; omega; omega)
 | ((first | apply s_add | apply s_sub); exact rfl; omega)
 | (apply s_mulN; exact rfl; omega)
 | (apply s_len; (focus ((conv => lhs; whnf); done)); (first | assumption | (apply IsLL.at; assumption; omega)))
 | (apply s_idx; (focus ((conv => lhs; whnf); done)); exact rfl; (first | assumption | (apply IsLL.at; assumption; omega)); omega)
 | (apply c_seq)
 | (apply c_reg)
 | (apply c_block)
 | (apply c_skip)
 | (apply c_ret)
 | (apply c_condT; exact rfl)
 | (apply c_condF; exact rfl)
 | (with_reducible apply k_c)
    · rw [if_neg (fun h => by have := hdiv.2 (h i hiM); omega)]
      exact fin_tt (by (conv => lhs; whnf)) (by (conv => lhs; whnf)) (by rfl) (by rfl) rfl
    · refine hK (i + 1) _ _ ⟨by omega, fun j hj => ?_⟩ (by omega) (gc_to rfl (by simp [idFreeL, AV.idFree, fy]))
      rcases (by omega : j < i ∨ j = i) with h | rfl
      · exact hok j h
      · exact hdiv.1 (by omega)
  · obtain rfl : M.length = i := by omega
    rw [if_pos hok]
    repeat' first
 | (apply s_mov; (focus ((conv => lhs; whnf); done)))
 | (apply c_nil)
 | ((first | apply s_lss | apply s_leq | apply s_gtr | apply s_geq | apply s_eql | apply s_neq); exact rfl; all_goals (intro _; try (exfalso; omega)))
 | (apply s_len; (focus ((conv => lhs; whnf); done)); (first | assumption | (apply IsLL.at; assumption; omega)))
 | (apply c_seq)
 | (apply c_reg)
 | (apply c_exitH)
 | (apply c_ret)
 | (apply c_condF; exact rfl)
 | (apply c_preF; (focus (repeat (first | apply looks_nil | (apply looks_cons; (focus ((conv => lhs; whnf); done)))))); (focus (simp [idFreeL, AV.idFree, *]; done)))
 | (with_reducible apply k_c)
    exact fin_tt (by (conv => lhs; whnf)) (by (conv => lhs; whnf)) (by rfl) (by rfl) rfl
theorem c52 {y : AV} {M : List Int} (hy : IsL y M) (hl : M.length ≤ 32) (hmo : ∀ i, i < M.length → IsNum (getI M i)) {m : Nat} (hm : 500 ≤ m) (H : Heap) : callPure (evF tab it m) true 52 [y] H = some (.tup (leastR M), H) :=
  callPure_free (by simp [idFreeL, hy.free]) (by simp) (f52 hy hl hmo hm) (by unfold leastR; split <;> rfl)
theorem sub_mod_mod (a b : Int) (n : Int) : (a - b % n) % n = (a - b) % n := by
  refine Int.emod_eq_emod_iff_emod_sub_eq_zero.2 (Int.emod_eq_zero_of_dvd ⟨b / n, ?_⟩)
  have := Int.emod_add_mul_ediv b n
  omega
theorem f26 {x y : AV} {R M : List Int} (hx : IsL x R) (hy : IsL y M) {m : Nat} (hm : 600 ≤ m) : evF tab it m 26 [x, y] [] = some (.tup (comR R M), []) := by
  obtain ⟨m, rfl⟩ : ∃ j, m = j + 1 := ⟨m - 1, by omega⟩
  have fx := hx.free; have fy := hy.free
  have h17 := fun a H => c17 (m := m) (by omega) a H
  have h53 := fun {A B : Nat} (hA : A < 9223372036854775808) (hB : B < 9223372036854775808) H => c53 (A := A) (B := B) hA hB (m := m) (by omega) H
  have h36 := fun {A B : Nat} (h1 : 1 ≤ B) (hB : B ≤ 2147483647) (hA : A < 9223372036854775808) H => c36 (A := A) (B := B) h1 hB hA (m := m) (by omega) H
  have h52 := fun (hl : M.length ≤ 32) (hmo : ∀ i, i < M.length → IsNum (getI M i)) H => c52 hy hl hmo (m := m) (by omega) H
  unfold comR
  by_cases hlen : R.length = M.length ∧ R.length ≤ 32
  · obtain ⟨hl1, hl2⟩ := hlen
    refine f_enter rfl rfl ?_
    generalize evF tab it m = call at *
    repeat' first
 | (apply s_mov; (focus ((conv => lhs; whnf); done)))
 | (apply s_gT; exact rfl)
 | (apply c_nil)
 | (apply s_pickF; exact rfl; (focus ((conv => lhs; whnf); done)))
 | ((first | apply s_lss | apply s_leq | apply s_gtr | apply s_geq | apply s_eql | apply s_neq); exact rfl; all_goals (intro _; try (exfalso; omega)))
 | (apply s_len; (focus ((conv => lhs; whnf); done)); (first | assumption | (apply IsLL.at; assumption; omega)))
 | (apply c_seq)
 | (apply c_reg)
 | (apply c_block)
 | (apply c_skip)
 | (apply c_condF; exact rfl)
 | (with_reducible apply k_c)
    refine c_loop ?_
    refine loop_gc (σ := Nat) (fun i => [x, y, .int .i64 (i : Int)]) (fun _ => []) (fun i => i ≤ R.length ∧ ∀ j, j < i → IsRest (getI R j) (getI M j)) (fun i => R.length - i) ?_ _ 0 _ _ ⟨by omega, by omega⟩ (by omega) (gc_to rfl (by simp [idFreeL, AV.idFree, fx, fy]))
    intro i ⟨hi, hv'⟩ K hK
    by_cases hiR : i < R.length
    · by_cases hr : IsRest (getI R i) (getI M i)
      · have hr' := hr
        unfold IsRest at hr'
        repeat' first
 | (apply s_mov; (focus ((conv => lhs; whnf); done)))
 | (apply s_gT; exact rfl)
 | (apply s_gF; exact rfl)
 | (apply c_nil)
 | (apply s_pickT; exact rfl; (focus ((conv => lhs; whnf); done)))
 | (apply s_pickF; exact rfl; (focus ((conv => lhs; whnf); done)))
 | (apply s_notT; exact rfl)
 | (apply s_notF; exact rfl)
 | ((first | apply s_lss | apply s_leq | apply s_gtr | apply s_geq | apply s_eql | apply s_neq); exact rfl; all_goals (intro _; try (exfalso; omega)))
 | ((first | apply s_add | apply s_sub); exact rfl; omega)
 | (apply isE; refine s_cB (by (focus (repeat (first | apply opds_nil | (apply opds_cons; (first | (focus ((conv => lhs; whnf); done)) | exact rfl)))))) (h17 _ _) (fun _ => ?_) (fun _ => ?_))
 | (apply s_len; (focus ((conv => lhs; whnf); done)); (first | assumption | (apply IsLL.at; assumption; omega)))
 | (apply s_idx; (focus ((conv => lhs; whnf); done)); exact rfl; (first | assumption | (apply IsLL.at; assumption; omega)); omega)
 | (apply s_ldI; exact rfl; omega)
 | (apply c_seq)
 | (apply c_reg)
 | (apply c_block)
 | (apply c_skip)
 | (apply c_ret)
 | (apply c_condT; exact rfl)
 | (apply c_condF; exact rfl)
 | (with_reducible apply k_c)
        all_goals first
          | exact absurd hr'.1 (by assumption)
          | (exfalso; omega)
          | (refine hK (i + 1) _ _ ⟨by omega, fun j hj => ?_⟩ (by omega) (gc_to rfl (by simp [idFreeL, AV.idFree, fx, fy]))
             rcases (by omega : j < i ∨ j = i) with h | rfl
             · exact hv' j h
             · exact hr)
      · rw [if_neg (fun h : okAll R M => hr (h.2 i hiR).1)]
        repeat' first
 | (apply s_mov; (focus ((conv => lhs; whnf); done)))
 | (apply s_gT; exact rfl)
 | (apply s_gF; exact rfl)
 | (apply c_nil)
 | (apply s_pickT; exact rfl; (focus ((conv => lhs; whnf); done)))
 | (apply s_pickF; exact rfl; (focus ((conv => lhs; whnf); done)))
 | (apply s_notT; exact rfl)
 | (apply s_notF; exact rfl)
 | ((first | apply s_lss | apply s_leq | apply s_gtr | apply s_geq | apply s_eql | apply s_neq); exact rfl; all_goals (intro _; try (exfalso; omega)))
 | ((first | apply s_add | apply s_sub); exact rfl; omega)
 | (apply isE; refine s_cB (by (focus (repeat (first | apply opds_nil | (apply opds_cons; (first | (focus ((conv => lhs; whnf); done)) | exact rfl)))))) (h17 _ _) (fun _ => ?_) (fun _ => ?_))
 | (apply s_len; (focus ((conv => lhs; whnf); done)); (first | assumption | (apply IsLL.at; assumption; omega)))
 | (apply s_idx; (focus ((conv => lhs; whnf); done)); exact rfl; (first | assumption | (apply IsLL.at; assumption; omega)); omega)
 | (apply s_ldI; exact rfl; omega)
 | (apply c_seq)
 | (apply c_reg)
 | (apply c_block)
 | (apply c_skip)
 | (apply c_ret)
 | (apply c_condT; exact rfl)
 | (apply c_condF; exact rfl)
 | (with_reducible apply k_c)
        all_goals first
          | exact fin_3 (by (conv => lhs; whnf)) (by (conv => lhs; whnf)) (by (conv => lhs; whnf)) (by rfl) (by rfl) (by rfl) rfl
          | exact absurd ⟨by assumption, by omega, by omega⟩ hr
    · obtain rfl : R.length = i := by omega
      have hnum : ∀ i, i < M.length → IsNum (getI M i) := fun i hi => (hv' i (by omega)).1
      have e52 := fun H => h52 (by omega) hnum H
      unfold leastR at e52
      by_cases hbig : ∀ i, i < M.length → hv M (i + 1) ≤ 4611686018427387904
      · have hall : okAll R M := ⟨⟨hl1, hl2⟩, fun i hi => ⟨hv' i hi, hbig i (by omega)⟩⟩
        have hok := hall.2
        simp only [if_pos hbig] at e52
        rw [if_pos hall]
        repeat' first
 | (apply s_mov; (focus ((conv => lhs; whnf); done)))
 | (apply c_nil)
 | (apply s_notT; exact rfl)
 | ((first | apply s_lss | apply s_leq | apply s_gtr | apply s_geq | apply s_eql | apply s_neq); exact rfl; all_goals (intro _; try (exfalso; omega)))
 | (apply s_cn; (focus (repeat (first | apply opds_nil | (apply opds_cons; (first | (focus ((conv => lhs; whnf); done)) | exact rfl))))); exact e52 _)
 | (apply s_len; (focus ((conv => lhs; whnf); done)); (first | assumption | (apply IsLL.at; assumption; omega)))
 | (apply s_pd; (focus ((conv => lhs; whnf); done)))
 | (apply c_seq)
 | (apply c_reg)
 | (apply c_block)
 | (apply c_exitH)
 | (apply c_skip)
 | (apply c_condF; exact rfl)
 | (apply c_preF; (focus (repeat (first | apply looks_nil | (apply looks_cons; (focus ((conv => lhs; whnf); done)))))); (focus (simp [idFreeL, AV.idFree, *]; done)))
 | (with_reducible apply k_c)
        refine c_loop ?_
        refine loop_gc (σ := Nat) (fun k => [x, y, .int .i64 (xs R M k : Nat), .int .i64 (hv M k : Nat), .int .i64 (k : Int)]) (fun _ => []) (fun k => k ≤ R.length ∧ ∀ j, j < k → fit R M j) (fun k => R.length - k) ?_ _ 0 _ _ ⟨by omega, by omega⟩ (by omega) (gc_to rfl (by simp [idFreeL, AV.idFree, fx, fy]))
        intro k ⟨hk, hf⟩ K2 hK2
        by_cases hkR : k < R.length
        · have hmo : ∀ i, i < R.length → 1 ≤ mo M i := fun i hi => (okAt_mo (hok i hi).1).2.1
          obtain ⟨m1, m2, m3, m4, m5⟩ := okAt_mo (hok k hkR).1
          have g0 := gg_pos m2
          have g1 := gg_le m2
          have p0 := part_pos m2
          have p1 := part_le M k
          have hM : ∀ H, evP H (.ld false 1) [.rp (iL (M.drop ((k : Int).toNat)))] = some (.int .i64 (mo M k : Nat)) := fun H => by
            rw [p_ld ⟨by omega, by omega⟩, m1]
          have hh := hv_le (k := k) fun i hi => hok i (by omega)
          have hh2 := (hok k hkR).2
          have hxl := xs_lt (R := R) (M := M) (k := k) fun i hi => hmo i (by omega)
          have htl := tt_lt (R := R) m2 (xs R M k)
          have hgl := gap_lt (R := R) m2 (xs R M k)
          have hil := inv_lt m2
          have hW := hv_succ M k
          have hmul := Nat.mul_le_mul_left (hv M k) (show tt R M (xs R M k) k + 1 ≤ part M k by omega)
          rw [Nat.mul_add, ← hW, Nat.mul_comm] at hmul
          have e53 := h53 (A := mo M k) (B := hv M k % mo M k) (by omega) (by have := Nat.mod_lt (hv M k) m2; omega) []
          rw [Nat.gcd_comm, gcd_mod, show Nat.gcd (hv M k) (mo M k) = gg M k from rfl] at e53
          have hcop : Nat.gcd (hv M k / gg M k % part M k) (part M k) = 1 := by
            rw [← Nat.gcd_rec, Nat.gcd_comm]
            exact Nat.coprime_div_gcd_div_gcd (gg_pos m2)
          have e36 := h36 (A := hv M k / gg M k % part M k) (B := part M k) p0 (by omega) (by have := Nat.mod_lt (hv M k / gg M k) p0; omega) []
          have hinvc : invOf (hv M k / gg M k % part M k) (part M k) = ((inv M k : Nat) : Int) := (Int.toNat_of_nonneg (invOf_spec p0 hcop).1).symm
          rw [if_pos hcop, hinvc] at e36
          have t1 := tmod_b (x := getI R k - ((xs R M k % mo M k : Nat) : Int)) m2
          have hxm := Nat.mod_lt (xs R M k) m2
          have hgap : ∀ H, evP H (.bin .rem) [.int .i64 ((getI R k - ((xs R M k % mo M k : Nat) : Int)).tmod (mo M k : Nat) + (mo M k : Nat)), .int .i64 (mo M k : Nat)] = some (.int .i64 (gapN R M (xs R M k) k : Nat)) := fun H => by
            simp only [evP, binV, isShift, binInt, Bool.false_eq_true, if_false, if_true]
            rw [if_neg (by omega), tmod_add (by omega), gap_cast m2, show ((xs R M k % mo M k : Nat) : Int) = (xs R M k : Int) % (mo M k : Int) from rfl, sub_mod_mod]
          have hquo : ∀ H, evP H (.bin .quo) [.int .i64 (mo M k : Nat), .int .i64 (gg M k : Nat)] = some (.int .i64 (part M k : Nat)) := fun H => by
            simp only [evP, binV, isShift, binInt, Bool.false_eq_true, if_false, if_true]
            rw [if_neg (by omega), show ((mo M k : Nat) : Int).tdiv (gg M k : Nat) = (part M k : Nat) from rfl, wrapI (by omega)]
          have ha := Nat.mod_lt (gapN R M (xs R M k) k / gg M k) p0
          have hab := Nat.mul_le_mul (show gapN R M (xs R M k) k / gg M k % part M k ≤ 2147483647 by omega) (show inv M k ≤ 2147483647 by omega)
          have htt : gapN R M (xs R M k) k / gg M k % part M k * inv M k % part M k = tt R M (xs R M k) k := rfl
          have hgN : gapN R M (xs R M k) k / gg M k ≤ gapN R M (xs R M k) k := Nat.div_le_self _ _
          have hfit : fit R M k ↔ gapN R M (xs R M k) k % gg M k = 0 := Iff.rfl
          have hrt : ∀ H, evP H (.bin .rem) [.int .i64 ((gapN R M (xs R M k) k / gg M k % part M k * inv M k : Nat) : Int), .int .i64 (part M k : Nat)] = some (.int .i64 (tt R M (xs R M k) k : Nat)) := fun H => by
            simp only [evP, binV, isShift, binInt, Bool.false_eq_true, if_false, if_true]
            rw [if_neg (by omega)]
            rfl
          generalize hgx : gapN R M (xs R M k) k = gp at *
          repeat' first
 | (apply s_mov; (focus ((conv => lhs; whnf); done)))
 | (apply c_nil)
 | ((first | apply s_lss | apply s_leq | apply s_gtr | apply s_geq | apply s_eql | apply s_neq); exact rfl; all_goals (intro _; try (exfalso; omega)))
 | (apply s_pn; (focus (repeat (first | apply opds_nil | (apply opds_cons; (first | (focus ((conv => lhs; whnf); done)) | exact rfl))))); exact hM _)
 | (apply s_pn; (focus (repeat (first | apply opds_nil | (apply opds_cons; (first | (focus ((conv => lhs; whnf); done)) | exact rfl))))); exact hquo _)
 | (apply s_pn; (focus (repeat (first | apply opds_nil | (apply opds_cons; (first | (focus ((conv => lhs; whnf); done)) | exact rfl))))); exact hgap _)
 | (apply s_pn; (focus (repeat (first | apply opds_nil | (apply opds_cons; (first | (focus ((conv => lhs; whnf); done)) | exact rfl))))); exact hrt _)
 | (apply s_remN; exact rfl; omega)
 | (apply s_cn; (focus (repeat (first | apply opds_nil | (apply opds_cons; (first | (focus ((conv => lhs; whnf); done)) | exact rfl))))); exact e53)
 | (apply s_cn; (focus (repeat (first | apply opds_nil | (apply opds_cons; (first | (focus ((conv => lhs; whnf); done)) | exact rfl))))); exact e36)
 | (apply s_rem; exact rfl; omega)
 | ((first | apply s_add | apply s_sub); exact rfl; omega)
 | (apply s_mulN; exact rfl; omega)
 | (apply s_quoN; exact rfl; omega; omega)
 | (apply s_len; (focus ((conv => lhs; whnf); done)); (first | assumption | (apply IsLL.at; assumption; omega)))
 | (apply s_idx; (focus ((conv => lhs; whnf); done)); exact rfl; (first | assumption | (apply IsLL.at; assumption; omega)); omega)
 | (apply s_ldI; exact rfl; omega)
 | (apply s_pd; (focus ((conv => lhs; whnf); done)))
 | (apply c_seq)
 | (apply c_reg)
 | (apply c_block)
 | (apply c_skip)
 | (apply c_ret)
 | (apply c_condT; exact rfl)
 | (apply c_condF; exact rfl)
 | (with_reducible apply k_c)
          · rw [Nat.mul_comm (tt R M (xs R M k) k)]
            refine hK2 (k + 1) _ _ ⟨by omega, fun j hj => ?_⟩ (by omega) (gc_to rfl (by simp [idFreeL, AV.idFree, fx, fy]))
            rcases (by omega : j < k ∨ j = k) with h | rfl
            · exact hf j h
            · exact hfit.2 (by omega)
          · rw [if_neg (fun h => by have := hfit.1 (h k hkR); omega)]
            exact fin_3 (by (conv => lhs; whnf)) (by (conv => lhs; whnf)) (by (conv => lhs; whnf)) (by rfl) (by rfl) (by rfl) rfl
        · obtain rfl : R.length = k := by omega
          rw [if_pos hf]
          repeat' first
 | (apply s_mov; (focus ((conv => lhs; whnf); done)))
 | (apply c_nil)
 | ((first | apply s_lss | apply s_leq | apply s_gtr | apply s_geq | apply s_eql | apply s_neq); exact rfl; all_goals (intro _; try (exfalso; omega)))
 | (apply s_len; (focus ((conv => lhs; whnf); done)); (first | assumption | (apply IsLL.at; assumption; omega)))
 | (apply c_seq)
 | (apply c_reg)
 | (apply c_exitH)
 | (apply c_ret)
 | (apply c_condF; exact rfl)
 | (apply c_preF; (focus (repeat (first | apply looks_nil | (apply looks_cons; (focus ((conv => lhs; whnf); done)))))); (focus (simp [idFreeL, AV.idFree, *]; done)))
 | (with_reducible apply k_c)
          exact fin_3 (by (conv => lhs; whnf)) (by (conv => lhs; whnf)) (by (conv => lhs; whnf)) (by rfl) (by rfl) (by rfl) rfl
      · simp only [if_neg hbig] at e52
        rw [if_neg (fun h : okAll R M => hbig fun i hi => (h.2 i (by omega)).2)]
        repeat' first
 | (apply s_mov; (focus ((conv => lhs; whnf); done)))
 | (apply c_nil)
 | (apply s_notF; exact rfl)
 | ((first | apply s_lss | apply s_leq | apply s_gtr | apply s_geq | apply s_eql | apply s_neq); exact rfl; all_goals (intro _; try (exfalso; omega)))
 | (apply s_cn; (focus (repeat (first | apply opds_nil | (apply opds_cons; (first | (focus ((conv => lhs; whnf); done)) | exact rfl))))); exact e52 _)
 | (apply s_len; (focus ((conv => lhs; whnf); done)); (first | assumption | (apply IsLL.at; assumption; omega)))
 | (apply s_pd; (focus ((conv => lhs; whnf); done)))
 | (apply c_seq)
 | (apply c_reg)
 | (apply c_exitH)
 | (apply c_ret)
 | (apply c_condT; exact rfl)
 | (apply c_condF; exact rfl)
 | (apply c_preF; (focus (repeat (first | apply looks_nil | (apply looks_cons; (focus ((conv => lhs; whnf); done)))))); (focus (simp [idFreeL, AV.idFree, *]; done)))
 | (with_reducible apply k_c)
        exact fin_3 (by (conv => lhs; whnf)) (by (conv => lhs; whnf)) (by (conv => lhs; whnf)) (by rfl) (by rfl) (by rfl) rfl
  · rw [if_neg (fun h => hlen h.1)]
    refine f_enter rfl rfl ?_
    generalize evF tab it m = call at *
    repeat' first
 | (apply s_mov; (focus ((conv => lhs; whnf); done)))
 | (apply s_gT; exact rfl)
 | (apply s_gF; exact rfl)
 | (apply c_nil)
 | (apply s_pickT; exact rfl; (focus ((conv => lhs; whnf); done)))
 | (apply s_pickF; exact rfl; (focus ((conv => lhs; whnf); done)))
 | ((first | apply s_lss | apply s_leq | apply s_gtr | apply s_geq | apply s_eql | apply s_neq); exact rfl; all_goals (intro _; try (exfalso; omega)))
 | (apply s_len; (focus ((conv => lhs; whnf); done)); (first | assumption | (apply IsLL.at; assumption; omega)))
 | (apply c_seq)
 | (apply c_reg)
 | (apply c_ret)
 | (apply c_condT; exact rfl)
 | (with_reducible apply k_c)
    all_goals first | exact fin_3 (by (conv => lhs; whnf)) (by (conv => lhs; whnf)) (by (conv => lhs; whnf)) (by rfl) (by rfl) (by rfl) rfl | (exfalso; omega)
theorem c26 {x y : AV} {R M : List Int} (hx : IsL x R) (hy : IsL y M) {m : Nat} (hm : 600 ≤ m) (H : Heap) : callPure (evF tab it m) true 26 [x, y] H = some (.tup (comR R M), H) :=
  callPure_free (by simp [idFreeL, hx.free, hy.free]) (by simp) (f26 hx hy hm) (comR_free R M)
end Go.AM.Pr
