/- A part of the proof: P18 P19 P21 U42. -/
import Derived.Test.YtmegimhfoedcdaaP17
set_option linter.unusedVariables false
set_option linter.unusedSimpArgs false
set_option linter.unusedSectionVars false
namespace Go.AM.Ch
def okAll (R M : List Int) : Prop := (R.length = M.length ∧ R.length ≤ 32) ∧ ∀ i, i < R.length → okAt R M i
instance (R M : List Int) : Decidable (okAll R M) := by unfold okAll; infer_instance
def comR (R M : List Int) : List AV := if okAll R M then (if ∀ i, i < R.length → fit R M i then [.int .i64 (xs R M R.length : Nat), .int .i64 (hv M R.length : Nat), .int .i64 0] else [.int .i64 0, .int .i64 0, .int .i64 6]) else [.int .i64 0, .int .i64 0, .int .i64 2]
theorem okAt_mo {R M : List Int} {i : Nat} (h : IsRest (getI R i) (getI M i)) : getI M i = (mo M i : Nat) ∧ 1 ≤ mo M i ∧ mo M i ≤ 2147483647 ∧ 0 ≤ getI R i ∧ getI R i < (mo M i : Nat) := by
  unfold IsRest IsNum at h
  unfold mo
  omega
theorem fin_3 {n n' n'' : Nat} {env : Env} {H : Heap} {res : Go.AM.R} {v v' v'' : AV} (hr : look env n = v) (hr' : look env n' = v') (hr'' : look env n'' = v'') (hf : v.idFree = true) (hf' : v'.idFree = true) (hf'' : v''.idFree = true) (e : some (.tup [v, v', v''], []) = res) : finish 0 [.t n, .t n', .t n''] env H = res := by
  simp [finish, ress, resOf, hr, hr', hr'', tupOf, gc_free (vs := [.tup [v, v', v'']]) (by simp [idFreeL, AV.idFree, hf, hf', hf'']) H, ← e]
theorem gcd_mod (a b : Nat) : Nat.gcd (a % b) b = Nat.gcd a b := by
  rw [← Nat.gcd_rec, Nat.gcd_comm]
theorem hv_le {R M : List Int} {k : Nat} (hk : ∀ i, i < k → okAt R M i) : hv M k ≤ 4611686018427387904 := by
  cases k with
  | zero => show 1 ≤ _; omega
  | succ k => exact (hk k (by omega)).2
set_option maxHeartbeats 4000000
theorem inv_lt {M : List Int} {k : Nat} (hm : 1 ≤ mo M k) : inv M k < part M k := by
  have hp := part_pos hm
  have hcop : Nat.gcd (hv M k / gg M k % part M k) (part M k) = 1 := by
    rw [← Nat.gcd_rec, Nat.gcd_comm]
    exact Nat.coprime_div_gcd_div_gcd (gg_pos hm)
  obtain ⟨i1, i2, i3⟩ := invOf_spec hp hcop
  unfold inv
  omega
theorem tmod_b {x : Int} {n : Nat} (hn : 1 ≤ n) : -(n : Int) < x.tmod n ∧ x.tmod n < n := by
  have a := Int.tmod_lt_of_pos x (show (0 : Int) < n by omega)
  have b := Int.lt_tmod_of_pos x (show (0 : Int) < n by omega)
  omega
theorem walk62 {call : CallF} {m : Nat} {x y : AV} {R M : List Int} {env : Env} {X0 : Nat → KT} (hx : IsL x R) (hy : IsL y M) (hl1 : R.length = M.length) (hl2 : R.length ≤ 32) (hok : ∀ i, i < R.length → okAt R M i) (hm : 40 < m)
    (he : looks env [1, 7, 14, 15, 78, 79, 80] = [y, .int .i64 (hv M R.length : Nat), .int .i64 0, .int .i64 1, x, .int .i64 (R.length : Int), .int .i64 0])
    (h89 : ∀ {A B : Nat}, A < 9223372036854775808 → 1 ≤ B → B ≤ 2147483647 → ∀ H, callPure call true 89 [.int .i64 (A : Int), .int .i64 (B : Int)] H = some (.tup [.int .i64 ((eucl A B 1 0).1 : Int), .int .i64 (eucl A B 1 0).2], H))
    (h91 : ∀ {a b n : Nat}, 0 < n → a * b < 9223372036854775808 → ∀ H, callPure call true 91 [.int .i64 (a : Int), .int .i64 (b : Int), .int .i64 (n : Int)] H = some (.int .i64 ((a * b % n : Nat) : Int), H)) :
    RC call it m (.loop lb62_21) 0 (evC call it m sq62_22 0 (finish 0 [.t 4, .t 5, .t 6]) X0 (finish 0 [.t 4, .t 5, .t 6])) (blkX 2 (evC call it m sq62_22 0 (finish 0 [.t 4, .t 5, .t 6]) X0 (finish 0 [.t 4, .t 5, .t 6])) X0) (finish 0 [.t 4, .t 5, .t 6]) env []
      (some (.tup (if ∀ i, i < R.length → fit R M i then [.int .i64 (xs R M R.length : Nat), .int .i64 (hv M R.length : Nat), .int .i64 0] else [.int .i64 0, .int .i64 0, .int .i64 6]), [])) := by
  have fx := hx.free; have fy := hy.free
  refine c_loop ?_
  refine loop_gc (σ := Nat) (fun k => [y, .int .i64 (hv M R.length : Nat), .int .i64 (xs R M k : Nat), .int .i64 (hv M k : Nat), x, .int .i64 (R.length : Int), .int .i64 (k : Int)]) (fun _ => []) (fun k => k ≤ R.length ∧ ∀ j, j < k → fit R M j) (fun k => R.length - k) ?_ _ 0 _ _ ⟨by omega, by omega⟩ (by omega) (gc_to he (by simp [idFreeL, AV.idFree, fx, fy]))
  intro k ⟨hk, hf⟩ K hK
  by_cases hkR : k < R.length
  · have hmo : ∀ i, i < R.length → 1 ≤ mo M i := fun i hi => (okAt_mo (hok i hi).1).2.1
    obtain ⟨m1, m2, m3, m4, m5⟩ := okAt_mo (hok k hkR).1
    have g0 := gg_pos m2
    have g1 := gg_le m2
    have p0 := part_pos m2
    have p1 := part_le M k
    have hM : ∀ H, evP H (.ld false 1) [.rp (iL (M.drop ((k : Int).toNat)))] = some (.int .i64 (mo M k : Nat)) := fun H => by
      rw [p_ld ⟨by omega, by omega⟩, m1]
    have hh := hv_le (k := k) fun i hi => hok i (by omega)
    have hh2 := (hok k hkR).2
    have hxl := xs_lt (R := R) (M := M) (k := k) fun i hi => hmo i (by omega)
    have htl := tt_lt (R := R) m2 (xs R M k)
    have hgl := gap_lt (R := R) m2 (xs R M k)
    have hil := inv_lt m2
    have hW := hv_succ M k
    have hmul := Nat.mul_le_mul_left (hv M k) (show tt R M (xs R M k) k + 1 ≤ part M k by omega)
    rw [Nat.mul_add, ← hW] at hmul
    have e89 := h89 (A := hv M k % mo M k) (B := mo M k) (by have := Nat.mod_lt (hv M k) m2; omega) m2 m3 []
    have hd := eucl_d (A := hv M k % mo M k) (B := mo M k) m2
    rw [eucl_g m2, gcd_mod, show Nat.gcd (hv M k) (mo M k) = gg M k from rfl] at e89
    rw [gcd_mod, show Nat.gcd (hv M k) (mo M k) = gg M k from rfl] at hd
    generalize (eucl (hv M k % mo M k) (mo M k) 1 0).2 = iv at *
    have hie := inv_eq m2 hd.1
    have t1 := tmod_b (x := getI R k - (xs R M k : Nat)) m2
    have t2 := tmod_b (x := iv) p0
    have hgap : ∀ H, evP H (.bin .rem) [.int .i64 ((getI R k - (xs R M k : Nat)).tmod (mo M k : Nat) + (mo M k : Nat)), .int .i64 (mo M k : Nat)] = some (.int .i64 (gapN R M (xs R M k) k : Nat)) := fun H => by
      simp only [evP, binV, isShift, binInt, Bool.false_eq_true, if_false, if_true]
      rw [if_neg (by omega), tmod_add (by omega), gap_cast m2]
    have hinv : ∀ H, evP H (.bin .rem) [.int .i64 (iv.tmod (part M k : Nat) + (part M k : Nat)), .int .i64 (part M k : Nat)] = some (.int .i64 (inv M k : Nat)) := fun H => by
      simp only [evP, binV, isShift, binInt, Bool.false_eq_true, if_false, if_true]
      rw [if_neg (by omega), tmod_add (by omega), hie]
    have ha := Nat.mod_lt (gapN R M (xs R M k) k / gg M k) p0
    have hab := Nat.mul_le_mul (show gapN R M (xs R M k) k / gg M k % part M k ≤ 2147483647 by omega) (show inv M k ≤ 2147483647 by omega)
    have e91 := h91 (a := gapN R M (xs R M k) k / gg M k % part M k) (b := inv M k) (n := part M k) p0 (by omega) []
    rw [show gapN R M (xs R M k) k / gg M k % part M k * inv M k % part M k = tt R M (xs R M k) k from rfl] at e91
    have hpart : mo M k / gg M k = part M k := rfl
    have hgN : gapN R M (xs R M k) k / gg M k ≤ gapN R M (xs R M k) k := Nat.div_le_self _ _
    have hquo : ∀ H, evP H (.bin .quo) [.int .i64 (mo M k : Nat), .int .i64 (gg M k : Nat)] = some (.int .i64 (part M k : Nat)) := fun H => by
      simp only [evP, binV, isShift, binInt, Bool.false_eq_true, if_false, if_true]
      rw [if_neg (by omega), show ((mo M k : Nat) : Int).tdiv (gg M k : Nat) = (part M k : Nat) from rfl, wrapI (by omega)]
    have hfit : fit R M k ↔ gapN R M (xs R M k) k % gg M k = 0 := Iff.rfl
    generalize hgx : gapN R M (xs R M k) k = gp at *
    repeat' first
 | (apply s_mov; exact aW)
 | (apply c_nil)
 | (apply s_lss; exact rfl; all_goals (intro _; try (exfalso; omega)))
 | (apply s_neq; exact rfl; all_goals (intro _; try (exfalso; omega)))
 | (apply s_pn; exact aO; exact hM _)
 | (apply s_pn; exact aO; exact hquo _)
 | (apply s_remN; exact rfl; omega)
 | (apply s_pn; exact aO; exact hgap _)
 | (apply s_pn; exact aO; exact hinv _)
 | (apply s_cn; exact aO; exact e89)
 | (apply s_cn; exact aO; exact e91)
 | (apply s_rem; exact rfl; omega)
 | (apply s_add; exact rfl; omega)
 | (apply s_sub; exact rfl; omega)
 | (apply s_mulN; exact rfl; omega)
 | (apply s_quoN; exact rfl; omega; omega)
 | (apply s_idx; exact aW; exact rfl; exact aI; omega)
 | (apply s_ldI; exact rfl; omega)
 | (apply s_pd; exact aW)
 | (apply c_seq)
 | (apply c_reg)
 | (apply c_block)
 | (apply c_skip)
 | (apply c_ret)
 | (apply c_condT; exact rfl)
 | (apply c_condF; exact rfl)
 | (with_reducible apply k_c)
    · refine hK (k + 1) _ _ ⟨by omega, fun j hj => ?_⟩ (by omega) (gc_to rfl (by simp [idFreeL, AV.idFree, fx, fy]))
      rcases (by omega : j < k ∨ j = k) with h | rfl
      · exact hf j h
      · exact hfit.2 (by omega)
    · rw [if_neg (fun h => by have := hfit.1 (h k hkR); omega)]
      exact fin_3 (by (conv => lhs; whnf)) (by (conv => lhs; whnf)) (by (conv => lhs; whnf)) (by rfl) (by rfl) (by rfl) rfl
  · obtain rfl : R.length = k := by omega
    rw [if_pos hf]
    repeat' first
 | (apply s_mov; exact aW)
 | (apply c_nil)
 | (apply s_lss; exact rfl; all_goals (intro _; try (exfalso; omega)))
 | (apply c_seq)
 | (apply c_reg)
 | (apply c_exitH)
 | (apply c_ret)
 | (apply c_condF; exact rfl)
 | (apply c_preF; exact aK; exact aF)
 | (with_reducible apply k_c)
    exact fin_3 (by (conv => lhs; whnf)) (by (conv => lhs; whnf)) (by (conv => lhs; whnf)) (by rfl) (by rfl) (by rfl) rfl
theorem f62 {x y : AV} {R M : List Int} (hx : IsL x R) (hy : IsL y M) {m : Nat} (hm : 500 ≤ m) : evF tab it m 62 [x, y] [] = some (.tup (comR R M), []) := by
  obtain ⟨m, rfl⟩ : ∃ j, m = j + 1 := ⟨m - 1, by omega⟩
  have fx := hx.free; have fy := hy.free
  have h88 := fun a n H => c88 (m := m) (by omega) a n H
  have h89 := fun {A B : Nat} (hA : A < 9223372036854775808) (h1 : 1 ≤ B) (hB : B ≤ 2147483647) H => c89 (A := A) (B := B) hA h1 hB (m := m) (by omega) H
  have h90 := fun {x y : Nat} (hx : x < 18446744073709551616) (hy : y < 18446744073709551616) H => c90 (x := x) (y := y) hx hy (m := m) (by omega) H
  have h91 := fun {a b n : Nat} (hn : 0 < n) (hab : a * b < 9223372036854775808) H => c91 (a := a) (b := b) (n := n) hn hab (m := m) (by omega) H
  unfold comR
  by_cases hlen : R.length = M.length ∧ R.length ≤ 32
  · obtain ⟨hl1, hl2⟩ := hlen
    refine f_enter rfl rfl ?_
    generalize evF tab it m = call at *
    repeat' first
 | (apply s_mov; exact aW)
 | (apply s_gT; exact rfl)
 | (apply c_nil)
 | (apply s_pickF; exact rfl; exact aW)
 | (apply s_gtr; exact rfl; all_goals (intro _; try (exfalso; omega)))
 | (apply s_neq; exact rfl; all_goals (intro _; try (exfalso; omega)))
 | (apply s_len; exact aW; exact aI)
 | (apply c_seq)
 | (apply c_reg)
 | (apply c_block)
 | (apply c_skip)
 | (apply c_condF; exact rfl)
 | (with_reducible apply k_c)
    refine c_loop ?_
    refine loop_gc (σ := Nat) (fun i => [x, y, .int .i64 (hv M i : Nat), x, .int .i64 (R.length : Int), .int .i64 (i : Int)]) (fun _ => []) (fun i => i ≤ R.length ∧ ∀ j, j < i → okAt R M j) (fun i => R.length - i) ?_ _ 0 _ _ ⟨by omega, by omega⟩ (by omega) (gc_to rfl (by simp [idFreeL, AV.idFree, fx, fy]))
    intro i ⟨hi, hok⟩ K hK
    have hhv := hv_le hok
    by_cases hiR : i < R.length
    · by_cases hr : IsRest (getI R i) (getI M i)
      · obtain ⟨m1, m2, m3, m4, m5⟩ := okAt_mo hr
        have g0 := gg_pos m2
        have p0 := part_pos m2
        have p1 := part_le M i
        have hM : ∀ H, evP H (.ld false 1) [.rp (iL (M.drop ((i : Int).toNat)))] = some (.int .i64 (mo M i : Nat)) := fun H => by
          rw [p_ld ⟨by omega, by omega⟩, m1]
        have e88 := h88 (getI R i) (mo M i : Nat) []
        rw [← m1] at e88
        simp only [hr, decide_true] at e88
        rw [m1] at e88
        have e89 := h89 (A := hv M i) (B := mo M i) (by omega) m2 m3 []
        rw [eucl_g m2, show Nat.gcd (hv M i) (mo M i) = gg M i from rfl] at e89
        have hW := hv_succ M i
        have e90 := h90 (x := hv M i) (y := part M i) (by omega) (by omega) []
        rw [← hW] at e90
        have hq : mo M i / gg M i = part M i := rfl
        have c1 : ∀ H, evP H (.conv .u64) [.int .i64 ((hv M i : Nat) : Int)] = some (.int .u64 ((hv M i : Nat) : Int)) := fun H => by
          simp only [evP, wrapUN]
          rw [Nat.mod_eq_of_lt (by omega)]
        have c2 : ∀ H, evP H (.conv .u64) [.int .i64 ((mo M i / gg M i : Nat) : Int)] = some (.int .u64 ((part M i : Nat) : Int)) := fun H => by
          simp only [evP, hq, wrapUN]
          rw [Nat.mod_eq_of_lt (by omega)]
        have c3 : ∀ H, hv M (i + 1) ≤ 4611686018427387904 → evP H (.conv .i64) [.int .u64 ((hv M (i + 1) % 18446744073709551616 : Nat) : Int)] = some (.int .i64 ((hv M (i + 1) : Nat) : Int)) := fun H h => by
          simp only [evP]
          rw [Nat.mod_eq_of_lt (by omega), wrapI (by omega)]
        generalize hG : (eucl (hv M i) (mo M i) 1 0).2 = iv at *
        repeat' first
 | (apply s_mov; exact aW)
 | (apply s_gT; exact rfl)
 | (apply s_gF; exact rfl)
 | (apply c_nil)
 | (apply s_pickT; exact rfl; exact aW)
 | (apply s_pickF; exact rfl; exact aW)
 | (apply s_notT; exact rfl)
 | (apply s_lss; exact rfl; all_goals (intro _; try (exfalso; omega)))
 | (apply s_gtr; exact rfl; all_goals (intro _; try (exfalso; omega)))
 | (apply s_pn; exact aO; exact hM _)
 | (apply s_cn; exact aO; exact e88)
 | (apply s_cn; exact aO; exact e89)
 | (apply s_cn; exact aO; exact e90)
 | (apply s_pn; exact aO; exact c1 _)
 | (apply s_pn; exact aO; exact c2 _)
 | (apply s_pn; exact aO; exact (c3 _ (by omega)))
 | (apply s_add; exact rfl; omega)
 | (apply s_quoN; exact rfl; omega; omega)
 | (apply s_idx; exact aW; exact rfl; exact aI; omega)
 | (apply s_ldI; exact rfl; omega)
 | (apply s_pd; exact aW)
 | (apply c_seq)
 | (apply c_reg)
 | (apply c_block)
 | (apply c_skip)
 | (apply c_ret)
 | (apply c_condT; exact rfl)
 | (apply c_condF; exact rfl)
 | (with_reducible apply k_c)
        · rw [if_neg (fun h : okAll R M => by have := (h.2 i hiR).2; omega)]
          exact fin_3 (by (conv => lhs; whnf)) (by (conv => lhs; whnf)) (by (conv => lhs; whnf)) (by rfl) (by rfl) (by rfl) rfl
        · rw [if_neg (fun h : okAll R M => by have := (h.2 i hiR).2; omega)]
          exact fin_3 (by (conv => lhs; whnf)) (by (conv => lhs; whnf)) (by (conv => lhs; whnf)) (by rfl) (by rfl) (by rfl) rfl
        · refine hK (i + 1) _ _ ⟨by omega, fun j hj => ?_⟩ (by omega) (gc_to rfl (by simp [idFreeL, AV.idFree, fx, fy]))
          rcases (by omega : j < i ∨ j = i) with h | rfl
          · exact hok j h
          · exact ⟨hr, by omega⟩
      · have hnot : ¬ okAll R M := fun h => hr (h.2 i hiR).1
        rw [if_neg hnot]
        repeat' first
 | (apply s_mov; exact aW)
 | (apply c_nil)
 | (apply s_notT; exact rfl)
 | (apply s_notF; exact rfl)
 | (apply s_lss; exact rfl; all_goals (intro _; try (exfalso; omega)))
 | (apply isE; refine s_cB (by exact aO) (h88 _ _ _) (fun _ => ?_) (fun _ => ?_))
 | (apply s_idx; exact aW; exact rfl; exact aI; omega)
 | (apply s_ldI; exact rfl; omega)
 | (apply c_seq)
 | (apply c_reg)
 | (apply c_block)
 | (apply c_skip)
 | (apply c_ret)
 | (apply c_condT; exact rfl)
 | (apply c_condF; exact rfl)
 | (with_reducible apply k_c)
        all_goals first | exact absurd (by assumption) hr | exact fin_3 (by (conv => lhs; whnf)) (by (conv => lhs; whnf)) (by (conv => lhs; whnf)) (by rfl) (by rfl) (by rfl) rfl
    · obtain rfl : R.length = i := by omega
      have hall : okAll R M := ⟨⟨hl1, hl2⟩, hok⟩
      rw [if_pos hall]
      repeat' first
 | (apply s_mov; exact aW)
 | (apply c_nil)
 | (apply s_lss; exact rfl; all_goals (intro _; try (exfalso; omega)))
 | (apply s_len; exact aW; exact aI)
 | (apply c_seq)
 | (apply c_reg)
 | (apply c_block)
 | (apply c_exitH)
 | (apply c_condF; exact rfl)
 | (apply c_preF; exact aK; exact aF)
 | (with_reducible apply k_c)
      exact walk62 hx hy hl1 hl2 hok (by omega) rfl h89 h91
  · rw [if_neg (fun h => hlen h.1)]
    refine f_enter rfl rfl ?_
    generalize evF tab it m = call at *
    repeat' first
 | (apply s_mov; exact aW)
 | (apply s_gT; exact rfl)
 | (apply s_gF; exact rfl)
 | (apply c_nil)
 | (apply s_pickT; exact rfl; exact aW)
 | (apply s_pickF; exact rfl; exact aW)
 | (apply s_gtr; exact rfl; all_goals (intro _; try (exfalso; omega)))
 | (apply s_neq; exact rfl; all_goals (intro _; try (exfalso; omega)))
 | (apply s_len; exact aW; exact aI)
 | (apply c_seq)
 | (apply c_reg)
 | (apply c_ret)
 | (apply c_condT; exact rfl)
 | (with_reducible apply k_c)
    all_goals first | exact fin_3 (by (conv => lhs; whnf)) (by (conv => lhs; whnf)) (by (conv => lhs; whnf)) (by rfl) (by rfl) (by rfl) rfl | (exfalso; omega)
theorem comR_free (R M : List Int) : (AV.tup (comR R M)).idFree = true := by
  unfold comR; split <;> (try split) <;> rfl
set_option maxHeartbeats 4000000
def leastR (M : List Int) : List AV := if ∀ i, i < M.length → hv M (i + 1) ≤ 4611686018427387904 then [.int .i64 (hv M M.length : Nat), .bool true] else [.int .i64 0, .bool false]
theorem f95 {y : AV} {M : List Int} (hy : IsL y M) (hl : M.length ≤ 32) (hmo : ∀ i, i < M.length → IsNum (getI M i)) {m : Nat} (hm : 500 ≤ m) : evF tab it m 95 [y] [] = some (.tup (leastR M), []) := by
  obtain ⟨m, rfl⟩ : ∃ j, m = j + 1 := ⟨m - 1, by omega⟩
  have fy := hy.free
  have h96 := fun {A B : Nat} (hA : A < 9223372036854775808) (hB : B < 9223372036854775808) H => c96 (A := A) (B := B) hA hB (m := m) (by omega) H
  unfold leastR
  refine f_enter rfl rfl ?_
  generalize evF tab it m = call at *
  repeat' first
 | (apply s_mov; exact aW)
 | (apply c_nil)
 | (apply c_seq)
 | (apply c_reg)
 | (apply c_block)
 | (with_reducible apply k_c)
  refine c_loop ?_
  refine loop_gc (σ := Nat) (fun i => [y, .int .i64 (hv M i : Nat), .int .i64 (i : Int)]) (fun _ => []) (fun i => i ≤ M.length ∧ ∀ j, j < i → hv M (j + 1) ≤ 4611686018427387904) (fun i => M.length - i) ?_ _ 0 _ _ ⟨by omega, by omega⟩ (by omega) (gc_to rfl (by simp [idFreeL, AV.idFree, fy]))
  intro i ⟨hi, hok⟩ K hK
  have hhv : hv M i ≤ 4611686018427387904 := by
    cases i with
    | zero => show 1 ≤ _; omega
    | succ k => exact hok k (by omega)
  by_cases hiM : i < M.length
  · have hn := hmo i hiM
    have m1 : getI M i = (mo M i : Nat) := by unfold IsNum at hn; unfold mo; omega
    have m2 : 1 ≤ mo M i := by unfold IsNum at hn; omega
    have m3 : mo M i ≤ 2147483647 := by unfold IsNum at hn; omega
    have g0 := gg_pos m2
    have p0 := part_pos m2
    have p1 := part_le M i
    have hM : ∀ H, evP H (.ld false 1) [.rp (iL (M.drop ((i : Int).toNat)))] = some (.int .i64 (mo M i : Nat)) := fun H => by
      rw [p_ld ⟨by omega, by omega⟩, m1]
    have hW := hv_succ M i
    have hquo : ∀ H, evP H (.bin .quo) [.int .i64 (mo M i : Nat), .int .i64 (gg M i : Nat)] = some (.int .i64 (part M i : Nat)) := fun H => by
      simp only [evP, binV, isShift, binInt, Bool.false_eq_true, if_false, if_true]
      rw [if_neg (by omega), show ((mo M i : Nat) : Int).tdiv (gg M i : Nat) = (part M i : Nat) from rfl, wrapI (by omega)]
    have e96 := h96 (A := mo M i) (B := hv M i % mo M i) (by omega) (by have := Nat.mod_lt (hv M i) m2; omega) []
    rw [Nat.gcd_comm, gcd_mod, show Nat.gcd (hv M i) (mo M i) = gg M i from rfl] at e96
    have hdiv : hv M i ≤ 4611686018427387904 / part M i ↔ hv M (i + 1) ≤ 4611686018427387904 := by
      rw [hW]
      exact Nat.le_div_iff_mul_le p0
    repeat' first
 | (apply s_mov; exact aW)
 | (apply c_nil)
 | (apply s_lss; exact rfl; all_goals (intro _; try (exfalso; omega)))
 | (apply s_gtr; exact rfl; all_goals (intro _; try (exfalso; omega)))
 | (apply s_pn; exact aO; exact hM _)
 | (apply s_pn; exact aO; exact hquo _)
 | (apply s_cn; exact aO; exact e96)
 | (apply s_remN; exact rfl; omega)
 | (apply s_quoN (a := 4611686018427387904); exact rfl; omega; omega)
 | (apply s_add; exact rfl; omega)
 | (apply s_mulN; exact rfl; omega)
 | (apply s_len; exact aW; exact aI)
 | (apply s_idx; exact aW; exact rfl; exact aI; omega)
 | (apply c_seq)
 | (apply c_reg)
 | (apply c_block)
 | (apply c_skip)
 | (apply c_ret)
 | (apply c_condT; exact rfl)
 | (apply c_condF; exact rfl)
 | (with_reducible apply k_c)
    · rw [if_neg (fun h => by have := hdiv.2 (h i hiM); omega)]
      exact fin_tt (by (conv => lhs; whnf)) (by (conv => lhs; whnf)) (by rfl) (by rfl) rfl
    · refine hK (i + 1) _ _ ⟨by omega, fun j hj => ?_⟩ (by omega) (gc_to rfl (by simp [idFreeL, AV.idFree, fy]))
      rcases (by omega : j < i ∨ j = i) with h | rfl
      · exact hok j h
      · exact hdiv.1 (by omega)
  · obtain rfl : M.length = i := by omega
    rw [if_pos hok]
    repeat' first
 | (apply s_mov; exact aW)
 | (apply c_nil)
 | (apply s_lss; exact rfl; all_goals (intro _; try (exfalso; omega)))
 | (apply s_len; exact aW; exact aI)
 | (apply c_seq)
 | (apply c_reg)
 | (apply c_exitH)
 | (apply c_ret)
 | (apply c_condF; exact rfl)
 | (apply c_preF; exact aK; exact aF)
 | (with_reducible apply k_c)
    exact fin_tt (by (conv => lhs; whnf)) (by (conv => lhs; whnf)) (by rfl) (by rfl) rfl
theorem c95 {y : AV} {M : List Int} (hy : IsL y M) (hl : M.length ≤ 32) (hmo : ∀ i, i < M.length → IsNum (getI M i)) {m : Nat} (hm : 500 ≤ m) (H : Heap) : callPure (evF tab it m) true 95 [y] H = some (.tup (leastR M), H) :=
  callPure_free (by simp [idFreeL, hy.free]) (by simp) (f95 hy hl hmo hm) (by unfold leastR; split <;> rfl)
theorem sub_mod_mod (a b : Int) (n : Int) : (a - b % n) % n = (a - b) % n := by
  refine Int.emod_eq_emod_iff_emod_sub_eq_zero.2 (Int.emod_eq_zero_of_dvd ⟨b / n, ?_⟩)
  have := Int.emod_add_mul_ediv b n
  omega
theorem f65 {x y : AV} {R M : List Int} (hx : IsL x R) (hy : IsL y M) {m : Nat} (hm : 600 ≤ m) : evF tab it m 65 [x, y] [] = some (.tup (comR R M), []) := by
  obtain ⟨m, rfl⟩ : ∃ j, m = j + 1 := ⟨m - 1, by omega⟩
  have fx := hx.free; have fy := hy.free
  have h94 := fun a H => c94 (m := m) (by omega) a H
  have h96 := fun {A B : Nat} (hA : A < 9223372036854775808) (hB : B < 9223372036854775808) H => c96 (A := A) (B := B) hA hB (m := m) (by omega) H
  have h97 := fun {A B : Nat} (h1 : 1 ≤ B) (hB : B ≤ 2147483647) (hA : A < 9223372036854775808) H => c97 (A := A) (B := B) h1 hB hA (m := m) (by omega) H
  have h95 := fun (hl : M.length ≤ 32) (hmo : ∀ i, i < M.length → IsNum (getI M i)) H => c95 hy hl hmo (m := m) (by omega) H
  unfold comR
  by_cases hlen : R.length = M.length ∧ R.length ≤ 32
  · obtain ⟨hl1, hl2⟩ := hlen
    refine f_enter rfl rfl ?_
    generalize evF tab it m = call at *
    repeat' first
 | (apply s_mov; exact aW)
 | (apply s_gT; exact rfl)
 | (apply c_nil)
 | (apply s_pickF; exact rfl; exact aW)
 | (apply s_gtr; exact rfl; all_goals (intro _; try (exfalso; omega)))
 | (apply s_neq; exact rfl; all_goals (intro _; try (exfalso; omega)))
 | (apply s_len; exact aW; exact aI)
 | (apply c_seq)
 | (apply c_reg)
 | (apply c_block)
 | (apply c_skip)
 | (apply c_condF; exact rfl)
 | (with_reducible apply k_c)
    refine c_loop ?_
    refine loop_gc (σ := Nat) (fun i => [x, y, .int .i64 (i : Int)]) (fun _ => []) (fun i => i ≤ R.length ∧ ∀ j, j < i → IsRest (getI R j) (getI M j)) (fun i => R.length - i) ?_ _ 0 _ _ ⟨by omega, by omega⟩ (by omega) (gc_to rfl (by simp [idFreeL, AV.idFree, fx, fy]))
    intro i ⟨hi, hv'⟩ K hK
    by_cases hiR : i < R.length
    · by_cases hr : IsRest (getI R i) (getI M i)
      · have hr' := hr
        unfold IsRest at hr'
        repeat' first
 | (apply s_mov; exact aW)
 | (apply s_gT; exact rfl)
 | (apply s_gF; exact rfl)
 | (apply c_nil)
 | (apply s_pickT; exact rfl; exact aW)
 | (apply s_pickF; exact rfl; exact aW)
 | (apply s_notT; exact rfl)
 | (apply s_notF; exact rfl)
 | (apply s_lss; exact rfl; all_goals (intro _; try (exfalso; omega)))
 | (apply s_geq; exact rfl; all_goals (intro _; try (exfalso; omega)))
 | (apply s_add; exact rfl; omega)
 | (apply isE; refine s_cB (by exact aO) (h94 _ _) (fun _ => ?_) (fun _ => ?_))
 | (apply s_len; exact aW; exact aI)
 | (apply s_idx; exact aW; exact rfl; exact aI; omega)
 | (apply s_ldI; exact rfl; omega)
 | (apply c_seq)
 | (apply c_reg)
 | (apply c_block)
 | (apply c_skip)
 | (apply c_ret)
 | (apply c_condT; exact rfl)
 | (apply c_condF; exact rfl)
 | (with_reducible apply k_c)
        all_goals first
          | exact absurd hr'.1 (by assumption)
          | (exfalso; omega)
          | (refine hK (i + 1) _ _ ⟨by omega, fun j hj => ?_⟩ (by omega) (gc_to rfl (by simp [idFreeL, AV.idFree, fx, fy]))
             rcases (by omega : j < i ∨ j = i) with h | rfl
             · exact hv' j h
             · exact hr)
      · rw [if_neg (fun h : okAll R M => hr (h.2 i hiR).1)]
        repeat' first
 | (apply s_mov; exact aW)
 | (apply s_gT; exact rfl)
 | (apply s_gF; exact rfl)
 | (apply c_nil)
 | (apply s_pickT; exact rfl; exact aW)
 | (apply s_pickF; exact rfl; exact aW)
 | (apply s_notT; exact rfl)
 | (apply s_notF; exact rfl)
 | (apply s_lss; exact rfl; all_goals (intro _; try (exfalso; omega)))
 | (apply s_geq; exact rfl; all_goals (intro _; try (exfalso; omega)))
 | (apply s_add; exact rfl; omega)
 | (apply isE; refine s_cB (by exact aO) (h94 _ _) (fun _ => ?_) (fun _ => ?_))
 | (apply s_len; exact aW; exact aI)
 | (apply s_idx; exact aW; exact rfl; exact aI; omega)
 | (apply s_ldI; exact rfl; omega)
 | (apply c_seq)
 | (apply c_reg)
 | (apply c_block)
 | (apply c_skip)
 | (apply c_ret)
 | (apply c_condT; exact rfl)
 | (apply c_condF; exact rfl)
 | (with_reducible apply k_c)
        all_goals first
          | exact fin_3 (by (conv => lhs; whnf)) (by (conv => lhs; whnf)) (by (conv => lhs; whnf)) (by rfl) (by rfl) (by rfl) rfl
          | exact absurd ⟨by assumption, by omega, by omega⟩ hr
    · obtain rfl : R.length = i := by omega
      have hnum : ∀ i, i < M.length → IsNum (getI M i) := fun i hi => (hv' i (by omega)).1
      have e95 := fun H => h95 (by omega) hnum H
      unfold leastR at e95
      by_cases hbig : ∀ i, i < M.length → hv M (i + 1) ≤ 4611686018427387904
      · have hall : okAll R M := ⟨⟨hl1, hl2⟩, fun i hi => ⟨hv' i hi, hbig i (by omega)⟩⟩
        have hok := hall.2
        simp only [if_pos hbig] at e95
        rw [if_pos hall]
        repeat' first
 | (apply s_mov; exact aW)
 | (apply c_nil)
 | (apply s_notT; exact rfl)
 | (apply s_lss; exact rfl; all_goals (intro _; try (exfalso; omega)))
 | (apply s_cn; exact aO; exact e95 _)
 | (apply s_len; exact aW; exact aI)
 | (apply s_pd; exact aW)
 | (apply c_seq)
 | (apply c_reg)
 | (apply c_block)
 | (apply c_exitH)
 | (apply c_skip)
 | (apply c_condF; exact rfl)
 | (apply c_preF; exact aK; exact aF)
 | (with_reducible apply k_c)
        refine c_loop ?_
        refine loop_gc (σ := Nat) (fun k => [x, y, .int .i64 (xs R M k : Nat), .int .i64 (hv M k : Nat), .int .i64 (k : Int)]) (fun _ => []) (fun k => k ≤ R.length ∧ ∀ j, j < k → fit R M j) (fun k => R.length - k) ?_ _ 0 _ _ ⟨by omega, by omega⟩ (by omega) (gc_to rfl (by simp [idFreeL, AV.idFree, fx, fy]))
        intro k ⟨hk, hf⟩ K2 hK2
        by_cases hkR : k < R.length
        · have hmo : ∀ i, i < R.length → 1 ≤ mo M i := fun i hi => (okAt_mo (hok i hi).1).2.1
          obtain ⟨m1, m2, m3, m4, m5⟩ := okAt_mo (hok k hkR).1
          have g0 := gg_pos m2
          have g1 := gg_le m2
          have p0 := part_pos m2
          have p1 := part_le M k
          have hM : ∀ H, evP H (.ld false 1) [.rp (iL (M.drop ((k : Int).toNat)))] = some (.int .i64 (mo M k : Nat)) := fun H => by
            rw [p_ld ⟨by omega, by omega⟩, m1]
          have hh := hv_le (k := k) fun i hi => hok i (by omega)
          have hh2 := (hok k hkR).2
          have hxl := xs_lt (R := R) (M := M) (k := k) fun i hi => hmo i (by omega)
          have htl := tt_lt (R := R) m2 (xs R M k)
          have hgl := gap_lt (R := R) m2 (xs R M k)
          have hil := inv_lt m2
          have hW := hv_succ M k
          have hmul := Nat.mul_le_mul_left (hv M k) (show tt R M (xs R M k) k + 1 ≤ part M k by omega)
          rw [Nat.mul_add, ← hW, Nat.mul_comm] at hmul
          have e96 := h96 (A := mo M k) (B := hv M k % mo M k) (by omega) (by have := Nat.mod_lt (hv M k) m2; omega) []
          rw [Nat.gcd_comm, gcd_mod, show Nat.gcd (hv M k) (mo M k) = gg M k from rfl] at e96
          have hcop : Nat.gcd (hv M k / gg M k % part M k) (part M k) = 1 := by
            rw [← Nat.gcd_rec, Nat.gcd_comm]
            exact Nat.coprime_div_gcd_div_gcd (gg_pos m2)
          have e97 := h97 (A := hv M k / gg M k % part M k) (B := part M k) p0 (by omega) (by have := Nat.mod_lt (hv M k / gg M k) p0; omega) []
          have hinvc : invOf (hv M k / gg M k % part M k) (part M k) = ((inv M k : Nat) : Int) := (Int.toNat_of_nonneg (invOf_spec p0 hcop).1).symm
          rw [if_pos hcop, hinvc] at e97
          have t1 := tmod_b (x := getI R k - ((xs R M k % mo M k : Nat) : Int)) m2
          have hxm := Nat.mod_lt (xs R M k) m2
          have hgap : ∀ H, evP H (.bin .rem) [.int .i64 ((getI R k - ((xs R M k % mo M k : Nat) : Int)).tmod (mo M k : Nat) + (mo M k : Nat)), .int .i64 (mo M k : Nat)] = some (.int .i64 (gapN R M (xs R M k) k : Nat)) := fun H => by
            simp only [evP, binV, isShift, binInt, Bool.false_eq_true, if_false, if_true]
            rw [if_neg (by omega), tmod_add (by omega), gap_cast m2, show ((xs R M k % mo M k : Nat) : Int) = (xs R M k : Int) % (mo M k : Int) from rfl, sub_mod_mod]
          have hquo : ∀ H, evP H (.bin .quo) [.int .i64 (mo M k : Nat), .int .i64 (gg M k : Nat)] = some (.int .i64 (part M k : Nat)) := fun H => by
            simp only [evP, binV, isShift, binInt, Bool.false_eq_true, if_false, if_true]
            rw [if_neg (by omega), show ((mo M k : Nat) : Int).tdiv (gg M k : Nat) = (part M k : Nat) from rfl, wrapI (by omega)]
          have ha := Nat.mod_lt (gapN R M (xs R M k) k / gg M k) p0
          have hab := Nat.mul_le_mul (show gapN R M (xs R M k) k / gg M k % part M k ≤ 2147483647 by omega) (show inv M k ≤ 2147483647 by omega)
          have htt : gapN R M (xs R M k) k / gg M k % part M k * inv M k % part M k = tt R M (xs R M k) k := rfl
          have hgN : gapN R M (xs R M k) k / gg M k ≤ gapN R M (xs R M k) k := Nat.div_le_self _ _
          have hfit : fit R M k ↔ gapN R M (xs R M k) k % gg M k = 0 := Iff.rfl
          have hrt : ∀ H, evP H (.bin .rem) [.int .i64 ((gapN R M (xs R M k) k / gg M k % part M k * inv M k : Nat) : Int), .int .i64 (part M k : Nat)] = some (.int .i64 (tt R M (xs R M k) k : Nat)) := fun H => by
            simp only [evP, binV, isShift, binInt, Bool.false_eq_true, if_false, if_true]
            rw [if_neg (by omega)]
            rfl
          generalize hgx : gapN R M (xs R M k) k = gp at *
          repeat' first
 | (apply s_mov; exact aW)
 | (apply c_nil)
 | (apply s_lss; exact rfl; all_goals (intro _; try (exfalso; omega)))
 | (apply s_neq; exact rfl; all_goals (intro _; try (exfalso; omega)))
 | (apply s_pn; exact aO; exact hM _)
 | (apply s_pn; exact aO; exact hquo _)
 | (apply s_pn; exact aO; exact hgap _)
 | (apply s_pn; exact aO; exact hrt _)
 | (apply s_remN; exact rfl; omega)
 | (apply s_cn; exact aO; exact e96)
 | (apply s_cn; exact aO; exact e97)
 | (apply s_rem; exact rfl; omega)
 | (apply s_add; exact rfl; omega)
 | (apply s_sub; exact rfl; omega)
 | (apply s_mulN; exact rfl; omega)
 | (apply s_quoN; exact rfl; omega; omega)
 | (apply s_len; exact aW; exact aI)
 | (apply s_idx; exact aW; exact rfl; exact aI; omega)
 | (apply s_ldI; exact rfl; omega)
 | (apply s_pd; exact aW)
 | (apply c_seq)
 | (apply c_reg)
 | (apply c_block)
 | (apply c_skip)
 | (apply c_ret)
 | (apply c_condT; exact rfl)
 | (apply c_condF; exact rfl)
 | (with_reducible apply k_c)
          · rw [Nat.mul_comm (tt R M (xs R M k) k)]
            refine hK2 (k + 1) _ _ ⟨by omega, fun j hj => ?_⟩ (by omega) (gc_to rfl (by simp [idFreeL, AV.idFree, fx, fy]))
            rcases (by omega : j < k ∨ j = k) with h | rfl
            · exact hf j h
            · exact hfit.2 (by omega)
          · rw [if_neg (fun h => by have := hfit.1 (h k hkR); omega)]
            exact fin_3 (by (conv => lhs; whnf)) (by (conv => lhs; whnf)) (by (conv => lhs; whnf)) (by rfl) (by rfl) (by rfl) rfl
        · obtain rfl : R.length = k := by omega
          rw [if_pos hf]
          repeat' first
 | (apply s_mov; exact aW)
 | (apply c_nil)
 | (apply s_lss; exact rfl; all_goals (intro _; try (exfalso; omega)))
 | (apply s_len; exact aW; exact aI)
 | (apply c_seq)
 | (apply c_reg)
 | (apply c_exitH)
 | (apply c_ret)
 | (apply c_condF; exact rfl)
 | (apply c_preF; exact aK; exact aF)
 | (with_reducible apply k_c)
          exact fin_3 (by (conv => lhs; whnf)) (by (conv => lhs; whnf)) (by (conv => lhs; whnf)) (by rfl) (by rfl) (by rfl) rfl
      · simp only [if_neg hbig] at e95
        rw [if_neg (fun h : okAll R M => hbig fun i hi => (h.2 i (by omega)).2)]
        repeat' first
 | (apply s_mov; exact aW)
 | (apply c_nil)
 | (apply s_notF; exact rfl)
 | (apply s_lss; exact rfl; all_goals (intro _; try (exfalso; omega)))
 | (apply s_cn; exact aO; exact e95 _)
 | (apply s_len; exact aW; exact aI)
 | (apply s_pd; exact aW)
 | (apply c_seq)
 | (apply c_reg)
 | (apply c_exitH)
 | (apply c_ret)
 | (apply c_condT; exact rfl)
 | (apply c_condF; exact rfl)
 | (apply c_preF; exact aK; exact aF)
 | (with_reducible apply k_c)
        exact fin_3 (by (conv => lhs; whnf)) (by (conv => lhs; whnf)) (by (conv => lhs; whnf)) (by rfl) (by rfl) (by rfl) rfl
  · rw [if_neg (fun h => hlen h.1)]
    refine f_enter rfl rfl ?_
    generalize evF tab it m = call at *
    repeat' first
 | (apply s_mov; exact aW)
 | (apply s_gT; exact rfl)
 | (apply s_gF; exact rfl)
 | (apply c_nil)
 | (apply s_pickT; exact rfl; exact aW)
 | (apply s_pickF; exact rfl; exact aW)
 | (apply s_gtr; exact rfl; all_goals (intro _; try (exfalso; omega)))
 | (apply s_neq; exact rfl; all_goals (intro _; try (exfalso; omega)))
 | (apply s_len; exact aW; exact aI)
 | (apply c_seq)
 | (apply c_reg)
 | (apply c_ret)
 | (apply c_condT; exact rfl)
 | (with_reducible apply k_c)
    all_goals first | exact fin_3 (by (conv => lhs; whnf)) (by (conv => lhs; whnf)) (by (conv => lhs; whnf)) (by rfl) (by rfl) (by rfl) rfl | (exfalso; omega)
theorem c65 {x y : AV} {R M : List Int} (hx : IsL x R) (hy : IsL y M) {m : Nat} (hm : 600 ≤ m) (H : Heap) : callPure (evF tab it m) true 65 [x, y] H = some (.tup (comR R M), H) :=
  callPure_free (by simp [idFreeL, hx.free, hy.free]) (by simp) (f65 hx hy hm) (comR_free R M)
section
variable {R M : List Int} {n : Int}
theorem gg_hv (M : List Int) (k : Nat) : gg M k * (hv M k / gg M k) = hv M k := Nat.mul_div_cancel' (Nat.gcd_dvd_left _ _)
theorem inv_one {k : Nat} (hm : 1 ≤ mo M k) : ((part M k : Nat) : Int) ∣ ((inv M k : Nat) : Int) * ((hv M k / gg M k : Nat) : Int) - 1 := by
  have hp := part_pos hm
  have hcop : Nat.gcd (hv M k / gg M k % part M k) (part M k) = 1 := by
    rw [← Nat.gcd_rec, Nat.gcd_comm]
    exact Nat.coprime_div_gcd_div_gcd (gg_pos hm)
  obtain ⟨i1, i2, i3⟩ := invOf_spec hp hcop
  have e1 : ((inv M k : Nat) : Int) = invOf (hv M k / gg M k % part M k) (part M k) := Int.toNat_of_nonneg i1
  rw [e1]
  generalize invOf (hv M k / gg M k % part M k) (part M k) = z at *
  generalize hv M k / gg M k = h' at *
  have d : ((part M k : Nat) : Int) ∣ (h' : Int) - ((h' % part M k : Nat) : Int) := ⟨(h' / part M k : Nat), by
    have := Nat.mod_add_div h' (part M k)
    have : ((h' % part M k : Nat) : Int) + (part M k : Int) * ((h' / part M k : Nat) : Int) = (h' : Nat) := by exact_mod_cast this
    omega⟩
  have := Int.dvd_add i3 (Int.dvd_trans d (Int.dvd_mul_left z _))
  rw [Int.mul_sub] at this
  have e : z * ((h' % part M k : Nat) : Int) - 1 + (z * (h' : Int) - z * ((h' % part M k : Nat) : Int)) = z * (h' : Int) - 1 := by omega
  rwa [e] at this
theorem rest_step {k : Nat} (hm : 1 ≤ mo M k) (hr : getI R k = n % (mo M k : Int)) (hd : ((hv M k : Nat) : Int) ∣ n - (xs R M k : Nat)) : fit R M k ∧ ((hv M (k + 1) : Nat) : Int) ∣ n - (xs R M (k + 1) : Nat) := by
  have g0 := gg_pos hm
  have hgap : ((gapN R M (xs R M k) k : Nat) : Int) = (n - (xs R M k : Nat)) % (mo M k : Int) := by
    rw [gap_cast hm, hr, Int.emod_sub_emod]
  obtain ⟨w, hw⟩ := hd
  have hgp := gg_part M k
  have hgh := gg_hv M k
  generalize hG : gg M k = g at *
  generalize hH : hv M k / g = h' at *
  generalize hP : part M k = p at *
  have e1 : ((gapN R M (xs R M k) k : Nat) : Int) = (g : Int) * (h' * w - p * ((n - (xs R M k : Nat)) / (mo M k : Int))) := by
    have := Int.emod_add_mul_ediv (n - (xs R M k : Nat)) (mo M k : Int)
    rw [hgap]
    have a1 : ((mo M k : Nat) : Int) = (g : Int) * (p : Int) := by exact_mod_cast hgp.symm
    have a2 : ((hv M k : Nat) : Int) = (g : Int) * (h' : Int) := by exact_mod_cast hgh.symm
    rw [Int.mul_sub, ← Int.mul_assoc, ← Int.mul_assoc, ← a1, ← a2, ← hw]
    omega
  have hgd : g ∣ gapN R M (xs R M k) k := by
    have : (g : Int) ∣ ((gapN R M (xs R M k) k : Nat) : Int) := ⟨_, e1⟩
    exact_mod_cast this
  refine ⟨by unfold fit; rw [hG]; exact Nat.mod_eq_zero_of_dvd hgd, ?_⟩
  obtain ⟨u, hu⟩ := hgd
  have hu2 : gapN R M (xs R M k) k / g = u := by rw [hu, Nat.mul_div_cancel_left _ g0]
  have e2 : (u : Int) = h' * w - p * ((n - (xs R M k : Nat)) / (mo M k : Int)) := by
    rw [hu] at e1
    push_cast at e1
    exact Int.eq_of_mul_eq_mul_left (by omega) e1
  have hi := inv_one (M := M) (k := k) hm
  rw [hG, hH, hP] at hi
  have ht : tt R M (xs R M k) k = u % p * inv M k % p := by unfold tt; rw [hG, hu2, hP]
  show ((hv M k * part M k : Nat) : Int) ∣ n - ((xs R M k + hv M k * tt R M (xs R M k) k : Nat) : Int)
  rw [hP]
  push_cast
  have e3 : n - ((xs R M k : Int) + (hv M k : Int) * (tt R M (xs R M k) k : Int)) = (hv M k : Int) * (w - (tt R M (xs R M k) k : Int)) := by
    rw [Int.mul_sub, ← hw]; omega
  rw [e3]
  refine Int.mul_dvd_mul_left _ ?_
  have d1 : (p : Int) ∣ (u : Int) * (inv M k : Nat) - (tt R M (xs R M k) k : Nat) := by
    rw [ht]
    have a1 : (p : Int) ∣ ((u % p * inv M k : Nat) : Int) - ((u % p * inv M k % p : Nat) : Int) := ⟨((u % p * inv M k / p : Nat) : Int), by
      have := Nat.mod_add_div (u % p * inv M k) p
      have : ((u % p * inv M k % p : Nat) : Int) + (p : Int) * ((u % p * inv M k / p : Nat) : Int) = ((u % p * inv M k : Nat) : Int) := by exact_mod_cast this
      omega⟩
    have a2 : (p : Int) ∣ ((u : Int) - ((u % p : Nat) : Int)) * (inv M k : Nat) := by
      refine Int.dvd_trans ⟨((u / p : Nat) : Int), ?_⟩ (Int.dvd_mul_right _ _)
      have := Nat.mod_add_div u p
      have : ((u % p : Nat) : Int) + (p : Int) * ((u / p : Nat) : Int) = (u : Int) := by exact_mod_cast this
      omega
    have := Int.dvd_add a2 a1
    rw [Int.sub_mul] at this
    push_cast at this ⊢
    have e : (u : Int) * (inv M k : Int) - (u : Int) % p * (inv M k : Int) + ((u : Int) % p * (inv M k : Int) - (u : Int) % p * (inv M k : Int) % p) = (u : Int) * (inv M k : Int) - (u : Int) % p * (inv M k : Int) % p := by omega
    rwa [e] at this
  have d2 : (p : Int) ∣ w - (u : Int) * (inv M k : Nat) := by
    have a1 := Int.dvd_trans hi (Int.dvd_mul_left w _)
    have a2 : (p : Int) ∣ (p : Int) * ((n - (xs R M k : Nat)) / (mo M k : Int) * (inv M k : Nat)) := ⟨_, rfl⟩
    have := Int.dvd_sub a2 a1
    have e : (p : Int) * ((n - (xs R M k : Nat)) / (mo M k : Int) * (inv M k : Nat)) - w * ((inv M k : Nat) * (h' : Int) - 1) = w - (u : Int) * (inv M k : Nat) := by
      rw [e2, Int.sub_mul, Int.mul_sub, Int.mul_one, Int.mul_assoc (p : Int)]
      have : w * (((inv M k : Nat) : Int) * (h' : Int)) = (h' : Int) * w * ((inv M k : Nat) : Int) := by
        rw [Int.mul_comm ((inv M k : Nat) : Int) (h' : Int), ← Int.mul_assoc, Int.mul_comm w]
      omega
    rwa [e] at this
  have := Int.dvd_add d2 d1
  have e : w - (u : Int) * (inv M k : Nat) + ((u : Int) * (inv M k : Nat) - (tt R M (xs R M k) k : Nat)) = w - (tt R M (xs R M k) k : Nat) := by omega
  rwa [e] at this
theorem rest_all (L : Nat) (hm : ∀ k, k < L → 1 ≤ mo M k) (hr : ∀ k : Nat, k < L → getI R k = n % (mo M k : Int)) : ∀ k, k ≤ L → (∀ i, i < k → fit R M i) ∧ ((hv M k : Nat) : Int) ∣ n - (xs R M k : Nat) := by
  intro k
  induction k with
  | zero => intro _; exact ⟨fun i hi => by omega, by show ((1 : Nat) : Int) ∣ _; exact Int.one_dvd _⟩
  | succ k ih =>
    intro hk
    obtain ⟨h1, h2⟩ := ih (by omega)
    obtain ⟨h3, h4⟩ := rest_step (hm k (by omega)) (hr k (by omega)) h2
    refine ⟨fun i hi => ?_, h4⟩
    rcases (by omega : i < k ∨ i = k) with h | rfl
    · exact h1 i h
    · exact h3
end
theorem crt2 {N : Int} (h0 : 0 ≤ N) (h1 : N < 4611685975477714963) : comR [N % 2147483647, N % 2147483629] [2147483647, 2147483629] = [.int .i64 N, .int .i64 4611685975477714963, .int .i64 0] := by
  have m0 : mo [2147483647, 2147483629] 0 = 2147483647 := by unfold mo; rw [getI_nat]; rfl
  have m1 : mo [2147483647, 2147483629] 1 = 2147483629 := by unfold mo; rw [getI_nat]; rfl
  have r0 : getI [N % 2147483647, N % 2147483629] ((0 : Nat) : Int) = N % 2147483647 := by rw [getI_nat]; rfl
  have r1 : getI [N % 2147483647, N % 2147483629] ((1 : Nat) : Int) = N % 2147483629 := by rw [getI_nat]; rfl
  have k0 : getI [2147483647, 2147483629] ((0 : Nat) : Int) = 2147483647 := by rw [getI_nat]; rfl
  have k1 : getI [2147483647, 2147483629] ((1 : Nat) : Int) = 2147483629 := by rw [getI_nat]; rfl
  have hv1 : hv [2147483647, 2147483629] 1 = 2147483647 := by simp only [hv, m0]; decide
  have hv2 : hv [2147483647, 2147483629] 2 = 4611685975477714963 := by simp only [hv, m0, m1]; decide
  have hm : ∀ k, k < 2 → 1 ≤ mo [2147483647, 2147483629] k := fun k hk => by
    rcases (by omega : k = 0 ∨ k = 1) with rfl | rfl
    · rw [m0]; omega
    · rw [m1]; omega
  obtain ⟨hfit, hd⟩ := rest_all (R := [N % 2147483647, N % 2147483629]) (M := [2147483647, 2147483629]) (n := N) 2 hm (fun k hk => by
    rcases (by omega : k = 0 ∨ k = 1) with rfl | rfl
    · rw [m0, r0]; rfl
    · rw [m1, r1]; rfl) 2 (Nat.le_refl _)
  have hx := xs_lt (R := [N % 2147483647, N % 2147483629]) (M := [2147483647, 2147483629]) (k := 2) fun i hi => hm i hi
  rw [hv2] at hd hx
  have hok : okAll [N % 2147483647, N % 2147483629] [2147483647, 2147483629] := ⟨⟨rfl, by show (2 : Nat) ≤ 32; omega⟩, fun i hi => by
    have hi2 : i < 2 := hi
    rcases (by omega : i = 0 ∨ i = 1) with rfl | rfl
    · refine ⟨?_, by rw [hv1]; omega⟩
      rw [r0, k0]
      unfold IsRest IsNum
      omega
    · refine ⟨?_, by rw [hv2]; omega⟩
      rw [r1, k1]
      unfold IsRest IsNum
      omega⟩
  unfold comR
  have hfit' : ∀ i, i < [N % 2147483647, N % 2147483629].length → fit [N % 2147483647, N % 2147483629] [2147483647, 2147483629] i := fun i hi => hfit i hi
  rw [if_pos hok, if_pos hfit']
  have hl : ([N % 2147483647, N % 2147483629] : List Int).length = 2 := rfl
  rw [hl, hv2]
  generalize xs [N % 2147483647, N % 2147483629] [2147483647, 2147483629] 2 = X at *
  have : N = X := by
    obtain ⟨q, hq⟩ := hd
    omega
  rw [← this]
  rfl
attribute [local go_sem] gc subHeap reach_skip ren_free reach_new reach_newp reach_end rangeL roots boxCells nodupB posOf renL AV.ren pickO renH renO looks look bindEnv envOf reach_int reach_bool reach_nilS reach_rd putRow cells_sl cells_int cells_bool cells_nilS cells_rd cells_agg reach_agg reach_tup idFreeL idf_sl idf_ptr idf_int idf_bool idf_nilS idf_rd reach_fn reach_mp cells_fn cells_ptr cells_mp idf_mp idf_fn idf_agg idf_tup
set_option maxHeartbeats 8000000
theorem f106 {x : AV} {b : List (List Int)} (hx : IsLL x b) (hb : Bd b) {q0 : Nat} (hq : q0 < b.length) {m : Nat} (hm : 200 ≤ m) : evF tab it m 106 [x, .int .i64 (q0 : Int)] [] = some (.sl 0 1 0 b.length, [some (.data (iL (dist b q0).1))]) := by
  obtain ⟨m, rfl⟩ : ∃ j, m = j + 1 := ⟨m - 1, by omega⟩
  have fx := hx.free
  have hl12 := hb.len
  have mk := fun call H => @e_mkI call H b.length (by unfold most; omega)
  have lx : ∀ H, evP H .len [x] = some (.int .i64 ((b.length : Nat) : Int)) := fun H => by cases hx <;> rfl
  have bld : ∀ call H (a : Int), evE call H (.bldS true false 1 1 [.int .i64 0] [(0, 1)]) [.int .i64 a] = some (.sl H.length 1 0 1, H ++ [some (.data [.int .i64 a])]) := fun call H a => rfl
  generalize hR : dist b q0 = R
  refine f_enter rfl rfl ?_
  generalize evF tab it m = call at *
  have gcO : ∀ (v : Nat) (C : List AV), gc 0 [x, .int .i64 (q0 : Int), .sl 0 1 0 b.length, .int .i64 (v : Int)] [some (.data C)] = some ([x, .int .i64 (q0 : Int), .sl 0 1 0 b.length, .int .i64 (v : Int)], [some (.data C)]) := fun v C => by simp [go_sem, fx]
  repeat' first
 | (apply s_mov; exact aW)
 | (apply c_nil)
 | (apply s_pn; exact aO; exact lx _)
 | (apply s_en; exact aO; exact mk _ _)
 | (apply c_seq)
 | (apply c_reg)
 | (apply c_block)
 | (with_reducible apply k_c)
  refine c_loop ?_
  refine loop_gc (σ := Nat × List Int) (fun p => [x, .int .i64 (q0 : Int), .sl 0 1 0 b.length, .int .i64 (p.1 : Int)]) (fun p => [some (.data (iL p.2))]) (fun p => p.1 ≤ b.length ∧ p.2.length = b.length ∧ ∀ i : Nat, i < p.1 → getI p.2 (i : Int) = -1) (fun p => b.length - p.1) ?_ _ (0, List.replicate b.length 0) _ _ ⟨by omega, by simp, fun i hi => by omega⟩ (by show b.length - 0 < _; omega) (gcO 0 _)
  intro ⟨v, out⟩ ⟨hv, hol, hout⟩ K hK
  dsimp only at hv hol hout hK ⊢
  by_cases hvn : v < b.length
  · have hs1 := fun (vv : Int) call H h => e_stO (call := call) (H := H) (id := 0) (l := out) (i := v) (v := vv) h (by omega)
    repeat' first
 | (apply s_mov; exact aW)
 | (apply c_nil)
 | (apply s_lss; exact rfl; all_goals (intro _; try (exfalso; omega)))
 | (apply s_add; exact rfl; omega)
 | (apply s_pn; exact aO; exact lx _)
 | (apply s_pn; exact aO; exact p_ixO hvn)
 | (apply s_st; exact aO; exact hs1 _ _ _ rfl)
 | (apply c_seq)
 | (apply c_reg)
 | (apply c_block)
 | (apply c_skip)
 | (apply c_condT; exact rfl)
 | (with_reducible apply k_c)
    refine hK (v + 1, out.set v (-1)) _ _ ⟨by omega, by simp [hol], fun i hi => ?_⟩ (by show b.length - (v + 1) < _; omega) (gcO (v + 1) _)
    dsimp only
    rw [getI_set (by omega)]
    split
    · rfl
    · exact hout i (by omega)
  · obtain rfl : v = b.length := by omega
    obtain rfl : out = List.replicate b.length (-1) := by
      refine List.ext_getElem (by simp [hol]) fun j h1 h2 => ?_
      have := hout j (by omega)
      rw [getI_nat] at this
      simpa [List.getD, h1] using this
    have hs1 := fun (vv : Int) call H h => e_stO (call := call) (H := H) (id := 0) (l := List.replicate b.length (-1)) (i := q0) (v := vv) h (by simpa using hq)
    repeat' first
 | (apply s_mov; exact aW)
 | (apply c_nil)
 | (apply s_lss; exact rfl; all_goals (intro _; try (exfalso; omega)))
 | (apply s_pn; exact aO; exact lx _)
 | (apply c_seq)
 | (apply c_reg)
 | (apply c_exitH)
 | (apply c_condF; exact rfl)
 | (with_reducible apply k_c)
    apply c_pre (vs := [x, .int .i64 (q0 : Int), .sl 0 1 0 b.length]) (H' := [some (.data (iL (List.replicate b.length (-1))))])
    · simp [go_sem, fx]
    repeat' first
 | (apply s_mov; exact aW)
 | (apply c_nil)
 | (apply s_pn; exact aO; exact p_ixO hq)
 | (apply s_st; exact aO; exact hs1 _ _ _ rfl)
 | (apply s_en; exact aO; exact bld _ _ _)
 | (apply c_seq)
 | (apply c_reg)
 | (apply c_block)
 | (with_reducible apply k_c)
    have gcQ : ∀ (k j : Nat) (C D : List AV), gc 0 [x, .sl 0 1 0 b.length, .sl 1 1 0 k, .int .i64 (j : Int)] [some (.data C), some (.data D)] = some ([x, .sl 0 1 0 b.length, .sl 1 1 0 k, .int .i64 (j : Int)], [some (.data C), some (.data D)]) := fun k j C D => by simp [go_sem, fx]
    have hn0 := negs_le (d0 b.length q0)
    have hd0 : (d0 b.length q0).length = b.length := by simp [d0]
    refine c_loop ?_
    refine loop_gc (σ := List Int × List Nat × List Nat) (fun p => [x, .sl 0 1 0 b.length, .sl 1 1 0 (p.2.1 ++ p.2.2).length, .int .i64 (p.2.1.length : Int)]) (fun p => [some (.data (iL p.1)), some (.data (iL (nI (p.2.1 ++ p.2.2))))]) (fun p => Bfs b.length p.1 p.2.1 p.2.2 ∧ ∃ f, 2 * negs p.1 + p.2.2.length ≤ f ∧ bfsF b b.length f p.1 p.2.1 p.2.2 = R) (fun p => 2 * negs p.1 + p.2.2.length) ?_ _ (d0 b.length q0, [], [q0]) _ _ ⟨Bfs.init hq, 2 * b.length + 2, by simp only [List.length_cons, List.length_nil]; omega, hR⟩ (by simp only [List.length_cons, List.length_nil]; omega) (gcQ 1 0 _ _)
    intro ⟨d, dn, q⟩ ⟨hB, f, hf, hfR⟩ K2 hK2
    dsimp only at hB hf hfR hK2 ⊢
    have hdl := hB.len
    rcases q with _ | ⟨v, q⟩
    · have : R = (d, dn) := by rw [← hfR]; cases f <;> rfl
      subst this
      simp only [List.append_nil]
      repeat' first
 | (apply s_mov; exact aW)
 | (apply c_nil)
 | (apply s_lss; exact rfl; all_goals (intro _; try (exfalso; omega)))
 | (apply s_lenSl; exact rfl)
 | (apply c_seq)
 | (apply c_reg)
 | (apply c_exitH)
 | (apply c_condF; exact rfl)
 | (with_reducible apply k_c)
      all_goals first | (exfalso; omega) | skip
      apply c_pre (vs := [.sl 0 1 0 b.length]) (H' := [some (.data (iL d))])
      · simp [go_sem]
      repeat' first
 | (apply s_mov; exact aW)
 | (apply c_nil)
 | (apply c_seq)
 | (apply c_reg)
 | (apply c_ret)
 | (with_reducible apply k_c)
      simp [finish, ress, resOf, look, tupOf, go_sem]
    · have hv : v < b.length := hB.lt v (by simp)
      have hvd := (hB.iff v hv).2 (by simp)
      have e0 : dn ++ v :: q = dn ++ [v] ++ q := by simp
      have hB' : Bfs b.length d (dn ++ [v]) q := ⟨hB.len, hB.low, e0 ▸ hB.nd, e0 ▸ hB.lt, e0 ▸ hB.iff, e0 ▸ hB.far⟩
      have hcap : ∀ {d1 : List Int} {dn1 q1 : List Nat}, Bfs b.length d1 dn1 q1 → (dn1 ++ q1).length ≤ b.length := fun h => by
        have := nodup_len h.nd fun w hw => List.mem_range.2 (h.lt w hw)
        rwa [List.length_range] at this
      have hcap0 := hcap hB
      obtain ⟨f, rfl⟩ : ∃ j, f = j + 1 := ⟨f - 1, by simp only [List.length_cons] at hf; omega⟩
      simp only [bfsF] at hfR
      obtain ⟨hpop, hdec⟩ := Bfs.pop (b := b) hB
      have hrow := hx.at (i := (v : Int)) ⟨by omega, by omega⟩
      have hrl := hb.row v hv
      have fr := hrow.free
      have hlq : dn.length < (dn ++ v :: q).length := by simp
      have hgv : getI (nI (dn ++ v :: q)) (dn.length : Int) = (v : Int) := by rw [getI_nat]; simp [nI, List.getD]
      have ixq := fun H => p_ixO (H := H) (id := 1) (n := (dn ++ v :: q).length) (i := dn.length) hlq
      have ldq := fun (H : Heap) (h : H.data? 1 = some (iL (nI (dn ++ v :: q)))) => (p_ldO (id := 1) (i := dn.length) h (by simp [nI])).trans (by rw [hgv])
      repeat' first
 | (apply s_mov; exact aW)
 | (apply c_nil)
 | (apply s_lss; exact rfl; all_goals (intro _; try (exfalso; omega)))
 | (apply s_pn; exact aO; exact ixq _)
 | (apply s_pn; exact aO; exact ldq _ rfl)
 | (apply s_lenSl; exact rfl)
 | (apply c_seq)
 | (apply c_reg)
 | (apply c_block)
 | (apply c_skip)
 | (apply c_condT; exact rfl)
 | (with_reducible apply k_c)
      all_goals first | (exfalso; omega) | skip
      have gcI : ∀ (k i j : Nat) (C D : List AV), gc 0 [x, .sl 0 1 0 b.length, .sl 1 1 0 k, .int .i64 (i : Int), .int .i64 (v : Int), .int .i64 (j : Int)] [some (.data C), some (.data D)] = some ([x, .sl 0 1 0 b.length, .sl 1 1 0 k, .int .i64 (i : Int), .int .i64 (v : Int), .int .i64 (j : Int)], [some (.data C), some (.data D)]) := fun k i j C D => by simp [go_sem, fx]
      have gcI2 : ∀ (k i j : Nat) (C D : List AV), gc 0 [x, .sl 0 1 0 b.length, .sl 2 1 0 k, .int .i64 (i : Int), .int .i64 (v : Int), .int .i64 (j : Int)] [some (.data C), none, some (.data D)] = some ([x, .sl 0 1 0 b.length, .sl 1 1 0 k, .int .i64 (i : Int), .int .i64 (v : Int), .int .i64 (j : Int)], [some (.data C), some (.data D)]) := fun k i j C D => by simp [go_sem, fx]
      rw [e0]
      refine c_loop ?_
      refine loop_gc (σ := Nat) (fun j => [x, .sl 0 1 0 b.length, .sl 1 1 0 (dn ++ [v] ++ (bIn b v j (d, q)).2).length, .int .i64 (dn.length : Int), .int .i64 (v : Int), .int .i64 (j : Int)]) (fun j => [some (.data (iL (bIn b v j (d, q)).1)), some (.data (iL (nI (dn ++ [v] ++ (bIn b v j (d, q)).2))))]) (fun j => j ≤ b.length) (fun j => b.length - j) ?_ _ 0 _ _ (Nat.zero_le _) (by omega) (gcI _ dn.length 0 _ _)
      intro j hj K3 hK3
      obtain ⟨hB1, hv1, hm1⟩ := bIn_ok (b := b) hB' hv hvd j hj
      by_cases hjn : j < b.length
      · have hcap1 := hcap hB1
        have hstep : bIn b v (j + 1) (d, q) = if 0 < getI (getLL b (v : Int)) (j : Int) ∧ getI (bIn b v j (d, q)).1 (j : Int) < 0 then ((bIn b v j (d, q)).1.set j (getI (bIn b v j (d, q)).1 (v : Int) + 1), (bIn b v j (d, q)).2 ++ [j]) else bIn b v j (d, q) := rfl
        have hK31 := hK3 (j + 1)
        simp only [hstep] at hK31
        have hlow := hB1.low j hjn
        have hlow2 := hB.far v hv
        generalize bIn b v j (d, q) = st at *
        obtain ⟨d1, q1⟩ := st
        dsimp only at *
        have hl1 := hB1.len
        have ldk := fun (H : Heap) (h : H.data? 0 = some (iL d1)) => p_ldO (id := 0) (i := j) h (by omega)
        have ldv := fun (H : Heap) (h : H.data? 0 = some (iL d1)) => p_ldO (id := 0) (i := v) h (by omega)
        have stk := fun (vv : Int) call (H : Heap) (h : H.data? 0 = some (iL d1)) => e_stO (call := call) (H := H) (id := 0) (l := d1) (i := j) (v := vv) h (by omega)
        have apq := fun call (H : Heap) (h : H.data? 1 = some (iL ([] ++ nI (dn ++ [v] ++ q1)))) => e_appO (call := call) (a := (j : Int)) (id := 1) (pr := []) h rfl (nI_len _) (by unfold most; omega)
        by_cases hc : 0 < getI (getLL b (v : Int)) (j : Int) ∧ getI d1 (j : Int) < 0
        · simp only [if_pos hc] at hK31
          obtain ⟨hc1, hc2⟩ := hc
          repeat' first
 | (apply s_mov; exact aW)
 | (apply s_gT; exact rfl)
 | (apply c_nil)
 | (apply s_pickT; exact rfl; exact aW)
 | (apply s_lss; exact rfl; all_goals (intro _; try (exfalso; omega)))
 | (apply s_gtr; exact rfl; all_goals (intro _; try (exfalso; omega)))
 | (apply s_add; exact rfl; omega)
 | (apply s_pn; exact aO; exact p_ixO hjn)
 | (apply s_pn; exact aO; exact p_ixO hv)
 | (apply s_pn; exact aO; exact ldk _ rfl)
 | (apply s_pn; exact aO; exact ldv _ rfl)
 | (apply s_st; exact aO; exact stk _ _ _ rfl)
 | (apply s_en; exact aO; exact e_bld1 rfl rfl rfl rfl)
 | (apply s_en; exact aO; exact apq _ _ rfl)
 | (apply s_lenLL; exact aW; assumption)
 | (apply s_idx; exact aW; exact rfl; exact aI; omega)
 | (apply s_idxLL; exact aW; exact rfl; assumption; omega)
 | (apply s_ldI; exact rfl; omega)
 | (apply s_ldLL; exact rfl; assumption; omega)
 | (apply c_seq)
 | (apply c_reg)
 | (apply c_block)
 | (apply c_skip)
 | (apply c_condT; exact rfl)
 | (with_reducible apply k_c)
          all_goals first | (exfalso; omega) | skip
          have eq1 : nI (dn ++ [v] ++ q1) ++ [(j : Int)] = nI (dn ++ [v] ++ (q1 ++ [j])) := by simp [nI]
          rw [eq1]
          have eq2 : (dn ++ [v] ++ q1).length + 1 = (dn ++ [v] ++ (q1 ++ [j])).length := by simp; omega
          rw [eq2]
          exact hK31 _ _ (by omega) (by omega) (gcI2 _ dn.length (j + 1) _ _)
        · simp only [if_neg hc] at hK31
          repeat' first
 | (apply s_mov; exact aW)
 | (apply s_gT; exact rfl)
 | (apply s_gF; exact rfl)
 | (apply c_nil)
 | (apply s_pickT; exact rfl; exact aW)
 | (apply s_pickF; exact rfl; exact aW)
 | (apply s_lss; exact rfl; all_goals (intro _; try (exfalso; omega)))
 | (apply s_gtr; exact rfl; all_goals (intro _; try (exfalso; omega)))
 | (apply s_add; exact rfl; omega)
 | (apply s_pn; exact aO; exact p_ixO hjn)
 | (apply s_pn; exact aO; exact ldk _ rfl)
 | (apply s_lenLL; exact aW; assumption)
 | (apply s_idx; exact aW; exact rfl; exact aI; omega)
 | (apply s_idxLL; exact aW; exact rfl; assumption; omega)
 | (apply s_ldI; exact rfl; omega)
 | (apply s_ldLL; exact rfl; assumption; omega)
 | (apply c_seq)
 | (apply c_reg)
 | (apply c_block)
 | (apply c_skip)
 | (apply c_condT; exact rfl)
 | (apply c_condF; exact rfl)
 | (with_reducible apply k_c)
          all_goals first | exact hK31 _ _ (by omega) (by omega) (gcI _ dn.length (j + 1) _ _) | (exfalso; omega) | skip
      · obtain rfl : j = b.length := by omega
        repeat' first
 | (apply s_mov; exact aW)
 | (apply c_nil)
 | (apply s_lss; exact rfl; all_goals (intro _; try (exfalso; omega)))
 | (apply s_lenLL; exact aW; assumption)
 | (apply c_seq)
 | (apply c_reg)
 | (apply c_exitH)
 | (apply c_condF; exact rfl)
 | (with_reducible apply k_c)
        apply c_pre (vs := [x, .sl 0 1 0 b.length, .sl 1 1 0 (dn ++ [v] ++ (bIn b v b.length (d, q)).2).length, .int .i64 (dn.length : Int)]) (H' := [some (.data (iL (bIn b v b.length (d, q)).1)), some (.data (iL (nI (dn ++ [v] ++ (bIn b v b.length (d, q)).2))))])
        · exact gcQ _ dn.length _ _
        repeat' first
 | (apply s_mov; exact aW)
 | (apply c_nil)
 | (apply s_add; exact rfl; omega)
 | (apply c_reg)
        refine hK2 ((bIn b v b.length (d, q)).1, dn ++ [v], (bIn b v b.length (d, q)).2) _ _ ⟨hpop, f, by dsimp only; omega, hfR⟩ (by dsimp only; exact hdec) ?_
        have e9 : ((dn ++ [v]).length : Int) = (dn.length : Int) + 1 := by simp
        dsimp only
        rw [e9]
        simp [go_sem, fx]
theorem c106 {x : AV} {b : List (List Int)} (hx : IsLL x b) (hb : Bd b) {q0 : Nat} (hq : q0 < b.length) {m : Nat} (hm : 200 ≤ m) (H : Heap) : callPure (evF tab it m) true 106 [x, .int .i64 (q0 : Int)] H = some (.rd 1 b.length (iL (dist b q0).1), H) :=
  callPure_frz (by simp [idFreeL, AV.idFree, hx.free]) (by simp) (f106 hx hb hq hm) (frz_sl rfl (dist_len b q0))
end Go.AM.Ch
