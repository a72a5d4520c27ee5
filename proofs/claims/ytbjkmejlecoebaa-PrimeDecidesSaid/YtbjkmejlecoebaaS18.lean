/- A part of the proof: S18. -/
import Derived.Test.YtbjkmejlecoebaaS17
set_option linter.unusedSectionVars false
set_option linter.unusedVariables false
set_option linter.unusedSimpArgs false
namespace Go.AM.Pr
open Go.AM.Num
def okAll (R M : List Int) : Prop := (R.length = M.length ∧ R.length ≤ 32) ∧ ∀ i, i < R.length → okAt R M i
instance (R M : List Int) : Decidable (okAll R M) := by unfold okAll; infer_instance
def comR (R M : List Int) : List AV := if okAll R M then (if ∀ i, i < R.length → fit R M i then [.int .i64 (xs R M R.length : Nat), .int .i64 (hv M R.length : Nat), .int .i64 0] else [.int .i64 0, .int .i64 0, .int .i64 6]) else [.int .i64 0, .int .i64 0, .int .i64 2]
theorem okAt_mo {R M : List Int} {i : Nat} (h : IsRest (getI R i) (getI M i)) : getI M i = (mo M i : Nat) ∧ 1 ≤ mo M i ∧ mo M i ≤ 2147483647 ∧ 0 ≤ getI R i ∧ getI R i < (mo M i : Nat) := by
  unfold IsRest IsNum at h
  unfold mo
  omega
theorem fin_3 {n n' n'' : Nat} {env : Env} {H : Heap} {res : Go.AM.R} {v v' v'' : AV} (hr : look env n = v) (hr' : look env n' = v') (hr'' : look env n'' = v'') (hf : v.idFree = true) (hf' : v'.idFree = true) (hf'' : v''.idFree = true) (e : some (.tup [v, v', v''], []) = res) : finish 0 [.t n, .t n', .t n''] env H = res := by
  simp [finish, ress, resOf, hr, hr', hr'', tupOf, gc_free (vs := [.tup [v, v', v'']]) (by simp [idFreeL, AV.idFree, hf, hf', hf'']) H, ← e]
theorem gcd_mod (a b : Nat) : Nat.gcd (a % b) b = Nat.gcd a b := by
  rw [← Nat.gcd_rec, Nat.gcd_comm]
theorem hv_le {R M : List Int} {k : Nat} (hk : ∀ i, i < k → okAt R M i) : hv M k ≤ 4611686018427387904 := by
  cases k with
  | zero => show 1 ≤ _; omega
  | succ k => exact (hk k (by omega)).2
set_option maxHeartbeats 4000000
theorem inv_lt {M : List Int} {k : Nat} (hm : 1 ≤ mo M k) : inv M k < part M k := by
  have hp := part_pos hm
  have hcop : Nat.gcd (hv M k / gg M k % part M k) (part M k) = 1 := by
    rw [← Nat.gcd_rec, Nat.gcd_comm]
    exact Nat.coprime_div_gcd_div_gcd (gg_pos hm)
  obtain ⟨i1, i2, i3⟩ := invOf_spec hp hcop
  unfold inv
  omega
theorem tmod_b {x : Int} {n : Nat} (hn : 1 ≤ n) : -(n : Int) < x.tmod n ∧ x.tmod n < n := by
  have a := Int.tmod_lt_of_pos x (show (0 : Int) < n by omega)
  have b := Int.lt_tmod_of_pos x (show (0 : Int) < n by omega)
  omega
theorem walk25 {call : CallF} {m : Nat} {x y : AV} {R M : List Int} {env : Env} {X0 : Nat → KT} (hx : IsL x R) (hy : IsL y M) (hl1 : R.length = M.length) (hl2 : R.length ≤ 32) (hok : ∀ i, i < R.length → okAt R M i) (hm : 40 < m)
    (he : looks env [1, 7, 14, 15, 78, 79, 80] = [y, .int .i64 (hv M R.length : Nat), .int .i64 0, .int .i64 1, x, .int .i64 (R.length : Int), .int .i64 0])
    (h50 : ∀ {A B : Nat}, A < 9223372036854775808 → 1 ≤ B → B ≤ 2147483647 → ∀ H, callPure call true 50 [.int .i64 (A : Int), .int .i64 (B : Int)] H = some (.tup [.int .i64 ((eucl A B 1 0).1 : Int), .int .i64 (eucl A B 1 0).2], H))
    (h46 : ∀ {a b n : Nat}, 0 < n → a * b < 9223372036854775808 → ∀ H, callPure call true 46 [.int .i64 (a : Int), .int .i64 (b : Int), .int .i64 (n : Int)] H = some (.int .i64 ((a * b % n : Nat) : Int), H)) :
    RC call it m (.loop lb25_21) 0 (evC call it m sq25_22 0 (finish 0 [.t 4, .t 5, .t 6]) X0 (finish 0 [.t 4, .t 5, .t 6])) (blkX 2 (evC call it m sq25_22 0 (finish 0 [.t 4, .t 5, .t 6]) X0 (finish 0 [.t 4, .t 5, .t 6])) X0) (finish 0 [.t 4, .t 5, .t 6]) env []
      (some (.tup (if ∀ i, i < R.length → fit R M i then [.int .i64 (xs R M R.length : Nat), .int .i64 (hv M R.length : Nat), .int .i64 0] else [.int .i64 0, .int .i64 0, .int .i64 6]), [])) := by
  have fx := hx.free; have fy := hy.free
  refine c_loop ?_
  refine loop_gc (σ := Nat) (fun k => [y, .int .i64 (hv M R.length : Nat), .int .i64 (xs R M k : Nat), .int .i64 (hv M k : Nat), x, .int .i64 (R.length : Int), .int .i64 (k : Int)]) (fun _ => []) (fun k => k ≤ R.length ∧ ∀ j, j < k → fit R M j) (fun k => R.length - k) ?_ _ 0 _ _ ⟨by omega, by omega⟩ (by omega) (gc_to he (by simp [idFreeL, AV.idFree, fx, fy]))
  intro k ⟨hk, hf⟩ K hK
  by_cases hkR : k < R.length
  · have hmo : ∀ i, i < R.length → 1 ≤ mo M i := fun i hi => (okAt_mo (hok i hi).1).2.1
    obtain ⟨m1, m2, m3, m4, m5⟩ := okAt_mo (hok k hkR).1
    have g0 := gg_pos m2
    have g1 := gg_le m2
    have p0 := part_pos m2
    have p1 := part_le M k
    have hM : ∀ H, evP H (.ld false 1) [.rp (iL (M.drop ((k : Int).toNat)))] = some (.int .i64 (mo M k : Nat)) := fun H => by
      rw [p_ld ⟨by omega, by omega⟩, m1]
    have hh := hv_le (k := k) fun i hi => hok i (by omega)
    have hh2 := (hok k hkR).2
    have hxl := xs_lt (R := R) (M := M) (k := k) fun i hi => hmo i (by omega)
    have htl := tt_lt (R := R) m2 (xs R M k)
    have hgl := gap_lt (R := R) m2 (xs R M k)
    have hil := inv_lt m2
    have hW := hv_succ M k
    have hmul := Nat.mul_le_mul_left (hv M k) (show tt R M (xs R M k) k + 1 ≤ part M k by omega)
    rw [Nat.mul_add, ← hW] at hmul
    have e50 := h50 (A := hv M k % mo M k) (B := mo M k) (by have := Nat.mod_lt (hv M k) m2; omega) m2 m3 []
    have hd := eucl_d (A := hv M k % mo M k) (B := mo M k) m2
    rw [eucl_g m2, gcd_mod, show Nat.gcd (hv M k) (mo M k) = gg M k from rfl] at e50
    rw [gcd_mod, show Nat.gcd (hv M k) (mo M k) = gg M k from rfl] at hd
    generalize (eucl (hv M k % mo M k) (mo M k) 1 0).2 = iv at *
    have hie := inv_eq m2 hd.1
    have t1 := tmod_b (x := getI R k - (xs R M k : Nat)) m2
    have t2 := tmod_b (x := iv) p0
    have hgap : ∀ H, evP H (.bin .rem) [.int .i64 ((getI R k - (xs R M k : Nat)).tmod (mo M k : Nat) + (mo M k : Nat)), .int .i64 (mo M k : Nat)] = some (.int .i64 (gapN R M (xs R M k) k : Nat)) := fun H => by
      simp only [evP, binV, isShift, binInt, Bool.false_eq_true, if_false, if_true]
      rw [if_neg (by omega), tmod_add (by omega), gap_cast m2]
    have hinv : ∀ H, evP H (.bin .rem) [.int .i64 (iv.tmod (part M k : Nat) + (part M k : Nat)), .int .i64 (part M k : Nat)] = some (.int .i64 (inv M k : Nat)) := fun H => by
      simp only [evP, binV, isShift, binInt, Bool.false_eq_true, if_false, if_true]
      rw [if_neg (by omega), tmod_add (by omega), hie]
    have ha := Nat.mod_lt (gapN R M (xs R M k) k / gg M k) p0
    have hab := Nat.mul_le_mul (show gapN R M (xs R M k) k / gg M k % part M k ≤ 2147483647 by omega) (show inv M k ≤ 2147483647 by omega)
    have e46 := h46 (a := gapN R M (xs R M k) k / gg M k % part M k) (b := inv M k) (n := part M k) p0 (by omega) []
    rw [show gapN R M (xs R M k) k / gg M k % part M k * inv M k % part M k = tt R M (xs R M k) k from rfl] at e46
    have hpart : mo M k / gg M k = part M k := rfl
    have hgN : gapN R M (xs R M k) k / gg M k ≤ gapN R M (xs R M k) k := Nat.div_le_self _ _
    have hquo : ∀ H, evP H (.bin .quo) [.int .i64 (mo M k : Nat), .int .i64 (gg M k : Nat)] = some (.int .i64 (part M k : Nat)) := fun H => by
      simp only [evP, binV, isShift, binInt, Bool.false_eq_true, if_false, if_true]
      rw [if_neg (by omega), show ((mo M k : Nat) : Int).tdiv (gg M k : Nat) = (part M k : Nat) from rfl, wrapI (by omega)]
    have hfit : fit R M k ↔ gapN R M (xs R M k) k % gg M k = 0 := Iff.rfl
    generalize hgx : gapN R M (xs R M k) k = gp at *
    repeat' first
 | (apply s_mov; (focus ((conv => lhs; whnf); done)))
 | (apply c_nil)
 | ((first | apply s_lss | apply s_leq | apply s_gtr | apply s_geq | apply s_eql | apply s_neq); exact rfl; all_goals (intro _; try (exfalso; omega)))
 | (apply s_pn; (focus (repeat (first | apply opds_nil | (apply opds_cons; (first | (focus ((conv => lhs; whnf); done)) | exact rfl))))); exact hM _)
 | (apply s_pn; (focus (repeat (first | apply opds_nil | (apply opds_cons; (first | (focus ((conv => lhs; whnf); done)) | exact rfl))))); exact hquo _)
 | (apply s_remN; exact rfl; omega)
 | (apply s_pn; (focus (repeat (first | apply opds_nil | (apply opds_cons; (first | (focus ((conv => lhs; whnf); done)) | exact rfl))))); exact hgap _)
 | (apply s_pn; (focus (repeat (first | apply opds_nil | (apply opds_cons; (first | (focus ((conv => lhs; whnf); done)) | exact rfl))))); exact hinv _)
 | (apply s_cn; (focus (repeat (first | apply opds_nil | (apply opds_cons; (first | (focus ((conv => lhs; whnf); done)) | exact rfl))))); exact e50)
 | (apply s_cn; (focus (repeat (first | apply opds_nil | (apply opds_cons; (first | (focus ((conv => lhs; whnf); done)) | exact rfl))))); exact e46)
 | (apply s_rem; exact rfl; omega)
 | ((first | apply s_add | apply s_sub); exact rfl; omega)
 | (apply s_mulN; exact rfl; omega)
 | (apply s_quoN; exact rfl; omega; omega)
 | (apply s_idx; (focus ((conv => lhs; whnf); done)); exact rfl; (first | assumption | (apply IsLL.at; assumption; omega)); omega)
 | (apply s_ldI; exact rfl; omega)
 | (apply s_pd; (focus ((conv => lhs; whnf); done)))
 | (apply c_seq)
 | (apply c_reg)
 | (apply c_block)
 | (apply c_skip)
 | (apply c_ret)
 | (apply c_condT; exact rfl)
 | (apply c_condF; exact rfl)
 | (with_reducible apply k_c)
    · refine hK (k + 1) _ _ ⟨by omega, fun j hj => ?_⟩ (by omega) (gc_to rfl (by simp [idFreeL, AV.idFree, fx, fy]))
      rcases (by omega : j < k ∨ j = k) with h | rfl
      · exact hf j h
      · exact hfit.2 (by omega)
    · rw [if_neg (fun h => by have := hfit.1 (h k hkR); omega)]
      exact fin_3 (by (conv => lhs; whnf)) (by (conv => lhs; whnf)) (by (conv => lhs; whnf)) (by rfl) (by rfl) (by rfl) rfl
  · obtain rfl : R.length = k := by omega
    rw [if_pos hf]
    repeat' first
 | (apply s_mov; (focus ((conv => lhs; whnf); done)))
 | (apply c_nil)
 | ((first | apply s_lss | apply s_leq | apply s_gtr | apply s_geq | apply s_eql | apply s_neq); exact rfl; all_goals (intro _; try (exfalso; omega)))
 | (apply c_seq)
 | (apply c_reg)
 | (apply c_exitH)
 | (apply c_ret)
 | (apply c_condF; exact rfl)
 | (apply c_preF; (focus (repeat (first | apply looks_nil | (apply looks_cons; (focus ((conv => lhs; whnf); done)))))); (focus (simp [idFreeL, AV.idFree, *]; done)))
 | (with_reducible apply k_c)
    exact fin_3 (by (conv => lhs; whnf)) (by (conv => lhs; whnf)) (by (conv => lhs; whnf)) (by rfl) (by rfl) (by rfl) rfl
theorem f25 {x y : AV} {R M : List Int} (hx : IsL x R) (hy : IsL y M) {m : Nat} (hm : 500 ≤ m) : evF tab it m 25 [x, y] [] = some (.tup (comR R M), []) := by
  obtain ⟨m, rfl⟩ : ∃ j, m = j + 1 := ⟨m - 1, by omega⟩
  have fx := hx.free; have fy := hy.free
  have h49 := fun a n H => c49 (m := m) (by omega) a n H
  have h50 := fun {A B : Nat} (hA : A < 9223372036854775808) (h1 : 1 ≤ B) (hB : B ≤ 2147483647) H => c50 (A := A) (B := B) hA h1 hB (m := m) (by omega) H
  have h51 := fun {x y : Nat} (hx : x < 18446744073709551616) (hy : y < 18446744073709551616) H => c51 (x := x) (y := y) hx hy (m := m) (by omega) H
  have h46 := fun {a b n : Nat} (hn : 0 < n) (hab : a * b < 9223372036854775808) H => c46 (a := a) (b := b) (n := n) hn hab (m := m) (by omega) H
  unfold comR
  by_cases hlen : R.length = M.length ∧ R.length ≤ 32
  · obtain ⟨hl1, hl2⟩ := hlen
    refine f_enter rfl rfl ?_
    generalize evF tab it m = call at *
    repeat' first
 | (apply s_mov; (focus ((conv => lhs; whnf); done)))
 | (apply s_gT; exact rfl)
 | (apply c_nil)
 | (apply s_pickF; exact rfl; (focus ((conv => lhs; whnf); done)))
 | ((first | apply s_lss | apply s_leq | apply s_gtr | apply s_geq | apply s_eql | apply s_neq); exact rfl; all_goals (intro _; try (exfalso; omega)))
 | (apply s_len; (focus ((conv => lhs; whnf); done)); (first | assumption | (apply IsLL.at; assumption; omega)))
 | (apply c_seq)
 | (apply c_reg)
 | (apply c_block)
 | (apply c_skip)
 | (apply c_condF; exact rfl)
 | (with_reducible apply k_c)
    refine c_loop ?_
    refine loop_gc (σ := Nat) (fun i => [x, y, .int .i64 (hv M i : Nat), x, .int .i64 (R.length : Int), .int .i64 (i : Int)]) (fun _ => []) (fun i => i ≤ R.length ∧ ∀ j, j < i → okAt R M j) (fun i => R.length - i) ?_ _ 0 _ _ ⟨by omega, by omega⟩ (by omega) (gc_to rfl (by simp [idFreeL, AV.idFree, fx, fy]))
    intro i ⟨hi, hok⟩ K hK
    have hhv := hv_le hok
    by_cases hiR : i < R.length
    · by_cases hr : IsRest (getI R i) (getI M i)
      · obtain ⟨m1, m2, m3, m4, m5⟩ := okAt_mo hr
        have g0 := gg_pos m2
        have p0 := part_pos m2
        have p1 := part_le M i
        have hM : ∀ H, evP H (.ld false 1) [.rp (iL (M.drop ((i : Int).toNat)))] = some (.int .i64 (mo M i : Nat)) := fun H => by
          rw [p_ld ⟨by omega, by omega⟩, m1]
        have e49 := h49 (getI R i) (mo M i : Nat) []
        rw [← m1] at e49
        simp only [hr, decide_true] at e49
        rw [m1] at e49
        have e50 := h50 (A := hv M i) (B := mo M i) (by omega) m2 m3 []
        rw [eucl_g m2, show Nat.gcd (hv M i) (mo M i) = gg M i from rfl] at e50
        have hW := hv_succ M i
        have e51 := h51 (x := hv M i) (y := part M i) (by omega) (by omega) []
        rw [← hW] at e51
        have hq : mo M i / gg M i = part M i := rfl
        have c1 : ∀ H, evP H (.conv .u64) [.int .i64 ((hv M i : Nat) : Int)] = some (.int .u64 ((hv M i : Nat) : Int)) := fun H => by
          simp only [evP, wrapUN]
          rw [Nat.mod_eq_of_lt (by omega)]
        have c2 : ∀ H, evP H (.conv .u64) [.int .i64 ((mo M i / gg M i : Nat) : Int)] = some (.int .u64 ((part M i : Nat) : Int)) := fun H => by
          simp only [evP, hq, wrapUN]
          rw [Nat.mod_eq_of_lt (by omega)]
        have c3 : ∀ H, hv M (i + 1) ≤ 4611686018427387904 → evP H (.conv .i64) [.int .u64 ((hv M (i + 1) % 18446744073709551616 : Nat) : Int)] = some (.int .i64 ((hv M (i + 1) : Nat) : Int)) := fun H h => by
          simp only [evP]
          rw [Nat.mod_eq_of_lt (by omega), wrapI (by omega)]
        generalize hG : (eucl (hv M i) (mo M i) 1 0).2 = iv at *
        repeat' first
 | (apply s_mov; (focus ((conv => lhs; whnf); done)))
 | (apply s_gT; exact rfl)
 | (apply s_gF; exact rfl)
 | (apply c_nil)
 | (apply s_pickT; exact rfl; (focus ((conv => lhs; whnf); done)))
 | (apply s_pickF; exact rfl; (focus ((conv => lhs; whnf); done)))
 | (apply s_notT; exact rfl)
 | ((first | apply s_lss | apply s_leq | apply s_gtr | apply s_geq | apply s_eql | apply s_neq); exact rfl; all_goals (intro _; try (exfalso; omega)))
 | (apply s_pn; (focus (repeat (first | apply opds_nil | (apply opds_cons; (first | (focus ((conv => lhs; whnf); done)) | exact rfl))))); exact hM _)
 | (apply s_cn; (focus (repeat (first | apply opds_nil | (apply opds_cons; (first | (focus ((conv => lhs; whnf); done)) | exact rfl))))); exact e49)
 | (apply s_cn; (focus (repeat (first | apply opds_nil | (apply opds_cons; (first | (focus ((conv => lhs; whnf); done)) | exact rfl))))); exact e50)
 | (apply s_cn; (focus (repeat (first | apply opds_nil | (apply opds_cons; (first | (focus ((conv => lhs; whnf); done)) | exact rfl))))); exact e51)
 | (apply s_pn; (focus (repeat (first | apply opds_nil | (apply opds_cons; (first | (focus ((conv => lhs; whnf); done)) | exact rfl))))); exact c1 _)
 | (apply s_pn; (focus (repeat (first | apply opds_nil | (apply opds_cons; (first | (focus ((conv => lhs; whnf); done)) | exact rfl))))); exact c2 _)
 | (apply s_pn; (focus (repeat (first | apply opds_nil | (apply opds_cons; (first | (focus ((conv => lhs; whnf); done)) | exact rfl))))); exact (c3 _ (by omega)))
 | ((first | apply s_add | apply s_sub); exact rfl; omega)
 | (apply s_quoN; exact rfl; omega; omega)
 | (apply s_idx; (focus ((conv => lhs; whnf); done)); exact rfl; (first | assumption | (apply IsLL.at; assumption; omega)); omega)
 | (apply s_ldI; exact rfl; omega)
 | (apply s_pd; (focus ((conv => lhs; whnf); done)))
 | (apply c_seq)
 | (apply c_reg)
 | (apply c_block)
 | (apply c_skip)
 | (apply c_ret)
 | (apply c_condT; exact rfl)
 | (apply c_condF; exact rfl)
 | (with_reducible apply k_c)
        · rw [if_neg (fun h : okAll R M => by have := (h.2 i hiR).2; omega)]
          exact fin_3 (by (conv => lhs; whnf)) (by (conv => lhs; whnf)) (by (conv => lhs; whnf)) (by rfl) (by rfl) (by rfl) rfl
        · rw [if_neg (fun h : okAll R M => by have := (h.2 i hiR).2; omega)]
          exact fin_3 (by (conv => lhs; whnf)) (by (conv => lhs; whnf)) (by (conv => lhs; whnf)) (by rfl) (by rfl) (by rfl) rfl
        · refine hK (i + 1) _ _ ⟨by omega, fun j hj => ?_⟩ (by omega) (gc_to rfl (by simp [idFreeL, AV.idFree, fx, fy]))
          rcases (by omega : j < i ∨ j = i) with h | rfl
          · exact hok j h
          · exact ⟨hr, by omega⟩
      · have hnot : ¬ okAll R M := fun h => hr (h.2 i hiR).1
        rw [if_neg hnot]
        repeat' first
 | (apply s_mov; (focus ((conv => lhs; whnf); done)))
 | (apply c_nil)
 | (apply s_notT; exact rfl)
 | (apply s_notF; exact rfl)
 | ((first | apply s_lss | apply s_leq | apply s_gtr | apply s_geq | apply s_eql | apply s_neq); exact rfl; all_goals (intro _; try (exfalso; omega)))
 | (apply isE; refine s_cB (by (focus (repeat (first | apply opds_nil | (apply opds_cons; (first | (focus ((conv => lhs; whnf); done)) | exact rfl)))))) (h49 _ _ _) (fun _ => ?_) (fun _ => ?_))
 | (apply s_idx; (focus ((conv => lhs; whnf); done)); exact rfl; (first | assumption | (apply IsLL.at; assumption; omega)); omega)
 | (apply s_ldI; exact rfl; omega)
 | (apply c_seq)
 | (apply c_reg)
 | (apply c_block)
 | (apply c_skip)
 | (apply c_ret)
 | (apply c_condT; exact rfl)
 | (apply c_condF; exact rfl)
 | (with_reducible apply k_c)
        all_goals first | exact absurd (by assumption) hr | exact fin_3 (by (conv => lhs; whnf)) (by (conv => lhs; whnf)) (by (conv => lhs; whnf)) (by rfl) (by rfl) (by rfl) rfl
    · obtain rfl : R.length = i := by omega
      have hall : okAll R M := ⟨⟨hl1, hl2⟩, hok⟩
      rw [if_pos hall]
      repeat' first
 | (apply s_mov; (focus ((conv => lhs; whnf); done)))
 | (apply c_nil)
 | ((first | apply s_lss | apply s_leq | apply s_gtr | apply s_geq | apply s_eql | apply s_neq); exact rfl; all_goals (intro _; try (exfalso; omega)))
 | (apply s_len; (focus ((conv => lhs; whnf); done)); (first | assumption | (apply IsLL.at; assumption; omega)))
 | (apply c_seq)
 | (apply c_reg)
 | (apply c_block)
 | (apply c_exitH)
 | (apply c_condF; exact rfl)
 | (apply c_preF; (focus (repeat (first | apply looks_nil | (apply looks_cons; (focus ((conv => lhs; whnf); done)))))); (focus (simp [idFreeL, AV.idFree, *]; done)))
 | (with_reducible apply k_c)
      exact walk25 hx hy hl1 hl2 hok (by omega) rfl h50 h46
  · rw [if_neg (fun h => hlen h.1)]
    refine f_enter rfl rfl ?_
    generalize evF tab it m = call at *
    repeat' first
 | (apply s_mov; (focus ((conv => lhs; whnf); done)))
 | (apply s_gT; exact rfl)
 | (apply s_gF; exact rfl)
 | (apply c_nil)
 | (apply s_pickT; exact rfl; (focus ((conv => lhs; whnf); done)))
 | (apply s_pickF; exact rfl; (focus ((conv => lhs; whnf); done)))
 | ((first | apply s_lss | apply s_leq | apply s_gtr | apply s_geq | apply s_eql | apply s_neq); exact rfl; all_goals (intro _; try (exfalso; omega)))
 | (apply s_len; (focus ((conv => lhs; whnf); done)); (first | assumption | (apply IsLL.at; assumption; omega)))
 | (apply c_seq)
 | (apply c_reg)
 | (apply c_ret)
 | (apply c_condT; exact rfl)
 | (with_reducible apply k_c)
    all_goals first | exact fin_3 (by (conv => lhs; whnf)) (by (conv => lhs; whnf)) (by (conv => lhs; whnf)) (by rfl) (by rfl) (by rfl) rfl | (exfalso; omega)
theorem comR_free (R M : List Int) : (AV.tup (comR R M)).idFree = true := by
  unfold comR; split <;> (try split) <;> rfl
theorem c25 {x y : AV} {R M : List Int} (hx : IsL x R) (hy : IsL y M) {m : Nat} (hm : 500 ≤ m) (H : Heap) : callPure (evF tab it m) true 25 [x, y] H = some (.tup (comR R M), H) :=
  callPure_free (by simp [idFreeL, hx.free, hy.free]) (by simp) (f25 hx hy hm) (comR_free R M)
end Go.AM.Pr
