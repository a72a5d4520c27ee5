/- A part of the proof: U47. -/
import Derived.Test.YtmegimhfoedcdaaU46
set_option linter.unusedSectionVars false
set_option linter.unusedVariables false
set_option linter.unusedSimpArgs false
namespace Go.AM.Ch
set_option maxHeartbeats 8000000
/-- IsReduced, of a reduced list -/
theorem f27 {x y : AV} {b : List (List Int)} {l : List Int} {q : Nat} (hx : IsLL x b) (hy : IsL y l) (hB : IsB b) (hq : q < b.length) (hln : l.length = b.length) (hr : Red b.length (ed b) q (gf l)) {m : Nat} (hm : 5000 ≤ m) :
    evF tab it m 27 [x, y, .int .i64 (q : Int)] [] = some (.bool true, []) := by
  obtain ⟨m, rfl⟩ : ∃ j, m = j + 1 := ⟨m - 1, by omega⟩
  have fx := hx.free; have fy := hy.free
  have hn1 := hB.n1; have hn2 := hB.n2
  have hbd := hB.bd
  have g := gr_of hB
  have lx : ∀ H, evP H .len [x] = some (.int .i64 ((b.length : Nat) : Int)) := fun H => by cases hx <;> rfl
  have e57 := fun (S i : Nat) (hi : i < b.length) H => c57 (S := S) hx hbd hi (m := m) (by omega) H
  have shn := fun H => p_shl (H := H) (b := b.length) (by omega)
  have hp11 : 2 ^ b.length ≤ 1024 := Nat.le_trans (Nat.pow_le_pow_right (by omega) (show b.length ≤ 10 by omega)) (by decide)
  -- a number of a set has a place
  have hone : ∀ S : Nat, 1 ≤ S → S < 2 ^ b.length → ∃ v, v < b.length ∧ bitS S v = true := by
    intro S
    have : ∀ n, 1 ≤ S → S < 2 ^ n → ∃ v, v < n ∧ bitS S v = true := by
      intro n
      induction n with
      | zero => intro h1 h2; simp at h2; omega
      | succ n ih =>
        intro h1 h2
        by_cases h : S < 2 ^ n
        · obtain ⟨v, hv, e⟩ := ih h1 h
          exact ⟨v, by omega, e⟩
        · refine ⟨n, by omega, ?_⟩
          rw [Nat.pow_succ] at h2
          have hp := Nat.pow_pos (n := n) (show 0 < 2 by omega)
          have : S / 2 ^ n = 1 := by
            have h3 : S / 2 ^ n < 2 := Nat.div_lt_of_lt_mul (by omega)
            have h4 : 1 ≤ S / 2 ^ n := (Nat.le_div_iff_mul_le hp).2 (by omega)
            omega
          unfold bitS
          rw [this]
          rfl
    exact this b.length
  refine f_enter rfl rfl ?_
  generalize evF tab it m = call at *
  generalize hP : 2 ^ b.length = P at *
  repeat' first
 | (apply s_mov; (focus ((conv => lhs; whnf); done)))
 | (apply c_nil)
 | (apply s_pn; (focus (repeat (first | apply opds_nil | (apply opds_cons; (first | (focus ((conv => lhs; whnf); done)) | exact rfl))))); exact lx _)
 | (apply c_seq)
 | (apply c_reg)
 | (apply c_block)
 | (with_reducible apply k_c)
  refine c_loop ?_
  refine loop_gc (σ := Nat) (fun i => [x, y, .int .i64 (q : Int), .int .i64 ((b.length : Nat) : Int), .int .i64 (i : Int)]) (fun _ => []) (fun i => i ≤ b.length) (fun i => b.length - i) ?_ _ 0 _ _ (by omega) (by omega) (gc_to rfl (by simp [idFreeL, AV.idFree, *]; done))
  intro i hi K hK
  by_cases hin : i < b.length
  · have hgi : gf l i = getI l (i : Int) := rfl
    have h1 := hr.1 i hin
    by_cases hiq : i = q
    · subst hiq
      repeat' first
 | (apply s_mov; (focus ((conv => lhs; whnf); done)))
 | (apply s_gF; exact rfl)
 | (apply c_nil)
 | (apply s_pickF; exact rfl; (focus ((conv => lhs; whnf); done)))
 | ((first | apply s_lss | apply s_leq | apply s_gtr | apply s_geq | apply s_eql | apply s_neq); exact rfl; all_goals (intro _; try (exfalso; omega)))
 | ((first | apply s_add | apply s_sub); exact rfl; omega)
 | (apply c_seq)
 | (apply c_reg)
 | (apply c_block)
 | (apply c_skip)
 | (apply c_condT; exact rfl)
 | (apply c_condF; exact rfl)
 | (with_reducible apply k_c)
      all_goals first | exact hK (i + 1) _ _ (by omega) (by omega) (gc_to rfl (by simp [idFreeL, AV.idFree, *]; done)) | (exfalso; omega)
    · have := h1 hiq
      repeat' first
 | (apply s_mov; (focus ((conv => lhs; whnf); done)))
 | (apply s_gT; exact rfl)
 | (apply c_nil)
 | (apply s_pickT; exact rfl; (focus ((conv => lhs; whnf); done)))
 | ((first | apply s_lss | apply s_leq | apply s_gtr | apply s_geq | apply s_eql | apply s_neq); exact rfl; all_goals (intro _; try (exfalso; omega)))
 | ((first | apply s_add | apply s_sub); exact rfl; omega)
 | (apply s_idx; (focus ((conv => lhs; whnf); done)); exact rfl; (first | assumption | (apply IsLL.at; assumption; omega)); omega)
 | (apply s_ldI; exact rfl; omega)
 | (apply c_seq)
 | (apply c_reg)
 | (apply c_block)
 | (apply c_skip)
 | (apply c_condT; exact rfl)
 | (apply c_condF; exact rfl)
 | (with_reducible apply k_c)
      all_goals first | exact hK (i + 1) _ _ (by omega) (by omega) (gc_to rfl (by simp [idFreeL, AV.idFree, *]; done)) | (exfalso; omega)
  · obtain rfl : i = b.length := by omega
    repeat' first
 | (apply s_mov; (focus ((conv => lhs; whnf); done)))
 | (apply c_nil)
 | ((first | apply s_lss | apply s_leq | apply s_gtr | apply s_geq | apply s_eql | apply s_neq); exact rfl; all_goals (intro _; try (exfalso; omega)))
 | (apply c_seq)
 | (apply c_reg)
 | (apply c_block)
 | (apply c_exitH)
 | (apply c_condF; exact rfl)
 | (apply c_preF; (focus (repeat (first | apply looks_nil | (apply looks_cons; (focus ((conv => lhs; whnf); done)))))); (focus (simp [idFreeL, AV.idFree, *]; done)))
 | (with_reducible apply k_c)
    refine c_loop ?_
    refine loop_gc (σ := Nat) (fun S => [x, y, .int .i64 (q : Int), .int .i64 ((b.length : Nat) : Int), .int .i64 (S : Int)]) (fun _ => []) (fun S => 1 ≤ S ∧ S ≤ P) (fun S => P - S) ?_ _ 1 _ _ ⟨by omega, by have := Nat.pow_pos (n := b.length) (show 0 < 2 by omega); omega⟩ (by omega) (gc_to rfl (by simp [idFreeL, AV.idFree, *]; done))
    intro S ⟨hS1, hSP⟩ K2 hK2
    by_cases hSn : S < P
    · have shq := fun H => p_shr (H := H) (a := S) (b := q) (by omega)
      have hbq : bitS S q = (S / 2 ^ q % 2 == 1) := rfl
      generalize hDq : S / 2 ^ q = Dq at *
      have hrq : ∀ H, evP H (.bin .rem) [.int .i64 (Dq : Int), .int .i64 2] = some (.int .i64 ((Dq % 2 : Nat) : Int)) := fun H => rfl
      by_cases hq1 : Dq % 2 = 1
      · skip
        repeat' first
 | (apply s_mov; (focus ((conv => lhs; whnf); done)))
 | (apply c_nil)
 | ((first | apply s_lss | apply s_leq | apply s_gtr | apply s_geq | apply s_eql | apply s_neq); exact rfl; all_goals (intro _; try (exfalso; omega)))
 | ((first | apply s_add | apply s_sub); exact rfl; omega)
 | (apply s_pn; (focus (repeat (first | apply opds_nil | (apply opds_cons; (first | (focus ((conv => lhs; whnf); done)) | exact rfl))))); exact shn _)
 | (apply s_pn; (focus (repeat (first | apply opds_nil | (apply opds_cons; (first | (focus ((conv => lhs; whnf); done)) | exact rfl))))); exact shq _)
 | (apply s_pn; (focus (repeat (first | apply opds_nil | (apply opds_cons; (first | (focus ((conv => lhs; whnf); done)) | exact rfl))))); exact hrq _)
 | (apply c_seq)
 | (apply c_reg)
 | (apply c_block)
 | (apply c_exitH)
 | (apply c_skip)
 | (apply c_condT; exact rfl)
 | (apply c_preF; (focus (repeat (first | apply looks_nil | (apply looks_cons; (focus ((conv => lhs; whnf); done)))))); (focus (simp [idFreeL, AV.idFree, *]; done)))
 | (with_reducible apply k_c)
        all_goals first | exact hK2 (S + 1) _ _ ⟨by omega, by omega⟩ (by omega) (gc_to rfl (by simp [idFreeL, AV.idFree, *]; done)) | (exfalso; omega)
      · have hSq : bitS S q = false := by rw [hbq]; simpa using hq1
        obtain ⟨w, hw, hws, hwl⟩ := hr.2 (bitS S) hSq (hone S hS1 hSn)
        repeat' first
 | (apply s_mov; (focus ((conv => lhs; whnf); done)))
 | (apply c_nil)
 | ((first | apply s_lss | apply s_leq | apply s_gtr | apply s_geq | apply s_eql | apply s_neq); exact rfl; all_goals (intro _; try (exfalso; omega)))
 | (apply s_pn; (focus (repeat (first | apply opds_nil | (apply opds_cons; (first | (focus ((conv => lhs; whnf); done)) | exact rfl))))); exact shn _)
 | (apply s_pn; (focus (repeat (first | apply opds_nil | (apply opds_cons; (first | (focus ((conv => lhs; whnf); done)) | exact rfl))))); exact shq _)
 | (apply s_pn; (focus (repeat (first | apply opds_nil | (apply opds_cons; (first | (focus ((conv => lhs; whnf); done)) | exact rfl))))); exact hrq _)
 | (apply c_seq)
 | (apply c_reg)
 | (apply c_block)
 | (apply c_skip)
 | (apply c_condT; exact rfl)
 | (apply c_condF; exact rfl)
 | (with_reducible apply k_c)
        all_goals try (exfalso; omega)
        refine c_loop ?_
        refine loop_gc (σ := Nat × Bool) (fun p => [x, y, .int .i64 (q : Int), .int .i64 ((b.length : Nat) : Int), .int .i64 (S : Int), .bool p.2, .int .i64 (p.1 : Int)]) (fun _ => []) (fun p => p.1 ≤ b.length ∧ (p.2 = true → p.1 ≤ w)) (fun p => b.length - p.1) ?_ _ (0, true) _ _ ⟨by dsimp only; omega, fun _ => by dsimp only; omega⟩ (by show b.length - 0 < _; omega) (gc_to rfl (by simp [idFreeL, AV.idFree, *]; done))
        intro ⟨i, fi⟩ ⟨hi, hfi⟩ K3 hK3
        dsimp only at hi hfi hK3 ⊢
        by_cases hin : i < b.length
        · have shr := fun H => p_shr (H := H) (a := S) (b := i) (by omega)
          have e57' := e57 S i hin
          have hbi : bitS S i = (S / 2 ^ i % 2 == 1) := rfl
          have hout : 0 ≤ outE b.length (ed b) (bitS S) i := sumTo_nn fun j hj => by
            have := g.nn i j hin hj
            try dsimp only
            split <;> omega
          have hwi : i = w → (S / 2 ^ i % 2 = 1 ∧ getI l (i : Int) < outE b.length (ed b) (bitS S) i) := fun e => by
            subst e
            refine ⟨by rw [hbi] at hws; simpa using hws, hwl⟩
          generalize hD : S / 2 ^ i = D at *
          generalize hO : outE b.length (ed b) (bitS S) i = OO at *
          have hrem : ∀ H, evP H (.bin .rem) [.int .i64 (D : Int), .int .i64 2] = some (.int .i64 ((D % 2 : Nat) : Int)) := fun H => rfl
          by_cases hfire : D % 2 = 1 ∧ getI l (i : Int) < OO
          · obtain ⟨hf1, hf2⟩ := hfire
            repeat' first
 | (apply s_mov; (focus ((conv => lhs; whnf); done)))
 | (apply s_gT; exact rfl)
 | (apply c_nil)
 | (apply s_pickT; exact rfl; (focus ((conv => lhs; whnf); done)))
 | ((first | apply s_lss | apply s_leq | apply s_gtr | apply s_geq | apply s_eql | apply s_neq); exact rfl; all_goals (intro _; try (exfalso; omega)))
 | ((first | apply s_add | apply s_sub); exact rfl; omega)
 | (apply s_pn; (focus (repeat (first | apply opds_nil | (apply opds_cons; (first | (focus ((conv => lhs; whnf); done)) | exact rfl))))); exact shr _)
 | (apply s_pn; (focus (repeat (first | apply opds_nil | (apply opds_cons; (first | (focus ((conv => lhs; whnf); done)) | exact rfl))))); exact hrem _)
 | (apply s_cn; (focus (repeat (first | apply opds_nil | (apply opds_cons; (first | (focus ((conv => lhs; whnf); done)) | exact rfl))))); exact e57' _)
 | (apply s_idx; (focus ((conv => lhs; whnf); done)); exact rfl; (first | assumption | (apply IsLL.at; assumption; omega)); omega)
 | (apply s_ldI; exact rfl; omega)
 | (apply c_seq)
 | (apply c_reg)
 | (apply c_block)
 | (apply c_skip)
 | (apply c_condT; exact rfl)
 | (with_reducible apply k_c)
            all_goals first
              | (exact hK3 (i + 1, false) _ _ ⟨by omega, fun e => by cases e⟩ (by show b.length - (i + 1) < _; omega) (gc_to rfl (by simp [idFreeL, AV.idFree, *]; done)))
              | (exfalso; omega)
          · have hne : i ≠ w := fun e => hfire (hwi e)
            by_cases hf1 : D % 2 = 1
            · have hf2 : ¬ getI l (i : Int) < OO := fun h => hfire ⟨hf1, h⟩
              repeat' first
 | (apply s_mov; (focus ((conv => lhs; whnf); done)))
 | (apply s_gT; exact rfl)
 | (apply c_nil)
 | (apply s_pickT; exact rfl; (focus ((conv => lhs; whnf); done)))
 | ((first | apply s_lss | apply s_leq | apply s_gtr | apply s_geq | apply s_eql | apply s_neq); exact rfl; all_goals (intro _; try (exfalso; omega)))
 | ((first | apply s_add | apply s_sub); exact rfl; omega)
 | (apply s_pn; (focus (repeat (first | apply opds_nil | (apply opds_cons; (first | (focus ((conv => lhs; whnf); done)) | exact rfl))))); exact shr _)
 | (apply s_pn; (focus (repeat (first | apply opds_nil | (apply opds_cons; (first | (focus ((conv => lhs; whnf); done)) | exact rfl))))); exact hrem _)
 | (apply s_cn; (focus (repeat (first | apply opds_nil | (apply opds_cons; (first | (focus ((conv => lhs; whnf); done)) | exact rfl))))); exact e57' _)
 | (apply s_idx; (focus ((conv => lhs; whnf); done)); exact rfl; (first | assumption | (apply IsLL.at; assumption; omega)); omega)
 | (apply s_ldI; exact rfl; omega)
 | (apply c_seq)
 | (apply c_reg)
 | (apply c_block)
 | (apply c_skip)
 | (apply c_condT; exact rfl)
 | (apply c_condF; exact rfl)
 | (with_reducible apply k_c)
              all_goals first
                | (exact hK3 (i + 1, fi) _ _ ⟨by omega, fun e => by have := hfi e; omega⟩ (by show b.length - (i + 1) < _; omega) (gc_to rfl (by simp [idFreeL, AV.idFree, *]; done)))
                | (exfalso; omega)
            · skip
              repeat' first
 | (apply s_mov; (focus ((conv => lhs; whnf); done)))
 | (apply s_gF; exact rfl)
 | (apply s_gFD; exact rfl)
 | (apply c_nil)
 | (apply s_pickF; exact rfl; (focus ((conv => lhs; whnf); done)))
 | ((first | apply s_lss | apply s_leq | apply s_gtr | apply s_geq | apply s_eql | apply s_neq); exact rfl; all_goals (intro _; try (exfalso; omega)))
 | ((first | apply s_add | apply s_sub); exact rfl; omega)
 | (apply s_pn; (focus (repeat (first | apply opds_nil | (apply opds_cons; (first | (focus ((conv => lhs; whnf); done)) | exact rfl))))); exact shr _)
 | (apply s_pn; (focus (repeat (first | apply opds_nil | (apply opds_cons; (first | (focus ((conv => lhs; whnf); done)) | exact rfl))))); exact hrem _)
 | (apply c_seq)
 | (apply c_reg)
 | (apply c_block)
 | (apply c_skip)
 | (apply c_condT; exact rfl)
 | (apply c_condF; exact rfl)
 | (with_reducible apply k_c)
              all_goals first
                | (exact hK3 (i + 1, fi) _ _ ⟨by omega, fun e => by have := hfi e; omega⟩ (by show b.length - (i + 1) < _; omega) (gc_to rfl (by simp [idFreeL, AV.idFree, *]; done)))
                | (exfalso; omega)
        · obtain rfl : fi = false := by
            cases fi with
            | false => rfl
            | true => have := hfi rfl; omega
          repeat' first
 | (apply s_mov; (focus ((conv => lhs; whnf); done)))
 | (apply c_nil)
 | ((first | apply s_lss | apply s_leq | apply s_gtr | apply s_geq | apply s_eql | apply s_neq); exact rfl; all_goals (intro _; try (exfalso; omega)))
 | ((first | apply s_add | apply s_sub); exact rfl; omega)
 | (apply c_seq)
 | (apply c_reg)
 | (apply c_exitH)
 | (apply c_skip)
 | (apply c_condF; exact rfl)
 | (apply c_preF; (focus (repeat (first | apply looks_nil | (apply looks_cons; (focus ((conv => lhs; whnf); done)))))); (focus (simp [idFreeL, AV.idFree, *]; done)))
 | (with_reducible apply k_c)
          all_goals first
            | exact hK2 (S + 1) _ _ ⟨by omega, by omega⟩ (by omega) (gc_to rfl (by simp [idFreeL, AV.idFree, *]; done))
            | (exfalso; omega)
    · skip
      repeat' first
 | (apply s_mov; (focus ((conv => lhs; whnf); done)))
 | (apply c_nil)
 | ((first | apply s_lss | apply s_leq | apply s_gtr | apply s_geq | apply s_eql | apply s_neq); exact rfl; all_goals (intro _; try (exfalso; omega)))
 | (apply s_pn; (focus (repeat (first | apply opds_nil | (apply opds_cons; (first | (focus ((conv => lhs; whnf); done)) | exact rfl))))); exact shn _)
 | (apply c_seq)
 | (apply c_reg)
 | (apply c_exitH)
 | (apply c_ret)
 | (apply c_condF; exact rfl)
 | (apply c_preF; (focus (repeat (first | apply looks_nil | (apply looks_cons; (focus ((conv => lhs; whnf); done)))))); (focus (simp [idFreeL, AV.idFree, *]; done)))
 | (with_reducible apply k_c)
      all_goals first | exact fin_t (by (conv => lhs; whnf)) (by rfl) rfl | (exfalso; omega)
theorem c27 {x y : AV} {b : List (List Int)} {l : List Int} {q : Nat} (hx : IsLL x b) (hy : IsL y l) (hB : IsB b) (hq : q < b.length) (hln : l.length = b.length) (hr : Red b.length (ed b) q (gf l)) {m : Nat} (hm : 5000 ≤ m) (H : Heap) :
    callPure (evF tab it m) true 27 [x, y, .int .i64 (q : Int)] H = some (.bool true, H) :=
  callPure_free (by simp [idFreeL, AV.idFree, hx.free, hy.free]) (by simp) (f27 hx hy hB hq hln hr hm) rfl
end Go.AM.Ch
