/- A part of the proof: P21 E9 J8 J9. -/
import Derived.Test.YtmegimhfoedcdaaP18
import Derived.Test.YtmegimhfoedcdaaD2
import Derived.Test.YtmegimhfoedcdaaU53a
import Derived.Test.YtmegimhfoedcdaaD5
set_option linter.unusedVariables false
set_option linter.unusedSimpArgs false
set_option linter.unusedSectionVars false
namespace Go.AM.Ch
section
variable {R M : List Int} {n : Int}
theorem gg_hv (M : List Int) (k : Nat) : gg M k * (hv M k / gg M k) = hv M k := Nat.mul_div_cancel' (Nat.gcd_dvd_left _ _)
theorem inv_one {k : Nat} (hm : 1 ≤ mo M k) : ((part M k : Nat) : Int) ∣ ((inv M k : Nat) : Int) * ((hv M k / gg M k : Nat) : Int) - 1 := by
  have hp := part_pos hm
  have hcop : Nat.gcd (hv M k / gg M k % part M k) (part M k) = 1 := by
    rw [← Nat.gcd_rec, Nat.gcd_comm]
    exact Nat.coprime_div_gcd_div_gcd (gg_pos hm)
  obtain ⟨i1, i2, i3⟩ := invOf_spec hp hcop
  have e1 : ((inv M k : Nat) : Int) = invOf (hv M k / gg M k % part M k) (part M k) := Int.toNat_of_nonneg i1
  rw [e1]
  generalize invOf (hv M k / gg M k % part M k) (part M k) = z at *
  generalize hv M k / gg M k = h' at *
  have d : ((part M k : Nat) : Int) ∣ (h' : Int) - ((h' % part M k : Nat) : Int) := ⟨(h' / part M k : Nat), by
    have := Nat.mod_add_div h' (part M k)
    have : ((h' % part M k : Nat) : Int) + (part M k : Int) * ((h' / part M k : Nat) : Int) = (h' : Nat) := by exact_mod_cast this
    omega⟩
  have := Int.dvd_add i3 (Int.dvd_trans d (Int.dvd_mul_left z _))
  rw [Int.mul_sub] at this
  have e : z * ((h' % part M k : Nat) : Int) - 1 + (z * (h' : Int) - z * ((h' % part M k : Nat) : Int)) = z * (h' : Int) - 1 := by omega
  rwa [e] at this
theorem rest_step {k : Nat} (hm : 1 ≤ mo M k) (hr : getI R k = n % (mo M k : Int)) (hd : ((hv M k : Nat) : Int) ∣ n - (xs R M k : Nat)) : fit R M k ∧ ((hv M (k + 1) : Nat) : Int) ∣ n - (xs R M (k + 1) : Nat) := by
  have g0 := gg_pos hm
  have hgap : ((gapN R M (xs R M k) k : Nat) : Int) = (n - (xs R M k : Nat)) % (mo M k : Int) := by
    rw [gap_cast hm, hr, Int.emod_sub_emod]
  obtain ⟨w, hw⟩ := hd
  have hgp := gg_part M k
  have hgh := gg_hv M k
  generalize hG : gg M k = g at *
  generalize hH : hv M k / g = h' at *
  generalize hP : part M k = p at *
  have e1 : ((gapN R M (xs R M k) k : Nat) : Int) = (g : Int) * (h' * w - p * ((n - (xs R M k : Nat)) / (mo M k : Int))) := by
    have := Int.emod_add_mul_ediv (n - (xs R M k : Nat)) (mo M k : Int)
    rw [hgap]
    have a1 : ((mo M k : Nat) : Int) = (g : Int) * (p : Int) := by exact_mod_cast hgp.symm
    have a2 : ((hv M k : Nat) : Int) = (g : Int) * (h' : Int) := by exact_mod_cast hgh.symm
    rw [Int.mul_sub, ← Int.mul_assoc, ← Int.mul_assoc, ← a1, ← a2, ← hw]
    omega
  have hgd : g ∣ gapN R M (xs R M k) k := by
    have : (g : Int) ∣ ((gapN R M (xs R M k) k : Nat) : Int) := ⟨_, e1⟩
    exact_mod_cast this
  refine ⟨by unfold fit; rw [hG]; exact Nat.mod_eq_zero_of_dvd hgd, ?_⟩
  obtain ⟨u, hu⟩ := hgd
  have hu2 : gapN R M (xs R M k) k / g = u := by rw [hu, Nat.mul_div_cancel_left _ g0]
  have e2 : (u : Int) = h' * w - p * ((n - (xs R M k : Nat)) / (mo M k : Int)) := by
    rw [hu] at e1
    push_cast at e1
    exact Int.eq_of_mul_eq_mul_left (by omega) e1
  have hi := inv_one (M := M) (k := k) hm
  rw [hG, hH, hP] at hi
  have ht : tt R M (xs R M k) k = u % p * inv M k % p := by unfold tt; rw [hG, hu2, hP]
  show ((hv M k * part M k : Nat) : Int) ∣ n - ((xs R M k + hv M k * tt R M (xs R M k) k : Nat) : Int)
  rw [hP]
  push_cast
  have e3 : n - ((xs R M k : Int) + (hv M k : Int) * (tt R M (xs R M k) k : Int)) = (hv M k : Int) * (w - (tt R M (xs R M k) k : Int)) := by
    rw [Int.mul_sub, ← hw]; omega
  rw [e3]
  refine Int.mul_dvd_mul_left _ ?_
  have d1 : (p : Int) ∣ (u : Int) * (inv M k : Nat) - (tt R M (xs R M k) k : Nat) := by
    rw [ht]
    have a1 : (p : Int) ∣ ((u % p * inv M k : Nat) : Int) - ((u % p * inv M k % p : Nat) : Int) := ⟨((u % p * inv M k / p : Nat) : Int), by
      have := Nat.mod_add_div (u % p * inv M k) p
      have : ((u % p * inv M k % p : Nat) : Int) + (p : Int) * ((u % p * inv M k / p : Nat) : Int) = ((u % p * inv M k : Nat) : Int) := by exact_mod_cast this
      omega⟩
    have a2 : (p : Int) ∣ ((u : Int) - ((u % p : Nat) : Int)) * (inv M k : Nat) := by
      refine Int.dvd_trans ⟨((u / p : Nat) : Int), ?_⟩ (Int.dvd_mul_right _ _)
      have := Nat.mod_add_div u p
      have : ((u % p : Nat) : Int) + (p : Int) * ((u / p : Nat) : Int) = (u : Int) := by exact_mod_cast this
      omega
    have := Int.dvd_add a2 a1
    rw [Int.sub_mul] at this
    push_cast at this ⊢
    have e : (u : Int) * (inv M k : Int) - (u : Int) % p * (inv M k : Int) + ((u : Int) % p * (inv M k : Int) - (u : Int) % p * (inv M k : Int) % p) = (u : Int) * (inv M k : Int) - (u : Int) % p * (inv M k : Int) % p := by omega
    rwa [e] at this
  have d2 : (p : Int) ∣ w - (u : Int) * (inv M k : Nat) := by
    have a1 := Int.dvd_trans hi (Int.dvd_mul_left w _)
    have a2 : (p : Int) ∣ (p : Int) * ((n - (xs R M k : Nat)) / (mo M k : Int) * (inv M k : Nat)) := ⟨_, rfl⟩
    have := Int.dvd_sub a2 a1
    have e : (p : Int) * ((n - (xs R M k : Nat)) / (mo M k : Int) * (inv M k : Nat)) - w * ((inv M k : Nat) * (h' : Int) - 1) = w - (u : Int) * (inv M k : Nat) := by
      rw [e2, Int.sub_mul, Int.mul_sub, Int.mul_one, Int.mul_assoc (p : Int)]
      have : w * (((inv M k : Nat) : Int) * (h' : Int)) = (h' : Int) * w * ((inv M k : Nat) : Int) := by
        rw [Int.mul_comm ((inv M k : Nat) : Int) (h' : Int), ← Int.mul_assoc, Int.mul_comm w]
      omega
    rwa [e] at this
  have := Int.dvd_add d2 d1
  have e : w - (u : Int) * (inv M k : Nat) + ((u : Int) * (inv M k : Nat) - (tt R M (xs R M k) k : Nat)) = w - (tt R M (xs R M k) k : Nat) := by omega
  rwa [e] at this
theorem rest_all (L : Nat) (hm : ∀ k, k < L → 1 ≤ mo M k) (hr : ∀ k : Nat, k < L → getI R k = n % (mo M k : Int)) : ∀ k, k ≤ L → (∀ i, i < k → fit R M i) ∧ ((hv M k : Nat) : Int) ∣ n - (xs R M k : Nat) := by
  intro k
  induction k with
  | zero => intro _; exact ⟨fun i hi => by omega, by show ((1 : Nat) : Int) ∣ _; exact Int.one_dvd _⟩
  | succ k ih =>
    intro hk
    obtain ⟨h1, h2⟩ := ih (by omega)
    obtain ⟨h3, h4⟩ := rest_step (hm k (by omega)) (hr k (by omega)) h2
    refine ⟨fun i hi => ?_, h4⟩
    rcases (by omega : i < k ∨ i = k) with h | rfl
    · exact h1 i h
    · exact h3
end
theorem crt2 {N : Int} (h0 : 0 ≤ N) (h1 : N < 4611685975477714963) : comR [N % 2147483647, N % 2147483629] [2147483647, 2147483629] = [.int .i64 N, .int .i64 4611685975477714963, .int .i64 0] := by
  have m0 : mo [2147483647, 2147483629] 0 = 2147483647 := by unfold mo; rw [getI_nat]; rfl
  have m1 : mo [2147483647, 2147483629] 1 = 2147483629 := by unfold mo; rw [getI_nat]; rfl
  have r0 : getI [N % 2147483647, N % 2147483629] ((0 : Nat) : Int) = N % 2147483647 := by rw [getI_nat]; rfl
  have r1 : getI [N % 2147483647, N % 2147483629] ((1 : Nat) : Int) = N % 2147483629 := by rw [getI_nat]; rfl
  have k0 : getI [2147483647, 2147483629] ((0 : Nat) : Int) = 2147483647 := by rw [getI_nat]; rfl
  have k1 : getI [2147483647, 2147483629] ((1 : Nat) : Int) = 2147483629 := by rw [getI_nat]; rfl
  have hv1 : hv [2147483647, 2147483629] 1 = 2147483647 := by simp only [hv, m0]; decide
  have hv2 : hv [2147483647, 2147483629] 2 = 4611685975477714963 := by simp only [hv, m0, m1]; decide
  have hm : ∀ k, k < 2 → 1 ≤ mo [2147483647, 2147483629] k := fun k hk => by
    rcases (by omega : k = 0 ∨ k = 1) with rfl | rfl
    · rw [m0]; omega
    · rw [m1]; omega
  obtain ⟨hfit, hd⟩ := rest_all (R := [N % 2147483647, N % 2147483629]) (M := [2147483647, 2147483629]) (n := N) 2 hm (fun k hk => by
    rcases (by omega : k = 0 ∨ k = 1) with rfl | rfl
    · rw [m0, r0]; rfl
    · rw [m1, r1]; rfl) 2 (Nat.le_refl _)
  have hx := xs_lt (R := [N % 2147483647, N % 2147483629]) (M := [2147483647, 2147483629]) (k := 2) fun i hi => hm i hi
  rw [hv2] at hd hx
  have hok : okAll [N % 2147483647, N % 2147483629] [2147483647, 2147483629] := ⟨⟨rfl, by show (2 : Nat) ≤ 32; omega⟩, fun i hi => by
    have hi2 : i < 2 := hi
    rcases (by omega : i = 0 ∨ i = 1) with rfl | rfl
    · refine ⟨?_, by rw [hv1]; omega⟩
      rw [r0, k0]
      unfold IsRest IsNum
      omega
    · refine ⟨?_, by rw [hv2]; omega⟩
      rw [r1, k1]
      unfold IsRest IsNum
      omega⟩
  unfold comR
  have hfit' : ∀ i, i < [N % 2147483647, N % 2147483629].length → fit [N % 2147483647, N % 2147483629] [2147483647, 2147483629] i := fun i hi => hfit i hi
  rw [if_pos hok, if_pos hfit']
  have hl : ([N % 2147483647, N % 2147483629] : List Int).length = 2 := rfl
  rw [hl, hv2]
  generalize xs [N % 2147483647, N % 2147483629] [2147483647, 2147483629] 2 = X at *
  have : N = X := by
    obtain ⟨q, hq⟩ := hd
    omega
  rw [← this]
  rfl
attribute [local go_sem] gc subHeap reach_skip ren_free reach_new reach_newp reach_end rangeL roots boxCells nodupB posOf renL AV.ren pickO renH renO looks look bindEnv envOf reach_int reach_bool reach_nilS reach_rd putRow cells_sl cells_int cells_bool cells_nilS cells_rd cells_agg reach_agg reach_tup idFreeL idf_sl idf_ptr idf_int idf_bool idf_nilS idf_rd reach_fn reach_mp cells_fn cells_ptr cells_mp idf_mp idf_fn idf_agg idf_tup
set_option maxHeartbeats 8000000
theorem f29 {x : AV} {b : List (List Int)} (hx : IsLL x b) (hl : b.length < 100) {m : Nat} (hm : 2200 ≤ m) :
    evF tab it m 29 [x] [] = some (.tup [.int .i64 (if IsB b then trN b else 0), .int .i64 (if IsB b then 0 else 2)], []) := by
  obtain ⟨m, rfl⟩ : ∃ j, m = j + 1 := ⟨m - 1, by omega⟩
  have fx := hx.free
  have e60 := fun H => c60 hx hl (m := m) (by omega) H
  by_cases hB : IsB b
  · rw [decide_eq_true hB] at e60
    rw [if_pos hB, if_pos hB]
    have e61a := fun H => callPure_free (H := H) (call := evF tab it m) (f := 61) (args := [x, .int .i64 2147483647]) (by simp [idFreeL, AV.idFree, fx]) (by simp) (f61 hx hB (p := 2147483647) (by omega) nd1 (m := m) (by omega)) rfl
    have e61b := fun H => callPure_free (H := H) (call := evF tab it m) (f := 61) (args := [x, .int .i64 2147483629]) (by simp [idFreeL, AV.idFree, fx]) (by simp) (f61 hx hB (p := 2147483629) (by omega) nd2 (m := m) (by omega)) rfl
    have ht := trN_le hB
    have hcr := crt2 (N := trN b) (by omega) (by omega)
    have iP : IsL (.rd 1 2 (iL [2147483647, 2147483629])) [2147483647, 2147483629] := rd_isL rfl
    have iR : IsL (.rd 1 2 (iL [trN b % 2147483647, trN b % 2147483629])) [trN b % 2147483647, trN b % 2147483629] := rd_isL rfl
    have e62 : callPure (evF tab it m) true 62 [.sl 0 1 0 2, .rd 1 2 (iL [2147483647, 2147483629])] [some (.data (iL [trN b % 2147483647, trN b % 2147483629]))] = some (.tup [.int .i64 (trN b), .int .i64 4611685975477714963, .int .i64 0], [some (.data (iL [trN b % 2147483647, trN b % 2147483629]))]) := by
      have f := f62 iR iP (m := m) (by omega)
      rw [hcr] at f
      exact callPure_own (frzL_cons (frz_sl rfl rfl) (frzL_cons rfl frzL_nil)) f rfl (by simp) rfl
    have bl2 : ∀ call H, evE call H (.bldS true true 1 2 [.int .i64 0] [(0, 1), (1, 1)]) [.int .i64 2147483647, .int .i64 2147483629] = some (.rd 1 2 (iL [2147483647, 2147483629]), H) := fun call H => rfl
    have bl1 : ∀ call H (a : Int), evE call H (.bldS true true 1 1 [.int .i64 0] [(0, 1)]) [.int .i64 a] = some (.rd 1 1 (iL [a]), H) := fun call H a => rfl
    have ap0 : ∀ call (a : Int), evE call [] (.app false 1 8) [.nilS, .rd 1 1 (iL [a])] = some (.sl 0 1 0 1, [some (.data (iL [a]))]) := fun call a => e_app_nil rfl (by omega) (by decide)
    have ap1 : ∀ call (c a : Int), evE call [some (.data (iL [c]))] (.app false 1 8) [.sl 0 1 0 1, .rd 1 1 (iL [a])] = some (.sl 1 1 0 2, [none, some (.data (iL [c, a]))]) := fun call c a => e_app_sl (q := 8) (id := 0) (H := [some (.data (iL [c]))]) (cs := iL [c]) (bs := iL [a]) (n := 1) (k := 1) rfl rfl (by omega) (by decide)
    have hr1 := trN b % 2147483647
    refine f_enter rfl rfl ?_
    generalize trN b % 2147483647 = r1 at *
    generalize trN b % 2147483629 = r2 at *
    generalize trN b = T at *
    generalize evF tab it m = call at *
    repeat' first
 | (apply s_mov; exact aW)
 | (apply c_nil)
 | (apply s_notT; exact rfl)
 | (apply s_cn; exact aO; exact e60 _)
 | (apply s_en; exact aO; exact bl2 _ _)
 | (apply s_len; exact aW; exact aI)
 | (apply c_seq)
 | (apply c_reg)
 | (apply c_block)
 | (apply c_skip)
 | (apply c_condF; exact rfl)
 | (with_reducible apply k_c)
    all_goals try (exfalso; omega)
    refine c_loop ?_
    refine loop_gc (σ := Nat) (fun k => [x, .rd 1 2 (iL [2147483647, 2147483629]), if k = 0 then .nilS else .sl 0 1 0 k, .rd 1 2 (iL [2147483647, 2147483629]), .int .i64 2, .int .i64 (k : Int)]) (fun k => if k = 0 then [] else if k = 1 then [some (.data (iL [r1]))] else [some (.data (iL [r1, r2]))]) (fun k => k ≤ 2) (fun k => 2 - k) ?_ _ 0 _ _ (by omega) (by omega) (by rw [if_pos rfl, if_pos rfl]; exact gc_to rfl (by simp [idFreeL, AV.idFree, fx]))
    intro k hk K hK
    rcases (by omega : k = 0 ∨ k = 1 ∨ k = 2) with rfl | rfl | rfl
    · have hK1 := hK 1
      simp only [if_true, if_false, show ¬ (1 : Nat) = 0 by omega] at hK1 ⊢
      clear hK
      have l0 : ∀ H, evP H (.ld false 1) [.rp (iL [2147483647, 2147483629])] = some (.int .i64 2147483647) := fun H => rfl
      have i0 : ∀ H, evP H (.idxA 1) [.rd 1 2 (iL [2147483647, 2147483629]), .int .i64 ((0 : Nat) : Int)] = some (.rp (iL [2147483647, 2147483629])) := fun H => rfl
      repeat' first
 | (apply s_mov; exact aW)
 | (apply c_nil)
 | (apply s_lss; exact rfl; all_goals (intro _; try (exfalso; omega)))
 | (apply s_add; exact rfl; omega)
 | (apply s_pn; exact aO; exact i0 _)
 | (apply s_pn; exact aO; exact l0 _)
 | (apply s_cn; exact aO; exact e61a _)
 | (apply s_en; exact aO; exact bl1 _ _ _)
 | (apply s_en; exact aO; exact ap0 _ _)
 | (apply c_seq)
 | (apply c_reg)
 | (apply c_block)
 | (apply c_skip)
 | (apply c_condT; exact rfl)
 | (with_reducible apply k_c)
      all_goals try (exfalso; omega)
      refine hK1 _ _ (by omega) (by omega) ?_
      exact (by simp [go_sem, fx, iL]; done)
    · have hK1 := hK 2
      simp only [if_true, if_false, show ¬ (1 : Nat) = 0 by omega, show ¬ (2 : Nat) = 0 by omega, show ¬ (2 : Nat) = 1 by omega] at hK1 ⊢
      clear hK
      have l0 : ∀ H, evP H (.ld false 1) [.rp (iL [2147483629])] = some (.int .i64 2147483629) := fun H => rfl
      have i0 : ∀ H, evP H (.idxA 1) [.rd 1 2 (iL [2147483647, 2147483629]), .int .i64 ((1 : Nat) : Int)] = some (.rp (iL [2147483629])) := fun H => rfl
      repeat' first
 | (apply s_mov; exact aW)
 | (apply c_nil)
 | (apply s_lss; exact rfl; all_goals (intro _; try (exfalso; omega)))
 | (apply s_add; exact rfl; omega)
 | (apply s_pn; exact aO; exact i0 _)
 | (apply s_pn; exact aO; exact l0 _)
 | (apply s_cn; exact aO; exact e61b _)
 | (apply s_en; exact aO; exact bl1 _ _ _)
 | (apply s_en; exact aO; exact ap1 _ _ _)
 | (apply c_seq)
 | (apply c_reg)
 | (apply c_block)
 | (apply c_skip)
 | (apply c_condT; exact rfl)
 | (with_reducible apply k_c)
      all_goals try (exfalso; omega)
      refine hK1 _ _ (by omega) (by omega) ?_
      exact (by simp [go_sem, fx, iL]; done)
    · simp only [if_false, show ¬ (2 : Nat) = 0 by omega, show ¬ (2 : Nat) = 1 by omega]
      clear hK
      repeat' first
 | (apply c_nil)
 | (apply s_lss; exact rfl; all_goals (intro _; try (exfalso; omega)))
 | (apply c_seq)
 | (apply c_reg)
 | (apply c_exitH)
 | (apply c_condF; exact rfl)
 | (with_reducible apply k_c)
      all_goals try (exfalso; omega)
      refine c_pre (vs := [.rd 1 2 (iL [2147483647, 2147483629]), .sl 0 1 0 2]) (H' := [some (.data (iL [r1, r2]))]) (by simp [go_sem, iL]; done) ?_
      repeat' first
 | (apply s_mov; exact aW)
 | (apply c_nil)
 | (apply s_cn; exact aO; exact e62)
 | (apply s_pd; exact aW)
 | (apply c_seq)
 | (apply c_reg)
 | (apply c_ret)
 | (with_reducible apply k_c)
      exact fin_tt (by (conv => lhs; whnf)) (by (conv => lhs; whnf)) (by rfl) (by rfl) rfl
  · rw [decide_eq_false hB] at e60
    rw [if_neg hB, if_neg hB]
    refine f_enter rfl rfl ?_
    generalize evF tab it m = call at *
    repeat' first
 | (apply s_mov; exact aW)
 | (apply c_nil)
 | (apply s_notF; exact rfl)
 | (apply s_cn; exact aO; exact e60 _)
 | (apply c_seq)
 | (apply c_reg)
 | (apply c_ret)
 | (apply c_condT; exact rfl)
 | (with_reducible apply k_c)
    exact fin_tt (by (conv => lhs; whnf)) (by (conv => lhs; whnf)) (by rfl) (by rfl) rfl
theorem c29 {x : AV} {b : List (List Int)} (hx : IsLL x b) (hl : b.length < 100) {m : Nat} (hm : 2200 ≤ m) (H : Heap) :
    callPure (evF tab it m) true 29 [x] H = some (.tup [.int .i64 (if IsB b then trN b else 0), .int .i64 (if IsB b then 0 else 2)], H) :=
  callPure_free (by simp [idFreeL, hx.free]) (by simp) (f29 hx hl hm) rfl
set_option maxHeartbeats 8000000
theorem f45 {x u v n : Nat} (h0 : 1 ≤ n) (hn : n < 100) {m : Nat} (hm : 1 ≤ m) : evF tab it m 45 [.int .i64 (x : Int), .int .i64 (u : Int), .int .i64 (v : Int), .int .i64 (n : Int)] [] = some (.int .i64 (mrN n u v x : Nat), []) := by
  obtain ⟨m, rfl⟩ : ∃ j, m = j + 1 := ⟨m - 1, by omega⟩
  by_cases h1 : x = u
  · have e : mrN n u v x = v := by unfold mrN; rw [if_pos h1]
    rw [e]
    refine f_enter rfl rfl ?_
    generalize evF tab it m = call at *
    repeat' first
 | (apply s_mov; exact aW)
 | (apply c_nil)
 | (apply s_eql; exact rfl; all_goals (intro _; try (exfalso; omega)))
 | (apply c_seq)
 | (apply c_reg)
 | (apply c_ret)
 | (apply c_condT; exact rfl)
 | (with_reducible apply k_c)
    all_goals first
      | (exfalso; omega)
      | exact fin_t (by (conv => lhs; whnf)) (by rfl) rfl
  · by_cases h2 : x + 1 = n
    · have e : mrN n u v x = u := by unfold mrN; rw [if_neg h1, if_pos (by omega)]
      rw [e]
      refine f_enter rfl rfl ?_
      generalize evF tab it m = call at *
      repeat' first
 | (apply s_mov; exact aW)
 | (apply c_nil)
 | (apply s_eql; exact rfl; all_goals (intro _; try (exfalso; omega)))
 | (apply s_sub; exact rfl; omega)
 | (apply c_seq)
 | (apply c_reg)
 | (apply c_skip)
 | (apply c_ret)
 | (apply c_condT; exact rfl)
 | (apply c_condF; exact rfl)
 | (with_reducible apply k_c)
      all_goals first
        | (exfalso; omega)
        | exact fin_t (by (conv => lhs; whnf)) (by rfl) rfl
    · have e : mrN n u v x = x := by unfold mrN; rw [if_neg h1, if_neg (by omega)]
      rw [e]
      refine f_enter rfl rfl ?_
      generalize evF tab it m = call at *
      repeat' first
 | (apply s_mov; exact aW)
 | (apply c_nil)
 | (apply s_eql; exact rfl; all_goals (intro _; try (exfalso; omega)))
 | (apply s_sub; exact rfl; omega)
 | (apply c_seq)
 | (apply c_reg)
 | (apply c_skip)
 | (apply c_ret)
 | (apply c_condF; exact rfl)
 | (with_reducible apply k_c)
      all_goals first
        | (exfalso; omega)
        | exact fin_t (by (conv => lhs; whnf)) (by rfl) rfl
theorem c45 {x u v n : Nat} (h0 : 1 ≤ n) (hn : n < 100) {m : Nat} (hm : 1 ≤ m) (H : Heap) : callPure (evF tab it m) true 45 [.int .i64 (x : Int), .int .i64 (u : Int), .int .i64 (v : Int), .int .i64 (n : Int)] H = some (.int .i64 (mrN n u v x : Nat), H) :=
  callPure_free rfl (by simp) (f45 h0 hn hm) rfl
def UV (B : List (List Int)) (n i j : Nat) (U V : Int) : Prop := (U = -1 ∧ V = -1 ∧ ∀ i' j' : Nat, j' < i' → i' < n → (i' < i ∨ (i' = i ∧ j' < j)) → ¬ Cut B i' j') ∨ (∃ u v : Nat, U = u ∧ V = v ∧ v < u ∧ u < n ∧ Cut B u v)
theorem LU5 {call : CallF} {N : Nat} {K0 : KT} {X : Nat → KT} {Rt : KT} {res : R} {env : Env} {H : Heap} {x : AV} {B : List (List Int)} {n i : Nat} {U0 V0 : Int}
    (hN : 100 ≤ N) (hx : IsLL x B) (hB : IsB B) (hn : B.length = n) (hi : i < n) (hUV : UV B n i 0 U0 V0)
    (h0 : gc 0 (looks env [3, 4, 5, 6, 7, 8]) H = some ([x, .int .i64 (n : Int), .int .i64 U0, .int .i64 V0, .int .i64 (i : Int), .int .i64 0], []))
    (hK : ∀ U V, UV B n (i + 1) 0 U V → ∀ env' H', gc 0 (looks env' [3, 4, 5, 6, 7]) H' = some ([x, .int .i64 (n : Int), .int .i64 U, .int .i64 V, .int .i64 (i : Int)], []) → K0 env' H' = res) :
    loopIt N (fun K => evC call it N lb11_5 0 K (blkX 2 K0 X) Rt) env H = res := by
  have fx := hx.free
  have hn10 := hB.n2
  refine loop_gc (σ := Nat × Int × Int) (fun s => [x, .int .i64 (n : Int), .int .i64 s.2.1, .int .i64 s.2.2, .int .i64 (i : Int), .int .i64 (s.1 : Int)]) (fun s => []) (fun s => s.1 ≤ i ∧ UV B n i s.1 s.2.1 s.2.2) (fun s => i - s.1) ?_ _ (0, U0, V0) _ _ ⟨by dsimp only; omega, hUV⟩ (by show i - 0 < _; omega) h0
  clear h0 hUV
  intro ⟨j, U, V⟩ ⟨hj, hUV⟩ K hKl
  dsimp only at hj hUV hKl ⊢
  by_cases hji : j < i
  · have hrow : (getLL B (i : Int)).length = B.length := hB.row i (by omega)
    have hI := hx.at (i := (i : Int)) ⟨by omega, by omega⟩
    have he := (hB.ed i j (by omega) (by omega)).1
    have hK1 := fun U V => hKl (j + 1, U, V)
    dsimp only at hK1
    by_cases hc : Cut B i j
    · have hnx : UV B n i (j + 1) (i : Int) (j : Int) := Or.inr ⟨i, j, rfl, rfl, hji, hi, hc⟩
      have hc' : getI (getLL B (i : Int)) (j : Int) > 1 ∨ (getI (getLL B (i : Int)) (j : Int) = 1 ∧ j + 1 < i) := hc
      clear hKl hK hUV hc
      repeat' first
 | (apply s_mov; exact aW)
 | (apply s_gT; exact rfl)
 | (apply s_gF; exact rfl)
 | (apply c_nil)
 | (apply s_pickT; exact rfl; exact aW)
 | (apply s_pickF; exact rfl; exact aW)
 | (apply s_lss; exact rfl; all_goals (intro _; try (exfalso; omega)))
 | (apply s_gtr; exact rfl; all_goals (intro _; try (exfalso; omega)))
 | (apply s_eql; exact rfl; all_goals (intro _; try (exfalso; omega)))
 | (apply s_add; exact rfl; omega)
 | (apply s_sub; exact rfl; omega)
 | (apply s_idx; exact aW; exact rfl; exact aI; omega)
 | (apply s_idxLL; exact aW; exact rfl; assumption; omega)
 | (apply s_ldI; exact rfl; omega)
 | (apply s_ldLL; exact rfl; assumption; omega)
 | (apply c_seq)
 | (apply c_reg)
 | (apply c_block)
 | (apply c_skip)
 | (apply c_condT; exact rfl)
 | (with_reducible apply k_c)
      all_goals first
        | (exfalso; omega)
        | (refine hK1 _ _ _ _ ⟨by omega, hnx⟩ (by omega) ?_
           exact gc_to rfl (by simp [idFreeL, AV.idFree, fx]))
    · have hnx : UV B n i (j + 1) U V := by
        rcases hUV with ⟨a, c, d⟩ | h
        · refine Or.inl ⟨a, c, fun i' j' h1 h2 h3 => ?_⟩
          rcases (by omega : (i' < i ∨ (i' = i ∧ j' < j)) ∨ (i' = i ∧ j' = j)) with h | ⟨rfl, rfl⟩
          · exact d i' j' h1 h2 h
          · exact hc
        · exact Or.inr h
      have hc' : ¬ (getI (getLL B (i : Int)) (j : Int) > 1 ∨ (getI (getLL B (i : Int)) (j : Int) = 1 ∧ j + 1 < i)) := hc
      clear hKl hK hUV hc
      repeat' first
 | (apply s_mov; exact aW)
 | (apply s_gT; exact rfl)
 | (apply s_gF; exact rfl)
 | (apply c_nil)
 | (apply s_pickT; exact rfl; exact aW)
 | (apply s_pickF; exact rfl; exact aW)
 | (apply s_lss; exact rfl; all_goals (intro _; try (exfalso; omega)))
 | (apply s_gtr; exact rfl; all_goals (intro _; try (exfalso; omega)))
 | (apply s_eql; exact rfl; all_goals (intro _; try (exfalso; omega)))
 | (apply s_add; exact rfl; omega)
 | (apply s_sub; exact rfl; omega)
 | (apply s_idx; exact aW; exact rfl; exact aI; omega)
 | (apply s_idxLL; exact aW; exact rfl; assumption; omega)
 | (apply s_ldI; exact rfl; omega)
 | (apply s_ldLL; exact rfl; assumption; omega)
 | (apply c_seq)
 | (apply c_reg)
 | (apply c_block)
 | (apply c_skip)
 | (apply c_condT; exact rfl)
 | (apply c_condF; exact rfl)
 | (with_reducible apply k_c)
      all_goals first
        | (exfalso; omega)
        | (refine hK1 _ _ _ _ ⟨by omega, hnx⟩ (by omega) ?_
           exact gc_to rfl (by simp [idFreeL, AV.idFree, fx]))
  · obtain rfl : j = i := by omega
    have hnx : UV B n (j + 1) 0 U V := by
      rcases hUV with ⟨a, c, d⟩ | h
      · exact Or.inl ⟨a, c, fun i' j' h1 h2 h3 => d i' j' h1 h2 (by omega)⟩
      · exact Or.inr h
    clear hKl
    repeat' first
 | (apply s_mov; exact aW)
 | (apply c_nil)
 | (apply s_lss; exact rfl; all_goals (intro _; try (exfalso; omega)))
 | (apply c_seq)
 | (apply c_reg)
 | (apply c_exitH)
 | (apply c_condF; exact rfl)
 | (with_reducible apply k_c)
    all_goals first
      | (exfalso; omega)
      | (refine hK U V hnx _ _ ?_
         exact gc_to rfl (by simp [idFreeL, AV.idFree, fx]))
theorem LU9 {call : CallF} {N : Nat} {K0 : KT} {X : Nat → KT} {Rt : KT} {res : R} {env : Env} {H : Heap} {x : AV} {B : List (List Int)} {n : Nat}
    (hN : 100 ≤ N) (hx : IsLL x B) (hB : IsB B) (hn : B.length = n)
    (h0 : gc 0 (looks env [3, 4, 5, 6, 7]) H = some ([x, .int .i64 (n : Int), .int .i64 (-1), .int .i64 (-1), .int .i64 0], []))
    (hK : ∀ U V, UV B n n 0 U V → ∀ env' H', gc 0 (looks env' [3, 4, 5, 6]) H' = some ([x, .int .i64 (n : Int), .int .i64 U, .int .i64 V], []) → K0 env' H' = res) :
    loopIt N (fun K => evC call it N lb11_9 0 K (blkX 0 K0 X) Rt) env H = res := by
  have fx := hx.free
  have hn10 := hB.n2
  refine loop_gc (σ := Nat × Int × Int) (fun s => [x, .int .i64 (n : Int), .int .i64 s.2.1, .int .i64 s.2.2, .int .i64 (s.1 : Int)]) (fun s => []) (fun s => s.1 ≤ n ∧ UV B n s.1 0 s.2.1 s.2.2) (fun s => n - s.1) ?_ _ (0, -1, -1) _ _ ⟨by dsimp only; omega, Or.inl ⟨rfl, rfl, fun i' j' h1 h2 h3 => by omega⟩⟩ (by show n - 0 < _; omega) h0
  clear h0
  intro ⟨i, U, V⟩ ⟨hi, hUV⟩ K hKl
  dsimp only at hi hUV hKl ⊢
  by_cases hin : i < n
  · have hK1 := fun U V => hKl (i + 1, U, V)
    dsimp only at hK1
    have hL := fun (K0 : KT) (X : Nat → KT) (Rt : KT) (res : R) (env : Env) (H : Heap) => LU5 (call := call) (N := N) (K0 := K0) (X := X) (Rt := Rt) (res := res) (env := env) (H := H) (i := i) hN hx hB hn hin hUV
    clear hKl hK hUV
    repeat' first
 | (apply s_mov; exact aW)
 | (apply c_nil)
 | (apply s_lss; exact rfl; all_goals (intro _; try (exfalso; omega)))
 | (apply c_seq)
 | (apply c_reg)
 | (apply c_block)
 | (apply c_skip)
 | (apply c_condT; exact rfl)
 | (with_reducible apply k_c)
    all_goals try (exfalso; omega)
    refine c_loop ?_
    refine hL _ _ _ _ _ _ (gc_to rfl (by simp [idFreeL, AV.idFree, fx])) ?_
    intro U' V' hUV' env' H' hgc
    refine k_c (c_pre hgc ?_)
    repeat' first
 | (apply s_mov; exact aW)
 | (apply c_nil)
 | (apply s_add; exact rfl; omega)
 | (apply c_reg)
    refine hK1 U' V' _ _ ⟨by omega, hUV'⟩ (by omega) ?_
    exact gc_to rfl (by simp [idFreeL, AV.idFree, fx])
  · obtain rfl : i = n := by omega
    clear hKl
    repeat' first
 | (apply s_mov; exact aW)
 | (apply c_nil)
 | (apply s_lss; exact rfl; all_goals (intro _; try (exfalso; omega)))
 | (apply c_seq)
 | (apply c_reg)
 | (apply c_exitH)
 | (apply c_condF; exact rfl)
 | (with_reducible apply k_c)
    all_goals first
      | (exfalso; omega)
      | (refine hK U V hUV _ _ ?_
         exact gc_to rfl (by simp [idFreeL, AV.idFree, fx]))
theorem p_remB {H : Heap} {a b : Int} (hb : b ≠ 0) : evP H (.bin .rem) [.int .i64 a, .int .i64 b] = some (.int .i64 (a.tmod b)) := by simp [evP, binV, isShift, binInt, hb]
theorem LU15 {call : CallF} {N : Nat} {K0 : KT} {X : Nat → KT} {Rt : KT} {res : R} {env : Env} {H : Heap} {x : AV} {n : Nat} {U V T e : Int}
    (hN : 100 ≤ N) (fx : x.idFree = true) (h3 : 3 ≤ n) (h10 : n ≤ 10)
    (h0 : gc 0 (looks env [3, 4, 5, 6, 9, 10, 11, 12]) H = some ([x, .int .i64 (n : Int), .int .i64 U, .int .i64 V, .int .i64 T, .int .i64 e, .sl 0 1 0 n, .int .i64 0], HP n []))
    (hK : ∀ C, Rows n C → (∀ i j, i < n → j < n → ed C i j = cirE n i j) → ∀ env' H', gc 0 (looks env' [3, 4, 5, 6, 9, 10, 11]) H' = some ([x, .int .i64 (n : Int), .int .i64 U, .int .i64 V, .int .i64 T, .int .i64 e, .sl 0 1 0 n], HB n C) → K0 env' H' = res) :
    loopIt N (fun K => evC call it N lb11_15 0 K (blkX 4 K0 X) Rt) env H = res := by
  have mkI := fun H => @e_mkI call H n (by unfold most; omega)
  refine loop_gc (σ := Nat × List (List Int)) (fun s => [x, .int .i64 (n : Int), .int .i64 U, .int .i64 V, .int .i64 T, .int .i64 e, .sl 0 1 0 n, .int .i64 (s.1 : Int)]) (fun s => HP n s.2) (fun s => s.1 ≤ n ∧ RowsP s.1 n s.2 ∧ ∀ i j, i < s.1 → j < n → ed s.2 i j = cirE n i j) (fun s => n - s.1) ?_ _ (0, []) _ _ ⟨by dsimp only; omega, ⟨rfl, fun r hr => by cases hr⟩, fun i j hi hj => by dsimp only at hi; omega⟩ (by show n - 0 < _; omega) h0
  clear h0
  intro ⟨i, rows⟩ ⟨hi, hr, hv⟩ K hKl
  dsimp only at hi hr hv hKl ⊢
  by_cases hin : i < n
  · have hlen : (HP n rows).length = 1 + i := by simp [HP, rowsH, hr.len]; omega
    have e1 : evE call (HP n rows) (.mkS 1 8 [.int .i64 0]) [.int .i64 (n : Int), .int .i64 (n : Int)] = some (.sl (1 + i) 1 0 n, HP n rows ++ [some (.data (iL (List.replicate n 0)))]) := by rw [mkI, hlen]
    have e2 := hp_new (call := call) hr hin
    have hr1 : RowsP (i + 1) n (rows ++ [List.replicate n 0]) := ⟨by simp [hr.len], fun r h => by
      rcases List.mem_append.1 h with h | h
      · exact hr.each r h
      · rw [List.mem_singleton.1 h]; simp⟩
    have l1 := hp_ld hr1 (i := i) (by omega)
    have ha : (i + 1) % n < n := Nat.mod_lt _ (by omega)
    have hc : (i + n - 1) % n < n := Nat.mod_lt _ (by omega)
    have hb : (n : Int) ≠ 0 := by omega
    have r0 := fun (z : Int) H => p_remB (H := H) (a := z) hb
    have ra : ∀ H, evP H (.bin .rem) [.int .i64 ((i : Int) + 1), .int .i64 (n : Int)] = some (.int .i64 (((i + 1) % n : Nat) : Int)) := fun H => by
      rw [r0, Int.tmod_eq_emod_of_nonneg (by omega), show (i : Int) + 1 = ((i + 1 : Nat) : Int) by omega, Int.natCast_emod]
    have rc : ∀ H, evP H (.bin .rem) [.int .i64 ((i : Int) + (n : Int) - 1), .int .i64 (n : Int)] = some (.int .i64 (((i + n - 1) % n : Nat) : Int)) := fun H => by
      rw [r0, Int.tmod_eq_emod_of_nonneg (by omega), show (i : Int) + (n : Int) - 1 = ((i + n - 1 : Nat) : Int) by omega, Int.natCast_emod]
    generalize hA : (i + 1) % n = a at *
    generalize hC : (i + n - 1) % n = c at *
    have st1 := hp_st (call := call) (x := 1) hr1 (i := i) (by omega) ha
    have hr2 := hr1.set (x := 1) (j := a) (i := i) (by omega)
    have l2 := hp_ld hr2 (i := i) (by omega)
    have st2 := hp_st (call := call) (x := 1) hr2 (i := i) (by omega) hc
    have hr3 := hr2.set (x := 1) (j := c) (i := i) (by omega)
    have hK1 := hKl (i + 1, setLL (setLL (rows ++ [List.replicate n 0]) i a 1) i c 1)
    dsimp only at hK1
    have hnx : ∀ p q, p < i + 1 → q < n → ed (setLL (setLL (rows ++ [List.replicate n 0]) i a 1) i c 1) p q = cirE n p q := fun p q hp hq => by
      show getI (getLL (setLL (setLL (rows ++ [List.replicate n 0]) i a 1) i c 1) (p : Int)) (q : Int) = cirE n p q
      rw [hr2.setget (by omega) hc, hr1.setget (by omega) ha]
      by_cases hpi : p = i
      · subst hpi
        have ez : getLL (rows ++ [List.replicate n (0 : Int)]) (p : Int) = List.replicate n 0 := by
          rw [getLL_nat]
          simp [List.getD, hr.len]
        have ez2 : getI (List.replicate n (0 : Int)) (q : Int) = 0 := by rw [getI_nat]; simp [List.getD, hq]
        rw [ez, ez2]
        unfold cirE
        rw [hA, hC]
        (repeat' split) <;> omega
      · rw [if_neg (fun h => hpi h.1), if_neg (fun h => hpi h.1), getLL_app (by rw [hr.len]; omega)]
        exact hv p q (by omega) hq
    have hgc := gcHP (pre := [x, .int .i64 (n : Int), .int .i64 U, .int .i64 V, .int .i64 T, .int .i64 e]) (gs := [.int .i64 ((i + 1 : Nat) : Int)]) (M := n) hr3 (by omega) (by omega) (by simp [idFreeL, AV.idFree, fx]) (by simp) rfl
    clear hKl hK hv
    repeat' first
 | (apply s_mov; exact aW)
 | (apply c_nil)
 | (apply s_lss; exact rfl; all_goals (intro _; try (exfalso; omega)))
 | (apply s_en; exact aO; exact e1)
 | (apply s_pn; exact aO; exact p_ixO hin)
 | (apply s_pn; exact aO; exact p_ixO ha)
 | (apply s_pn; exact aO; exact p_ixO hc)
 | (apply s_st; exact aO; exact e2)
 | (apply s_pn; exact aO; exact l1)
 | (apply s_pn; exact aO; exact l2)
 | (apply s_pn; exact aO; exact ra _)
 | (apply s_pn; exact aO; exact rc _)
 | (apply s_st; exact aO; exact st1)
 | (apply s_st; exact aO; exact st2)
 | (apply s_add; exact rfl; omega)
 | (apply s_sub; exact rfl; omega)
 | (apply c_seq)
 | (apply c_reg)
 | (apply c_block)
 | (apply c_skip)
 | (apply c_condT; exact rfl)
 | (with_reducible apply k_c)
    all_goals try (exfalso; omega)
    refine hK1 _ _ ⟨by omega, hr3, hnx⟩ (by omega) ?_
    exact hgc
  · obtain rfl : i = n := by omega
    have hrr : Rows i rows := ⟨hr.len, hr.each⟩
    have hgc := gcHP (pre := [x, .int .i64 (i : Int), .int .i64 U, .int .i64 V, .int .i64 T, .int .i64 e]) (gs := []) (M := i) hr (by omega) (by omega) (by simp [idFreeL, AV.idFree, fx]) (by simp) rfl
    rw [hp_full hrr] at hgc ⊢
    clear hKl
    repeat' first
 | (apply s_mov; exact aW)
 | (apply c_nil)
 | (apply s_lss; exact rfl; all_goals (intro _; try (exfalso; omega)))
 | (apply c_seq)
 | (apply c_reg)
 | (apply c_exitH)
 | (apply c_condF; exact rfl)
 | (with_reducible apply k_c)
    all_goals try (exfalso; omega)
    refine hK rows hrr hv _ _ ?_
    exact hgc
set_option maxHeartbeats 8000000
theorem hb_get {n i k : Nat} {rows : List (List Int)} (h : Rows n rows) (hi : i < n) (hk : k < n) : evP (HB n rows) (.ld false 1) [.ptr (1 + i) k] = some (.int .i64 (getI (getLL rows (i : Int)) (k : Int))) := by
  have := (ra_hb h []).get (rng1 hi) (by rw [h.get hi]; exact hk)
  rwa [List.append_nil] at this
theorem LU20 {call : CallF} {N : Nat} {K0 : KT} {X : Nat → KT} {Rt : KT} {res : R} {env : Env} {H : Heap} {x : AV} {n k : Nat} {U V T a e : Int}
    (hN : 100 ≤ N) (fx : x.idFree = true) (hk : n = k + 1) (h3 : 3 ≤ n) (h10 : n ≤ 10)
    (h0 : gc 0 (looks env [3, 4, 5, 6, 9, 19, 20, 21, 22]) H = some ([x, .int .i64 (n : Int), .int .i64 U, .int .i64 V, .int .i64 T, .int .i64 a, .int .i64 e, .sl 0 1 0 k, .int .i64 0], HP k []))
    (hK : ∀ env' H', gc 0 (looks env' [3, 4, 5, 6, 9, 19, 20, 21]) H' = some ([x, .int .i64 (n : Int), .int .i64 U, .int .i64 V, .int .i64 T, .int .i64 a, .int .i64 e, .sl 0 1 0 k], HB k (List.replicate k (List.replicate k 0))) → K0 env' H' = res) :
    loopIt N (fun K => evC call it N lb11_20 0 K (blkX 6 K0 X) Rt) env H = res := by
  have mkI := fun H => @e_mkI call H k (by unfold most; omega)
  have sb : ∀ H, evP H (.bin .sub) [.int .i64 (n : Int), .int .i64 1] = some (.int .i64 (k : Int)) := fun H => by
    have e : (n : Int) - 1 = (k : Int) := by omega
    simp only [evP, binV, isShift, binInt, Bool.false_eq_true, if_false, if_true, e]
    rw [wrapI (by omega)]
  have hr : ∀ i, RowsP i k (List.replicate i (List.replicate k 0)) := fun i => ⟨by simp, fun r h => by rw [(List.mem_replicate.1 h).2]; simp⟩
  refine loop_gc (σ := Nat) (fun i => [x, .int .i64 (n : Int), .int .i64 U, .int .i64 V, .int .i64 T, .int .i64 a, .int .i64 e, .sl 0 1 0 k, .int .i64 (i : Int)]) (fun i => HP k (List.replicate i (List.replicate k 0))) (fun i => i ≤ k) (fun i => k - i) ?_ _ 0 _ _ (by omega) (by omega) h0
  clear h0
  intro i hi K hKl
  by_cases hin : i < k
  · have hlen : (HP k (List.replicate i (List.replicate k (0 : Int)))).length = 1 + i := by simp [HP, rowsH]; omega
    have e1 : evE call (HP k (List.replicate i (List.replicate k 0))) (.mkS 1 8 [.int .i64 0]) [.int .i64 (k : Int), .int .i64 (k : Int)] = some (.sl (1 + i) 1 0 k, HP k (List.replicate i (List.replicate k 0)) ++ [some (.data (iL (List.replicate k 0)))]) := by rw [mkI, hlen]
    have e2 := hp_new (call := call) (hr i) hin
    rw [show List.replicate i (List.replicate k (0 : Int)) ++ [List.replicate k 0] = List.replicate (i + 1) (List.replicate k 0) by rw [List.replicate_succ']] at e2
    have hK1 := hKl (i + 1)
    have hgc := gcHP (pre := [x, .int .i64 (n : Int), .int .i64 U, .int .i64 V, .int .i64 T, .int .i64 a, .int .i64 e]) (gs := [.int .i64 ((i + 1 : Nat) : Int)]) (M := k) (hr (i + 1)) (by omega) (by omega) (by simp [idFreeL, AV.idFree, fx]) (by simp) rfl
    clear hKl hK
    repeat' first
 | (apply s_mov; exact aW)
 | (apply c_nil)
 | (apply s_lss; exact rfl; all_goals (intro _; try (exfalso; omega)))
 | (apply s_pn; exact aO; exact sb _)
 | (apply s_en; exact aO; exact e1)
 | (apply s_pn; exact aO; exact p_ixO hin)
 | (apply s_st; exact aO; exact e2)
 | (apply s_add; exact rfl; omega)
 | (apply c_seq)
 | (apply c_reg)
 | (apply c_block)
 | (apply c_skip)
 | (apply c_condT; exact rfl)
 | (with_reducible apply k_c)
    all_goals try (exfalso; omega)
    refine hK1 _ _ (by omega) (by omega) ?_
    exact hgc
  · obtain rfl : i = k := by omega
    have hrr : Rows i (List.replicate i (List.replicate i (0 : Int))) := ⟨(hr i).len, (hr i).each⟩
    have hgc := gcHP (pre := [x, .int .i64 (n : Int), .int .i64 U, .int .i64 V, .int .i64 T, .int .i64 a, .int .i64 e]) (gs := []) (M := i) (hr i) (by omega) (by omega) (by simp [idFreeL, AV.idFree, fx]) (by simp) rfl
    rw [hp_full hrr] at hgc ⊢
    clear hKl
    repeat' first
 | (apply s_mov; exact aW)
 | (apply c_nil)
 | (apply s_lss; exact rfl; all_goals (intro _; try (exfalso; omega)))
 | (apply s_pn; exact aO; exact sb _)
 | (apply c_seq)
 | (apply c_reg)
 | (apply c_exitH)
 | (apply c_condF; exact rfl)
 | (with_reducible apply k_c)
    all_goals try (exfalso; omega)
    refine hK _ _ ?_
    exact hgc
def pS (n u v : Nat) (E : Nat → Nat → Int) (x y p q : Nat) : Int := if p = q then 0 else sumTo (fun x' => sumTo (fun y' => if mrN n u v x' = p ∧ mrN n u v y' = q then E x' y' else 0) n) x + sumTo (fun y' => if mrN n u v x = p ∧ mrN n u v y' = q then E x y' else 0) y
theorem pS_step (n u v : Nat) (E : Nat → Nat → Int) (x y p q : Nat) : pS n u v E x (y + 1) p q = if mrN n u v x ≠ mrN n u v y ∧ p = mrN n u v x ∧ q = mrN n u v y then pS n u v E x y p q + E x y else pS n u v E x y p q := by
  unfold pS
  by_cases h : p = q
  · rw [if_pos h, if_pos h, if_neg (by omega)]
  · rw [if_neg h, if_neg h]
    show _ + (sumTo _ y + if mrN n u v x = p ∧ mrN n u v y = q then E x y else 0) = _
    by_cases c : mrN n u v x = p ∧ mrN n u v y = q
    · rw [if_pos c, if_pos (by omega)]; omega
    · rw [if_neg c, if_neg (by omega)]; omega
theorem pS_row (n u v : Nat) (E : Nat → Nat → Int) (x p q : Nat) : pS n u v E x n p q = pS n u v E (x + 1) 0 p q := by
  unfold pS
  by_cases h : p = q
  · rw [if_pos h, if_pos h]
  · rw [if_neg h, if_neg h]
    show _ = (sumTo (fun x' => sumTo (fun y' => if mrN n u v x' = p ∧ mrN n u v y' = q then E x' y' else 0) n) x + sumTo (fun y' => if mrN n u v x = p ∧ mrN n u v y' = q then E x y' else 0) n) + 0
    omega
theorem pS_zero (n u v : Nat) (E : Nat → Nat → Int) (p q : Nat) : pS n u v E 0 0 p q = 0 := by
  unfold pS
  split
  · rfl
  · rfl
theorem pS_all (n u v : Nat) (E : Nat → Nat → Int) (p q : Nat) : pS n u v E n 0 p q = mgS n u v E p q := by
  unfold pS mgS
  split
  · rfl
  · show _ + 0 = _
    omega
theorem pS_bd {n u v : Nat} {E : Nat → Nat → Int} (h10 : n ≤ 10) (hE : ∀ i j, i < n → j < n → 0 ≤ E i j ∧ E i j ≤ 3) {x y : Nat} (hx : x < n) (hy : y ≤ n) (p q : Nat) : -1000 ≤ pS n u v E x y p q ∧ pS n u v E x y p q ≤ 1000 := by
  unfold pS
  split
  · omega
  · have a := sumTo_le (f := fun x' => sumTo (fun y' => if mrN n u v x' = p ∧ mrN n u v y' = q then E x' y' else 0) n) (M := 30) (n := x) fun x' hx' => by
      have := sumTo_le (f := fun y' => if mrN n u v x' = p ∧ mrN n u v y' = q then E x' y' else 0) (M := 3) (n := n) fun y' hy' => by
        have := hE x' y' (by omega) hy'
        split <;> omega
      omega
    have c := sumTo_le (f := fun y' => if mrN n u v x = p ∧ mrN n u v y' = q then E x y' else 0) (M := 3) (n := y) fun y' hy' => by
      have := hE x y' hx (by omega)
      split <;> omega
    omega
theorem LU27 {m N : Nat} {K0 : KT} {X : Nat → KT} {Rt : KT} {res : R} {env : Env} {H : Heap} {x : AV} {B : List (List Int)} {n k u v i : Nat} {T a e : Int} {rows0 : List (List Int)}
    (hN : 100 ≤ N) (hm : 10 ≤ m) (hx : IsLL x B) (hB : IsB B) (hn : B.length = n) (hk : n = k + 1) (hv : v < u) (hu : u < n) (hi : i < n) (hr0 : Rows k rows0) (hv0 : ∀ p q, p < k → q < k → ed rows0 p q = pS n u v (ed B) i 0 p q)
    (h0 : gc 0 (looks env [3, 4, 5, 6, 9, 19, 20, 21, 23, 24]) H = some ([x, .int .i64 (n : Int), .int .i64 (u : Int), .int .i64 (v : Int), .int .i64 T, .int .i64 a, .int .i64 e, .sl 0 1 0 k, .int .i64 (i : Int), .int .i64 0], HB k rows0))
    (hK : ∀ rows, Rows k rows → (∀ p q, p < k → q < k → ed rows p q = pS n u v (ed B) (i + 1) 0 p q) → ∀ env' H', gc 0 (looks env' [3, 4, 5, 6, 9, 19, 20, 21, 23]) H' = some ([x, .int .i64 (n : Int), .int .i64 (u : Int), .int .i64 (v : Int), .int .i64 T, .int .i64 a, .int .i64 e, .sl 0 1 0 k, .int .i64 (i : Int)], HB k rows) → K0 env' H' = res) :
    loopIt N (fun K => evC (evF tab it m) it N lb11_27 0 K (blkX 10 K0 X) Rt) env H = res := by
  have fx := hx.free
  have hn10 := hB.n2
  refine loop_gc (σ := Nat × List (List Int)) (fun s => [x, .int .i64 (n : Int), .int .i64 (u : Int), .int .i64 (v : Int), .int .i64 T, .int .i64 a, .int .i64 e, .sl 0 1 0 k, .int .i64 (i : Int), .int .i64 (s.1 : Int)]) (fun s => HB k s.2) (fun s => s.1 ≤ n ∧ Rows k s.2 ∧ ∀ p q, p < k → q < k → ed s.2 p q = pS n u v (ed B) i s.1 p q) (fun s => n - s.1) ?_ _ (0, rows0) _ _ ⟨by dsimp only; omega, hr0, hv0⟩ (by show n - 0 < _; omega) h0
  clear h0 hv0 hr0
  intro ⟨j, rows⟩ ⟨hj, hr, hvv⟩ K hKl
  dsimp only at hj hr hvv hKl ⊢
  by_cases hjn : j < n
  · have hrow : (getLL B (i : Int)).length = B.length := hB.row i (by omega)
    have hI := hx.at (i := (i : Int)) ⟨by omega, by omega⟩
    have he := (hB.ed i j (by omega) (by omega)).1
    have e45a := fun H => c45 (x := i) (u := u) (v := v) (n := n) (by omega) (by omega) (m := m) (by omega) H
    have e45c := fun H => c45 (x := j) (u := u) (v := v) (n := n) (by omega) (by omega) (m := m) (by omega) H
    have hp : mrN n u v i < k := by have := mrN_lt hv hu hi; omega
    have hq : mrN n u v j < k := by have := mrN_lt hv hu hjn; omega
    have hst := fun p q => pS_step n u v (ed B) i j p q
    have hbd := pS_bd (u := u) (v := v) (E := ed B) (n := n) (by omega) (fun i j hi hj => (hB.ed i j (by omega) (by omega)).1) hi hj (mrN n u v i) (mrN n u v j)
    have hval := hvv _ _ hp hq
    have hval' : getI (getLL rows ((mrN n u v i : Nat) : Int)) ((mrN n u v j : Nat) : Int) = pS n u v (ed B) i j (mrN n u v i) (mrN n u v j) := hval
    generalize mrN n u v i = p at *
    generalize mrN n u v j = q at *
    have l1 := hb_ld hr hp
    have l2 := hb_get hr hp hq
    rw [hval'] at l2
    have hee : ed B i j = getI (getLL B (i : Int)) (j : Int) := rfl
    have st := fun z : Int => hb_st (call := evF tab it m) (x := z) hr hp hq
    have hr' := fun z : Int => setLL_rows (j := q) (x := z) hr hp
    have hK1 := fun rows => hKl (j + 1, rows)
    dsimp only at hK1
    generalize hcall : evF tab it m = call at *
    by_cases hpq : p = q
    · have hnx : ∀ p' q', p' < k → q' < k → ed rows p' q' = pS n u v (ed B) i (j + 1) p' q' := fun p' q' h1 h2 => by
        rw [hst, if_neg (fun h => h.1 hpq)]; exact hvv p' q' h1 h2
      have hgc := gcHB (pre := [x, .int .i64 (n : Int), .int .i64 (u : Int), .int .i64 (v : Int), .int .i64 T, .int .i64 a, .int .i64 e]) (gs := [.int .i64 (i : Int), .int .i64 ((j + 1 : Nat) : Int)]) (M := k) hr (by omega) (by simp [idFreeL, AV.idFree, fx]) (by simp) rfl
      clear hKl hK hvv hst hval hval'
      repeat' first
 | (apply s_mov; exact aW)
 | (apply c_nil)
 | (apply s_lss; exact rfl; all_goals (intro _; try (exfalso; omega)))
 | (apply s_neq; exact rfl; all_goals (intro _; try (exfalso; omega)))
 | (apply s_add; exact rfl; omega)
 | (apply s_cn; exact aO; exact e45a _)
 | (apply s_cn; exact aO; exact e45c _)
 | (apply c_seq)
 | (apply c_reg)
 | (apply c_block)
 | (apply c_skip)
 | (apply c_condT; exact rfl)
 | (apply c_condF; exact rfl)
 | (with_reducible apply k_c)
      all_goals first
        | (exfalso; omega)
        | (refine hK1 rows _ _ ⟨by omega, hr, hnx⟩ (by omega) ?_
           exact hgc)
    · have hnx : ∀ p' q', p' < k → q' < k → ed (setLL rows p q (pS n u v (ed B) i j p q + getI (getLL B (i : Int)) (j : Int))) p' q' = pS n u v (ed B) i (j + 1) p' q' := fun p' q' h1 h2 => by
        show getI (getLL (setLL rows p q (pS n u v (ed B) i j p q + getI (getLL B (i : Int)) (j : Int))) (p' : Int)) (q' : Int) = _
        rw [setLL_get hr hp hq, hst]
        by_cases c : p' = p ∧ q' = q
        · rw [if_pos c, if_pos ⟨hpq, c.1, c.2⟩, c.1, c.2]; rfl
        · rw [if_neg c, if_neg (fun h => c h.2)]; exact hvv p' q' h1 h2
      have hgc := gcHB (pre := [x, .int .i64 (n : Int), .int .i64 (u : Int), .int .i64 (v : Int), .int .i64 T, .int .i64 a, .int .i64 e]) (gs := [.int .i64 (i : Int), .int .i64 ((j + 1 : Nat) : Int)]) (M := k) (hr' (pS n u v (ed B) i j p q + getI (getLL B (i : Int)) (j : Int))) (by omega) (by simp [idFreeL, AV.idFree, fx]) (by simp) rfl
      have hrz := hr' (pS n u v (ed B) i j p q + getI (getLL B (i : Int)) (j : Int))
      clear hKl hK hvv hst hval hval' hr'
      generalize pS n u v (ed B) i j p q = S at *
      repeat' first
 | (apply s_mov; exact aW)
 | (apply c_nil)
 | (apply s_lss; exact rfl; all_goals (intro _; try (exfalso; omega)))
 | (apply s_neq; exact rfl; all_goals (intro _; try (exfalso; omega)))
 | (apply s_add; exact rfl; omega)
 | (apply s_cn; exact aO; exact e45a _)
 | (apply s_cn; exact aO; exact e45c _)
 | (apply s_pn; exact aO; exact p_ixO hp)
 | (apply s_pn; exact aO; exact p_ixO hq)
 | (apply s_pn; exact aO; exact l1)
 | (apply s_pn; exact aO; exact l2)
 | (apply s_st; exact aO; exact (st _))
 | (apply s_idx; exact aW; exact rfl; exact aI; omega)
 | (apply s_idxLL; exact aW; exact rfl; assumption; omega)
 | (apply s_ldI; exact rfl; omega)
 | (apply s_ldLL; exact rfl; assumption; omega)
 | (apply c_seq)
 | (apply c_reg)
 | (apply c_block)
 | (apply c_skip)
 | (apply c_condT; exact rfl)
 | (with_reducible apply k_c)
      all_goals first
        | (exfalso; omega)
        | (refine hK1 _ _ _ ⟨by omega, hrz, hnx⟩ (by omega) ?_
           exact hgc)
  · obtain rfl : j = n := by omega
    have hgc := gcHB (pre := [x, .int .i64 (j : Int), .int .i64 (u : Int), .int .i64 (v : Int), .int .i64 T, .int .i64 a, .int .i64 e]) (gs := [.int .i64 (i : Int)]) (M := k) hr (by omega) (by simp [idFreeL, AV.idFree, fx]) (by simp) rfl
    clear hKl
    repeat' first
 | (apply s_mov; exact aW)
 | (apply c_nil)
 | (apply s_lss; exact rfl; all_goals (intro _; try (exfalso; omega)))
 | (apply c_seq)
 | (apply c_reg)
 | (apply c_exitH)
 | (apply c_condF; exact rfl)
 | (with_reducible apply k_c)
    all_goals first
      | (exfalso; omega)
      | (refine hK rows hr (fun p q h1 h2 => by rw [← pS_row]; exact hvv p q h1 h2) _ _ ?_
         exact hgc)
theorem LU31 {m N : Nat} {K0 : KT} {X : Nat → KT} {Rt : KT} {res : R} {env : Env} {H : Heap} {x : AV} {B : List (List Int)} {n k u v : Nat} {T a e : Int}
    (hN : 100 ≤ N) (hm : 10 ≤ m) (hx : IsLL x B) (hB : IsB B) (hn : B.length = n) (hk : n = k + 1) (hv : v < u) (hu : u < n)
    (h0 : gc 0 (looks env [3, 4, 5, 6, 9, 19, 20, 21, 23]) H = some ([x, .int .i64 (n : Int), .int .i64 (u : Int), .int .i64 (v : Int), .int .i64 T, .int .i64 a, .int .i64 e, .sl 0 1 0 k, .int .i64 0], HB k (List.replicate k (List.replicate k 0))))
    (hK : ∀ rows, Rows k rows → (∀ p q, p < k → q < k → ed rows p q = mgS n u v (ed B) p q) → ∀ env' H', gc 0 (looks env' [4, 9, 19, 20, 21]) H' = some ([.int .i64 (n : Int), .int .i64 T, .int .i64 a, .int .i64 e, .sl 0 1 0 k], HB k rows) → K0 env' H' = res) :
    loopIt N (fun K => evC (evF tab it m) it N lb11_31 0 K (blkX 8 K0 X) Rt) env H = res := by
  have fx := hx.free
  have hn10 := hB.n2
  have hr0 : Rows k (List.replicate k (List.replicate k (0 : Int))) := ⟨by simp, fun r h => by rw [(List.mem_replicate.1 h).2]; simp⟩
  have hz : ∀ p q, p < k → q < k → ed (List.replicate k (List.replicate k (0 : Int))) p q = pS n u v (ed B) 0 0 p q := fun p q h1 h2 => by
    rw [pS_zero]
    show getI (getLL _ (p : Int)) (q : Int) = 0
    rw [getLL_nat, getI_nat]
    simp [List.getD, h1, h2]
  refine loop_gc (σ := Nat × List (List Int)) (fun s => [x, .int .i64 (n : Int), .int .i64 (u : Int), .int .i64 (v : Int), .int .i64 T, .int .i64 a, .int .i64 e, .sl 0 1 0 k, .int .i64 (s.1 : Int)]) (fun s => HB k s.2) (fun s => s.1 ≤ n ∧ Rows k s.2 ∧ ∀ p q, p < k → q < k → ed s.2 p q = pS n u v (ed B) s.1 0 p q) (fun s => n - s.1) ?_ _ (0, List.replicate k (List.replicate k 0)) _ _ ⟨by dsimp only; omega, hr0, hz⟩ (by show n - 0 < _; omega) h0
  clear h0 hr0 hz
  intro ⟨i, rows⟩ ⟨hi, hr, hvv⟩ K hKl
  dsimp only at hi hr hvv hKl ⊢
  have g1 := fun (gs : List AV) (hg : idFreeL gs = true) (rows : List (List Int)) (h : Rows k rows) => gcHB (pre := [x, .int .i64 (n : Int), .int .i64 (u : Int), .int .i64 (v : Int), .int .i64 T, .int .i64 a, .int .i64 e]) (gs := gs) (M := k) h (by omega) (by simp [idFreeL, AV.idFree, fx]) (by simp) hg
  by_cases hin : i < n
  · have hL := fun (K0 : KT) (X : Nat → KT) (Rt : KT) (res : R) (env : Env) (H : Heap) => LU27 (m := m) (N := N) (K0 := K0) (X := X) (Rt := Rt) (res := res) (env := env) (H := H) (i := i) (T := T) (a := a) (e := e) hN hm hx hB hn hk hv hu hin hr hvv
    have hK1 := fun rows => hKl (i + 1, rows)
    dsimp only at hK1
    clear hKl hK hvv
    generalize hcall : evF tab it m = call at *
    repeat' first
 | (apply s_mov; exact aW)
 | (apply c_nil)
 | (apply s_lss; exact rfl; all_goals (intro _; try (exfalso; omega)))
 | (apply c_seq)
 | (apply c_reg)
 | (apply c_block)
 | (apply c_skip)
 | (apply c_condT; exact rfl)
 | (with_reducible apply k_c)
    all_goals try (exfalso; omega)
    refine c_loop ?_
    refine hL _ _ _ _ _ _ ?_ ?_
    · exact g1 [.int .i64 (i : Int), .int .i64 0] rfl rows hr
    intro rows' hr' hv' env' H' hgc
    refine k_c (c_pre hgc ?_)
    repeat' first
 | (apply s_mov; exact aW)
 | (apply c_nil)
 | (apply s_add; exact rfl; omega)
 | (apply c_reg)
    refine hK1 rows' _ _ ⟨by omega, hr', hv'⟩ (by omega) ?_
    exact g1 [.int .i64 ((i + 1 : Nat) : Int)] rfl rows' hr'
  · obtain rfl : i = n := by omega
    clear hKl
    repeat' first
 | (apply s_mov; exact aW)
 | (apply c_nil)
 | (apply s_lss; exact rfl; all_goals (intro _; try (exfalso; omega)))
 | (apply c_seq)
 | (apply c_reg)
 | (apply c_exitH)
 | (apply c_condF; exact rfl)
 | (with_reducible apply k_c)
    all_goals try (exfalso; omega)
    refine hK rows hr (fun p q h1 h2 => by rw [← pS_all]; exact hvv p q h1 h2) _ _ ?_
    exact gcHB (pre := [.int .i64 (i : Int), .int .i64 T, .int .i64 a, .int .i64 e]) (gs := []) (M := k) hr (by omega) rfl (by simp) rfl
theorem LU36 {m N : Nat} {K0 : KT} {X : Nat → KT} {Rt : KT} {res : R} {env : Env} {H : Heap} {n k i : Nat} {T a : Int} {rows : List (List Int)}
    (hN : 100 ≤ N) (hm : 60000 ≤ m) (hk : n = k + 1) (h10 : n ≤ 10) (hr : Rows k rows) (hi : i < k) (ha : a ≤ T)
    (hRt : ∀ env' H', look env' 2 = .bool true → Rt env' H' = res)
    (h0 : gc 0 (looks env [4, 9, 19, 20, 21, 28, 29]) H = some ([.int .i64 (n : Int), .int .i64 T, .int .i64 a, .int .i64 0, .sl 0 1 0 k, .int .i64 (i : Int), .int .i64 0], HB k rows))
    (hK : (∀ q, q < k → ed rows i q ≤ 3) → ∀ env' H', gc 0 (looks env' [4, 9, 19, 20, 21, 28]) H' = some ([.int .i64 (n : Int), .int .i64 T, .int .i64 a, .int .i64 0, .sl 0 1 0 k, .int .i64 (i : Int)], HB k rows) → K0 env' H' = res) :
    loopIt N (fun K => evC (evF tab it m) it N lb11_36 0 K (blkX 14 K0 X) Rt) env H = res := by
  have h25 := fun H => awakeN (m := m) hm H
  have g1 := fun (gs : List AV) (hg : idFreeL gs = true) => gcHB (pre := [.int .i64 (n : Int), .int .i64 T, .int .i64 a, .int .i64 0]) (gs := gs) (M := k) hr (by omega) rfl (by simp) hg
  refine loop_gc (σ := Nat) (fun j => [.int .i64 (n : Int), .int .i64 T, .int .i64 a, .int .i64 0, .sl 0 1 0 k, .int .i64 (i : Int), .int .i64 (j : Int)]) (fun j => HB k rows) (fun j => j ≤ k ∧ ∀ q, q < j → ed rows i q ≤ 3) (fun j => k - j) ?_ _ 0 _ _ ⟨by omega, fun q hq => by omega⟩ (by omega) h0
  clear h0
  intro j ⟨hj, hz⟩ K hKl
  by_cases hjk : j < k
  · have l1 := hb_ld hr hi
    have l2 := hb_get hr hi hjk
    have hK1 := hKl (j + 1)
    generalize hcall : evF tab it m = call at *
    by_cases h3 : ed rows i j ≤ 3
    · have hz2 : ∀ q, q < j + 1 → ed rows i q ≤ 3 := fun q hq => by
        rcases (by omega : q < j ∨ q = j) with h | h
        · exact hz q h
        · rw [h]; exact h3
      have h3' : getI (getLL rows (i : Int)) (j : Int) ≤ 3 := h3
      clear hKl hK hz
      generalize getI (getLL rows (i : Int)) (j : Int) = A at *
      repeat' first
 | (apply s_mov; exact aW)
 | (apply c_nil)
 | (apply s_lss; exact rfl; all_goals (intro _; try (exfalso; omega)))
 | (apply s_gtr; exact rfl; all_goals (intro _; try (exfalso; omega)))
 | (apply s_add; exact rfl; omega)
 | (apply s_sub; exact rfl; omega)
 | (apply s_pn; exact aO; exact p_ixO hi)
 | (apply s_pn; exact aO; exact p_ixO hjk)
 | (apply s_pn; exact aO; exact l1)
 | (apply s_pn; exact aO; exact l2)
 | (apply c_seq)
 | (apply c_reg)
 | (apply c_block)
 | (apply c_skip)
 | (apply c_condT; exact rfl)
 | (apply c_condF; exact rfl)
 | (with_reducible apply k_c)
      all_goals first
        | (exfalso; omega)
        | (refine hK1 _ _ ⟨by omega, hz2⟩ (by omega) ?_
           exact g1 [.int .i64 (i : Int), .int .i64 ((j + 1 : Nat) : Int)] rfl)
    · have h3' : ¬ getI (getLL rows (i : Int)) (j : Int) ≤ 3 := h3
      clear hKl hK hz hK1
      generalize getI (getLL rows (i : Int)) (j : Int) = A at *
      repeat' first
 | (apply s_mov; exact aW)
 | (apply s_gT; exact rfl)
 | (apply c_nil)
 | (apply s_pickT; exact rfl; exact aW)
 | (apply s_lss; exact rfl; all_goals (intro _; try (exfalso; omega)))
 | (apply s_leq; exact rfl; all_goals (intro _; try (exfalso; omega)))
 | (apply s_gtr; exact rfl; all_goals (intro _; try (exfalso; omega)))
 | (apply s_eql; exact rfl; all_goals (intro _; try (exfalso; omega)))
 | (apply s_sub; exact rfl; omega)
 | (apply s_pn; exact aO; exact p_ixO hi)
 | (apply s_pn; exact aO; exact p_ixO hjk)
 | (apply s_pn; exact aO; exact l1)
 | (apply s_pn; exact aO; exact l2)
 | (apply s_cn; exact aO; exact h25 _)
 | (apply c_seq)
 | (apply c_reg)
 | (apply c_block)
 | (apply c_skip)
 | (apply c_ret)
 | (apply c_condT; exact rfl)
 | (with_reducible apply k_c)
      all_goals first
        | (exfalso; omega)
        | exact hRt _ _ rfl
  · obtain rfl : j = k := by omega
    clear hKl
    repeat' first
 | (apply s_mov; exact aW)
 | (apply c_nil)
 | (apply s_lss; exact rfl; all_goals (intro _; try (exfalso; omega)))
 | (apply s_sub; exact rfl; omega)
 | (apply c_seq)
 | (apply c_reg)
 | (apply c_exitH)
 | (apply c_condF; exact rfl)
 | (with_reducible apply k_c)
    all_goals first
      | (exfalso; omega)
      | (refine hK hz _ _ ?_
         exact g1 [.int .i64 (i : Int)] rfl)
theorem LU40 {m N : Nat} {K0 : KT} {X : Nat → KT} {Rt : KT} {res : R} {env : Env} {H : Heap} {n k : Nat} {T a : Int} {rows : List (List Int)}
    (hN : 100 ≤ N) (hm : 60000 ≤ m) (hk : n = k + 1) (h10 : n ≤ 10) (hr : Rows k rows) (ha : a ≤ T)
    (hRt : ∀ env' H', look env' 2 = .bool true → Rt env' H' = res)
    (h0 : gc 0 (looks env [4, 9, 19, 20, 21, 28]) H = some ([.int .i64 (n : Int), .int .i64 T, .int .i64 a, .int .i64 0, .sl 0 1 0 k, .int .i64 0], HB k rows))
    (hK : (∀ p q, p < k → q < k → ed rows p q ≤ 3) → ∀ env' H', gc 0 (looks env' [9, 19, 20, 21]) H' = some ([.int .i64 T, .int .i64 a, .int .i64 0, .sl 0 1 0 k], HB k rows) → K0 env' H' = res) :
    loopIt N (fun K => evC (evF tab it m) it N lb11_40 0 K (blkX 12 K0 X) Rt) env H = res := by
  have g1 := fun (gs : List AV) (hg : idFreeL gs = true) => gcHB (pre := [.int .i64 (n : Int), .int .i64 T, .int .i64 a, .int .i64 0]) (gs := gs) (M := k) hr (by omega) rfl (by simp) hg
  refine loop_gc (σ := Nat) (fun i => [.int .i64 (n : Int), .int .i64 T, .int .i64 a, .int .i64 0, .sl 0 1 0 k, .int .i64 (i : Int)]) (fun i => HB k rows) (fun i => i ≤ k ∧ ∀ p q, p < i → q < k → ed rows p q ≤ 3) (fun i => k - i) ?_ _ 0 _ _ ⟨by omega, fun p q hp hq => by omega⟩ (by omega) h0
  clear h0
  intro i ⟨hi, hz⟩ K hKl
  by_cases hik : i < k
  · have hL := fun (K0 : KT) (X : Nat → KT) (env : Env) (H : Heap) => LU36 (m := m) (N := N) (K0 := K0) (X := X) (Rt := Rt) (res := res) (env := env) (H := H) (T := T) (a := a) hN hm hk h10 hr hik ha hRt
    have hK1 := hKl (i + 1)
    generalize hcall : evF tab it m = call at *
    clear hKl hK
    repeat' first
 | (apply s_mov; exact aW)
 | (apply c_nil)
 | (apply s_lss; exact rfl; all_goals (intro _; try (exfalso; omega)))
 | (apply s_sub; exact rfl; omega)
 | (apply c_seq)
 | (apply c_reg)
 | (apply c_block)
 | (apply c_skip)
 | (apply c_condT; exact rfl)
 | (with_reducible apply k_c)
    all_goals try (exfalso; omega)
    refine c_loop ?_
    refine hL _ _ _ _ ?_ ?_
    · exact g1 [.int .i64 (i : Int), .int .i64 0] rfl
    intro h3 env' H' hgc
    refine k_c (c_pre hgc ?_)
    repeat' first
 | (apply s_mov; exact aW)
 | (apply c_nil)
 | (apply s_add; exact rfl; omega)
 | (apply c_reg)
    refine hK1 _ _ ⟨by omega, fun p q hp hq => ?_⟩ (by omega) ?_
    · rcases (by omega : p < i ∨ p = i) with h | h
      · exact hz p q h hq
      · rw [h]; exact h3 q hq
    · exact g1 [.int .i64 ((i + 1 : Nat) : Int)] rfl
  · obtain rfl : i = k := by omega
    clear hKl
    repeat' first
 | (apply s_mov; exact aW)
 | (apply c_nil)
 | (apply s_lss; exact rfl; all_goals (intro _; try (exfalso; omega)))
 | (apply s_sub; exact rfl; omega)
 | (apply c_seq)
 | (apply c_reg)
 | (apply c_exitH)
 | (apply c_condF; exact rfl)
 | (with_reducible apply k_c)
    all_goals try (exfalso; omega)
    refine hK hz _ _ ?_
    exact gcHB (pre := [.int .i64 T, .int .i64 a, .int .i64 0]) (gs := []) (M := i) hr (by omega) rfl (by simp) rfl
end Go.AM.Ch
