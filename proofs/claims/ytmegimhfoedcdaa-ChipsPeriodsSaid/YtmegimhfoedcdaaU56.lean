/- A part of the proof: P21 E9 U45 U46 U66 E13 E14 U56. -/
import Derived.Test.YtmegimhfoedcdaaP18
import Derived.Test.YtmegimhfoedcdaaD2
import Derived.Test.YtmegimhfoedcdaaE10
import Derived.Test.YtmegimhfoedcdaaU34
import Derived.Test.YtmegimhfoedcdaaU36
import Derived.Test.YtmegimhfoedcdaaU53a
import Derived.Test.YtmegimhfoedcdaaU53
import Derived.Test.YtmegimhfoedcdaaU24
set_option linter.unusedSectionVars false
set_option linter.unusedVariables false
set_option linter.unusedSimpArgs false
namespace Go.AM.Ch
section
variable {R M : List Int} {n : Int}
theorem gg_hv (M : List Int) (k : Nat) : gg M k * (hv M k / gg M k) = hv M k := Nat.mul_div_cancel' (Nat.gcd_dvd_left _ _)
theorem inv_one {k : Nat} (hm : 1 ≤ mo M k) : ((part M k : Nat) : Int) ∣ ((inv M k : Nat) : Int) * ((hv M k / gg M k : Nat) : Int) - 1 := by
  have hp := part_pos hm
  have hcop : Nat.gcd (hv M k / gg M k % part M k) (part M k) = 1 := by
    rw [← Nat.gcd_rec, Nat.gcd_comm]
    exact Nat.coprime_div_gcd_div_gcd (gg_pos hm)
  obtain ⟨i1, i2, i3⟩ := invOf_spec hp hcop
  have e1 : ((inv M k : Nat) : Int) = invOf (hv M k / gg M k % part M k) (part M k) := Int.toNat_of_nonneg i1
  rw [e1]
  generalize invOf (hv M k / gg M k % part M k) (part M k) = z at *
  generalize hv M k / gg M k = h' at *
  have d : ((part M k : Nat) : Int) ∣ (h' : Int) - ((h' % part M k : Nat) : Int) := ⟨(h' / part M k : Nat), by
    have := Nat.mod_add_div h' (part M k)
    have : ((h' % part M k : Nat) : Int) + (part M k : Int) * ((h' / part M k : Nat) : Int) = (h' : Nat) := by exact_mod_cast this
    omega⟩
  have := Int.dvd_add i3 (Int.dvd_trans d (Int.dvd_mul_left z _))
  rw [Int.mul_sub] at this
  have e : z * ((h' % part M k : Nat) : Int) - 1 + (z * (h' : Int) - z * ((h' % part M k : Nat) : Int)) = z * (h' : Int) - 1 := by omega
  rwa [e] at this
/-- one number's remainders fit -/
theorem rest_step {k : Nat} (hm : 1 ≤ mo M k) (hr : getI R k = n % (mo M k : Int)) (hd : ((hv M k : Nat) : Int) ∣ n - (xs R M k : Nat)) : fit R M k ∧ ((hv M (k + 1) : Nat) : Int) ∣ n - (xs R M (k + 1) : Nat) := by
  have g0 := gg_pos hm
  have hgap : ((gapN R M (xs R M k) k : Nat) : Int) = (n - (xs R M k : Nat)) % (mo M k : Int) := by
    rw [gap_cast hm, hr, Int.emod_sub_emod]
  obtain ⟨w, hw⟩ := hd
  have hgp := gg_part M k
  have hgh := gg_hv M k
  generalize hG : gg M k = g at *
  generalize hH : hv M k / g = h' at *
  generalize hP : part M k = p at *
  -- the gap is g times what is left
  have e1 : ((gapN R M (xs R M k) k : Nat) : Int) = (g : Int) * (h' * w - p * ((n - (xs R M k : Nat)) / (mo M k : Int))) := by
    have := Int.emod_add_mul_ediv (n - (xs R M k : Nat)) (mo M k : Int)
    rw [hgap]
    have a1 : ((mo M k : Nat) : Int) = (g : Int) * (p : Int) := by exact_mod_cast hgp.symm
    have a2 : ((hv M k : Nat) : Int) = (g : Int) * (h' : Int) := by exact_mod_cast hgh.symm
    rw [Int.mul_sub, ← Int.mul_assoc, ← Int.mul_assoc, ← a1, ← a2, ← hw]
    omega
  have hgd : g ∣ gapN R M (xs R M k) k := by
    have : (g : Int) ∣ ((gapN R M (xs R M k) k : Nat) : Int) := ⟨_, e1⟩
    exact_mod_cast this
  refine ⟨by unfold fit; rw [hG]; exact Nat.mod_eq_zero_of_dvd hgd, ?_⟩
  obtain ⟨u, hu⟩ := hgd
  have hu2 : gapN R M (xs R M k) k / g = u := by rw [hu, Nat.mul_div_cancel_left _ g0]
  have e2 : (u : Int) = h' * w - p * ((n - (xs R M k : Nat)) / (mo M k : Int)) := by
    rw [hu] at e1
    push_cast at e1
    exact Int.eq_of_mul_eq_mul_left (by omega) e1
  have hi := inv_one (M := M) (k := k) hm
  rw [hG, hH, hP] at hi
  have ht : tt R M (xs R M k) k = u % p * inv M k % p := by unfold tt; rw [hG, hu2, hP]
  show ((hv M k * part M k : Nat) : Int) ∣ n - ((xs R M k + hv M k * tt R M (xs R M k) k : Nat) : Int)
  rw [hP]
  push_cast
  have e3 : n - ((xs R M k : Int) + (hv M k : Int) * (tt R M (xs R M k) k : Int)) = (hv M k : Int) * (w - (tt R M (xs R M k) k : Int)) := by
    rw [Int.mul_sub, ← hw]; omega
  rw [e3]
  refine Int.mul_dvd_mul_left _ ?_
  -- modulo p, t is w
  have d1 : (p : Int) ∣ (u : Int) * (inv M k : Nat) - (tt R M (xs R M k) k : Nat) := by
    rw [ht]
    have a1 : (p : Int) ∣ ((u % p * inv M k : Nat) : Int) - ((u % p * inv M k % p : Nat) : Int) := ⟨((u % p * inv M k / p : Nat) : Int), by
      have := Nat.mod_add_div (u % p * inv M k) p
      have : ((u % p * inv M k % p : Nat) : Int) + (p : Int) * ((u % p * inv M k / p : Nat) : Int) = ((u % p * inv M k : Nat) : Int) := by exact_mod_cast this
      omega⟩
    have a2 : (p : Int) ∣ ((u : Int) - ((u % p : Nat) : Int)) * (inv M k : Nat) := by
      refine Int.dvd_trans ⟨((u / p : Nat) : Int), ?_⟩ (Int.dvd_mul_right _ _)
      have := Nat.mod_add_div u p
      have : ((u % p : Nat) : Int) + (p : Int) * ((u / p : Nat) : Int) = (u : Int) := by exact_mod_cast this
      omega
    have := Int.dvd_add a2 a1
    rw [Int.sub_mul] at this
    push_cast at this ⊢
    have e : (u : Int) * (inv M k : Int) - (u : Int) % p * (inv M k : Int) + ((u : Int) % p * (inv M k : Int) - (u : Int) % p * (inv M k : Int) % p) = (u : Int) * (inv M k : Int) - (u : Int) % p * (inv M k : Int) % p := by omega
    rwa [e] at this
  have d2 : (p : Int) ∣ w - (u : Int) * (inv M k : Nat) := by
    have a1 := Int.dvd_trans hi (Int.dvd_mul_left w _)
    have a2 : (p : Int) ∣ (p : Int) * ((n - (xs R M k : Nat)) / (mo M k : Int) * (inv M k : Nat)) := ⟨_, rfl⟩
    have := Int.dvd_sub a2 a1
    have e : (p : Int) * ((n - (xs R M k : Nat)) / (mo M k : Int) * (inv M k : Nat)) - w * ((inv M k : Nat) * (h' : Int) - 1) = w - (u : Int) * (inv M k : Nat) := by
      rw [e2, Int.sub_mul, Int.mul_sub, Int.mul_one, Int.mul_assoc (p : Int)]
      have : w * (((inv M k : Nat) : Int) * (h' : Int)) = (h' : Int) * w * ((inv M k : Nat) : Int) := by
        rw [Int.mul_comm ((inv M k : Nat) : Int) (h' : Int), ← Int.mul_assoc, Int.mul_comm w]
      omega
    rwa [e] at this
  have := Int.dvd_add d2 d1
  have e : w - (u : Int) * (inv M k : Nat) + ((u : Int) * (inv M k : Nat) - (tt R M (xs R M k) k : Nat)) = w - (tt R M (xs R M k) k : Nat) := by omega
  rwa [e] at this
theorem rest_all (L : Nat) (hm : ∀ k, k < L → 1 ≤ mo M k) (hr : ∀ k : Nat, k < L → getI R k = n % (mo M k : Int)) : ∀ k, k ≤ L → (∀ i, i < k → fit R M i) ∧ ((hv M k : Nat) : Int) ∣ n - (xs R M k : Nat) := by
  intro k
  induction k with
  | zero => intro _; exact ⟨fun i hi => by omega, by show ((1 : Nat) : Int) ∣ _; exact Int.one_dvd _⟩
  | succ k ih =>
    intro hk
    obtain ⟨h1, h2⟩ := ih (by omega)
    obtain ⟨h3, h4⟩ := rest_step (hm k (by omega)) (hr k (by omega)) h2
    refine ⟨fun i hi => ?_, h4⟩
    rcases (by omega : i < k ∨ i = k) with h | rfl
    · exact h1 i h
    · exact h3
end
/-- both primes -/
theorem crt2 {N : Int} (h0 : 0 ≤ N) (h1 : N < 4611685975477714963) : comR [N % 2147483647, N % 2147483629] [2147483647, 2147483629] = [.int .i64 N, .int .i64 4611685975477714963, .int .i64 0] := by
  have m0 : mo [2147483647, 2147483629] 0 = 2147483647 := by unfold mo; rw [getI_nat]; rfl
  have m1 : mo [2147483647, 2147483629] 1 = 2147483629 := by unfold mo; rw [getI_nat]; rfl
  have r0 : getI [N % 2147483647, N % 2147483629] ((0 : Nat) : Int) = N % 2147483647 := by rw [getI_nat]; rfl
  have r1 : getI [N % 2147483647, N % 2147483629] ((1 : Nat) : Int) = N % 2147483629 := by rw [getI_nat]; rfl
  have k0 : getI [2147483647, 2147483629] ((0 : Nat) : Int) = 2147483647 := by rw [getI_nat]; rfl
  have k1 : getI [2147483647, 2147483629] ((1 : Nat) : Int) = 2147483629 := by rw [getI_nat]; rfl
  have hv1 : hv [2147483647, 2147483629] 1 = 2147483647 := by simp only [hv, m0]; decide
  have hv2 : hv [2147483647, 2147483629] 2 = 4611685975477714963 := by simp only [hv, m0, m1]; decide
  have hm : ∀ k, k < 2 → 1 ≤ mo [2147483647, 2147483629] k := fun k hk => by
    rcases (by omega : k = 0 ∨ k = 1) with rfl | rfl
    · rw [m0]; omega
    · rw [m1]; omega
  obtain ⟨hfit, hd⟩ := rest_all (R := [N % 2147483647, N % 2147483629]) (M := [2147483647, 2147483629]) (n := N) 2 hm (fun k hk => by
    rcases (by omega : k = 0 ∨ k = 1) with rfl | rfl
    · rw [m0, r0]; rfl
    · rw [m1, r1]; rfl) 2 (Nat.le_refl _)
  have hx := xs_lt (R := [N % 2147483647, N % 2147483629]) (M := [2147483647, 2147483629]) (k := 2) fun i hi => hm i hi
  rw [hv2] at hd hx
  have hok : okAll [N % 2147483647, N % 2147483629] [2147483647, 2147483629] := ⟨⟨rfl, by show (2 : Nat) ≤ 32; omega⟩, fun i hi => by
    have hi2 : i < 2 := hi
    rcases (by omega : i = 0 ∨ i = 1) with rfl | rfl
    · refine ⟨?_, by rw [hv1]; omega⟩
      rw [r0, k0]
      unfold IsRest IsNum
      omega
    · refine ⟨?_, by rw [hv2]; omega⟩
      rw [r1, k1]
      unfold IsRest IsNum
      omega⟩
  unfold comR
  have hfit' : ∀ i, i < [N % 2147483647, N % 2147483629].length → fit [N % 2147483647, N % 2147483629] [2147483647, 2147483629] i := fun i hi => hfit i hi
  rw [if_pos hok, if_pos hfit']
  have hl : ([N % 2147483647, N % 2147483629] : List Int).length = 2 := rfl
  rw [hl, hv2]
  generalize xs [N % 2147483647, N % 2147483629] [2147483647, 2147483629] 2 = X at *
  have : N = X := by
    obtain ⟨q, hq⟩ := hd
    omega
  rw [← this]
  rfl

end Go.AM.Ch

set_option linter.unusedSectionVars false
set_option linter.unusedVariables false
set_option linter.unusedSimpArgs false
namespace Go.AM.Ch
attribute [local go_sem] gc subHeap reach_skip ren_free reach_new reach_newp reach_end rangeL roots boxCells nodupB posOf renL AV.ren pickO renH renO looks look bindEnv envOf reach_int reach_bool reach_nilS reach_rd putRow cells_sl cells_int cells_bool cells_nilS cells_rd cells_agg reach_agg reach_tup idFreeL idf_sl idf_ptr idf_int idf_bool idf_nilS idf_rd reach_fn reach_mp cells_fn cells_ptr cells_mp idf_mp idf_fn idf_agg idf_tup
set_option maxHeartbeats 8000000
/-! ### Trees -/
theorem f29 {x : AV} {b : List (List Int)} (hx : IsLL x b) (hl : b.length < 100) {m : Nat} (hm : 2200 ≤ m) :
    evF tab it m 29 [x] [] = some (.tup [.int .i64 (if IsB b then trN b else 0), .int .i64 (if IsB b then 0 else 2)], []) := by
  obtain ⟨m, rfl⟩ : ∃ j, m = j + 1 := ⟨m - 1, by omega⟩
  have fx := hx.free
  have e60 := fun H => c60 hx hl (m := m) (by omega) H
  by_cases hB : IsB b
  · rw [decide_eq_true hB] at e60
    rw [if_pos hB, if_pos hB]
    have e61a := fun H => callPure_free (H := H) (call := evF tab it m) (f := 61) (args := [x, .int .i64 2147483647]) (by simp [idFreeL, AV.idFree, fx]) (by simp) (f61 hx hB (p := 2147483647) (by omega) nd1 (m := m) (by omega)) rfl
    have e61b := fun H => callPure_free (H := H) (call := evF tab it m) (f := 61) (args := [x, .int .i64 2147483629]) (by simp [idFreeL, AV.idFree, fx]) (by simp) (f61 hx hB (p := 2147483629) (by omega) nd2 (m := m) (by omega)) rfl
    have ht := trN_le hB
    have hcr := crt2 (N := trN b) (by omega) (by omega)
    have iP : IsL (.rd 1 2 (iL [2147483647, 2147483629])) [2147483647, 2147483629] := rd_isL rfl
    have iR : IsL (.rd 1 2 (iL [trN b % 2147483647, trN b % 2147483629])) [trN b % 2147483647, trN b % 2147483629] := rd_isL rfl
    have e62 : callPure (evF tab it m) true 62 [.sl 0 1 0 2, .rd 1 2 (iL [2147483647, 2147483629])] [some (.data (iL [trN b % 2147483647, trN b % 2147483629]))] = some (.tup [.int .i64 (trN b), .int .i64 4611685975477714963, .int .i64 0], [some (.data (iL [trN b % 2147483647, trN b % 2147483629]))]) := by
      have f := f62 iR iP (m := m) (by omega)
      rw [hcr] at f
      exact callPure_own (frzL_cons (frz_sl rfl rfl) (frzL_cons rfl frzL_nil)) f rfl (by simp) rfl
    have bl2 : ∀ call H, evE call H (.bldS true true 1 2 [.int .i64 0] [(0, 1), (1, 1)]) [.int .i64 2147483647, .int .i64 2147483629] = some (.rd 1 2 (iL [2147483647, 2147483629]), H) := fun call H => rfl
    have bl1 : ∀ call H (a : Int), evE call H (.bldS true true 1 1 [.int .i64 0] [(0, 1)]) [.int .i64 a] = some (.rd 1 1 (iL [a]), H) := fun call H a => rfl
    have ap0 : ∀ call (a : Int), evE call [] (.app false 1 8) [.nilS, .rd 1 1 (iL [a])] = some (.sl 0 1 0 1, [some (.data (iL [a]))]) := fun call a => e_app_nil rfl (by omega) (by decide)
    have ap1 : ∀ call (c a : Int), evE call [some (.data (iL [c]))] (.app false 1 8) [.sl 0 1 0 1, .rd 1 1 (iL [a])] = some (.sl 1 1 0 2, [none, some (.data (iL [c, a]))]) := fun call c a => e_app_sl (q := 8) (id := 0) (H := [some (.data (iL [c]))]) (cs := iL [c]) (bs := iL [a]) (n := 1) (k := 1) rfl rfl (by omega) (by decide)
    have hr1 := trN b % 2147483647
    refine f_enter rfl rfl ?_
    generalize trN b % 2147483647 = r1 at *
    generalize trN b % 2147483629 = r2 at *
    generalize trN b = T at *
    generalize evF tab it m = call at *
    repeat' first
 | (apply s_mov; (focus ((conv => lhs; whnf); done)))
 | (apply c_nil)
 | (apply s_notT; exact rfl)
 | (apply s_cn; (focus (repeat (first | apply opds_nil | (apply opds_cons; (first | (focus ((conv => lhs; whnf); done)) | exact rfl))))); exact e60 _)
 | (apply s_en; (focus (repeat (first | apply opds_nil | (apply opds_cons; (first | (focus ((conv => lhs; whnf); done)) | exact rfl))))); exact bl2 _ _)
 | (apply s_len; (focus ((conv => lhs; whnf); done)); (first | assumption | (apply IsLL.at; assumption; omega)))
 | (apply c_seq)
 | (apply c_reg)
 | (apply c_block)
 | (apply c_skip)
 | (apply c_condF; exact rfl)
 | (with_reducible apply k_c)
    all_goals try (exfalso; omega)
    refine c_loop ?_
    refine loop_gc (σ := Nat) (fun k => [x, .rd 1 2 (iL [2147483647, 2147483629]), if k = 0 then .nilS else .sl 0 1 0 k, .rd 1 2 (iL [2147483647, 2147483629]), .int .i64 2, .int .i64 (k : Int)]) (fun k => if k = 0 then [] else if k = 1 then [some (.data (iL [r1]))] else [some (.data (iL [r1, r2]))]) (fun k => k ≤ 2) (fun k => 2 - k) ?_ _ 0 _ _ (by omega) (by omega) (by rw [if_pos rfl, if_pos rfl]; exact gc_to rfl (by simp [idFreeL, AV.idFree, fx]))
    intro k hk K hK
    rcases (by omega : k = 0 ∨ k = 1 ∨ k = 2) with rfl | rfl | rfl
    · have hK1 := hK 1
      simp only [if_true, if_false, show ¬ (1 : Nat) = 0 by omega] at hK1 ⊢
      clear hK
      have l0 : ∀ H, evP H (.ld false 1) [.rp (iL [2147483647, 2147483629])] = some (.int .i64 2147483647) := fun H => rfl
      have i0 : ∀ H, evP H (.idxA 1) [.rd 1 2 (iL [2147483647, 2147483629]), .int .i64 ((0 : Nat) : Int)] = some (.rp (iL [2147483647, 2147483629])) := fun H => rfl
      repeat' first
 | (apply s_mov; (focus ((conv => lhs; whnf); done)))
 | (apply c_nil)
 | ((first | apply s_lss | apply s_leq | apply s_gtr | apply s_geq | apply s_eql | apply s_neq); exact rfl; all_goals (intro _; try (exfalso; omega)))
 | ((first | apply s_add | apply s_sub); exact rfl; omega)
 | (apply s_pn; (focus (repeat (first | apply opds_nil | (apply opds_cons; (first | (focus ((conv => lhs; whnf); done)) | exact rfl))))); exact i0 _)
 | (apply s_pn; (focus (repeat (first | apply opds_nil | (apply opds_cons; (first | (focus ((conv => lhs; whnf); done)) | exact rfl))))); exact l0 _)
 | (apply s_cn; (focus (repeat (first | apply opds_nil | (apply opds_cons; (first | (focus ((conv => lhs; whnf); done)) | exact rfl))))); exact e61a _)
 | (apply s_en; (focus (repeat (first | apply opds_nil | (apply opds_cons; (first | (focus ((conv => lhs; whnf); done)) | exact rfl))))); exact bl1 _ _ _)
 | (apply s_en; (focus (repeat (first | apply opds_nil | (apply opds_cons; (first | (focus ((conv => lhs; whnf); done)) | exact rfl))))); exact ap0 _ _)
 | (apply c_seq)
 | (apply c_reg)
 | (apply c_block)
 | (apply c_skip)
 | (apply c_condT; exact rfl)
 | (with_reducible apply k_c)
      all_goals try (exfalso; omega)
      refine hK1 _ _ (by omega) (by omega) ?_
      exact (by simp [go_sem, fx, iL]; done)
    · have hK1 := hK 2
      simp only [if_true, if_false, show ¬ (1 : Nat) = 0 by omega, show ¬ (2 : Nat) = 0 by omega, show ¬ (2 : Nat) = 1 by omega] at hK1 ⊢
      clear hK
      have l0 : ∀ H, evP H (.ld false 1) [.rp (iL [2147483629])] = some (.int .i64 2147483629) := fun H => rfl
      have i0 : ∀ H, evP H (.idxA 1) [.rd 1 2 (iL [2147483647, 2147483629]), .int .i64 ((1 : Nat) : Int)] = some (.rp (iL [2147483629])) := fun H => rfl
      repeat' first
 | (apply s_mov; (focus ((conv => lhs; whnf); done)))
 | (apply c_nil)
 | ((first | apply s_lss | apply s_leq | apply s_gtr | apply s_geq | apply s_eql | apply s_neq); exact rfl; all_goals (intro _; try (exfalso; omega)))
 | ((first | apply s_add | apply s_sub); exact rfl; omega)
 | (apply s_pn; (focus (repeat (first | apply opds_nil | (apply opds_cons; (first | (focus ((conv => lhs; whnf); done)) | exact rfl))))); exact i0 _)
 | (apply s_pn; (focus (repeat (first | apply opds_nil | (apply opds_cons; (first | (focus ((conv => lhs; whnf); done)) | exact rfl))))); exact l0 _)
 | (apply s_cn; (focus (repeat (first | apply opds_nil | (apply opds_cons; (first | (focus ((conv => lhs; whnf); done)) | exact rfl))))); exact e61b _)
 | (apply s_en; (focus (repeat (first | apply opds_nil | (apply opds_cons; (first | (focus ((conv => lhs; whnf); done)) | exact rfl))))); exact bl1 _ _ _)
 | (apply s_en; (focus (repeat (first | apply opds_nil | (apply opds_cons; (first | (focus ((conv => lhs; whnf); done)) | exact rfl))))); exact ap1 _ _ _)
 | (apply c_seq)
 | (apply c_reg)
 | (apply c_block)
 | (apply c_skip)
 | (apply c_condT; exact rfl)
 | (with_reducible apply k_c)
      all_goals try (exfalso; omega)
      refine hK1 _ _ (by omega) (by omega) ?_
      exact (by simp [go_sem, fx, iL]; done)
    · simp only [if_false, show ¬ (2 : Nat) = 0 by omega, show ¬ (2 : Nat) = 1 by omega]
      clear hK
      repeat' first
 | (apply c_nil)
 | ((first | apply s_lss | apply s_leq | apply s_gtr | apply s_geq | apply s_eql | apply s_neq); exact rfl; all_goals (intro _; try (exfalso; omega)))
 | (apply c_seq)
 | (apply c_reg)
 | (apply c_exitH)
 | (apply c_condF; exact rfl)
 | (with_reducible apply k_c)
      all_goals try (exfalso; omega)
      refine c_pre (vs := [.rd 1 2 (iL [2147483647, 2147483629]), .sl 0 1 0 2]) (H' := [some (.data (iL [r1, r2]))]) (by simp [go_sem, iL]; done) ?_
      repeat' first
 | (apply s_mov; (focus ((conv => lhs; whnf); done)))
 | (apply c_nil)
 | (apply s_cn; (focus (repeat (first | apply opds_nil | (apply opds_cons; (first | (focus ((conv => lhs; whnf); done)) | exact rfl))))); exact e62)
 | (apply s_pd; (focus ((conv => lhs; whnf); done)))
 | (apply c_seq)
 | (apply c_reg)
 | (apply c_ret)
 | (with_reducible apply k_c)
      exact fin_tt (by (conv => lhs; whnf)) (by (conv => lhs; whnf)) (by rfl) (by rfl) rfl
  · rw [decide_eq_false hB] at e60
    rw [if_neg hB, if_neg hB]
    refine f_enter rfl rfl ?_
    generalize evF tab it m = call at *
    repeat' first
 | (apply s_mov; (focus ((conv => lhs; whnf); done)))
 | (apply c_nil)
 | (apply s_notF; exact rfl)
 | (apply s_cn; (focus (repeat (first | apply opds_nil | (apply opds_cons; (first | (focus ((conv => lhs; whnf); done)) | exact rfl))))); exact e60 _)
 | (apply c_seq)
 | (apply c_reg)
 | (apply c_ret)
 | (apply c_condT; exact rfl)
 | (with_reducible apply k_c)
    exact fin_tt (by (conv => lhs; whnf)) (by (conv => lhs; whnf)) (by rfl) (by rfl) rfl
theorem c29 {x : AV} {b : List (List Int)} (hx : IsLL x b) (hl : b.length < 100) {m : Nat} (hm : 2200 ≤ m) (H : Heap) :
    callPure (evF tab it m) true 29 [x] H = some (.tup [.int .i64 (if IsB b then trN b else 0), .int .i64 (if IsB b then 0 else 2)], H) :=
  callPure_free (by simp [idFreeL, hx.free]) (by simp) (f29 hx hl hm) rfl
end Go.AM.Ch

set_option linter.unusedSectionVars false
set_option linter.unusedVariables false
set_option linter.unusedSimpArgs false
namespace Go.AM.Ch
attribute [local go_sem] gc subHeap reach_skip ren_free reach_new reach_newp reach_end rangeL roots boxCells nodupB posOf renL AV.ren pickO renH renO looks look bindEnv envOf reach_int reach_bool reach_nilS reach_rd putRow cells_sl cells_int cells_bool cells_nilS cells_rd cells_agg reach_agg reach_tup idFreeL idf_sl idf_ptr idf_int idf_bool idf_nilS idf_rd reach_fn reach_mp cells_fn cells_ptr cells_mp idf_mp idf_fn idf_agg idf_tup
set_option maxHeartbeats 8000000
/-- twice a list plus another one, many times -/
def pl2 (a c : List Int) (k : Int) : List Int := (List.range a.length).map fun (i : Nat) => 2 * getI a (i : Int) + k * getI c (i : Int)
theorem pl2_len (a c : List Int) (k : Int) : (pl2 a c k).length = a.length := by simp [pl2]
theorem pl2_get {a c : List Int} {k : Int} {i : Nat} (h : i < a.length) : getI (pl2 a c k) (i : Int) = 2 * getI a (i : Int) + k * getI c (i : Int) := by
  rw [getI_nat]
  simp [pl2, List.getD, h]
/-! the upper digits of a number -/
def topZ (a : Int) (j : Nat) : Int := if a < 0 then -((a.natAbs / 2 ^ j : Nat) : Int) else ((a.natAbs / 2 ^ j : Nat) : Int)
def digZ (a : Int) (j : Nat) : Int := if a < 0 then -((a.natAbs / 2 ^ j % 2 : Nat) : Int) else ((a.natAbs / 2 ^ j % 2 : Nat) : Int)
theorem topZ_step (a : Int) (j : Nat) : topZ a j = 2 * topZ a (j + 1) + digZ a j := by
  have h : a.natAbs / 2 ^ (j + 1) = a.natAbs / 2 ^ j / 2 := by rw [Nat.pow_succ, Nat.div_div_eq_div_mul]
  unfold topZ digZ
  rw [h]
  split <;> omega
theorem topZ_big {a : Int} (h : -1048576 ≤ a ∧ a ≤ 1048576) : topZ a 41 = 0 := by
  have e : (2 : Nat) ^ 41 = 2199023255552 := by decide
  have : a.natAbs / 2 ^ 41 = 0 := Nat.div_eq_of_lt (by rw [e]; omega)
  unfold topZ
  rw [this]
  split <;> rfl
theorem topZ_le {a : Int} (h : -1048576 ≤ a ∧ a ≤ 1048576) (j : Nat) : -1048576 ≤ topZ a j ∧ topZ a j ≤ 1048576 := by
  have h1 : a.natAbs / 2 ^ j ≤ a.natAbs := Nat.div_le_self _ _
  have h2 : a.natAbs ≤ 1048576 := by omega
  unfold topZ
  generalize a.natAbs / 2 ^ j = N at *
  split <;> omega
theorem digZ_le (a : Int) (j : Nat) : -1 ≤ digZ a j ∧ digZ a j ≤ 1 := by
  unfold digZ
  generalize a.natAbs / 2 ^ j = N at *
  split <;> omega
def topL (s : List Int) (j : Nat) : List Int := s.map fun a => topZ a j
def digL (s : List Int) (j : Nat) : List Int := s.map fun a => digZ a j
theorem topL_get {s : List Int} {j v : Nat} (h : v < s.length) : getI (topL s j) (v : Int) = topZ (getI s (v : Int)) j := by
  rw [getI_nat, getI_nat]; simp [topL, List.getD, h]
theorem digL_get {s : List Int} {j v : Nat} (h : v < s.length) : getI (digL s j) (v : Int) = digZ (getI s (v : Int)) j := by
  rw [getI_nat, getI_nat]; simp [digL, List.getD, h]
/-- one more digit -/
theorem apl_digit {b : List (List Int)} (hB : IsB b) {s T : List Int} (hs : s.length = b.length) (hT : T.length = b.length) (j : Nat) : pl2 (apl b (topL s (j + 1)) T) (digL s j) 1 = apl b (topL s j) (pl2 T T 0) := by
  refine ext_getI (by rw [pl2_len, apl_len, apl_len]) fun i hi => ?_
  rw [pl2_len, apl_len] at hi
  rw [pl2_get (by rw [apl_len]; exact hi), apl_ap hB _ _ hi, apl_ap hB _ _ hi, digL_get (by omega)]
  have e1 : gf (topL s (j + 1)) i = topZ (getI s (i : Int)) (j + 1) := topL_get (by omega)
  have e2 : gf (topL s j) i = topZ (getI s (i : Int)) j := topL_get (by omega)
  have e3 : net b.length (ed b) (gf (pl2 T T 0)) i = 2 * net b.length (ed b) (gf T) i := by
    rw [← net_mul]
    exact net_congr hi fun k hk => by
      have := pl2_get (a := T) (c := T) (k := 0) (i := k) (by omega)
      unfold gf
      rw [this, Int.zero_mul]
      omega
  have e4 := topZ_step (getI s (i : Int)) j
  unfold ap
  rw [e1, e2, e3, e4]
  omega
end Go.AM.Ch

set_option linter.unusedSectionVars false
set_option linter.unusedVariables false
set_option linter.unusedSimpArgs false
namespace Go.AM.Ch
attribute [local go_sem] gc subHeap reach_skip ren_free reach_new reach_newp reach_end rangeL roots boxCells nodupB posOf renL AV.ren pickO renH renO looks look bindEnv envOf reach_int reach_bool reach_nilS reach_rd putRow cells_sl cells_int cells_bool cells_nilS cells_rd cells_agg reach_agg reach_tup idFreeL idf_sl idf_ptr idf_int idf_bool idf_nilS idf_rd reach_fn reach_mp cells_fn cells_ptr cells_mp idf_mp idf_fn idf_agg idf_tup
set_option maxHeartbeats 8000000
/-- what is known of the list of the upper digits -/
structure DigOk (b : List (List Int)) (s : List Int) (q j : Nat) (N : List Int) : Prop where
  len : N.length = b.length
  eqv : ∃ T : List Int, T.length = b.length ∧ N = apl b (topL s j) T
  red : j < 41 → Red b.length (ed b) q (gf N)
  low : ∀ v, v < b.length → v ≠ q → 0 ≤ gf N v ∧ gf N v ≤ 30
theorem DigOk.own {b : List (List Int)} (hB : IsB b) {s : List Int} (hs : InR b.length 1048576 s) {q : Nat} (hq : q < b.length) {j : Nat} {N : List Int} (h : DigOk b s q j N) : ∀ v : Nat, v < b.length → -10486060 ≤ getI N (v : Int) ∧ getI N (v : Int) ≤ 10486060 := fun v hv => by
  by_cases e : v = q
  · subst e
    obtain ⟨T, hT, rfl⟩ := h.eqv
    have := at_q (gr_of hB) hq hB.n2 (l := gf (topL s j)) (t := gf T) (M := 1048576) (by decide) (fun w hw => by
      have e2 : gf (topL s j) w = topZ (getI s (w : Int)) j := topL_get (by rw [hs.1]; exact hw)
      rw [e2]
      exact topZ_le (inR_get hs w hw) j) (P := 30) (by decide) (fun w hw hwq => by
      rw [← apl_ap hB _ _ hw]
      have := h.low w hw hwq
      unfold gf at this
      omega)
    rw [apl_ap hB _ _ hv]
    omega
  · have := h.low v hv e
    unfold gf at this
    omega
theorem DigOk.near {b : List (List Int)} (hB : IsB b) {s : List Int} (hs : InR b.length 1048576 s) {q : Nat} (hq : q < b.length) {j : Nat} {N : List Int} (h : DigOk b s q (j + 1) N) : Near b.length q (pl2 N (digL s j) 1) := by
  refine ⟨by rw [pl2_len]; exact h.len, fun v hv hvq => ?_, ?_⟩
  · rw [pl2_get (by rw [h.len]; exact hv), digL_get (by rw [hs.1]; exact hv)]
    have := h.low v hv hvq
    have := digZ_le (getI s (v : Int)) j
    unfold gf at *
    omega
  · rw [pl2_get (by rw [h.len]; exact hq), digL_get (by rw [hs.1]; exact hq)]
    have := h.own hB hs hq q hq
    have := digZ_le (getI s (q : Int)) j
    omega
theorem DigOk.next {b : List (List Int)} (hB : IsB b) {s : List Int} (hs : InR b.length 1048576 s) {q : Nat} (hq : q < b.length) {j : Nat} {N : List Int} (h : DigOk b s q (j + 1) N) : DigOk b s q j (redL b (pl2 N (digL s j) 1) q) := by
  obtain ⟨T, hT, he⟩ := h.eqv
  have hr := redL_red hB (pl2 N (digL s j) 1) hq
  have hl := (redT_ok hB (pl2 N (digL s j) 1) hq).1
  have hn2 := hB.n2
  refine ⟨redL_len _ _ _, ⟨pl (pl2 T T 0) (redT b (pl2 N (digL s j) 1) q), by rw [pl_len, pl2_len]; exact hT, ?_⟩, fun _ => hr, fun v hv hvq => ?_⟩
  · unfold redL
    have e : pl2 N (digL s j) 1 = apl b (topL s j) (pl2 T T 0) := by rw [he]; exact apl_digit hB hs.1 hT j
    conv => lhs; arg 2; rw [e]
    exact apl_pl hB (by rw [pl2_len]; exact hT)
  · have := red_lt (gr_of hB) hr hv hvq
    omega
theorem DigOk.first {b : List (List Int)} (hB : IsB b) {s : List Int} (hs : InR b.length 1048576 s) (q : Nat) : DigOk b s q 41 (List.replicate b.length 0) := by
  have hz : topL s 41 = List.replicate b.length 0 := list_zero (by simp [topL, hs.1]) fun v hv => by rw [topL_get (by rw [hs.1]; exact hv)]; exact topZ_big (inR_get hs v hv)
  refine ⟨by simp, ⟨List.replicate b.length 0, by simp, by rw [hz]; exact (apl_zero hB (by simp)).symm⟩, fun h => by omega, fun v hv _ => ?_⟩
  have e : gf (List.replicate b.length 0) v = 0 := by unfold gf; rw [getI_nat]; simp [List.getD, hv]
  omega
end Go.AM.Ch

set_option linter.unusedSectionVars false
set_option linter.unusedVariables false
set_option linter.unusedSimpArgs false
namespace Go.AM.Ch
set_option maxHeartbeats 8000000
/-- sum -/
theorem f63 {x : AV} {l : List Int} (hx : IsL x l) (hl : l.length ≤ 1000) (hb : ∀ j : Nat, j < l.length → -1099511627776 ≤ getI l (j : Int) ∧ getI l (j : Int) ≤ 1099511627776) {m : Nat} (hm : 1010 ≤ m) : evF tab it m 63 [x] [] = some (.int .i64 (sumTo (gf l) l.length), []) := by
  obtain ⟨m, rfl⟩ : ∃ j, m = j + 1 := ⟨m - 1, by omega⟩
  have fx := hx.free
  have lx : ∀ H, evP H .len [x] = some (.int .i64 ((l.length : Nat) : Int)) := fun H => p_lenI hx
  refine f_enter rfl rfl ?_
  generalize evF tab it m = call at *
  repeat' first
 | (apply s_mov; (focus ((conv => lhs; whnf); done)))
 | (apply c_nil)
 | (apply s_pn; (focus (repeat (first | apply opds_nil | (apply opds_cons; (first | (focus ((conv => lhs; whnf); done)) | exact rfl))))); exact lx _)
 | (apply c_seq)
 | (apply c_reg)
 | (apply c_block)
 | (with_reducible apply k_c)
  refine c_loop ?_
  refine loop_gc (σ := Nat) (fun i => [.int .i64 (sumTo (fun j => getI l (j : Int)) i), x, .int .i64 ((l.length : Nat) : Int), .int .i64 (i : Int)]) (fun _ => []) (fun i => i ≤ l.length) (fun i => l.length - i) ?_ _ 0 _ _ (by omega) (by omega) (gc_to rfl (by simp [idFreeL, AV.idFree, *]; done))
  intro i hi K hK
  have hbd := sumTo_le (f := fun j => getI l (j : Int)) (M := 1099511627776) (n := i) fun j hj => hb j (by omega)
  by_cases hil : i < l.length
  · have hgi := hb i hil
    repeat' first
 | (apply s_mov; (focus ((conv => lhs; whnf); done)))
 | (apply c_nil)
 | ((first | apply s_lss | apply s_leq | apply s_gtr | apply s_geq | apply s_eql | apply s_neq); exact rfl; all_goals (intro _; try (exfalso; omega)))
 | ((first | apply s_add | apply s_sub); exact rfl; omega)
 | (apply s_idx; (focus ((conv => lhs; whnf); done)); exact rfl; (first | assumption | (apply IsLL.at; assumption; omega)); omega)
 | (apply s_ldI; exact rfl; omega)
 | (apply c_seq)
 | (apply c_reg)
 | (apply c_block)
 | (apply c_skip)
 | (apply c_condT; exact rfl)
 | (with_reducible apply k_c)
    all_goals exact hK (i + 1) _ _ (by omega) (by omega) (gc_to rfl (by simp [idFreeL, AV.idFree, *]; done))
  · obtain rfl : i = l.length := by omega
    repeat' first
 | (apply s_mov; (focus ((conv => lhs; whnf); done)))
 | (apply c_nil)
 | ((first | apply s_lss | apply s_leq | apply s_gtr | apply s_geq | apply s_eql | apply s_neq); exact rfl; all_goals (intro _; try (exfalso; omega)))
 | (apply c_seq)
 | (apply c_reg)
 | (apply c_exitH)
 | (apply c_ret)
 | (apply c_condF; exact rfl)
 | (apply c_preF; (focus (repeat (first | apply looks_nil | (apply looks_cons; (focus ((conv => lhs; whnf); done)))))); (focus (simp [idFreeL, AV.idFree, *]; done)))
 | (with_reducible apply k_c)
    exact fin_t (v := .int .i64 (sumTo (gf l) l.length)) (by rfl) (by rfl) rfl
theorem c63 {x : AV} {l : List Int} (hx : IsL x l) (hl : l.length ≤ 1000) (hb : ∀ j : Nat, j < l.length → -1099511627776 ≤ getI l (j : Int) ∧ getI l (j : Int) ≤ 1099511627776) {m : Nat} (hm : 1010 ≤ m) (H : Heap) : callPure (evF tab it m) true 63 [x] H = some (.int .i64 (sumTo (gf l) l.length), H) :=
  callPure_free (by simp [idFreeL, hx.free]) (by simp) (f63 hx hl hb hm) rfl
end Go.AM.Ch

set_option linter.unusedSectionVars false
set_option linter.unusedVariables false
set_option linter.unusedSimpArgs false
namespace Go.AM.Ch
set_option maxHeartbeats 8000000
/-! ### Period -/
theorem f30 {x y : AV} {b : List (List Int)} {s : List Int} (hx : IsLL x b) (hy : IsL y s) (hl : b.length < 100) (hs : s.length ≤ 1000) {m : Nat} (hm : smK + 30 ≤ m) (hm2 : 10200000 ≤ m) :
    evF tab it m 30 [x, y] [] = some (.tup (if IsB b ∧ InR b.length 1048576 s then (if sumTo (gf s) b.length = 0 then [.int .i64 (ordS b s : Int), .int .i64 0] else [.int .i64 0, .int .i64 6]) else [.int .i64 0, .int .i64 2]), []) := by
  obtain ⟨m, rfl⟩ : ∃ j, m = j + 1 := ⟨m - 1, by omega⟩
  have hK := smK_big
  have fx := hx.free; have fy := hy.free
  have e52 := fun H => c52 hx hy hl hs (m := m) (by omega) H
  by_cases hBI : IsB b ∧ InR b.length 1048576 s
  · obtain ⟨hB, hI⟩ := hBI
    have hBI : IsB b ∧ InR b.length 1048576 s := ⟨hB, hI⟩
    rw [if_pos hBI] at e52 ⊢
    have hn1 := hB.n1
    have hsl := hI.1
    have hsv := fun v hv => inR_get hI v hv
    have e63 := fun H => c63 hy hs (fun j hj => by have := hsv j (by omega); omega) (m := m) (by omega) H
    rw [hsl] at e63
    by_cases h0 : sumTo (gf s) b.length = 0
    · rw [if_pos h0]
      rw [h0] at e63
      have e29 := fun H => c29 hx hl (m := m) (by omega) H
      rw [if_pos hB, if_pos hB] at e29
      have e54 := fun H => c54 (q := 0) hx hy hB hI hn1 (m := m) (by omega) H
      have hTl := (redT_ok hB s hn1).1
      have hT := redT_le hB hn1 (M := 1048576) (by omega) (l := s) fun v hv h0 => by have := hsv v hv; omega
      have e55 := fun H => c55 hx hy (rd_isL hTl) hB.bd hsl hTl (fun v hv => by have := hT v hv; omega) (fun v hv => by have := hsv v hv; omega) (m := m) (by omega) H
      rw [apl_len] at e55
      have er : apl b s (redT b s 0) = redL b s 0 := rfl
      rw [er] at e55
      have ht := trN_le hB
      obtain ⟨o1, o2⟩ := ordS_spec hB h0
      have hoN : ordS b s ∣ (trN b).toNat := by
        have := ordS_tr hB h0
        rw [← Int.toNat_of_nonneg (show 0 ≤ trN b by omega)] at this
        exact Int.natCast_dvd_natCast.1 this
      have f := f64 (m := m) (o := ordS b s) (N := (trN b).toNat) hx hB (rz_of hB h0) o1 (ordS_red hB h0) ⟨by omega, by omega⟩ hoN (by omega) (by omega)
      rw [Int.toNat_of_nonneg (show 0 ≤ trN b by omega)] at f
      have e64 := fun H => callPure_free (H := H) (by simp [idFreeL, AV.idFree, fx]) (by simp) f rfl
      clear f o2 hoN hT hsv
      refine f_enter rfl rfl ?_
      generalize evF tab it m = call at *
      generalize trN b = T at *
      generalize ordS b s = O at *
      repeat' first
 | (apply s_mov; (focus ((conv => lhs; whnf); done)))
 | (apply c_nil)
 | ((first | apply s_lss | apply s_leq | apply s_gtr | apply s_geq | apply s_eql | apply s_neq); exact rfl; all_goals (intro _; try (exfalso; omega)))
 | (apply s_cn; (focus (repeat (first | apply opds_nil | (apply opds_cons; (first | (focus ((conv => lhs; whnf); done)) | exact rfl))))); exact e52 _)
 | (apply s_cn; (focus (repeat (first | apply opds_nil | (apply opds_cons; (first | (focus ((conv => lhs; whnf); done)) | exact rfl))))); exact e63 _)
 | (apply s_cn; (focus (repeat (first | apply opds_nil | (apply opds_cons; (first | (focus ((conv => lhs; whnf); done)) | exact rfl))))); exact e29 _)
 | (apply s_cn; (focus (repeat (first | apply opds_nil | (apply opds_cons; (first | (focus ((conv => lhs; whnf); done)) | exact rfl))))); exact e54 _)
 | (apply s_cn; (focus (repeat (first | apply opds_nil | (apply opds_cons; (first | (focus ((conv => lhs; whnf); done)) | exact rfl))))); exact e55 _)
 | (apply s_cn; (focus (repeat (first | apply opds_nil | (apply opds_cons; (first | (focus ((conv => lhs; whnf); done)) | exact rfl))))); exact e64 _)
 | (apply s_pd; (focus ((conv => lhs; whnf); done)))
 | (apply c_seq)
 | (apply c_reg)
 | (apply c_skip)
 | (apply c_ret)
 | (apply c_condF; exact rfl)
 | (with_reducible apply k_c)
      all_goals first
        | (exfalso; omega)
        | exact fin_tt (by (conv => lhs; whnf)) (by (conv => lhs; whnf)) (by rfl) (by rfl) rfl
    · rw [if_neg h0]
      refine f_enter rfl rfl ?_
      generalize evF tab it m = call at *
      generalize sumTo (gf s) b.length = S at *
      repeat' first
 | (apply s_mov; (focus ((conv => lhs; whnf); done)))
 | (apply c_nil)
 | ((first | apply s_lss | apply s_leq | apply s_gtr | apply s_geq | apply s_eql | apply s_neq); exact rfl; all_goals (intro _; try (exfalso; omega)))
 | (apply s_cn; (focus (repeat (first | apply opds_nil | (apply opds_cons; (first | (focus ((conv => lhs; whnf); done)) | exact rfl))))); exact e52 _)
 | (apply s_cn; (focus (repeat (first | apply opds_nil | (apply opds_cons; (first | (focus ((conv => lhs; whnf); done)) | exact rfl))))); exact e63 _)
 | (apply c_seq)
 | (apply c_reg)
 | (apply c_skip)
 | (apply c_ret)
 | (apply c_condT; exact rfl)
 | (apply c_condF; exact rfl)
 | (with_reducible apply k_c)
      all_goals first
        | (exfalso; omega)
        | exact fin_tt (by (conv => lhs; whnf)) (by (conv => lhs; whnf)) (by rfl) (by rfl) rfl
  · rw [if_neg hBI] at e52 ⊢
    refine f_enter rfl rfl ?_
    generalize evF tab it m = call at *
    repeat' first
 | (apply s_mov; (focus ((conv => lhs; whnf); done)))
 | (apply c_nil)
 | ((first | apply s_lss | apply s_leq | apply s_gtr | apply s_geq | apply s_eql | apply s_neq); exact rfl; all_goals (intro _; try (exfalso; omega)))
 | (apply s_cn; (focus (repeat (first | apply opds_nil | (apply opds_cons; (first | (focus ((conv => lhs; whnf); done)) | exact rfl))))); exact e52 _)
 | (apply c_seq)
 | (apply c_reg)
 | (apply c_ret)
 | (apply c_condT; exact rfl)
 | (with_reducible apply k_c)
    all_goals first
      | (exfalso; omega)
      | exact fin_tt (by (conv => lhs; whnf)) (by (conv => lhs; whnf)) (by rfl) (by rfl) rfl
end Go.AM.Ch

set_option linter.unusedSectionVars false
set_option linter.unusedVariables false
set_option linter.unusedSimpArgs false
namespace Go.AM.Ch
set_option maxHeartbeats 8000000
/-! ### a state of sum 0 -/
theorem c34t {x : AV} {b : List (List Int)} {w : Nat} (hx : IsLL x b) (hb : b.length < 9223372036854775808) (hw : 1 ≤ w ∧ w ≤ 10) {m : Nat} (hm : 100 ≤ m) (H : Heap) :
    callPure (evF tab it m) true 34 [x, .int .i64 (w : Int)] H = some (fzLL (growL b w), H) :=
  callPure_frz (by simp [idFreeL, AV.idFree, hx.free]) (by simp) (f34 hx hb hw hm) (hb_frz (growL_rows b w) (grN_le b hw.1).1 (by have := (grN_le b hw.1).2; omega))
def balL (s : List Int) : List Int := s.set 0 (getI s 0 - sumI s)
theorem balL_len (s : List Int) : (balL s).length = s.length := by simp [balL]
theorem balL_get {s : List Int} (h : 0 < s.length) (v : Nat) : gf (balL s) v = if v = 0 then gf s 0 - sumTo (gf s) s.length else gf s v := by
  show getI (s.set 0 _) (v : Int) = _
  rw [getI_set h]
  rfl
theorem balL_sum {s : List Int} (h : 0 < s.length) : sumTo (gf (balL s)) s.length = 0 := by
  obtain ⟨n, hn⟩ : ∃ n, s.length = n + 1 := ⟨s.length - 1, by omega⟩
  have hg := balL_get h
  have e1 : sumTo (fun j => gf (balL s) (j + 1)) n = sumTo (fun j => gf s (j + 1)) n := sumTo_congr fun j hj => by rw [hg, if_neg (by omega)]
  have e2 := sumTo_front' (gf s) n
  rw [hn, sumTo_front', e1, hg, if_pos rfl, hn]
  omega
theorem balL_bd {s : List Int} {w : Int} (h : 0 < s.length) (hl : s.length ≤ 10) (hw : 0 ≤ w) (hb : ∀ v : Nat, v < s.length → -w ≤ getI s (v : Int) ∧ getI s (v : Int) ≤ w) : ∀ v : Nat, v < s.length → -(11 * w) ≤ getI (balL s) (v : Int) ∧ getI (balL s) (v : Int) ≤ 11 * w := fun v hv => by
  have hs := sumTo_le (f := gf s) (M := w) (n := s.length) hb
  have h1 : (s.length : Int) * w ≤ 10 * w := Int.mul_le_mul_of_nonneg_right (by omega) hw
  have hg := balL_get h v
  have e : gf (balL s) v = getI (balL s) (v : Int) := rfl
  have h0 := hb 0 h
  have e0 : gf s 0 = getI s ((0 : Nat) : Int) := rfl
  rw [← e, hg]
  split
  · omega
  · have := hb v hv
    have e2 : gf s v = getI s (v : Int) := rfl
    omega
theorem c32p {id n : Nat} {l : List Int} (hn : l.length = n) (hl : l.length ≤ 1000) (hb : ∀ v ∈ l, -1099511627776 ≤ v ∧ v ≤ 1099511627776) {m : Nat} (hm : 1010 ≤ m) {H : Heap} (h : H.data? id = some (iL l)) : callPure (evF tab it m) true 32 [.sl id 1 0 n] H = some (.int .i64 (sumI l), H) := by
  have f := f32 (rd_isL hn) hl hb hm
  exact callPure_own (frzL_cons (frz_sl h hn) frzL_nil) f rfl (by simp) rfl
theorem c30p {x : AV} {b : List (List Int)} {s : List Int} {id : Nat} (hx : IsLL x b) (hl : b.length < 100) (hs : s.length ≤ 1000) (hsn : s.length = b.length) (hB : IsB b) (hI : InR b.length 1048576 s) (h0 : sumTo (gf s) b.length = 0) {m : Nat} (hm : smK + 30 ≤ m) (hm2 : 10200000 ≤ m) {H : Heap} (h : H.data? id = some (iL s)) :
    callPure (evF tab it m) true 30 [x, .sl id 1 0 b.length] H = some (.tup [.int .i64 (ordS b s : Int), .int .i64 0], H) := by
  have f := f30 hx (rd_isL hsn) hl hs hm hm2
  rw [if_pos ⟨hB, hI⟩, if_pos h0] at f
  exact callPure_own (frzL_cons (frzV_of hx.free) (frzL_cons (frz_sl h hsn) frzL_nil)) f rfl (by simp) rfl
theorem c20p {x : AV} {b : List (List Int)} {s : List Int} {id : Nat} (hx : IsLL x b) (hB : IsB b) (hs : InR b.length 1048576 s) {m : Nat} (hm : smK + 23 ≤ m) {H : Heap} (h : H.data? id = some (iL s)) :
    callPure (evF tab it m) true 20 [x, .sl id 1 0 b.length, .int .i64 0] H = some (.tup [.rd 1 b.length (iL (redL b s 0)), .rd 1 b.length (iL (redT b s 0)), .int .i64 0], H) := by
  have hn1 := hB.n1
  have f := f20 (q := 0) hx (rd_isL hs.1) hB hs hn1 hm
  exact callPure_own (frzL_cons (frzV_of hx.free) (frzL_cons (frz_sl h hs.1) (frzL_cons rfl frzL_nil))) f rfl (by simp [HO.hasRd, iL_noRd]) (frz_setA (apl_len _ _ _) (redT_ok hB s hn1).1)
theorem c22p {x : AV} {a c : List Int} {n id : Nat} (hx : IsL x a) (ha : a.length < 100) (hc : c.length = n) {m : Nat} (hm : 102 ≤ m) {H : Heap} (h : H.data? id = some (iL c)) :
    callPure (evF tab it m) true 22 [x, .sl id 1 0 n] H = some (.bool (decide (a = c)), H) :=
  callPure_own (frzL_cons (frzV_of hx.free) (frzL_cons (frz_sl h hc) frzL_nil)) (f22 hx (rd_isL hc) ha m hm) rfl (by simp) rfl
/-- a multiple -/
def mulL (k : Int) (s : List Int) (i : Nat) : List Int := (List.range i).map fun (v : Nat) => k * getI s (v : Int)
theorem mulL_len (k : Int) (s : List Int) (i : Nat) : (mulL k s i).length = i := by simp [mulL]
theorem mulL_get {k : Int} {s : List Int} {i v : Nat} (h : v < i) : gf (mulL k s i) v = k * gf s v := by
  show getI (mulL k s i) (v : Int) = k * getI s (v : Int)
  rw [getI_nat]
  simp [mulL, List.getD, h]
theorem mulL_succ (k : Int) (s : List Int) (i : Nat) : mulL k s (i + 1) = mulL k s i ++ [k * getI s (i : Int)] := by
  unfold mulL
  rw [List.range_succ, List.map_append]
  rfl
theorem mulL_red {b : List (List Int)} (hB : IsB b) {s : List Int} (hs : sumTo (gf s) b.length = 0) (k : Int) : redL b (mulL k s b.length) 0 = zer b.length ↔ (ordS b s : Int) ∣ k := by
  rw [← (ordS_spec hB hs).2 k]
  have h1 := zer_iff hB (mulL k s b.length)
  have h2 : Eq0 b (gf (mulL k s b.length)) ↔ Eq0 b (fun v => k * gf s v) := ⟨fun h => h.congr fun v hv => mulL_get hv, fun h => h.congr fun v hv => (mulL_get hv).symm⟩
  rw [← h2, ← h1]
  constructor
  · intro h v _
    rw [h, zer_get]
  · intro h
    refine ext_getI (by rw [redL_len]; simp [zer]) fun i hi => ?_
    rw [redL_len] at hi
    have e := h i hi
    have e2 := zer_get b.length i
    have e3 : getI (redL b (mulL k s b.length) 0) (i : Int) = 0 := e
    have e4 : getI (zer b.length) (i : Int) = 0 := e2
    rw [e3, e4]
end Go.AM.Ch

set_option linter.unusedSectionVars false
set_option linter.unusedVariables false
set_option linter.unusedSimpArgs false
namespace Go.AM.Ch
theorem ty_rowsB {k : Nat} {cs : List AV} (h : TyAV T k 22 cs) : ∃ x l, cs = [x] ∧ IsLL x l ∧ l.length < 2 ^ 63 := by
  cases k with
  | zero => exact h.elim
  | succ k =>
    obtain ⟨s, hs, hm⟩ := h
    rw [T22] at hs; cases hs
    rcases hm with rfl | ⟨len, cells, se, h1, rfl, h3, h5, h4⟩
    · exact ⟨_, [], rfl, .nil, by simp⟩
    · rw [T23] at h1; cases h1
      simp only [Nat.mul_one] at h3 h4
      have key : ∀ (cs : List AV), (∀ i, i < cs.length → ∃ l, IsL (cs.getD i .undef) l) → ∃ ll : List (List Int), cs.length = ll.length ∧ ∀ i, i < ll.length → IsL (cs.getD i .undef) (ll.getD i []) := by
        intro cs
        induction cs with
        | nil => intro _; exact ⟨[], rfl, fun i hi => by simp at hi⟩
        | cons c cs ih =>
          intro h
          obtain ⟨l, hl⟩ := h 0 (by simp)
          obtain ⟨ll, h1, h2⟩ := ih fun i hi => by simpa using h (i + 1) (by simpa using hi)
          refine ⟨l :: ll, by simp [h1], fun i hi => ?_⟩
          cases i with
          | zero => simpa using hl
          | succ i => simpa using h2 i (by simpa using hi)
      obtain ⟨ll, e1, e2⟩ := key cells fun i hi => by
        obtain ⟨x, l, hx, hl⟩ := ty_ints (h4 i (by omega))
        rw [take1 hi] at hx
        simp only [List.cons.injEq, and_true] at hx
        exact ⟨l, by rw [hx]; exact hl⟩
      have e3 : len = ll.length := by omega
      subst e3
      exact ⟨_, ll, rfl, .rd cells ll e1 e2, h5⟩
theorem arg_rowsB {k : Nat} {x : AV} (h : TyArg T k 22 x) : ∃ l, IsLL x l ∧ l.length < 9223372036854775808 := by
  rcases h with ⟨s, xs, hs, ha, _⟩ | ⟨s, hs, ha, h⟩
  · rw [T22] at hs; cases hs; cases ha
  · obtain ⟨y, l, hy, hl, hb⟩ := ty_rowsB h
    simp only [List.cons.injEq, and_true] at hy
    exact ⟨l, by rw [hy]; exact hl, hb⟩
end Go.AM.Ch
