/- A part of the proof: S21. -/
import Derived.Test.YtbjkmejlecoebaaS20
set_option linter.unusedSectionVars false
set_option linter.unusedVariables false
set_option linter.unusedSimpArgs false
namespace Go.AM.Pr
open Go.AM.Num
section
variable {R M : List Int} {n : Int}
theorem gg_hv (M : List Int) (k : Nat) : gg M k * (hv M k / gg M k) = hv M k := Nat.mul_div_cancel' (Nat.gcd_dvd_left _ _)
theorem inv_one {k : Nat} (hm : 1 ≤ mo M k) : ((part M k : Nat) : Int) ∣ ((inv M k : Nat) : Int) * ((hv M k / gg M k : Nat) : Int) - 1 := by
  have hp := part_pos hm
  have hcop : Nat.gcd (hv M k / gg M k % part M k) (part M k) = 1 := by
    rw [← Nat.gcd_rec, Nat.gcd_comm]
    exact Nat.coprime_div_gcd_div_gcd (gg_pos hm)
  obtain ⟨i1, i2, i3⟩ := invOf_spec hp hcop
  have e1 : ((inv M k : Nat) : Int) = invOf (hv M k / gg M k % part M k) (part M k) := Int.toNat_of_nonneg i1
  rw [e1]
  generalize invOf (hv M k / gg M k % part M k) (part M k) = z at *
  generalize hv M k / gg M k = h' at *
  have d : ((part M k : Nat) : Int) ∣ (h' : Int) - ((h' % part M k : Nat) : Int) := ⟨(h' / part M k : Nat), by
    have := Nat.mod_add_div h' (part M k)
    have : ((h' % part M k : Nat) : Int) + (part M k : Int) * ((h' / part M k : Nat) : Int) = (h' : Nat) := by exact_mod_cast this
    omega⟩
  have := Int.dvd_add i3 (Int.dvd_trans d (Int.dvd_mul_left z _))
  rw [Int.mul_sub] at this
  have e : z * ((h' % part M k : Nat) : Int) - 1 + (z * (h' : Int) - z * ((h' % part M k : Nat) : Int)) = z * (h' : Int) - 1 := by omega
  rwa [e] at this
/-- one number's remainders fit -/
theorem rest_step {k : Nat} (hm : 1 ≤ mo M k) (hr : getI R k = n % (mo M k : Int)) (hd : ((hv M k : Nat) : Int) ∣ n - (xs R M k : Nat)) : fit R M k ∧ ((hv M (k + 1) : Nat) : Int) ∣ n - (xs R M (k + 1) : Nat) := by
  have g0 := gg_pos hm
  have hgap : ((gapN R M (xs R M k) k : Nat) : Int) = (n - (xs R M k : Nat)) % (mo M k : Int) := by
    rw [gap_cast hm, hr, Int.emod_sub_emod]
  obtain ⟨w, hw⟩ := hd
  have hgp := gg_part M k
  have hgh := gg_hv M k
  generalize hG : gg M k = g at *
  generalize hH : hv M k / g = h' at *
  generalize hP : part M k = p at *
  -- the gap is g times what is left
  have e1 : ((gapN R M (xs R M k) k : Nat) : Int) = (g : Int) * (h' * w - p * ((n - (xs R M k : Nat)) / (mo M k : Int))) := by
    have := Int.emod_add_mul_ediv (n - (xs R M k : Nat)) (mo M k : Int)
    rw [hgap]
    have a1 : ((mo M k : Nat) : Int) = (g : Int) * (p : Int) := by exact_mod_cast hgp.symm
    have a2 : ((hv M k : Nat) : Int) = (g : Int) * (h' : Int) := by exact_mod_cast hgh.symm
    rw [Int.mul_sub, ← Int.mul_assoc, ← Int.mul_assoc, ← a1, ← a2, ← hw]
    omega
  have hgd : g ∣ gapN R M (xs R M k) k := by
    have : (g : Int) ∣ ((gapN R M (xs R M k) k : Nat) : Int) := ⟨_, e1⟩
    exact_mod_cast this
  refine ⟨by unfold fit; rw [hG]; exact Nat.mod_eq_zero_of_dvd hgd, ?_⟩
  obtain ⟨u, hu⟩ := hgd
  have hu2 : gapN R M (xs R M k) k / g = u := by rw [hu, Nat.mul_div_cancel_left _ g0]
  have e2 : (u : Int) = h' * w - p * ((n - (xs R M k : Nat)) / (mo M k : Int)) := by
    rw [hu] at e1
    push_cast at e1
    exact Int.eq_of_mul_eq_mul_left (by omega) e1
  have hi := inv_one (M := M) (k := k) hm
  rw [hG, hH, hP] at hi
  have ht : tt R M (xs R M k) k = u % p * inv M k % p := by unfold tt; rw [hG, hu2, hP]
  show ((hv M k * part M k : Nat) : Int) ∣ n - ((xs R M k + hv M k * tt R M (xs R M k) k : Nat) : Int)
  rw [hP]
  push_cast
  have e3 : n - ((xs R M k : Int) + (hv M k : Int) * (tt R M (xs R M k) k : Int)) = (hv M k : Int) * (w - (tt R M (xs R M k) k : Int)) := by
    rw [Int.mul_sub, ← hw]; omega
  rw [e3]
  refine Int.mul_dvd_mul_left _ ?_
  -- modulo p, t is w
  have d1 : (p : Int) ∣ (u : Int) * (inv M k : Nat) - (tt R M (xs R M k) k : Nat) := by
    rw [ht]
    have a1 : (p : Int) ∣ ((u % p * inv M k : Nat) : Int) - ((u % p * inv M k % p : Nat) : Int) := ⟨((u % p * inv M k / p : Nat) : Int), by
      have := Nat.mod_add_div (u % p * inv M k) p
      have : ((u % p * inv M k % p : Nat) : Int) + (p : Int) * ((u % p * inv M k / p : Nat) : Int) = ((u % p * inv M k : Nat) : Int) := by exact_mod_cast this
      omega⟩
    have a2 : (p : Int) ∣ ((u : Int) - ((u % p : Nat) : Int)) * (inv M k : Nat) := by
      refine Int.dvd_trans ⟨((u / p : Nat) : Int), ?_⟩ (Int.dvd_mul_right _ _)
      have := Nat.mod_add_div u p
      have : ((u % p : Nat) : Int) + (p : Int) * ((u / p : Nat) : Int) = (u : Int) := by exact_mod_cast this
      omega
    have := Int.dvd_add a2 a1
    rw [Int.sub_mul] at this
    push_cast at this ⊢
    have e : (u : Int) * (inv M k : Int) - (u : Int) % p * (inv M k : Int) + ((u : Int) % p * (inv M k : Int) - (u : Int) % p * (inv M k : Int) % p) = (u : Int) * (inv M k : Int) - (u : Int) % p * (inv M k : Int) % p := by omega
    rwa [e] at this
  have d2 : (p : Int) ∣ w - (u : Int) * (inv M k : Nat) := by
    have a1 := Int.dvd_trans hi (Int.dvd_mul_left w _)
    have a2 : (p : Int) ∣ (p : Int) * ((n - (xs R M k : Nat)) / (mo M k : Int) * (inv M k : Nat)) := ⟨_, rfl⟩
    have := Int.dvd_sub a2 a1
    have e : (p : Int) * ((n - (xs R M k : Nat)) / (mo M k : Int) * (inv M k : Nat)) - w * ((inv M k : Nat) * (h' : Int) - 1) = w - (u : Int) * (inv M k : Nat) := by
      rw [e2, Int.sub_mul, Int.mul_sub, Int.mul_one, Int.mul_assoc (p : Int)]
      have : w * (((inv M k : Nat) : Int) * (h' : Int)) = (h' : Int) * w * ((inv M k : Nat) : Int) := by
        rw [Int.mul_comm ((inv M k : Nat) : Int) (h' : Int), ← Int.mul_assoc, Int.mul_comm w]
      omega
    rwa [e] at this
  have := Int.dvd_add d2 d1
  have e : w - (u : Int) * (inv M k : Nat) + ((u : Int) * (inv M k : Nat) - (tt R M (xs R M k) k : Nat)) = w - (tt R M (xs R M k) k : Nat) := by omega
  rwa [e] at this
theorem rest_all (L : Nat) (hm : ∀ k, k < L → 1 ≤ mo M k) (hr : ∀ k : Nat, k < L → getI R k = n % (mo M k : Int)) : ∀ k, k ≤ L → (∀ i, i < k → fit R M i) ∧ ((hv M k : Nat) : Int) ∣ n - (xs R M k : Nat) := by
  intro k
  induction k with
  | zero => intro _; exact ⟨fun i hi => by omega, by show ((1 : Nat) : Int) ∣ _; exact Int.one_dvd _⟩
  | succ k ih =>
    intro hk
    obtain ⟨h1, h2⟩ := ih (by omega)
    obtain ⟨h3, h4⟩ := rest_step (hm k (by omega)) (hr k (by omega)) h2
    refine ⟨fun i hi => ?_, h4⟩
    rcases (by omega : i < k ∨ i = k) with h | rfl
    · exact h1 i h
    · exact h3
theorem hv_dvd : ∀ (L k : Nat), k ≤ L → hv M k ∣ hv M L := by
  intro L k h
  induction L with
  | zero => have : k = 0 := by omega
            subst this; exact Nat.dvd_refl _
  | succ L ih =>
    rcases (by omega : k ≤ L ∨ k = L + 1) with h | rfl
    · exact Nat.dvd_trans (ih h) ⟨_, hv_succ M L⟩
    · exact Nat.dvd_refl _
theorem mo_dvd {k L : Nat} (hk : k < L) : mo M k ∣ hv M L := by
  refine Nat.dvd_trans ?_ (hv_dvd L (k + 1) (by omega))
  rw [hv_succ]
  have h1 := gg_part M k
  have h2 := gg_hv M k
  refine ⟨hv M k / gg M k, ?_⟩
  conv => lhs; rw [← h2]
  rw [← h1]
  simp only [Nat.mul_comm, Nat.mul_left_comm, Nat.mul_assoc]
theorem hv_5000 (h : ∀ k, mo M k ≤ 5000) : ∀ k, hv M k ≤ 5000 ^ k
  | 0 => by show 1 ≤ 1; omega
  | k + 1 => by
    rw [hv_succ, Nat.pow_succ]
    exact Nat.mul_le_mul (hv_5000 h k) (Nat.le_trans (part_le M k) (h k))
end
end Go.AM.Pr
