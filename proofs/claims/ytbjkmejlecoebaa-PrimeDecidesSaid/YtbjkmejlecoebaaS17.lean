/- A part of the proof: S17. -/
import Derived.Test.YtbjkmejlecoebaaS16
set_option linter.unusedSectionVars false
set_option linter.unusedVariables false
set_option linter.unusedSimpArgs false
namespace Go.AM.Pr
open Go.AM.Num
/-! ### numbers with given remainders, in plain Lean -/
def mo (M : List Int) (i : Nat) : Nat := (getI M i).toNat
def hv (M : List Int) : Nat → Nat
  | 0 => 1
  | k + 1 => hv M k * (mo M k / Nat.gcd (hv M k) (mo M k))
def gg (M : List Int) (k : Nat) : Nat := Nat.gcd (hv M k) (mo M k)
def part (M : List Int) (k : Nat) : Nat := mo M k / gg M k
def gapN (R M : List Int) (x : Nat) (k : Nat) : Nat := ((getI R k - x) % (mo M k : Int)).toNat
def inv (M : List Int) (k : Nat) : Nat := (invOf (hv M k / gg M k % part M k) (part M k)).toNat
def tt (R M : List Int) (x : Nat) (k : Nat) : Nat := gapN R M x k / gg M k % part M k * inv M k % part M k
def xs (R M : List Int) : Nat → Nat
  | 0 => 0
  | k + 1 => xs R M k + hv M k * tt R M (xs R M k) k
def fit (R M : List Int) (k : Nat) : Prop := gapN R M (xs R M k) k % gg M k = 0
instance (R M : List Int) (k : Nat) : Decidable (fit R M k) := by unfold fit; infer_instance
def okAt (R M : List Int) (i : Nat) : Prop := IsRest (getI R i) (getI M i) ∧ hv M (i + 1) ≤ 4611686018427387904
instance (R M : List Int) (k : Nat) : Decidable (okAt R M k) := by unfold okAt; infer_instance
theorem hv_succ (M : List Int) (k : Nat) : hv M (k + 1) = hv M k * part M k := rfl
section
variable {R M : List Int} {k : Nat}
theorem gg_pos (hm : 1 ≤ mo M k) : 1 ≤ gg M k := Nat.gcd_pos_of_pos_right _ hm
theorem gg_part (M : List Int) (k : Nat) : gg M k * part M k = mo M k := Nat.mul_div_cancel' (Nat.gcd_dvd_right _ _)
theorem part_pos (hm : 1 ≤ mo M k) : 1 ≤ part M k := by
  have := gg_part M k
  rcases Nat.eq_zero_or_pos (part M k) with e | e
  · rw [e, Nat.mul_zero] at this; omega
  · exact e
theorem part_le (M : List Int) (k : Nat) : part M k ≤ mo M k := Nat.div_le_self _ _
theorem gg_le (hm : 1 ≤ mo M k) : gg M k ≤ mo M k := Nat.le_of_dvd hm (Nat.gcd_dvd_right _ _)
theorem hv_pos (h : ∀ i, i < k → 1 ≤ mo M i) : 1 ≤ hv M k := by
  induction k with
  | zero => exact Nat.le_refl 1
  | succ k ih => rw [hv_succ]; exact Nat.mul_le_mul (ih fun i hi => h i (by omega)) (part_pos (h k (by omega)))
theorem hv_mono (h : ∀ i, i < k + 1 → 1 ≤ mo M i) : hv M k ≤ hv M (k + 1) := by
  rw [hv_succ]
  exact Nat.le_mul_of_pos_right _ (part_pos (h k (by omega)))
theorem tt_lt (hm : 1 ≤ mo M k) (x : Nat) : tt R M x k < part M k := Nat.mod_lt _ (part_pos hm)
theorem gap_lt (hm : 1 ≤ mo M k) (x : Nat) : gapN R M x k < mo M k := by
  unfold gapN
  have a := Int.emod_nonneg (getI R k - x) (show (mo M k : Int) ≠ 0 by omega)
  have b := Int.emod_lt_of_pos (getI R k - x) (show (0 : Int) < mo M k by omega)
  omega
theorem gap_cast (hm : 1 ≤ mo M k) (x : Nat) : ((gapN R M x k : Nat) : Int) = (getI R k - x) % (mo M k : Int) := by
  unfold gapN
  exact Int.toNat_of_nonneg (Int.emod_nonneg _ (by omega))
theorem xs_lt (h : ∀ i, i < k → 1 ≤ mo M i) : xs R M k < hv M k := by
  induction k with
  | zero => exact Nat.zero_lt_one
  | succ k ih =>
    have h1 := ih fun i hi => h i (by omega)
    have h2 := tt_lt (R := R) (h k (by omega)) (xs R M k)
    rw [hv_succ]
    show xs R M k + hv M k * tt R M (xs R M k) k < _
    have := Nat.mul_le_mul_left (hv M k) (show tt R M (xs R M k) k + 1 ≤ part M k by omega)
    rw [Nat.mul_add] at this
    omega
/-- both inverses are one -/
theorem inv_eq {iv : Int} (hm : 1 ≤ mo M k) (h : (mo M k : Int) ∣ iv * ((hv M k % mo M k : Nat) : Int) - (gg M k : Nat)) : iv % (part M k : Int) = (inv M k : Nat) := by
  have hp := part_pos hm
  have hg := gg_pos hm
  have hgp := gg_part M k
  have hgh : gg M k ∣ hv M k := Nat.gcd_dvd_left _ _
  have hh : gg M k * (hv M k / gg M k) = hv M k := Nat.mul_div_cancel' hgh
  have hcop : Nat.gcd (hv M k / gg M k % part M k) (part M k) = 1 := by
    rw [← Nat.gcd_rec, Nat.gcd_comm]
    exact Nat.coprime_div_gcd_div_gcd hg
  obtain ⟨i1, i2, i3⟩ := invOf_spec hp hcop
  have e1 : ((inv M k : Nat) : Int) = invOf (hv M k / gg M k % part M k) (part M k) := Int.toNat_of_nonneg i1
  have e2 : invOf (hv M k / gg M k % part M k) (part M k) % (part M k : Int) = invOf (hv M k / gg M k % part M k) (part M k) := Int.emod_eq_of_lt i1 i2
  rw [e1, ← e2]
  generalize invOf (hv M k / gg M k % part M k) (part M k) = z at *
  generalize hH : hv M k / gg M k = h' at *
  refine inv_uniq (a := (h' : Int)) (by omega) ?_ ?_
  · have s1 : (mo M k : Int) ∣ iv * (hv M k : Nat) - (gg M k : Nat) := by
      have d : (mo M k : Int) ∣ ((hv M k : Nat) : Int) - ((hv M k % mo M k : Nat) : Int) := ⟨(hv M k / mo M k : Nat), by
        have := Nat.mod_add_div (hv M k) (mo M k)
        have : ((hv M k % mo M k : Nat) : Int) + (mo M k : Int) * ((hv M k / mo M k : Nat) : Int) = (hv M k : Nat) := by exact_mod_cast this
        omega⟩
      have := Int.dvd_add h (Int.dvd_trans d (Int.dvd_mul_left iv _))
      rw [Int.mul_sub] at this
      have e : iv * ((hv M k % mo M k : Nat) : Int) - (gg M k : Nat) + (iv * ((hv M k : Nat) : Int) - iv * ((hv M k % mo M k : Nat) : Int)) = iv * (hv M k : Nat) - (gg M k : Nat) := by omega
      rwa [e] at this
    have s2 : ((gg M k : Nat) : Int) * ((part M k : Nat) : Int) ∣ ((gg M k : Nat) : Int) * (iv * (h' : Int) - 1) := by
      have a1 : ((gg M k : Nat) : Int) * ((part M k : Nat) : Int) = (mo M k : Nat) := by exact_mod_cast hgp
      have a2 : ((gg M k : Nat) : Int) * (h' : Int) = (hv M k : Nat) := by exact_mod_cast hh
      have a3 : ((gg M k : Nat) : Int) * (iv * (h' : Int) - 1) = iv * (hv M k : Nat) - (gg M k : Nat) := by
        rw [Int.mul_sub, Int.mul_left_comm, a2, Int.mul_one]
      rw [a1, a3]
      exact s1
    exact Int.dvd_of_mul_dvd_mul_left (by omega) s2
  · have d : ((part M k : Nat) : Int) ∣ (h' : Int) - ((h' % part M k : Nat) : Int) := ⟨(h' / part M k : Nat), by
      have := Nat.mod_add_div h' (part M k)
      have : ((h' % part M k : Nat) : Int) + (part M k : Int) * ((h' / part M k : Nat) : Int) = (h' : Nat) := by exact_mod_cast this
      omega⟩
    have := Int.dvd_add i3 (Int.dvd_trans d (Int.dvd_mul_left z _))
    rw [Int.mul_sub] at this
    have e : z * ((h' % part M k : Nat) : Int) - 1 + (z * (h' : Int) - z * ((h' % part M k : Nat) : Int)) = z * (h' : Int) - 1 := by omega
    rwa [e] at this
end
end Go.AM.Pr
