/- A part of the proof: TC1. -/
import Derived.Test.YtdgkchedoooffaaM3
set_option linter.unusedVariables false
set_option linter.unusedSimpArgs false
set_option linter.unusedSectionVars false
namespace Go.AM.Tb
def sQ : Nat → (Nat → Rat) → Rat
  | 0, _ => 0
  | n + 1, f => sQ n f + f n
def pQ : Nat → (Nat → Rat) → Rat
  | 0, _ => 1
  | n + 1, f => pQ n f * f n
theorem sQ_congr {f g : Nat → Rat} : ∀ n, (∀ i, i < n → f i = g i) → sQ n f = sQ n g
  | 0, _ => rfl
  | n + 1, h => by rw [sQ, sQ, sQ_congr n fun i hi => h i (by omega), h n (by omega)]
theorem pQ_congr {f g : Nat → Rat} : ∀ n, (∀ i, i < n → f i = g i) → pQ n f = pQ n g
  | 0, _ => rfl
  | n + 1, h => by rw [pQ, pQ, pQ_congr n fun i hi => h i (by omega), h n (by omega)]
theorem sQ_add {f g : Nat → Rat} : ∀ n, sQ n (fun i => f i + g i) = sQ n f + sQ n g
  | 0 => by simp only [sQ]; grind
  | n + 1 => by simp only [sQ]; rw [sQ_add n]; grind
theorem sQ_mul {f : Nat → Rat} (c : Rat) : ∀ n, sQ n (fun i => c * f i) = c * sQ n f
  | 0 => by simp [sQ]
  | n + 1 => by simp only [sQ]; rw [sQ_mul c n]; grind
theorem pQ_mul {f g : Nat → Rat} : ∀ n, pQ n (fun i => f i * g i) = pQ n f * pQ n g
  | 0 => by simp [pQ]
  | n + 1 => by simp only [pQ]; rw [pQ_mul n]; grind
theorem pQ_ne {f : Nat → Rat} : ∀ n, (∀ i, i < n → f i ≠ 0) → pQ n f ≠ 0
  | 0, _ => by simp [pQ]
  | n + 1, h => by
    have h1 := pQ_ne n fun i hi => h i (by omega)
    have h2 := h n (by omega)
    simp only [pQ]
    grind
def aQ (x : Nat → Rat) : Nat → Nat → Rat
  | 0, _ => 1
  | m + 1, j => if j = m then pQ m (fun i => 1 - 1 / (x m - x i)) else aQ x m j * (1 - 1 / (x j - x m))
theorem frac (x : Nat → Rat) : ∀ (m : Nat) (v : Rat), (∀ i j, i < m → j < i → x i - x j ≠ 0) → (∀ i, i < m → v - x i ≠ 0) →
    pQ m (fun i => 1 - 1 / (v - x i)) = 1 - sQ m (fun j => aQ x m j * (1 / (v - x j)))
  | 0, v, _, _ => by simp only [pQ, sQ]; grind
  | m + 1, v, hx, hv => by
    have h1 := frac x m v (fun i j hi hj => hx i j (by omega) hj) fun i hi => hv i (by omega)
    have h2 := frac x m (x m) (fun i j hi hj => hx i j (by omega) hj) fun i hi => hx m i (by omega) hi
    have hvm := hv m (by omega)
    simp only [pQ, sQ, aQ, if_true]
    have e : sQ m (fun j => (if j = m then pQ m (fun i => 1 - 1 / (x m - x i)) else aQ x m j * (1 - 1 / (x j - x m))) * (1 / (v - x j))) =
        sQ m (fun j => aQ x m j * (1 / (v - x j))) - (1 / (v - x m)) * (sQ m (fun j => aQ x m j * (1 / (v - x j))) - sQ m (fun j => aQ x m j * (1 / (x m - x j)))) := by
      have e1 : sQ m (fun j => aQ x m j * (1 / (v - x j))) - (1 / (v - x m)) * (sQ m (fun j => aQ x m j * (1 / (v - x j))) - sQ m (fun j => aQ x m j * (1 / (x m - x j)))) = sQ m (fun j => (aQ x m j * (1 / (v - x j)) + (1 / (v - x m)) * ((-1) * (aQ x m j * (1 / (v - x j))) + aQ x m j * (1 / (x m - x j))))) := by
        rw [sQ_add, sQ_mul, sQ_add, sQ_mul]; grind
      rw [e1]
      refine sQ_congr m fun j hj => ?_
      rw [if_neg (by omega)]
      have a1 := hv j (by omega)
      have a2 := hx m j (by omega) hj
      grind
    rw [e, h1, h2]
    grind
theorem sum_a (x : Nat → Rat) : ∀ (m : Nat), (∀ i j, i < m → j < i → x i - x j ≠ 0) → sQ m (aQ x m) = (m : Rat)
  | 0, _ => by simp [sQ]
  | m + 1, hx => by
    have h1 := sum_a x m fun i j hi hj => hx i j (by omega) hj
    have h2 := frac x m (x m) (fun i j hi hj => hx i j (by omega) hj) fun i hi => hx m i (by omega) hi
    simp only [sQ, aQ, if_true]
    have e : sQ m (fun j => if j = m then pQ m (fun i => 1 - 1 / (x m - x i)) else aQ x m j * (1 - 1 / (x j - x m))) = sQ m (aQ x m) + sQ m (fun j => aQ x m j * (1 / (x m - x j))) := by
      rw [← sQ_add]
      refine sQ_congr m fun j hj => ?_
      rw [if_neg (by omega)]
      have a2 := hx m j (by omega) hj
      grind
    rw [e, h1, h2]
    rw [Rat.natCast_add]
    grind
theorem sum_ax (x : Nat → Rat) : ∀ (m : Nat), (∀ i j, i < m → j < i → x i - x j ≠ 0) → 2 * sQ m (fun j => aQ x m j * x j) = 2 * sQ m x - (m : Rat) * (m - 1)
  | 0, _ => by simp only [sQ]; grind
  | m + 1, hx => by
    have h0 := sum_a x m fun i j hi hj => hx i j (by omega) hj
    have h1 := sum_ax x m fun i j hi hj => hx i j (by omega) hj
    have h2 := frac x m (x m) (fun i j hi hj => hx i j (by omega) hj) fun i hi => hx m i (by omega) hi
    simp only [sQ, aQ, if_true]
    have e : sQ m (fun j => (if j = m then pQ m (fun i => 1 - 1 / (x m - x i)) else aQ x m j * (1 - 1 / (x j - x m))) * x j) = sQ m (fun j => aQ x m j * x j) + (x m * sQ m (fun j => aQ x m j * (1 / (x m - x j))) + (-1) * sQ m (aQ x m)) := by
      rw [← sQ_mul, ← sQ_mul, ← sQ_add, ← sQ_add]
      refine sQ_congr m fun j hj => ?_
      rw [if_neg (by omega)]
      have a2 := hx m j (by omega) hj
      grind
    rw [e, h0, h2, Rat.natCast_add]
    grind
def dQ (x : Nat → Rat) : Nat → Rat
  | 0 => 1
  | m + 1 => dQ x m * pQ m (fun i => x i - x m)
def dec (x : Nat → Rat) (j : Nat) : Nat → Rat := fun i => if i = j then x i - 1 else x i
theorem dec_out {x : Nat → Rat} {j m : Nat} (h : m ≤ j) : dQ (dec x j) m = dQ x m := by
  induction m with
  | zero => rfl
  | succ m ih =>
    simp only [dQ]
    rw [ih (by omega)]
    congr 1
    refine pQ_congr m fun i hi => ?_
    simp only [dec]
    rw [if_neg (by omega), if_neg (by omega)]
theorem pQ_one {f g : Nat → Rat} {j : Nat} : ∀ {m : Nat}, j < m → (∀ i, i < m → i ≠ j → f i = g i) → g j ≠ 0 → pQ m f = pQ m g * (f j / g j)
  | 0, h, _, _ => by omega
  | m + 1, h, he, hg => by
    simp only [pQ]
    by_cases hj : j = m
    · subst hj
      rw [pQ_congr j fun i hi => he i (by omega) (by omega)]
      grind
    · rw [pQ_one (by omega) (fun i hi => he i (by omega)) hg, he m (by omega) (by omega)]
      grind
theorem dQ_dec {x : Nat → Rat} : ∀ {m j : Nat}, j < m → (∀ i k, i < m → k < i → x k - x i ≠ 0) → dQ (dec x j) m = dQ x m * aQ x m j
  | 0, j, h, _ => by omega
  | m + 1, j, h, hx => by
    simp only [dQ, aQ]
    by_cases hj : j = m
    · subst hj
      rw [dec_out (Nat.le_refl _), if_pos rfl, Rat.mul_assoc, ← pQ_mul]
      congr 1
      refine pQ_congr j fun i hi => ?_
      simp only [dec]
      have := hx j i (by omega) hi
      rw [if_neg (by omega), if_pos trivial]
      grind
    · rw [if_neg hj, dQ_dec (by omega) fun i k hi hk => hx i k (by omega) hk]
      have h1 := hx m j (by omega) (by omega)
      have : pQ m (fun i => dec x j i - dec x j m) = pQ m (fun i => x i - x m) * ((x j - 1 - x m) / (x j - x m)) := by
        have := pQ_one (f := fun i => dec x j i - dec x j m) (g := fun i => x i - x m) (j := j) (m := m) (by omega) (fun i _ hi => by simp only [dec]; rw [if_neg hi, if_neg (by omega)]) h1
        rw [this]
        simp only [dec]
        rw [if_pos trivial, if_neg (by omega)]
      rw [this]
      grind
end Go.AM.Tb
