/- A part of the proof: TC2. -/
import Derived.Test.YtdgkchedoooffaaTC1
set_option linter.unusedVariables false
set_option linter.unusedSimpArgs false
set_option linter.unusedSectionVars false
namespace Go.AM.Tb
def pN : Nat → (Nat → Nat) → Nat
  | 0, _ => 1
  | n + 1, f => pN n f * f n
def sN : Nat → (Nat → Nat) → Nat
  | 0, _ => 0
  | n + 1, f => sN n f + f n
def facN : Nat → Nat
  | 0 => 1
  | n + 1 => (n + 1) * facN n
theorem pN_congr {f g : Nat → Nat} : ∀ n, (∀ i, i < n → f i = g i) → pN n f = pN n g
  | 0, _ => rfl
  | n + 1, h => by rw [pN, pN, pN_congr n fun i hi => h i (by omega), h n (by omega)]
theorem sN_congr {f g : Nat → Nat} : ∀ n, (∀ i, i < n → f i = g i) → sN n f = sN n g
  | 0, _ => rfl
  | n + 1, h => by rw [sN, sN, sN_congr n fun i hi => h i (by omega), h n (by omega)]
theorem pN_mul {f g : Nat → Nat} : ∀ n, pN n (fun i => f i * g i) = pN n f * pN n g
  | 0 => by simp [pN]
  | n + 1 => by simp only [pN]; rw [pN_mul n]; grind
theorem facN_pos : ∀ n, 0 < facN n
  | 0 => by simp [facN]
  | n + 1 => by simp only [facN]; exact Nat.mul_pos (by omega) (facN_pos n)
theorem pN_cast {f : Nat → Nat} : ∀ n, ((pN n f : Nat) : Rat) = pQ n (fun i => (f i : Rat))
  | 0 => by simp [pN, pQ]
  | n + 1 => by simp only [pN, pQ]; rw [Rat.natCast_mul, pN_cast n]
theorem sN_cast {f : Nat → Nat} : ∀ n, ((sN n f : Nat) : Rat) = sQ n (fun i => (f i : Rat))
  | 0 => by simp [sN, sQ]
  | n + 1 => by simp only [sN, sQ]; rw [Rat.natCast_add, sN_cast n]
def cN (l : Nat → Nat) (i : Nat) : Nat → Nat → Nat
  | 0, _ => 0
  | m + 1, k => cN l i m k + (if i < m ∧ k < l m then 1 else 0)
def rN (l : Nat → Nat) (i m : Nat) : Nat := pN (l i) fun k => l i - k + cN l i m k
def eN (l : Nat → Nat) (i : Nat) : Nat → Nat
  | 0 => 1
  | m + 1 => eN l i m * (if i < m then l i - l m + (m - i) else 1)
def hN (l : Nat → Nat) (m : Nat) : Nat := pN m fun i => rN l i m
def Mono (l : Nat → Nat) (m : Nat) : Prop := ∀ i j, i ≤ j → j < m → l j ≤ l i
theorem cN_all {l : Nat → Nat} {i k : Nat} : ∀ {m : Nat}, i < m → (∀ j, j < m → k < l j) → cN l i m k + (i + 1) = m
  | 0, h, _ => by omega
  | m + 1, h, hk => by
    simp only [cN]
    by_cases hi : i < m
    · have := cN_all hi fun j hj => hk j (by omega)
      rw [if_pos ⟨hi, hk m (by omega)⟩]; omega
    · obtain rfl : i = m := by omega
      have : ∀ q, q ≤ i → cN l i q k = 0 := by
        intro q
        induction q with
        | zero => intro _; rfl
        | succ q ih => intro hq; simp only [cN]; rw [ih (by omega), if_neg (by omega)]
      rw [this i (Nat.le_refl _), if_neg (by omega)]; omega
theorem cN_low {l : Nat → Nat} {i k : Nat} : ∀ q, q ≤ i + 1 → cN l i q k = 0
  | 0, _ => rfl
  | q + 1, hq => by simp only [cN]; rw [cN_low q (by omega), if_neg (by omega)]
theorem eN_low {l : Nat → Nat} {i : Nat} : ∀ q, q ≤ i + 1 → eN l i q = 1
  | 0, _ => rfl
  | q + 1, hq => by simp only [eN]; rw [eN_low q (by omega), if_neg (by omega)]
theorem row_step {a s t : Nat} {g g' : Nat → Nat} (hs : 1 ≤ s) (ht : t ≤ a) (h1 : ∀ k, k < t → g k = a - k + (s - 1) ∧ g' k = a - k + s) (h2 : ∀ k, t ≤ k → k < a → g' k = g k) : pN a g' * (a - t + s) = pN a g * (a + s) := by
  have low : ∀ u, u ≤ t → pN u g' * (a - u + s) = pN u g * (a + s) := by
    intro u
    induction u with
    | zero => intro _; simp [pN]
    | succ u ih =>
      intro hu
      have := ih (by omega)
      obtain ⟨e1, e2⟩ := h1 u (by omega)
      simp only [pN]
      rw [e1, e2, show a - (u + 1) + s = a - u + (s - 1) by omega]
      rw [this]
      grind
  have high : ∀ d, t + d ≤ a → pN (t + d) g' * (a - t + s) = pN (t + d) g * (a + s) := by
    intro d
    induction d with
    | zero => intro _; exact low t (Nat.le_refl _)
    | succ d ih =>
      intro hd
      have := ih (by omega)
      rw [← Nat.add_assoc]
      simp only [pN]
      rw [h2 (t + d) (by omega) (by omega)]
      grind
  have := high (a - t) (by omega)
  rwa [show t + (a - t) = a by omega] at this
theorem fac_row {l : Nat → Nat} {i : Nat} : ∀ {m : Nat}, i < m → Mono l m → rN l i m * eN l i m = facN (l i + (m - 1 - i))
  | 0, h, _ => by omega
  | m + 1, h, hm => by
    by_cases hi : i < m
    · have ih := fac_row (l := l) hi fun a b h1 h2 => hm a b h1 (by omega)
      simp only [eN, if_pos hi]
      have hst := row_step (a := l i) (s := m - i) (t := l m) (g := fun k => l i - k + cN l i m k) (g' := fun k => l i - k + cN l i (m + 1) k) (by omega) (hm i m (by omega) (by omega)) (fun k hk => by
        have h1 := cN_all (l := l) (k := k) hi (fun j hj => by have := hm j m (by omega) (by omega); omega)
        simp only [cN, if_pos (⟨hi, hk⟩ : i < m ∧ k < l m)]
        omega) (fun k hk _ => by
        simp only [cN]
        rw [if_neg (by omega)]; omega)
      unfold rN at ih ⊢
      rw [show l i + (m + 1 - 1 - i) = (l i + (m - 1 - i)) + 1 by omega, facN, ← ih, show l i + (m - 1 - i) + 1 = l i + (m - i) by omega]
      grind
    · obtain rfl : i = m := by omega
      rw [eN_low _ (by omega)]
      unfold rN
      rw [pN_congr _ fun k hk => by rw [cN_low _ (by omega)]]
      rw [show i + 1 - 1 - i = 0 by omega]
      have : ∀ n c, pN n (fun k => n + c - k + 0) * facN c = facN (n + c) := by
        intro n
        induction n with
        | zero => intro c; simp [pN]
        | succ n ih =>
          intro c
          simp only [pN]
          have := ih (c + 1)
          rw [pN_congr n (g := fun k => n + (c + 1) - k + 0) fun k hk => by omega]
          rw [show n + 1 + c - n + 0 = c + 1 by omega, show n + 1 + c = n + (c + 1) by omega, ← this, facN]
          grind
      have := this (l i) 0
      simpa [facN] using this
end Go.AM.Tb
