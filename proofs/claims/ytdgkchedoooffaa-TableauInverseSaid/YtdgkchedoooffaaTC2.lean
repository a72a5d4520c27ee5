/- A part of the proof: TC2. -/
import Derived.Test.YtdgkchedoooffaaM3
set_option linter.unusedVariables false
set_option linter.unusedSimpArgs false
set_option linter.unusedSectionVars false
namespace Go.AM.Tb
def pN : Nat → (Nat → Nat) → Nat
  | 0, _ => 1
  | n + 1, f => pN n f * f n
def sN : Nat → (Nat → Nat) → Nat
  | 0, _ => 0
  | n + 1, f => sN n f + f n
def facN : Nat → Nat
  | 0 => 1
  | n + 1 => (n + 1) * facN n
theorem facN_pos : ∀ n, 0 < facN n
  | 0 => by simp [facN]
  | n + 1 => by simp only [facN]; exact Nat.mul_pos (by omega) (facN_pos n)
def cN (l : Nat → Nat) (i : Nat) : Nat → Nat → Nat
  | 0, _ => 0
  | m + 1, k => cN l i m k + (if i < m ∧ k < l m then 1 else 0)
def rN (l : Nat → Nat) (i m : Nat) : Nat := pN (l i) fun k => l i - k + cN l i m k
def hN (l : Nat → Nat) (m : Nat) : Nat := pN m fun i => rN l i m
def Mono (l : Nat → Nat) (m : Nat) : Prop := ∀ i j, i ≤ j → j < m → l j ≤ l i
end Go.AM.Tb
