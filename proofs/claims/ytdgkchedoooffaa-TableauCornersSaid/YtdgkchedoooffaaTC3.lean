/- A part of the proof: TC3. -/
import Derived.Test.YtdgkchedoooffaaTC2
set_option linter.unusedVariables false
set_option linter.unusedSimpArgs false
set_option linter.unusedSectionVars false
namespace Go.AM.Tb
def XQ (l : Nat → Nat) (M : Nat) (i : Nat) : Rat := (l i : Rat) + M - 1 - i
theorem eN_dQ (l : Nat → Nat) (M : Nat) : ∀ m, Mono l m → ((pN m (fun i => eN l i m) : Nat) : Rat) = dQ (XQ l M) m
  | 0, _ => by simp [pN, dQ]
  | m + 1, hm => by
    have ih := eN_dQ l M m fun a b h1 h2 => hm a b h1 (by omega)
    simp only [pN, dQ]
    rw [eN_low (m + 1) (by omega), Nat.mul_one, ← ih, pN_cast, pN_cast, ← pQ_mul]
    refine pQ_congr m fun i hi => ?_
    simp only [eN, if_pos hi, XQ]
    have h1 := hm i m (by omega) (by omega)
    rw [Rat.natCast_mul]
    have : ((l i - l m + (m - i) : Nat) : Rat) = (l i : Rat) + M - 1 - i - (l m + M - 1 - m) := by
      obtain ⟨d, hd⟩ : ∃ d, l i = l m + d := ⟨l i - l m, by omega⟩
      obtain ⟨e, he⟩ : ∃ e, m = i + e := ⟨m - i, by omega⟩
      rw [show l i - l m + (m - i) = d + e by omega, hd]
      conv => rhs; rw [show (m : Rat) = (i : Rat) + e by rw [← Rat.natCast_add, ← he]]
      rw [Rat.natCast_add, Rat.natCast_add]
      grind
    rw [this]
theorem sum_X (l : Nat → Nat) (M : Nat) : ∀ m : Nat, 2 * sQ m (XQ l M) = 2 * ((sN m l : Nat) : Rat) + 2 * (m : Rat) * (M - 1) - (m : Rat) * (m - 1)
  | 0 => by simp [sQ, sN]; grind
  | m + 1 => by
    have := sum_X l M m
    simp only [sQ, sN, XQ] at this ⊢
    rw [Rat.natCast_add, Rat.natCast_add]
    grind
theorem XQ_ne {l : Nat → Nat} {M m : Nat} (hm : Mono l m) : ∀ i j, i < m → j < i → XQ l M j - XQ l M i ≠ 0 := fun i j hi hj => by
  have h1 := hm j i (by omega) hi
  obtain ⟨d, hd⟩ : ∃ d, l j = l i + d := ⟨l j - l i, by omega⟩
  obtain ⟨e, he⟩ : ∃ e, i = j + (e + 1) := ⟨i - j - 1, by omega⟩
  simp only [XQ]
  rw [hd]
  intro h
  have h2 : (i : Rat) = (j : Rat) + (e + 1) := by
    have : ((j + (e + 1) : Nat) : Rat) = (j : Rat) + (e + 1) := by rw [Rat.natCast_add, Rat.natCast_add]; grind
    rw [← this, ← he]
  rw [h2, Rat.natCast_add] at h
  have h3 : (((d + e + 1 : Nat)) : Rat) = 0 := by rw [Rat.natCast_add, Rat.natCast_add]; grind
  have h4 : d + e + 1 = 0 := by exact_mod_cast h3
  omega
theorem hN_fac {l : Nat → Nat} {m : Nat} (hm : Mono l m) : ((hN l m : Nat) : Rat) * dQ (XQ l m) m = ((pN m (fun i => facN (l i + (m - 1 - i))) : Nat) : Rat) := by
  rw [← eN_dQ l m m hm, ← Rat.natCast_mul]
  congr 1
  unfold hN
  rw [← pN_mul]
  exact pN_congr m fun i hi => fac_row hi hm
theorem hN_zero {l : Nat → Nat} {m : Nat} (h : l m = 0) : hN l (m + 1) = hN l m := by
  unfold hN
  simp only [pN]
  have : rN l m (m + 1) = 1 := by unfold rN; rw [h]; rfl
  rw [this, Nat.mul_one]
  refine pN_congr m fun i hi => ?_
  unfold rN
  refine pN_congr _ fun k hk => ?_
  simp only [cN]
  rw [if_neg (by omega)]; omega
theorem dQ_ne {x : Nat → Rat} : ∀ m, (∀ i j, i < m → j < i → x j - x i ≠ 0) → dQ x m ≠ 0
  | 0, _ => by simp [dQ]
  | m + 1, h => by
    have h1 := dQ_ne m fun i j hi hj => h i j (by omega) hj
    have h2 := pQ_ne (f := fun i => x i - x m) m fun i hi => h m i (by omega) hi
    simp only [dQ]
    grind
theorem pQ_zero {f : Nat → Rat} : ∀ {m j : Nat}, j < m → f j = 0 → pQ m f = 0
  | 0, j, h, _ => by omega
  | m + 1, j, h, hf => by
    simp only [pQ]
    by_cases hj : j = m
    · subst hj; rw [hf]; grind
    · rw [pQ_zero (by omega) hf]; grind
theorem dQ_zero {x : Nat → Rat} {i j : Nat} (hj : j < i) (h : x j - x i = 0) : ∀ {m : Nat}, i < m → dQ x m = 0
  | 0, hi => by omega
  | m + 1, hi => by
    simp only [dQ]
    by_cases e : i = m
    · subst e; rw [pQ_zero (f := fun k => x k - x i) hj h]; grind
    · rw [dQ_zero hj h (by omega)]; grind
theorem hN_step {l l' : Nat → Nat} {m j : Nat} (hm : Mono l m) (hm' : Mono l' m) (hj : j < m) (hl : 1 ≤ l j) (he : ∀ i, i < m → l' i = if i = j then l i - 1 else l i) :
    ((hN l m : Nat) : Rat) = ((hN l' m : Nat) : Rat) * (aQ (XQ l m) m j * XQ l m j) := by
  have h1 := hN_fac hm
  have h2 := hN_fac hm'
  have hd : dQ (XQ l' m) m = dQ (dec (XQ l m) j) m := by
    have : ∀ q, q ≤ m → dQ (XQ l' m) q = dQ (dec (XQ l m) j) q := by
      intro q
      induction q with
      | zero => intro _; rfl
      | succ q ih =>
        intro hq
        have hx : ∀ i, i ≤ q → XQ l' m i = dec (XQ l m) j i := fun i hi => by
          simp only [XQ, dec]
          rw [he i (by omega)]
          split
          · rename_i e
            subst e
            obtain ⟨d, hd⟩ : ∃ d, l i = d + 1 := ⟨l i - 1, by omega⟩
            rw [hd, show d + 1 - 1 = d by omega, Rat.natCast_add]
            grind
          · rfl
        simp only [dQ]
        rw [ih (by omega)]
        congr 1
        exact pQ_congr q fun i hi => by rw [hx i (by omega), hx q (Nat.le_refl _)]
    exact this m (Nat.le_refl _)
  rw [hd, dQ_dec hj (XQ_ne hm)] at h2
  have hne := dQ_ne m (XQ_ne (M := m) hm)
  have hfac : ((pN m (fun i => facN (l i + (m - 1 - i))) : Nat) : Rat) = ((pN m (fun i => facN (l' i + (m - 1 - i))) : Nat) : Rat) * XQ l m j := by
    rw [pN_cast, pN_cast]
    have hpos := facN_pos (l' j + (m - 1 - j))
    have hg : ((facN (l' j + (m - 1 - j)) : Nat) : Rat) ≠ 0 := by
      intro h0
      have h0 : facN (l' j + (m - 1 - j)) = 0 := by exact_mod_cast h0
      omega
    have := pQ_one (f := fun i => ((facN (l i + (m - 1 - i)) : Nat) : Rat)) (g := fun i => ((facN (l' i + (m - 1 - i)) : Nat) : Rat)) (j := j) (m := m) hj ?_ hg
    · rw [this]
      congr 1
      have e1 : l j + (m - 1 - j) = (l' j + (m - 1 - j)) + 1 := by rw [he j hj, if_pos rfl]; omega
      have e2 : XQ l m j = (((l' j + (m - 1 - j)) + 1 : Nat) : Rat) := by
        rw [← e1]
        obtain ⟨d, hd⟩ : ∃ d, m = j + 1 + d := ⟨m - j - 1, by omega⟩
        rw [show m - 1 - j = d by omega]
        simp only [XQ]
        rw [show (m : Rat) = (j : Rat) + 1 + d by rw [hd, Rat.natCast_add, Rat.natCast_add]; grind, Rat.natCast_add]
        grind
      rw [e1, e2, facN, Rat.natCast_mul]
      grind
    · intro i hi hij
      rw [he i hi, if_neg hij]
  rw [hfac, ← h2] at h1
  grind
end Go.AM.Tb
