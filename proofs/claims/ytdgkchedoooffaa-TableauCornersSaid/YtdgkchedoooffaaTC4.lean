/- A part of the proof: TC4. -/
import Derived.Test.YtdgkchedoooffaaTC3
set_option linter.unusedVariables false
set_option linter.unusedSimpArgs false
set_option linter.unusedSectionVars false
namespace Go.AM.Tb
def IsSh (l : List Int) : Prop := ∀ j : Nat, j < l.length → 1 ≤ getI l (j : Int) ∧ (0 < j → getI l (j : Int) ≤ getI l ((j - 1 : Nat) : Int))
instance (l : List Int) : Decidable (IsSh l) := by unfold IsSh; exact inferInstance
def lam (l : List Int) (i : Nat) : Nat := (getI l (i : Int)).toNat
def siz (l : List Int) : Nat := sN l.length (lam l)
def crn (l : List Int) (j : Nat) : Bool := !decide (j + 1 < l.length ∧ getI l ((j + 1 : Nat) : Int) = getI l (j : Int))
def lessL (l : List Int) (j : Nat) : List Int := if getI l (j : Int) = 1 then l.take j else l.set j (getI l (j : Int) - 1)
def cntF : Nat → List Int → Nat
  | 0, _ => 1
  | n + 1, l => if l = [] then 1 else sN l.length fun j => if crn l j then cntF n (lessL l j) else 0
def cntS (l : List Int) : Nat := cntF (siz l) l
theorem getI_out {l : List Int} {i : Nat} (h : l.length ≤ i) : getI l (i : Int) = 0 := by rw [getI_nat]; simp [List.getD, h]
theorem lam_out {l : List Int} {i : Nat} (h : l.length ≤ i) : lam l i = 0 := by unfold lam; rw [getI_out h]; rfl
theorem IsSh.pos {l : List Int} (h : IsSh l) {i : Nat} (hi : i < l.length) : 1 ≤ lam l i ∧ (lam l i : Int) = getI l (i : Int) := by
  have := (h i hi).1
  unfold lam
  omega
theorem IsSh.mono {l : List Int} (h : IsSh l) : ∀ m, Mono (lam l) m := by
  have key : ∀ d i, lam l (i + d) ≤ lam l i := by
    intro d
    induction d with
    | zero => intro i; exact Nat.le_refl _
    | succ d ih =>
      intro i
      refine Nat.le_trans ?_ (ih i)
      rcases Nat.lt_or_ge (i + (d + 1)) l.length with h1 | h1
      · have := (h (i + (d + 1)) h1).2 (by omega)
        rw [show i + (d + 1) - 1 = i + d by omega] at this
        unfold lam; omega
      · rw [lam_out h1]; omega
  intro m i j hij _
  have := key (j - i) i
  rwa [show i + (j - i) = j by omega] at this
theorem take_get {l : List Int} {k i : Nat} (h : i < k) : getI (l.take k) (i : Int) = getI l (i : Int) := by
  rw [getI_nat, getI_nat]; simp [List.getD, List.getElem?_take, h]
theorem set_get {l : List Int} {k i : Nat} {v : Int} (h : k < l.length) : getI (l.set k v) (i : Int) = if i = k then v else getI l (i : Int) := by
  rw [getI_nat, getI_nat]
  by_cases e : i = k
  · subst e; simp [List.getD, h]
  · rw [if_neg e]; simp [List.getD, List.getElem?_set_ne (Ne.symm e)]
theorem crn_last {l : List Int} {j : Nat} (h : IsSh l) (hj : j < l.length) (hc : crn l j = true) (h1 : getI l (j : Int) = 1) : j + 1 = l.length := by
  rcases Nat.lt_or_ge (j + 1) l.length with h2 | h2
  · have h3 := h (j + 1) h2
    have h4 := h3.2 (by omega)
    rw [show j + 1 - 1 = j by omega] at h4
    simp only [crn, Bool.not_eq_true', decide_eq_false_iff_not, not_and] at hc
    have := hc h2
    omega
  · omega
theorem less_lam {l : List Int} {j : Nat} (h : IsSh l) (hj : j < l.length) (hc : crn l j = true) (i : Nat) : lam (lessL l j) i = if i = j then lam l i - 1 else lam l i := by
  unfold lessL
  split
  · rename_i h1
    have hl := crn_last h hj hc h1
    rcases Nat.lt_or_ge i j with h2 | h2
    · rw [if_neg (by omega)]; unfold lam; rw [take_get h2]
    · rw [lam_out (by rw [List.length_take]; omega)]
      by_cases e : i = j
      · subst e; rw [if_pos rfl]; unfold lam; omega
      · rw [if_neg e, lam_out (by omega)]
  · unfold lam
    rw [set_get hj]
    split
    · rename_i e; subst e; omega
    · rfl
theorem less_len {l : List Int} {j : Nat} (h : IsSh l) (hj : j < l.length) (hc : crn l j = true) : (lessL l j).length = l.length ∨ ((lessL l j).length = j ∧ j + 1 = l.length ∧ lam (lessL l j) j = 0) := by
  by_cases h1 : getI l (j : Int) = 1
  · right
    have := crn_last h hj hc h1
    have hl := less_lam h hj hc j
    rw [if_pos rfl] at hl
    refine ⟨by unfold lessL; rw [if_pos h1, List.length_take]; omega, this, ?_⟩
    rw [hl]; unfold lam; omega
  · left; unfold lessL; rw [if_neg h1, List.length_set]
theorem less_sh {l : List Int} {j : Nat} (h : IsSh l) (hj : j < l.length) (hc : crn l j = true) : IsSh (lessL l j) := by
  intro i hi
  unfold lessL at hi ⊢
  split
  · rename_i h1
    rw [if_pos h1, List.length_take] at hi
    rw [take_get (by omega)]
    have := h i (by omega)
    refine ⟨this.1, fun h0 => ?_⟩
    rw [take_get (by omega)]
    exact this.2 h0
  · rename_i h1
    rw [if_neg h1, List.length_set] at hi
    rw [set_get hj, set_get hj]
    have h2 := h i hi
    simp only [crn, Bool.not_eq_true', decide_eq_false_iff_not, not_and] at hc
    refine ⟨?_, fun h0 => ?_⟩
    · split
      · rename_i e; subst e; omega
      · exact h2.1
    · have h3 := h2.2 h0
      split
      · rename_i e
        subst e
        rw [if_neg (by omega)]; omega
      · split
        · rename_i e1 e2
          obtain rfl : i = j + 1 := by omega
          have := hc hi
          rw [show j + 1 - 1 = j by omega] at h3
          omega
        · exact h3
theorem sN_dec {f g : Nat → Nat} {j : Nat} : ∀ {m : Nat}, j < m → (∀ i, i < m → g i = if i = j then f i - 1 else f i) → 1 ≤ f j → sN m g + 1 = sN m f
  | 0, h, _, _ => by omega
  | m + 1, h, he, hf => by
    simp only [sN]
    by_cases e : j = m
    · subst e
      rw [sN_congr j (f := g) (g := f) fun i hi => by rw [he i (by omega), if_neg (by omega)], he j (by omega), if_pos rfl]; omega
    · have := sN_dec (f := f) (g := g) (j := j) (m := m) (by omega) (fun i hi => he i (by omega)) hf
      rw [he m (by omega), if_neg (fun e' => e e'.symm)]; omega
theorem less_siz {l : List Int} {j : Nat} (h : IsSh l) (hj : j < l.length) (hc : crn l j = true) : siz (lessL l j) + 1 = siz l := by
  have hl := less_lam h hj hc
  have h1 := sN_dec (f := lam l) (g := lam (lessL l j)) hj (fun i _ => hl i) (h.pos hj).1
  unfold siz
  rcases less_len h hj hc with e | ⟨e1, e2, e3⟩
  · rw [e]; exact h1
  · rw [← h1, e1, ← e2, sN, e3]
theorem siz_pos {l : List Int} (h : IsSh l) (h0 : l ≠ []) : 0 < siz l := by
  rcases l with _ | ⟨a, r⟩
  · exact absurd rfl h0
  · have := (h.pos (i := 0) (by simp)).1
    have h2 : ∀ m, lam (a :: r) 0 ≤ sN (m + 1) (lam (a :: r)) := by
      intro m
      induction m with
      | zero => simp [sN]
      | succ m ih => rw [sN]; omega
    have := h2 r.length
    unfold siz
    simp only [List.length_cons]
    omega
theorem cntS_nil : cntS [] = 1 := rfl
theorem cntS_eq {l : List Int} (h : IsSh l) (h0 : l ≠ []) : cntS l = sN l.length fun j => if crn l j then cntS (lessL l j) else 0 := by
  have hp := siz_pos h h0
  obtain ⟨n, hn⟩ : ∃ n, siz l = n + 1 := ⟨siz l - 1, by omega⟩
  unfold cntS
  rw [hn, cntF, if_neg h0]
  refine sN_congr _ fun j hj => ?_
  by_cases hc : crn l j = true
  · rw [if_pos hc, if_pos hc]
    have := less_siz h hj hc
    rw [show siz (lessL l j) = n by omega]
  · rw [if_neg hc, if_neg hc]
theorem cnt_hook : ∀ (n : Nat) (l : List Int), IsSh l → siz l = n → cntS l * hN (lam l) l.length = facN n
  | 0, l, h, hn => by
    have : l = [] := Classical.byContradiction fun h0 => by have := siz_pos h h0; omega
    subst this
    rfl
  | n + 1, l, h, hn => by
    have h0 : l ≠ [] := fun e => by subst e; simp [siz, sN] at hn
    have hm := h.mono l.length
    have key : ∀ j, j < l.length → (((if crn l j then cntS (lessL l j) else 0 : Nat) : Rat)) * ((hN (lam l) l.length : Nat) : Rat) = ((facN n : Nat) : Rat) * (aQ (XQ (lam l) l.length) l.length j * XQ (lam l) l.length j) := by
      intro j hj
      by_cases hc : crn l j = true
      · rw [if_pos hc]
        have hsh := less_sh h hj hc
        have ih := cnt_hook n (lessL l j) hsh (by have := less_siz h hj hc; omega)
        have hlen : hN (lam (lessL l j)) (lessL l j).length = hN (lam (lessL l j)) l.length := by
          rcases less_len h hj hc with e | ⟨e1, e2, e3⟩
          · rw [e]
          · rw [e1, ← e2, hN_zero e3]
        rw [hlen] at ih
        have hs := hN_step hm (hsh.mono l.length) hj (h.pos hj).1 fun i _ => less_lam h hj hc i
        rw [hs, ← ih, Rat.natCast_mul]
        grind
      · rw [if_neg hc]
        have hc : j + 1 < l.length ∧ getI l ((j + 1 : Nat) : Int) = getI l (j : Int) := by simpa [crn] using hc
        have hlj : lam l (j + 1) = lam l j := by unfold lam; rw [hc.2]
        have hz : dQ (dec (XQ (lam l) l.length) j) l.length = 0 := by
          refine dQ_zero (i := j + 1) (j := j) (by omega) ?_ hc.1
          simp only [dec, XQ]
          rw [if_pos trivial, if_neg (by omega), hlj, Rat.natCast_add]
          grind
        rw [dQ_dec hj (XQ_ne hm)] at hz
        have hne := dQ_ne l.length (XQ_ne (M := l.length) hm)
        have : aQ (XQ (lam l) l.length) l.length j = 0 := by grind
        rw [this]
        grind
    have hsum := sum_ax (XQ (lam l) l.length) l.length (fun i j hi hj => by have := XQ_ne (M := l.length) hm i j hi hj; grind)
    have hX := sum_X (lam l) l.length l.length
    have hs2 : ((sN l.length (lam l) : Nat) : Rat) = (n : Rat) + 1 := by
      have : sN l.length (lam l) = n + 1 := hn
      rw [this, Rat.natCast_add]; rfl
    have hfin : (((cntS l * hN (lam l) l.length : Nat)) : Rat) = ((facN (n + 1) : Nat) : Rat) := by
      rw [Rat.natCast_mul, cntS_eq h h0, sN_cast]
      have e1 : sQ l.length (fun j => ((if crn l j then cntS (lessL l j) else 0 : Nat) : Rat)) * ((hN (lam l) l.length : Nat) : Rat) = sQ l.length (fun j => ((facN n : Nat) : Rat) * (aQ (XQ (lam l) l.length) l.length j * XQ (lam l) l.length j)) := by
        rw [Rat.mul_comm, ← sQ_mul]
        refine sQ_congr _ fun j hj => ?_
        rw [← key j hj]; grind
      rw [e1, sQ_mul, facN, Rat.natCast_mul, Rat.natCast_add]
      rw [hs2] at hX
      grind
    exact_mod_cast hfin
end Go.AM.Tb
