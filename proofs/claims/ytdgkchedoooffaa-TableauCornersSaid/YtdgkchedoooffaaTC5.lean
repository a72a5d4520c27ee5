/- A part of the proof: TC5. -/
import Derived.Test.YtdgkchedoooffaaTC4
set_option linter.unusedVariables false
set_option linter.unusedSimpArgs false
set_option linter.unusedSectionVars false
namespace Go.AM.Tb
theorem sN_cons {f : Nat → Nat} : ∀ m, sN (m + 1) f = f 0 + sN m (fun j => f (j + 1))
  | 0 => by simp [sN]
  | m + 1 => by rw [sN, sN_cons m, sN]; omega
def ncor (l : List Int) : Nat := sN l.length fun j => if crn l j then 1 else 0
theorem getI_cons {a : Int} {r : List Int} {j : Nat} : getI (a :: r) ((j + 1 : Nat) : Int) = getI r (j : Int) := by rw [getI_nat, getI_nat]; rfl
theorem crn_cons {a : Int} {r : List Int} {j : Nat} : crn (a :: r) (j + 1) = crn r j := by
  simp only [crn, List.length_cons, Nat.add_lt_add_iff_right, getI_cons]
theorem sh_tail {a : Int} {r : List Int} (h : IsSh (a :: r)) : IsSh r := by
  intro j hj
  have := h (j + 1) (by simpa using hj)
  rw [getI_cons] at this
  refine ⟨this.1, fun h0 => ?_⟩
  have := this.2 (by omega)
  obtain ⟨i, rfl⟩ : ∃ i, j = i + 1 := ⟨j - 1, by omega⟩
  rw [show i + 1 + 1 - 1 = i + 1 by omega, getI_cons] at this
  simpa using this
theorem ncor_le : ∀ (l : List Int), IsSh l → ncor l ≤ lam l 0 ∧ ncor l * (ncor l + 1) ≤ 2 * siz l
  | [], _ => by simp [ncor, sN]
  | a :: r, h => by
    obtain ⟨h1, h2⟩ := ncor_le r (sh_tail h)
    have e1 : ncor (a :: r) = (if crn (a :: r) 0 then 1 else 0) + ncor r := by
      unfold ncor
      simp only [List.length_cons]
      rw [sN_cons]
      simp only [crn_cons]
    have e2 : siz (a :: r) = lam (a :: r) 0 + siz r := by
      unfold siz
      simp only [List.length_cons]
      rw [sN_cons]
      congr 1
      exact sN_congr _ fun i _ => by unfold lam; rw [getI_cons]
    have hp := h.pos (i := 0) (by simp)
    have hle : ncor (a :: r) ≤ lam (a :: r) 0 := by
      rw [e1]
      rcases r with _ | ⟨b, r⟩
      · simp [ncor, sN]; split <;> omega
      · have hm := h.mono 2 0 1 (by omega) (by omega)
        have hb : lam (a :: b :: r) 1 = lam (b :: r) 0 := by unfold lam; rw [getI_cons]
        split
        · rename_i hc
          unfold crn at hc
          rw [Bool.not_eq_true', decide_eq_false_iff_not, not_and] at hc
          have := hc (by simp)
          have hp2 := h.pos (i := 1) (by simp)
          have : lam (a :: b :: r) 1 ≠ lam (a :: b :: r) 0 := fun e => this (by rw [← hp.2, ← hp2.2, e])
          omega
        · omega
    refine ⟨hle, ?_⟩
    rw [e2]
    have e3 : ncor (a :: r) ≤ ncor r + 1 := by rw [e1]; split <;> omega
    rcases Nat.lt_or_ge (ncor r) (ncor (a :: r)) with h3 | h3
    · have : ncor (a :: r) = ncor r + 1 := by omega
      rw [this] at hle ⊢
      grind
    · have : ncor (a :: r) = ncor r := by have : ncor r ≤ ncor (a :: r) := by rw [e1]; omega
                                          omega
      rw [this]; omega
def cm (n : Nat) : Nat := if n < 1 then 0 else if n < 3 then 1 else if n < 6 then 2 else if n < 10 then 3 else if n < 15 then 4 else if n < 21 then 5 else if n < 28 then 6 else 7
theorem cm_le {c n : Nat} (h : c * (c + 1) ≤ 2 * n) (hn : n ≤ 30) : c ≤ cm n := by
  have hc : c ≤ 7 := by
    rcases Nat.lt_or_ge 7 c with h1 | h1
    · have := Nat.mul_le_mul (show 8 ≤ c by omega) (show 9 ≤ c + 1 by omega); omega
    · exact h1
  unfold cm
  have : c = 0 ∨ c = 1 ∨ c = 2 ∨ c = 3 ∨ c = 4 ∨ c = 5 ∨ c = 6 ∨ c = 7 := by omega
  rcases this with rfl | rfl | rfl | rfl | rfl | rfl | rfl | rfl <;> simp at h <;> repeat' (first | omega | split)
def bnd : Nat → Nat
  | 0 => 1
  | n + 1 => cm (n + 1) * bnd n
theorem bnd_le : ∀ n, n ≤ 30 → bnd n ≤ 1000000000000000000 := by
  intro n hn
  have : ∀ k : Fin 31, bnd k.val ≤ 1000000000000000000 := by decide +kernel
  exact this ⟨n, by omega⟩
theorem sN_if {p : Nat → Bool} {f : Nat → Nat} {b : Nat} : ∀ m, (∀ j, j < m → p j = true → f j ≤ b) → sN m (fun j => if p j then f j else 0) ≤ sN m (fun j => if p j then 1 else 0) * b
  | 0, _ => by simp [sN]
  | m + 1, h => by
    have ih := sN_if m fun j hj => h j (by omega)
    simp only [sN]
    by_cases hp : p m = true
    · have := h m (by omega) hp
      rw [if_pos hp, if_pos hp]; grind
    · rw [if_neg hp, if_neg hp]; simpa using ih
theorem cnt_bnd : ∀ (n : Nat) (l : List Int), IsSh l → siz l = n → n ≤ 30 → cntS l ≤ bnd n
  | 0, l, h, hn, _ => by
    have : l = [] := Classical.byContradiction fun h0 => by have := siz_pos h h0; omega
    subst this
    simp [cntS_nil, bnd]
  | n + 1, l, h, hn, hle => by
    have h0 : l ≠ [] := fun e => by subst e; simp [siz, sN] at hn
    rw [cntS_eq h h0]
    have h1 := sN_if (p := crn l) (f := fun j => cntS (lessL l j)) (b := bnd n) l.length fun j hj hc => cnt_bnd n (lessL l j) (less_sh h hj hc) (by have := less_siz h hj hc; omega) (by omega)
    have h2 := cm_le (ncor_le l h).2 (by omega)
    rw [hn] at h2
    exact Nat.le_trans h1 (Nat.mul_le_mul h2 (Nat.le_refl _))
theorem cnt_le {l : List Int} (h : IsSh l) (hs : siz l ≤ 30) : cntS l ≤ 1000000000000000000 := Nat.le_trans (cnt_bnd _ l h rfl hs) (bnd_le _ hs)
theorem len_siz {l : List Int} (h : IsSh l) : l.length ≤ siz l := by
  have : ∀ m, m ≤ l.length → m ≤ sN m (lam l) := by
    intro m
    induction m with
    | zero => intro _; omega
    | succ m ih => intro hm; have := ih (by omega); have := (h.pos (i := m) (by omega)).1; rw [sN]; omega
  exact this _ (Nat.le_refl _)
theorem lam_siz {l : List Int} {i : Nat} (hi : i < l.length) : lam l i ≤ siz l := by
  have : ∀ m, i < m → lam l i ≤ sN m (lam l) := by
    intro m
    induction m with
    | zero => intro h; omega
    | succ m ih =>
      intro h
      rw [sN]
      rcases Nat.lt_or_ge i m with h1 | h1
      · have := ih h1; omega
      · obtain rfl : i = m := by omega
        omega
  exact this _ hi
theorem getI_le {l : List Int} (h : IsSh l) (hs : siz l ≤ 30) : ∀ i : Nat, i < l.length → getI l (i : Int) ≤ 30 := fun i hi => by
  have := lam_siz (l := l) hi
  have := (h.pos hi).2
  omega
end Go.AM.Tb
