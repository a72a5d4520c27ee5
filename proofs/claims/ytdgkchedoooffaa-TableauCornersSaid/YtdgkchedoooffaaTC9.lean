/- A part of the proof: TC9. -/
import Derived.Test.YtdgkchedoooffaaTC8
set_option linter.unusedVariables false
set_option linter.unusedSimpArgs false
set_option linter.unusedSectionVars false
namespace Go.AM.Tb
def cR (l : Nat → Nat) (m k : Nat) : Nat := sN m fun i => if k < l i then 1 else 0
theorem sN_lo {f : Nat → Nat} {t : Nat} : ∀ {m : Nat}, t ≤ m → (∀ j, j < t → f j = 1) → t ≤ sN m f
  | 0, h, _ => by omega
  | m + 1, h, hf => by
    rw [sN]
    rcases Nat.lt_or_ge m t with h1 | h1
    · have := sN_lo (t := m) (Nat.le_refl m) fun j hj => hf j (by omega)
      have := hf m h1
      omega
    · have := sN_lo h1 hf; omega
theorem sN_hi {f : Nat → Nat} {t : Nat} (h1 : ∀ j, f j ≤ 1) : ∀ m, (∀ j, t ≤ j → j < m → f j = 0) → sN m f ≤ t
  | 0, _ => by simp [sN]
  | m + 1, hf => by
    rw [sN]
    rcases Nat.lt_or_ge m t with h2 | h2
    · have : ∀ q, sN q f ≤ q := by
        intro q
        induction q with
        | zero => simp [sN]
        | succ q ih => have := h1 q; rw [sN]; omega
      have := this m
      have := h1 m
      omega
    · have := sN_hi h1 m fun j a b => hf j a (by omega)
      have := hf m h2 (by omega)
      omega
theorem cR_iff {l : Nat → Nat} {m i k : Nat} (hm : Mono l m) (hi : i < m) : k < l i ↔ i < cR l m k := by
  constructor
  · intro h
    have := sN_lo (f := fun i => if k < l i then 1 else 0) (t := i + 1) (m := m) (by omega) fun j hj => by
      have := hm j i (by omega) hi
      show (if k < l j then 1 else 0) = 1
      rw [if_pos (by omega)]
    unfold cR; omega
  · intro h
    rcases Nat.lt_or_ge k (l i) with h1 | h1
    · exact h1
    · have := sN_hi (f := fun i => if k < l i then 1 else 0) (t := i) (fun j => by show (if k < l j then 1 else 0) ≤ 1; split <;> omega) m fun j a b => by
        have := hm i j a b
        show (if k < l j then 1 else 0) = 0
        rw [if_neg (by omega)]
      unfold cR at h; omega
theorem cR_le (l : Nat → Nat) (m k : Nat) : cR l m k ≤ m := sN_hi (f := fun i => if k < l i then 1 else 0) (fun j => by show (if k < l j then 1 else 0) ≤ 1; split <;> omega) m fun j a b => by omega
theorem pN_comm {F : Nat → Nat → Nat} : ∀ m c, pN m (fun i => pN c (fun k => F i k)) = pN c (fun k => pN m (fun i => F i k))
  | 0, c => by
    have : ∀ c, pN c (fun _ => 1) = 1 := by intro c; induction c with
      | zero => rfl
      | succ c ih => rw [pN, ih]
    simp only [pN]; rw [this]
  | m + 1, c => by simp only [pN]; rw [pN_comm m c, pN_mul]
theorem sN_comm {F : Nat → Nat → Nat} : ∀ m c, sN m (fun i => sN c (fun k => F i k)) = sN c (fun k => sN m (fun i => F i k))
  | 0, c => by
    have : ∀ c, sN c (fun _ => 0) = 0 := by intro c; induction c with
      | zero => rfl
      | succ c ih => rw [sN, ih]
    simp only [sN]; rw [this]
  | m + 1, c => by
    have add : ∀ {f g : Nat → Nat} c, sN c (fun k => f k + g k) = sN c f + sN c g := by
      intro f g c
      induction c with
      | zero => rfl
      | succ c ih => simp only [sN]; rw [ih]; omega
    simp only [sN]; rw [sN_comm m c, add]
theorem pN_ext {f g : Nat → Nat} {a : Nat} (h1 : ∀ k, k < a → g k = f k) : ∀ c, a ≤ c → (∀ k, a ≤ k → g k = 1) → pN c g = pN a f
  | 0, h, _ => by obtain rfl : a = 0 := by omega
                  rfl
  | c + 1, h, h2 => by
    rcases Nat.lt_or_ge c a with h3 | h3
    · obtain rfl : a = c + 1 := by omega
      exact pN_congr _ h1
    · rw [pN, pN_ext h1 c h3 h2, h2 c h3, Nat.mul_one]
def HK (l l' : Nat → Nat) (i k : Nat) : Nat := if k < l i then l i - k + (l' k - (i + 1)) else 1
theorem rN_HK {l : Nat → Nat} {m i c : Nat} (hm : Mono l m) (hi : i < m) (ho : ∀ t, m ≤ t → l t = 0) (hc : l i ≤ c) : rN l i m = pN c (HK l (cR l m) i) := by
  unfold rN
  refine (pN_ext (fun k hk => ?_) c hc fun k hk => ?_).symm
  · unfold HK
    rw [if_pos hk]
    have h1 := (cR_iff hm hi).1 hk
    have h2 := cR_le l m k
    have := cN_cut (l := l) (i := i) (j := cR l m k) (k := k) h1 (fun t _ ht => (cR_iff hm (by omega)).2 ht) (fun t ht => by
      rcases Nat.lt_or_ge t m with h3 | h3
      · have : ¬ k < l t := fun h => by have := (cR_iff hm h3).1 h; omega
        omega
      · rw [ho t h3]; omega) (m - cR l m k)
    rw [show cR l m k + (m - cR l m k) = m by omega] at this
    rw [this]
  · unfold HK
    rw [if_neg (by omega)]
def trS (s : List Int) : List Nat := (List.range (lam s 0)).map (cR (lam s) s.length)
theorem trS_get {s : List Int} {c : Nat} (h : c < lam s 0) : (trS s).getD c 0 = cR (lam s) s.length c := by simp [trS, List.getD, h]
theorem trS_len (s : List Int) : (trS s).length = lam s 0 := by simp [trS]
theorem trS_lam {s : List Int} (h : IsSh s) (h0 : s ≠ []) : ∀ c, lam (nL (trS s)) c = cR (lam s) s.length c := by
  intro c
  rw [lam_nL]
  dsimp only
  rcases Nat.lt_or_ge c (lam s 0) with h1 | h1
  · exact trS_get h1
  · have hl : 0 < s.length := Nat.pos_of_ne_zero fun e => h0 (List.length_eq_zero_iff.1 e)
    have : ¬ 0 < cR (lam s) s.length c := fun e => by have := (cR_iff (h.mono s.length) hl).2 e; omega
    rw [show cR (lam s) s.length c = 0 by omega]
    simp [trS, List.getD, h1]
theorem trS_sh {s : List Int} (h : IsSh s) (h0 : s ≠ []) : IsSh (nL (trS s)) := by
  have hl : 0 < s.length := Nat.pos_of_ne_zero fun e => h0 (List.length_eq_zero_iff.1 e)
  have hg : ∀ c : Nat, getI (nL (trS s)) (c : Int) = (cR (lam s) s.length c : Int) := fun c => by
    have := trS_lam h h0 c
    rw [lam_nL] at this
    rw [nL_get, ← this]
  intro j hj
  rw [nL_len, trS_len] at hj
  rw [hg]
  refine ⟨by have := (cR_iff (h.mono s.length) hl).1 hj; omega, fun hj0 => ?_⟩
  rw [hg]
  have : ∀ m, sN m (fun i => if j < lam s i then 1 else 0) ≤ sN m (fun i => if j - 1 < lam s i then 1 else 0) := by
    intro m
    induction m with
    | zero => exact Nat.le_refl _
    | succ m ih => simp only [sN]; split <;> split <;> omega
  have := this s.length
  unfold cR
  omega
theorem trS_siz {s : List Int} (h : IsSh s) (h0 : s ≠ []) : siz (nL (trS s)) = siz s := by
  unfold siz
  rw [nL_len, trS_len, sN_congr _ fun c _ => trS_lam h h0 c]
  have e : sN (lam s 0) (cR (lam s) s.length) = sN s.length (fun i => sN (lam s 0) (fun k => if k < lam s i then 1 else 0)) := by
    unfold cR
    rw [sN_comm]
  rw [e]
  refine sN_congr _ fun i hi => ?_
  have h1 := h.mono s.length 0 i (by omega) hi
  have a := sN_lo (f := fun k => if k < lam s i then 1 else 0) h1 fun j hj => by show (if j < lam s i then 1 else 0) = 1; rw [if_pos hj]
  have b := sN_hi (f := fun k => if k < lam s i then 1 else 0) (t := lam s i) (fun j => by show (if j < lam s i then 1 else 0) ≤ 1; split <;> omega) (lam s 0) fun j hj _ => by show (if j < lam s i then 1 else 0) = 0; rw [if_neg (by omega)]
  omega
theorem trS_hook {s : List Int} (h : IsSh s) (h0 : s ≠ []) : hN (lam (nL (trS s))) (nL (trS s)).length = hN (lam s) s.length := by
  have hl : 0 < s.length := Nat.pos_of_ne_zero fun e => h0 (List.length_eq_zero_iff.1 e)
  have hm := h.mono s.length
  have hsh' := trS_sh h h0
  have hlen : (nL (trS s)).length = lam s 0 := by rw [nL_len, trS_len]
  have hm' := hsh'.mono (nL (trS s)).length
  have htl := trS_lam h h0
  have hback : ∀ i, i < s.length → cR (lam (nL (trS s))) (nL (trS s)).length i = lam s i := fun i hi => by
    rw [hlen]
    have h1 := hm 0 i (by omega) hi
    unfold cR
    have hc : ∀ k, (if i < lam (nL (trS s)) k then 1 else 0) = if k < lam s i then 1 else 0 := fun k => by
      rw [htl]
      have := cR_iff hm hi (k := k)
      by_cases h3 : k < lam s i
      · rw [if_pos h3, if_pos (this.1 h3)]
      · rw [if_neg h3, if_neg (fun h4 => h3 (this.2 h4))]
    rw [sN_congr _ fun k _ => hc k]
    have a := sN_lo (f := fun k => if k < lam s i then 1 else 0) h1 fun j hj => by show (if j < lam s i then 1 else 0) = 1; rw [if_pos hj]
    have b := sN_hi (f := fun k => if k < lam s i then 1 else 0) (t := lam s i) (fun j => by show (if j < lam s i then 1 else 0) ≤ 1; split <;> omega) (lam s 0) fun j hj _ => by show (if j < lam s i then 1 else 0) = 0; rw [if_neg (by omega)]
    omega
  have e1 : hN (lam s) s.length = pN s.length fun i => pN (lam s 0) (HK (lam s) (cR (lam s) s.length) i) := by
    unfold hN
    exact pN_congr _ fun i hi => rN_HK hm hi (fun t ht => lam_out ht) (hm 0 i (by omega) hi)
  have e2 : hN (lam (nL (trS s))) (nL (trS s)).length = pN (lam s 0) fun k => pN s.length (HK (lam (nL (trS s))) (cR (lam (nL (trS s))) (nL (trS s)).length) k) := by
    unfold hN
    rw [hlen]
    refine pN_congr _ fun k hk => ?_
    have := rN_HK (c := s.length) hm' (i := k) (by rw [hlen]; exact hk) (fun t ht => lam_out ht) (by rw [htl]; exact cR_le _ _ _)
    rw [hlen] at this
    rw [this]
  rw [e1, e2, pN_comm]
  refine pN_congr _ fun i hi => pN_congr _ fun k hk => ?_
  unfold HK
  rw [hback i hi, htl]
  have := cR_iff hm hi (k := k)
  by_cases h3 : k < lam s i
  · have h4 := this.1 h3
    rw [if_pos h3, if_pos h4]; omega
  · rw [if_neg h3, if_neg (fun h4 => h3 (this.2 h4))]
theorem trS_cnt {s : List Int} (h : IsSh s) (h0 : s ≠ []) : cntS (nL (trS s)) = cntS s := by
  have h1 := cnt_hook _ _ h rfl
  have h2 := cnt_hook _ _ (trS_sh h h0) rfl
  rw [trS_siz h h0, trS_hook h h0, ← h1] at h2
  exact Nat.eq_of_mul_eq_mul_right (hN_pos h) h2
end Go.AM.Tb
