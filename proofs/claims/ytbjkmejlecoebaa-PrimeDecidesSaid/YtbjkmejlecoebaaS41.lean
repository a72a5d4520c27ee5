/- A part of the proof: S41. -/
import Derived.Test.YtbjkmejlecoebaaS38
set_option linter.unusedSectionVars false
set_option linter.unusedVariables false
set_option linter.unusedSimpArgs false
namespace Go.AM.Pr
open Go.AM.Num
/-- the least witness -/
noncomputable def witN (p : Nat) : Nat := if h : IsPr p then (least_wit h).choose else 0
theorem witN_spec {p : Nat} (h : IsPr p) : 1 ≤ witN p ∧ witN p < p ∧ Wit (witN p) p (ps (facOf (p - 1))) ∧ ∀ k, 1 ≤ k → k < witN p → ¬ Wit k p (ps (facOf (p - 1))) := by
  unfold witN
  rw [dif_pos h]
  exact (least_wit h).choose_spec
theorem wit_two {p : Nat} (h : IsPr p) (h3 : 3 ≤ p) : 2 ≤ witN p := by
  obtain ⟨w1, w2, w3, w4⟩ := witN_spec h
  rcases (by omega : witN p = 1 ∨ 2 ≤ witN p) with e | e
  · exfalso
    rw [e] at w3
    have := (wit_iff.1 w3).2
    have hL := fac_pm h
    have hne : facOf (p - 1) ≠ [] := fun e' => by
      have := hL.prod
      rw [e'] at this
      simp [prodL] at this
      omega
    obtain ⟨x, r, hx⟩ := List.exists_cons_of_ne_nil hne
    refine this x (by rw [hx]; exact List.mem_cons_self) ?_
    rw [Nat.one_pow]
    exact Nat.mod_eq_of_lt (by omega)
  · exact e
noncomputable def ent (p : Nat) : AV := if p = 2 then .agg [.int .i64 2, .int .i64 1, .nilS] else .agg [.int .i64 (p : Int), .int .i64 (witN p : Int), fzL (ps (facOf (p - 1)))]
theorem ent_free (p : Nat) : (ent p).idFree = true := by
  unfold ent
  split
  · rfl
  · have := (isL_fz (ps (facOf (p - 1)))).free
    simp [AV.idFree, idFreeL, this]
noncomputable def KM (s : List Nat) : List (Int × AV) := s.map fun (p : Nat) => ((p : Int), ent p)
theorem KM_find (p : Nat) : ∀ s, findL (p : Int) (KM s) = if p ∈ s then some (ent p) else none
  | [] => by simp [KM, findL]
  | x :: s => by
    have ih := KM_find p s
    have e : KM (x :: s) = ((x : Int), ent x) :: KM s := rfl
    rw [e]
    simp only [findL, ih, List.mem_cons]
    by_cases h : p = x
    · subst h; simp
    · rw [if_neg (by omega)]
      simp [h]
theorem KM_put (p : Nat) : ∀ s, p ∉ s → putL (p : Int) (ent p) (KM s) = KM (s ++ [p])
  | [], _ => rfl
  | x :: s, h => by
    have e : KM (x :: s) = ((x : Int), ent x) :: KM s := rfl
    rw [e]
    simp only [putL]
    simp only [List.mem_cons, not_or] at h
    rw [if_neg (by omega), KM_put p s h.2]
    rfl
/-- prove: the primes that are known behind it -/
noncomputable def pvF : Nat → Nat → List Nat → List Nat
  | 0, _, s => s
  | n + 1, p, s => if p ∈ s then s else (if p = 2 then s else (facOf (p - 1)).foldl (fun s x => pvF n x.1 s) s) ++ [p]
noncomputable def pvL (n : Nat) (s : List Nat) (l : List (Nat × Nat)) : List Nat := l.foldl (fun s x => pvF n x.1 s) s
theorem pvL_app (n : Nat) (s : List Nat) (l : List (Nat × Nat)) (x : Nat × Nat) : pvL n s (l ++ [x]) = pvF n x.1 (pvL n s l) := by simp [pvL]
theorem pvL_le {n : Nat} {B : Nat} (hB : ∀ p s y, y ∈ pvF n p s → y ∈ s ∨ y ≤ p) : ∀ (l : List (Nat × Nat)) (s : List Nat) y, y ∈ pvL n s l → (∀ x ∈ l, x.1 ≤ B) → y ∈ s ∨ y ≤ B
  | [], s, y, h, _ => .inl h
  | x :: l, s, y, h, hb => by
    have h' : y ∈ pvL n (pvF n x.1 s) l := h
    rcases pvL_le hB l _ y h' (fun z hz => hb z (List.mem_cons_of_mem _ hz)) with h1 | h1
    · rcases hB _ _ _ h1 with h2 | h2
      · exact .inl h2
      · exact .inr (Nat.le_trans h2 (hb x List.mem_cons_self))
    · exact .inr h1
theorem fac_lt {p : Nat} (hp : 2 ≤ p) : ∀ x ∈ facOf (p - 1), IsPr x.1 ∧ x.1 ≤ p - 1 ∧ x.1 ∣ p - 1 := fun x hx => by
  have hL := facOf_fac (n := p - 1) (by omega)
  have hd : x.1 ∣ p - 1 := by
    have := mem_dvd_prod hx
    rw [hL.prod] at this
    exact Nat.dvd_trans (Nat.dvd_of_pow_dvd (hL.all x hx).2 (Nat.dvd_refl _)) this
  exact ⟨(hL.all x hx).1, Nat.le_of_dvd (by omega) hd, hd⟩
theorem pvF_le : ∀ (n p : Nat) (s : List Nat) y, y ∈ pvF n p s → y ∈ s ∨ y ≤ p
  | 0, p, s, y, h => .inl h
  | n + 1, p, s, y, h => by
    unfold pvF at h
    split at h
    · exact .inl h
    · rcases List.mem_append.1 h with h | h
      · split at h
        · exact .inl h
        · rcases Nat.lt_or_ge p 2 with h2 | h2
          · have : facOf (p - 1) = [] := by
              rw [show p - 1 = 0 by omega]
              simp [facOf]
            rw [this] at h
            exact .inl h
          · refine pvL_le (fun p s y => pvF_le n p s y) _ s y h fun x hx => ?_
            have := (fac_lt h2 x hx).2.1
            omega
      · simp at h; subst h; exact .inr (Nat.le_refl _)
end Go.AM.Pr
