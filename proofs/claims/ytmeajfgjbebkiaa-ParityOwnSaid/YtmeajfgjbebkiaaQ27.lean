/- A part of the proof: Q27. -/
import Derived.Test.YtmeajfgjbebkiaaQ26
set_option linter.unusedSectionVars false
set_option linter.unusedVariables false
set_option linter.unusedSimpArgs false
namespace Go.AM.Pa
/-- the places of a region that a player wins -/
def Side (inn z : List Bool) (p : Int) (v : Nat) : Prop := getB inn v = true ∧ (if p = 0 then getB z v = true else getB z v = false)
/-- a step of a play in which a player keeps to the moves -/
def Edge (g : Gm) (inn : List Bool) (mv : List Int) (p : Int) (v u : Nat) : Prop := (u : Int) ∈ getLL g.next v ∧ getB inn u = true ∧ (getI g.owner v = p → (u : Int) = getI mv v)
/-- the greatest rank that comes again and again -/
def Lim (g : Gm) (f : Nat → Nat) (r : Int) : Prop := (∀ N, ∃ i, N ≤ i ∧ getI g.rank (f i) = r) ∧ ∃ N, ∀ i, N ≤ i → getI g.rank (f i) ≤ r
structure Sol (g : Gm) (inn z : List Bool) (mv : List Int) : Prop where
  mem : ∀ p : Int, (p = 0 ∨ p = 1) → ∀ v, Side inn z p v → getI g.owner v = p → ∃ u : Nat, (u : Int) = getI mv v ∧ (u : Int) ∈ getLL g.next v ∧ Side inn z p u
  trap : ∀ p : Int, (p = 0 ∨ p = 1) → ∀ v, Side inn z p v → getI g.owner v ≠ p → ∀ u : Nat, (u : Int) ∈ getLL g.next v → getB inn u = true → Side inn z p u
  win : ∀ p : Int, (p = 0 ∨ p = 1) → ∀ f : Nat → Nat, (∀ i, Side inn z p (f i) ∧ Edge g inn mv p (f i) (f (i + 1))) → ∀ r, Lim g f r → r.tmod 2 = p
theorem lim_shift {g : Gm} {f : Nat → Nat} {r : Int} (h : Lim g f r) (N : Nat) : Lim g (fun i => f (i + N)) r := by
  obtain ⟨h1, M, h2⟩ := h
  refine ⟨fun K => ?_, M, fun i hi => h2 _ (by omega)⟩
  obtain ⟨i, hi, e⟩ := h1 (K + N)
  exact ⟨i - N, by omega, by show getI g.rank (f (i - N + N)) = r; rw [show i - N + N = i by omega]; exact e⟩
theorem side_as {i z : List Bool} {p : Int} (hp : p = 0 ∨ p = 1) (hi : i.length = 24) (hz : z.length = 24) (hs : ∀ v : Nat, getB z v = true → getB i v = true) (v : Nat) : getB (asB i p z) v = true ↔ Side i z p v := by
  unfold asB Side
  rcases hp with rfl | rfl
  · simp only [if_true]
    exact ⟨fun h => ⟨hs v h, h⟩, fun h => h.2⟩
  · rw [if_neg (by omega), if_neg (by omega), getB_wo hi hz]
    simp
theorem side_own {i w : List Bool} {p : Int} (hp : p = 0 ∨ p = 1) (hi : i.length = 24) (hw : w.length = 24) (hs : ∀ v : Nat, getB w v = true → getB i v = true) (v : Nat) : Side i (asB i p w) p v ↔ getB w v = true := by
  unfold asB Side
  rcases hp with rfl | rfl
  · simp only [if_true]
    exact ⟨fun h => h.2, fun h => ⟨hs v h, h⟩⟩
  · rw [if_neg (by omega), if_neg (by omega), getB_wo hi hw]
    constructor
    · intro ⟨h1, h2⟩
      rw [h1] at h2; simpa using h2
    · intro h
      exact ⟨hs v h, by simp [h]⟩
theorem side_other {i w : List Bool} {p : Int} (hp : p = 0 ∨ p = 1) (hi : i.length = 24) (hw : w.length = 24) (v : Nat) : Side i (asB i p w) (1 - p) v ↔ (getB i v = true ∧ getB w v = false) := by
  unfold asB Side
  rcases hp with rfl | rfl
  · rw [if_neg (by omega), if_pos rfl]
  · rw [if_pos (by omega), if_neg (by omega), getB_wo hi hw]
    constructor
    · intro ⟨h1, h2⟩
      simp [h1] at h2; exact ⟨h1, h2⟩
    · intro ⟨h1, h2⟩
      exact ⟨h1, by simp [h1, h2]⟩
theorem setMv_get {g : Gm} {inn : List Bool} {p : Int} : ∀ (hs : List Nat) (mv : List Int) (v : Nat), (∀ w ∈ hs, w < mv.length) → getI (setMv g inn p hs mv) v = if v ∈ hs ∧ getI g.owner v = p then firstIn g inn v else getI mv v
  | [], mv, v, _ => by simp [setMv]
  | w :: hs, mv, v, hl => by
    have hw := hl w List.mem_cons_self
    have hlen : (setStep g inn p mv w).length = mv.length := by unfold setStep; split <;> simp
    have ih := setMv_get hs (setStep g inn p mv w) v (fun x hx => by rw [hlen]; exact hl x (List.mem_cons_of_mem _ hx)) (g := g) (inn := inn) (p := p)
    have e : setMv g inn p (w :: hs) mv = setMv g inn p hs (setStep g inn p mv w) := rfl
    rw [e, ih]
    have e2 : getI (setStep g inn p mv w) v = if w = v ∧ getI g.owner w = p then firstIn g inn w else getI mv v := by
      unfold setStep
      by_cases h : getI g.owner w = p
      · rw [if_pos h, getI_set]
        by_cases h2 : w = v
        · simp [h2, h2 ▸ hw, h2 ▸ h]
        · simp [h2]
      · rw [if_neg h]; simp [h]
    rw [e2]
    by_cases h1 : v ∈ hs ∧ getI g.owner v = p
    · rw [if_pos h1, if_pos ⟨List.mem_cons_of_mem _ h1.1, h1.2⟩]
    · rw [if_neg h1]
      by_cases h2 : w = v
      · subst h2
        by_cases h3 : getI g.owner w = p
        · simp [h3]
        · simp [h3]
      · have h2' : ¬ v = w := fun x => h2 x.symm
        simp [h2, h2']
        intro h4 h5
        exact absurd ⟨h4, h5⟩ h1
theorem first_spec {g : Gm} {inn : List Bool} {v : Nat} (h : ∃ u ∈ getLL g.next v, getB inn u = true) : firstIn g inn v ∈ getLL g.next v ∧ getB inn (firstIn g inn v) = true := by
  obtain ⟨u, hu1, hu2⟩ := h
  unfold firstIn
  rcases hf : (getLL g.next v).findIdx? (fun u => getB inn u) with _ | j
  · rw [List.findIdx?_eq_none_iff] at hf
    exact absurd (hf u hu1) (by rw [hu2]; simp)
  · obtain ⟨h, h2, -⟩ := List.findIdx?_eq_some_iff_getElem.1 hf
    simp only
    rw [getI_nat]
    simp only [List.getD, List.getElem?_eq_getElem h, Option.getD_some]
    exact ⟨List.getElem_mem h, h2⟩
theorem getB_z24 (i : Nat) : getB z24 i = false := by
  rw [getB_nat]
  simp only [z24, List.getD]
  rw [List.getElem?_replicate]
  split <;> rfl
/-- outside the region no move is changed -/
theorem zsol_keep {g : Gm} (hg : Good g) {n : Nat} (hnn : g.next.length = n) : ∀ (k : Nat) (inn : List Bool) (mv : List Int), Area g inn → mv.length = n → ∀ v : Nat, getB inn v = false → getI (zsol g k inn mv).2 v = getI mv v
  | 0, _, _, _, _, _, _ => rfl
  | k + 1, inn, mv, ha, hm, v, hv => by
    simp only [zsol]
    split
    · rfl
    · rename_i hne
      have hin : ∀ i : Nat, getB inn i = true → i < n := fun i h => by have := ha.lt i h; omega
      have hhl : (heads g inn (topRank g inn)).length = 24 := by rw [heads, heads_len, z24_len]
      have hhs : ∀ i : Nat, getB (heads g inn (topRank g inn)) i = true → getB inn i = true := fun i h => by
        rw [getB_heads g inn _ ha.len] at h; simp at h; exact h.1
      generalize hH : heads g inn (topRank g inn) = hds at *
      generalize (topRank g inn).tmod 2 = p at *
      obtain ⟨a1, m1⟩ := runN_attr (g := g) (p := p) ha.len 26 hds mv hhl hm (by have := cf_le hds; omega)
      obtain ⟨d1, B1, g1⟩ := grown_run (p := p) hg hnn hin 26 hds mv _ _ hhl hm grown_zero
      have ar2 := area_wo ha a1
      obtain ⟨l2, m2, s2⟩ := zsol_sub hg k _ _ ar2 m1
      have k2 := zsol_keep hg hnn k _ _ ar2 m1 v (by rw [getB_wo ha.len a1.len, hv]; rfl)
      have hnv : getB (runN g inn p 26 hds mv).1 v = false := by
        cases hx : getB (runN g inn p 26 hds mv).1 v
        · rfl
        · rcases g1.sub v hx with h | h
          · rw [hhs v h] at hv; cases hv
          · rw [h] at hv; cases hv
      have k1 := g1.keep v (.inl hnv)
      generalize runN g inn p 26 hds mv = N1 at *
      generalize zsol g k (woB inn N1.1) N1.2 = Z2 at *
      split
      · rw [setMv_get _ _ _ (fun w hw => by
          have := hin w (hhs w (trues_mem hw).2)
          omega)]
        rw [if_neg (fun h => by rw [hhs v (trues_mem h.1).2] at hv; cases hv), k2, k1]
      · rename_i hle
        have hll := as_len (p := 1 - p) ar2.len l2
        have hlsub : ∀ i : Nat, getB (asB (woB inn N1.1) (1 - p) Z2.1) i = true → getB inn i = true := fun i h => by
          have := as_sub ar2.len l2 s2 i h
          rw [getB_wo ha.len a1.len] at this; simp at this; exact this.1
        generalize asB (woB inn N1.1) (1 - p) Z2.1 = lost at *
        obtain ⟨a3, m3⟩ := runN_attr (g := g) (p := 1 - p) ha.len 26 lost Z2.2 hll m2 (by have := cf_le lost; omega)
        obtain ⟨d3, B3, g3⟩ := grown_run (p := 1 - p) hg hnn hin 26 lost Z2.2 _ _ hll m2 grown_zero
        have ar3 := area_wo ha a3
        have k4 := zsol_keep hg hnn k _ _ ar3 m3 v (by rw [getB_wo ha.len a3.len, hv]; rfl)
        have hfv : getB (runN g inn (1 - p) 26 lost Z2.2).1 v = false := by
          cases hx : getB (runN g inn (1 - p) 26 lost Z2.2).1 v
          · rfl
          · rcases g3.sub v hx with h | h
            · rw [hlsub v h] at hv; cases hv
            · rw [h] at hv; cases hv
        rw [k4, g3.keep v (.inl hfv), k2, k1]
end Go.AM.Pa
