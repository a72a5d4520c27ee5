/- A part of the proof: Q23. -/
import Derived.Test.YtmeajfgjbebkiaaQ22
set_option linter.unusedSectionVars false
set_option linter.unusedVariables false
set_option linter.unusedSimpArgs false
namespace Go.AM.Pa
def asB (i : List Bool) (p : Int) (w : List Bool) : List Bool := if p = 0 then w else woB i w
def firstIn (g : Gm) (inn : List Bool) (v : Nat) : Int := match (getLL g.next v).findIdx? (fun u => getB inn u) with
  | some j => getI (getLL g.next v) j
  | none => 0
def setStep (g : Gm) (inn : List Bool) (p : Int) (mv : List Int) (v : Nat) : List Int := if getI g.owner v = p then mv.set v (firstIn g inn v) else mv
def setMv (g : Gm) (inn : List Bool) (p : Int) (hs : List Nat) (mv : List Int) : List Int := hs.foldl (setStep g inn p) mv
def zsol (g : Gm) : Nat → List Bool → List Int → List Bool × List Int
  | 0, inn, mv => (inn, mv)
  | k + 1, inn, mv =>
    if inn = z24 then (inn, mv) else
    let r := topRank g inn
    let p := r.tmod 2
    let near := runN g inn p 26 (heads g inn r) mv
    let in2 := woB inn near.1
    let z2 := zsol g k in2 near.2
    let lost := asB in2 (1 - p) z2.1
    if lost = z24 then (asB inn p inn, setMv g inn p (trues (heads g inn r)) z2.2) else
    let far := runN g inn (1 - p) 26 lost z2.2
    let in3 := woB inn far.1
    let z3 := zsol g k in3 far.2
    (asB inn p (asB in3 p z3.1), z3.2)
/-- a region that can be played -/
structure Area (g : Gm) (inn : List Bool) : Prop where
  len : inn.length = 24
  lt : ∀ i : Nat, getB inn i = true → i < g.next.length
  go : ∀ i : Nat, getB inn i = true → ∃ u ∈ getLL g.next i, getB inn u = true
theorem wo_len {a b : List Bool} (ha : a.length = 24) : (woB a b).length = 24 := by rw [woB, woB_len, ha]
theorem as_len {i w : List Bool} {p : Int} (hi : i.length = 24) (hw : w.length = 24) : (asB i p w).length = 24 := by
  unfold asB; split
  · exact hw
  · exact wo_len hi
theorem getB_nonneg {b : List Bool} {u : Int} : getB b u = getB b ((u.toNat : Nat) : Int) := by
  unfold getB
  rw [Int.toNat_natCast]
theorem area_wo {g : Gm} {inn to A : List Bool} {p : Int} (h : Area g inn) (ha : IsAttr g inn p to A) : Area g (woB inn A) := by
  have hw := fun i => getB_wo h.len ha.len i
  refine ⟨wo_len h.len, fun i hi => ?_, fun i hi => ?_⟩
  · rw [hw] at hi
    exact h.lt i (by simp at hi; exact hi.1)
  · rw [hw] at hi
    simp only [Bool.and_eq_true, Bool.not_eq_true'] at hi
    have hd := (ha.fix i hi.1).resolve_left (by rw [hi.2]; simp)
    obtain ⟨u, hu, hui⟩ := h.go i hi.1
    have goal : ∀ u ∈ getLL g.next i, getB inn u = true → getB A u = false → ∃ u ∈ getLL g.next i, getB (woB inn A) u = true := fun u hu h1 h2 => by
      refine ⟨u, hu, ?_⟩
      rw [getB_nonneg] at h1 h2 ⊢
      rw [hw, h1, h2]
      rfl
    unfold drawn at hd
    by_cases ho : getI g.owner i = p
    · have : ((getLL g.next i).any fun u => getB inn u && getB A u) ≠ true := fun e => hd (.inl ⟨ho, e⟩)
      have hna : getB A u = false := by
        cases hx : getB A u
        · rfl
        · exact absurd (List.any_eq_true.2 ⟨u, hu, by rw [hui, hx]; rfl⟩) this
      exact goal u hu hui hna
    · by_cases hany : ((getLL g.next i).any fun u => getB inn u && getB A u) = true
      · have hall : ((getLL g.next i).all fun u => !getB inn u || getB A u) ≠ true := fun e => hd (.inr ⟨ho, hany, e⟩)
        have : ∃ w ∈ getLL g.next i, ¬ ((!getB inn w || getB A w) = true) := by
          rw [Ne, List.all_eq_true] at hall
          exact Classical.byContradiction fun hx => hall fun w hw => Classical.byContradiction fun hy => hx ⟨w, hw, hy⟩
        obtain ⟨w, hw1, hw2⟩ := this
        have h1 : getB inn w = true := by cases hx : getB inn w <;> simp [hx] at hw2 ⊢
        have h2 : getB A w = false := by cases hx : getB A w <;> simp [hx] at hw2 ⊢
        exact goal w hw1 h1 h2
      · have hna : getB A u = false := by
          cases hx : getB A u
          · rfl
          · exact absurd (List.any_eq_true.2 ⟨u, hu, by rw [hui, hx]; rfl⟩) hany
        exact goal u hu hui hna
def ct (b : List Bool) : Nat := b.count true
theorem ct_lt : ∀ (a b : List Bool), a.length = b.length → (∀ i : Nat, b.getD i false = true → a.getD i false = true) → (∃ i : Nat, a.getD i false = true ∧ b.getD i false = false) → ct b < ct a
  | [], [], _, _, ⟨i, h, _⟩ => by simp at h
  | x :: a, y :: b, hl, h, ⟨i, h1, h2⟩ => by
    have hl' : a.length = b.length := by simpa using hl
    have h' : ∀ i : Nat, b.getD i false = true → a.getD i false = true := fun i hi => by have := h (i + 1); simpa using this (by simpa using hi)
    have le : ct b ≤ ct a := by
      by_cases hx : ∃ i : Nat, a.getD i false = true ∧ b.getD i false = false
      · exact Nat.le_of_lt (ct_lt a b hl' h' hx)
      · have : a = b := by
          refine List.ext_getElem hl' fun i h3 h4 => ?_
          have e1 := h' i
          have e2 : ¬ (a.getD i false = true ∧ b.getD i false = false) := fun e => hx ⟨i, e⟩
          simp [List.getD, h3, h4] at e1 e2
          cases ha : a[i] <;> cases hb : b[i] <;> simp_all
        rw [this]; exact Nat.le_refl _
    have hxy : y = true → x = true := by have := h 0; simpa using this
    simp only [ct, List.count_cons] at *
    rcases i with _ | i
    · simp at h1 h2
      subst h1; subst h2
      simp; omega
    · have := ct_lt a b hl' h' ⟨i, by simpa using h1, by simpa using h2⟩
      simp only [ct] at this
      cases x <;> cases y <;> simp at hxy ⊢ <;> omega
  | [], _ :: _, hl, _, _ => by simp at hl
  | _ :: _, [], hl, _, _ => by simp at hl
theorem getB_eq (b : List Bool) (i : Nat) : b.getD i false = getB b i := (getB_nat b i).symm
theorem ct_wo {a A : List Bool} (ha : a.length = 24) (hA : A.length = 24) {i : Nat} (h1 : getB a i = true) (h2 : getB A i = true) : ct (woB a A) < ct a := by
  refine ct_lt a (woB a A) (by rw [ha, wo_len ha]) (fun j hj => ?_) ⟨i, ?_, ?_⟩
  · rw [getB_eq, getB_wo ha hA] at hj
    rw [getB_eq]
    simp at hj; exact hj.1
  · rw [getB_eq]; exact h1
  · rw [getB_eq, getB_wo ha hA, h1, h2]; rfl
theorem ne_z {b : List Bool} (hb : b.length = 24) (h : b ≠ z24) : ∃ i : Nat, getB b i = true := by
  refine Classical.byContradiction fun hx => h ?_
  refine List.ext_getElem (by rw [hb, z24_len]) fun i h1 h2 => ?_
  have : getB b i ≠ true := fun e => hx ⟨i, e⟩
  rw [getB_nat] at this
  simp [List.getD, h1] at this
  rw [this]
  exact (List.getElem_replicate h2).symm
theorem top_spec (g : Gm) : ∀ (l : List Nat) (r : Int), (l.foldl (mxStep g) r = r ∨ ∃ v ∈ l, getI g.rank v = l.foldl (mxStep g) r) ∧ r ≤ l.foldl (mxStep g) r ∧ ∀ v ∈ l, getI g.rank v ≤ l.foldl (mxStep g) r
  | [], r => ⟨.inl rfl, Int.le_refl _, fun v hv => by simp at hv⟩
  | w :: l, r => by
    rw [List.foldl_cons]
    obtain ⟨h1, h2, h3⟩ := top_spec g l (mxStep g r w)
    have e : mxStep g r w = r ∨ mxStep g r w = getI g.rank w := by unfold mxStep; split <;> simp
    have e1 : r ≤ mxStep g r w ∧ getI g.rank w ≤ mxStep g r w := by unfold mxStep; split <;> omega
    refine ⟨?_, by omega, fun v hv => ?_⟩
    · rcases h1 with h1 | ⟨v, hv, h1⟩
      · rcases e with e | e
        · left; rw [h1, e]
        · right; exact ⟨w, List.mem_cons_self, by rw [h1, e]⟩
      · right; exact ⟨v, List.mem_cons_of_mem _ hv, h1⟩
    · rcases List.mem_cons.1 hv with rfl | hv
      · omega
      · exact h3 v hv
theorem getB_heads (g : Gm) (inn : List Bool) (r : Int) (hinn : inn.length = 24) (i : Nat) : getB (heads g inn r) i = (getB inn i && decide (getI g.rank i = r)) := by
  have key : ∀ (l : List Nat) (b : List Bool), b.length = 24 → (∀ v ∈ l, v < 24) → getB (l.foldl (fun (b : List Bool) (v : Nat) => b.set v (decide (getI g.rank v = r))) b) i = if i ∈ l then decide (getI g.rank i = r) else getB b i := by
    intro l
    induction l with
    | nil => intro b _ _; simp
    | cons v l ih =>
      intro b hb hl
      rw [List.foldl_cons, ih _ (by simpa using hb) (fun w hw => hl w (List.mem_cons_of_mem _ hw)), getB_set]
      have hv := hl v List.mem_cons_self
      by_cases h : i ∈ l
      · simp [h]
      · by_cases h2 : v = i
        · subst h2; simp [hb, hv]
        · have : ¬ i = v := fun e => h2 e.symm
          simp [h, h2, this]
  rw [heads, key _ _ z24_len fun v hv => (trues_mem hv).1]
  have hz : getB z24 i = false := by
    rw [getB_nat]
    simp only [z24, List.getD]
    rw [List.getElem?_replicate]
    split <;> rfl
  by_cases h : getB inn i = true
  · have hi : i < 24 := by
      rcases Nat.lt_or_ge i 24 with h3 | h3
      · exact h3
      · rw [getB_ge (by omega)] at h; cases h
    rw [if_pos (trues_of hi h), h]; simp
  · have : ¬ i ∈ trues inn := fun hm => h (trues_mem hm).2
    rw [if_neg this, hz]
    simp [h]
/-- the greatest rank is there -/
theorem top_head {g : Gm} {inn : List Bool} (hg : Good g) (ha : Area g inn) (hne : inn ≠ z24) : (∃ i : Nat, getB inn i = true ∧ getB (heads g inn (topRank g inn)) i = true) ∧ 0 ≤ topRank g inn ∧ topRank g inn ≤ 9 ∧ ∀ i : Nat, getB inn i = true → getI g.rank i ≤ topRank g inn := by
  obtain ⟨i, hi⟩ := ne_z ha.len hne
  have hlt : ∀ i : Nat, getB inn i = true → i < 24 := fun i h => by have := ha.lt i h; have := hg.1; omega
  have ht := trues_of (hlt i hi) hi
  obtain ⟨h1, h2, h3⟩ := top_spec g (trues inn) (-1)
  have hr : ∀ v ∈ trues inn, 0 ≤ getI g.rank v ∧ getI g.rank v ≤ 9 := fun v hv => (hg.2.2.2 v (ha.lt v (trues_mem hv).2)).2.1
  have h0 := hr i ht
  have h4 := h3 i ht
  change topRank g inn = -1 ∨ ∃ v ∈ trues inn, getI g.rank v = topRank g inn at h1
  change -1 ≤ topRank g inn at h2
  change ∀ v ∈ trues inn, getI g.rank v ≤ topRank g inn at h3
  change getI g.rank i ≤ topRank g inn at h4
  rcases h1 with h1 | ⟨v, hv, h1⟩
  · omega
  · have := hr v hv
    refine ⟨⟨v, (trues_mem hv).2, ?_⟩, by omega, by omega, fun j hj => h3 j (trues_of (hlt j hj) hj)⟩
    rw [getB_heads g inn _ ha.len, (trues_mem hv).2, h1]
    simp
theorem setMv_len (g : Gm) (inn : List Bool) (p : Int) : ∀ (hs : List Nat) (mv : List Int), (setMv g inn p hs mv).length = mv.length
  | [], mv => rfl
  | v :: hs, mv => by
    rw [setMv, List.foldl_cons]
    refine (setMv_len g inn p hs _).trans ?_
    unfold setStep; split <;> simp
theorem as_sub {inn w : List Bool} {p : Int} (hi : inn.length = 24) (hw : w.length = 24) (h : ∀ i : Nat, getB w i = true → getB inn i = true) : ∀ i : Nat, getB (asB inn p w) i = true → getB inn i = true := fun i hh => by
  unfold asB at hh
  split at hh
  · exact h i hh
  · rw [getB_wo hi hw] at hh; simp at hh; exact hh.1
theorem zsol_sub {g : Gm} (hg : Good g) {n : Nat} : ∀ (k : Nat) (inn : List Bool) (mv : List Int), Area g inn → mv.length = n → (zsol g k inn mv).1.length = 24 ∧ (zsol g k inn mv).2.length = n ∧ ∀ i : Nat, getB (zsol g k inn mv).1 i = true → getB inn i = true
  | 0, inn, mv, ha, hm => ⟨ha.len, hm, fun i h => h⟩
  | k + 1, inn, mv, ha, hm => by
    simp only [zsol]
    split
    · exact ⟨ha.len, hm, fun i h => h⟩
    · have hhl : (heads g inn (topRank g inn)).length = 24 := by rw [heads, heads_len, z24_len]
      obtain ⟨a1, m1⟩ := runN_attr (g := g) (p := (topRank g inn).tmod 2) ha.len 26 (heads g inn (topRank g inn)) mv hhl hm (by have := cf_le (heads g inn (topRank g inn)); omega)
      have ar2 := area_wo ha a1
      obtain ⟨l2, m2, s2⟩ := zsol_sub hg k _ _ ar2 m1
      generalize zsol g k (woB inn (runN g inn ((topRank g inn).tmod 2) 26 (heads g inn (topRank g inn)) mv).1) (runN g inn ((topRank g inn).tmod 2) 26 (heads g inn (topRank g inn)) mv).2 = Z2 at *
      generalize (topRank g inn).tmod 2 = p at *
      generalize (runN g inn p 26 (heads g inn (topRank g inn)) mv) = N1 at *
      have wsub : ∀ (A : List Bool), A.length = 24 → ∀ i : Nat, getB (woB inn A) i = true → getB inn i = true := fun A hA i h => by
        rw [getB_wo ha.len hA] at h; simp at h; exact h.1
      split
      · exact ⟨as_len ha.len ha.len, by rw [setMv_len]; exact m2, fun i h => as_sub ha.len ha.len (fun _ h => h) i h⟩
      · have hll := as_len (p := 1 - p) ar2.len l2
        obtain ⟨a3, m3⟩ := runN_attr (g := g) (p := 1 - p) ha.len 26 (asB (woB inn N1.1) (1 - p) Z2.1) Z2.2 hll m2 (by have := cf_le (asB (woB inn N1.1) (1 - p) Z2.1); omega)
        have ar3 := area_wo ha a3
        obtain ⟨l4, m4, s4⟩ := zsol_sub hg k _ _ ar3 m3
        have hal := as_len (p := p) ar3.len l4
        refine ⟨as_len ha.len hal, m4, fun i h => as_sub ha.len hal (fun i h => ?_) i h⟩
        exact wsub _ a3.len i (as_sub ar3.len l4 s4 i h)
end Go.AM.Pa
