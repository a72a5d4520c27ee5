/- A part of the proof: Q12. -/
import Derived.Test.YtmeajfgjbebkiaaQ11
import Derived.Test.YtmeajfgjbebkiaaQ8b
set_option linter.unusedSectionVars false
set_option linter.unusedVariables false
set_option linter.unusedSimpArgs false
namespace Go.AM.Pa
theorem getB_prB (f : Nat → Bool) (n i j : Nat) : getB (prB f n i) j = (decide (j < n) && (decide (j < i) && f j)) := by
  by_cases h : j < n
  · rw [getB_nat]; simp [prB, List.getD, h]
  · rw [getB_ge (by rw [prB_len]; omega)]; simp [h]
theorem getB_ini (set reg : List Bool) (n i j : Nat) : getB (ini set reg n i) j = (decide (j < n) && (decide (j < i) && (getB set j && getB reg j))) := by
  by_cases h : j < n
  · rw [getB_nat]; simp [ini, List.getD, h]
  · rw [getB_ge (by rw [ini_len]; omega)]; simp [h]
section
variable {g : Gm} {n : Nat} (hg : Good g) (hnn : g.next.length = n) {p : Int}
include hg hnn
theorem scan_eq {o24 on : List Bool} (he : ∀ i : Nat, getB o24 i = getB on i) : ∀ (r : List Int), (∀ u ∈ r, 0 ≤ u ∧ u < n) → ∀ s e m, (scan (fl n) o24 r s e m).1 = (scanR (prB (fun _ => true) n n) on r s e).1 ∧ (scan (fl n) o24 r s e m).2.1 = (scanR (prB (fun _ => true) n n) on r s e).2
  | [], _, s, e, m => ⟨rfl, rfl⟩
  | u :: r, hu, s, e, m => by
    have h1 := hu u List.mem_cons_self
    have ih := scan_eq he r (fun w hw => hu w (List.mem_cons_of_mem _ hw))
    have hn24 : n ≤ 24 := by have := hg.1; omega
    obtain ⟨k, rfl⟩ : ∃ k : Nat, u = (k : Int) := ⟨u.toNat, by omega⟩
    have e1 : getB (fl n) k = true := by rw [fl_getB hn24]; simp; omega
    have e2 : getB (prB (fun _ => true) n n) k = true := by rw [getB_prB]; simp; omega
    simp only [scan, scanR]
    rw [if_pos e1, if_pos e2, he k]
    cases hb : getB on k
    · simpa using ih s false m
    · simpa using ih true e k
theorem scan_all {on : List Bool} : ∀ (r : List Int), (∀ u ∈ r, 0 ≤ u ∧ u < n) → ∀ s e, (scanR (prB (fun _ => true) n n) on r s e).2 = true → (r ≠ [] ∨ s = true) → (scanR (prB (fun _ => true) n n) on r s e).1 = true
  | [], _, s, e, h, h2 => by simpa [scanR] using h2
  | u :: r, hu, s, e, h, h2 => by
    have h1 := hu u List.mem_cons_self
    have ih := scan_all (on := on) r (fun w hw => hu w (List.mem_cons_of_mem _ hw))
    obtain ⟨k, rfl⟩ : ∃ k : Nat, u = (k : Int) := ⟨u.toNat, by omega⟩
    have e2 : getB (prB (fun _ => true) n n) k = true := by rw [getB_prB]; simp; omega
    simp only [scanR] at h ⊢
    rw [if_pos e2] at h ⊢
    refine ih _ _ h ?_
    have key : ∀ (r : List Int) s, (scanR (prB (fun _ => true) n n) on r s false).2 = false := by
      intro r
      induction r with
      | nil => intro s; rfl
      | cons a r ih2 => intro s; simp only [scanR]; split <;> simp [ih2]
    cases hb : getB on k
    · rw [hb] at h
      simp only [Bool.and_false] at h
      rw [key] at h
      cases h
    · right; simp
/-- the two programs' states agree -/
def Eqv (n : Nat) (a : List Bool × List Int × Bool) (b : List Bool × Bool) : Prop := a.1.length = 24 ∧ b.1.length = n ∧ (∀ i : Nat, getB a.1 i = getB b.1 i) ∧ a.2.2 = b.2
theorem visit_eq {a : List Bool × List Int × Bool} {b : List Bool × Bool} (h : Eqv n a b) {v : Nat} (hv : v < n) : Eqv n (visit g (fl n) p a v) (visitR g (prB (fun _ => true) n n) p b v) := by
  obtain ⟨h1, h2, h3, h4⟩ := h
  have hn24 : n ≤ 24 := by have := hg.1; omega
  have e2 : getB (prB (fun _ => true) n n) v = true := by rw [getB_prB]; simp; omega
  unfold visit visitR
  rw [h3 v]
  cases hb : getB b.1 v
  · have hs := scan_eq hg hnn h3 (getLL g.next v) (row_mem hg hnn hv) false true (-1)
    have hal := scan_all hg hnn (on := b.1) (getLL g.next v) (row_mem hg hnn hv) false true
    have hv2 : ¬ (false = true ∨ getB (prB (fun _ => true) n n) (v : Int) = false) := by rw [e2]; simp
    rw [if_neg (show ¬ (false = true) by simp), if_neg hv2]
    simp only [hs.1, hs.2]
    generalize scanR (prB (fun _ => true) n n) b.1 (getLL g.next v) false true = q at *
    have hiff : ((getI g.owner v = p ∧ q.1 = true) ∨ (getI g.owner v ≠ p ∧ q.1 = true ∧ q.2 = true)) ↔ ((getI g.owner v = p ∧ q.1 = true) ∨ (getI g.owner v ≠ p ∧ q.2 = true)) := by
      constructor
      · rintro (h | ⟨h, h', h''⟩)
        · exact .inl h
        · exact .inr ⟨h, h''⟩
      · rintro (h | ⟨h, h'⟩)
        · exact .inl h
        · exact .inr ⟨h, hal h' (.inl (row_ne hg hnn hv)), h'⟩
    simp only [hiff]
    split
    · refine ⟨by simp [h1], by simp [h2], fun i => ?_, rfl⟩
      rw [getB_set, getB_set, h3 i, h1, h2]
      simp [hv, show v < 24 by omega]
    · exact ⟨h1, h2, h3, h4⟩
  · rw [if_pos rfl, if_pos (.inl rfl)]
    exact ⟨h1, h2, h3, h4⟩
theorem sweep_eq : ∀ (d i : Nat), i + d = 24 → ∀ {a : List Bool × List Int × Bool} {b : List Bool × Bool}, Eqv n a b → Eqv n ((truesFrom (fl n) d i).foldl (visit g (fl n) p) a) (swR g (prB (fun _ => true) n n) p (n - i) i b)
  | 0, i, hi, a, b, h => by
    have hn24 : n ≤ 24 := by have := hg.1; omega
    rw [show n - i = 0 by omega]
    exact h
  | d + 1, i, hi, a, b, h => by
    have hn24 : n ≤ 24 := by have := hg.1; omega
    simp only [truesFrom]
    rw [fl_getB hn24]
    by_cases hlt : i < n
    · rw [if_pos (by simpa using hlt), List.foldl_cons, show n - i = (n - (i + 1)) + 1 by omega]
      exact sweep_eq d (i + 1) (by omega) (visit_eq hg hnn h hlt)
    · rw [if_neg (by simpa using hlt)]
      have := sweep_eq d (i + 1) (by omega) h
      rw [show n - (i + 1) = n - i by omega] at this
      rw [show n - i = 0 by omega] at this ⊢
      exact this
theorem run_eq : ∀ (k : Nat) (o24 on : List Bool) (mv : List Int), o24.length = 24 → on.length = n → (∀ i : Nat, getB o24 i = getB on i) → ∀ i : Nat, getB (runN g (fl n) p k o24 mv).1 i = getB (runR g (prB (fun _ => true) n n) p k on) i
  | 0, o24, on, mv, _, _, h => h
  | k + 1, o24, on, mv, h1, h2, h => by
    have hs : Eqv n (sweep g (fl n) p o24 mv) (swR g (prB (fun _ => true) n n) p n 0 (on, false)) := sweep_eq hg hnn (p := p) 24 0 (by omega) (a := (o24, mv, false)) (b := (on, false)) ⟨h1, h2, h, rfl⟩
    simp only [runN, runR]
    rw [h2]
    generalize sweep g (fl n) p o24 mv = S at *
    generalize swR g (prB (fun _ => true) n n) p n 0 (on, false) = T at *
    obtain ⟨S1, S2, S3⟩ := S
    obtain ⟨T1, T2⟩ := T
    obtain ⟨e1, e2, e3, e4⟩ := hs
    simp only at e1 e2 e3 e4
    subst e4
    simp only
    split
    · exact run_eq k _ _ _ e1 e2 e3
    · exact e3
theorem attr_eq {l : List Int} (hl : Asc l n) : attrL g p l = attrR g p l := by
  have hn24 : n ≤ 24 := by have := hg.1; omega
  have hmem : ∀ v ∈ l, 0 ≤ v ∧ v < (n : Int) := by
    intro u hu
    obtain ⟨i, hi, rfl⟩ := List.getElem_of_mem hu
    have h := hl i hi
    unfold badAt at h
    simp only [getI_nat, List.getD, List.getElem?_eq_getElem hi, Option.getD_some] at h
    omega
  unfold attrL attrR
  simp only [hnn]
  have hr := run_eq hg hnn (p := p) 26 (mark z24 l) (ini (prB (fM l) n n) (prB (fun _ => true) n n) n n) (List.replicate n (-1)) (mark_len _ _) (ini_len _ _ _ _) (fun i => by
    rw [getB_mark l z24 n (by simpa [z24] using hn24) hmem i, getB_ini, getB_prB, getB_prB]
    have : getB z24 i = false := by
      rw [getB_nat]
      simp only [z24, List.getD]
      rw [List.getElem?_replicate]
      split <;> rfl
    rw [this]
    by_cases h : i < n
    · simp [h, fM]
    · have : ¬ ((i : Int) ∈ l) := fun h2 => by have := hmem _ h2; omega
      simp [h, this])
  have hlen := runR_len (g := g) (reg := prB (fun _ => true) n n) (p := p) 26 (ini (prB (fM l) n n) (prB (fun _ => true) n n) n n) (ini_len _ _ n n)
  generalize (runN g (fl n) p 26 (mark z24 l) (List.replicate n (-1))).1 = A at *
  generalize runR g (prB (fun _ => true) n n) p 26 (ini (prB (fM l) n n) (prB (fun _ => true) n n) n n) = B at *
  unfold coll trues
  rw [truesFrom_eq]
  congr 1
  have e : (List.range' 0 24) = List.range n ++ List.range' n (24 - n) := by
    have e0 := List.range'_append (s := 0) (m := n) (n := 24 - n) (step := 1)
    rw [Nat.one_mul, Nat.zero_add, show n + (24 - n) = 24 by omega] at e0
    rw [List.range_eq_range']
    exact e0.symm
  rw [e, List.filter_append]
  have e2 : (List.range' n (24 - n)).filter (fun (j : Nat) => getB A j) = [] := by
    rw [List.filter_eq_nil_iff]
    intro j hj
    have := List.mem_range'.1 hj
    rw [hr j, getB_ge (by omega)]
    simp
  rw [e2, List.append_nil]
  congr 1
  funext j
  exact hr j
end
end Go.AM.Pa
