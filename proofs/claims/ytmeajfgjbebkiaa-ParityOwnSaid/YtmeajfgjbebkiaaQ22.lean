/- A part of the proof: Q22. -/
import Derived.Test.YtmeajfgjbebkiaaQ21
set_option linter.unusedSectionVars false
set_option linter.unusedVariables false
set_option linter.unusedSimpArgs false
namespace Go.AM.Pa
theorem scan_spec (inn out : List Bool) : ∀ (r : List Int) (s e : Bool) (m : Int), (scan inn out r s e m).1 = (s || r.any fun u => getB inn u && getB out u) ∧ (scan inn out r s e m).2.1 = (e && r.all fun u => !getB inn u || getB out u)
  | [], s, e, m => by simp [scan]
  | u :: r, s, e, m => by
    simp only [scan]
    cases h1 : getB inn u
    · have := scan_spec inn out r s e m
      simp [this, h1]
    · cases h2 : getB out u
      · have := scan_spec inn out r s false m
        simp [this, h1, h2]
      · have := scan_spec inn out r true e u
        simp [this, h1, h2]
theorem scan_move (inn out : List Bool) : ∀ (r : List Int) (s e : Bool) (m : Int), (scan inn out r s e m).2.2 = m ∧ (r.any fun u => getB inn u && getB out u) = false ∨ ((scan inn out r s e m).2.2 ∈ r ∧ getB inn (scan inn out r s e m).2.2 = true ∧ getB out (scan inn out r s e m).2.2 = true)
  | [], s, e, m => by simp [scan]
  | u :: r, s, e, m => by
    simp only [scan]
    cases h1 : getB inn u
    · have := scan_move inn out r s e m
      rcases this with ⟨h, h'⟩ | ⟨h, h', h''⟩
      · left; exact ⟨by simpa using h, by rw [List.any_cons, h1, h']; rfl⟩
      · right; simpa using ⟨.inr h, h', h''⟩
    · cases h2 : getB out u
      · have := scan_move inn out r s false m
        rcases this with ⟨h, h'⟩ | ⟨h, h', h''⟩
        · left; exact ⟨by simpa using h, by rw [List.any_cons, h1, h2, h']; rfl⟩
        · right; simpa using ⟨.inr h, h', h''⟩
      · have := scan_move inn out r true e u
        rcases this with ⟨h, h'⟩ | ⟨h, h', h''⟩
        · right; simp [h, h1, h2]
        · right; simpa using ⟨.inr h, h', h''⟩
/-- is a place drawn in -/
def drawn (g : Gm) (inn : List Bool) (p : Int) (out : List Bool) (v : Nat) : Prop :=
  (getI g.owner v = p ∧ (getLL g.next v).any (fun u => getB inn u && getB out u) = true) ∨ (getI g.owner v ≠ p ∧ (getLL g.next v).any (fun u => getB inn u && getB out u) = true ∧ (getLL g.next v).all (fun u => !getB inn u || getB out u) = true)
instance (g : Gm) (inn : List Bool) (p : Int) (out : List Bool) (v : Nat) : Decidable (drawn g inn p out v) := by unfold drawn; infer_instance
theorem visit_def (g : Gm) (inn : List Bool) (p : Int) (out : List Bool) (mv : List Int) (gr : Bool) (v : Nat) : visit g inn p (out, mv, gr) v =
    if getB out v = true ∨ ¬ drawn g inn p out v then (out, mv, gr) else (out.set v true, if getI g.owner v = p then mv.set v (scan inn out (getLL g.next v) false true (-1)).2.2 else mv, true) := by
  have hs := scan_spec inn out (getLL g.next v) false true (-1)
  unfold visit
  simp only [hs.1, hs.2, Bool.false_or, Bool.true_and]
  by_cases h : getB out v = true
  · simp [h]
  · rw [if_neg h]
    by_cases hd : drawn g inn p out v
    · have hn : ¬ (getB out v = true ∨ ¬ drawn g inn p out v) := fun hx => hx.elim h fun k => k hd
      rw [if_neg hn]
      exact if_pos hd
    · have hn : getB out v = true ∨ ¬ drawn g inn p out v := .inr hd
      rw [if_pos hn]
      exact if_neg hd
theorem visit_gr {g : Gm} {inn : List Bool} {p : Int} {st : List Bool × List Int × Bool} (h : st.2.2 = true) (v : Nat) : (visit g inn p st v).2.2 = true := by
  obtain ⟨o, m, r⟩ := st
  rw [visit_def]
  split
  · exact h
  · rfl
theorem fold_gr {g : Gm} {inn : List Bool} {p : Int} : ∀ (l : List Nat) {st : List Bool × List Int × Bool}, st.2.2 = true → (l.foldl (visit g inn p) st).2.2 = true
  | [], _, h => h
  | v :: l, st, h => fold_gr l (visit_gr h v)
theorem fold_fix {g : Gm} {inn : List Bool} {p : Int} {out : List Bool} {mv : List Int} : ∀ (l : List Nat), (l.foldl (visit g inn p) (out, mv, false)).2.2 = false → l.foldl (visit g inn p) (out, mv, false) = (out, mv, false) ∧ ∀ v ∈ l, getB out v = true ∨ ¬ drawn g inn p out v
  | [], _ => ⟨rfl, fun v hv => by simp at hv⟩
  | v :: l, h => by
    rw [List.foldl_cons] at h ⊢
    rw [visit_def] at h ⊢
    by_cases hc : getB out v = true ∨ ¬ drawn g inn p out v
    · rw [if_pos hc] at h ⊢
      have ih := fold_fix l h
      refine ⟨ih.1, fun w hw => ?_⟩
      rcases List.mem_cons.1 hw with rfl | hw
      · exact hc
      · exact ih.2 w hw
    · rw [if_neg hc] at h
      rw [fold_gr l rfl] at h
      cases h
theorem trues_of {b : List Bool} {v : Nat} (hv : v < 24) (h : getB b v = true) : v ∈ trues b := by
  rw [trues, truesFrom_eq, List.mem_filter]
  exact ⟨List.mem_range'.2 ⟨v, by omega, by omega⟩, h⟩
/-- what holds of the attractor -/
structure IsAttr (g : Gm) (inn : List Bool) (p : Int) (to out : List Bool) : Prop where
  len : out.length = 24
  sub : ∀ i : Nat, getB to i = true → getB out i = true
  fix : ∀ i : Nat, getB inn i = true → getB out i = true ∨ ¬ drawn g inn p out i
theorem visit_sub {g : Gm} {inn : List Bool} {p : Int} {st : List Bool × List Int × Bool} {v i : Nat} (h : getB st.1 i = true) : getB (visit g inn p st v).1 i = true := by
  obtain ⟨o, m, r⟩ := st
  rw [visit_def]
  split
  · exact h
  · rw [getB_set]
    split
    · rfl
    · exact h
theorem fold_sub {g : Gm} {inn : List Bool} {p : Int} {i : Nat} : ∀ (l : List Nat) {st : List Bool × List Int × Bool}, getB st.1 i = true → getB (l.foldl (visit g inn p) st).1 i = true
  | [], _, h => h
  | v :: l, st, h => fold_sub l (visit_sub h)
theorem runN_attr {g : Gm} {inn : List Bool} {p : Int} {n : Nat} (hinn : inn.length = 24) : ∀ (k : Nat) (to : List Bool) (mv : List Int), to.length = 24 → mv.length = n → cf to < k → IsAttr g inn p to (runN g inn p k to mv).1 ∧ (runN g inn p k to mv).2.length = n
  | 0, _, _, _, _, h => by omega
  | k + 1, to, mv, h1, h2, h => by
    have ha := along_sweep (g := g) (inn := inn) (p := p) h1 h2
    have hsub : ∀ i : Nat, getB to i = true → getB (sweep g inn p to mv).1 i = true := fun i hi => fold_sub (trues inn) (st := (to, mv, false)) hi
    simp only [runN]
    split
    · rename_i hg
      have ih := runN_attr (g := g) (p := p) hinn k (sweep g inn p to mv).1 (sweep g inn p to mv).2.1 ha.1 ha.2.1 (by have := ha.2.2.2 hg; omega)
      exact ⟨⟨ih.1.len, fun i hi => ih.1.sub i (hsub i hi), ih.1.fix⟩, ih.2⟩
    · rename_i hg
      have hg' : (sweep g inn p to mv).2.2 = false := by simpa using hg
      have hf := fold_fix (g := g) (inn := inn) (p := p) (trues inn) hg'
      have e : sweep g inn p to mv = (to, mv, false) := hf.1
      rw [e]
      refine ⟨⟨h1, fun i hi => hi, fun i hi => ?_⟩, h2⟩
      refine hf.2 i (trues_of ?_ hi)
      rcases Nat.lt_or_ge i 24 with h | h
      · exact h
      · rw [getB_ge (by omega)] at hi; cases hi
theorem getB_wo {a b : List Bool} (ha : a.length = 24) (hb : b.length = 24) (i : Nat) : getB (woB a b) i = (getB a i && !getB b i) := by
  have key : ∀ (l : List Nat) (a : List Bool), getB (l.foldl (fun a v => a.set v false) a) i = (getB a i && !decide (i ∈ l)) := by
    intro l
    induction l with
    | nil => intro a; simp
    | cons v l ih =>
      intro a
      rw [List.foldl_cons, ih, getB_set]
      by_cases h : v = i
      · subst h
        by_cases h2 : v < a.length
        · simp [h2]
        · have := getB_ge (Nat.le_of_not_lt h2)
          simp [this]
      · have h' : ¬ i = v := fun e => h e.symm
        simp [h, h']
  rw [woB, key]
  congr 2
  by_cases h : getB b i = true
  · have hi : i < 24 := by
      rcases Nat.lt_or_ge i 24 with h3 | h3
      · exact h3
      · rw [getB_ge (by omega)] at h; cases h
    simp [h, trues_of hi h]
  · have : ¬ i ∈ trues b := fun hm => h (trues_mem hm).2
    simp [this, h]
end Go.AM.Pa
