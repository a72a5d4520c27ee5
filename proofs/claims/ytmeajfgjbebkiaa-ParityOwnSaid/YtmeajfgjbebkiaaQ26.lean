/- A part of the proof: Q26. -/
import Derived.Test.YtmeajfgjbebkiaaQ25
set_option linter.unusedSectionVars false
set_option linter.unusedVariables false
set_option linter.unusedSimpArgs false
namespace Go.AM.Pa
/-- how the attractor has grown: each place that was drawn in leads to earlier ones -/
structure Grown (g : Gm) (inn : List Bool) (p : Int) (to : List Bool) (mv0 : List Int) (out : List Bool) (mv : List Int) (d : Nat → Nat) (B : Nat) : Prop where
  bound : ∀ u : Nat, getB out u = true → d u < B
  mine : ∀ v : Nat, getB out v = true → getB to v = false → getI g.owner v = p → ∃ u : Nat, (u : Int) = getI mv v ∧ (u : Int) ∈ getLL g.next v ∧ getB inn u = true ∧ getB out u = true ∧ d u < d v
  thine : ∀ v : Nat, getB out v = true → getB to v = false → getI g.owner v ≠ p → ∀ u : Nat, (u : Int) ∈ getLL g.next v → getB inn u = true → getB out u = true ∧ d u < d v
  keep : ∀ v : Nat, (getB out v = false ∨ getB to v = true) → getI mv v = getI mv0 v
  sub : ∀ v : Nat, getB out v = true → getB to v = true ∨ getB inn v = true
  ext : ∀ v : Nat, getB to v = true → getB out v = true
theorem getI_set (l : List Int) (v : Nat) (x : Int) (i : Nat) : getI (l.set v x) i = if v = i ∧ v < l.length then x else getI l i := by
  simp only [getI_nat, List.getD]
  rw [List.getElem?_set]
  by_cases h : v = i
  · subst h
    by_cases h2 : v < l.length
    · simp [h2]
    · simp [h2, List.getElem?_eq_none (Nat.le_of_not_lt h2)]
  · simp [h]
theorem grown_visit {g : Gm} {inn : List Bool} {p : Int} {to : List Bool} {mv0 : List Int} {n : Nat} (hg : Good g) (hnn : g.next.length = n) {out : List Bool} {mv : List Int} {gr : Bool} {d : Nat → Nat} {B : Nat} (ho : out.length = 24) (hm : mv.length = n)
    (h : Grown g inn p to mv0 out mv d B) {v : Nat} (hv : getB inn v = true) (hvn : v < n) : ∃ d' B', Grown g inn p to mv0 (visit g inn p (out, mv, gr) v).1 (visit g inn p (out, mv, gr) v).2.1 d' B' := by
  rw [visit_def]
  have hn24 : n ≤ 24 := by have := hg.1; omega
  split
  · exact ⟨d, B, h⟩
  · rename_i hc
    have hc1 : getB out v = false := by
      cases hx : getB out v
      · rfl
      · exact absurd (.inl hx) hc
    have hd : drawn g inn p out v := Classical.byContradiction fun hx => hc (.inr hx)
    have hto : getB to v = false := by
      cases hx : getB to v
      · rfl
      · rw [h.ext v hx] at hc1; cases hc1
    have gs : ∀ i : Nat, getB (out.set v true) i = if v = i then true else getB out i := fun i => by
      rw [getB_set]
      by_cases e : v = i
      · simp [e, ho, show i < 24 by omega]
      · simp [e]
    have ne : ∀ u : Nat, getB out u = true → u ≠ v := fun u hu e => by subst e; rw [hc1] at hu; cases hu
    have hsc := scan_move inn out (getLL g.next v) false true (-1)
    generalize hq : (scan inn out (getLL g.next v) false true (-1)).2.2 = q at *
    have gm : ∀ i : Nat, getI (if getI g.owner v = p then mv.set v q else mv) i = if v = i ∧ getI g.owner v = p then q else getI mv i := fun i => by
      split
      · rename_i e
        rw [getI_set]
        by_cases e2 : v = i
        · simp [e2, hm, show i < n by omega, ← e]
        · simp [e2]
      · rename_i e
        simp [e]
    refine ⟨fun x => if x = v then B else d x, B + 1, ⟨?_, ?_, ?_, ?_, ?_, ?_⟩⟩
    · intro u hu
      simp only at hu ⊢
      rw [gs] at hu
      by_cases e : u = v
      · simp [e]
      · have e' : ¬ v = u := fun x => e x.symm
        rw [if_neg e'] at hu
        have := h.bound u hu
        simp only [e, if_false]; omega
    · intro w hw hw2 hw3
      simp only at hw ⊢
      rw [gs] at hw
      by_cases e : v = w
      · subst e
        have hany : ((getLL g.next v).any fun u => getB inn u && getB out u) = true := by
          rcases hd with ⟨-, h2⟩ | ⟨h1, -⟩
          · exact h2
          · exact absurd hw3 h1
        rcases hsc with ⟨-, h2⟩ | ⟨h1, h2, h3⟩
        · rw [hany] at h2; cases h2
        · have hr := row_mem hg hnn hvn q h1
          obtain ⟨u, rfl⟩ : ∃ u : Nat, q = (u : Int) := ⟨q.toNat, by omega⟩
          refine ⟨u, by rw [gm, if_pos ⟨rfl, hw3⟩], h1, h2, by rw [gs]; split <;> simp_all, ?_⟩
          have := h.bound u h3
          simp [ne u h3, this]
      · rw [if_neg e] at hw
        obtain ⟨u, u1, u2, u3, u4, u5⟩ := h.mine w hw hw2 hw3
        refine ⟨u, by rw [gm, if_neg (fun x => e x.1)]; exact u1, u2, u3, by rw [gs]; split <;> simp_all, ?_⟩
        simp only [ne u u4, ne w hw, if_false]
        exact u5
    · intro w hw hw2 hw3 u hu1 hu2
      simp only at hw ⊢
      rw [gs] at hw
      by_cases e : v = w
      · subst e
        have hall : ((getLL g.next v).all fun u => !getB inn u || getB out u) = true := by
          rcases hd with ⟨h1, -⟩ | ⟨-, -, h2⟩
          · exact absurd h1 hw3
          · exact h2
        have := List.all_eq_true.1 hall _ hu1
        rw [hu2] at this
        have huo : getB out u = true := by simpa using this
        refine ⟨by rw [gs]; split <;> simp_all, ?_⟩
        have := h.bound u huo
        simp [ne u huo, this]
      · rw [if_neg e] at hw
        obtain ⟨u4, u5⟩ := h.thine w hw hw2 hw3 u hu1 hu2
        refine ⟨by rw [gs]; split <;> simp_all, ?_⟩
        simp only [ne u u4, ne w hw, if_false]
        exact u5
    · intro w hw
      simp only at hw ⊢
      rw [gs] at hw
      by_cases e : v = w
      · subst e
        rw [if_pos rfl] at hw
        rcases hw with hw | hw
        · cases hw
        · rw [hto] at hw; cases hw
      · rw [if_neg e] at hw
        rw [gm, if_neg (fun x => e x.1)]
        exact h.keep w hw
    · intro w hw
      simp only at hw
      rw [gs] at hw
      by_cases e : v = w
      · subst e; exact .inr hv
      · rw [if_neg e] at hw; exact h.sub w hw
    · intro w hw
      simp only
      rw [gs]
      split
      · rfl
      · exact h.ext w hw
theorem grown_fold {g : Gm} {inn : List Bool} {p : Int} {to : List Bool} {mv0 : List Int} {n : Nat} (hg : Good g) (hnn : g.next.length = n) : ∀ (l : List Nat), (∀ v ∈ l, getB inn (v : Nat) = true ∧ v < n) → ∀ (st : List Bool × List Int × Bool) (d : Nat → Nat) (B : Nat), st.1.length = 24 → st.2.1.length = n → Grown g inn p to mv0 st.1 st.2.1 d B →
    ∃ d' B', Grown g inn p to mv0 (l.foldl (visit g inn p) st).1 (l.foldl (visit g inn p) st).2.1 d' B' ∧ (l.foldl (visit g inn p) st).1.length = 24 ∧ (l.foldl (visit g inn p) st).2.1.length = n
  | [], _, st, d, B, h1, h2, h => ⟨d, B, h, h1, h2⟩
  | v :: l, hl, (o, m, r), d, B, h1, h2, h => by
    have hv := hl v List.mem_cons_self
    have hn24 : n ≤ 24 := by have := hg.1; omega
    obtain ⟨d', B', h'⟩ := grown_visit (gr := r) hg hnn h1 h2 h hv.1 hv.2
    have hal : Along o n (o, m, false) := ⟨h1, h2, fun _ => rfl, fun h => by simp at h⟩
    have len : (visit g inn p (o, m, r) v).1.length = 24 ∧ (visit g inn p (o, m, r) v).2.1.length = n := by
      rw [visit_def]
      split
      · exact ⟨h1, h2⟩
      · refine ⟨by simpa using h1, ?_⟩
        show (if _ then _ else _ : List Int).length = n
        split <;> simpa using h2
    rw [List.foldl_cons]
    exact grown_fold hg hnn l (fun w hw => hl w (List.mem_cons_of_mem _ hw)) _ d' B' len.1 len.2 h'
theorem grown_run {g : Gm} {inn : List Bool} {p : Int} {to : List Bool} {mv0 : List Int} {n : Nat} (hg : Good g) (hnn : g.next.length = n) (hin : ∀ i : Nat, getB inn i = true → i < n) : ∀ (k : Nat) (out : List Bool) (mv : List Int) (d : Nat → Nat) (B : Nat), out.length = 24 → mv.length = n → Grown g inn p to mv0 out mv d B → ∃ d' B', Grown g inn p to mv0 (runN g inn p k out mv).1 (runN g inn p k out mv).2 d' B'
  | 0, out, mv, d, B, _, _, h => ⟨d, B, h⟩
  | k + 1, out, mv, d, B, h1, h2, h => by
    obtain ⟨d', B', h', l1, l2⟩ := grown_fold hg hnn (trues inn) (fun v hv => ⟨(trues_mem hv).2, hin v (trues_mem hv).2⟩) (out, mv, false) d B h1 h2 h
    simp only [runN]
    split
    · exact grown_run hg hnn hin k _ _ d' B' l1 l2 h'
    · exact ⟨d', B', h'⟩
theorem grown_zero {g : Gm} {inn : List Bool} {p : Int} {to : List Bool} {mv : List Int} : Grown g inn p to mv to mv (fun _ => 0) 1 :=
  ⟨fun _ _ => Nat.zero_lt_one, fun v h1 h2 => (by rw [h1] at h2; cases h2), fun v h1 h2 => (by rw [h1] at h2; cases h2), fun _ _ => rfl, fun v h => .inl h, fun _ h => h⟩
end Go.AM.Pa
