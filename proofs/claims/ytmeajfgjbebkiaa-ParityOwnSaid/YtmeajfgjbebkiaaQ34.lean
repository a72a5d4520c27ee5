/- A part of the proof: Q34. -/
import Derived.Test.YtmeajfgjbebkiaaQ28
set_option linter.unusedSectionVars false
set_option linter.unusedVariables false
set_option linter.unusedSimpArgs false
namespace Go.AM.Pa
/-! plays without end, and who wins them -/
theorem lim_some {g : Gm} {f : Nat → Nat} (h0 : ∀ i, 0 ≤ getI g.rank (f i)) : ∀ (B : Nat) (N : Nat), (∀ i, N ≤ i → getI g.rank (f i) ≤ (B : Int) - 1) → ∃ r, Lim g f r
  | 0, N, h => by have := h N (Nat.le_refl _); have := h0 N; omega
  | B + 1, N, h => by
    by_cases hio : ∀ M, ∃ i, M ≤ i ∧ getI g.rank (f i) = (B : Int)
    · exact ⟨B, hio, N, fun i hi => by have := h i hi; omega⟩
    · obtain ⟨M, hM⟩ := Classical.not_forall.1 hio
      refine lim_some h0 B (N + M) fun i hi => ?_
      have h1 := h i (by omega)
      have h2 : getI g.rank (f i) ≠ (B : Int) := fun e => hM ⟨i, by omega, e⟩
      omega
theorem path_some {S : Nat → Prop} {E : Nat → Nat → Prop} (h : ∀ v, S v → ∃ u, S u ∧ E v u) {v : Nat} (hv : S v) : ∃ f : Nat → Nat, f 0 = v ∧ ∀ i, S (f i) ∧ E (f i) (f (i + 1)) := by
  let F : Nat → { x : Nat // S x } := fun i => Nat.rec ⟨v, hv⟩ (fun _ x => ⟨Classical.choose (h x.1 x.2), (Classical.choose_spec (h x.1 x.2)).1⟩) i
  exact ⟨fun i => (F i).1, rfl, fun i => ⟨(F i).2, (Classical.choose_spec (h (F i).1 (F i).2)).2⟩⟩
def Wins (g : Gm) (p : Int) (A : Nat → Prop) (E : Nat → Nat → Prop) : Prop := ∀ f : Nat → Nat, (∀ i, A (f i) ∧ E (f i) (f (i + 1))) → ∀ r, Lim g f r → r.tmod 2 = p
/-- an edge that a player's moves allow -/
def Ed (g : Gm) (mv : List Int) (p : Int) (v u : Nat) : Prop := (u : Int) ∈ getLL g.next v ∧ (getI g.owner v = p → (u : Int) = getI mv v)
/-- moves that win within a set of positions -/
structure Strat (g : Gm) (mv : List Int) (p : Int) (A : Nat → Prop) : Prop where
  lt : ∀ v, A v → v < g.next.length
  mem : ∀ v, A v → getI g.owner v = p → ∃ u : Nat, (u : Int) = getI mv v ∧ (u : Int) ∈ getLL g.next v ∧ A u
  trap : ∀ v, A v → getI g.owner v ≠ p → ∀ u : Nat, (u : Int) ∈ getLL g.next v → A u
  win : Wins g p A (Ed g mv p)
theorem strat_apart {g : Gm} (hg : Good g) {p : Int} {mv mv' : List Int} {A B : Nat → Prop} (a : Strat g mv p A) (b : Strat g mv' (1 - p) B) (hp : p = 0 ∨ p = 1) (v : Nat) (hA : A v) (hB : B v) : False := by
  have step : ∀ v, A v ∧ B v → ∃ u, (A u ∧ B u) ∧ (Ed g mv p v u ∧ Ed g mv' (1 - p) v u) := fun v ⟨ha, hb⟩ => by
    have hv := a.lt v ha
    by_cases ho : getI g.owner v = p
    · obtain ⟨u, u1, u2, u3⟩ := a.mem v ha ho
      exact ⟨u, ⟨u3, b.trap v hb (by omega) u u2⟩, ⟨u2, fun _ => u1⟩, ⟨u2, fun h => by omega⟩⟩
    · have ho2 : getI g.owner v = 1 - p := by
        have := (hg.2.2.2 v hv).1
        omega
      obtain ⟨u, u1, u2, u3⟩ := b.mem v hb ho2
      exact ⟨u, ⟨a.trap v ha ho u u2, u3⟩, ⟨u2, fun h => absurd h ho⟩, ⟨u2, fun _ => u1⟩⟩
  obtain ⟨f, -, hf⟩ := path_some step ⟨hA, hB⟩
  obtain ⟨r, hr⟩ := lim_some (g := g) (f := f) (fun i => ((hg.2.2.2 (f i) (a.lt _ (hf i).1.1)).2.1).1) 10 0 (fun i _ => by
    have := ((hg.2.2.2 (f i) (a.lt _ (hf i).1.1)).2.1).2
    omega)
  have h1 := a.win f (fun i => ⟨(hf i).1.1, (hf i).2.1⟩) r hr
  have h2 := b.win f (fun i => ⟨(hf i).1.2, (hf i).2.2⟩) r hr
  omega
/-- what the program finds -/
theorem strat_z {g : Gm} (hg : Good g) {p : Int} (hp : p = 0 ∨ p = 1) : Strat g (zAll g).2 p fun v => v < g.next.length ∧ winA (zAll g).1 v = p := by
  have s := zAll_sol hg
  have hside : ∀ w : Nat, Side (fl g.next.length) (zAll g).1 p w ↔ (w < g.next.length ∧ winA (zAll g).1 w = p) := fun w => by
    unfold Side winA
    rw [fl_getB hg.1.2]
    rcases hp with rfl | rfl <;> cases getB (zAll g).1 w <;> simp
  refine ⟨fun v h => h.1, fun v h ho => ?_, fun v h ho u hu => ?_, fun f hf r hr => ?_⟩
  · obtain ⟨u, u1, u2, u3⟩ := s.mem p hp v ((hside v).2 h) ho
    exact ⟨u, u1, u2, (hside u).1 u3⟩
  · have hu2 := row_mem hg rfl h.1 u hu
    exact (hside u).1 (s.trap p hp v ((hside v).2 h) ho u hu (by rw [fl_getB hg.1.2]; simp; omega))
  · refine s.win p hp f (fun i => ⟨(hside _).2 (hf i).1, (hf i).2.1, ?_, (hf i).2.2⟩) r hr
    rw [fl_getB hg.1.2]; simpa using (hf (i + 1)).1.1
/-- the winners are unique -/
theorem strat_uniq {g : Gm} (hg : Good g) {p : Int} (hp : p = 0 ∨ p = 1) {mv : List Int} {A : Nat → Prop} (a : Strat g mv p A) {v : Nat} (hv : A v) : winA (zAll g).1 v = p := by
  have hw : winA (zAll g).1 v = p ∨ winA (zAll g).1 v = 1 - p := by
    unfold winA
    split <;> omega
  refine hw.resolve_right fun h => ?_
  exact strat_apart hg a (strat_z hg (p := 1 - p) (by omega)) hp v hv ⟨a.lt v hv, h⟩
/-- more successors for a player -/
theorem strat_more {g h : Gm} {p : Int} {mv : List Int} {A : Nat → Prop} (a : Strat g mv p A) (ho : ∀ v : Nat, getI h.owner v = getI g.owner v) (hr : ∀ v : Nat, getI h.rank v = getI g.rank v) (hl : h.next.length = g.next.length)
    (hs : ∀ v : Nat, v < g.next.length → ∀ u, u ∈ getLL g.next v → u ∈ getLL h.next v) (he : ∀ v : Nat, v < g.next.length → getI g.owner v ≠ p → getLL h.next v = getLL g.next v) : Strat h mv p A := by
  refine ⟨fun v hv => by rw [hl]; exact a.lt v hv, fun v hv hov => ?_, fun v hv hov u hu => ?_, fun f hf r hr' => ?_⟩
  · rw [ho] at hov
    obtain ⟨u, u1, u2, u3⟩ := a.mem v hv hov
    exact ⟨u, u1, hs v (a.lt v hv) u u2, u3⟩
  · rw [ho] at hov
    rw [he v (a.lt v hv) hov] at hu
    exact a.trap v hv hov u hu
  · refine a.win f (fun i => ⟨(hf i).1, ?_⟩) r ?_
    · obtain ⟨h1, h2⟩ := (hf i).2
      have hlt := a.lt _ (hf i).1
      by_cases hov : getI g.owner (f i) = p
      · have h3 := h2 (by rw [ho]; exact hov)
        obtain ⟨u, u1, u2, u3⟩ := a.mem _ (hf i).1 hov
        refine ⟨?_, fun _ => h3⟩
        rw [h3, ← u1]; exact u2
      · rw [he _ hlt hov] at h1
        exact ⟨h1, fun h => absurd h hov⟩
    · obtain ⟨q1, N, q2⟩ := hr'
      exact ⟨fun M => by obtain ⟨i, hi, e⟩ := q1 M; exact ⟨i, hi, by rw [← hr]; exact e⟩, N, fun i hi => by rw [← hr]; exact q2 i hi⟩
/-- the players exchanged -/
theorem strat_turn {g h : Gm} {p : Int} {mv : List Int} {A : Nat → Prop} (a : Strat g mv p A) (ho : ∀ v : Nat, v < g.next.length → getI h.owner v = 1 - getI g.owner v) (hr : ∀ v : Nat, v < g.next.length → getI h.rank v = getI g.rank v + 1) (hpos : ∀ v : Nat, v < g.next.length → 0 ≤ getI g.rank v) (hn : h.next = g.next) (hp : p = 0 ∨ p = 1) : Strat h mv (1 - p) A := by
  refine ⟨fun v hv => by rw [hn]; exact a.lt v hv, fun v hv hov => ?_, fun v hv hov u hu => ?_, fun f hf r hr' => ?_⟩
  · rw [ho v (a.lt v hv)] at hov
    rw [hn]
    exact a.mem v hv (by omega)
  · rw [ho v (a.lt v hv)] at hov
    rw [hn] at hu
    exact a.trap v hv (by omega) u hu
  · have hlt := fun i => a.lt _ (hf i).1
    have := a.win f (fun i => ⟨(hf i).1, by
      obtain ⟨h1, h2⟩ := (hf i).2
      rw [hn] at h1
      refine ⟨h1, fun e => h2 ?_⟩
      rw [ho _ (hlt i)]; omega⟩) (r - 1) (by
      obtain ⟨q1, N, q2⟩ := hr'
      exact ⟨fun M => by obtain ⟨i, hi, e⟩ := q1 M; exact ⟨i, hi, by have := hr _ (hlt i); omega⟩, N, fun i hi => by have := q2 i hi; have := hr _ (hlt i); omega⟩)
    obtain ⟨q1, -, -⟩ := hr'
    obtain ⟨i, -, e⟩ := q1 0
    have h1 := hr _ (hlt i)
    have h2 := hpos _ (hlt i)
    rw [Int.tmod_eq_emod_of_nonneg (by omega)] at this
    rw [Int.tmod_eq_emod_of_nonneg (by omega)]
    omega
end Go.AM.Pa
