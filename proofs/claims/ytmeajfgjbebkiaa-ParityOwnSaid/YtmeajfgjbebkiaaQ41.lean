/- A part of the proof: Q41. -/
import Derived.Test.YtmeajfgjbebkiaaQ40
set_option linter.unusedSectionVars false
set_option linter.unusedVariables false
set_option linter.unusedSimpArgs false
namespace Go.AM.Pa
/-! what ref.Bad says -/
def Pth (nx : List (List Int)) (f : Nat → Nat) : Prop := ∀ i, (f (i + 1) : Int) ∈ getLL nx (f i)
theorem rch_path {nx : List (List Int)} {rk : List Int} {mx : Int} {a u : Nat} (h : Rch nx rk mx a u) : ∃ (L : Nat) (h : Nat → Nat), 1 ≤ L ∧ h 0 = a ∧ h L = u ∧ ∀ i, i < L → (h (i + 1) : Int) ∈ getLL nx (h i) ∧ getI rk (h (i + 1)) ≤ mx := by
  induction h with
  | @one u h1 h2 => exact ⟨1, fun i => if i = 0 then a else u, Nat.le_refl _, rfl, rfl, fun i hi => by
      have : i = 0 := by omega
      subst this; exact ⟨h1, h2⟩⟩
  | @more v u _ h1 h2 ih =>
    obtain ⟨L, h, l1, l2, l3, l4⟩ := ih
    refine ⟨L + 1, fun i => if i ≤ L then h i else u, by omega, by simp [l2], by simp only [show ¬ L + 1 ≤ L by omega, if_false], fun i hi => ?_⟩
    rcases Nat.lt_or_ge i L with h' | h'
    · simp only [show i ≤ L by omega, show i + 1 ≤ L by omega, if_true]
      exact l4 i h'
    · have : i = L := by omega
      subst this
      simp only [Nat.le_refl, if_true, show ¬ i + 1 ≤ i by omega, if_false]
      rw [l3]; exact ⟨h1, h2⟩
theorem path_rch {nx : List (List Int)} {rk : List Int} {mx : Int} {f : Nat → Nat} (hp : Pth nx f) {a : Nat} : ∀ (d : Nat), (∀ i, a < i → i ≤ a + d + 1 → getI rk (f i) ≤ mx) → Rch nx rk mx (f a) (f (a + d + 1))
  | 0, h => .one (hp a) (h _ (by omega) (by omega))
  | d + 1, h => .more (path_rch hp d fun i h1 h2 => h i h1 (by omega)) (hp (a + d + 1)) (h _ (by omega) (by omega))
theorem round {nx : List (List Int)} {rk : List Int} {k : Nat} (h : Rch nx rk (getI rk k) k k) : ∃ f : Nat → Nat, f 0 = k ∧ Pth nx f ∧ Lim ⟨[], rk, []⟩ f (getI rk k) := by
  obtain ⟨L, h, l1, l2, l3, l4⟩ := rch_path h
  have hmod : ∀ i, (i + 1) % L = if i % L + 1 = L then 0 else i % L + 1 := fun i => by
    have h1 := Nat.mod_lt i l1
    rw [Nat.add_mod]
    by_cases h2 : L = 1
    · subst h2; simp [Nat.mod_one]
    · have h3 : 1 % L = 1 := Nat.mod_eq_of_lt (by omega)
      rw [h3]
      split
      · rename_i e; rw [e, Nat.mod_self]
      · exact Nat.mod_eq_of_lt (by omega)
  refine ⟨fun i => h (i % L), by simp [l2], fun i => ?_, fun N => ⟨N * L, Nat.le_mul_of_pos_right N l1, ?_⟩, 0, fun i _ => ?_⟩
  · have h1 := Nat.mod_lt i l1
    have h2 := (l4 (i % L) h1).1
    simp only [hmod]
    split
    · rename_i e
      rw [e, l3] at h2
      rw [l2]; exact h2
    · exact h2
  · simp only [Nat.mul_mod_left]
    rw [l2]
  · have h1 := Nat.mod_lt i l1
    simp only
    rcases Nat.eq_zero_or_pos (i % L) with h2 | h2
    · rw [h2, l2]; exact Int.le_refl _
    · have := (l4 (i % L - 1) (by omega)).2
      rw [show i % L - 1 + 1 = i % L by omega] at this
      exact this
theorem pre_path {nx : List (List Int)} {rk : List Int} {mx r : Int} {a k : Nat} (h : Rch nx rk mx a k) {f : Nat → Nat} (h0 : f 0 = k) (hp : Pth nx f) (hl : Lim ⟨[], rk, []⟩ f r) : ∃ f : Nat → Nat, f 0 = a ∧ Pth nx f ∧ Lim ⟨[], rk, []⟩ f r := by
  obtain ⟨L, h, l1, l2, l3, l4⟩ := rch_path h
  refine ⟨fun i => if i < L then h i else f (i - L), by simp [show 0 < L by omega, l2], fun i => ?_, fun N => ?_, ?_⟩
  · rcases Nat.lt_or_ge i L with h' | h'
    · have := (l4 i h').1
      rcases Nat.lt_or_ge (i + 1) L with h2 | h2
      · simp only [h', h2, if_true]; exact this
      · have e : i + 1 = L := by omega
        simp only [h', e, if_true, Nat.lt_irrefl, if_false, Nat.sub_self, h0]
        rw [e, l3] at this; exact this
    · simp only [show ¬ i < L by omega, show ¬ i + 1 < L by omega, if_false, show i + 1 - L = i - L + 1 by omega]
      exact hp _
  · obtain ⟨i, hi, e⟩ := hl.1 N
    exact ⟨i + L, by omega, by simp only [show ¬ i + L < L by omega, if_false, Nat.add_sub_cancel]; exact e⟩
  · obtain ⟨N, hN⟩ := hl.2
    exact ⟨N + L, fun i hi => by simp only [show ¬ i < L by omega, if_false]; exact hN _ (by omega)⟩
theorem often {f : Nat → Nat} {P : Nat → Prop} : ∀ (n : Nat), (∀ k, k < n → P k → ∃ M, ∀ i, M ≤ i → f i ≠ k) → ∃ M, ∀ k, k < n → P k → ∀ i, M ≤ i → f i ≠ k
  | 0, _ => ⟨0, fun k hk => by omega⟩
  | n + 1, h => by
    obtain ⟨M, hM⟩ := often n fun k hk => h k (by omega)
    by_cases hp : P n
    · obtain ⟨M', hM'⟩ := h n (by omega) hp
      refine ⟨M + M', fun k hk hpk i hi => ?_⟩
      rcases (by omega : k < n ∨ k = n) with h1 | rfl
      · exact hM k h1 hpk i (by omega)
      · exact hM' i (by omega)
    · refine ⟨M, fun k hk hpk i hi => ?_⟩
      rcases (by omega : k < n ∨ k = n) with h1 | rfl
      · exact hM k h1 hpk i hi
      · exact absurd hpk hp
theorem bad_iff {nx : List (List Int)} {rk : List Int} {p : Int} (hg : Gra nx rk) (hr : ∀ v : Nat, v < nx.length → getI rk v ≤ 9) {v : Nat} (hv : v < nx.length) :
    badB nx rk p v = true ↔ ∃ f : Nat → Nat, f 0 = v ∧ Pth nx f ∧ ∃ r, Lim ⟨[], rk, []⟩ f r ∧ ¬ r.tmod 2 = p := by
  have hc : ∀ k : Nat, k < nx.length → (cirB nx rk p k = true ↔ (¬ (getI rk k).tmod 2 = p) ∧ Rch nx rk (getI rk k) k k) := fun k hk => by
    unfold cirB
    rw [Bool.and_eq_true, rchL_get hk, decide_eq_true_iff]
  unfold badB accB
  rw [Bool.or_eq_true, List.any_eq_true]
  constructor
  · rintro (h | ⟨k, hk, h⟩)
    · obtain ⟨h1, h2⟩ := (hc v hv).1 h
      obtain ⟨f, f0, fp, fl⟩ := round h2
      exact ⟨f, f0, fp, _, fl, h1⟩
    · rw [List.mem_range] at hk
      rw [Bool.and_eq_true, rchL_get hk] at h
      obtain ⟨h1, h2⟩ := (hc k hk).1 h.2
      obtain ⟨f, f0, fp, fl⟩ := round h2
      obtain ⟨f', f0', fp', fl'⟩ := pre_path h.1 f0 fp fl
      exact ⟨f', f0', fp', _, fl', h1⟩
  · rintro ⟨f, f0, fp, r, ⟨l1, N, l2⟩, hpar⟩
    have hn : ∀ i, f i < nx.length := fun i => by
      induction i with
      | zero => rw [f0]; exact hv
      | succ i ih =>
        have := hg.2.1 _ ih _ (fp i)
        omega
    have hk : ∃ k, k < nx.length ∧ getI rk k = r ∧ ∀ M, ∃ i, M ≤ i ∧ f i = k := by
      refine Classical.byContradiction fun hno => ?_
      obtain ⟨M, hM⟩ := often (f := f) (P := fun k => getI rk k = r) nx.length fun k hk hp => Classical.byContradiction fun h2 => hno ⟨k, hk, hp, fun M => Classical.byContradiction fun h3 => h2 ⟨M, fun i hi e => h3 ⟨i, hi, e⟩⟩⟩
      obtain ⟨i, hi, e⟩ := l1 M
      exact hM (f i) (hn i) e i hi rfl
    obtain ⟨k, hkn, hkr, hko⟩ := hk
    obtain ⟨i, hi, ei⟩ := hko N
    obtain ⟨j, hj, ej⟩ := hko (i + 1)
    have hcir : cirB nx rk p k = true := (hc k hkn).2 ⟨by rw [hkr]; exact hpar, by
      have := path_rch (rk := rk) (mx := getI rk k) fp (a := i) (j - i - 1) fun q h1 h2 => by rw [hkr]; exact l2 q (by omega)
      rw [show i + (j - i - 1) + 1 = j by omega, ei, ej] at this
      exact this⟩
    rcases Nat.eq_zero_or_pos i with h0 | h0
    · subst h0
      rw [f0] at ei
      subst ei
      exact .inl hcir
    · refine .inr ⟨k, List.mem_range.2 hkn, ?_⟩
      rw [Bool.and_eq_true, rchL_get hkn]
      refine ⟨?_, hcir⟩
      have := path_rch (rk := rk) (mx := 9) fp (a := 0) (i - 1) fun q h1 h2 => hr _ (hn q)
      rw [show 0 + (i - 1) + 1 = i by omega, f0, ei] at this
      exact this
/-! the game in which a player keeps to a plan -/
def bRow (g : Gm) (p : Int) (pl : List Int) (v : Nat) : List Int := if getI g.owner v = p then [getI pl v] else getLL g.next v
def bndG (g : Gm) (p : Int) (pl : List Int) : Gm := ⟨g.owner, g.rank, (List.range g.next.length).map (bRow g p pl)⟩
theorem getLL_rng {n : Nat} {f : Nat → List Int} {i : Nat} (h : i < n) : getLL ((List.range n).map f) i = f i := by
  rw [getLL_nat]; simp [h]
theorem bnd_ll {g : Gm} {p : Int} {pl : List Int} {v : Nat} (h : v < g.next.length) : getLL (bndG g p pl).next v = bRow g p pl v := getLL_rng h
theorem bnd_len (g : Gm) (p : Int) (pl : List Int) : (bndG g p pl).next.length = g.next.length := by simp [bndG]
/-- a plan of a player -/
def OkB (g : Gm) (p : Int) (pl : List Int) : Prop := ∀ v : Nat, v < g.next.length → getI g.owner v = p → getI pl v ∈ getLL g.next v
theorem asc_one {n : Nat} {x : Int} (h : 0 ≤ x ∧ x < n) : Asc [x] n := by
  intro i hi
  simp at hi; subst hi
  unfold badAt
  have : getI [x] (0 : Nat) = x := by simp [getI]
  rw [this]; omega
theorem bnd_good {g : Gm} (hg : Good g) {p : Int} {pl : List Int} (hp : OkB g p pl) : Good (bndG g p pl) := by
  have hl := bnd_len g p pl
  refine ⟨by rw [hl]; exact hg.1, by rw [hl]; exact hg.2.1, by rw [hl]; exact hg.2.2.1, fun v hv => ?_⟩
  rw [hl] at hv
  have h := hg.2.2.2 v hv
  refine ⟨h.1, h.2.1, ?_, ?_⟩
  · rw [bnd_ll hv]; unfold bRow; split
    · simp
    · exact h.2.2.1
  · rw [bnd_ll hv, hl]; unfold bRow; split
    · rename_i e
      exact asc_one (row_mem hg rfl hv _ (hp v hv e))
    · exact h.2.2.2
theorem bnd_rows {g : Gm} (hr : ∀ l ∈ g.next, l.length < 50) (p : Int) (pl : List Int) : ∀ l ∈ (bndG g p pl).next, l.length < 50 := fun l hl => by
  obtain ⟨v, hv, rfl⟩ := List.mem_map.1 hl
  unfold bRow
  split
  · simp
  · exact getLL_lt hr (by omega) v
theorem bnd_gra {g : Gm} (hg : Good g) {p : Int} {pl : List Int} (hr : ∀ l ∈ g.next, l.length < 50) (hp : OkB g p pl) : Gra (bndG g p pl).next g.rank := by
  have hb := bnd_good hg hp
  exact ⟨⟨hb.1.2, hb.2.2.1⟩, fun v hv => row_mem hb rfl hv, bnd_rows hr p pl⟩
/-- who wins the game with a plan -/
theorem bnd_win {g : Gm} (hg : Good g) {p : Int} (hp01 : p = 0 ∨ p = 1) {pl : List Int} (hp : OkB g p pl) {v : Nat} (hv : v < g.next.length) :
    winA (zAll (bndG g p pl)).1 v = p ↔ ¬ ∃ f : Nat → Nat, f 0 = v ∧ Pth (bndG g p pl).next f ∧ ∃ r, Lim g f r ∧ ¬ r.tmod 2 = p := by
  have hb := bnd_good hg hp
  have hl := bnd_len g p pl
  constructor
  · rintro hw ⟨f, f0, fp, r, hr, hpar⟩
    have s := strat_z hb hp01
    have hA : ∀ i, (f i < (bndG g p pl).next.length ∧ winA (zAll (bndG g p pl)).1 (f i) = p) ∧ Ed (bndG g p pl) (zAll (bndG g p pl)).2 p (f i) (f (i + 1)) := by
      have step : ∀ i, (f i < (bndG g p pl).next.length ∧ winA (zAll (bndG g p pl)).1 (f i) = p) → (f (i + 1) < (bndG g p pl).next.length ∧ winA (zAll (bndG g p pl)).1 (f (i + 1)) = p) ∧ Ed (bndG g p pl) (zAll (bndG g p pl)).2 p (f i) (f (i + 1)) := fun i hi => by
        have he := fp i
        by_cases ho : getI g.owner (f i) = p
        · obtain ⟨u, u1, u2, u3⟩ := s.mem _ hi ho
          have e1 : getLL (bndG g p pl).next (f i) = [getI pl (f i)] := by rw [bnd_ll (by omega), bRow, if_pos ho]
          rw [e1] at u2 he
          simp at u2 he
          have : u = f (i + 1) := by omega
          subst this
          exact ⟨u3, by rw [e1]; simpa using he, fun _ => u1⟩
        · exact ⟨s.trap _ hi ho _ he, he, fun h => absurd h ho⟩
      intro i
      have : (f i < (bndG g p pl).next.length ∧ winA (zAll (bndG g p pl)).1 (f i) = p) := by
        induction i with
        | zero => rw [f0]; exact ⟨by omega, hw⟩
        | succ i ih => exact (step i ih).1
      exact ⟨this, (step i this).2⟩
    exact hpar (s.win f hA r hr)
  · intro hno
    refine Classical.byContradiction fun hw => hno ?_
    have hw2 : winA (zAll (bndG g p pl)).1 v = 1 - p := by
      have : winA (zAll (bndG g p pl)).1 v = 0 ∨ winA (zAll (bndG g p pl)).1 v = 1 := by unfold winA; split <;> simp
      omega
    have s := strat_z hb (p := 1 - p) (by omega)
    have step : ∀ u, (u < (bndG g p pl).next.length ∧ winA (zAll (bndG g p pl)).1 u = 1 - p) → ∃ w, (w < (bndG g p pl).next.length ∧ winA (zAll (bndG g p pl)).1 w = 1 - p) ∧ Ed (bndG g p pl) (zAll (bndG g p pl)).2 (1 - p) u w := fun u hu => by
      by_cases ho : getI g.owner u = 1 - p
      · obtain ⟨w, u1, u2, u3⟩ := s.mem u hu ho
        exact ⟨w, u3, u2, fun _ => u1⟩
      · have hne := row_ne hb rfl hu.1
        obtain ⟨w, l, e⟩ := List.exists_cons_of_ne_nil hne
        have hm : w ∈ getLL (bndG g p pl).next u := by rw [e]; exact List.mem_cons_self
        have := row_mem hb rfl hu.1 w hm
        obtain ⟨w', rfl⟩ : ∃ w' : Nat, w = w' := ⟨w.toNat, by omega⟩
        exact ⟨w', s.trap u hu ho w' hm, hm, fun h => absurd h ho⟩
    obtain ⟨f, f0, hf⟩ := path_some step (v := v) ⟨by omega, hw2⟩
    have hrk : ∀ i, 0 ≤ getI g.rank (f i) ∧ getI g.rank (f i) ≤ 9 := fun i => (hb.2.2.2 (f i) (hf i).1.1).2.1
    obtain ⟨r, hr⟩ := lim_some (g := g) (f := f) (fun i => (hrk i).1) 10 0 fun i _ => by have := (hrk i).2; omega
    refine ⟨f, f0, fun i => (hf i).2.1, r, hr, ?_⟩
    have := s.win f hf r hr
    omega
/-- both ways of finding what a plan beats -/
theorem beats_eq {g : Gm} (hg : Good g) {p : Int} (hp01 : p = 0 ∨ p = 1) {pl : List Int} (hr : ∀ l ∈ g.next, l.length < 50) (hp : OkB g p pl) {v : Nat} (hv : v < g.next.length) :
    decide (winA (zAll (bndG g p pl)).1 v = p) = !badB (bndG g p pl).next g.rank p v := by
  have h1 := bnd_win hg hp01 hp hv
  have h2 := bad_iff (p := p) (bnd_gra hg hr hp) (fun u hu => ((hg.2.2.2 u (by rw [bnd_len] at hu; exact hu)).2.1).2) (v := v) (by rw [bnd_len]; exact hv)
  rw [Bool.eq_iff_iff, decide_eq_true_iff, h1, Bool.not_eq_true', Bool.eq_false_iff, ne_eq, h2]
  exact Iff.rfl
end Go.AM.Pa
