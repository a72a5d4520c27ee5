/- A part of the proof: Q32. -/
import Derived.Test.YtmeajfgjbebkiaaQF
import Derived.Test.YtmeajfgjbebkiaaQ31
import Derived.Test.YtmeajfgjbebkiaaQ28
set_option linter.unusedSectionVars false
set_option linter.unusedVariables false
set_option linter.unusedSimpArgs false
namespace Go.AM.Pa
/-! regions -/
theorem fil_asc (n : Nat) (f : Nat → Bool) : Asc (fil n f) n := asc_filter n f
theorem trues_fil {b : List Bool} {n : Nat} (hn : n ≤ 24) (h : ∀ i : Nat, n ≤ i → getB b i = false) : ((trues b).map fun (i : Nat) => (i : Int)) = fil n fun i => getB b i := by
  rw [trues, truesFrom_eq, fil]
  congr 1
  rw [show List.range' 0 24 = List.range n ++ List.range' n (24 - n) by
    rw [List.range_eq_range', show List.range' 0 24 = List.range' 0 (n + (24 - n)) by rw [show n + (24 - n) = 24 by omega], ← List.range'_append_1, Nat.zero_add]]
  have e : (List.range' n (24 - n)).filter (fun (j : Nat) => getB b j) = [] := List.filter_eq_nil_iff.2 fun a ha => by
    rw [h a (by have := List.mem_range'.1 ha; omega)]; simp
  rw [List.filter_append, e, List.append_nil]
theorem runN_closed {g : Gm} {inn : List Bool} {p : Int} : ∀ (k : Nat) (to : List Bool) (mv : List Int), (∀ v ∈ trues inn, getB to v = true ∨ ¬ drawn g inn p to v) → (runN g inn p k to mv).1 = to
  | 0, to, mv, h => rfl
  | k + 1, to, mv, h => by
    have hs : sweep g inn p to mv = (to, mv, false) := by
      unfold sweep
      generalize trues inn = l at h
      induction l with
      | nil => rfl
      | cons v l ih =>
        rw [List.foldl_cons, visit_def, if_pos (h v List.mem_cons_self)]
        exact ih fun w hw => h w (List.mem_cons_of_mem _ hw)
    simp only [runN, hs]
    rfl
section
variable {g : Gm} (hg : Good g)
include hg
theorem fl_sub {i : Nat} (h : getB (fl g.next.length) i = true) : i < g.next.length := by
  rw [fl_getB hg.1.2] at h; simpa using h
/-- the attractor of a rising list -/
def attrB (g : Gm) (p : Int) (s : List Int) : List Bool := (runN g (fl g.next.length) p 26 (mark z24 s) (List.replicate g.next.length (-1))).1
theorem markS {s : List Int} (hs : Asc s g.next.length) (i : Nat) : getB (mark z24 s) i = decide ((i : Int) ∈ s) := by
  have h24 := hg.1.2
  rw [getB_mark s z24 g.next.length (by simp [z24]; omega) (fun v hv => ?_) i, getB_z24, Bool.false_or]
  obtain ⟨k, hk, rfl⟩ := List.getElem_of_mem hv
  have := hs k hk
  unfold badAt at this
  have e : getI s (k : Nat) = s[k] := by simp [getI_nat, hk]
  rw [e] at this
  omega
theorem attrB_attr {p : Int} {s : List Int} : IsAttr g (fl g.next.length) p (mark z24 s) (attrB g p s) := by
  have h24 := hg.1.2
  have hm : (mark z24 s).length = 24 := mark_len _ _
  refine (runN_attr (n := g.next.length) (fl_len h24) 26 (mark z24 s) _ hm (by simp) ?_).1
  have := cf_le (mark z24 s); omega
theorem attrB_sub {p : Int} {s : List Int} (hs : Asc s g.next.length) {i : Nat} (h : getB (attrB g p s) i = true) : i < g.next.length := by
  by_cases hi : i < g.next.length
  · exact hi
  · exfalso
    have key : ∀ (k : Nat) (to : List Bool) (mv : List Int), getB to i = false → getB (runN g (fl g.next.length) p k to mv).1 i = false := by
      have one : ∀ (l : List Nat) (st : List Bool × List Int × Bool), (∀ v ∈ l, v ≠ i) → getB st.1 i = false → getB (l.foldl (visit g (fl g.next.length) p) st).1 i = false := by
        intro l
        induction l with
        | nil => intro st _ h; exact h
        | cons v l ih =>
          intro st hv h
          rw [List.foldl_cons]
          refine ih _ (fun w hw => hv w (List.mem_cons_of_mem _ hw)) ?_
          obtain ⟨o, m, r⟩ := st
          rw [visit_def]
          split
          · exact h
          · rw [getB_set, if_neg (fun e => hv v List.mem_cons_self e.1)]; exact h
      intro k
      induction k with
      | zero => intro to mv h; exact h
      | succ k ih =>
        intro to mv h
        have h1 := one (trues (fl g.next.length)) (to, mv, false) (fun v hv e => hi (e ▸ fl_sub hg (trues_mem hv).2)) h
        simp only [runN]
        split
        · exact ih _ _ h1
        · exact h1
    have hz : getB (mark z24 s) i = false := by
      rw [markS hg hs]
      refine decide_eq_false fun hm => hi ?_
      obtain ⟨k, hk, e⟩ := List.getElem_of_mem hm
      have := hs k hk
      unfold badAt at this
      have e2 : getI s (k : Nat) = s[k] := by simp [getI_nat, hk]
      rw [e2, e] at this
      omega
    have h2 : getB (attrB g p s) i = false := key _ _ _ hz
    rw [h] at h2
    cases h2
theorem attrL_fil {p : Int} {s : List Int} (hs : Asc s g.next.length) : attrL g p s = fil g.next.length fun i => getB (attrB g p s) i :=
  trues_fil hg.1.2 fun i hi => Bool.eq_false_iff.2 fun h => by have := attrB_sub hg hs h; omega
theorem attrL_asc {p : Int} {s : List Int} (hs : Asc s g.next.length) : Asc (attrL g p s) g.next.length := by
  rw [attrL_fil hg hs]; exact fil_asc _ _
theorem attrL_mem {p : Int} {s : List Int} (hs : Asc s g.next.length) {v : Nat} : (v : Int) ∈ attrL g p s ↔ getB (attrB g p s) v = true := by
  rw [attrL_fil hg hs, fil_mem]
  exact ⟨fun h => h.2, fun h => ⟨attrB_sub hg hs h, h⟩⟩
/-- a set that nothing is drawn into is its own attractor -/
theorem attrL_closed {p : Int} {f : Nat → Bool} (h : ∀ v, v < g.next.length → f v = true ∨ ¬ drawn g (fl g.next.length) p (mark z24 (fil g.next.length f)) v) : attrL g p (fil g.next.length f) = fil g.next.length f := by
  have hs := fil_asc g.next.length f
  have e : attrB g p (fil g.next.length f) = mark z24 (fil g.next.length f) := runN_closed _ _ _ fun v hv => by
    have hv2 := fl_sub hg (trues_mem hv).2
    rcases h v hv2 with h | h
    · left; rw [markS hg hs]; exact decide_eq_true (fil_mem.2 ⟨hv2, h⟩)
    · exact .inr h
  rw [attrL_fil hg hs, e]
  refine fil_congr fun v hv => ?_
  rw [markS hg hs]
  by_cases hf : f v = true
  · rw [hf]; exact decide_eq_true (fil_mem.2 ⟨hv, hf⟩)
  · rw [Bool.eq_false_iff.2 hf]; exact decide_eq_false fun h => hf (fil_mem.1 h).2
theorem attrL_idem {p : Int} {s : List Int} (hs : Asc s g.next.length) : attrL g p (attrL g p s) = attrL g p s := by
  have ha := attrB_attr hg (p := p) (s := s)
  have e := attrL_fil hg (p := p) hs
  rw [e]
  refine attrL_closed hg fun v hv => ?_
  have hm : mark z24 (fil g.next.length fun i => getB (attrB g p s) i) = attrB g p s := by
    refine List.ext_getElem (by rw [mark_len, ha.len]; rfl) fun i h1 h2 => ?_
    have hx := markS hg (fil_asc g.next.length fun i => getB (attrB g p s) i) i
    have e1 : getB (attrB g p s) i = (attrB g p s)[i] := by rw [getB_nat]; simp [List.getD, h2]
    have e2 : getB (mark z24 (fil g.next.length fun i => getB (attrB g p s) i)) i = (mark z24 (fil g.next.length fun i => getB (attrB g p s) i))[i] := by rw [getB_nat]; simp [List.getD, h1]
    rw [← e2, ← e1, hx]
    by_cases hf : getB (attrB g p s) i = true
    · rw [hf]; exact decide_eq_true (fil_mem.2 ⟨attrB_sub hg hs hf, hf⟩)
    · rw [Bool.eq_false_iff.2 hf]; exact decide_eq_false fun h => hf (fil_mem.1 h).2
  rw [hm]
  exact ha.fix v (by rw [fl_getB hg.1.2]; simpa using hv)
theorem attrL_sup {p : Int} {s : List Int} (hs : Asc s g.next.length) {x : Int} (hx : x ∈ s) : x ∈ attrL g p s := by
  obtain ⟨k, hk, e⟩ := List.getElem_of_mem hx
  have := hs k hk
  unfold badAt at this
  have e2 : getI s (k : Nat) = s[k] := by simp [getI_nat, hk]
  rw [e2, e] at this
  obtain ⟨v, rfl⟩ : ∃ v : Nat, x = v := ⟨x.toNat, by omega⟩
  rw [attrL_mem hg hs]
  refine (attrB_attr hg).sub v ?_
  rw [markS hg hs]
  exact decide_eq_true hx
/-- outside an attractor -/
theorem attrL_out {p : Int} {s : List Int} (hs : Asc s g.next.length) {v : Nat} (hv : v < g.next.length) (hn : ¬ (v : Int) ∈ attrL g p s) :
    (getI g.owner v = p → ∀ u ∈ getLL g.next v, ¬ u ∈ attrL g p s) ∧ ∃ u ∈ getLL g.next v, ¬ u ∈ attrL g p s := by
  have ha := attrB_attr hg (p := p) (s := s)
  rw [attrL_mem hg hs] at hn
  have hd := (ha.fix v (by rw [fl_getB hg.1.2]; simpa using hv)).resolve_left hn
  have hrow := row_mem hg rfl hv
  have hne := row_ne hg rfl hv
  have hin : ∀ u ∈ getLL g.next v, ((getB (fl g.next.length) u && getB (attrB g p s) u) = true ↔ u ∈ attrL g p s) := fun u hu => by
    obtain ⟨k, rfl⟩ : ∃ k : Nat, u = k := ⟨u.toNat, by have := hrow u hu; omega⟩
    rw [attrL_mem hg hs, fl_getB hg.1.2]
    have := hrow k hu
    simp; omega
  have h1 : getI g.owner v = p → ∀ u ∈ getLL g.next v, ¬ u ∈ attrL g p s := fun ho u hu hm => hd (.inl ⟨ho, List.any_eq_true.2 ⟨u, hu, (hin u hu).2 hm⟩⟩)
  refine ⟨h1, ?_⟩
  by_cases ho : getI g.owner v = p
  · obtain ⟨u, r, e⟩ := List.exists_cons_of_ne_nil hne
    exact ⟨u, by rw [e]; exact List.mem_cons_self, h1 ho u (by rw [e]; exact List.mem_cons_self)⟩
  · by_cases hall : ∃ u ∈ getLL g.next v, ¬ u ∈ attrL g p s
    · exact hall
    · exfalso
      have hm : ∀ u ∈ getLL g.next v, u ∈ attrL g p s := fun u hu => Classical.byContradiction fun h => hall ⟨u, hu, h⟩
      refine hd (.inr ⟨ho, ?_, ?_⟩)
      · obtain ⟨u, r, e⟩ := List.exists_cons_of_ne_nil hne
        have hu : u ∈ getLL g.next v := by rw [e]; exact List.mem_cons_self
        exact List.any_eq_true.2 ⟨u, hu, (hin u hu).2 (hm u hu)⟩
      · refine List.all_eq_true.2 fun u hu => ?_
        have := (hin u hu).2 (hm u hu)
        rw [Bool.and_eq_true] at this
        rw [this.2]; simp
/-- what a player wins is its own attractor -/
theorem attrL_won {p : Int} (hp : p = 0 ∨ p = 1) : attrL g p (fil g.next.length fun i => decide (winA (zAll g).1 i = p)) = fil g.next.length fun i => decide (winA (zAll g).1 i = p) := by
  have hsol := zAll_sol hg
  refine attrL_closed hg fun v hv => ?_
  by_cases hw : winA (zAll g).1 v = p
  · exact .inl (decide_eq_true hw)
  · right
    have hside : ∀ w : Nat, w < g.next.length → (Side (fl g.next.length) (zAll g).1 (1 - p) w ↔ winA (zAll g).1 w ≠ p) := fun w hwn => by
      unfold Side winA
      rw [fl_getB hg.1.2]
      rcases hp with rfl | rfl <;> cases getB (zAll g).1 w <;> simp [hwn]
    have hs1 := (hside v hv).2 hw
    have hrow := row_mem hg rfl hv
    have hmk := markS hg (fil_asc g.next.length fun i => decide (winA (zAll g).1 i = p))
    have hnm : ∀ u : Nat, Side (fl g.next.length) (zAll g).1 (1 - p) u → getB (mark z24 (fil g.next.length fun i => decide (winA (zAll g).1 i = p))) u = false := fun u hu => by
      rw [hmk]
      refine decide_eq_false fun h => ?_
      obtain ⟨h1, h2⟩ := fil_mem.1 h
      exact (hside u h1).1 hu (of_decide_eq_true h2)
    rintro (⟨ho, h⟩ | ⟨ho, -, h⟩)
    · obtain ⟨u, hu, h⟩ := List.any_eq_true.1 h
      obtain ⟨k, rfl⟩ : ∃ k : Nat, u = k := ⟨u.toNat, by have := hrow u hu; omega⟩
      have := hsol.trap (1 - p) (by omega) v hs1 (by omega) k hu (by rw [fl_getB hg.1.2]; have := hrow k hu; simp; omega)
      rw [hnm k this] at h
      simp at h
    · have hop : getI g.owner v = 1 - p := by
        have := (hg.2.2.2 v hv).1
        omega
      obtain ⟨u, -, h2, h3⟩ := hsol.mem (1 - p) (by omega) v hs1 hop
      have := List.all_eq_true.1 h u h2
      rw [hnm u h3, h3.1] at this
      simp at this
end
end Go.AM.Pa
