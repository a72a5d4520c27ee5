/- A part of the proof: Q36. -/
import Derived.Test.YtmeajfgjbebkiaaQ34
import Derived.Test.YtmeajfgjbebkiaaQ17
set_option linter.unusedSectionVars false
set_option linter.unusedVariables false
set_option linter.unusedSimpArgs false
namespace Go.AM.Pa
/-! a play with moves that win -/
def Chain (q : List Int) (l : List Int) (v : Int) : Prop := ∀ i : Nat, i < l.length → getI q (getI l i) = getI (l ++ [v]) ((i + 1 : Nat) : Int)
theorem getI_app1 {l : List Int} {v : Int} {i : Nat} (h : i < l.length) : getI (l ++ [v]) i = getI l i := by
  simp [getI_nat, List.getD, List.getElem?_append_left h]
theorem getI_app2 (l : List Int) (v : Int) : getI (l ++ [v]) (l.length : Nat) = v := by
  simp [getI_nat, List.getD]
theorem chain_step {q l : List Int} {v : Int} (h : Chain q l v) : Chain q (l ++ [v]) (getI q v) := by
  intro i hi
  rw [List.length_append, List.length_singleton] at hi
  rcases Nat.lt_or_ge i l.length with h1 | h1
  · rw [getI_app1 h1, h i h1]
    rw [getI_app1 (l := l ++ [v]) (by simp; omega)]
  · have : i = l.length := by omega
    subst this
    rw [getI_app2]
    have := getI_app2 (l ++ [v]) (getI q v)
    rw [List.length_append, List.length_singleton] at this
    exact this.symm
theorem walk_chain {q : List Int} {A : Int → Prop} (hA : ∀ v, A v → A (getI q v)) : ∀ (k : Nat) (l : List Int) (v : Int), Chain q l v → (∀ u ∈ l, A u) → A v → Chain q (walk q k l v).1 (walk q k l v).2 ∧ (∀ u ∈ (walk q k l v).1, A u) ∧ A (walk q k l v).2
  | 0, l, v, h1, h2, h3 => ⟨h1, h2, h3⟩
  | k + 1, l, v, h1, h2, h3 => by
    simp only [walk]
    split
    · exact ⟨h1, h2, h3⟩
    · refine walk_chain hA k _ _ (chain_step h1) (fun u hu => ?_) (hA v h3)
      rcases List.mem_append.1 hu with h | h
      · exact h2 u h
      · simp at h; subst h; exact h3
theorem topR_spec (rk : List Int) : ∀ (l : List Int) (t : Int), t ≤ topR rk l t ∧ (∀ u ∈ l, getI rk u ≤ topR rk l t) ∧ (topR rk l t = t ∨ ∃ u ∈ l, topR rk l t = getI rk u)
  | [], t => ⟨Int.le_refl _, fun u hu => (by cases hu), .inl rfl⟩
  | u :: r, t => by
    simp only [topR]
    obtain ⟨h1, h2, h3⟩ := topR_spec rk r (if getI rk u > t then getI rk u else t)
    by_cases hc : getI rk u > t
    · simp only [if_pos hc] at h1 h2 h3 ⊢
      refine ⟨by omega, fun w hw => ?_, ?_⟩
      · rcases List.mem_cons.1 hw with rfl | hw
        · exact h1
        · exact h2 w hw
      · rcases h3 with h3 | ⟨w, hw, e⟩
        · exact .inr ⟨u, List.mem_cons_self, h3⟩
        · exact .inr ⟨w, List.mem_cons_of_mem _ hw, e⟩
    · simp only [if_neg hc] at h1 h2 h3 ⊢
      refine ⟨h1, fun w hw => ?_, ?_⟩
      · rcases List.mem_cons.1 hw with rfl | hw
        · omega
        · exact h2 w hw
      · rcases h3 with h3 | ⟨w, hw, e⟩
        · exact .inl h3
        · exact .inr ⟨w, List.mem_cons_of_mem _ hw, e⟩
def itr (q : List Int) (v : Int) : Nat → Int
  | 0 => v
  | i + 1 => getI q (itr q v i)
theorem mem_getI {l : List Int} {u : Int} (h : u ∈ l) : ∃ i : Nat, i < l.length ∧ getI l i = u := by
  obtain ⟨i, hi, rfl⟩ := List.getElem_of_mem h
  exact ⟨i, hi, by simp [getI_nat, hi]⟩
theorem getI_mem {l : List Int} {i : Nat} (h : i < l.length) : getI l i ∈ l := by
  simp [getI_nat, h]
theorem idx_at {l : List Int} {v : Int} (h : l.idxOf v < l.length) : getI l (l.idxOf v : Nat) = v := by
  simp [getI_nat, h]
/-- the loop, gone round and round -/
theorem itr_loop {q l : List Int} {v : Int} (hc : Chain q l v) (hv : l.idxOf v < l.length) :
    (∀ s, itr q v s = v → ∀ j, j ≤ l.length - l.idxOf v → itr q v (s + j) = getI (l ++ [v]) ((l.idxOf v + j : Nat) : Int)) := by
  intro s hs j
  induction j with
  | zero =>
    intro _
    rw [Nat.add_zero, Nat.add_zero, getI_app1 hv, idx_at hv, hs]
  | succ j ih =>
    intro hj
    have h1 := ih (by omega)
    show getI q (itr q v (s + j)) = _
    rw [h1, getI_app1 (by omega), hc _ (by omega)]
    congr 1
theorem itr_back {q l : List Int} {v : Int} (hc : Chain q l v) (hv : l.idxOf v < l.length) (N : Nat) : itr q v (N * (l.length - l.idxOf v)) = v := by
  induction N with
  | zero => rw [Nat.zero_mul]; rfl
  | succ N ih =>
    have := itr_loop hc hv _ ih (l.length - l.idxOf v) (Nat.le_refl _)
    rw [Nat.succ_mul, this, show l.idxOf v + (l.length - l.idxOf v) = l.length by omega, getI_app2]
theorem played_win {g : Gm} (hg : Good g) {q M : List Int} {w : Int} {A : Nat → Prop} (hs : Strat g M w A) (hq : OkPlan g q) (hm : ∀ v, A v → getI g.owner v = w → getI q v = getI M v) {p : Nat} (hp : A p)
    (hi : (walk q 30 [] p).1.idxOf (walk q 30 [] p).2 < (walk q 30 [] p).1.length) :
    (topR g.rank (playB (walk q 30 [] p).1 (walk q 30 [] p).2) 0).tmod 2 = w ∧ ∀ u ∈ (walk q 30 [] p).1, ∃ v : Nat, u = v ∧ A v := by
  have hA : ∀ u : Int, (∃ v : Nat, u = v ∧ A v) → ∃ v : Nat, getI q u = v ∧ A v := by
    rintro u ⟨v, rfl, hv⟩
    have hlt := hs.lt v hv
    by_cases ho : getI g.owner v = w
    · obtain ⟨x, x1, x2, x3⟩ := hs.mem v hv ho
      exact ⟨x, by rw [hm v hv ho, x1], x3⟩
    · have h1 := hq.2 v hlt
      have h2 := row_mem hg rfl hlt _ h1
      obtain ⟨x, hx⟩ : ∃ x : Nat, getI q v = x := ⟨_, (Int.toNat_of_nonneg h2.1).symm⟩
      refine ⟨x, hx, hs.trap v hv ho x ?_⟩
      rw [← hx]; exact h1
  obtain ⟨hc, hl, -⟩ := walk_chain hA 30 [] p (fun i hi => by simp at hi) (fun u hu => by cases hu) ⟨p, rfl, hp⟩
  generalize walk q 30 [] p = F at *
  obtain ⟨l, v⟩ := F
  simp only at *
  refine ⟨?_, hl⟩
  have hK : 0 < l.length - l.idxOf v := by omega
  have hin : ∀ i, ∃ j, j < l.length - l.idxOf v ∧ itr q v i = getI l ((l.idxOf v + j : Nat) : Int) := fun i => by
    have hd := Nat.div_add_mod i (l.length - l.idxOf v)
    have hm := Nat.mod_lt i hK
    refine ⟨i % (l.length - l.idxOf v), hm, ?_⟩
    have := itr_loop hc hi _ (itr_back hc hi (i / (l.length - l.idxOf v))) (i % (l.length - l.idxOf v)) (by omega)
    rw [Nat.mul_comm, hd, getI_app1 (by omega)] at this
    exact this
  have hB : ∀ i, itr q v i ∈ playB l v := fun i => by
    obtain ⟨j, hj, e⟩ := hin i
    rw [e]
    have := List.getElem_mem (l := l.drop (l.idxOf v)) (n := j) (by simp; omega)
    rw [List.getElem_drop] at this
    rw [getI_nat, List.getD_eq_getElem?_getD, List.getElem?_eq_getElem (show l.idxOf v + j < l.length by omega)]
    exact this
  have hBl : ∀ u ∈ playB l v, u ∈ l := fun u hu => List.mem_of_mem_drop hu
  have hnat : ∀ i, ∃ x : Nat, itr q v i = x ∧ A x := fun i => hl _ (hBl _ (hB i))
  have hto : ∀ i, ((itr q v i).toNat : Int) = itr q v i ∧ A (itr q v i).toNat := fun i => by
    obtain ⟨x, h1, h2⟩ := hnat i
    rw [h1]; simpa using h2
  obtain ⟨t1, t2, t3⟩ := topR_spec g.rank (playB l v) 0
  refine hs.win (fun i => (itr q v i).toNat) (fun i => ⟨(hto i).2, ?_, fun ho => ?_⟩) _ ⟨fun N => ?_, 0, fun i _ => ?_⟩
  · rw [(hto (i + 1)).1]
    have := hq.2 (itr q v i).toNat (hs.lt _ (hto i).2)
    rw [(hto i).1] at this ⊢
    exact this
  · rw [(hto (i + 1)).1]
    have := hm _ (hto i).2 ho
    rw [(hto i).1] at this ⊢
    exact this
  · have hu : ∃ u ∈ playB l v, topR g.rank (playB l v) 0 = getI g.rank u := by
      rcases t3 with t3 | h
      · refine ⟨itr q v 0, hB 0, ?_⟩
        have h1 := t2 _ (hB 0)
        have h2 := ((hg.2.2.2 _ (hs.lt _ (hto 0).2)).2.1).1
        rw [(hto 0).1] at h2
        omega
      · exact h
    obtain ⟨u, hu1, hu2⟩ := hu
    obtain ⟨j, hj, e⟩ := List.getElem_of_mem hu1
    simp only [playB, List.length_drop] at hj
    have h3 := itr_loop hc hi _ (itr_back hc hi N) j (by omega)
    rw [getI_app1 (by omega)] at h3
    have h4 : getI l ((l.idxOf v + j : Nat) : Int) = u := by
      rw [← e, getI_nat, List.getD_eq_getElem?_getD, List.getElem?_eq_getElem (show l.idxOf v + j < l.length by omega)]
      simp [playB]
    refine ⟨N * (l.length - l.idxOf v) + j, ?_, ?_⟩
    · have := Nat.le_mul_of_pos_right N hK
      omega
    · simp only
      rw [(hto _).1, h3, h4, hu2]
  · simp only
    rw [(hto i).1]
    exact t2 _ (hB i)
end Go.AM.Pa
