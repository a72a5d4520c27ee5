/- A part of the proof: TG5. -/
import Derived.Test.YtdgkchedoooffaaTG4
import Derived.Test.YtdgkchedoooffaaTC6
set_option linter.unusedVariables false
set_option linter.unusedSimpArgs false
set_option linter.unusedSectionVars false
namespace Go.AM.Tb
theorem pw_get {α : Type} {R : α → α → Prop} : ∀ {A : List α} {x y : α}, A.Pairwise R → x ∈ A → y ∈ A → x = y ∨ R x y ∨ R y x
  | [], x, y, _, hx, _ => by simp at hx
  | a :: A, x, y, h, hx, hy => by
    obtain ⟨h1, h2⟩ := List.pairwise_cons.1 h
    rcases List.mem_cons.1 hx with ex | hx
    · rcases List.mem_cons.1 hy with ey | hy
      · exact .inl (ex.trans ey.symm)
      · rw [ex]; exact .inr (.inl (h1 y hy))
    · rcases List.mem_cons.1 hy with ey | hy
      · rw [ey]; exact .inr (.inr (h1 x hx))
      · exact pw_get h2 hx hy
theorem col_fun : ∀ (A : List (Int × Int)) (L : List (Int × Nat)), A.Nodup → Wd L = A.map (·.2) → ∃ f : Int × Int → Nat, L = A.map fun a => (a.2, f a)
  | [], L, _, h => ⟨fun _ => 0, by simpa [Wd] using h⟩
  | a :: A, [], _, h => by simp [Wd] at h
  | a :: A, p :: L, hn, h => by
    obtain ⟨h1, h2⟩ := List.nodup_cons.1 hn
    simp only [Wd, List.map_cons, List.cons.injEq] at h
    obtain ⟨f, hf⟩ := col_fun A L h2 h.2
    refine ⟨fun x => if x = a then p.2 else f x, ?_⟩
    rw [List.map_cons]
    dsimp only
    rw [if_pos rfl, ← h.1, hf]
    congr 1
    refine List.map_congr_left fun x hx => ?_
    have hxa : x ≠ a := fun e => h1 (e ▸ hx)
    rw [if_neg hxa]
theorem has_sym {A B : List (Int × Int)} (hp : A.Perm B) (hA : A.Pairwise fun a b => a.1 < b.1) (hB : B.Pairwise fun a b => a.2 < b.2) {k n : Nat} (h : Has k (A.map (·.2)) n) : Has k (B.map (·.1)) n := by
  obtain ⟨L, hw, hk, hv, hc⟩ := h
  have hnd : A.Nodup := by
    rw [List.nodup_iff_pairwise_ne]
    exact List.Pairwise.imp (fun h e => by subst e; omega) hA
  obtain ⟨f, rfl⟩ := col_fun A L hnd hw
  unfold Val at hv
  rw [List.pairwise_map] at hv
  have hAv := List.Pairwise.and hA hv
  refine ⟨B.map fun b => (b.1, f b), by simp [Wd, List.map_map, Function.comp_def], fun a ha => ?_, ?_, ?_⟩
  · obtain ⟨b, hb, rfl⟩ := List.mem_map.1 ha
    exact hk (b.2, f b) (List.mem_map.2 ⟨b, hp.mem_iff.2 hb, rfl⟩)
  · unfold Val
    rw [List.pairwise_map]
    refine List.Pairwise.imp_of_mem (fun {a b} ha hb hab h0 he => ?_) hB
    rcases pw_get hAv (hp.mem_iff.2 ha) (hp.mem_iff.2 hb) with e | e | e
    · subst e; exact Int.le_refl _
    · exact Int.le_of_lt e.1
    · have := e.2 (by rw [← he]; exact h0) he.symm
      dsimp only at this
      omega
  · rw [← hc]
    unfold cnt
    rw [List.countP_map, List.countP_map]
    exact (hp.countP_eq _).symm
theorem has_sym_iff {A B : List (Int × Int)} (hp : A.Perm B) (hA : A.Pairwise fun a b => a.1 < b.1) (hB : B.Pairwise fun a b => a.2 < b.2) {k n : Nat} : Has k (A.map (·.2)) n ↔ Has k (B.map (·.1)) n := by
  refine ⟨has_sym hp hA hB, fun h => ?_⟩
  have := has_sym (A := B.map fun a => (a.2, a.1)) (B := A.map fun a => (a.2, a.1)) (hp.symm.map _) (by rw [List.pairwise_map]; exact hB) (by rw [List.pairwise_map]; exact hA) (k := k) (n := n)
  simp only [List.map_map, Function.comp_def] at this
  exact this h
structure Inv2 (s t : List Int) : Prop where
  len : t.length = s.length
  a : ∀ i, i < s.length → 1 ≤ getI s (i : Int) ∧ getI s (i : Int) ≤ s.length ∧ getI t (getI s (i : Int) - 1) = (i : Int) + 1
  b : ∀ i, i < s.length → 1 ≤ getI t (i : Int) ∧ getI t (i : Int) ≤ s.length ∧ getI s (getI t (i : Int) - 1) = (i : Int) + 1
theorem Inv2.symm {s t : List Int} (h : Inv2 s t) : Inv2 t s := ⟨h.len.symm, fun i hi => by rw [h.len] at hi ⊢; exact h.b i hi, fun i hi => by rw [h.len] at hi ⊢; exact h.a i hi⟩
theorem list_range (s : List Int) : s = (List.range s.length).map fun i => getI s ((i : Nat) : Int) := by
  refine List.ext_getElem (by simp) fun i h1 h2 => ?_
  simp [getI_nat, List.getD, h1]
theorem Inv2.PQ {s t : List Int} (h : Inv2 s t) : (pq t t.length).1 = (pq s s.length).2 := by
  have hmem : ∀ v ∈ t, 1 ≤ v ∧ v ≤ s.length := fun v hv => by
    obtain ⟨i, hi, rfl⟩ := List.mem_iff_getElem.1 hv
    have := h.b i (by rw [← h.len]; exact hi)
    rw [getI_nat] at this
    simp [List.getD, hi] at this
    omega
  refine P_eq_Q h.len hmem fun j hj => PW_shape fun k n => ?_
  let A : List (Int × Int) := (List.range j).map fun (i : Nat) => ((i : Int) + 1, getI s (i : Int))
  let B : List (Int × Int) := ((List.range s.length).map fun (u : Nat) => (getI t (u : Int), (u : Int) + 1)).filter fun b => decide (b.1 ≤ (j : Int))
  have hA : A.Pairwise fun a b => a.1 < b.1 := by
    show List.Pairwise _ ((List.range j).map _)
    rw [List.pairwise_map]
    exact List.Pairwise.imp (fun h => by dsimp only; omega) List.pairwise_lt_range
  have hB : B.Pairwise fun a b => a.2 < b.2 := by
    refine List.Pairwise.filter _ ?_
    rw [List.pairwise_map]
    exact List.Pairwise.imp (fun h => by dsimp only; omega) List.pairwise_lt_range
  have hp : A.Perm B := by
    refine (List.perm_ext_iff_of_nodup ?_ ?_).2 fun p => ?_
    · rw [List.nodup_iff_pairwise_ne]; exact List.Pairwise.imp (fun h e => by subst e; omega) hA
    · rw [List.nodup_iff_pairwise_ne]; exact List.Pairwise.imp (fun h e => by subst e; omega) hB
    · constructor
      · intro hp
        obtain ⟨i, hi, rfl⟩ := List.mem_map.1 hp
        have hi : i < j := by simpa using hi
        obtain ⟨g1, g2, g3⟩ := h.a i (by omega)
        refine List.mem_filter.2 ⟨List.mem_map.2 ⟨(getI s (i : Int) - 1).toNat, by simp; omega, ?_⟩, by simp; omega⟩
        have e : (((getI s (i : Int) - 1).toNat : Nat) : Int) = getI s (i : Int) - 1 := by omega
        rw [e, g3]
        congr 1; omega
      · intro hp
        obtain ⟨hp1, hp2⟩ := List.mem_filter.1 hp
        obtain ⟨u, hu, rfl⟩ := List.mem_map.1 hp1
        have hu : u < s.length := by simpa using hu
        obtain ⟨g1, g2, g3⟩ := h.b u hu
        have hp2 : getI t (u : Int) ≤ (j : Int) := by simpa using hp2
        refine List.mem_map.2 ⟨(getI t (u : Int) - 1).toNat, by simp; omega, ?_⟩
        have e : (((getI t (u : Int) - 1).toNat : Nat) : Int) = getI t (u : Int) - 1 := by omega
        rw [e, g3]
        congr 1; omega
  have e1 : A.map (·.2) = s.take j := by
    show ((List.range j).map _).map _ = _
    rw [List.map_map]
    refine List.ext_getElem (by simp; omega) fun i h1 h2 => ?_
    simp at h1
    simp [getI_nat, List.getD, show i < s.length by omega]
  have e2 : B.map (·.1) = flt j t := by
    show (List.filter _ _).map _ = _
    rw [List.filter_map, List.map_map]
    unfold flt
    conv => rhs; rw [list_range t, h.len, List.filter_map]
    rfl
  have := has_sym_iff hp hA hB (k := k) (n := n)
  rw [e1, e2] at this
  exact this.symm
theorem Inv2.tabs {s t : List Int} (h : Inv2 s t) : (pq t t.length).1 = (pq s s.length).2 ∧ (pq t t.length).2 = (pq s s.length).1 := ⟨h.PQ, h.symm.PQ.symm⟩
def before (w : List Int) (k i : Nat) : Bool := decide (getI w (k : Int) < getI w (i : Int) ∨ getI w (k : Int) = getI w (i : Int) ∧ k < i)
def rank (w : List Int) (i : Nat) : Nat := 1 + sN w.length fun k => if before w k i then 1 else 0
def prm (w : List Int) : List Int := nL ((List.range w.length).map (rank w))
theorem sN_le1 {f g : Nat → Nat} (h : ∀ k, f k ≤ g k) : ∀ m, sN m f ≤ sN m g
  | 0 => Nat.le_refl _
  | m + 1 => by have := sN_le1 h m; have := h m; simp only [sN]; omega
theorem sN_lt1 {f g : Nat → Nat} (h : ∀ k, f k ≤ g k) {i : Nat} (hi : f i < g i) : ∀ m, i < m → sN m f < sN m g
  | 0, h => by omega
  | m + 1, hm => by
    simp only [sN]
    by_cases e : i = m
    · subst e; have := sN_le1 h i; omega
    · have := sN_lt1 h hi m (by omega); have := h m; omega
theorem sN_one {m : Nat} {f : Nat → Nat} (h : ∀ k, f k ≤ 1) : sN m f ≤ m := by
  induction m with
  | zero => simp [sN]
  | succ m ih => have := h m; simp only [sN]; omega
theorem rank_lt {w : List Int} {i j : Nat} (hi : i < w.length) (h : before w i j = true) : rank w i < rank w j := by
  unfold rank
  have h' : getI w (i : Int) < getI w (j : Int) ∨ getI w (i : Int) = getI w (j : Int) ∧ i < j := by simpa [before] using h
  have := sN_lt1 (f := fun k => if before w k i then 1 else 0) (g := fun k => if before w k j then 1 else 0) (fun k => by
    show (if before w k i then 1 else 0) ≤ (if before w k j then 1 else 0)
    by_cases h1 : before w k i = true
    · have h2 : getI w (k : Int) < getI w (i : Int) ∨ getI w (k : Int) = getI w (i : Int) ∧ k < i := by simpa [before] using h1
      have : before w k j = true := by simp only [before, decide_eq_true_eq]; omega
      rw [if_pos h1, if_pos this]; exact Nat.le_refl _
    · rw [if_neg h1]; exact Nat.zero_le _) (i := i) (by
    show (if before w i i then 1 else 0) < (if before w i j then 1 else 0)
    rw [if_neg (by simp [before]), if_pos h]; omega) w.length hi
  omega
theorem rank_inj {w : List Int} {i j : Nat} (hi : i < w.length) (hj : j < w.length) (h : rank w i = rank w j) : i = j := by
  rcases Int.lt_trichotomy (getI w (i : Int)) (getI w (j : Int)) with h1 | h1 | h1
  · have := rank_lt (j := j) hi (by simp [before, h1]); omega
  · rcases Nat.lt_trichotomy i j with h2 | h2 | h2
    · have := rank_lt (j := j) hi (by simp [before, h1, h2]); omega
    · exact h2
    · have := rank_lt (j := i) hj (by simp [before, h1, h2]); omega
  · have := rank_lt (j := i) hj (by simp [before, h1]); omega
theorem rank_bd {w : List Int} {i : Nat} (hi : i < w.length) : 1 ≤ rank w i ∧ rank w i ≤ w.length := by
  refine ⟨by unfold rank; omega, ?_⟩
  unfold rank
  have := sN_lt1 (f := fun k => if before w k i then 1 else 0) (g := fun _ => 1) (fun k => by show (if before w k i then 1 else 0) ≤ 1; split <;> omega) (i := i) (by
    show (if before w i i then 1 else 0) < 1
    rw [if_neg (by simp [before])]; omega) w.length hi
  have := sN_one (m := w.length) (f := fun _ => 1) (fun k => Nat.le_refl _)
  omega
theorem prm_len (w : List Int) : (prm w).length = w.length := by simp [prm, nL]
theorem prm_get {w : List Int} {i : Nat} (h : i < w.length) : getI (prm w) (i : Int) = (rank w i : Int) := by
  unfold prm
  rw [nL_get]
  simp [List.getD, h]
theorem rank_onto {w : List Int} {v : Nat} (h1 : 1 ≤ v) (h2 : v ≤ w.length) : ∃ i, i < w.length ∧ rank w i = v := by
  refine Classical.byContradiction fun hno => ?_
  have hne : ∀ i, i < w.length → rank w i ≠ v := fun i hi e => hno ⟨i, hi, e⟩
  have := pigeon (w.length - 1) ((List.range w.length).map fun i => if rank w i < v then rank w i else rank w i - 1) ?_ ?_
  · simp at this; omega
  · rw [List.nodup_iff_pairwise_ne, List.pairwise_map]
    refine List.Pairwise.imp_of_mem (fun {a b} ha hb hab e => ?_) (List.pairwise_lt_range (n := w.length))
    have ha : a < w.length := by simpa using ha
    have hb : b < w.length := by simpa using hb
    have := hne a ha
    have := hne b hb
    have : rank w a = rank w b := by
      split at e <;> split at e <;> omega
    have := rank_inj ha hb this
    omega
  · intro a ha
    obtain ⟨i, hi, rfl⟩ := List.mem_map.1 ha
    have hi : i < w.length := by simpa using hi
    have := rank_bd hi
    have := hne i hi
    split <;> omega
theorem prm_inv {w t : List Int} (hl : t.length = w.length) (h : ∀ i, i < w.length → getI t (getI (prm w) (i : Int) - 1) = (i : Int) + 1) : Inv2 (prm w) t := by
  refine ⟨by rw [hl, prm_len], fun i hi => ?_, fun u hu => ?_⟩
  · rw [prm_len] at hi ⊢
    have := rank_bd hi
    refine ⟨?_, ?_, h i hi⟩ <;> rw [prm_get hi] <;> omega
  · rw [prm_len] at hu ⊢
    obtain ⟨i, hi, e⟩ := rank_onto (w := w) (v := u + 1) (by omega) (by omega)
    have h1 := h i hi
    rw [prm_get hi, e, show ((u + 1 : Nat) : Int) - 1 = (u : Int) by omega] at h1
    rw [h1]
    refine ⟨by omega, by omega, ?_⟩
    rw [show (i : Int) + 1 - 1 = (i : Int) by omega, prm_get hi, e]; omega
end Go.AM.Tb
