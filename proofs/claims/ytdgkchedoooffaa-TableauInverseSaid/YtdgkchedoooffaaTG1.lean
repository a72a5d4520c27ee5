/- A part of the proof: TG1. -/
import Derived.Test.YtdgkchedoooffaaM3
set_option linter.unusedVariables false
set_option linter.unusedSimpArgs false
set_option linter.unusedSectionVars false
namespace Go.AM.Tb
def CR (a b : Int × Nat) : Prop := a.2 ≠ 0 → a.2 = b.2 → a.1 ≤ b.1
def Val (L : List (Int × Nat)) : Prop := L.Pairwise CR
def cnt (L : List (Int × Nat)) : Nat := L.countP fun a => decide (a.2 ≠ 0)
def Wd (L : List (Int × Nat)) : List Int := L.map (·.1)
def Has (k : Nat) (w : List Int) (n : Nat) : Prop := ∃ L, Wd L = w ∧ (∀ a ∈ L, a.2 ≤ k) ∧ Val L ∧ cnt L = n
inductive Kn1 : List Int → List Int → Prop
  | a (u v) {x y z : Int} (h1 : x ≤ y) (h2 : y < z) : Kn1 (u ++ x :: z :: y :: v) (u ++ z :: x :: y :: v)
  | b (u v) {x y z : Int} (h1 : x < y) (h2 : y ≤ z) : Kn1 (u ++ y :: x :: z :: v) (u ++ y :: z :: x :: v)
inductive Kn : List Int → List Int → Prop
  | refl (w) : Kn w w
  | fw {a b c} (h : Kn a b) (g : Kn1 b c) : Kn a c
  | bw {a b c} (h : Kn a b) (g : Kn1 c b) : Kn a c
theorem Kn.trans {a b c} (h : Kn a b) (g : Kn b c) : Kn a c := by
  induction g with
  | refl => exact h
  | fw _ g ih => exact .fw (ih) g
  | bw _ g ih => exact .bw (ih) g
theorem Kn.symm {a b} (h : Kn a b) : Kn b a := by
  induction h with
  | refl => exact .refl _
  | fw _ g ih => exact Kn.trans (.bw (.refl _) g) ih
  | bw _ g ih => exact Kn.trans (.fw (.refl _) g) ih
theorem Kn1.cong {a b} (h : Kn1 a b) (u v : List Int) : Kn1 (u ++ a ++ v) (u ++ b ++ v) := by
  cases h with
  | a u' v' h1 h2 => simpa using Kn1.a (u ++ u') (v' ++ v) h1 h2
  | b u' v' h1 h2 => simpa using Kn1.b (u ++ u') (v' ++ v) h1 h2
theorem Kn.cong {a b} (h : Kn a b) (u v : List Int) : Kn (u ++ a ++ v) (u ++ b ++ v) := by
  induction h with
  | refl => exact .refl _
  | fw _ g ih => exact .fw ih (g.cong u v)
  | bw _ g ih => exact .bw ih (g.cong u v)
def sw (a c n : Nat) : Nat := if n = a then c else if n = c then a else n
def swL (a c : Nat) (L : List (Int × Nat)) : List (Int × Nat) := L.map fun p => (p.1, sw a c p.2)
theorem sw_zero {a c n : Nat} (ha : a ≠ 0) (hc : c ≠ 0) : sw a c n = 0 ↔ n = 0 := by unfold sw; grind
theorem sw_inj {a c n m : Nat} (h : sw a c n = sw a c m) : n = m := by unfold sw at h; grind
theorem swL_wd (a c L) : Wd (swL a c L) = Wd L := by simp [Wd, swL, List.map_map]
theorem swL_cnt {a c} (ha : a ≠ 0) (hc : c ≠ 0) (L) : cnt (swL a c L) = cnt L := by
  unfold cnt swL
  rw [List.countP_map]
  refine List.countP_congr fun p _ => ?_
  simp [sw_zero ha hc]
theorem swL_val {a c} (ha : a ≠ 0) (hc : c ≠ 0) {L} (h : Val L) : Val (swL a c L) := by
  unfold Val swL
  rw [List.pairwise_map]
  refine List.Pairwise.imp (fun {p q} hr h0 he => ?_) h
  exact hr (fun e => h0 ((sw_zero ha hc).2 e)) (sw_inj he)
theorem val3 {U V : List (Int × Nat)} {p q r : Int × Nat} : Val (U ++ p :: q :: r :: V) ↔ Val U ∧ Val V ∧ (CR p q ∧ CR p r ∧ CR q r) ∧ (∀ u ∈ U, CR u p ∧ CR u q ∧ CR u r) ∧ (∀ v ∈ V, CR p v ∧ CR q v ∧ CR r v) ∧ ∀ u ∈ U, ∀ v ∈ V, CR u v := by
  unfold Val
  simp only [List.pairwise_append, List.pairwise_cons, List.mem_cons, forall_eq_or_imp]
  constructor
  · rintro ⟨h1, ⟨⟨a1, a2, a3⟩, ⟨a4, a5⟩, a6, a7⟩, h2⟩
    exact ⟨h1, a7, ⟨a1, a2, a4⟩, fun u hu => ⟨(h2 u hu).1, (h2 u hu).2.1, (h2 u hu).2.2.1⟩, fun v hv => ⟨a3 v hv, a5 v hv, a6 v hv⟩, fun u hu v hv => (h2 u hu).2.2.2 v hv⟩
  · rintro ⟨h1, h2, ⟨a1, a2, a3⟩, h3, h4, h5⟩
    exact ⟨h1, ⟨⟨a1, a2, fun v hv => (h4 v hv).1⟩, ⟨a3, fun v hv => (h4 v hv).2.1⟩, fun v hv => (h4 v hv).2.2, h2⟩, fun u hu => ⟨(h3 u hu).1, (h3 u hu).2.1, (h3 u hu).2.2, h5 u hu⟩⟩
theorem cnt3 {U V : List (Int × Nat)} {p q r : Int × Nat} : cnt (U ++ p :: q :: r :: V) = cnt U + cnt V + ((if p.2 ≠ 0 then 1 else 0) + (if q.2 ≠ 0 then 1 else 0) + (if r.2 ≠ 0 then 1 else 0)) := by
  unfold cnt
  simp only [List.countP_append, List.countP_cons, decide_eq_true_eq]
  omega
theorem wd3 {L : List (Int × Nat)} {u v : List Int} {x y z : Int} (h : Wd L = u ++ x :: y :: z :: v) : ∃ U V a b c, L = U ++ (x, a) :: (y, b) :: (z, c) :: V ∧ Wd U = u ∧ Wd V = v := by
  unfold Wd at h
  obtain ⟨U, R, rfl, h1, h2⟩ := List.map_eq_append_iff.1 h
  obtain ⟨p, R, rfl, h3, h4⟩ := List.map_eq_cons_iff.1 h2
  obtain ⟨q, R, rfl, h5, h6⟩ := List.map_eq_cons_iff.1 h4
  obtain ⟨r, R, rfl, h7, h8⟩ := List.map_eq_cons_iff.1 h6
  exact ⟨U, R, p.2, q.2, r.2, by rw [← h3, ← h5, ← h7], h1, h8⟩
theorem wd3' {U V : List (Int × Nat)} {x y z : Int} {a b c : Nat} : Wd (U ++ (x, a) :: (y, b) :: (z, c) :: V) = Wd U ++ x :: y :: z :: Wd V := by simp [Wd]
theorem le3 {k : Nat} {U V : List (Int × Nat)} {x y z : Int} {a b c : Nat} : (∀ p ∈ U ++ (x, a) :: (y, b) :: (z, c) :: V, p.2 ≤ k) ↔ (∀ p ∈ U, p.2 ≤ k) ∧ (∀ p ∈ V, p.2 ≤ k) ∧ a ≤ k ∧ b ≤ k ∧ c ≤ k := by
  simp only [List.mem_append, List.mem_cons]
  constructor
  · intro h
    exact ⟨fun p hp => h p (.inl hp), fun p hp => h p (.inr (.inr (.inr (.inr hp)))), h (x, a) (by simp), h (y, b) (by simp), h (z, c) (by simp)⟩
  · rintro ⟨h1, h2, h3, h4, h5⟩ p (hp | rfl | rfl | rfl | hp)
    · exact h1 p hp
    · exact h3
    · exact h4
    · exact h5
    · exact h2 p hp
theorem swL_le {k a c : Nat} {V : List (Int × Nat)} (ha : a ≤ k) (hc : c ≤ k) (h : ∀ p ∈ V, p.2 ≤ k) : ∀ p ∈ swL a c V, p.2 ≤ k := by
  intro p hp
  unfold swL at hp
  obtain ⟨q, hq, rfl⟩ := List.mem_map.1 hp
  have := h q hq
  simp only [sw]
  grind
theorem swL_mem {a c : Nat} {V : List (Int × Nat)} {p} (hp : p ∈ swL a c V) : ∃ q ∈ V, p = (q.1, sw a c q.2) := by
  unfold swL at hp
  obtain ⟨q, hq, rfl⟩ := List.mem_map.1 hp
  exact ⟨q, hq, rfl⟩
theorem has_a1 {k n : Nat} {u v : List Int} {x y z : Int} (h1 : x ≤ y) (h2 : y < z) (h : Has k (u ++ x :: z :: y :: v) n) : Has k (u ++ z :: x :: y :: v) n := by
  obtain ⟨L, hw, hk, hv, hc⟩ := h
  obtain ⟨U, V, a, b, c, rfl, rfl, rfl⟩ := wd3 hw
  rw [le3] at hk
  rw [val3] at hv
  rw [cnt3] at hc
  obtain ⟨v1, v2, v3, v4, v5, v6⟩ := hv
  obtain ⟨k1, k2, k3, k4, k5⟩ := hk
  simp only at hc
  by_cases hab : a = b ∧ a ≠ 0
  · obtain ⟨rfl, ha⟩ := hab
    have hca : c ≠ a := fun e => by have := v3.2.2 (by simpa using ha) (by simp [e]); simp at this; omega
    by_cases hc0 : c = 0
    · subst hc0
      refine ⟨U ++ (z, 0) :: (x, a) :: (y, a) :: V, wd3', le3.2 ⟨k1, k2, by omega, k3, k3⟩, val3.2 ⟨v1, v2, ?_, fun p hp => ?_, fun p hp => ?_, v6⟩, ?_⟩
      · simp only [CR]; grind
      · have := v4 p hp; simp only [CR] at this ⊢; grind
      · have := v5 p hp; simp only [CR] at this ⊢; grind
      · rw [cnt3]; simp only; grind
    · refine ⟨U ++ (z, c) :: (x, a) :: (y, a) :: swL a c V, ?_, le3.2 ⟨k1, swL_le k3 k5 k2, k5, k3, k3⟩, val3.2 ⟨v1, swL_val ha hc0 v2, ?_, fun p hp => ?_, fun p hp => ?_, fun p hp q hq => ?_⟩, ?_⟩
      · rw [wd3', swL_wd]
      · simp only [CR]; grind
      · have := v4 p hp; simp only [CR] at this ⊢; grind
      · obtain ⟨q, hq, rfl⟩ := swL_mem hp
        have := v5 q hq; simp only [CR, sw] at this ⊢; grind
      · obtain ⟨t, ht, rfl⟩ := swL_mem hq
        have a1 := v4 p hp; have a2 := v5 t ht; have a3 := v6 p hp t ht; simp only [CR, sw] at a1 a2 a3 ⊢; grind
      · rw [cnt3, swL_cnt ha hc0]; simp only; grind
  · refine ⟨U ++ (z, b) :: (x, a) :: (y, c) :: V, wd3', le3.2 ⟨k1, k2, k4, k3, k5⟩, val3.2 ⟨v1, v2, ?_, fun p hp => ?_, fun p hp => ?_, v6⟩, ?_⟩
    · simp only [CR] at v3 ⊢; grind
    · have := v4 p hp; exact ⟨this.2.1, this.1, this.2.2⟩
    · have := v5 p hp; exact ⟨this.2.1, this.1, this.2.2⟩
    · rw [cnt3]; simp only; grind
theorem has_a2 {k n : Nat} {u v : List Int} {x y z : Int} (h1 : x ≤ y) (h2 : y < z) (h : Has k (u ++ z :: x :: y :: v) n) : Has k (u ++ x :: z :: y :: v) n := by
  obtain ⟨L, hw, hk, hv, hc⟩ := h
  obtain ⟨U, V, a, b, c, rfl, rfl, rfl⟩ := wd3 hw
  rw [le3] at hk
  rw [val3] at hv
  rw [cnt3] at hc
  obtain ⟨v1, v2, v3, v4, v5, v6⟩ := hv
  obtain ⟨k1, k2, k3, k4, k5⟩ := hk
  simp only at hc
  refine ⟨U ++ (x, b) :: (z, a) :: (y, c) :: V, wd3', le3.2 ⟨k1, k2, k4, k3, k5⟩, val3.2 ⟨v1, v2, ?_, fun p hp => ?_, fun p hp => ?_, v6⟩, ?_⟩
  · simp only [CR] at v3 ⊢; grind
  · have := v4 p hp; exact ⟨this.2.1, this.1, this.2.2⟩
  · have := v5 p hp; exact ⟨this.2.1, this.1, this.2.2⟩
  · rw [cnt3]; simp only; grind
theorem has_b1 {k n : Nat} {u v : List Int} {x y z : Int} (h1 : x < y) (h2 : y ≤ z) (h : Has k (u ++ y :: x :: z :: v) n) : Has k (u ++ y :: z :: x :: v) n := by
  obtain ⟨L, hw, hk, hv, hc⟩ := h
  obtain ⟨U, V, c, a, b, rfl, rfl, rfl⟩ := wd3 hw
  rw [le3] at hk
  rw [val3] at hv
  rw [cnt3] at hc
  obtain ⟨v1, v2, v3, v4, v5, v6⟩ := hv
  obtain ⟨k1, k2, k3, k4, k5⟩ := hk
  simp only at hc
  by_cases hab : a = b ∧ a ≠ 0
  · obtain ⟨rfl, ha⟩ := hab
    have hca : c ≠ a := fun e => by subst e; have := v3.1 (by simpa using ha) rfl; simp at this; omega
    by_cases hc0 : c = 0
    · subst hc0
      refine ⟨U ++ (y, a) :: (z, a) :: (x, 0) :: V, wd3', le3.2 ⟨k1, k2, k4, k4, by omega⟩, val3.2 ⟨v1, v2, ?_, fun p hp => ?_, fun p hp => ?_, v6⟩, ?_⟩
      · simp only [CR]; grind
      · have := v4 p hp; simp only [CR] at this ⊢; grind
      · have := v5 p hp; simp only [CR] at this ⊢; grind
      · rw [cnt3]; simp only; grind
    · refine ⟨U ++ (y, c) :: (z, c) :: (x, a) :: swL a c V, ?_, le3.2 ⟨k1, swL_le k4 k3 k2, k3, k3, k4⟩, val3.2 ⟨v1, swL_val ha hc0 v2, ?_, fun p hp => ?_, fun p hp => ?_, fun p hp q hq => ?_⟩, ?_⟩
      · rw [wd3', swL_wd]
      · simp only [CR]; grind
      · have := v4 p hp; simp only [CR] at this ⊢; grind
      · obtain ⟨q, hq, rfl⟩ := swL_mem hp
        have := v5 q hq; simp only [CR, sw] at this ⊢; grind
      · obtain ⟨t, ht, rfl⟩ := swL_mem hq
        have a1 := v4 p hp; have a2 := v5 t ht; have a3 := v6 p hp t ht; simp only [CR, sw] at a1 a2 a3 ⊢; grind
      · rw [cnt3, swL_cnt ha hc0]; simp only; grind
  · refine ⟨U ++ (y, c) :: (z, b) :: (x, a) :: V, wd3', le3.2 ⟨k1, k2, k3, k5, k4⟩, val3.2 ⟨v1, v2, ?_, fun p hp => ?_, fun p hp => ?_, v6⟩, ?_⟩
    · simp only [CR] at v3 ⊢; grind
    · have := v4 p hp; exact ⟨this.1, this.2.2, this.2.1⟩
    · have := v5 p hp; exact ⟨this.1, this.2.2, this.2.1⟩
    · rw [cnt3]; simp only; grind
theorem has_b2 {k n : Nat} {u v : List Int} {x y z : Int} (h1 : x < y) (h2 : y ≤ z) (h : Has k (u ++ y :: z :: x :: v) n) : Has k (u ++ y :: x :: z :: v) n := by
  obtain ⟨L, hw, hk, hv, hc⟩ := h
  obtain ⟨U, V, c, b, a, rfl, rfl, rfl⟩ := wd3 hw
  rw [le3] at hk
  rw [val3] at hv
  rw [cnt3] at hc
  obtain ⟨v1, v2, v3, v4, v5, v6⟩ := hv
  obtain ⟨k1, k2, k3, k4, k5⟩ := hk
  simp only at hc
  refine ⟨U ++ (y, c) :: (x, a) :: (z, b) :: V, wd3', le3.2 ⟨k1, k2, k3, k5, k4⟩, val3.2 ⟨v1, v2, ?_, fun p hp => ?_, fun p hp => ?_, v6⟩, ?_⟩
  · simp only [CR] at v3 ⊢; grind
  · have := v4 p hp; exact ⟨this.1, this.2.2, this.2.1⟩
  · have := v5 p hp; exact ⟨this.1, this.2.2, this.2.1⟩
  · rw [cnt3]; simp only; grind
theorem Kn.has {a b} (h : Kn a b) {k n : Nat} (g : Has k a n) : Has k b n := by
  induction h with
  | refl => exact g
  | fw _ q ih => cases q with
    | a u v h1 h2 => exact has_a1 h1 h2 ih
    | b u v h1 h2 => exact has_b1 h1 h2 ih
  | bw _ q ih => cases q with
    | a u v h1 h2 => exact has_a2 h1 h2 ih
    | b u v h1 h2 => exact has_b2 h1 h2 ih
end Go.AM.Tb
