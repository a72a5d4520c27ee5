/- A part of the proof: S31. -/
import Derived.Test.YtbjkmejlecoebaaS28
import Derived.Test.YtbjkmejlecoebaaSE8
set_option linter.unusedSectionVars false
set_option linter.unusedVariables false
set_option linter.unusedSimpArgs false
namespace Go.AM.Pr
open Go.AM.Num
/-! ### proofs -/
structure En where
  p : Int
  w : Int
  fv : AV
  f : List Int
def pcE (l : List En) : List AV := l.flatMap fun e => [.int .i64 e.p, .int .i64 e.w, e.fv]
def GoodE (l : List En) : Prop := ∀ e ∈ l, IsL e.fv e.f
def IsP (v : AV) (l : List En) : Prop := GoodE l ∧ ((v = .nilS ∧ l = []) ∨ v = .rd 3 l.length (pcE l))
theorem pcE_len (l : List En) : (pcE l).length = l.length * 3 := by
  induction l with
  | nil => rfl
  | cons x l ih =>
    have : pcE (x :: l) = .int .i64 x.p :: .int .i64 x.w :: x.fv :: pcE l := rfl
    rw [this]
    simp only [List.length_cons, ih]
    omega
theorem pcE_app (l r : List En) : pcE (l ++ r) = pcE l ++ pcE r := by simp [pcE]
def ge (l : List En) (i : Nat) : En := l.getD i ⟨0, 0, .nilS, []⟩
theorem ge_lt {l : List En} {i : Nat} (h : i < l.length) : ge l i = l[i] := by simp [ge, List.getD, h]
theorem ge_mem {l : List En} {i : Nat} (h : i < l.length) : ge l i ∈ l := by rw [ge_lt h]; exact List.getElem_mem h
theorem pcE_at : ∀ {l : List En} {i : Nat} (h : i < l.length), ∃ r, (pcE l).drop (i * 3) = .int .i64 (ge l i).p :: .int .i64 (ge l i).w :: (ge l i).fv :: r
  | x :: l, 0, h => ⟨pcE l, rfl⟩
  | x :: l, i + 1, h => by
    obtain ⟨r, hr⟩ := pcE_at (l := l) (i := i) (by simpa using h)
    refine ⟨r, ?_⟩
    rw [show (i + 1) * 3 = i * 3 + 1 + 1 + 1 by omega]
    exact hr
theorem pcE_free {l : List En} (h : GoodE l) : idFreeL (pcE l) = true := by
  induction l with
  | nil => rfl
  | cons x l ih =>
    have : pcE (x :: l) = .int .i64 x.p :: .int .i64 x.w :: x.fv :: pcE l := rfl
    rw [this]
    simp [idFreeL, AV.idFree, (h x List.mem_cons_self).free, ih fun e he => h e (List.mem_cons_of_mem _ he)]
theorem IsP.free {v : AV} {l : List En} (h : IsP v l) : v.idFree = true := by
  obtain ⟨hg, ⟨rfl, rfl⟩ | rfl⟩ := h
  · rfl
  · rfl
theorem p_lenE {H : Heap} {v : AV} {l : List En} (h : IsP v l) : evP H .len [v] = some (.int .i64 ((l.length : Nat) : Int)) := by
  obtain ⟨hg, ⟨rfl, rfl⟩ | rfl⟩ := h <;> rfl
theorem p_idxE {H : Heap} {v : AV} {l : List En} (h : IsP v l) {i : Nat} (hi : i < l.length) : evP H (.idxA 3) [v, .int .i64 (i : Int)] = some (.rp ((pcE l).drop (i * 3))) := by
  obtain ⟨hg, ⟨rfl, rfl⟩ | rfl⟩ := h
  · simp at hi
  · simp only [evP, idxSl]
    rw [if_pos ⟨trivial, by omega, by omega⟩]
    simp
theorem p_ldE {H : Heap} {l : List En} {i : Nat} (hi : i < l.length) : evP H (.ld true 3) [.rp ((pcE l).drop (i * 3))] = some (.agg [.int .i64 (ge l i).p, .int .i64 (ge l i).w, (ge l i).fv]) := by
  obtain ⟨r, hr⟩ := pcE_at hi
  rw [hr]
  simp [evP, ldc, wholeOf]
theorem p_fldE0 {H : Heap} {c : List AV} : evP H (.fldA 0) [.rp c] = some (.rp c) := by simp [evP, fldAt]
theorem p_ldE0 {H : Heap} {l : List En} {i : Nat} (hi : i < l.length) : evP H (.ld false 1) [.rp ((pcE l).drop (i * 3))] = some (.int .i64 (ge l i).p) := by
  obtain ⟨r, hr⟩ := pcE_at hi
  rw [hr]
  simp [evP, ldc, wholeOf]
/-- what is asked of an entry behind others -/
def EOk (p w : Int) (f : List Int) (B : List Int) : Prop :=
  (p = 2 ∧ w = 1 ∧ f = []) ∨
  (p ≠ 2 ∧ 3 ≤ p ∧ p.tmod 2 ≠ 0 ∧ IsNum p ∧ 2 ≤ w ∧ w < p ∧
    (∀ k : Nat, k < f.length → getI f k ∈ B ∧ (0 < k → getI f ((k : Int) - 1) < getI f k) ∧ (getI f k).toNat ∣ (p - 1).toNat) ∧
    (∀ q, IsPr q → q ∣ (p - 1).toNat → ((q : Nat) : Int) ∈ f) ∧ Wit w.toNat p.toNat f)
noncomputable instance (p w : Int) (f B : List Int) : Decidable (EOk p w f B) := Classical.propDecidable _
/-- all are primes -/
def AllPr (B : List Int) : Prop := ∀ x ∈ B, 2 ≤ x ∧ IsPr x.toNat
theorem getI_mem {l : List Int} {k : Nat} (h : k < l.length) : getI l k ∈ l := by
  rw [getI_nat]
  simp [List.getD, h]
theorem mem_getI {l : List Int} {x : Int} (h : x ∈ l) : ∃ k : Nat, k < l.length ∧ getI l k = x := by
  obtain ⟨k, hk, e⟩ := List.getElem_of_mem h
  exact ⟨k, hk, by rw [getI_nat]; simp [List.getD, hk, e]⟩
theorem EOk.prime {p w : Int} {f B : List Int} (hB : AllPr B) (h : EOk p w f B) : 2 ≤ p ∧ IsPr p.toNat := by
  rcases h with ⟨rfl, _⟩ | ⟨h2, h3, h4, h5, h6, h7, h8, h9, h10⟩
  · refine ⟨by omega, by show 2 ≤ 2; omega, fun d hd => ?_⟩
    have := Nat.le_of_dvd (by decide) hd
    have e : (2 : Int).toNat = 2 := rfl
    rw [e] at *
    rcases (by omega : d = 0 ∨ d = 1 ∨ d = 2) with rfl | h | h
    · obtain ⟨c, hc⟩ := hd; omega
    · exact .inl h
    · exact .inr h
  · refine ⟨by omega, ?_⟩
    obtain ⟨P, rfl⟩ : ∃ P : Nat, p = P := ⟨p.toNat, by omega⟩
    obtain ⟨W, rfl⟩ : ∃ P : Nat, w = P := ⟨w.toNat, by omega⟩
    simp only [Int.toNat_natCast] at *
    have e1 : ((P : Int) - 1).toNat = P - 1 := by omega
    rw [e1] at h8 h9
    have h1p : 1 % P = 1 := Nat.mod_eq_of_lt (by omega)
    refine lucas (w := W) (by omega) ⟨?_, by omega, fun q hq hd ho => ?_⟩
    · have := h10.1
      unfold Pow1; omega
    · refine h10.2 ⟨_, h9 q hq hd, ?_⟩
      unfold Pow1 at ho
      unfold hit
      rw [Int.toNat_natCast]
      omega
def gE (p w : Int) (fv : AV) : Heap := [some (.box [.int .i64 p, .int .i64 w, fv])]
/-- the state of stripping: what is left has no prime of those seen, what is gone no other -/
def Left (f : List Int) (k N rest : Nat) : Prop := ∃ c, N = c * rest ∧ (∀ q, IsPr q → q ∣ c → ∃ j : Nat, j < k ∧ getI f j = (q : Int)) ∧ ∀ j : Nat, j < k → ¬ (getI f j).toNat ∣ rest
theorem Left.init (f : List Int) (N : Nat) : Left f 0 N N := ⟨1, by simp, fun q hq hd => by
  have := Nat.le_of_dvd (by omega) hd
  have := hq.1
  omega, fun j hj => by omega⟩
theorem Left.step {f : List Int} {k N q e r : Nat} (h : Left f k N (q ^ e * r)) (hq : IsPr q) (hk : getI f k = (q : Int)) (hr : ¬ q ∣ r) : Left f (k + 1) N r := by
  obtain ⟨c, h1, h2, h3⟩ := h
  refine ⟨c * q ^ e, by rw [h1, Nat.mul_assoc], fun p hp hd => ?_, fun j hj hd => ?_⟩
  · rcases pr_dvd_mul hp hd with h | h
    · obtain ⟨j, j1, j2⟩ := h2 p hp h
      exact ⟨j, by omega, j2⟩
    · have := pr_dvd_pr hp hq (pr_dvd_pow hp h)
      exact ⟨k, by omega, by rw [hk, this]⟩
  · rcases (by omega : j < k ∨ j = k) with h | rfl
    · exact h3 j h (Nat.dvd_trans hd ⟨q ^ e, Nat.mul_comm _ _⟩)
    · rw [hk] at hd
      exact hr hd
theorem Left.dvd {f : List Int} {k N rest q : Nat} (h : Left f k N rest) (hq : IsPr q) (hn : ∀ j : Nat, j < k → getI f j ≠ (q : Int)) : q ∣ rest ↔ q ∣ N := by
  obtain ⟨c, h1, h2, h3⟩ := h
  constructor
  · intro hd; rw [h1]; exact Nat.dvd_trans hd ⟨c, Nat.mul_comm _ _⟩
  · intro hd
    rw [h1] at hd
    rcases pr_dvd_mul hq hd with h | h
    · obtain ⟨j, j1, j2⟩ := h2 q hq h
      exact absurd j2 (hn j j1)
    · exact h
theorem Left.done {f : List Int} {N rest : Nat} (hN : 1 ≤ N) (h : Left f f.length N rest) : rest = 1 ↔ ∀ q, IsPr q → q ∣ N → ((q : Nat) : Int) ∈ f := by
  obtain ⟨c, h1, h2, h3⟩ := h
  constructor
  · rintro rfl q hq hd
    rw [h1, Nat.mul_one] at hd
    obtain ⟨j, j1, j2⟩ := h2 q hq hd
    rw [← j2]
    exact getI_mem j1
  · intro h
    refine Classical.byContradiction fun hne => ?_
    have hpos : 1 < rest := by
      rcases (by omega : rest = 0 ∨ rest = 1 ∨ 1 < rest) with rfl | e | e
      · simp at h1; omega
      · exact absurd e hne
      · exact e
    obtain ⟨q, hq, hd⟩ := pr_ex hpos
    obtain ⟨k, k1, k2⟩ := mem_getI (h q hq (by rw [h1]; exact Nat.dvd_trans hd ⟨c, Nat.mul_comm _ _⟩))
    refine h3 k k1 ?_
    rw [k2]
    exact hd
theorem Left.pos {f : List Int} {k N rest : Nat} (hN : 1 ≤ N) (h : Left f k N rest) : 1 ≤ rest ∧ rest ≤ N := by
  obtain ⟨c, h1, _⟩ := h
  rcases Nat.eq_zero_or_pos rest with rfl | e
  · simp at h1; omega
  · refine ⟨e, ?_⟩
    rcases Nat.eq_zero_or_pos c with rfl | e'
    · simp at h1; omega
    · rw [h1]; exact Nat.le_mul_of_pos_left _ e'
/-- a power taken out -/
theorem take_out {q n : Nat} (hq : 2 ≤ q) (hn : 1 ≤ n) : ∃ e r, n = q ^ e * r ∧ ¬ q ∣ r := by
  obtain ⟨g1, g2, g3, g4⟩ := strip_spec hq n n hn (Nat.le_refl _)
  exact ⟨_, _, g1, fun h => g2 (Nat.mod_eq_zero_of_dvd h)⟩
end Go.AM.Pr
