/- A part of the proof: TC6. -/
import Derived.Test.YtdgkchedoooffaaTC5
set_option linter.unusedVariables false
set_option linter.unusedSimpArgs false
set_option linter.unusedSectionVars false
namespace Go.AM.Tb
def nL (ns : List Nat) : List Int := ns.map fun (n : Nat) => (n : Int)
theorem nL_get {ns : List Nat} {i : Nat} : getI (nL ns) (i : Int) = ((ns.getD i 0 : Nat) : Int) := by
  rw [getI_nat]; simp only [nL, List.getD, List.getElem?_map]; cases ns[i]? <;> rfl
def pL : List Nat → Nat
  | [] => 1
  | a :: r => a * pL r
theorem pL_set : ∀ (ns : List Nat) (i v : Nat), i < ns.length → pL (ns.set i v) * ns.getD i 0 = pL ns * v
  | [], i, v, h => by simp at h
  | a :: r, 0, v, h => by simp [pL]; grind
  | a :: r, i + 1, v, h => by
    have := pL_set r i v (by simpa using h)
    simp only [List.set_cons_succ, pL, List.getD_cons_succ]
    grind
theorem pL_cop {o : Nat} : ∀ ns : List Nat, (∀ h ∈ ns, Nat.Coprime o h) → Nat.Coprime o (pL ns)
  | [], _ => by simp [pL]
  | a :: r, h => Nat.Coprime.mul_right (h a (by simp)) (pL_cop r fun x hx => h x (by simp [hx]))
structure HI (x out : Nat) (n0 : List Nat) (i y : Nat) (ns : List Nat) : Prop where
  len : ns.length = n0.length
  eq : y * pL n0 = x * pL ns
  pos : 1 ≤ y
  le : y ≤ x
  cop : ∀ j, j < i → Nat.Coprime y (ns.getD j 1)
  co : ∀ h ∈ ns, Nat.Coprime out h
  bd : ∀ h ∈ ns, 1 ≤ h ∧ h ≤ 100
theorem getD_mem {ns : List Nat} {i d : Nat} (h : i < ns.length) : ns.getD i d ∈ ns := by
  simp [List.getD, h]
theorem HI.step {x out i y : Nat} {n0 ns : List Nat} (h : HI x out n0 i y ns) (hi : i < ns.length) : HI x out n0 (i + 1) (y / Nat.gcd y (ns.getD i 0)) (ns.set i (ns.getD i 0 / Nat.gcd y (ns.getD i 0))) := by
  have hm := getD_mem (d := 0) hi
  obtain ⟨b1, b2⟩ := h.bd _ hm
  have hco := h.co _ hm
  have hset := pL_set ns i (ns.getD i 0 / Nat.gcd y (ns.getD i 0)) hi
  have hgd : ∀ j, j ≠ i → (ns.set i (ns.getD i 0 / Nat.gcd y (ns.getD i 0))).getD j 1 = ns.getD j 1 := fun j hj => by simp [List.getD, List.getElem?_set_ne (Ne.symm hj)]
  have hgi : (ns.set i (ns.getD i 0 / Nat.gcd y (ns.getD i 0))).getD i 1 = ns.getD i 0 / Nat.gcd y (ns.getD i 0) := by simp [List.getD, hi]
  generalize ns.getD i 0 = q at *
  have g0 : 0 < Nat.gcd y q := Nat.gcd_pos_of_pos_left _ h.pos
  obtain ⟨u, hu⟩ := Nat.gcd_dvd_left y q
  obtain ⟨v, hv⟩ := Nat.gcd_dvd_right y q
  have hyu : y / Nat.gcd y q = u := by conv => lhs; lhs; rw [hu]
                                       exact Nat.mul_div_cancel_left _ g0
  have hqv : q / Nat.gcd y q = v := by conv => lhs; lhs; rw [hv]
                                       exact Nat.mul_div_cancel_left _ g0
  have hcp := Nat.coprime_div_gcd_div_gcd g0
  rw [hyu, hqv] at hcp ⊢
  rw [hqv] at hset hgd hgi
  generalize Nat.gcd y q = g at *
  have hu1 : 1 ≤ u := Nat.pos_of_ne_zero fun e => by rw [e] at hu; have := h.pos; simp at hu; omega
  have hv1 : 1 ≤ v := Nat.pos_of_ne_zero fun e => by rw [e] at hv; simp at hv; omega
  have hug : u ∣ y := ⟨g, by rw [hu, Nat.mul_comm]⟩
  have hvg : v ∣ q := ⟨g, by rw [hv, Nat.mul_comm]⟩
  refine ⟨by rw [List.length_set]; exact h.len, ?_, hu1, Nat.le_trans (Nat.le_of_dvd h.pos hug) h.le, fun j hj => ?_, fun z hz => ?_, fun z hz => ?_⟩
  · have h1 : pL (ns.set i v) * g = pL ns := by
      rw [hv] at hset
      have : pL (ns.set i v) * g * v = pL ns * v := by rw [← hset]; grind
      exact Nat.eq_of_mul_eq_mul_right hv1 this
    have h2 := h.eq
    rw [hu, ← h1] at h2
    have : g * (u * pL n0) = g * (x * pL (ns.set i v)) := by rw [← Nat.mul_assoc, h2]; grind
    exact Nat.eq_of_mul_eq_mul_left g0 this
  · by_cases e : j = i
    · subst e; rw [hgi]; exact hcp
    · rw [hgd j e]
      exact Nat.Coprime.coprime_dvd_left hug (h.cop j (by omega))
  · rcases List.mem_or_eq_of_mem_set hz with hz | rfl
    · exact h.co z hz
    · exact Nat.Coprime.coprime_dvd_right hvg hco
  · rcases List.mem_or_eq_of_mem_set hz with hz | rfl
    · exact h.bd z hz
    · exact ⟨hv1, Nat.le_trans (Nat.le_of_dvd (by omega) hvg) b2⟩
structure HO' (P0 x out : Nat) (ns : List Nat) : Prop where
  eq : out * P0 = facN (x - 1) * pL ns
  pos : 1 ≤ out
  co : ∀ h ∈ ns, Nat.Coprime out h
  bd : ∀ h ∈ ns, 1 ≤ h ∧ h ≤ 100
theorem facN_dvd {a : Nat} : ∀ {b : Nat}, a ≤ b → facN a ∣ facN b
  | 0, h => by obtain rfl : a = 0 := by omega
               exact Nat.dvd_refl _
  | b + 1, h => by
    rcases Nat.lt_or_ge b a with h1 | h1
    · obtain rfl : a = b + 1 := by omega
      exact Nat.dvd_refl _
    · rw [facN]; exact Nat.dvd_trans (facN_dvd h1) (Nat.dvd_mul_left _ _)
theorem HO'.le {P0 x out c n : Nat} {ns : List Nat} (h : HO' P0 x out ns) (hP : 0 < P0) (hc : c * P0 = facN n) (hx : x ≤ n + 1) : out ≤ c := by
  have hc0 : 0 < c := Nat.pos_of_ne_zero fun e => by subst e; have := facN_pos n; omega
  obtain ⟨t, ht⟩ := facN_dvd (show x - 1 ≤ n by omega)
  have h1 : out * P0 * t = c * P0 * pL ns := by rw [h.eq, hc, ht]; grind
  have h2 : out * t = c * pL ns := by
    have : P0 * (out * t) = P0 * (c * pL ns) := by grind
    exact Nat.eq_of_mul_eq_mul_left hP this
  exact Nat.le_of_dvd hc0 (Nat.Coprime.dvd_of_dvd_mul_right (pL_cop ns h.co) ⟨t, h2.symm⟩)
end Go.AM.Tb
