/- A part of the proof: SE8. -/
import Derived.Test.YtbjkmejlecoebaaSE7
set_option linter.unusedSectionVars false
set_option linter.unusedVariables false
set_option linter.unusedSimpArgs false
namespace Go.AM.Num
theorem pow1_cop {w p k : Nat} (hp : 2 ≤ p) (hk : 1 ≤ k) (h : Pow1 w p k) : Nat.Coprime w p := by
  unfold Pow1 at h
  rw [Nat.mod_eq_of_lt (show 1 < p by omega)] at h
  have hd : Nat.gcd w p ∣ 1 := by
    have h1 : Nat.gcd w p ∣ w ^ k := by
      obtain ⟨j, rfl⟩ : ∃ j, k = j + 1 := ⟨k - 1, by omega⟩
      exact Nat.dvd_trans (Nat.gcd_dvd_left w p) ⟨w ^ j, by rw [Nat.pow_succ, Nat.mul_comm]⟩
    have h2 := Nat.gcd_dvd_right w p
    have h3 : Nat.gcd w p ∣ w ^ k % p := (Nat.dvd_mod_iff h2).2 h1
    rwa [h] at h3
  exact Nat.eq_one_of_dvd_one hd
/-- Lucas' test -/
theorem lucas {w p : Nat} (hp : 2 ≤ p) (h : Ord w p (p - 1)) : IsPr p := by
  have hc : Nat.Coprime w p := pow1_cop hp h.pos h.one
  have he : Pow1 w p (units p).length := euler (by omega) hc
  have hd := h.dvd he
  have h0 : (0 : Nat) ∉ units p := fun hm => by
    have := (mem_units.1 hm).2
    rw [Nat.Coprime, Nat.gcd_zero_left] at this
    omega
  have hnd : (units p).Nodup := (List.nodup_range).filter _
  have h1 : 1 ∈ units p := mem_units.2 ⟨by omega, Nat.coprime_one_left p⟩
  have hlen : 1 ≤ (units p).length := List.length_pos_of_mem h1
  have hge := Nat.le_of_dvd hlen hd
  refine ⟨hp, fun d hdp => ?_⟩
  refine Classical.byContradiction fun hne => ?_
  have hd0 : d ≠ 0 := fun e => by subst e; obtain ⟨c, hc⟩ := hdp; omega
  have hdlt : d < p := by
    have := Nat.le_of_dvd (by omega) hdp
    rcases (by omega : d = p ∨ d < p) with e | e
    · exact absurd (.inr e) hne
    · exact e
  have hdn : d ∉ units p := fun hm => by
    have := (mem_units.1 hm).2
    rw [Nat.Coprime, Nat.gcd_eq_left hdp] at this
    exact hne (.inl this)
  -- too few numbers are left
  have hsub : (0 :: d :: units p).length ≤ (List.range p).length := by
    have hnd2 : (0 :: d :: units p).Nodup := by
      rw [List.nodup_cons, List.nodup_cons]
      exact ⟨by simp only [List.mem_cons, not_or]; exact ⟨fun e => hd0 e.symm, h0⟩, hdn, hnd⟩
    refine Classical.byContradiction fun hgt => ?_
    have := (perm_of_sub (l2 := List.range p) hnd2 (fun x hx => List.mem_range.2 ?_) (by omega)).length_eq
    · omega
    · rcases List.mem_cons.1 hx with rfl | hx
      · omega
      · rcases List.mem_cons.1 hx with rfl | hx
        · exact hdlt
        · exact (mem_units.1 hx).1
  simp at hsub
  omega
end Go.AM.Num
