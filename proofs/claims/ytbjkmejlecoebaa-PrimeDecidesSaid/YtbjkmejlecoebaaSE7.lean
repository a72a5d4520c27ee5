/- A part of the proof: SE7. -/
import Derived.Test.YtbjkmejlecoebaaSE5
set_option linter.unusedSectionVars false
set_option linter.unusedVariables false
set_option linter.unusedSimpArgs false
namespace Go.AM.Num
/-- a true order -/
structure Ord (a p o : Nat) : Prop where
  one : Pow1 a p o
  pos : 1 ≤ o
  least : ∀ q, IsPr q → q ∣ o → ¬ Pow1 a p (o / q)
theorem pr_div' {n N : Nat} (hd : n ∣ N) (hN : 1 ≤ N) (hne : n ≠ N) : ∃ q, IsPr q ∧ q ∣ N ∧ n ∣ N / q := by
  obtain ⟨c, rfl⟩ := hd
  have hc : 1 < c := by
    rcases (by omega : c = 0 ∨ c = 1 ∨ 1 < c) with rfl | rfl | h
    · simp at hN
    · simp at hne
    · exact h
  obtain ⟨q, hq, d, rfl⟩ := pr_ex hc
  refine ⟨q, hq, ⟨n * d, by simp only [Nat.mul_comm, Nat.mul_left_comm, Nat.mul_assoc]⟩, ?_⟩
  have : n * (q * d) = q * (n * d) := by simp only [Nat.mul_comm, Nat.mul_left_comm, Nat.mul_assoc]
  rw [this, Nat.mul_div_cancel_left _ (by have := hq.1; omega)]
  exact ⟨d, rfl⟩
theorem Ord.dvd {a p o n : Nat} (h : Ord a p o) (hn : Pow1 a p n) : o ∣ n := by
  have hg := h.one.gcd hn
  have hd := Nat.gcd_dvd_left o n
  by_cases e : Nat.gcd o n = o
  · rw [← e]; exact Nat.gcd_dvd_right o n
  · obtain ⟨q, q1, q2, q3⟩ := pr_div' hd h.pos e
    exact absurd (hg.dvd q3) (h.least q q1 q2)
theorem Ord.uniq {a p o o' : Nat} (h : Ord a p o) (h' : Ord a p o') : o = o' := Nat.dvd_antisymm (h.dvd h'.one) (h'.dvd h.one)
theorem unit_pow {p g : Nat} (hp : IsPr p) (h1 : 1 ≤ g) (h2 : g < p) (k : Nat) : Nat.Coprime (g ^ k) p := Nat.Coprime.pow_left k (pr_cop_of_lt hp h1 h2)
theorem cancel_mod {p u x y : Nat} (hp0 : 0 < p) (hu : Nat.Coprime u p) (h : u * x % p = u * y % p) : x % p = y % p := by
  refine cancel hu (Nat.mod_lt _ hp0) (Nat.mod_lt _ hp0) ?_
  rw [Nat.mul_mod_mod, Nat.mul_mod_mod, h]
/-- equal powers differ by the order -/
theorem Ord.inj {p g o i j : Nat} (hp : IsPr p) (h1 : 1 ≤ g) (h2 : g < p) (ho : Ord g p o) (hij : i ≤ j) (h : g ^ i % p = g ^ j % p) : o ∣ j - i := by
  refine ho.dvd ?_
  have e : g ^ j = g ^ i * g ^ (j - i) := by rw [← Nat.pow_add]; congr 1; omega
  have h3 : g ^ i * 1 % p = g ^ i * g ^ (j - i) % p := by rw [Nat.mul_one, ← e, h]
  exact (cancel_mod (by have := hp.1; omega) (unit_pow hp h1 h2 i) h3).symm
theorem Ord.inj' {p g o i j : Nat} (hp : IsPr p) (h1 : 1 ≤ g) (h2 : g < p) (ho : Ord g p o) (hi : i < o) (hj : j < o) (h : g ^ i % p = g ^ j % p) : i = j := by
  rcases Nat.le_total i j with hij | hij
  · obtain ⟨c, hc⟩ := ho.inj hp h1 h2 hij h
    rcases Nat.eq_zero_or_pos c with rfl | hc'
    · simp at hc; omega
    · have := Nat.mul_le_mul_left o hc'; omega
  · obtain ⟨c, hc⟩ := ho.inj hp h1 h2 hij h.symm
    rcases Nat.eq_zero_or_pos c with rfl | hc'
    · simp at hc; omega
    · have := Nat.mul_le_mul_left o hc'; omega
theorem Ord.mod {p g o e : Nat} (ho : Ord g p o) : g ^ (e % o) % p = g ^ e % p := by
  conv => rhs; rw [← Nat.div_add_mod e o, Nat.pow_add, Nat.mul_mod]
  have := ho.one.mul (e / o)
  unfold Pow1 at this
  rw [this, ← Nat.mul_mod, Nat.one_mul]
/-- what has the order's power one is a power -/
theorem Ord.log {p g o a : Nat} (hp : IsPr p) (h1 : 1 ≤ g) (h2 : g < p) (ho : Ord g p o) (ha2 : a < p) (h : Pow1 a p o) : ∃ r, r < o ∧ g ^ r % p = a := by
  refine Classical.byContradiction fun hne => ?_
  have hall : ∀ r, r < o → g ^ r % p ≠ a := fun r hr e => hne ⟨r, hr, e⟩
  have := roots_le hp ho.pos (l := a :: (List.range o).map fun r => g ^ r % p) (by
    rw [List.pairwise_cons]
    refine ⟨fun b hb => ?_, ?_⟩
    · obtain ⟨r, hr, rfl⟩ := List.mem_map.1 hb
      exact (hall r (List.mem_range.1 hr)).symm
    · rw [List.pairwise_map]
      refine List.Pairwise.imp_of_mem (fun {i j} hi hj hlt e => ?_) List.pairwise_lt_range
      have := ho.inj' hp h1 h2 (List.mem_range.1 hi) (List.mem_range.1 hj) e
      omega) (fun b hb => by
    rcases List.mem_cons.1 hb with rfl | hb
    · exact ⟨ha2, h⟩
    · obtain ⟨r, hr, rfl⟩ := List.mem_map.1 hb
      refine ⟨Nat.mod_lt _ (by omega), Pow1.modL.2 (Pow1.powL.2 ?_)⟩
      rw [Nat.mul_comm]
      exact ho.one.mul r)
  simp at this
  omega
theorem Ord.log' {p g o a r : Nat} (ho : Ord g p o) (h : g ^ r % p = a) : Pow1 a p o := by
  rw [← h]
  refine Pow1.modL.2 (Pow1.powL.2 ?_)
  rw [Nat.mul_comm]
  exact ho.one.mul r
/-- the giant steps meet the small ones -/
theorem meet {p g o a r W : Nat} (hp : IsPr p) (hW : p ≤ W * W) (ho : Ord g p o) (hop : o ≤ p - 1) (hr : r < o) (h : g ^ r % p = a) : ∃ k s, 1 ≤ k ∧ k ≤ W ∧ s < W ∧ a * g ^ s % p = g ^ (W * k) % p := by
  have hp2 := hp.1
  have hW1 : 1 ≤ W := by
    rcases Nat.eq_zero_or_pos W with rfl | h'
    · simp at hW; omega
    · exact h'
  obtain ⟨e, e1, e2, e3⟩ : ∃ e, 1 ≤ e ∧ e ≤ p - 1 ∧ g ^ e % p = a := by
    rcases Nat.eq_zero_or_pos r with rfl | h'
    · refine ⟨o, ho.pos, hop, ?_⟩
      have := ho.one
      unfold Pow1 at this
      rw [Nat.pow_zero] at h
      omega
    · exact ⟨r, h', by omega, h⟩
  have hk := Nat.div_add_mod (e + W - 1) W
  have hm := Nat.mod_lt (e + W - 1) (show W > 0 by omega)
  generalize hkk : (e + W - 1) / W = k at *
  have hkW : W * k ≤ e + W - 1 := by omega
  have hkW2 : e ≤ W * k := by omega
  refine ⟨k, W * k - e, ?_, ?_, by omega, ?_⟩
  · rcases Nat.eq_zero_or_pos k with rfl | h'
    · simp at hkW2; omega
    · exact h'
  · rcases Nat.lt_or_ge W k with h' | h'
    · have := Nat.mul_le_mul_left W h'
      rw [Nat.mul_succ] at this
      omega
    · exact h'
  · rw [← e3, Nat.mod_mul_mod, ← Nat.pow_add]
    congr 2
    omega
theorem unmeet {p g a k s W : Nat} (hp : IsPr p) (h1 : 1 ≤ g) (h2 : g < p) (ha : a < p) (hk : 1 ≤ k) (hs : s < W) (h : a * g ^ s % p = g ^ (W * k) % p) : s ≤ W * k ∧ g ^ (W * k - s) % p = a := by
  have hle : s ≤ W * k := by have := Nat.mul_le_mul_left W hk; omega
  refine ⟨hle, ?_⟩
  have e : g ^ (W * k) = g ^ s * g ^ (W * k - s) := by rw [← Nat.pow_add]; congr 1; omega
  rw [e, Nat.mul_comm a] at h
  have := cancel_mod (by have := hp.1; omega) (unit_pow hp h1 h2 s) h
  rw [Nat.mod_eq_of_lt ha] at this
  exact this.symm
end Go.AM.Num
