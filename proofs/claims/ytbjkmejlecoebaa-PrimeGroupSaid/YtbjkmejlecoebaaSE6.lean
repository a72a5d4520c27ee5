/- A part of the proof: SE6. -/
import Derived.Test.YtbjkmejlecoebaaSE5
set_option linter.unusedSectionVars false
set_option linter.unusedVariables false
set_option linter.unusedSimpArgs false
namespace Go.AM.Num
/-! ### Tonelli's and Shanks' way -/
def kf (p : Nat) : Nat → Nat → Nat
  | 0, _ => 0
  | f + 1, t => if t = 1 then 0 else kf p f (t * t % p) + 1
def ton (p : Nat) : Nat → Nat → Nat → Nat → Nat → Nat
  | 0, _, x, _, _ => x
  | f + 1, c, x, t, s => if t = 1 then x else
      ton p f (c ^ (2 ^ (s - kf p s t - 1)) % p * (c ^ (2 ^ (s - kf p s t - 1)) % p) % p) (x * (c ^ (2 ^ (s - kf p s t - 1)) % p) % p)
        (t * (c ^ (2 ^ (s - kf p s t - 1)) % p * (c ^ (2 ^ (s - kf p s t - 1)) % p) % p) % p) (kf p s t)
theorem sq_mod_pow (p t n : Nat) : (t * t % p) ^ (2 ^ n) % p = t ^ (2 ^ (n + 1)) % p := by
  rw [← Nat.pow_mod, ← Nat.pow_two, ← Nat.pow_mul, Nat.pow_succ, Nat.mul_comm 2]
theorem kf_spec {p : Nat} (hp : 2 ≤ p) : ∀ (f n t : Nat), n ≤ f → t < p → t ^ (2 ^ n) % p = 1 → kf p f t ≤ n ∧ t ^ (2 ^ kf p f t) % p = 1 ∧ (t ≠ 1 → 1 ≤ kf p f t ∧ t ^ (2 ^ (kf p f t - 1)) % p ≠ 1)
  | 0, n, t, hn, ht, h => by
    obtain rfl : n = 0 := by omega
    simp only [kf, Nat.pow_zero, Nat.pow_one] at *
    exact ⟨Nat.le_refl _, h, fun h1 => by rw [Nat.mod_eq_of_lt ht] at h; exact absurd h h1⟩
  | f + 1, n, t, hn, ht, h => by
    by_cases h1 : t = 1
    · subst h1
      simp only [kf, if_true]
      exact ⟨Nat.zero_le _, by rw [Nat.one_pow]; exact Nat.mod_eq_of_lt hp, fun h => absurd rfl h⟩
    · obtain ⟨n', rfl⟩ : ∃ n', n = n' + 1 := by
        cases n with
        | zero => simp only [Nat.pow_zero, Nat.pow_one] at h; rw [Nat.mod_eq_of_lt ht] at h; exact absurd h h1
        | succ n' => exact ⟨n', rfl⟩
      obtain ⟨a, b, c⟩ := kf_spec hp f n' (t * t % p) (by omega) (Nat.mod_lt _ (by omega)) (by rw [sq_mod_pow]; exact h)
      simp only [kf, if_neg h1]
      refine ⟨by omega, by rw [← sq_mod_pow]; exact b, fun _ => ⟨by omega, ?_⟩⟩
      simp only [Nat.add_sub_cancel]
      by_cases h2 : t * t % p = 1
      · have : kf p f (t * t % p) = 0 := by
          rw [h2]
          cases f <;> simp [kf]
        rw [this, Nat.pow_zero, Nat.pow_one, Nat.mod_eq_of_lt ht]
        exact h1
      · obtain ⟨c1, c2⟩ := c h2
        obtain ⟨j, hj⟩ : ∃ j, kf p f (t * t % p) = j + 1 := ⟨kf p f (t * t % p) - 1, by omega⟩
        rw [hj, Nat.add_sub_cancel, sq_mod_pow] at c2
        rw [hj]
        exact c2
theorem sq_one {p y : Nat} (hp : IsPr p) (hy : y < p) (h : y * y % p = 1) : y = 1 ∨ y = p - 1 := by
  have h2 := hp.1
  have hy1 : 1 ≤ y := by
    rcases Nat.eq_zero_or_pos y with rfl | h'
    · simp at h
    · exact h'
  have hd : p ∣ (y - 1) * (y + 1) := by
    have e : (y - 1) * (y + 1) = y * y - 1 := by
      obtain ⟨w, rfl⟩ : ∃ w, y = w + 1 := ⟨y - 1, by omega⟩
      rw [Nat.add_sub_cancel]
      have : (w + 1) * (w + 1) = w * (w + 1 + 1) + 1 := by rw [Nat.mul_add, Nat.add_mul, Nat.mul_add, Nat.mul_add]; omega
      omega
    rw [e]
    refine ⟨y * y / p, ?_⟩
    have := Nat.mod_add_div (y * y) p
    omega
  rcases pr_dvd_mul hp hd with e | e
  · rcases Nat.eq_zero_or_pos (y - 1) with z | z
    · left; omega
    · have := Nat.le_of_dvd z e; omega
  · right
    have := Nat.le_of_dvd (by omega) e
    omega
theorem neg_sq {p : Nat} (hp : 2 ≤ p) : (p - 1) * (p - 1) % p = 1 := by
  obtain ⟨w, rfl⟩ : ∃ w, p = w + 2 := ⟨p - 2, by omega⟩
  have : (w + 2 - 1) * (w + 2 - 1) = (w + 2) * w + 1 := by
    show (w + 1) * (w + 1) = _
    rw [Nat.mul_add, Nat.add_mul, Nat.add_mul, Nat.add_mul]; omega
  rw [this, Nat.mul_add_mod, Nat.mod_eq_of_lt (by omega)]
structure TI (p a c x t s : Nat) : Prop where
  s1 : 1 ≤ s
  cl : c < p
  xl : x < p
  tl : t < p
  i1 : x * x % p = a * t % p
  i2 : c ^ (2 ^ s) % p = 1
  i2' : c ^ (2 ^ (s - 1)) % p ≠ 1
  i3 : t ^ (2 ^ (s - 1)) % p = 1
theorem TI.step {p a c x t s : Nat} (hp : IsPr p) (h : TI p a c x t s) (ht : t ≠ 1) : kf p s t < s ∧ TI p a (c ^ (2 ^ (s - kf p s t - 1)) % p * (c ^ (2 ^ (s - kf p s t - 1)) % p) % p) (x * (c ^ (2 ^ (s - kf p s t - 1)) % p) % p)
        (t * (c ^ (2 ^ (s - kf p s t - 1)) % p * (c ^ (2 ^ (s - kf p s t - 1)) % p) % p) % p) (kf p s t) := by
  have hp2 := hp.1
  obtain ⟨s1, cl, xl, tl, i1, i2, i2', i3⟩ := h
  obtain ⟨k1, k2, k3⟩ := kf_spec hp2 s (s - 1) t (by omega) tl i3
  obtain ⟨k4, k5⟩ := k3 ht
  generalize kf p s t = k at *
  generalize hb : c ^ (2 ^ (s - k - 1)) % p = b
  have hpos : 0 < p := by omega
  have hcc : ∀ n, (b * b % p) ^ (2 ^ n) % p = c ^ (2 ^ (s - k + n)) % p := fun n => by
    rw [sq_mod_pow, ← hb, ← Nat.pow_mod, ← Nat.pow_mul, ← Nat.pow_add]
    congr 3
    omega
  have c1 : (b * b % p) ^ (2 ^ k) % p = 1 := by rw [hcc, show s - k + k = s by omega]; exact i2
  have c2 : (b * b % p) ^ (2 ^ (k - 1)) % p ≠ 1 := by rw [hcc, show s - k + (k - 1) = s - 1 by omega]; exact i2'
  have hcb : b * b % p < p := Nat.mod_lt _ hpos
  have hi1 : x * b % p * (x * b % p) % p = a * (t * (b * b % p) % p) % p := by
    have l : x * b % p * (x * b % p) % p = a * t * (b * b) % p := by
      rw [← Nat.mul_mod, Nat.mul_mul_mul_comm, Nat.mul_mod, i1, ← Nat.mul_mod]
    have r : a * (t * (b * b % p) % p) % p = a * t * (b * b) % p := by
      rw [Nat.mul_mod_mod, ← Nat.mul_assoc, Nat.mul_mod_mod]
    rw [l, r]
  generalize b * b % p = c' at *
  refine ⟨by omega, k4, ?_, Nat.mod_lt _ hpos, Nat.mod_lt _ hpos, ?_, c1, c2, ?_⟩
  · exact hcb
  · exact hi1
  · have hsq : ∀ y, y ^ (2 ^ k) % p = 1 → y ^ (2 ^ (k - 1)) % p ≠ 1 → y ^ (2 ^ (k - 1)) % p = p - 1 := fun y h1 h2 => by
      have e : (y ^ (2 ^ (k - 1)) % p) * (y ^ (2 ^ (k - 1)) % p) % p = 1 := by
        rw [← Nat.mul_mod, ← Nat.pow_add, ← Nat.two_mul, ← Nat.pow_succ', show (k - 1).succ = k by omega]
        exact h1
      exact (sq_one hp (Nat.mod_lt _ hpos) e).resolve_left h2
    rw [← Nat.pow_mod, Nat.mul_pow, Nat.mul_mod, hsq t k2 k5, hsq c' c1 c2]
    exact neg_sq hp2
theorem ton_spec {p a : Nat} (hp : IsPr p) : ∀ (f c x t s : Nat), s ≤ f → TI p a c x t s → ton p f c x t s * ton p f c x t s % p = a % p ∧ ton p f c x t s < p
  | 0, c, x, t, s, hs, h => by have := h.s1; omega
  | f + 1, c, x, t, s, hs, h => by
    by_cases ht : t = 1
    · simp only [ton, if_pos ht]
      have := h.i1
      rw [ht, Nat.mul_one] at this
      exact ⟨this, h.xl⟩
    · simp only [ton, if_neg ht]
      obtain ⟨h1, h2⟩ := h.step hp ht
      exact ton_spec hp f _ _ _ _ (by omega) h2
/-- a number that is no square -/
theorem nonres_ex {p : Nat} (hp : IsPr p) (h3 : 3 ≤ p) : ∃ z, 2 ≤ z ∧ z < p ∧ z ^ ((p - 1) / 2) % p ≠ 1 ∧ ∀ k, 2 ≤ k → k < z → k ^ ((p - 1) / 2) % p = 1 := by
  have h1p : 1 % p = 1 := Nat.mod_eq_of_lt hp.1
  obtain ⟨x, x1, x2, x3⟩ := pow_ex hp (d := (p - 1) / 2) (by omega) (by omega)
  have x3' : x ^ ((p - 1) / 2) % p ≠ 1 := fun h => x3 (by unfold Pow1; omega)
  have x1' : 2 ≤ x := by
    rcases (by omega : x = 1 ∨ 2 ≤ x) with rfl | h
    · rw [Nat.one_pow] at x3'; exact absurd h1p x3'
    · exact h
  have key : ∀ n g, g = n → 2 ≤ g → g < p → g ^ ((p - 1) / 2) % p ≠ 1 → ∃ z, 2 ≤ z ∧ z < p ∧ z ^ ((p - 1) / 2) % p ≠ 1 ∧ ∀ k, 2 ≤ k → k < z → k ^ ((p - 1) / 2) % p = 1 := by
    intro n
    induction n using Nat.strongRecOn with
    | _ n ih =>
      intro g e h1 h2 h3
      by_cases h : ∃ k, 2 ≤ k ∧ k < g ∧ k ^ ((p - 1) / 2) % p ≠ 1
      · obtain ⟨k, k1, k2, k3⟩ := h
        exact ih k (by omega) k rfl k1 (by omega) k3
      · exact ⟨g, h1, h2, h3, fun k k1 k2 => Classical.byContradiction fun k3 => h ⟨k, k1, k2, k3⟩⟩
  exact key x x rfl x1' x2 x3'
/-- how Tonelli's way begins -/
theorem TI.init {p a z o s : Nat} (hp : IsPr p) (h : p - 1 = 2 ^ s * o) (hs : 1 ≤ s) (ho : o % 2 = 1) (ha : a < p) (hsq : a ^ ((p - 1) / 2) % p = 1) (hz1 : 1 ≤ z) (hz : z < p) (hnz : z ^ ((p - 1) / 2) % p ≠ 1) : TI p a (z ^ o % p) (a ^ ((o + 1) / 2) % p) (a ^ o % p) s := by
  have hp2 := hp.1
  have h1p : 1 % p = 1 := Nat.mod_eq_of_lt hp.1
  have hpos : 0 < p := by omega
  have e1 : (p - 1) / 2 = o * 2 ^ (s - 1) := by
    obtain ⟨j, rfl⟩ : ∃ j, s = j + 1 := ⟨s - 1, by omega⟩
    rw [h, Nat.pow_succ, Nat.add_sub_cancel]
    have : 2 ^ j * 2 * o = 2 * (o * 2 ^ j) := by simp only [Nat.mul_comm, Nat.mul_left_comm, Nat.mul_assoc]
    rw [this, Nat.mul_div_cancel_left _ (by omega)]
  refine ⟨hs, Nat.mod_lt _ hpos, Nat.mod_lt _ hpos, Nat.mod_lt _ hpos, ?_, ?_, ?_, ?_⟩
  · rw [← Nat.mul_mod, ← Nat.pow_add, show (o + 1) / 2 + (o + 1) / 2 = o + 1 by omega, Nat.pow_succ, Nat.mul_comm, Nat.mul_mod a (a ^ o % p), Nat.mod_mod, ← Nat.mul_mod]
  · rw [← Nat.pow_mod, ← Nat.pow_mul, Nat.mul_comm, ← h]
    have := fermat1 hp hz1 hz
    unfold Pow1 at this
    omega
  · rw [← Nat.pow_mod, ← Nat.pow_mul, ← e1]
    exact hnz
  · rw [← Nat.pow_mod, ← Nat.pow_mul, ← e1]
    exact hsq
end Go.AM.Num
