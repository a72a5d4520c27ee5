/- A part of the proof: SE1. -/
import Derived.Test.YtbjkmejlecoebaaM3
set_option linter.unusedSectionVars false
/- Euler's theorem, in plain Lean. -/
namespace Go.AM.Num

theorem perm_of_sub {α : Type} [DecidableEq α] : ∀ {l1 l2 : List α}, l1.Nodup → (∀ x ∈ l1, x ∈ l2) → l2.length ≤ l1.length → l1.Perm l2
  | [], l2, _, _, h => by
    have : l2 = [] := List.eq_nil_of_length_eq_zero (by simpa using h)
    subst this; exact List.Perm.refl _
  | x :: xs, l2, hn, hs, h => by
    obtain ⟨h1, h2⟩ := List.nodup_cons.1 hn
    have hx : x ∈ l2 := hs x (by simp)
    have hp := List.perm_cons_erase hx
    have hl : (l2.erase x).length = l2.length - 1 := List.length_erase_of_mem hx
    have ih : xs.Perm (l2.erase x) := perm_of_sub h2 (fun y hy => (List.mem_erase_of_ne (fun e : y = x => h1 (by rw [← e]; exact hy))).2 (hs y (by simp [hy]))) (by simp at h; omega)
    exact (List.Perm.cons x ih).trans hp.symm

def pr (m : Nat) (l : List Nat) : Nat := l.foldr (fun x acc => x * acc % m) (1 % m)
theorem pr_perm {m : Nat} {l k : List Nat} (h : l.Perm k) : pr m l = pr m k := by
  induction h with
  | nil => rfl
  | cons x h ih => simp only [pr, List.foldr_cons] at ih ⊢; rw [ih]
  | swap x y l =>
    simp only [pr, List.foldr_cons]
    rw [Nat.mul_mod_mod, Nat.mul_mod_mod, Nat.mul_left_comm]
  | trans _ _ h1 h2 => exact h1.trans h2
theorem pr_map {m a : Nat} : ∀ (l : List Nat), pr m (l.map fun x => a * x % m) = a ^ l.length * pr m l % m
  | [] => by simp [pr]
  | x :: l => by
    have ih := pr_map (m := m) (a := a) l
    simp only [pr, List.map_cons, List.foldr_cons, List.length_cons] at ih ⊢
    rw [ih, Nat.mul_mod_mod, Nat.mod_mul_mod, Nat.mul_mod_mod, Nat.pow_succ]
    congr 1
    simp only [Nat.mul_assoc, Nat.mul_left_comm, Nat.mul_comm]
theorem cop_mod {a m : Nat} : Nat.Coprime (a % m) m ↔ Nat.Coprime a m := by
  unfold Nat.Coprime
  rw [← Nat.gcd_rec m a, Nat.gcd_comm]
theorem pr_cop {m : Nat} : ∀ (l : List Nat), (∀ x ∈ l, Nat.Coprime x m) → Nat.Coprime (pr m l) m
  | [], _ => by simp only [pr, List.foldr_nil]; exact cop_mod.2 (Nat.coprime_one_left _)
  | x :: l, h => by
    simp only [pr, List.foldr_cons]
    exact cop_mod.2 (Nat.Coprime.mul_left (h x (by simp)) (pr_cop l fun y hy => h y (by simp [hy])))

def units (m : Nat) : List Nat := (List.range m).filter fun x => Nat.gcd x m == 1
theorem mem_units {m x : Nat} : x ∈ units m ↔ x < m ∧ Nat.Coprime x m := by simp [units, Nat.Coprime]
theorem cancel {m a x y : Nat} (ha : Nat.Coprime a m) (hx : x < m) (hy : y < m) (h : a * x % m = a * y % m) : x = y := by
  have key : ∀ {x y : Nat}, x < m → y < m → x ≤ y → a * x % m = a * y % m → x = y := fun {x y} hx hy hle h => by
    have hd : m ∣ a * y - a * x := Nat.dvd_of_mod_eq_zero (Nat.sub_mod_eq_zero_of_mod_eq h.symm)
    rw [← Nat.mul_sub] at hd
    have := Nat.Coprime.dvd_of_dvd_mul_left (Nat.Coprime.symm ha) hd
    have := Nat.eq_zero_of_dvd_of_lt this (by omega)
    omega
  rcases Nat.le_total x y with hle | hle
  · exact key hx hy hle h
  · exact (key hy hx hle h.symm).symm
/-- Euler's theorem -/
theorem euler {m a : Nat} (hm : 1 ≤ m) (ha : Nat.Coprime a m) : a ^ (units m).length % m = 1 % m := by
  have hperm : ((units m).map fun x => a * x % m).Perm (units m) := by
    refine perm_of_sub ?_ ?_ (by simp)
    · have hn : (units m).Nodup := List.Pairwise.filter _ List.nodup_range
      refine List.pairwise_map.2 ?_
      refine hn.imp_of_mem fun {x y} hx hy hne e => hne ?_
      exact cancel ha (mem_units.1 hx).1 (mem_units.1 hy).1 e
    · intro y hy
      obtain ⟨x, hx, rfl⟩ := List.mem_map.1 hy
      exact mem_units.2 ⟨Nat.mod_lt _ hm, cop_mod.2 (Nat.Coprime.mul_left ha (mem_units.1 hx).2)⟩
  have h := pr_perm (m := m) hperm
  rw [pr_map] at h
  have hc := pr_cop (units m) fun x hx => (mem_units.1 hx).2
  have hlt : pr m (units m) < m := by
    cases hu : units m with
    | nil => exact Nat.mod_lt _ hm
    | cons x l => exact Nat.mod_lt _ hm
  have h1 : pr m (units m) * (a ^ (units m).length % m) % m = pr m (units m) * (1 % m) % m := by
    rw [Nat.mul_mod_mod, Nat.mul_comm, h, Nat.mul_mod_mod, Nat.mul_one, Nat.mod_eq_of_lt hlt]
  exact cancel hc (Nat.mod_lt _ hm) (Nat.mod_lt _ hm) h1
def IsPr (q : Nat) : Prop := 2 ≤ q ∧ ∀ d, d ∣ q → d = 1 ∨ d = q
theorem pr_cop_of_lt {q x : Nat} (hq : IsPr q) (h0 : 0 < x) (hx : x < q) : Nat.Coprime x q := by
  rcases hq.2 _ (Nat.gcd_dvd_right x q) with h | h
  · exact h
  · have := Nat.le_of_dvd h0 (h ▸ Nat.gcd_dvd_left x q)
    omega
theorem units_pr {q : Nat} (hq : IsPr q) : (units q).length = q - 1 := by
  obtain ⟨k, rfl⟩ : ∃ k, q = k + 1 := ⟨q - 1, by have := hq.1; omega⟩
  have h2 := hq.1
  have h0 : (Nat.gcd 0 (k + 1) == 1) = false := by simp; omega
  unfold units
  rw [List.range_succ_eq_map, List.filter_cons, h0]
  simp only [Bool.false_eq_true, if_false]
  rw [List.filter_eq_self.2]
  · simp
  · intro x hx
    obtain ⟨y, hy, rfl⟩ := List.mem_map.1 hx
    have := pr_cop_of_lt hq (x := y + 1) (by omega) (by have := List.mem_range.1 hy; omega)
    exact beq_iff_eq.2 this
theorem fermat {q a : Nat} (hq : IsPr q) (ha : Nat.Coprime a q) : a ^ (q - 1) % q = 1 := by
  have h := euler (m := q) (by have := hq.1; omega) ha
  rw [units_pr hq] at h
  rw [h, Nat.mod_eq_of_lt (by have := hq.1; omega)]
/-- 1 + a + .. + a ^ (n - 1) -/
def gs (a : Nat) : Nat → Nat
  | 0 => 0
  | n + 1 => gs a n + a ^ n
theorem gs_mul (b : Nat) : ∀ n, b * gs (b + 1) n + 1 = (b + 1) ^ n
  | 0 => by simp [gs]
  | n + 1 => by
    have ih := gs_mul b n
    rw [gs, Nat.mul_add, Nat.pow_succ, Nat.mul_succ, Nat.mul_comm ((b + 1) ^ n) b]
    omega
theorem gs_mod {q a : Nat} (ha : a % q = 1 % q) : ∀ n, gs a n % q = n % q
  | 0 => by simp [gs]
  | n + 1 => by
    have ih := gs_mod ha n
    have hp : a ^ n % q = 1 % q := by rw [Nat.pow_mod, ha, ← Nat.pow_mod, Nat.one_pow]
    rw [gs, Nat.add_mod, ih, hp, ← Nat.add_mod]
/-- one more power of q -/
theorem lift {q k a : Nat} (hk : 1 ≤ k) (h0 : 1 ≤ a) (h : q ^ k ∣ a - 1) : q ^ (k + 1) ∣ a ^ q - 1 := by
  obtain ⟨b, rfl⟩ : ∃ b, a = b + 1 := ⟨a - 1, by omega⟩
  simp only [Nat.add_sub_cancel] at h
  have hqb : q ∣ b := Nat.dvd_trans (Nat.dvd_trans ⟨1, by simp⟩ (Nat.pow_dvd_pow q hk)) h
  have hmod : (b + 1) % q = 1 % q := by
    obtain ⟨c, rfl⟩ := hqb
    rw [Nat.mul_add_mod]
  have hg : q ∣ gs (b + 1) q := Nat.dvd_of_mod_eq_zero (by rw [gs_mod hmod, Nat.mod_self])
  have e := gs_mul b q
  have e2 : (b + 1) ^ q - 1 = b * gs (b + 1) q := by omega
  rw [e2, Nat.pow_succ]
  exact Nat.mul_dvd_mul h hg
/-- Euler's theorem for a power of a prime -/
theorem euler_pow {q a : Nat} (hq : IsPr q) (ha : Nat.Coprime a q) (h0 : 1 ≤ a) : ∀ k, q ^ (k + 1) ∣ a ^ ((q - 1) * q ^ k) - 1
  | 0 => by
    have h := fermat hq ha
    have h1 : (a ^ (q - 1) - 1) % q = 0 := Nat.sub_mod_eq_zero_of_mod_eq (by rw [h, Nat.mod_eq_of_lt (by have := hq.1; omega)])
    simpa using Nat.dvd_of_mod_eq_zero h1
  | k + 1 => by
    have ih := euler_pow hq ha h0 k
    have := lift (by omega) (Nat.one_le_pow _ _ h0) ih
    rwa [← Nat.pow_mul, Nat.mul_assoc, ← Nat.pow_succ] at this
theorem pow_dvd {x a d e : Nat} (h0 : 1 ≤ a) (h : x ∣ a ^ d - 1) (hd : d ∣ e) : x ∣ a ^ e - 1 := by
  obtain ⟨c, rfl⟩ := hd
  have hp : 1 ≤ a ^ d := Nat.one_le_pow _ _ h0
  obtain ⟨b, hb⟩ : ∃ b, a ^ d = b + 1 := ⟨a ^ d - 1, by omega⟩
  rw [hb, Nat.add_sub_cancel] at h
  have e := gs_mul b c
  rw [Nat.pow_mul, hb]
  have : (b + 1) ^ c - 1 = b * gs (b + 1) c := by omega
  rw [this]
  exact Nat.dvd_trans h ⟨_, rfl⟩
def prodL (l : List (Nat × Nat)) : Nat := l.foldr (fun p acc => p.1 ^ p.2 * acc) 1
def totL (l : List (Nat × Nat)) : Nat := l.foldr (fun p acc => (p.1 - 1) * p.1 ^ (p.2 - 1) * acc) 1
theorem pr_ne_cop {p q : Nat} (hp : IsPr p) (hq : IsPr q) (hne : p ≠ q) : Nat.Coprime p q := by
  rcases hp.2 _ (Nat.gcd_dvd_left p q) with h | h
  · exact h
  · have hd : p ∣ q := h ▸ Nat.gcd_dvd_right p q
    rcases hq.2 _ hd with h1 | h1
    · have := hp.1; omega
    · exact absurd h1 hne
theorem cop_prodL {p : Nat} (hp : IsPr p) : ∀ {l : List (Nat × Nat)}, (∀ x ∈ l, IsPr x.1) → p ∉ l.map (·.1) → ∀ k, Nat.Coprime (p ^ k) (prodL l)
  | [], _, _, k => by simp [prodL]
  | x :: l, h, hn, k => by
    simp only [List.map_cons, List.mem_cons, not_or] at hn
    have h1 := cop_prodL hp (l := l) (fun y hy => h y (by simp [hy])) hn.2 k
    have h2 : Nat.Coprime (p ^ k) (x.1 ^ x.2) := Nat.Coprime.pow _ _ (pr_ne_cop hp (h x (by simp)) hn.1)
    exact Nat.Coprime.mul_right h2 h1
theorem euler_div {a : Nat} (h0 : 1 ≤ a) {e : Nat} : ∀ {l : List (Nat × Nat)}, (∀ x ∈ l, IsPr x.1 ∧ 1 ≤ x.2) → (l.map (·.1)).Nodup → Nat.Coprime a (prodL l) → totL l ∣ e → prodL l ∣ a ^ e - 1
  | [], _, _, _, _ => by simp [prodL]
  | x :: l, h, hn, ha, he => by
    obtain ⟨hx, hx2⟩ := h x (by simp)
    simp only [List.map_cons, List.nodup_cons] at hn
    have ha' : Nat.Coprime a (x.1 ^ x.2 * prodL l) := ha
    have hax : Nat.Coprime a x.1 := Nat.Coprime.coprime_dvd_right (Nat.dvd_trans ⟨x.1 ^ (x.2 - 1), by rw [← Nat.pow_succ', Nat.succ_eq_add_one, Nat.sub_add_cancel hx2]⟩ ⟨_, rfl⟩) ha'
    have hal : Nat.Coprime a (prodL l) := Nat.Coprime.coprime_dvd_right ⟨x.1 ^ x.2, Nat.mul_comm _ _⟩ ha'
    have he' : (x.1 - 1) * x.1 ^ (x.2 - 1) * totL l ∣ e := he
    have h1 : x.1 ^ x.2 ∣ a ^ e - 1 := by
      have := euler_pow hx hax h0 (x.2 - 1)
      rw [Nat.sub_add_cancel hx2] at this
      exact pow_dvd h0 this (Nat.dvd_trans ⟨_, rfl⟩ he')
    have h2 : prodL l ∣ a ^ e - 1 := euler_div h0 (fun y hy => h y (by simp [hy])) hn.2 hal (Nat.dvd_trans ⟨_, Nat.mul_comm _ _⟩ he')
    exact Nat.Coprime.mul_dvd_of_dvd_of_dvd (cop_prodL hx (fun y hy => (h y (by simp [hy])).1) hn.1 x.2) h1 h2
/-! ### trial division -/
def strip : Nat → Nat → Nat → Nat × Nat
  | 0, _, n => (0, n)
  | f + 1, q, n => if n % q = 0 then ((strip f q (n / q)).1 + 1, (strip f q (n / q)).2) else (0, n)
theorem strip_spec {q : Nat} (hq : 2 ≤ q) : ∀ (f n : Nat), 1 ≤ n → n ≤ f → n = q ^ (strip f q n).1 * (strip f q n).2 ∧ (strip f q n).2 % q ≠ 0 ∧ 1 ≤ (strip f q n).2 ∧ (n % q = 0 → 1 ≤ (strip f q n).1)
  | 0, n, h1, h2 => by omega
  | f + 1, n, h1, h2 => by
    unfold strip
    split
    · rename_i h
      have hd : q * (n / q) = n := Nat.mul_div_cancel' (Nat.dvd_of_mod_eq_zero h)
      have h3 : 1 ≤ n / q := by
        rcases Nat.eq_zero_or_pos (n / q) with e | e
        · rw [e] at hd; omega
        · exact e
      have h4 : n / q < n := Nat.div_lt_self h1 hq
      obtain ⟨g1, g2, g3, g4⟩ := strip_spec hq f (n / q) h3 (by omega)
      refine ⟨?_, g2, g3, fun _ => by simp⟩
      dsimp only
      rw [Nat.pow_succ', Nat.mul_assoc, ← g1, hd]
    · rename_i h
      exact ⟨by simp, h, h1, fun e => absurd e h⟩
def dv : Nat → Nat → Nat → List (Nat × Nat)
  | 0, _, n => if 1 < n then [(n, 1)] else []
  | f + 1, q, n => if q * q ≤ n then (if n % q = 0 then (q, (strip n q n).1) :: dv f (q + 1) (strip n q n).2 else dv f (q + 1) n) else if 1 < n then [(n, 1)] else []
/-- no divisor below q -/
def Rough (q n : Nat) : Prop := ∀ d, 1 < d → d ∣ n → q ≤ d
theorem rough_pr {q n : Nat} (h : Rough q n) (hn : 1 < n) (hq : n < q * q) : IsPr n := by
  refine ⟨hn, fun d hd => ?_⟩
  obtain ⟨e, rfl⟩ := hd
  rcases Nat.lt_or_ge 1 d with h1 | h1
  · rcases Nat.lt_or_ge 1 e with h2 | h2
    · have a := h d h1 ⟨e, rfl⟩
      have b := h e h2 ⟨d, Nat.mul_comm _ _⟩
      have := Nat.mul_le_mul a b
      omega
    · right
      rcases (show e = 0 ∨ e = 1 by omega) with rfl | rfl
      · omega
      · simp
  · left
    rcases (show d = 0 ∨ d = 1 by omega) with rfl | rfl
    · omega
    · rfl
theorem dv_last {q n : Nat} (h : Rough q n) (h1 : 1 ≤ n) (hq : n < q * q) : prodL (if 1 < n then [(n, 1)] else []) = n ∧ (∀ x ∈ (if 1 < n then [(n, 1)] else []), IsPr x.1 ∧ 1 ≤ x.2 ∧ q ≤ x.1) ∧ ((if 1 < n then [(n, 1)] else []).map (·.1)).Pairwise (· < ·) := by
  by_cases hn : 1 < n
  · simp only [if_pos hn]
    refine ⟨by simp [prodL], fun x hx => ?_, by simp⟩
    simp at hx
    subst hx
    exact ⟨rough_pr h hn hq, Nat.le_refl _, h n hn (Nat.dvd_refl _)⟩
  · simp only [if_neg hn]
    exact ⟨by simp [prodL]; omega, by simp, by simp⟩
theorem dv_spec : ∀ (f q n : Nat), 2 ≤ q → 1 ≤ n → Rough q n → n < (q + f) * (q + f) → prodL (dv f q n) = n ∧ (∀ x ∈ dv f q n, IsPr x.1 ∧ 1 ≤ x.2 ∧ q ≤ x.1) ∧ ((dv f q n).map (·.1)).Pairwise (· < ·)
  | 0, q, n, hq, h1, hr, hf => dv_last hr h1 hf
  | f + 1, q, n, hq, h1, hr, hf => by
    have hf' : ∀ r, r ≤ n → r < (q + 1 + f) * (q + 1 + f) := fun r hr' => by rw [show q + 1 + f = q + (f + 1) from by omega]; omega
    unfold dv
    split
    · split
      · rename_i h2 h3
        obtain ⟨g1, g2, g3, g4⟩ := strip_spec hq n n h1 (Nat.le_refl _)
        generalize (strip n q n).1 = t at *
        generalize (strip n q n).2 = r at *
        have ht := g4 h3
        have hrn : r ∣ n := ⟨q ^ t, by rw [Nat.mul_comm]; exact g1⟩
        have hrough : Rough (q + 1) r := fun d hd hdr => by
          have := hr d hd (Nat.dvd_trans hdr hrn)
          rcases Nat.lt_or_ge q d with h | h
          · exact h
          · have e : d = q := by omega
            subst e
            exact absurd (Nat.mod_eq_zero_of_dvd hdr) g2
        have hpr : IsPr q := ⟨hq, fun d hd => by
          rcases Nat.lt_or_ge 1 d with h | h
          · right
            have a := hr d h (Nat.dvd_trans hd (Nat.dvd_of_mod_eq_zero h3))
            have b := Nat.le_of_dvd (by omega) hd
            omega
          · left
            have := Nat.pos_of_dvd_of_pos hd (by omega)
            omega⟩
        obtain ⟨i1, i2, i3⟩ := dv_spec f (q + 1) r (by omega) g3 hrough (hf' r (Nat.le_of_dvd h1 hrn))
        refine ⟨?_, fun x hx => ?_, ?_⟩
        · show q ^ t * prodL (dv f (q + 1) r) = n
          rw [i1]; exact g1.symm
        · rcases List.mem_cons.1 hx with rfl | hx
          · exact ⟨hpr, ht, Nat.le_refl _⟩
          · obtain ⟨a, b, c⟩ := i2 x hx
            exact ⟨a, b, by omega⟩
        · refine List.pairwise_cons.2 ⟨fun y hy => ?_, i3⟩
          obtain ⟨x, hx, rfl⟩ := List.mem_map.1 hy
          exact (i2 x hx).2.2
      · rename_i h2 h3
        have hrough : Rough (q + 1) n := fun d hd hdr => by
          have := hr d hd hdr
          rcases Nat.lt_or_ge q d with h | h
          · exact h
          · have e : d = q := by omega
            subst e
            exact absurd (Nat.mod_eq_zero_of_dvd hdr) h3
        obtain ⟨i1, i2, i3⟩ := dv_spec f (q + 1) n (by omega) h1 hrough (hf' n (Nat.le_refl _))
        exact ⟨i1, fun x hx => ⟨(i2 x hx).1, (i2 x hx).2.1, by have := (i2 x hx).2.2; omega⟩, i3⟩
    · exact dv_last hr h1 (by omega)
end Go.AM.Num
