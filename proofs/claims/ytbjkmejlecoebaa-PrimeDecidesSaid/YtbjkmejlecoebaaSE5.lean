/- A part of the proof: SE5. -/
import Derived.Test.YtbjkmejlecoebaaSE4
set_option linter.unusedSectionVars false
set_option linter.unusedVariables false
set_option linter.unusedSimpArgs false
namespace Go.AM.Num
/-! ### few roots -/
/-- f has degree n and leading coefficient c, told by taking roots out -/
def PD : Nat → (Int → Int) → Int → Prop
  | 0, f, c => ∀ x, f x = c
  | n + 1, f, c => ∀ a, ∃ g, PD n g c ∧ ∀ x, f x - f a = (x - a) * g x
theorem PD.add {k c' : Int} : ∀ {n m : Nat} {f h : Int → Int} {c : Int}, m < n → PD n f c → PD m h c' → PD n (fun x => f x + k * h x) c
  | 0, _, _, _, _, hm, _, _ => by omega
  | n + 1, 0, f, h, c, _, hf, hh => fun a => by
    obtain ⟨g, h1, h2⟩ := hf a
    refine ⟨g, h1, fun x => ?_⟩
    rw [← h2 x]
    simp only [hh x, hh a]
    omega
  | n + 1, m + 1, f, h, c, hm, hf, hh => fun a => by
    obtain ⟨g, h1, h2⟩ := hf a
    obtain ⟨g', h3, h4⟩ := hh a
    refine ⟨fun x => g x + k * g' x, PD.add (by omega) h1 h3, fun x => ?_⟩
    simp only
    rw [Int.mul_add, ← h2 x, Int.mul_left_comm, ← h4 x, Int.mul_sub]
    omega
theorem PD.mulX {c : Int} : ∀ {n : Nat} {h : Int → Int}, PD n h c → PD (n + 1) (fun x => h x * x) c
  | 0, h, hh => fun a => ⟨fun _ => c, fun _ => rfl, fun x => by simp only [hh x, hh a]; rw [Int.sub_mul, Int.mul_comm x, Int.mul_comm a]⟩
  | n + 1, h, hh => fun a => by
    obtain ⟨g, h1, h2⟩ := hh a
    refine ⟨fun x => h x + a * g x, PD.add (Nat.lt_succ_self n) hh h1, fun x => ?_⟩
    simp only
    have e := h2 x
    rw [Int.mul_add, Int.mul_left_comm, ← e, Int.sub_mul, Int.mul_sub, Int.mul_comm x (h x), Int.mul_comm a (h x), Int.mul_comm a (h a)]
    omega
theorem PD.pow : ∀ n : Nat, PD n (fun x => x ^ n) 1
  | 0 => fun x => by simp
  | n + 1 => by
    have := PD.mulX (PD.pow n)
    have e : (fun x : Int => x ^ n * x) = fun x => x ^ (n + 1) := by funext x; rw [Int.pow_succ]
    rwa [e] at this
theorem int_pr {p : Nat} (hp : IsPr p) {x y : Int} (h : (p : Int) ∣ x * y) : (p : Int) ∣ x ∨ (p : Int) ∣ y := by
  have h' := Int.natAbs_dvd_natAbs.2 h
  rw [Int.natAbs_mul, Int.natAbs_natCast] at h'
  rcases pr_dvd_mul hp h' with e | e
  · exact .inl (Int.ofNat_dvd_left.2 e)
  · exact .inr (Int.ofNat_dvd_left.2 e)
theorem few_roots {p : Nat} (hp : IsPr p) {c : Int} (hc : ¬ (p : Int) ∣ c) : ∀ {n : Nat} {f : Int → Int} {l : List Int}, PD n f c → l.Pairwise (fun a b => ¬ (p : Int) ∣ b - a) → (∀ a ∈ l, (p : Int) ∣ f a) → l.length ≤ n
  | _, _, [], _, _, _ => Nat.zero_le _
  | 0, f, a :: l, hf, _, hr => by
    have := hr a List.mem_cons_self
    rw [hf a] at this
    exact absurd this hc
  | n + 1, f, a :: l, hf, hd, hr => by
    obtain ⟨g, h1, h2⟩ := hf a
    rw [List.pairwise_cons] at hd
    refine Nat.succ_le_succ (few_roots hp hc h1 hd.2 fun b hb => ?_)
    have h3 : (p : Int) ∣ (b - a) * g b := by
      rw [← h2 b]
      exact Int.dvd_sub (hr b (List.mem_cons_of_mem _ hb)) (hr a List.mem_cons_self)
    exact (int_pr hp h3).resolve_left (hd.1 b hb)
theorem pow1_dvd {a p k : Nat} (hp : IsPr p) : Pow1 a p k ↔ (p : Int) ∣ (a : Int) ^ k - 1 := by
  have h1 : 1 % p = 1 := Nat.mod_eq_of_lt hp.1
  unfold Pow1
  rw [h1]
  constructor
  · intro h
    refine ⟨((a ^ k / p : Nat) : Int), ?_⟩
    have := Nat.mod_add_div (a ^ k) p
    rw [h] at this
    have : ((1 : Nat) : Int) + (p : Int) * ((a ^ k / p : Nat) : Int) = ((a ^ k : Nat) : Int) := by exact_mod_cast this
    push_cast at this ⊢
    omega
  · intro h
    have e : ((a ^ k : Nat) : Int) % (p : Int) = 1 % (p : Int) := Int.emod_eq_emod_iff_emod_sub_eq_zero.2 (Int.emod_eq_zero_of_dvd (by push_cast; exact h))
    have : ((a ^ k % p : Nat) : Int) = ((1 % p : Nat) : Int) := by push_cast; push_cast at e; exact e
    have : a ^ k % p = 1 % p := by exact_mod_cast this
    omega
/-- at most n numbers have an n-th power of one -/
theorem roots_le {p n : Nat} (hp : IsPr p) (hn : 1 ≤ n) {l : List Nat} (hd : l.Pairwise (· ≠ ·)) (hl : ∀ a ∈ l, a < p ∧ Pow1 a p n) : l.length ≤ n := by
  have hf : PD n (fun x : Int => x ^ n + (-1) * 1) 1 := PD.add (m := 0) (h := fun _ => 1) (c' := 1) (by omega) (PD.pow n) fun _ => rfl
  have := few_roots hp (c := 1) (fun h => by
    have := Int.le_of_dvd (by omega) h
    have := hp.1
    omega) (l := l.map fun a : Nat => (a : Int)) hf (by
    rw [List.pairwise_map]
    refine List.Pairwise.imp_of_mem (fun {a b} ha hb hab hdv => ?_) hd
    have h1 := (hl a ha).1
    have h2 := (hl b hb).1
    obtain ⟨c, hc⟩ := hdv
    rcases Int.lt_trichotomy c 0 with h | h | h
    · have : (p : Int) * c ≤ (p : Int) * (-1) := Int.mul_le_mul_of_nonneg_left (by omega) (by omega)
      omega
    · subst h; simp at hc; omega
    · have : (p : Int) * 1 ≤ (p : Int) * c := Int.mul_le_mul_of_nonneg_left (by omega) (by omega)
      omega) (fun a ha => by
    obtain ⟨b, hb, rfl⟩ := List.mem_map.1 ha
    have := (pow1_dvd hp).1 (hl b hb).2
    simpa [Int.sub_eq_add_neg] using this)
  simpa using this
theorem pow_ex {p d : Nat} (hp : IsPr p) (h1 : 1 ≤ d) (hd : d < p - 1) : ∃ x, 1 ≤ x ∧ x < p ∧ ¬ Pow1 x p d := by
  refine Classical.byContradiction fun hne => ?_
  have hall : ∀ x, 1 ≤ x → x < p → Pow1 x p d := fun x a b => Classical.byContradiction fun h => hne ⟨x, a, b, h⟩
  have := roots_le hp h1 (l := (List.range (p - 1)).map (· + 1)) (by
    rw [List.pairwise_map]
    exact List.Pairwise.imp (fun h e => by omega) List.pairwise_lt_range) (fun a ha => by
    obtain ⟨b, hb, rfl⟩ := List.mem_map.1 ha
    have := List.mem_range.1 hb
    exact ⟨by omega, hall _ (by omega) (by omega)⟩)
  simp at this
  omega
/-! ### generators -/
theorem Pow1.mulL {a b p k : Nat} (h : Pow1 a p k) : Pow1 (a * b) p k ↔ Pow1 b p k := by
  unfold Pow1 at *
  rw [Nat.mul_pow, Nat.mul_mod, h, ← Nat.mul_mod, Nat.one_mul]
theorem Pow1.powL {a p j k : Nat} : Pow1 (a ^ j) p k ↔ Pow1 a p (j * k) := by
  unfold Pow1
  rw [Nat.pow_mul]
theorem Pow1.modL {a p k : Nat} : Pow1 (a % p) p k ↔ Pow1 a p k := by
  unfold Pow1
  rw [← Nat.pow_mod]
theorem Pow1.add {a p j k : Nat} (h : Pow1 a p j) : Pow1 a p (j + k) ↔ Pow1 a p k := by
  unfold Pow1 at *
  rw [Nat.pow_add, Nat.mul_mod, h, ← Nat.mul_mod, Nat.one_mul]
theorem Pow1.modE {a p m n : Nat} (hm : Pow1 a p m) (hn : Pow1 a p n) : Pow1 a p (m % n) := by
  have e := Nat.div_add_mod m n
  have h2 := hn.mul (m / n)
  rw [← e] at hm
  exact (h2.add).1 hm
theorem Pow1.gcd {a p : Nat} : ∀ {m n : Nat}, Pow1 a p m → Pow1 a p n → Pow1 a p (Nat.gcd m n) := by
  intro m
  induction m using Nat.strongRecOn with
  | _ m ih =>
    intro n hm hn
    rcases Nat.eq_zero_or_pos m with rfl | h
    · rwa [Nat.gcd_zero_left]
    · rw [Nat.gcd_rec]
      exact ih (n % m) (Nat.mod_lt _ h) (hn.modE hm) hm
theorem fermat1 {p a : Nat} (hp : IsPr p) (h1 : 1 ≤ a) (h2 : a < p) : Pow1 a p (p - 1) := by
  unfold Pow1
  rw [fermat hp (pr_cop_of_lt hp h1 h2), Nat.mod_eq_of_lt hp.1]
theorem gen_ex {p : Nat} (hp : IsPr p) {L : List (Nat × Nat)} (hL : Fac L (p - 1)) : ∃ g, 1 ≤ g ∧ g < p ∧ ∀ x ∈ L, ¬ Pow1 g p ((p - 1) / x.1) := by
  have hp2 := hp.1
  have key : ∀ n l r, l.length = n → L = l ++ r → ∃ g, 1 ≤ g ∧ g < p ∧ Pow1 g p (prodL l) ∧ ∀ x ∈ l, ¬ Pow1 g p ((p - 1) / x.1) := by
    intro n
    induction n with
    | zero =>
      intro l r hl hr
      obtain rfl : l = [] := List.length_eq_zero_iff.1 hl
      exact ⟨1, Nat.le_refl 1, hp2, by unfold Pow1; rw [Nat.one_pow], fun x hx => by cases hx⟩
    | succ n ih =>
      intro l r hl hr
      obtain ⟨l', x, rfl⟩ : ∃ l' x, l = l' ++ [x] := ⟨l.dropLast, l.getLast (by intro h; simp [h] at hl), (List.dropLast_concat_getLast _).symm⟩
      obtain ⟨q, e⟩ := x
      have hr' : L = l' ++ (q, e) :: r := by rw [hr]; simp
      obtain ⟨g, g1, g2, g3, g4⟩ := ih l' ((q, e) :: r) (by simpa using hl) hr'
      obtain ⟨f1, f2, f3⟩ := FacR.append (hr' ▸ hL.toFacR)
      obtain ⟨hq, he⟩ := f2.all (q, e) List.mem_cons_self
      simp only at hq he
      have hq2 := hq.1
      have hP : p - 1 = prodL l' * (q ^ e * prodL r) := by rw [← hL.prod, hr', prodL_append, prodL_cons]
      have hqe : q ^ e = q * q ^ (e - 1) := by rw [← Nat.pow_succ', Nat.succ_eq_add_one, Nat.sub_add_cancel he]
      have hP2 : (p - 1) / q = prodL l' * q ^ (e - 1) * prodL r := by
        have : p - 1 = q * (prodL l' * q ^ (e - 1) * prodL r) := by
          rw [hP, hqe]; simp only [Nat.mul_comm, Nat.mul_left_comm, Nat.mul_assoc]
        rw [this, Nat.mul_div_cancel_left _ (by omega)]
      have hpos : 1 ≤ p - 1 := by omega
      have hdq : 1 ≤ (p - 1) / q := by
        rw [hP2]
        exact Nat.mul_le_mul (Nat.mul_le_mul f1.pos (Nat.pow_pos (by omega))) f2.tail.pos
      have hdlt : (p - 1) / q < p - 1 := Nat.div_lt_self hpos hq2
      obtain ⟨x, x1, x2, x3⟩ := pow_ex hp hdq hdlt
      have hx := fermat1 hp x1 x2
      -- the new factor
      have hs : (p - 1) / q ^ e = prodL l' * prodL r := by
        have : p - 1 = q ^ e * (prodL l' * prodL r) := by rw [hP]; simp only [Nat.mul_comm, Nat.mul_left_comm, Nat.mul_assoc]
        rw [this, Nat.mul_div_cancel_left _ (Nat.pow_pos (by omega))]
      generalize hy : x ^ (prodL l' * prodL r) = y
      have y1 : Pow1 y p (q ^ e) := by
        rw [← hy, Pow1.powL]
        have : prodL l' * prodL r * q ^ e = p - 1 := by rw [hP]; simp only [Nat.mul_comm, Nat.mul_left_comm, Nat.mul_assoc]
        rwa [this]
      have y2 : ¬ Pow1 y p (q ^ (e - 1)) := by
        rw [← hy, Pow1.powL]
        have : prodL l' * prodL r * q ^ (e - 1) = (p - 1) / q := by rw [hP2]; simp only [Nat.mul_comm, Nat.mul_left_comm, Nat.mul_assoc]
        rwa [this]
      have hcq : Nat.gcd q (prodL l' * prodL r) = 1 := by
        rcases pr_cop_or (n := prodL l' * prodL r) hq with h | h
        · exact h
        · rcases pr_dvd_mul hq h with h | h
          · obtain ⟨k, hk⟩ := pr_dvd_prod hq f1.all h
            have := f3 _ hk (q, e) List.mem_cons_self
            simp only at this
            omega
          · exact absurd h (FacR.not_dvd (fun y hy => f2.all y (List.mem_cons_of_mem _ hy)) hq f2.head_lt)
      have y3 : ¬ Pow1 y p ((p - 1) / q) := fun h => by
        have e1 : (p - 1) / q = q ^ (e - 1) * (prodL l' * prodL r) := by rw [hP2]; simp only [Nat.mul_comm, Nat.mul_left_comm, Nat.mul_assoc]
        have h1 : Pow1 (y ^ q ^ (e - 1)) p (prodL l' * prodL r) := by rw [Pow1.powL, ← e1]; exact h
        have h2 : Pow1 (y ^ q ^ (e - 1)) p q := by rw [Pow1.powL, Nat.mul_comm, ← hqe]; exact y1
        have h3 := h2.gcd h1
        rw [hcq] at h3
        rw [Pow1.powL, Nat.mul_one] at h3
        exact y2 h3
      have hgy : ¬ p ∣ g * y := fun hd => by
        rcases pr_dvd_mul hp hd with h | h
        · have := Nat.le_of_dvd (by omega) h; omega
        · rw [← hy] at h
          have := Nat.le_of_dvd (by omega) (pr_dvd_pow hp h)
          omega
      refine ⟨g * y % p, ?_, Nat.mod_lt _ (by omega), ?_, fun z hz => ?_⟩
      · rcases Nat.eq_zero_or_pos (g * y % p) with h | h
        · exact absurd (Nat.dvd_of_mod_eq_zero h) hgy
        · exact h
      · rw [Pow1.modL, prodL_append]
        have e1 : prodL [(q, e)] = q ^ e := by simp [prodL]
        rw [e1]
        exact ((g3.mul _).mulL).2 (Pow1.dvd y1 ⟨_, Nat.mul_comm _ _⟩)
      · rw [Pow1.modL]
        rcases List.mem_append.1 hz with hz | hz
        · have hzq := f1.all z hz
          have hzd : z.1 ∣ prodL l' := Nat.dvd_trans (Nat.dvd_of_pow_dvd hzq.2 (Nat.dvd_refl _)) (mem_dvd_prod hz)
          have hyz : Pow1 y p ((p - 1) / z.1) := by
            refine y1.dvd ?_
            obtain ⟨c, hc⟩ := hzd
            have : p - 1 = z.1 * (c * (q ^ e * prodL r)) := by rw [hP, hc, Nat.mul_assoc]
            rw [this, Nat.mul_div_cancel_left _ (by have := hzq.1.1; omega)]
            exact ⟨c * prodL r, by simp only [Nat.mul_comm, Nat.mul_left_comm, Nat.mul_assoc]⟩
          rw [Nat.mul_comm, hyz.mulL]
          exact g4 z hz
        · simp only [List.mem_singleton] at hz
          subst hz
          have hg : Pow1 g p ((p - 1) / q) := g3.dvd (by rw [hP2, Nat.mul_assoc]; exact ⟨_, rfl⟩)
          rw [hg.mulL]
          exact y3
  obtain ⟨g, g1, g2, _, g4⟩ := key L.length L [] rfl (by simp)
  exact ⟨g, g1, g2, g4⟩
end Go.AM.Num
