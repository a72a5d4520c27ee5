/- A part of the proof: SE4. -/
import Derived.Test.YtbjkmejlecoebaaSE3
set_option linter.unusedSectionVars false
set_option linter.unusedVariables false
set_option linter.unusedSimpArgs false
namespace Go.AM.Num
theorem totL_cons (x : Nat × Nat) (l : List (Nat × Nat)) : totL (x :: l) = (x.1 - 1) * x.1 ^ (x.2 - 1) * totL l := rfl
theorem totL_app : ∀ (l r : List (Nat × Nat)), totL (l ++ r) = totL l * totL r
  | [], r => by simp [totL]
  | x :: l, r => by rw [List.cons_append, totL_cons, totL_cons, totL_app l r]; simp only [Nat.mul_assoc]
theorem totL_le {l : List (Nat × Nat)} (h : FacR l) : 1 ≤ totL l ∧ totL l ≤ prodL l := by
  induction l with
  | nil => simp [totL, prodL]
  | cons x l ih =>
    have hx := h.all x List.mem_cons_self
    have h2 := hx.1.1
    obtain ⟨i1, i2⟩ := ih h.tail
    rw [totL_cons, prodL_cons]
    have e : x.1 ^ x.2 = x.1 * x.1 ^ (x.2 - 1) := by
      rw [← Nat.pow_succ', Nat.succ_eq_add_one, Nat.sub_add_cancel hx.2]
    have hp : 0 < x.1 ^ (x.2 - 1) := Nat.pow_pos (by omega)
    refine ⟨Nat.mul_le_mul (Nat.mul_le_mul (show 1 ≤ x.1 - 1 by omega) hp) i1, Nat.mul_le_mul ?_ i2⟩
    rw [e]
    exact Nat.mul_le_mul_right _ (by omega)
/-- one step of the totient -/
theorem tot_step {l r : List (Nat × Nat)} {q t : Nat} (hq : 2 ≤ q) (ht : 1 ≤ t) : totL l * prodL ((q, t) :: r) / q * (q - 1) = totL (l ++ [(q, t)]) * prodL r := by
  have e : q ^ t = q * q ^ (t - 1) := by rw [← Nat.pow_succ', Nat.succ_eq_add_one, Nat.sub_add_cancel ht]
  rw [prodL_cons, totL_app]
  have e2 : totL l * ((q, t).1 ^ (q, t).2 * prodL r) = q * (totL l * (q ^ (t - 1) * prodL r)) := by
    simp only [e]
    simp only [Nat.mul_comm, Nat.mul_left_comm, Nat.mul_assoc]
  rw [e2, Nat.mul_div_cancel_left _ (by omega)]
  simp only [totL, List.foldr, Nat.mul_one]
  simp only [Nat.mul_comm, Nat.mul_left_comm, Nat.mul_assoc]
/-- the power is one -/
def Pow1 (a m k : Nat) : Prop := a ^ k % m = 1 % m
instance (a m k : Nat) : Decidable (Pow1 a m k) := by unfold Pow1; infer_instance
theorem Pow1.mul {a m k : Nat} (h : Pow1 a m k) (j : Nat) : Pow1 a m (k * j) := by
  unfold Pow1 at *
  rw [Nat.pow_mul, Nat.pow_mod, h, ← Nat.pow_mod, Nat.one_pow]
theorem Pow1.dvd {a m k n : Nat} (h : Pow1 a m k) (hd : k ∣ n) : Pow1 a m n := by
  obtain ⟨j, rfl⟩ := hd
  exact h.mul j
def ordS (a m q : Nat) : Nat → Nat → Nat
  | 0, n => n
  | t + 1, n => if Pow1 a m (n / q) then ordS a m q t (n / q) else n
def ordF (a m T : Nat) (l : List (Nat × Nat)) : Nat := l.foldl (fun n x => ordS a m x.1 x.2 n) T
theorem ordF_app (a m T : Nat) (l : List (Nat × Nat)) (x : Nat × Nat) : ordF a m T (l ++ [x]) = ordS a m x.1 x.2 (ordF a m T l) := by simp [ordF]
/-- what is left behind the primes of l -/
structure OrdI (a m : Nat) (l r : List (Nat × Nat)) (N : Nat) : Prop where
  one : Pow1 a m N
  pos : 1 ≤ N
  least : ∀ x ∈ l, x.1 ∣ N → ¬ Pow1 a m (N / x.1)
  part : ∃ u, N = u * prodL r ∧ ∀ p, IsPr p → p ∣ u → ∃ x ∈ l, x.1 = p
theorem ordS_spec {a m q u R : Nat} (hq : IsPr q) (hu : ¬ q ∣ u * R) : ∀ (t N : Nat), N = u * q ^ t * R → Pow1 a m N → 1 ≤ N → ∃ j, ordS a m q t N = u * q ^ j * R ∧ j ≤ t ∧ Pow1 a m (ordS a m q t N) ∧ 1 ≤ ordS a m q t N ∧ (q ∣ ordS a m q t N → ¬ Pow1 a m (ordS a m q t N / q))
  | 0, N, e, h1, h2 => by
    refine ⟨0, e, Nat.le_refl _, h1, h2, fun hd => ?_⟩
    simp only [ordS] at hd
    rw [e, Nat.pow_zero, Nat.mul_one] at hd
    exact absurd hd hu
  | t + 1, N, e, h1, h2 => by
    have e2 : N / q = u * q ^ t * R := by
      have : N = q * (u * q ^ t * R) := by rw [e, Nat.pow_succ]; simp only [Nat.mul_comm, Nat.mul_left_comm, Nat.mul_assoc]
      rw [this, Nat.mul_div_cancel_left _ (by have := hq.1; omega)]
    simp only [ordS]
    split
    · rename_i h
      have hpos : 1 ≤ N / q := by
        rw [e2]
        rcases Nat.eq_zero_or_pos (u * q ^ t * R) with z | z
        · rw [e, Nat.pow_succ, ← Nat.mul_assoc, Nat.mul_right_comm _ q, z] at h2; simp at h2
        · exact z
      obtain ⟨j, g1, g2, g3, g4, g5⟩ := ordS_spec hq hu t (N / q) e2 h hpos
      exact ⟨j, g1, by omega, g3, g4, g5⟩
    · rename_i h
      exact ⟨t + 1, e, Nat.le_refl _, h1, h2, fun _ => h⟩
theorem OrdI.step {a m N q t : Nat} {l r : List (Nat × Nat)} (hf : FacR (l ++ (q, t) :: r)) (h : OrdI a m l ((q, t) :: r) N) : OrdI a m (l ++ [(q, t)]) r (ordS a m q t N) := by
  obtain ⟨one, pos, least, u, hu, hp⟩ := h
  obtain ⟨f1, f2, f3⟩ := FacR.append hf
  have hq := (f2.all (q, t) List.mem_cons_self).1
  have hqr : ¬ q ∣ prodL r := FacR.not_dvd (fun y hy => f2.all y (List.mem_cons_of_mem _ hy)) hq f2.head_lt
  have hqu : ¬ q ∣ u := fun hd => by
    obtain ⟨x, hx, e⟩ := hp q hq hd
    have := f3 x hx (q, t) List.mem_cons_self
    simp only at this
    omega
  have hqR : ¬ q ∣ u * prodL r := fun hd => (pr_dvd_mul hq hd).elim hqu hqr
  have e : N = u * q ^ t * prodL r := by rw [hu, prodL_cons, Nat.mul_assoc]
  obtain ⟨j, g1, g2, g3, g4, g5⟩ := ordS_spec hq hqR t N e one pos
  generalize ordS a m q t N = M at *
  have hdvd : M ∣ N := by
    rw [g1, e, Nat.mul_assoc, Nat.mul_assoc]
    exact Nat.mul_dvd_mul_left _ (Nat.mul_dvd_mul (Nat.pow_dvd_pow q g2) (Nat.dvd_refl _))
  refine ⟨g3, g4, fun x hx hd ho => ?_, u * q ^ j, g1, fun p hpp hd => ?_⟩
  · rcases List.mem_append.1 hx with hx | hx
    · have h2 := (f1.all x hx).1.1
      refine least x hx (Nat.dvd_trans hd hdvd) (ho.dvd ?_)
      obtain ⟨c, rfl⟩ := hd
      obtain ⟨d, rfl⟩ := hdvd
      rw [Nat.mul_div_cancel_left _ (by omega), Nat.mul_assoc, Nat.mul_div_cancel_left _ (by omega)]
      exact ⟨d, rfl⟩
    · simp only [List.mem_singleton] at hx
      subst hx
      exact g5 hd ho
  · rcases pr_dvd_mul hpp hd with h | h
    · obtain ⟨x, hx, e⟩ := hp p hpp h
      exact ⟨x, List.mem_append_left _ hx, e⟩
    · exact ⟨(q, t), by simp, (pr_dvd_pr hpp hq (pr_dvd_pow hpp h)).symm⟩
theorem ordF_spec {a m T : Nat} {L : List (Nat × Nat)} (hL : Fac L T) (h1 : Pow1 a m T) : ∀ l r, L = l ++ r → OrdI a m l r (ordF a m T l) := by
  have h0 : 1 ≤ T := hL.prod ▸ hL.toFacR.pos
  have key : ∀ n l r, l.length = n → L = l ++ r → OrdI a m l r (ordF a m T l) := by
    intro n
    induction n with
    | zero =>
      intro l r hl hr
      obtain rfl : l = [] := List.length_eq_zero_iff.1 hl
      have hr : L = r := hr
      subst hr
      exact ⟨h1, h0, fun x hx => (by cases hx), 1, by simp [ordF, hL.prod], fun p hp hd => by
        have := Nat.le_of_dvd (by omega) hd
        have := hp.1
        omega⟩
    | succ n ih =>
      intro l r hl hr
      obtain ⟨l', x, rfl⟩ : ∃ l' x, l = l' ++ [x] := ⟨l.dropLast, l.getLast (by intro h; simp [h] at hl), (List.dropLast_concat_getLast _).symm⟩
      rw [ordF_app]
      obtain ⟨q, t⟩ := x
      have hr' : L = l' ++ (q, t) :: r := by rw [hr]; simp
      exact OrdI.step (hr' ▸ hL.toFacR) (ih l' ((q, t) :: r) (by simpa using hl) hr')
  exact fun l r => key l.length l r rfl
/-- the order: what the law asks -/
theorem ord_done {a m T : Nat} {L : List (Nat × Nat)} (hL : Fac L T) (h1 : Pow1 a m T) : Pow1 a m (ordF a m T L) ∧ 1 ≤ ordF a m T L ∧ ordF a m T L ∣ T ∧ ∀ p, IsPr p → p ∣ ordF a m T L → ¬ Pow1 a m (ordF a m T L / p) := by
  obtain ⟨one, pos, least, u, hu, hp⟩ := ordF_spec hL h1 L [] (by simp)
  have hd : ∀ l r, L = l ++ r → ordF a m T l ∣ T := by
    have key : ∀ n l r, l.length = n → L = l ++ r → ordF a m T l ∣ T := by
      intro n
      induction n with
      | zero =>
        intro l r hl hr
        obtain rfl : l = [] := List.length_eq_zero_iff.1 hl
        exact Nat.dvd_refl T
      | succ n ih =>
        intro l r hl hr
        obtain ⟨l', x, rfl⟩ : ∃ l' x, l = l' ++ [x] := ⟨l.dropLast, l.getLast (by intro h; simp [h] at hl), (List.dropLast_concat_getLast _).symm⟩
        rw [ordF_app]
        obtain ⟨q, t⟩ := x
        have hr' : L = l' ++ (q, t) :: r := by rw [hr]; simp
        obtain ⟨one, pos, least, u, hu, hp⟩ := ordF_spec hL h1 l' ((q, t) :: r) hr'
        obtain ⟨f1, f2, f3⟩ := FacR.append (hr' ▸ hL.toFacR)
        have hq := (f2.all (q, t) List.mem_cons_self).1
        have hqr : ¬ q ∣ prodL r := FacR.not_dvd (fun y hy => f2.all y (List.mem_cons_of_mem _ hy)) hq f2.head_lt
        have hqu : ¬ q ∣ u := fun hd => by
          obtain ⟨x, hx, e⟩ := hp q hq hd
          have := f3 x hx (q, t) List.mem_cons_self
          simp only at this
          omega
        have e : ordF a m T l' = u * q ^ t * prodL r := by rw [hu, prodL_cons, Nat.mul_assoc]
        obtain ⟨j, g1, g2, _⟩ := ordS_spec hq (fun hd => (pr_dvd_mul hq hd).elim hqu hqr) t _ e one pos
        refine Nat.dvd_trans ?_ (ih l' _ (by simpa using hl) hr')
        rw [g1, e, Nat.mul_assoc, Nat.mul_assoc]
        exact Nat.mul_dvd_mul_left _ (Nat.mul_dvd_mul (Nat.pow_dvd_pow q g2) (Nat.dvd_refl _))
    exact fun l r => key l.length l r rfl
  have hdT := hd L [] (by simp)
  refine ⟨one, pos, hdT, fun p hpp hdp => ?_⟩
  obtain ⟨e, he⟩ := pr_dvd_prod hpp hL.all (by rw [hL.prod]; exact Nat.dvd_trans hdp hdT)
  exact least (p, e) he hdp
theorem euler_one {a m : Nat} {L : List (Nat × Nat)} (h1 : 1 ≤ m) (hL : Fac L m) (hg : Nat.gcd a m = 1) : Pow1 a m (totL L) := by
  unfold Pow1
  rcases Nat.eq_zero_or_pos a with rfl | ha
  · rw [Nat.gcd_zero_left] at hg
    subst hg
    rw [Nat.mod_one, Nat.mod_one]
  · have := euler_div (a := a) (e := totL L) ha hL.all (List.Pairwise.imp (fun h => Nat.ne_of_lt h) hL.asc) (by rw [hL.prod]; exact hg) (Nat.dvd_refl _)
    rw [hL.prod] at this
    have hp : 1 ≤ a ^ totL L := Nat.pow_pos ha
    obtain ⟨c, hc⟩ := this
    have : a ^ totL L = m * c + 1 := by omega
    rw [this, Nat.mul_add_mod]
end Go.AM.Num
