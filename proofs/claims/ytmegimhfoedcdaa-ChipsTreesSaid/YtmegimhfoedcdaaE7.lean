/- A part of the proof: E1 P1 P2 P3 E6 E7. -/
import Derived.Test.YtmegimhfoedcdaaD2
import Derived.Test.YtmegimhfoedcdaaPc
import Derived.Test.YtmegimhfoedcdaaM3
import Derived.Test.YtmegimhfoedcdaaE5
set_option linter.unusedVariables false
set_option linter.unusedSimpArgs false
set_option linter.unusedSectionVars false
namespace Go.AM.Ch
set_option maxHeartbeats 2000000
def allND (p : Nat) : Nat → Nat → Bool
  | 0, a => !(p % a).beq 0
  | k + 1, a => allND p k a && allND p k (a + 2 ^ k)
theorem allND_spec {p : Nat} : ∀ {k a : Nat}, allND p k a = true → ∀ d, a ≤ d → d < a + 2 ^ k → ¬ d ∣ p
  | 0, a, h, d, h1, h2, hd => by
    have e : d = a := by simp at h2; omega
    subst e
    have : p % d = 0 := Nat.mod_eq_zero_of_dvd hd
    unfold allND at h
    rw [this] at h
    cases h
  | k + 1, a, h, d, h1, h2, hd => by
    unfold allND at h
    rw [Bool.and_eq_true] at h
    rw [Nat.pow_succ] at h2
    rcases Nat.lt_or_ge d (a + 2 ^ k) with g | g
    · exact allND_spec h.1 d h1 g hd
    · exact allND_spec h.2 d g (by omega) hd
theorem nd1 : allND 2147483647 16 2 = true := by decide +kernel
theorem nd2 : allND 2147483629 16 2 = true := by decide +kernel
theorem cop_of {p : Nat} (hp : p < 46341 * 46341) (h : allND p 16 2 = true) {a : Nat} (h0 : 0 < a) (ha : a < p) : Nat.gcd a p = 1 := by
  have hs := allND_spec h
  have h1 : Nat.gcd a p ∣ p := Nat.gcd_dvd_right _ _
  have h2 : Nat.gcd a p ≤ a := Nat.gcd_le_left _ h0
  have h3 : 0 < Nat.gcd a p := Nat.gcd_pos_of_pos_left _ h0
  generalize Nat.gcd a p = g at *
  apply Classical.byContradiction
  intro hne
  obtain ⟨q, hq⟩ := h1
  have hq1 : q ∣ p := ⟨g, by rw [Nat.mul_comm]; exact hq⟩
  have hq2 : 2 ≤ q := by
    rcases (by omega : q = 0 ∨ q = 1 ∨ 2 ≤ q) with rfl | rfl | h
    · simp at hq; omega
    · omega
    · exact h
  rcases Nat.lt_or_ge g 65538 with c | c
  · exact hs g (by omega) (by omega) ⟨q, hq⟩
  · rcases Nat.lt_or_ge q 65538 with d | d
    · exact hs q hq2 (by omega) hq1
    · have := Nat.mul_le_mul c d
      omega
theorem det_below {n : Nat} (M : Nat → Nat → Int) (t : Nat → Int) : ∀ s, s ≤ n → det (n + 1) (fun r k => if r = 0 ∨ s < r then M r k else M r k - t (r - 1) * M 0 k) = det (n + 1) M
  | 0, _ => by
    congr 1
    funext r k
    rw [if_pos (by omega)]
  | s + 1, hs => by
    rw [← det_below M t s (by omega)]
    rw [← det_row (n := n + 1) (i := s + 1) (j := 0) (by omega) (by omega) (by omega) (- t s) (fun r k => if r = 0 ∨ s < r then M r k else M r k - t (r - 1) * M 0 k)]
    congr 1
    funext r k
    unfold rwR
    by_cases h : r = s + 1
    · subst h
      rw [if_neg (by omega), if_pos rfl]
      show M (s + 1) k - t (s + 1 - 1) * M 0 k = (if s + 1 = 0 ∨ s < s + 1 then M (s + 1) k else M (s + 1) k - t (s + 1 - 1) * M 0 k) + -t s * (if 0 = 0 ∨ s < 0 then M 0 k else M 0 k - t (0 - 1) * M 0 k)
      rw [if_pos (by omega), if_pos (by omega), Int.neg_mul]
      show M (s + 1) k - t s * M 0 k = _
      omega
    · rw [if_neg h]
      show (if r = 0 ∨ s + 1 < r then M r k else M r k - t (r - 1) * M 0 k) = if r = 0 ∨ s < r then M r k else M r k - t (r - 1) * M 0 k
      by_cases h2 : r = 0 ∨ s < r
      · rw [if_pos h2, if_pos (by omega)]
      · rw [if_neg h2, if_neg (by omega)]
theorem gauss_step {p : Int} {n : Nat} {M N : Nat → Nat → Int} {t : Nat → Int} (h1 : ∀ r k, r < n → k < n → p ∣ N (r + 1) (k + 1) - (M (r + 1) (k + 1) - t r * M 0 (k + 1))) (h2 : ∀ r, r < n → p ∣ M (r + 1) 0 - t r * M 0 0) :
    p ∣ det (n + 1) M - M 0 0 * det n (fun r k => N (r + 1) (k + 1)) := by
  rw [← det_below M t n (Nat.le_refl _)]
  have e : det (n + 1) (fun r k => if r = 0 ∨ n < r then M r k else M r k - t (r - 1) * M 0 k) = sumTo (fun i => sg i * ((fun r k => if r = 0 ∨ n < r then M r k else M r k - t (r - 1) * M 0 k) i 0 * det n (mn (fun r k => if r = 0 ∨ n < r then M r k else M r k - t (r - 1) * M 0 k) i 0))) (n + 1) := rfl
  rw [e, sumTo_front']
  have hz : p ∣ sumTo (fun j => sg (j + 1) * ((fun r k => if r = 0 ∨ n < r then M r k else M r k - t (r - 1) * M 0 k) (j + 1) 0 * det n (mn (fun r k => if r = 0 ∨ n < r then M r k else M r k - t (r - 1) * M 0 k) (j + 1) 0))) n := dvd_sumTo fun j hj => by
    refine Int.dvd_mul_of_dvd_right (Int.dvd_mul_of_dvd_left ?_)
    show p ∣ if j + 1 = 0 ∨ n < j + 1 then M (j + 1) 0 else M (j + 1) 0 - t (j + 1 - 1) * M 0 0
    rw [if_neg (by omega)]
    exact h2 j hj
  have hm : p ∣ det n (fun r k => N (r + 1) (k + 1)) - det n (mn (fun r k => if r = 0 ∨ n < r then M r k else M r k - t (r - 1) * M 0 k) 0 0) := det_mod fun r k hr hk => by
    show p ∣ N (r + 1) (k + 1) - if r + 1 = 0 ∨ n < r + 1 then M (r + 1) (k + 1) else M (r + 1) (k + 1) - t (r + 1 - 1) * M 0 (k + 1)
    rw [if_neg (by omega)]
    exact h1 r k hr hk
  have h0 : (fun r k => if r = 0 ∨ n < r then M r k else M r k - t (r - 1) * M 0 k) 0 0 = M 0 0 := by simp
  rw [h0]
  have hs0 : sg 0 = 1 := rfl
  rw [hs0, Int.one_mul]
  generalize det n (mn (fun r k => if r = 0 ∨ n < r then M r k else M r k - t (r - 1) * M 0 k) 0 0) = D1 at *
  generalize det n (fun r k => N (r + 1) (k + 1)) = D2 at *
  generalize sumTo _ n = Z at *
  have e2 : M 0 0 * D1 + Z - M 0 0 * D2 = Z - M 0 0 * (D2 - D1) := by rw [Int.mul_sub]; omega
  rw [e2]
  exact Int.dvd_sub hz (Int.dvd_mul_of_dvd_right hm)
theorem det_col0 {n : Nat} {M : Nat → Nat → Int} (h : ∀ r, r < n + 1 → M r 0 = 0) : det (n + 1) M = 0 := by
  have e : det (n + 1) M = sumTo (fun i => sg i * (M i 0 * det n (mn M i 0))) (n + 1) := rfl
  rw [e]
  have e2 : sumTo (fun i => sg i * (M i 0 * det n (mn M i 0))) (n + 1) = sumTo (fun _ => 0) (n + 1) := sumTo_congr fun i hi => by rw [h i hi]; simp
  rw [e2, sumTo_zero]
def IsNum (a : Int) : Prop := 1 ≤ a ∧ a ≤ 2147483647
instance (a : Int) : Decidable (IsNum a) := by unfold IsNum; infer_instance
def IsRest (a m : Int) : Prop := IsNum m ∧ 0 ≤ a ∧ a < m
instance (a m : Int) : Decidable (IsRest a m) := by unfold IsRest; infer_instance
theorem f110 (a : Int) (m : Nat) (hm : 1 ≤ m) : evF tab it m 110 [.int .i64 a] [] = some (.bool (decide (IsNum a)), []) := by
  obtain ⟨m, rfl⟩ : ∃ j, m = j + 1 := ⟨m - 1, by omega⟩
  refine f_enter rfl rfl ?_
  repeat' first
 | (apply s_mov; exact aW)
 | (apply s_gT; exact rfl)
 | (apply s_gF; exact rfl)
 | (apply c_nil)
 | (apply s_pickT; exact rfl; exact aW)
 | (apply s_pickF; exact rfl; exact aW)
 | (apply s_leq; exact rfl; all_goals (intro _; try (exfalso; omega)))
 | (apply s_geq; exact rfl; all_goals (intro _; try (exfalso; omega)))
 | (apply c_seq)
 | (apply c_reg)
 | (apply c_ret)
 | (with_reducible apply k_c)
  all_goals refine fin_t (by (conv => lhs; whnf)) (by rfl) ?_
  all_goals first | exact leafT (by unfold IsNum; omega) | exact leafF (by unfold IsNum; omega)
theorem c110 {m : Nat} (hm : 1 ≤ m) (a : Int) (H : Heap) : callPure (evF tab it m) true 110 [.int .i64 a] H = some (.bool (decide (IsNum a)), H) :=
  callPure_free rfl (by simp) (f110 a m hm) rfl
theorem f88 (a n : Int) (m : Nat) (hm : 2 ≤ m) : evF tab it m 88 [.int .i64 a, .int .i64 n] [] = some (.bool (decide (IsRest a n)), []) := by
  obtain ⟨m, rfl⟩ : ∃ j, m = j + 1 := ⟨m - 1, by omega⟩
  refine f_enter rfl rfl ?_
  repeat' first
 | (apply s_mov; exact aW)
 | (apply s_gT; exact rfl)
 | (apply s_gF; exact rfl)
 | (apply c_nil)
 | (apply s_pickT; exact rfl; exact aW)
 | (apply s_pickF; exact rfl; exact aW)
 | (apply s_lss; exact rfl; all_goals (intro _; try (exfalso; omega)))
 | (apply s_geq; exact rfl; all_goals (intro _; try (exfalso; omega)))
 | (apply isE; refine s_cB (by exact aO) (c110 (by omega) _ _) (fun _ => ?_) (fun _ => ?_))
 | (apply c_seq)
 | (apply c_reg)
 | (apply c_ret)
 | (with_reducible apply k_c)
  all_goals refine fin_t (by (conv => lhs; whnf)) (by rfl) ?_
  all_goals first | exact leafT (by unfold IsRest; refine ⟨by assumption, by omega, by omega⟩) | exact leafF (fun h => by unfold IsRest at h; first | omega | exact absurd h.1 (by assumption))
theorem c88 {m : Nat} (hm : 2 ≤ m) (a n : Int) (H : Heap) : callPure (evF tab it m) true 88 [.int .i64 a, .int .i64 n] H = some (.bool (decide (IsRest a n)), H) :=
  callPure_free rfl (by simp) (f88 a n m hm) rfl
theorem f91 {a b n : Nat} (hn : 0 < n) (hab : a * b < 9223372036854775808) (m : Nat) (hm : 1 ≤ m) : evF tab it m 91 [.int .i64 (a : Int), .int .i64 (b : Int), .int .i64 (n : Int)] [] = some (.int .i64 ((a * b % n : Nat) : Int), []) := by
  obtain ⟨m, rfl⟩ : ∃ j, m = j + 1 := ⟨m - 1, by omega⟩
  refine f_enter rfl rfl ?_
  repeat' first
 | (apply s_mov; exact aW)
 | (apply c_nil)
 | (apply s_mulN; exact rfl; omega)
 | (apply s_remN; exact rfl; omega)
 | (apply c_seq)
 | (apply c_reg)
 | (apply c_ret)
 | (with_reducible apply k_c)
  exact fin_t (by (conv => lhs; whnf)) (by rfl) rfl
theorem c91 {a b n : Nat} (hn : 0 < n) (hab : a * b < 9223372036854775808) {m : Nat} (hm : 1 ≤ m) (H : Heap) : callPure (evF tab it m) true 91 [.int .i64 (a : Int), .int .i64 (b : Int), .int .i64 (n : Int)] H = some (.int .i64 ((a * b % n : Nat) : Int), H) :=
  callPure_free rfl (by simp) (f91 hn hab m hm) rfl
theorem gcd_step {a b k : Nat} (hb : 0 < b) (h : b ≤ a) (hk : a * b < 2 ^ k) : 1 ≤ k ∧ b * (a % b) < 2 ^ (k - 1) ∧ a % b < b := by
  have h1 : a % b < b := Nat.mod_lt _ hb
  have h2 : a % b + b ≤ a := by
    have := Nat.mod_add_div a b
    have : 1 ≤ a / b := (Nat.one_le_div_iff hb).2 h
    have := Nat.mul_le_mul_left b this
    omega
  have h3 : b * (2 * (a % b)) ≤ b * a := Nat.mul_le_mul_left b (by omega)
  have h4 : 1 ≤ a * b := Nat.mul_le_mul (show 1 ≤ a by omega) hb
  cases k with
  | zero => simp at hk; omega
  | succ k =>
    refine ⟨by omega, ?_, h1⟩
    rw [Nat.pow_succ] at hk
    have e1 : b * (2 * (a % b)) = 2 * (b * (a % b)) := by rw [Nat.mul_left_comm]
    have e2 : b * a = a * b := Nat.mul_comm b a
    simp only [Nat.add_sub_cancel]
    omega
structure EI (A B g : Nat) (a b : Nat) (x y : Int) : Prop where
  ex : ∃ X Y : Nat, ∃ s : Int, (s = 1 ∨ s = -1) ∧ x = s * X ∧ y = -(s * Y) ∧ X * b + Y * a = B ∧ X ≤ B ∧ Y ≤ B
  dx : (B : Int) ∣ x * A - a
  dy : (B : Int) ∣ y * A - b
  gg : Nat.gcd a b = g
theorem EI.step {A B g a b : Nat} {x y : Int} (h : EI A B g a b x y) (hb : 0 < b) : EI A B g b (a - a / b * b) y (x - ((a / b : Nat) : Int) * y) ∧ a / b * b ≤ a ∧ (-(B : Int) ≤ ((a / b : Nat) : Int) * y ∧ ((a / b : Nat) : Int) * y ≤ B) ∧ (-(B : Int) ≤ x - ((a / b : Nat) : Int) * y ∧ x - ((a / b : Nat) : Int) * y ≤ B) := by
  obtain ⟨⟨X, Y, s, hs, rfl, rfl, e, hX, hY⟩, dx, dy, gg⟩ := h
  generalize hq : a / b = q
  have hqb : q * b ≤ a := hq ▸ Nat.div_mul_le_self a b
  have hmod : a - q * b = a % b := by
    have := Nat.mod_add_div a b
    rw [hq, Nat.mul_comm] at this
    omega
  have e2 : Y * (a - q * b) + (X + q * Y) * b = B := by
    rw [Nat.mul_sub, Nat.add_mul]
    have : Y * (q * b) ≤ Y * a := Nat.mul_le_mul_left _ hqb
    have : q * Y * b = Y * (q * b) := by rw [Nat.mul_comm q Y, Nat.mul_assoc]
    omega
  have hY' : X + q * Y ≤ B := by
    have := Nat.le_mul_of_pos_right (X + q * Y) hb
    omega
  have e3 : s * (X : Int) - (q : Int) * -(s * (Y : Int)) = s * ((X + q * Y : Nat) : Int) := by
    push_cast
    rw [Int.mul_neg, Int.sub_neg, Int.mul_add, Int.mul_left_comm]
  have e4 : (q : Int) * -(s * (Y : Int)) = -(s * ((q * Y : Nat) : Int)) := by
    push_cast
    rw [Int.mul_neg, Int.mul_left_comm]
  refine ⟨⟨⟨Y, X + q * Y, -s, by omega, by rw [Int.neg_mul], by rw [e3, Int.neg_mul, Int.neg_neg], e2, hY, hY'⟩, dy, ?_, ?_⟩, hqb, ?_, ?_⟩
  · have e5 : (s * (X : Int) - (q : Int) * -(s * (Y : Int))) * (A : Int) - ((a - q * b : Nat) : Int) = (s * (X : Int) * A - a) - (q : Int) * (-(s * (Y : Int)) * A - b) := by
      rw [Int.natCast_sub hqb, Int.sub_mul, Int.mul_sub, Int.mul_assoc (q : Int)]
      push_cast
      omega
    rw [e5]
    exact Int.dvd_sub dx (Int.dvd_mul_of_dvd_right dy)
  · rw [hmod, Nat.gcd_comm, ← Nat.gcd_rec, Nat.gcd_comm, gg]
  · rw [e4]
    rcases hs with rfl | rfl <;> omega
  · rw [e3]
    rcases hs with rfl | rfl <;> omega
theorem EI.step_k {a b k : Nat} (hb : 0 < b) (hk : a * b < 2 ^ k) : b * (a - a / b * b) < 2 ^ (if a < b then k else k - 1) ∧ (if a < b then k else k - 1) + (if b < a - a / b * b then 1 else 0) < k + (if a < b then 1 else 0) := by
  have hmod : a - a / b * b = a % b := by
    have := Nat.mod_add_div a b
    rw [Nat.mul_comm] at this
    omega
  rw [hmod]
  by_cases h : a < b
  · simp only [if_pos h]
    rw [Nat.mod_eq_of_lt h, if_neg (by omega)]
    exact ⟨by rw [Nat.mul_comm]; exact hk, by omega⟩
  · simp only [if_neg h]
    obtain ⟨g1, g2, g3⟩ := gcd_step hb (by omega) hk
    rw [if_neg (by omega)]
    exact ⟨g2, by omega⟩
theorem prod126 {A B : Nat} (hA : A < 9223372036854775808) (hB : B < 9223372036854775808) : A * B < 2 ^ 126 :=
  Nat.lt_of_le_of_lt (Nat.mul_le_mul (show A ≤ 9223372036854775807 by omega) (show B ≤ 9223372036854775807 by omega)) (by decide)
theorem sub_mod {a b : Nat} : a - a / b * b = a % b := by
  have := Nat.mod_add_div a b
  rw [Nat.mul_comm] at this
  omega
def eucl (a b : Nat) (x y : Int) : Nat × Int := if h : b = 0 then (a, x) else eucl b (a - a / b * b) y (x - ((a / b : Nat) : Int) * y)
termination_by b
decreasing_by rw [sub_mod]; exact Nat.mod_lt _ (by omega)
theorem eucl_z {a : Nat} {x y : Int} : eucl a 0 x y = (a, x) := by rw [eucl]; rfl
theorem eucl_s {a b : Nat} {x y : Int} (h : 0 < b) : eucl a b x y = eucl b (a - a / b * b) y (x - ((a / b : Nat) : Int) * y) := by rw [eucl, dif_neg (by omega)]
theorem eucl_spec {A B g : Nat} : ∀ (n a b : Nat) (x y : Int), b ≤ n → EI A B g a b x y → (eucl a b x y).1 = g ∧ (B : Int) ∣ (eucl a b x y).2 * A - g ∧ -(B : Int) ≤ (eucl a b x y).2 ∧ (eucl a b x y).2 ≤ B := by
  intro n
  induction n with
  | zero =>
    intro a b x y hb h
    have : b = 0 := by omega
    subst this
    have hg := h.gg
    rw [Nat.gcd_zero_right] at hg
    subst hg
    rw [eucl_z]
    obtain ⟨X, Y, s, hs, rfl, _, _, hX, _⟩ := h.ex
    exact ⟨rfl, h.dx, by rcases hs with rfl | rfl <;> simp only <;> omega, by rcases hs with rfl | rfl <;> simp only <;> omega⟩
  | succ n ih =>
    intro a b x y hb h
    by_cases h0 : b = 0
    · exact (by
        subst h0
        have hg := h.gg
        rw [Nat.gcd_zero_right] at hg
        subst hg
        rw [eucl_z]
        obtain ⟨X, Y, s, hs, rfl, _, _, hX, _⟩ := h.ex
        exact ⟨rfl, h.dx, by rcases hs with rfl | rfl <;> simp only <;> omega, by rcases hs with rfl | rfl <;> simp only <;> omega⟩)
    · rw [eucl_s (by omega)]
      exact ih _ _ _ _ (by rw [sub_mod]; have := Nat.mod_lt a (show b > 0 by omega); omega) (h.step (by omega)).1
theorem EI.init {A B : Nat} (h1 : 1 ≤ B) : EI A B (Nat.gcd A B) A B 1 0 := ⟨⟨1, 0, 1, .inl rfl, by simp, by simp, by simp, h1, by omega⟩, by simp, by simp, rfl⟩
theorem f89 {A B : Nat} (hA : A < 9223372036854775808) (h1 : 1 ≤ B) (hB : B ≤ 2147483647) (m : Nat) (hm : 200 ≤ m) : evF tab it m 89 [.int .i64 (A : Int), .int .i64 (B : Int)] [] = some (.tup [.int .i64 ((eucl A B 1 0).1 : Int), .int .i64 (eucl A B 1 0).2], []) := by
  obtain ⟨m, rfl⟩ : ∃ j, m = j + 1 := ⟨m - 1, by omega⟩
  have hAB := prod126 hA (show B < 9223372036854775808 by omega)
  generalize hE : eucl A B 1 0 = E
  refine f_enter rfl rfl ?_
  repeat' first
 | (apply s_mov; exact aW)
 | (apply c_nil)
 | (apply c_seq)
 | (apply c_reg)
 | (apply c_block)
 | (with_reducible apply k_c)
  refine c_loop ?_
  refine loop_gc (σ := Nat × Nat × Int × Int × Nat) (fun s => [.int .i64 (s.1 : Int), .int .i64 (s.2.1 : Int), .int .i64 s.2.2.1, .int .i64 s.2.2.2.1]) (fun _ => []) (fun s => EI A B (Nat.gcd A B) s.1 s.2.1 s.2.2.1 s.2.2.2.1 ∧ eucl s.1 s.2.1 s.2.2.1 s.2.2.2.1 = E ∧ s.1 * s.2.1 < 2 ^ s.2.2.2.2 ∧ s.2.2.2.2 ≤ 126 ∧ s.1 < 9223372036854775808 ∧ s.2.1 < 9223372036854775808) (fun s => s.2.2.2.2 + (if s.1 < s.2.1 then 1 else 0)) ?_ _ (A, B, 1, 0, 126) _ _ ⟨EI.init h1, hE, hAB, Nat.le_refl _, hA, by show B < _; omega⟩ (by show 126 + _ < _; split <;> omega) (gc_to rfl (by simp [idFreeL, AV.idFree, *]; done))
  intro ⟨a, b, x, y, k⟩ ⟨hi, he, h2, h3, ha, hb⟩ K hK
  dsimp only at hi he h2 h3 ha hb hK ⊢
  have hst : 0 < b → _ := fun h => hi.step h
  have hsk : 0 < b → _ := fun h => EI.step_k h h2
  by_cases h0 : b = 0
  · subst h0
    repeat' first
 | (apply s_mov; exact aW)
 | (apply c_nil)
 | (apply s_neq; exact rfl; all_goals (intro _; try (exfalso; omega)))
 | (apply c_seq)
 | (apply c_reg)
 | (apply c_exitH)
 | (apply c_ret)
 | (apply c_condF; exact rfl)
 | (apply c_preF; exact aK; exact aF)
 | (with_reducible apply k_c)
    rw [eucl_z] at he
    subst he
    exact fin_tt (by (conv => lhs; whnf)) (by (conv => lhs; whnf)) (by rfl) (by rfl) rfl
  · obtain ⟨g1, g2, g3, g4⟩ := hst (by omega)
    obtain ⟨g5, g6⟩ := hsk (by omega)
    rw [eucl_s (by omega)] at he
    repeat' first
 | (apply s_mov; exact aW)
 | (apply c_nil)
 | (apply s_neq; exact rfl; all_goals (intro _; try (exfalso; omega)))
 | (apply s_subN; exact rfl; omega; omega)
 | (apply s_mul; exact rfl; omega)
 | (apply s_sub; exact rfl; omega)
 | (apply s_quoN; exact rfl; omega; omega)
 | (apply c_seq)
 | (apply c_reg)
 | (apply c_block)
 | (apply c_skip)
 | (apply c_condT; exact rfl)
 | (with_reducible apply k_c)
    exact hK (b, a - a / b * b, y, x - ((a / b : Nat) : Int) * y, if a < b then k else k - 1) _ _ ⟨g1, he, g5, by show (if a < b then k else k - 1) ≤ 126; split <;> omega, hb, by show a - a / b * b < _; omega⟩ g6 (gc_to rfl (by simp [idFreeL, AV.idFree, *]; done))
theorem c89 {A B : Nat} (hA : A < 9223372036854775808) (h1 : 1 ≤ B) (hB : B ≤ 2147483647) {m : Nat} (hm : 200 ≤ m) (H : Heap) : callPure (evF tab it m) true 89 [.int .i64 (A : Int), .int .i64 (B : Int)] H = some (.tup [.int .i64 ((eucl A B 1 0).1 : Int), .int .i64 (eucl A B 1 0).2], H) :=
  callPure_free rfl (by simp) (f89 hA h1 hB m hm) rfl
theorem tmod_add {x m : Int} (hm : 0 < m) : (x.tmod m + m).tmod m = x % m := by
  have h1 : m ∣ x - x.tmod m := ⟨x.tdiv m, by have := Int.tmod_add_mul_tdiv x m; omega⟩
  have h2 : -m < x.tmod m ∧ x.tmod m < m := by
    have a := Int.tmod_lt_of_pos x hm
    have b := Int.lt_tmod_of_pos x hm
    omega
  rw [Int.tmod_eq_emod_of_nonneg (by omega), Int.add_emod_right]
  refine Int.emod_eq_emod_iff_emod_sub_eq_zero.2 (Int.emod_eq_zero_of_dvd ?_)
  have : x.tmod m - x = -(x - x.tmod m) := by omega
  rw [this]
  exact Int.dvd_neg.2 h1
theorem inv_uniq {a m y z : Int} (hm : 0 < m) (hy : m ∣ y * a - 1) (hz : m ∣ z * a - 1) : y % m = z % m := by
  refine Int.emod_eq_emod_iff_emod_sub_eq_zero.2 (Int.emod_eq_zero_of_dvd ?_)
  have h : m ∣ (y * (z * a - 1) - z * (y * a - 1)) := Int.dvd_sub (Int.dvd_mul_of_dvd_right hz) (Int.dvd_mul_of_dvd_right hy)
  have e : y * (z * a - 1) - z * (y * a - 1) = -(y - z) := by
    rw [Int.mul_sub, Int.mul_sub, Int.mul_left_comm y z a]
    omega
  rw [e] at h
  exact Int.dvd_neg.1 h
def invOf (a m : Nat) : Int := (eucl a m 1 0).2 % m
theorem eucl_g {A B : Nat} (h1 : 1 ≤ B) : (eucl A B 1 0).1 = Nat.gcd A B := (eucl_spec B A B 1 0 (Nat.le_refl _) (EI.init h1)).1
theorem eucl_d {A B : Nat} (h1 : 1 ≤ B) : (B : Int) ∣ (eucl A B 1 0).2 * A - (Nat.gcd A B : Nat) ∧ -(B : Int) ≤ (eucl A B 1 0).2 ∧ (eucl A B 1 0).2 ≤ B := (eucl_spec B A B 1 0 (Nat.le_refl _) (EI.init h1)).2
theorem f87 (a n : Int) (m : Nat) (hm : 203 ≤ m) : evF tab it m 87 [.int .i64 a, .int .i64 n] [] = some (.tup (if IsRest a n then (if Nat.gcd a.toNat n.toNat = 1 then [.int .i64 (invOf a.toNat n.toNat), .int .i64 0] else [.int .i64 0, .int .i64 6]) else [.int .i64 0, .int .i64 2]), []) := by
  obtain ⟨m, rfl⟩ : ∃ j, m = j + 1 := ⟨m - 1, by omega⟩
  by_cases hr : IsRest a n
  · obtain ⟨A, rfl⟩ : ∃ A : Nat, a = A := ⟨a.toNat, by have := hr.2.1; omega⟩
    obtain ⟨N, rfl⟩ : ∃ A : Nat, n = A := ⟨n.toNat, by have := hr.1.1; omega⟩
    rw [if_pos hr]
    simp only [Int.toNat_natCast]
    have hr' := hr
    unfold IsRest IsNum at hr'
    have e1 := eucl_g (A := A) (B := N) (by omega)
    have e2 := eucl_d (A := A) (B := N) (by omega)
    have e3 : invOf A N = _ := rfl
    unfold invOf at e3
    have e4 := tmod_add (x := (eucl A N 1 0).2) (m := N) (by omega)
    have e5 : -(N : Int) ≤ ((eucl A N 1 0).2).tmod N ∧ ((eucl A N 1 0).2).tmod N ≤ N := by
      have a := Int.tmod_lt_of_pos (eucl A N 1 0).2 (show (0 : Int) < N by omega)
      have b := Int.lt_tmod_of_pos (eucl A N 1 0).2 (show (0 : Int) < N by omega)
      omega
    refine f_enter rfl rfl ?_
    repeat' first
 | (apply s_mov; exact aW)
 | (apply c_nil)
 | (apply s_notT; exact rfl)
 | (apply s_notF; exact rfl)
 | (apply s_neq; exact rfl; all_goals (intro _; try (exfalso; omega)))
 | (apply isE; refine s_cB (by exact aO) (c88 (by omega) _ _ _) (fun _ => ?_) (fun _ => ?_))
 | (apply s_cn; exact aO; exact c89 (by omega) (by omega) (by omega) (by omega) _)
 | (apply s_rem; exact rfl; omega)
 | (apply s_add; exact rfl; omega)
 | (apply s_pd; exact aW)
 | (apply c_seq)
 | (apply c_reg)
 | (apply c_skip)
 | (apply c_ret)
 | (apply c_condT; exact rfl)
 | (apply c_condF; exact rfl)
 | (with_reducible apply k_c)
    · rw [if_pos (by omega)]
      refine fin_tt (by (conv => lhs; whnf)) (by (conv => lhs; whnf)) (by rfl) (by rfl) ?_
      rw [e4]
      rfl
    · rw [if_neg (by omega)]
      exact fin_tt (by (conv => lhs; whnf)) (by (conv => lhs; whnf)) (by rfl) (by rfl) rfl
    · exact absurd hr (by assumption)
  · rw [if_neg hr]
    refine f_enter rfl rfl ?_
    repeat' first
 | (apply s_mov; exact aW)
 | (apply c_nil)
 | (apply s_notT; exact rfl)
 | (apply s_notF; exact rfl)
 | (apply isE; refine s_cB (by exact aO) (c88 (by omega) _ _ _) (fun _ => ?_) (fun _ => ?_))
 | (apply c_seq)
 | (apply c_reg)
 | (apply c_skip)
 | (apply c_ret)
 | (apply c_condT; exact rfl)
 | (apply c_condF; exact rfl)
 | (with_reducible apply k_c)
    · exact absurd (by assumption) hr
    · exact fin_tt (by (conv => lhs; whnf)) (by (conv => lhs; whnf)) (by rfl) (by rfl) rfl
theorem c87 {m : Nat} (hm : 203 ≤ m) (a n : Int) (H : Heap) : callPure (evF tab it m) true 87 [.int .i64 a, .int .i64 n] H = some (.tup (if IsRest a n then (if Nat.gcd a.toNat n.toNat = 1 then [.int .i64 (invOf a.toNat n.toNat), .int .i64 0] else [.int .i64 0, .int .i64 6]) else [.int .i64 0, .int .i64 2]), H) :=
  callPure_free rfl (by simp) (f87 a n m hm) (by split <;> (try split) <;> rfl)
theorem invOf_spec {a n : Nat} (h1 : 1 ≤ n) (hg : Nat.gcd a n = 1) : 0 ≤ invOf a n ∧ invOf a n < n ∧ (n : Int) ∣ invOf a n * a - 1 := by
  obtain ⟨d, _⟩ := eucl_d (A := a) h1
  rw [hg] at d
  unfold invOf
  refine ⟨Int.emod_nonneg _ (by omega), Int.emod_lt_of_pos _ (by omega), ?_⟩
  have e : (n : Int) ∣ (eucl a n 1 0).2 - (eucl a n 1 0).2 % n := ⟨(eucl a n 1 0).2 / n, by have := Int.emod_add_mul_ediv (eucl a n 1 0).2 n; omega⟩
  have := Int.dvd_sub d (Int.dvd_trans e (Int.dvd_mul_right _ (a : Int)))
  rw [Int.sub_mul] at this
  have e2 : (eucl a n 1 0).2 * (a : Int) - ((1 : Nat) : Int) - ((eucl a n 1 0).2 * a - (eucl a n 1 0).2 % n * a) = (eucl a n 1 0).2 % n * a - 1 := by omega
  rwa [e2] at this
set_option maxHeartbeats 8000000
def blk (c : Nat) (rows : List (List Int)) (r k : Nat) : Int := getI (getLL rows ((c + r : Nat) : Int)) ((c + k : Nat) : Int)
theorem elim {n c : Nat} {p lead : Int} {rows1 rows2 : List (List Int)} (hp : 2 ≤ p ∧ p ≤ 2147483647) (hcn : c < n) (hlead : 0 ≤ lead ∧ lead < p) (hb : ∀ u v : Nat, u < n → v < n → 0 ≤ getI (getLL rows1 (u : Int)) (v : Int) ∧ getI (getLL rows1 (u : Int)) (v : Int) < p)
    (h2 : ∀ u v : Nat, c < u → c ≤ v → u < n → v < n → getI (getLL rows2 (u : Int)) (v : Int) = rT p lead c n rows1 u v) (hinv : p ∣ lead * getI (getLL rows1 (c : Int)) (c : Int) - 1) :
    p ∣ det (n - c) (blk c rows1) - getI (getLL rows1 (c : Int)) (c : Int) * det (n - (c + 1)) (blk (c + 1) rows2) := by
  obtain ⟨q, hq⟩ : ∃ q, n - c = q + 1 := ⟨n - c - 1, by omega⟩
  have e1 : det (n - (c + 1)) (blk (c + 1) rows2) = det q (fun r k => (fun r k => getI (getLL rows2 ((c + r : Nat) : Int)) ((c + k : Nat) : Int)) (r + 1) (k + 1)) := by
    rw [show n - (c + 1) = q by omega]
    refine det_congr fun r k hr hk => ?_
    unfold blk
    rw [show c + 1 + r = c + (r + 1) by omega, show c + 1 + k = c + (k + 1) by omega]
  have e0 : getI (getLL rows1 (c : Int)) (c : Int) = blk c rows1 0 0 := rfl
  rw [e1, hq, e0]
  have ht : ∀ r, r < q → 0 ≤ (blk c rows1 (r + 1) 0 * lead).tmod p ∧ (blk c rows1 (r + 1) 0 * lead).tmod p < p ∧ p ∣ blk c rows1 (r + 1) 0 * lead - (blk c rows1 (r + 1) 0 * lead).tmod p := fun r hr => by
    have b := hb (c + (r + 1)) (c + 0) (by omega) (by omega)
    have q1 := mul_in (a := blk c rows1 (r + 1) 0) (c := lead) hp (by unfold blk; omega) hlead
    exact tmod_in hp.1 q1.1
  refine gauss_step (p := p) (n := q) (M := blk c rows1) (N := fun r k => getI (getLL rows2 ((c + r : Nat) : Int)) ((c + k : Nat) : Int)) (t := fun r => (blk c rows1 (r + 1) 0 * lead).tmod p) (fun r k hr hk => ?_) fun r hr => ?_
  · show p ∣ getI (getLL rows2 ((c + (r + 1) : Nat) : Int)) ((c + (k + 1) : Nat) : Int) - _
    rw [h2 _ _ (by omega) (by omega) (by omega) (by omega)]
    unfold rT
    rw [if_pos (by omega)]
    have b1 := hb (c + (r + 1)) (c + (k + 1)) (by omega) (by omega)
    have b2 := hb c (c + (k + 1)) (by omega) (by omega)
    have t1 := ht r hr
    have q3 := mul_in (a := p - (blk c rows1 (r + 1) 0 * lead).tmod p) (c := blk c rows1 0 (k + 1)) hp (by omega) b2
    have q4 := tmod_in (p := p) (x := blk c rows1 (r + 1) (k + 1) + (p - (blk c rows1 (r + 1) 0 * lead).tmod p) * blk c rows1 0 (k + 1)) hp.1 (by have : 0 ≤ blk c rows1 (r + 1) (k + 1) := b1.1; omega)
    show p ∣ (blk c rows1 (r + 1) (k + 1) + (p - (blk c rows1 (r + 1) 0 * lead).tmod p) * blk c rows1 0 (k + 1)).tmod p - (blk c rows1 (r + 1) (k + 1) - (blk c rows1 (r + 1) 0 * lead).tmod p * blk c rows1 0 (k + 1))
    obtain ⟨z, hz⟩ := q4.2.2
    generalize (blk c rows1 (r + 1) 0 * lead).tmod p = T at *
    generalize blk c rows1 (r + 1) (k + 1) = A at *
    generalize blk c rows1 0 (k + 1) = B at *
    refine ⟨B - z, ?_⟩
    rw [Int.mul_sub]
    rw [Int.sub_mul] at hz ⊢
    generalize (A + (p * B - T * B)).tmod p = W at *
    omega
  · obtain ⟨z, hz⟩ := (ht r hr).2.2
    obtain ⟨y, hy⟩ := hinv
    show p ∣ blk c rows1 (r + 1) 0 - (blk c rows1 (r + 1) 0 * lead).tmod p * blk c rows1 0 0
    rw [e0] at hy
    generalize (blk c rows1 (r + 1) 0 * lead).tmod p = T at *
    generalize blk c rows1 (r + 1) 0 = A at *
    generalize blk c rows1 0 0 = B at *
    refine ⟨z * B - A * y, ?_⟩
    have e3 : T = A * lead - p * z := by omega
    have e4 : lead * B = p * y + 1 := by omega
    have e5 : A * (lead * B) = A * (p * y + 1) := by rw [e4]
    rw [e3, Int.sub_mul, Int.mul_sub, Int.mul_assoc A lead B, e5, Int.mul_add, Int.mul_one, Int.mul_assoc p z B, Int.mul_left_comm A p y]
    omega
theorem blk_sw {n c d : Nat} {rows : List (List Int)} (h : Rows n rows) (hc : c < n) (hd : d < n) (hcd : c < d) : det (n - c) (blk c (swL c d rows)) = - det (n - c) (blk c rows) := by
  have := det_swap (n := n - c) (i := 0) (j := d - c) (by omega) (by omega) (by omega) (blk c rows)
  rw [← this]
  refine det_congr fun r k hr hk => ?_
  unfold rwR
  have e : blk c (swL c d rows) r k = getI (getLL (swL c d rows) ((c + r : Nat) : Int)) ((c + k : Nat) : Int) := rfl
  rw [e, swL_get h hc hd]
  by_cases e1 : r = d - c
  · rw [if_pos (by omega), if_pos e1]; rfl
  · rw [if_neg (by omega), if_neg e1]
    by_cases e2 : r = 0
    · rw [if_pos (by omega), if_pos e2]
      unfold blk
      rw [show c + (d - c) = d by omega]
    · rw [if_neg (by omega), if_neg e2]; rfl
structure Gau (n : Nat) (p D : Int) (c : Nat) (rows : List (List Int)) (out : Int) : Prop where
  r : Rows n rows
  b : ∀ u v : Nat, u < n → v < n → 0 ≤ getI (getLL rows (u : Int)) (v : Int) ∧ getI (getLL rows (u : Int)) (v : Int) < p
  o : 0 ≤ out ∧ out < p
  d : p ∣ D - out * det (n - c) (blk c rows)
theorem rT_in {n c : Nat} {p lead : Int} {rows0 : List (List Int)} (hp : 2 ≤ p ∧ p ≤ 2147483647) (hcn : c < n) (hlead : 0 ≤ lead ∧ lead < p) (hb : ∀ u v : Nat, u < n → v < n → 0 ≤ getI (getLL rows0 (u : Int)) (v : Int) ∧ getI (getLL rows0 (u : Int)) (v : Int) < p) (i : Nat) : ∀ u v : Nat, u < n → v < n → 0 ≤ rT p lead c i rows0 u v ∧ rT p lead c i rows0 u v < p := fun u v hu hv => by
  unfold rT
  split
  · have b1 := hb u v hu hv
    have b2 := hb c v hcn hv
    have b3 := hb u c hu hcn
    have q1 := mul_in (a := getI (getLL rows0 (u : Int)) (c : Int)) (c := lead) hp (by omega) hlead
    have q2 := tmod_in (p := p) hp.1 q1.1
    have q3 := mul_in (a := p - (getI (getLL rows0 (u : Int)) (c : Int) * lead).tmod p) (c := getI (getLL rows0 (c : Int)) (v : Int)) hp (by omega) b2
    have q4 := tmod_in (p := p) (x := getI (getLL rows0 (u : Int)) (v : Int) + (p - (getI (getLL rows0 (u : Int)) (c : Int) * lead).tmod p) * getI (getLL rows0 (c : Int)) (v : Int)) hp.1 (by omega)
    exact ⟨q4.1, q4.2.1⟩
  · exact hb u v hu hv
theorem gau_next2 {n c : Nat} {p D lead out : Int} {rows1 rows2 : List (List Int)} (hp : 2 ≤ p ∧ p ≤ 2147483647) (hcn : c < n) (hlead : 0 ≤ lead ∧ lead < p) (h : Gau n p D c rows1 out) (hr : Rows n rows2) (hb2 : ∀ u v : Nat, u < n → v < n → 0 ≤ getI (getLL rows2 (u : Int)) (v : Int) ∧ getI (getLL rows2 (u : Int)) (v : Int) < p)
    (h2 : ∀ u v : Nat, c < u → c ≤ v → u < n → v < n → getI (getLL rows2 (u : Int)) (v : Int) = rT p lead c n rows1 u v) (hinv : p ∣ lead * getI (getLL rows1 (c : Int)) (c : Int) - 1) :
    Gau n p D (c + 1) rows2 ((out * getI (getLL rows1 (c : Int)) (c : Int)).tmod p) := by
  have he := elim hp hcn hlead h.b h2 hinv
  have b0 := h.b c c hcn hcn
  have ho := h.o
  have q1 := mul_in (a := out) (c := getI (getLL rows1 (c : Int)) (c : Int)) hp (by omega) b0
  have q2 := tmod_in (p := p) hp.1 q1.1
  refine ⟨hr, hb2, ⟨q2.1, q2.2.1⟩, ?_⟩
  obtain ⟨x, hx⟩ := h.d
  obtain ⟨y, hy⟩ := he
  obtain ⟨z, hz⟩ := q2.2.2
  generalize getI (getLL rows1 (c : Int)) (c : Int) = A at *
  generalize det (n - c) (blk c rows1) = D1 at *
  generalize det (n - (c + 1)) (blk (c + 1) rows2) = D2 at *
  generalize (out * A).tmod p = W at *
  refine ⟨x + out * y + z * D2, ?_⟩
  have e1 : D1 = A * D2 + p * y := by omega
  have e2 : W = out * A - p * z := by omega
  have e3 : D = out * D1 + p * x := by omega
  rw [e3, e1, e2, Int.mul_add, Int.sub_mul, Int.mul_add, Int.mul_add, Int.mul_assoc out A D2, Int.mul_left_comm out p y, Int.mul_assoc p z D2]
  omega
theorem gau_next {n c : Nat} {p D lead out : Int} {rows1 rows2 : List (List Int)} (hp : 2 ≤ p ∧ p ≤ 2147483647) (hcn : c < n) (hlead : 0 ≤ lead ∧ lead < p) (h : Gau n p D c rows1 out) (hr : Rows n rows2)
    (h2 : ∀ u v : Nat, u < n → v < n → getI (getLL rows2 (u : Int)) (v : Int) = rT p lead c n rows1 u v) (hinv : p ∣ lead * getI (getLL rows1 (c : Int)) (c : Int) - 1) :
    Gau n p D (c + 1) rows2 ((out * getI (getLL rows1 (c : Int)) (c : Int)).tmod p) :=
  gau_next2 hp hcn hlead h hr (fun u v hu hv => by rw [h2 u v hu hv]; exact rT_in hp hcn hlead h.b n u v hu hv) (fun u v _ _ hu hv => h2 u v hu hv) hinv
theorem gau_sw {n c d : Nat} {p D out : Int} {rows : List (List Int)} (hp : 2 ≤ p ∧ p ≤ 2147483647) (hc : c < n) (hd : d < n) (hcd : c < d) (h : Gau n p D c rows out) : Gau n p D c (swL c d rows) ((p - out).tmod p) := by
  have ho := h.o
  have q2 := tmod_in (p := p) (x := p - out) hp.1 (by omega)
  refine ⟨swL_rows h.r hc hd, fun u v hu hv => ?_, ⟨q2.1, q2.2.1⟩, ?_⟩
  · rw [swL_get h.r hc hd]
    split
    · exact h.b c v hc hv
    · split
      · exact h.b d v hd hv
      · exact h.b u v hu hv
  · rw [blk_sw h.r hc hd hcd]
    obtain ⟨x, hx⟩ := h.d
    obtain ⟨z, hz⟩ := q2.2.2
    generalize det (n - c) (blk c rows) = D1 at *
    generalize (p - out).tmod p = W at *
    refine ⟨x + D1 - z * D1, ?_⟩
    have e2 : W = p - out - p * z := by omega
    rw [e2, Int.mul_sub, Int.mul_add, Int.mul_neg, Int.sub_mul, Int.sub_mul, Int.mul_assoc p z D1]
    omega
theorem gau_none {n c : Nat} {p D out : Int} {rows : List (List Int)} (hc : c < n) (h : Gau n p D c rows out) (hz : ∀ u : Nat, c ≤ u → u < n → getI (getLL rows (u : Int)) (c : Int) = 0) : p ∣ D - 0 := by
  have h1 := h.d
  obtain ⟨q, hq⟩ : ∃ q, n - c = q + 1 := ⟨n - c - 1, by omega⟩
  rw [hq, det_col0 fun r hr => hz (c + r) (by omega) (by omega)] at h1
  simpa using h1
set_option maxHeartbeats 8000000
theorem p_slcO {H : Heap} {id n c : Nat} (hc : c ≤ n) : evP H (.slc 1 true false) [.sl id 1 0 n, .int .i64 (c : Int)] = some (.sl id 1 c (n - c)) := by
  have h1 : (0 : Int) ≤ c := by omega
  simp [evP, natOf, lenOf, slcOf, hc]
theorem hc_alloc {call : CallF} {n : Nat} {rows : List (List Int)} (h : Rows n rows) : evE call (HB n rows) (.alloc true [.int .i64 0]) [] = some (.ptr (n + 1) 0, HB n rows ++ [some (.data [.int .i64 0])]) := by
  have e : evE call (HB n rows) (.alloc true [.int .i64 0]) [] = some (.ptr (HB n rows).length 0, HB n rows ++ [some (.data [.int .i64 0])]) := rfl
  rw [e, hb_length h]
theorem hc_init {call : CallF} {n c : Nat} {rows : List (List Int)} (h : Rows n rows) : evE call (HB n rows ++ [some (.data [.int .i64 0])]) (.st 1) [.ptr (n + 1) 0, .int .i64 (c : Int)] = some (.undef, HC n rows c) := by
  have hl := hb_length h
  have hd : (HB n rows ++ [some (HO.data [.int .i64 0])])[n + 1]? = some (some (.data (iL [0]))) := by
    rw [List.getElem?_append_right (by omega), hl, Nat.sub_self]
    rfl
  rw [e_stO (call := call) (id := n + 1) (l := [0]) (i := 0) (v := (c : Int)) (data?_iff.2 hd) (by simp)]
  unfold HC
  rw [List.set_append_right _ _ (by omega), hl, Nat.sub_self]
  rfl
theorem inv_in {p : Int} (hp : 2 ≤ p ∧ p ≤ 2147483647) (hnd : allND p.toNat 16 2 = true) {A : Int} (h1 : 0 ≤ A ∧ A < p) (h0 : A ≠ 0) {m : Nat} (hm : 203 ≤ m) :
    ∃ lead : Int, (0 ≤ lead ∧ lead < p) ∧ p ∣ lead * A - 1 ∧ ∀ H, callPure (evF tab it m) true 87 [.int .i64 A, .int .i64 p] H = some (.tup [.int .i64 lead, .int .i64 0], H) := by
  have hg : Nat.gcd A.toNat p.toNat = 1 := cop_of (by omega) hnd (by omega) (by omega)
  obtain ⟨a, b, c⟩ := invOf_spec (a := A.toNat) (n := p.toNat) (by omega) hg
  rw [Int.toNat_of_nonneg (show 0 ≤ p by omega)] at b c
  rw [Int.toNat_of_nonneg h1.1] at c
  refine ⟨_, ⟨a, b⟩, c, fun H => ?_⟩
  rw [c87 hm, if_pos (by unfold IsRest IsNum; omega), if_pos hg]
theorem L29 {N : Nat} {m : Nat} {K0 : KT} {X : Nat → KT} {Rt : KT} {res : R} {env : Env} {H : Heap} {n : Nat} {p D : Int} {rows0 : List (List Int)}
    (hN : 100 ≤ N) (hm : 300 ≤ m) (hn : n ≤ 12) (hp : 2 ≤ p ∧ p ≤ 2147483647) (hnd : allND p.toNat 16 2 = true) (hG : Gau n p D 0 rows0 1)
    (h0 : gc 0 (looks env [1, 5, 6, 9, 71, 72]) H = some ([.int .i64 p, .int .i64 (n : Int), .sl 0 1 0 n, .int .i64 1, .int .i64 (n : Int), .int .i64 0], HB n rows0))
    (hR : p ∣ D - 0 → ∀ env' H', look env' 4 = .int .i64 0 → Rt env' H' = res)
    (hK : ∀ rows out, Gau n p D n rows out → ∀ env' H', gc 0 (looks env' [9]) H' = some ([.int .i64 out], []) → K0 env' H' = res) :
    loopIt N (fun K => evC (evF tab it m) it N lb61_29 0 K (blkX 4 K0 X) Rt) env H = res := by
  refine loop_gc (σ := Nat × List (List Int) × Int) (fun s => [.int .i64 p, .int .i64 (n : Int), .sl 0 1 0 n, .int .i64 s.2.2, .int .i64 (n : Int), .int .i64 (s.1 : Int)]) (fun s => HB n s.2.1) (fun s => s.1 ≤ n ∧ Gau n p D s.1 s.2.1 s.2.2) (fun s => n - s.1) ?_ _ (0, rows0, 1) _ _ ⟨by dsimp only; omega, hG⟩ (by show n - 0 < _; omega) h0
  clear h0 hG
  intro ⟨c, rows, out⟩ ⟨hcn', hG⟩ K hKl
  dsimp only at hcn' hG hKl ⊢
  have hr := hG.r
  by_cases hcn : c < n
  · have al := fun call => hc_alloc (call := call) hr
    have ini := fun call => hc_init (call := call) (c := c) hr
    have l1 := hc_c (c := c) hr
    have l3 := hc_ld (c := c) hr hcn
    have e85 := c85 (c := c) hr hcn hn (m := m) (by omega)
    have hneg := fiR_neg (c := c) (rows.drop c) 0
    have hpos := fiR_pos (c := c) (rows.drop c) 0
    have hdl : (rows.drop c).length = n - c := by rw [List.length_drop, hr.len]
    have hdg : ∀ i : Nat, getLL (rows.drop c) (i : Int) = getLL rows ((c + i : Nat) : Int) := fun i => by rw [getLL_nat, getLL_nat]; simp [List.getD]
    have hK1 := fun rows out => hKl (c + 1, rows, out)
    dsimp only at hK1
    have ho := hG.o
    have hL := fun (K0 : KT) (X : Nat → KT) (env : Env) (H : Heap) (out lead : Int) (rows1 : List (List Int)) (h : Gau n p D c rows1 out) (hl : 0 ≤ lead ∧ lead < p) (out1 : Int) => L20 (call := evF tab it m) (N := N) (K0 := K0) (X := X) (Rt := Rt) (res := res) (env := env) (out := out1) (lead := lead) (H := H) (c := c) hN hn h.r hcn hp hl h.b
    rcases Int.lt_or_le (fiR c (rows.drop c) 0) 0 with hk | hk
    · have hz := hneg hk
      have hdv := gau_none hcn hG fun u h1 h2 => by
        have := hz (u - c) (by omega)
        rw [hdg, show c + (u - c) = u by omega] at this
        exact this
      generalize fiR c (rows.drop c) 0 = kk at *
      clear hneg hpos hL hK1 hKl
      generalize evF tab it m = call at *
      repeat' first
 | (apply s_mov; exact aW)
 | (apply c_nil)
 | (apply s_lss; exact rfl; all_goals (intro _; try (exfalso; omega)))
 | (apply s_en; exact aO; exact al _)
 | (apply s_st; exact aO; exact ini _)
 | (apply s_pn; exact aO; exact l1)
 | (apply s_pn; exact aO; exact p_slcO hcn')
 | (apply s_cn; exact aO; exact e85)
 | (apply s_pd; exact aW)
 | (apply c_seq)
 | (apply c_reg)
 | (apply c_block)
 | (apply c_skip)
 | (apply c_ret)
 | (apply c_condT; exact rfl)
 | (with_reducible apply k_c)
      all_goals first
        | (exfalso; omega)
        | exact hR hdv _ _ rfl
    · obtain ⟨k, hkl, hke, hk0⟩ := hpos hk
      rw [hdl] at hkl
      rw [hdg] at hk0
      rw [hke, Nat.zero_add] at e85
      have hd : c + k < n := by omega
      clear hneg hpos hke hk hdg hdl hKl
      rcases Nat.eq_zero_or_pos k with hk2 | hk2
      · subst hk2
        rw [Nat.add_zero] at hk0
        have b0 := hG.b c c hcn hcn
        have l4 := hc_get (c := c) hr hcn hcn
        obtain ⟨lead, hl1, hl2, e87⟩ := inv_in hp hnd b0 hk0 (m := m) (by omega)
        have hnx := fun rows2 hr2 h2 => gau_next (rows2 := rows2) hp hcn hl1 hG hr2 h2 hl2
        have hprod := mul_in (a := out) (c := getI (getLL rows (c : Int)) (c : Int)) hp (by omega) b0
        have hmul : -9223372036854775808 ≤ out * getI (getLL rows (c : Int)) (c : Int) ∧ out * getI (getLL rows (c : Int)) (c : Int) < 9223372036854775808 := by omega
        have hLL := fun K0 X env H => hL K0 X env H out lead rows hG hl1 ((out * getI (getLL rows (c : Int)) (c : Int)).tmod p)
        clear hL hl2
        generalize evF tab it m = call at *
        generalize getI (getLL rows (c : Int)) (c : Int) = A at *
        repeat' first
 | (apply s_mov; exact aW)
 | (apply c_nil)
 | (apply s_lss; exact rfl; all_goals (intro _; try (exfalso; omega)))
 | (apply s_gtr; exact rfl; all_goals (intro _; try (exfalso; omega)))
 | (apply s_add; exact rfl; omega)
 | (apply s_en; exact aO; exact al _)
 | (apply s_st; exact aO; exact ini _)
 | (apply s_pn; exact aO; exact l1)
 | (apply s_pn; exact aO; exact p_slcO hcn')
 | (apply s_cn; exact aO; exact e85)
 | (apply s_pn; exact aO; exact p_ixO hcn)
 | (apply s_pn; exact aO; exact l3)
 | (apply s_pn; exact aO; exact l4)
 | (apply s_mul; exact rfl; exact hmul)
 | (apply s_rem; exact rfl; omega)
 | (apply s_cn; exact aO; exact e87 _)
 | (apply s_pd; exact aW)
 | (apply c_seq)
 | (apply c_reg)
 | (apply c_block)
 | (apply c_skip)
 | (apply c_condT; exact rfl)
 | (apply c_condF; exact rfl)
 | (with_reducible apply k_c)
        all_goals try (exfalso; omega)
        refine c_loop ?_
        refine hLL _ _ _ _ ?_ ?_
        · exact gcHC (pre := [.int .i64 p, .int .i64 (n : Int)]) (gs1 := [.int .i64 ((out * A).tmod p)]) (gs2 := [.int .i64 lead, .int .i64 ((c + 1 : Nat) : Int), .int .i64 (n : Int), .int .i64 (c : Int)]) (M := n) (c := c) hr (by omega) rfl (by simp) rfl (by simp) rfl
        · intro rows' hr' hv' env' H' hgc
          refine k_c (c_pre hgc ?_)
          repeat' first
 | (apply s_mov; exact aW)
 | (apply c_nil)
 | (apply s_add; exact rfl; omega)
 | (apply c_reg)
          refine hK1 rows' _ _ _ ⟨by omega, hnx rows' hr' hv'⟩ (by omega) ?_
          exact gcHB (pre := [.int .i64 p, .int .i64 (n : Int)]) (gs := [.int .i64 ((out * A).tmod p), .int .i64 (n : Int), .int .i64 ((c + 1 : Nat) : Int)]) (M := n) hr' (by omega) rfl (by simp) rfl
      · have hG2 := gau_sw hp hcn hd (by omega : c < c + k) hG
        obtain ⟨H1, H2, is, sw⟩ := sw_of hr hcn hd (by omega : c ≠ c + k)
        have l5 := hc_ld (c := c) hr hd
        have b0 := hG2.b c c hcn hcn
        have e0 : getLL (swL c (c + k) rows) (c : Int) = getLL rows ((c + k : Nat) : Int) := by rw [swL_get hr hcn hd, if_neg (by omega), if_pos rfl]
        have l6 := sw.ra.ld sw.at_
        have l7 := sw.ra.get (k := c) sw.at_ (by rw [hG2.r.get hcn]; exact hcn)
        rw [hG2.r.get hcn] at l6
        have sc1 := sw.c1
        have sc2 := sw.c2
        have st2 := sw.st2
        have hk0' : getI (getLL (swL c (c + k) rows) (c : Int)) (c : Int) ≠ 0 := by rw [e0]; exact hk0
        obtain ⟨lead, hl1, hl2, e87⟩ := inv_in hp hnd b0 hk0' (m := m) (by omega)
        have hnx := fun rows2 hr2 h2 => gau_next (rows2 := rows2) hp hcn hl1 hG2 hr2 h2 hl2
        have ho2 := hG2.o
        have hprod := mul_in (a := (p - out).tmod p) (c := getI (getLL (swL c (c + k) rows) (c : Int)) (c : Int)) hp (by omega) b0
        have hmul : -9223372036854775808 ≤ (p - out).tmod p * getI (getLL (swL c (c + k) rows) (c : Int)) (c : Int) ∧ (p - out).tmod p * getI (getLL (swL c (c + k) rows) (c : Int)) (c : Int) < 9223372036854775808 := by omega
        have hLL := fun K0 X env H => hL K0 X env H ((p - out).tmod p) lead _ hG2 hl1 (((p - out).tmod p * getI (getLL (swL c (c + k) rows) (c : Int)) (c : Int)).tmod p)
        clear hL hl2 hG hG2 e0 hk0 hk0'
        generalize evF tab it m = call at *
        generalize getI (getLL (swL c (c + k) rows) (c : Int)) (c : Int) = A at *
        repeat' first
 | (apply s_mov; exact aW)
 | (apply c_nil)
 | (apply s_lss; exact rfl; all_goals (intro _; try (exfalso; omega)))
 | (apply s_gtr; exact rfl; all_goals (intro _; try (exfalso; omega)))
 | (apply s_add; exact rfl; omega)
 | (apply s_sub; exact rfl; omega)
 | (apply s_en; exact aO; exact al _)
 | (apply s_st; exact aO; exact ini _)
 | (apply s_pn; exact aO; exact l1)
 | (apply s_pn; exact aO; exact sc1)
 | (apply s_pn; exact aO; exact sc2)
 | (apply s_pn; exact aO; exact p_slcO hcn')
 | (apply s_cn; exact aO; exact e85)
 | (apply s_pn; exact aO; exact p_ixO hcn)
 | (apply s_pn; exact aO; exact p_ixO hd)
 | (apply s_pn; exact aO; exact l3)
 | (apply s_pn; exact aO; exact l5)
 | (apply s_pn; exact aO; exact l6)
 | (apply s_pn; exact aO; exact l7)
 | (refine s_stK (vs := [.ptr 0 c, .sl (1 + (c + k)) 1 0 n]) rfl (sw.st1 _) sw.kept ?_)
 | (apply s_st; exact aO; exact st2 _)
 | (apply s_mul; exact rfl; exact hmul)
 | (apply s_rem; exact rfl; omega)
 | (apply s_cn; exact aO; exact e87 _)
 | (apply s_pd; exact aW)
 | (apply c_seq)
 | (apply c_reg)
 | (apply c_block)
 | (apply c_skip)
 | (apply c_condT; exact rfl)
 | (apply c_condF; exact rfl)
 | (with_reducible apply k_c)
        all_goals try (exfalso; omega)
        refine c_loop ?_
        refine hLL _ _ _ _ ?_ ?_
        · exact gcSw (pre := [.int .i64 p, .int .i64 (n : Int)]) (gs1 := [.int .i64 (((p - out).tmod p * A).tmod p)]) (gs2 := [.int .i64 lead, .int .i64 ((c + 1 : Nat) : Int), .int .i64 (n : Int), .int .i64 (c : Int)]) (M := n) hr hcn hd sw (by omega) rfl (by simp) rfl (by simp) rfl
        · intro rows' hr' hv' env' H' hgc
          refine k_c (c_pre hgc ?_)
          repeat' first
 | (apply s_mov; exact aW)
 | (apply c_nil)
 | (apply s_add; exact rfl; omega)
 | (apply c_reg)
          refine hK1 rows' _ _ _ ⟨by omega, hnx rows' hr' hv'⟩ (by omega) ?_
          exact gcHB (pre := [.int .i64 p, .int .i64 (n : Int)]) (gs := [.int .i64 (((p - out).tmod p * A).tmod p), .int .i64 (n : Int), .int .i64 ((c + 1 : Nat) : Int)]) (M := n) hr' (by omega) rfl (by simp) rfl
  · obtain rfl : c = n := by omega
    clear hKl
    repeat' first
 | (apply c_nil)
 | (apply s_lss; exact rfl; all_goals (intro _; try (exfalso; omega)))
 | (apply c_seq)
 | (apply c_reg)
 | (apply c_exitH)
 | (apply c_condF; exact rfl)
 | (with_reducible apply k_c)
    refine hK rows out hG _ _ ?_
    exact gc_to rfl rfl
end Go.AM.Ch
