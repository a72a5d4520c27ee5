/- A part of the proof: S3. -/
import Derived.Test.YtbjkmejlecoebaaS2
set_option linter.unusedSectionVars false
set_option linter.unusedVariables false
set_option linter.unusedSimpArgs false
namespace Go.AM.Pr
open Go.AM.Num
theorem c47 {A E n : Nat} (hn : 0 < n) (hn2 : n ≤ 2147483647) (hA : A < n) (hE : E < 9223372036854775808) {m : Nat} (hm : 100 ≤ m) (H : Heap) : callPure (evF tab it m) true 47 [.int .i64 (A : Int), .int .i64 (E : Int), .int .i64 (n : Int)] H = some (.int .i64 ((A ^ E % n : Nat) : Int), H) :=
  callPure_free rfl (by simp) (f47 hn hn2 hA hE m hm) rfl
/-- the reference's power -/
theorem f22 {A E n : Nat} (hn : 0 < n) (hn2 : n ≤ 2147483647) (hE : E < 9223372036854775808) (m : Nat) (hm : 100 ≤ m) : evF tab it m 22 [.int .i64 (A : Int), .int .i64 (E : Int), .int .i64 (n : Int)] [] = some (.int .i64 ((A ^ E % n : Nat) : Int), []) := by
  obtain ⟨m, rfl⟩ : ∃ j, m = j + 1 := ⟨m - 1, by omega⟩
  generalize hg : A ^ E % n = g
  refine f_enter rfl rfl ?_
  repeat' first
 | (apply s_mov; (focus ((conv => lhs; whnf); done)))
 | (apply c_nil)
 | (apply s_remN (a := 1); exact rfl; omega)
 | (apply s_remN; exact rfl; omega)
 | (apply c_seq)
 | (apply c_reg)
 | (apply c_block)
 | (with_reducible apply k_c)
  refine c_loop ?_
  refine loop_gc (σ := Nat × Nat × Nat × Nat) (fun s => [.int .i64 (s.1 : Int), .int .i64 (s.2.1 : Int), .int .i64 (n : Int), .int .i64 (s.2.2.1 : Int)]) (fun _ => []) (fun s => s.1 < n ∧ s.2.2.1 < n ∧ s.2.2.1 * s.1 ^ s.2.1 % n = g ∧ s.2.1 < 2 ^ s.2.2.2 ∧ s.2.1 < 9223372036854775808) (fun s => s.2.2.2) ?_ _ (A % n, E, 1 % n, 63) _ _ ⟨Nat.mod_lt _ hn, Nat.mod_lt _ hn, ?_, hE, hE⟩ (by show 63 < _; omega) (gc_to rfl (by simp [idFreeL, AV.idFree, *]; done))
  · intro ⟨a, e, out, k⟩ ⟨h1, h2, h3, h4, he⟩ K hK
    dsimp only at h1 h2 h3 h4 he hK ⊢
    have b1 := mod_prod_lt h1 h1 hn2
    have b2 := mod_prod_lt h2 h1 hn2
    have hk : 0 < e → ∃ j, k = j + 1 ∧ e / 2 < 2 ^ j := fun he => by
      cases k with
      | zero => simp at h4; omega
      | succ j => exact ⟨j, rfl, by rw [Nat.pow_succ] at h4; omega⟩
    have hs := pow_step a e n out
    repeat' first
 | (apply s_mov; (focus ((conv => lhs; whnf); done)))
 | (apply c_nil)
 | ((first | apply s_lss | apply s_leq | apply s_gtr | apply s_geq | apply s_eql | apply s_neq); exact rfl; all_goals (intro _; try (exfalso; omega)))
 | (apply s_quoN (b := 2); exact rfl; omega; omega)
 | (apply s_remN (b := 2); exact rfl; omega)
 | (apply s_mulN; exact rfl; omega)
 | (apply s_remN; exact rfl; omega)
 | (apply c_seq)
 | (apply c_reg)
 | (apply c_block)
 | (apply c_exitH)
 | (apply c_skip)
 | (apply c_ret)
 | (apply c_condT; exact rfl)
 | (apply c_condF; exact rfl)
 | (apply c_preF; (focus (repeat (first | apply looks_nil | (apply looks_cons; (focus ((conv => lhs; whnf); done)))))); (focus (simp [idFreeL, AV.idFree, *]; done)))
 | (with_reducible apply k_c)
    · obtain ⟨j, rfl, hj⟩ := hk (by omega)
      rw [if_pos (by omega)] at hs
      exact hK (a * a % n, e / 2, out * a % n, j) _ _ ⟨Nat.mod_lt _ hn, Nat.mod_lt _ hn, hs.trans h3, hj, by show e / 2 < _; omega⟩ (by show j < j + 1; omega) (gc_to rfl (by simp [idFreeL, AV.idFree, *]; done))
    · obtain ⟨j, rfl, hj⟩ := hk (by omega)
      rw [if_neg (by omega)] at hs
      exact hK (a * a % n, e / 2, out, j) _ _ ⟨Nat.mod_lt _ hn, h2, hs.trans h3, hj, by show e / 2 < _; omega⟩ (by show j < j + 1; omega) (gc_to rfl (by simp [idFreeL, AV.idFree, *]; done))
    · refine fin_t (by (conv => lhs; whnf)) (by rfl) ?_
      have : e = 0 := by omega
      subst this
      rw [Nat.pow_zero, Nat.mul_one, Nat.mod_eq_of_lt h2] at h3
      rw [h3]
  · show 1 % n * (A % n) ^ E % n = g
    rw [Nat.mul_mod, Nat.mod_mod, ← Nat.pow_mod, ← Nat.mul_mod, Nat.one_mul, hg]
theorem c22 {A E n : Nat} (hn : 0 < n) (hn2 : n ≤ 2147483647) (hE : E < 9223372036854775808) {m : Nat} (hm : 100 ≤ m) (H : Heap) : callPure (evF tab it m) true 22 [.int .i64 (A : Int), .int .i64 (E : Int), .int .i64 (n : Int)] H = some (.int .i64 ((A ^ E % n : Nat) : Int), H) :=
  callPure_free rfl (by simp) (f22 hn hn2 hE m hm) rfl

/-! ### Euclid's way -/
structure EI (A B g : Nat) (a b : Nat) (x y : Int) : Prop where
  ex : ∃ X Y : Nat, ∃ s : Int, (s = 1 ∨ s = -1) ∧ x = s * X ∧ y = -(s * Y) ∧ X * b + Y * a = B ∧ X ≤ B ∧ Y ≤ B
  dx : (B : Int) ∣ x * A - a
  dy : (B : Int) ∣ y * A - b
  gg : Nat.gcd a b = g
theorem EI.step {A B g a b : Nat} {x y : Int} (h : EI A B g a b x y) (hb : 0 < b) : EI A B g b (a - a / b * b) y (x - ((a / b : Nat) : Int) * y) ∧ a / b * b ≤ a ∧ (-(B : Int) ≤ ((a / b : Nat) : Int) * y ∧ ((a / b : Nat) : Int) * y ≤ B) ∧ (-(B : Int) ≤ x - ((a / b : Nat) : Int) * y ∧ x - ((a / b : Nat) : Int) * y ≤ B) := by
  obtain ⟨⟨X, Y, s, hs, rfl, rfl, e, hX, hY⟩, dx, dy, gg⟩ := h
  generalize hq : a / b = q
  have hqb : q * b ≤ a := hq ▸ Nat.div_mul_le_self a b
  have hmod : a - q * b = a % b := by
    have := Nat.mod_add_div a b
    rw [hq, Nat.mul_comm] at this
    omega
  have e2 : Y * (a - q * b) + (X + q * Y) * b = B := by
    rw [Nat.mul_sub, Nat.add_mul]
    have : Y * (q * b) ≤ Y * a := Nat.mul_le_mul_left _ hqb
    have : q * Y * b = Y * (q * b) := by rw [Nat.mul_comm q Y, Nat.mul_assoc]
    omega
  have hY' : X + q * Y ≤ B := by
    have := Nat.le_mul_of_pos_right (X + q * Y) hb
    omega
  have e3 : s * (X : Int) - (q : Int) * -(s * (Y : Int)) = s * ((X + q * Y : Nat) : Int) := by
    push_cast
    rw [Int.mul_neg, Int.sub_neg, Int.mul_add, Int.mul_left_comm]
  have e4 : (q : Int) * -(s * (Y : Int)) = -(s * ((q * Y : Nat) : Int)) := by
    push_cast
    rw [Int.mul_neg, Int.mul_left_comm]
  refine ⟨⟨⟨Y, X + q * Y, -s, by omega, by rw [Int.neg_mul], by rw [e3, Int.neg_mul, Int.neg_neg], e2, hY, hY'⟩, dy, ?_, ?_⟩, hqb, ?_, ?_⟩
  · have e5 : (s * (X : Int) - (q : Int) * -(s * (Y : Int))) * (A : Int) - ((a - q * b : Nat) : Int) = (s * (X : Int) * A - a) - (q : Int) * (-(s * (Y : Int)) * A - b) := by
      rw [Int.natCast_sub hqb, Int.sub_mul, Int.mul_sub, Int.mul_assoc (q : Int)]
      push_cast
      omega
    rw [e5]
    exact Int.dvd_sub dx (Int.dvd_mul_of_dvd_right dy)
  · rw [hmod, Nat.gcd_comm, ← Nat.gcd_rec, Nat.gcd_comm, gg]
  · rw [e4]
    rcases hs with rfl | rfl <;> omega
  · rw [e3]
    rcases hs with rfl | rfl <;> omega
theorem EI.step_k {a b k : Nat} (hb : 0 < b) (hk : a * b < 2 ^ k) : b * (a - a / b * b) < 2 ^ (if a < b then k else k - 1) ∧ (if a < b then k else k - 1) + (if b < a - a / b * b then 1 else 0) < k + (if a < b then 1 else 0) := by
  have hmod : a - a / b * b = a % b := by
    have := Nat.mod_add_div a b
    rw [Nat.mul_comm] at this
    omega
  rw [hmod]
  by_cases h : a < b
  · simp only [if_pos h]
    rw [Nat.mod_eq_of_lt h, if_neg (by omega)]
    exact ⟨by rw [Nat.mul_comm]; exact hk, by omega⟩
  · simp only [if_neg h]
    obtain ⟨g1, g2, g3⟩ := gcd_step hb (by omega) hk
    rw [if_neg (by omega)]
    exact ⟨g2, by omega⟩
theorem prod126 {A B : Nat} (hA : A < 9223372036854775808) (hB : B < 9223372036854775808) : A * B < 2 ^ 126 :=
  Nat.lt_of_le_of_lt (Nat.mul_le_mul (show A ≤ 9223372036854775807 by omega) (show B ≤ 9223372036854775807 by omega)) (by decide)
theorem sub_mod {a b : Nat} : a - a / b * b = a % b := by
  have := Nat.mod_add_div a b
  rw [Nat.mul_comm] at this
  omega
def eucl (a b : Nat) (x y : Int) : Nat × Int := if h : b = 0 then (a, x) else eucl b (a - a / b * b) y (x - ((a / b : Nat) : Int) * y)
termination_by b
decreasing_by rw [sub_mod]; exact Nat.mod_lt _ (by omega)
theorem eucl_z {a : Nat} {x y : Int} : eucl a 0 x y = (a, x) := by rw [eucl]; rfl
theorem eucl_s {a b : Nat} {x y : Int} (h : 0 < b) : eucl a b x y = eucl b (a - a / b * b) y (x - ((a / b : Nat) : Int) * y) := by rw [eucl, dif_neg (by omega)]
theorem eucl_spec {A B g : Nat} : ∀ (n a b : Nat) (x y : Int), b ≤ n → EI A B g a b x y → (eucl a b x y).1 = g ∧ (B : Int) ∣ (eucl a b x y).2 * A - g ∧ -(B : Int) ≤ (eucl a b x y).2 ∧ (eucl a b x y).2 ≤ B := by
  intro n
  induction n with
  | zero =>
    intro a b x y hb h
    have : b = 0 := by omega
    subst this
    have hg := h.gg
    rw [Nat.gcd_zero_right] at hg
    subst hg
    rw [eucl_z]
    obtain ⟨X, Y, s, hs, rfl, _, _, hX, _⟩ := h.ex
    exact ⟨rfl, h.dx, by rcases hs with rfl | rfl <;> simp only <;> omega, by rcases hs with rfl | rfl <;> simp only <;> omega⟩
  | succ n ih =>
    intro a b x y hb h
    by_cases h0 : b = 0
    · exact (by
        subst h0
        have hg := h.gg
        rw [Nat.gcd_zero_right] at hg
        subst hg
        rw [eucl_z]
        obtain ⟨X, Y, s, hs, rfl, _, _, hX, _⟩ := h.ex
        exact ⟨rfl, h.dx, by rcases hs with rfl | rfl <;> simp only <;> omega, by rcases hs with rfl | rfl <;> simp only <;> omega⟩)
    · rw [eucl_s (by omega)]
      exact ih _ _ _ _ (by rw [sub_mod]; have := Nat.mod_lt a (show b > 0 by omega); omega) (h.step (by omega)).1
theorem EI.init {A B : Nat} (h1 : 1 ≤ B) : EI A B (Nat.gcd A B) A B 1 0 := ⟨⟨1, 0, 1, .inl rfl, by simp, by simp, by simp, h1, by omega⟩, by simp, by simp, rfl⟩
theorem EI.init' {A B : Nat} (h1 : 1 ≤ B) : EI A B (Nat.gcd A B) B A 0 1 := ⟨⟨0, 1, -1, .inr rfl, by simp, by simp, by simp, by omega, h1⟩, by simp, by simp, Nat.gcd_comm B A⟩
theorem f50 {A B : Nat} (hA : A < 9223372036854775808) (h1 : 1 ≤ B) (hB : B ≤ 2147483647) (m : Nat) (hm : 200 ≤ m) : evF tab it m 50 [.int .i64 (A : Int), .int .i64 (B : Int)] [] = some (.tup [.int .i64 ((eucl A B 1 0).1 : Int), .int .i64 (eucl A B 1 0).2], []) := by
  obtain ⟨m, rfl⟩ : ∃ j, m = j + 1 := ⟨m - 1, by omega⟩
  have hAB := prod126 hA (show B < 9223372036854775808 by omega)
  generalize hE : eucl A B 1 0 = E
  refine f_enter rfl rfl ?_
  repeat' first
 | (apply s_mov; (focus ((conv => lhs; whnf); done)))
 | (apply c_nil)
 | (apply c_seq)
 | (apply c_reg)
 | (apply c_block)
 | (with_reducible apply k_c)
  refine c_loop ?_
  refine loop_gc (σ := Nat × Nat × Int × Int × Nat) (fun s => [.int .i64 (s.1 : Int), .int .i64 (s.2.1 : Int), .int .i64 s.2.2.1, .int .i64 s.2.2.2.1]) (fun _ => []) (fun s => EI A B (Nat.gcd A B) s.1 s.2.1 s.2.2.1 s.2.2.2.1 ∧ eucl s.1 s.2.1 s.2.2.1 s.2.2.2.1 = E ∧ s.1 * s.2.1 < 2 ^ s.2.2.2.2 ∧ s.2.2.2.2 ≤ 126 ∧ s.1 < 9223372036854775808 ∧ s.2.1 < 9223372036854775808) (fun s => s.2.2.2.2 + (if s.1 < s.2.1 then 1 else 0)) ?_ _ (A, B, 1, 0, 126) _ _ ⟨EI.init h1, hE, hAB, Nat.le_refl _, hA, by show B < _; omega⟩ (by show 126 + _ < _; split <;> omega) (gc_to rfl (by simp [idFreeL, AV.idFree, *]; done))
  intro ⟨a, b, x, y, k⟩ ⟨hi, he, h2, h3, ha, hb⟩ K hK
  dsimp only at hi he h2 h3 ha hb hK ⊢
  have hst : 0 < b → _ := fun h => hi.step h
  have hsk : 0 < b → _ := fun h => EI.step_k h h2
  by_cases h0 : b = 0
  · subst h0
    repeat' first
 | (apply s_mov; (focus ((conv => lhs; whnf); done)))
 | (apply c_nil)
 | ((first | apply s_lss | apply s_leq | apply s_gtr | apply s_geq | apply s_eql | apply s_neq); exact rfl; all_goals (intro _; try (exfalso; omega)))
 | (apply c_seq)
 | (apply c_reg)
 | (apply c_exitH)
 | (apply c_ret)
 | (apply c_condF; exact rfl)
 | (apply c_preF; (focus (repeat (first | apply looks_nil | (apply looks_cons; (focus ((conv => lhs; whnf); done)))))); (focus (simp [idFreeL, AV.idFree, *]; done)))
 | (with_reducible apply k_c)
    rw [eucl_z] at he
    subst he
    exact fin_tt (by (conv => lhs; whnf)) (by (conv => lhs; whnf)) (by rfl) (by rfl) rfl
  · obtain ⟨g1, g2, g3, g4⟩ := hst (by omega)
    obtain ⟨g5, g6⟩ := hsk (by omega)
    rw [eucl_s (by omega)] at he
    repeat' first
 | (apply s_mov; (focus ((conv => lhs; whnf); done)))
 | (apply c_nil)
 | ((first | apply s_lss | apply s_leq | apply s_gtr | apply s_geq | apply s_eql | apply s_neq); exact rfl; all_goals (intro _; try (exfalso; omega)))
 | (apply s_subN; exact rfl; omega; omega)
 | (apply s_mul; exact rfl; omega)
 | ((first | apply s_add | apply s_sub); exact rfl; omega)
 | (apply s_quoN; exact rfl; omega; omega)
 | (apply c_seq)
 | (apply c_reg)
 | (apply c_block)
 | (apply c_skip)
 | (apply c_condT; exact rfl)
 | (with_reducible apply k_c)
    exact hK (b, a - a / b * b, y, x - ((a / b : Nat) : Int) * y, if a < b then k else k - 1) _ _ ⟨g1, he, g5, by show (if a < b then k else k - 1) ≤ 126; split <;> omega, hb, by show a - a / b * b < _; omega⟩ g6 (gc_to rfl (by simp [idFreeL, AV.idFree, *]; done))
theorem c50 {A B : Nat} (hA : A < 9223372036854775808) (h1 : 1 ≤ B) (hB : B ≤ 2147483647) {m : Nat} (hm : 200 ≤ m) (H : Heap) : callPure (evF tab it m) true 50 [.int .i64 (A : Int), .int .i64 (B : Int)] H = some (.tup [.int .i64 ((eucl A B 1 0).1 : Int), .int .i64 (eucl A B 1 0).2], H) :=
  callPure_free rfl (by simp) (f50 hA h1 hB m hm) rfl
theorem tmod_add {x m : Int} (hm : 0 < m) : (x.tmod m + m).tmod m = x % m := by
  have h1 : m ∣ x - x.tmod m := ⟨x.tdiv m, by have := Int.tmod_add_mul_tdiv x m; omega⟩
  have h2 : -m < x.tmod m ∧ x.tmod m < m := by
    have a := Int.tmod_lt_of_pos x hm
    have b := Int.lt_tmod_of_pos x hm
    omega
  rw [Int.tmod_eq_emod_of_nonneg (by omega), Int.add_emod_right]
  refine Int.emod_eq_emod_iff_emod_sub_eq_zero.2 (Int.emod_eq_zero_of_dvd ?_)
  have : x.tmod m - x = -(x - x.tmod m) := by omega
  rw [this]
  exact Int.dvd_neg.2 h1
/-- the inverse: z below m with z a = 1 modulo m -/
theorem inv_uniq {a m y z : Int} (hm : 0 < m) (hy : m ∣ y * a - 1) (hz : m ∣ z * a - 1) : y % m = z % m := by
  refine Int.emod_eq_emod_iff_emod_sub_eq_zero.2 (Int.emod_eq_zero_of_dvd ?_)
  have h : m ∣ (y * (z * a - 1) - z * (y * a - 1)) := Int.dvd_sub (Int.dvd_mul_of_dvd_right hz) (Int.dvd_mul_of_dvd_right hy)
  have e : y * (z * a - 1) - z * (y * a - 1) = -(y - z) := by
    rw [Int.mul_sub, Int.mul_sub, Int.mul_left_comm y z a]
    omega
  rw [e] at h
  exact Int.dvd_neg.1 h
/-- what Inverse returns -/
def invOf (a m : Nat) : Int := (eucl a m 1 0).2 % m
theorem eucl_g {A B : Nat} (h1 : 1 ≤ B) : (eucl A B 1 0).1 = Nat.gcd A B := (eucl_spec B A B 1 0 (Nat.le_refl _) (EI.init h1)).1
theorem eucl_d {A B : Nat} (h1 : 1 ≤ B) : (B : Int) ∣ (eucl A B 1 0).2 * A - (Nat.gcd A B : Nat) ∧ -(B : Int) ≤ (eucl A B 1 0).2 ∧ (eucl A B 1 0).2 ≤ B := (eucl_spec B A B 1 0 (Nat.le_refl _) (EI.init h1)).2
theorem f34 (a n : Int) (m : Nat) (hm : 203 ≤ m) : evF tab it m 34 [.int .i64 a, .int .i64 n] [] = some (.tup (if IsRest a n then (if Nat.gcd a.toNat n.toNat = 1 then [.int .i64 (invOf a.toNat n.toNat), .int .i64 0] else [.int .i64 0, .int .i64 6]) else [.int .i64 0, .int .i64 2]), []) := by
  obtain ⟨m, rfl⟩ : ∃ j, m = j + 1 := ⟨m - 1, by omega⟩
  by_cases hr : IsRest a n
  · obtain ⟨A, rfl⟩ : ∃ A : Nat, a = A := ⟨a.toNat, by have := hr.2.1; omega⟩
    obtain ⟨N, rfl⟩ : ∃ A : Nat, n = A := ⟨n.toNat, by have := hr.1.1; omega⟩
    rw [if_pos hr]
    simp only [Int.toNat_natCast]
    have hr' := hr
    unfold IsRest IsNum at hr'
    have e1 := eucl_g (A := A) (B := N) (by omega)
    have e2 := eucl_d (A := A) (B := N) (by omega)
    have e3 : invOf A N = _ := rfl
    unfold invOf at e3
    have e4 := tmod_add (x := (eucl A N 1 0).2) (m := N) (by omega)
    have e5 : -(N : Int) ≤ ((eucl A N 1 0).2).tmod N ∧ ((eucl A N 1 0).2).tmod N ≤ N := by
      have a := Int.tmod_lt_of_pos (eucl A N 1 0).2 (show (0 : Int) < N by omega)
      have b := Int.lt_tmod_of_pos (eucl A N 1 0).2 (show (0 : Int) < N by omega)
      omega
    refine f_enter rfl rfl ?_
    repeat' first
 | (apply s_mov; (focus ((conv => lhs; whnf); done)))
 | (apply c_nil)
 | (apply s_notT; exact rfl)
 | (apply s_notF; exact rfl)
 | ((first | apply s_lss | apply s_leq | apply s_gtr | apply s_geq | apply s_eql | apply s_neq); exact rfl; all_goals (intro _; try (exfalso; omega)))
 | (apply isE; refine s_cB (by (focus (repeat (first | apply opds_nil | (apply opds_cons; (first | (focus ((conv => lhs; whnf); done)) | exact rfl)))))) (c49 (by omega) _ _ _) (fun _ => ?_) (fun _ => ?_))
 | (apply s_cn; (focus (repeat (first | apply opds_nil | (apply opds_cons; (first | (focus ((conv => lhs; whnf); done)) | exact rfl))))); exact c50 (by omega) (by omega) (by omega) (by omega) _)
 | (apply s_rem; exact rfl; omega)
 | ((first | apply s_add | apply s_sub); exact rfl; omega)
 | (apply s_pd; (focus ((conv => lhs; whnf); done)))
 | (apply c_seq)
 | (apply c_reg)
 | (apply c_skip)
 | (apply c_ret)
 | (apply c_condT; exact rfl)
 | (apply c_condF; exact rfl)
 | (with_reducible apply k_c)
    · rw [if_pos (by omega)]
      refine fin_tt (by (conv => lhs; whnf)) (by (conv => lhs; whnf)) (by rfl) (by rfl) ?_
      rw [e4]
      rfl
    · rw [if_neg (by omega)]
      exact fin_tt (by (conv => lhs; whnf)) (by (conv => lhs; whnf)) (by rfl) (by rfl) rfl
    · exact absurd hr (by assumption)
  · rw [if_neg hr]
    refine f_enter rfl rfl ?_
    repeat' first
 | (apply s_mov; (focus ((conv => lhs; whnf); done)))
 | (apply c_nil)
 | (apply s_notT; exact rfl)
 | (apply s_notF; exact rfl)
 | (apply isE; refine s_cB (by (focus (repeat (first | apply opds_nil | (apply opds_cons; (first | (focus ((conv => lhs; whnf); done)) | exact rfl)))))) (c49 (by omega) _ _ _) (fun _ => ?_) (fun _ => ?_))
 | (apply c_seq)
 | (apply c_reg)
 | (apply c_skip)
 | (apply c_ret)
 | (apply c_condT; exact rfl)
 | (apply c_condF; exact rfl)
 | (with_reducible apply k_c)
    · exact absurd (by assumption) hr
    · exact fin_tt (by (conv => lhs; whnf)) (by (conv => lhs; whnf)) (by rfl) (by rfl) rfl
theorem c34 {m : Nat} (hm : 203 ≤ m) (a n : Int) (H : Heap) : callPure (evF tab it m) true 34 [.int .i64 a, .int .i64 n] H = some (.tup (if IsRest a n then (if Nat.gcd a.toNat n.toNat = 1 then [.int .i64 (invOf a.toNat n.toNat), .int .i64 0] else [.int .i64 0, .int .i64 6]) else [.int .i64 0, .int .i64 2]), H) :=
  callPure_free rfl (by simp) (f34 a n m hm) (by split <;> (try split) <;> rfl)
theorem invOf_spec {a n : Nat} (h1 : 1 ≤ n) (hg : Nat.gcd a n = 1) : 0 ≤ invOf a n ∧ invOf a n < n ∧ (n : Int) ∣ invOf a n * a - 1 := by
  obtain ⟨d, _⟩ := eucl_d (A := a) h1
  rw [hg] at d
  unfold invOf
  refine ⟨Int.emod_nonneg _ (by omega), Int.emod_lt_of_pos _ (by omega), ?_⟩
  have e : (n : Int) ∣ (eucl a n 1 0).2 - (eucl a n 1 0).2 % n := ⟨(eucl a n 1 0).2 / n, by have := Int.emod_add_mul_ediv (eucl a n 1 0).2 n; omega⟩
  have := Int.dvd_sub d (Int.dvd_trans e (Int.dvd_mul_right _ (a : Int)))
  rw [Int.sub_mul] at this
  have e2 : (eucl a n 1 0).2 * (a : Int) - ((1 : Nat) : Int) - ((eucl a n 1 0).2 * a - (eucl a n 1 0).2 % n * a) = (eucl a n 1 0).2 % n * a - 1 := by omega
  rwa [e2] at this
/-- the reference's inverse -/
theorem f36 {A B : Nat} (h1 : 1 ≤ B) (hB : B ≤ 2147483647) (hA : A < 9223372036854775808) (m : Nat) (hm : 203 ≤ m) : evF tab it m 36 [.int .i64 (A : Int), .int .i64 (B : Int)] [] = some (.tup (if Nat.gcd A B = 1 then [.int .i64 (invOf A B), .bool true] else [.int .i64 0, .bool false]), []) := by
  obtain ⟨m, rfl⟩ : ∃ j, m = j + 1 := ⟨m - 1, by omega⟩
  have hAB := prod126 (show B < 9223372036854775808 by omega) hA
  have hE : ∀ x : Int, (B : Int) ∣ x * A - (Nat.gcd A B : Nat) → Nat.gcd A B = 1 → (x.tmod B + B).tmod B = invOf A B := fun x hx hg => by
    rw [tmod_add (by omega)]
    rw [hg] at hx
    have d := (eucl_d (A := A) h1).1
    rw [hg] at d
    exact inv_uniq (by omega) hx d
  refine f_enter rfl rfl ?_
  repeat' first
 | (apply s_mov; (focus ((conv => lhs; whnf); done)))
 | (apply c_nil)
 | ((first | apply s_lss | apply s_leq | apply s_gtr | apply s_geq | apply s_eql | apply s_neq); exact rfl; all_goals (intro _; try (exfalso; omega)))
 | (apply s_cn; (focus (repeat (first | apply opds_nil | (apply opds_cons; (first | (focus ((conv => lhs; whnf); done)) | exact rfl))))); exact c53 (by omega) (by omega) (by omega) _)
 | (apply c_seq)
 | (apply c_reg)
 | (apply c_block)
 | (apply c_skip)
 | (apply c_ret)
 | (apply c_condT; exact rfl)
 | (apply c_condF; exact rfl)
 | (with_reducible apply k_c)
  · rw [if_pos (by omega)]
    refine c_loop ?_
    refine loop_gc (σ := Nat × Nat × Int × Int × Nat) (fun s => [.int .i64 (B : Int), .int .i64 (s.1 : Int), .int .i64 (s.2.1 : Int), .int .i64 s.2.2.1, .int .i64 s.2.2.2.1]) (fun _ => []) (fun s => EI A B (Nat.gcd A B) s.1 s.2.1 s.2.2.1 s.2.2.2.1 ∧ s.1 * s.2.1 < 2 ^ s.2.2.2.2 ∧ s.2.2.2.2 ≤ 126 ∧ s.1 < 9223372036854775808 ∧ s.2.1 < 9223372036854775808) (fun s => s.2.2.2.2 + (if s.1 < s.2.1 then 1 else 0)) ?_ _ (B, A, 0, 1, 126) _ _ ⟨EI.init' h1, hAB, Nat.le_refl _, by show B < _; omega, hA⟩ (by show 126 + _ < _; split <;> omega) (gc_to rfl (by simp [idFreeL, AV.idFree, *]; done))
    intro ⟨a, b, x, y, k⟩ ⟨hi, h2, h3, ha, hb⟩ K hK
    dsimp only at hi h2 h3 ha hb hK ⊢
    by_cases h0 : b = 0
    · subst h0
      have hg := hi.gg
      rw [Nat.gcd_zero_right] at hg
      obtain ⟨X, Y, s, hs, hx, _, _, hX, _⟩ := hi.ex
      have hx2 : -(B : Int) ≤ x ∧ x ≤ B := by rcases hs with rfl | rfl <;> omega
      have hx3 := hE x (by rw [← hg]; exact hi.dx) (by omega)
      have e5 : -(B : Int) ≤ x.tmod B ∧ x.tmod B ≤ B := by
        have a := Int.tmod_lt_of_pos x (show (0 : Int) < B by omega)
        have b := Int.lt_tmod_of_pos x (show (0 : Int) < B by omega)
        omega
      repeat' first
 | (apply s_mov; (focus ((conv => lhs; whnf); done)))
 | (apply c_nil)
 | ((first | apply s_lss | apply s_leq | apply s_gtr | apply s_geq | apply s_eql | apply s_neq); exact rfl; all_goals (intro _; try (exfalso; omega)))
 | (apply s_rem; exact rfl; omega)
 | ((first | apply s_add | apply s_sub); exact rfl; omega)
 | (apply c_seq)
 | (apply c_reg)
 | (apply c_exitH)
 | (apply c_ret)
 | (apply c_condF; exact rfl)
 | (apply c_preF; (focus (repeat (first | apply looks_nil | (apply looks_cons; (focus ((conv => lhs; whnf); done)))))); (focus (simp [idFreeL, AV.idFree, *]; done)))
 | (with_reducible apply k_c)
      refine fin_tt (by (conv => lhs; whnf)) (by (conv => lhs; whnf)) (by rfl) (by rfl) ?_
      rw [hx3]
    · obtain ⟨g1, g2, g3, g4⟩ := hi.step (by omega)
      obtain ⟨g5, g6⟩ := EI.step_k (by omega) h2
      repeat' first
 | (apply s_mov; (focus ((conv => lhs; whnf); done)))
 | (apply c_nil)
 | ((first | apply s_lss | apply s_leq | apply s_gtr | apply s_geq | apply s_eql | apply s_neq); exact rfl; all_goals (intro _; try (exfalso; omega)))
 | (apply s_subN; exact rfl; omega; omega)
 | (apply s_mul; exact rfl; omega)
 | ((first | apply s_add | apply s_sub); exact rfl; omega)
 | (apply s_quoN; exact rfl; omega; omega)
 | (apply c_seq)
 | (apply c_reg)
 | (apply c_block)
 | (apply c_skip)
 | (apply c_condT; exact rfl)
 | (with_reducible apply k_c)
      exact hK (b, a - a / b * b, y, x - ((a / b : Nat) : Int) * y, if a < b then k else k - 1) _ _ ⟨g1, g5, by show (if a < b then k else k - 1) ≤ 126; split <;> omega, hb, by show a - a / b * b < _; omega⟩ g6 (gc_to rfl (by simp [idFreeL, AV.idFree, *]; done))
  · rw [if_neg (by omega)]
    exact fin_tt (by (conv => lhs; whnf)) (by (conv => lhs; whnf)) (by rfl) (by rfl) rfl
theorem c36 {A B : Nat} (h1 : 1 ≤ B) (hB : B ≤ 2147483647) (hA : A < 9223372036854775808) {m : Nat} (hm : 203 ≤ m) (H : Heap) : callPure (evF tab it m) true 36 [.int .i64 (A : Int), .int .i64 (B : Int)] H = some (.tup (if Nat.gcd A B = 1 then [.int .i64 (invOf A B), .bool true] else [.int .i64 0, .bool false]), H) :=
  callPure_free rfl (by simp) (f36 h1 hB hA m hm) (by split <;> rfl)
end Go.AM.Pr
