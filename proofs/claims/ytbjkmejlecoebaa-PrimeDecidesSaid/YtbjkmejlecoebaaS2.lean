/- A part of the proof: S2. -/
import Derived.Test.YtbjkmejlecoebaaS1
import Derived.Test.YtbjkmejlecoebaaSE1
set_option linter.unusedSectionVars false
set_option linter.unusedVariables false
set_option linter.unusedSimpArgs false
namespace Go.AM.Pr
open Go.AM.Num
theorem rough_two (n : Nat) : Rough 2 n := fun d h _ => h
theorem rough_succ {d n : Nat} (h : Rough d n) (hd : ¬ d ∣ n) : Rough (d + 1) n := fun k h1 h2 => by
  have := h k h1 h2
  rcases (by omega : k = d ∨ d + 1 ≤ k) with rfl | h3
  · exact absurd h2 hd
  · exact h3
theorem sq_mono {a b : Nat} (h : a ≤ b) : a * a ≤ b * b := Nat.mul_le_mul h h
/-- the least divisor -/
def IsLd (d n : Nat) : Prop := (1 < n → IsPr d ∧ d ∣ n ∧ Rough d n) ∧ 1 ≤ d ∧ d ≤ n
theorem rough_dvd_pr {d n : Nat} (h : Rough d n) (h2 : 2 ≤ d) (hd : d ∣ n) : IsPr d := ⟨h2, fun k hk => by
  rcases (by omega : k = 0 ∨ k = 1 ∨ 1 < k) with rfl | h1 | h1
  · obtain ⟨c, hc⟩ := hk; omega
  · exact .inl h1
  · have a := h k h1 (Nat.dvd_trans hk hd)
    have b := Nat.le_of_dvd (by omega) hk
    exact .inr (by omega)⟩
theorem ld_ex {n : Nat} (h1 : 1 ≤ n) : ∃ d : Nat, IsLd d n := by
  rcases (by omega : n = 1 ∨ 1 < n) with rfl | h
  · exact ⟨1, fun h => by omega, by omega, by omega⟩
  · have key : ∀ k, 2 ≤ k → Rough k n ∨ ∃ d, 2 ≤ d ∧ d ∣ n ∧ Rough d n := by
      intro k hk
      induction k with
      | zero => omega
      | succ k ih =>
        rcases (by omega : k + 1 = 2 ∨ 2 ≤ k) with e | e
        · rw [e]; exact .inl (rough_two n)
        · rcases ih e with h | h
          · by_cases hd : k ∣ n
            · exact .inr ⟨k, e, hd, h⟩
            · exact .inl (rough_succ h hd)
          · exact .inr h
    obtain ⟨d, h2, h3, h4⟩ : ∃ d, 2 ≤ d ∧ d ∣ n ∧ Rough d n := by
      rcases key (n + 1) (by omega) with h' | h'
      · have := h' n h (Nat.dvd_refl n); omega
      · exact h'
    exact ⟨d, fun _ => ⟨rough_dvd_pr h4 h2 h3, h3, h4⟩, by omega, Nat.le_of_dvd (by omega) h3⟩
theorem ld_uniq {n a b : Nat} (ha : IsLd a n) (hb : IsLd b n) : a = b := by
  by_cases h : 1 < n
  · obtain ⟨⟨a1, _⟩, a2, a3⟩ := ha.1 h
    obtain ⟨⟨b1, _⟩, b2, b3⟩ := hb.1 h
    have := a3 b (by omega) b2
    have := b3 a (by omega) a2
    omega
  · have := ha.2; have := hb.2; omega
theorem ld_self {d n : Nat} (h1 : 1 ≤ n) (h : Rough d n) (hd : n < d * d) : IsLd n n := ⟨fun hn => ⟨rough_pr h hn hd, Nat.dvd_refl n, fun k h1 h2 => by
  rcases (rough_pr h hn hd).2 k h2 with e | e <;> omega⟩, h1, Nat.le_refl n⟩
theorem f43 {n : Nat} (h1 : 1 ≤ n) (h2 : n ≤ 2147483647) (m : Nat) (hm : 46345 ≤ m) : ∃ d : Nat, IsLd d n ∧ evF tab it m 43 [.int .i64 (n : Int)] [] = some (.int .i64 (d : Int), []) := by
  obtain ⟨m, rfl⟩ : ∃ j, m = j + 1 := ⟨m - 1, by omega⟩
  obtain ⟨d0, hd0⟩ := ld_ex h1
  refine ⟨d0, hd0, ?_⟩
  refine f_enter rfl rfl ?_
  repeat' first
 | (apply s_mov; (focus ((conv => lhs; whnf); done)))
 | (apply c_nil)
 | (apply c_seq)
 | (apply c_reg)
 | (apply c_block)
 | (with_reducible apply k_c)
  refine c_loop ?_
  refine loop_gc (σ := Nat) (fun d => [.int .i64 (n : Int), .int .i64 (d : Int)]) (fun _ => []) (fun d => 2 ≤ d ∧ d ≤ 46342 ∧ Rough d n) (fun d => 46342 - d) ?_ _ 2 _ _ ⟨by omega, by omega, rough_two n⟩ (by omega) (gc_to rfl (by simp [idFreeL, AV.idFree, *]; done))
  intro d ⟨hd, hb, hr⟩ K hK
  have hs := sq_mono hb
  repeat' first
 | (apply s_mov; (focus ((conv => lhs; whnf); done)))
 | (apply c_nil)
 | ((first | apply s_lss | apply s_leq | apply s_gtr | apply s_geq | apply s_eql | apply s_neq); exact rfl; all_goals (intro _; try (exfalso; omega)))
 | ((first | apply s_add | apply s_sub); exact rfl; omega)
 | (apply s_mulN; exact rfl; omega)
 | (apply s_remN; exact rfl; omega)
 | (apply c_seq)
 | (apply c_reg)
 | (apply c_block)
 | (apply c_exitH)
 | (apply c_skip)
 | (apply c_ret)
 | (apply c_condT; exact rfl)
 | (apply c_condF; exact rfl)
 | (apply c_preF; (focus (repeat (first | apply looks_nil | (apply looks_cons; (focus ((conv => lhs; whnf); done)))))); (focus (simp [idFreeL, AV.idFree, *]; done)))
 | (with_reducible apply k_c)
  · refine fin_t (by (conv => lhs; whnf)) (by rfl) ?_
    have hdn : d ∣ n := Nat.dvd_of_mod_eq_zero (by omega)
    rw [ld_uniq hd0 ⟨fun _ => ⟨rough_dvd_pr hr hd hdn, hdn, hr⟩, by omega, Nat.le_of_dvd (by omega) hdn⟩]
  · have hlt : d + 1 ≤ 46342 := by
      rcases (by omega : d = 46342 ∨ d + 1 ≤ 46342) with rfl | h
      · omega
      · exact h
    refine hK (d + 1) _ _ ⟨by omega, hlt, rough_succ hr fun h => ?_⟩ (by omega) (gc_to rfl (by simp [idFreeL, AV.idFree, *]; done))
    have := Nat.mod_eq_zero_of_dvd h
    omega
  · refine fin_t (by (conv => lhs; whnf)) (by rfl) ?_
    rw [ld_uniq hd0 (ld_self h1 hr (by omega))]
theorem c43 {n : Nat} (h1 : 1 ≤ n) (h2 : n ≤ 2147483647) {m : Nat} (hm : 46345 ≤ m) (H : Heap) : ∃ d : Nat, IsLd d n ∧ callPure (evF tab it m) true 43 [.int .i64 (n : Int)] H = some (.int .i64 (d : Int), H) := by
  obtain ⟨d, hd, h⟩ := f43 h1 h2 m hm
  exact ⟨d, hd, callPure_free rfl (by simp) h rfl⟩
/-- the greatest common divisor -/
theorem gcd_step {a b k : Nat} (hb : 0 < b) (h : b ≤ a) (hk : a * b < 2 ^ k) : 1 ≤ k ∧ b * (a % b) < 2 ^ (k - 1) ∧ a % b < b := by
  have h1 : a % b < b := Nat.mod_lt _ hb
  have h2 : a % b + b ≤ a := by
    have := Nat.mod_add_div a b
    have : 1 ≤ a / b := (Nat.one_le_div_iff hb).2 h
    have := Nat.mul_le_mul_left b this
    omega
  have h3 : b * (2 * (a % b)) ≤ b * a := Nat.mul_le_mul_left b (by omega)
  have h4 : 1 ≤ a * b := Nat.mul_le_mul (show 1 ≤ a by omega) hb
  cases k with
  | zero => simp at hk; omega
  | succ k =>
    refine ⟨by omega, ?_, h1⟩
    rw [Nat.pow_succ] at hk
    have e1 : b * (2 * (a % b)) = 2 * (b * (a % b)) := by rw [Nat.mul_left_comm]
    have e2 : b * a = a * b := Nat.mul_comm b a
    simp only [Nat.add_sub_cancel]
    omega
theorem f53 {A B : Nat} (hA : A < 9223372036854775808) (hB : B < 9223372036854775808) (m : Nat) (hm : 200 ≤ m) : evF tab it m 53 [.int .i64 (A : Int), .int .i64 (B : Int)] [] = some (.int .i64 ((Nat.gcd A B : Nat) : Int), []) := by
  obtain ⟨m, rfl⟩ : ∃ j, m = j + 1 := ⟨m - 1, by omega⟩
  generalize hg : Nat.gcd A B = g
  have hAB : A * B < 2 ^ 126 := Nat.lt_of_le_of_lt (Nat.mul_le_mul (show A ≤ 9223372036854775807 by omega) (show B ≤ 9223372036854775807 by omega)) (by decide)
  refine f_enter rfl rfl ?_
  repeat' first
 | (apply s_mov; (focus ((conv => lhs; whnf); done)))
 | (apply c_nil)
 | (apply c_seq)
 | (apply c_reg)
 | (apply c_block)
 | (with_reducible apply k_c)
  refine c_loop ?_
  refine loop_gc (σ := Nat × Nat × Nat) (fun s => [.int .i64 (s.1 : Int), .int .i64 (s.2.1 : Int)]) (fun _ => []) (fun s => Nat.gcd s.1 s.2.1 = g ∧ s.1 * s.2.1 < 2 ^ s.2.2 ∧ s.2.2 ≤ 126) (fun s => s.2.2 + (if s.1 < s.2.1 then 1 else 0)) ?_ _ (A, B, 126) _ _ ⟨hg, hAB, Nat.le_refl _⟩ (by show 126 + _ < _; split <;> omega) (gc_to rfl (by simp [idFreeL, AV.idFree, *]; done))
  intro ⟨a, b, k⟩ ⟨h1, h2, h3⟩ K hK
  dsimp only at h1 h2 h3 hK ⊢
  repeat' first
 | (apply s_mov; (focus ((conv => lhs; whnf); done)))
 | (apply c_nil)
 | ((first | apply s_lss | apply s_leq | apply s_gtr | apply s_geq | apply s_eql | apply s_neq); exact rfl; all_goals (intro _; try (exfalso; omega)))
 | (apply s_remN; exact rfl; omega)
 | (apply c_seq)
 | (apply c_reg)
 | (apply c_block)
 | (apply c_exitH)
 | (apply c_skip)
 | (apply c_ret)
 | (apply c_condT; exact rfl)
 | (apply c_condF; exact rfl)
 | (apply c_preF; (focus (repeat (first | apply looks_nil | (apply looks_cons; (focus ((conv => lhs; whnf); done)))))); (focus (simp [idFreeL, AV.idFree, *]; done)))
 | (with_reducible apply k_c)
  · refine hK (b, a % b, if a < b then k else k - 1) _ _ ?_ ?_ (gc_to rfl (by simp [idFreeL, AV.idFree, *]; done))
    · have hgs : Nat.gcd b (a % b) = g := by rw [Nat.gcd_comm, ← Nat.gcd_rec, Nat.gcd_comm, h1]
      by_cases h : a < b
      · simp only [if_pos h]
        exact ⟨hgs, by rw [Nat.mod_eq_of_lt h, Nat.mul_comm]; exact h2, h3⟩
      · simp only [if_neg h]
        obtain ⟨g1, g2, g3⟩ := gcd_step (by omega) (by omega) h2
        exact ⟨hgs, g2, by omega⟩
    · show _ + _ < _ + _
      by_cases h : a < b
      · simp only [if_pos h]
        rw [Nat.mod_eq_of_lt h, if_neg (by omega)]
        omega
      · simp only [if_neg h]
        obtain ⟨g1, g2, g3⟩ := gcd_step (by omega) (by omega) h2
        rw [if_neg (by omega)]
        omega
  · refine fin_t (by (conv => lhs; whnf)) (by rfl) ?_
    have : b = 0 := by omega
    subst this
    rw [Nat.gcd_zero_right] at h1
    rw [h1]
theorem c53 {A B : Nat} (hA : A < 9223372036854775808) (hB : B < 9223372036854775808) {m : Nat} (hm : 200 ≤ m) (H : Heap) : callPure (evF tab it m) true 53 [.int .i64 (A : Int), .int .i64 (B : Int)] H = some (.int .i64 ((Nat.gcd A B : Nat) : Int), H) :=
  callPure_free rfl (by simp) (f53 hA hB m hm) rfl
theorem pow_step (a e n out : Nat) : (if e % 2 = 1 then out * a % n else out) * (a * a % n) ^ (e / 2) % n = out * a ^ e % n := by
  have h1 : (a * a % n) ^ (e / 2) % n = (a * a) ^ (e / 2) % n := by rw [Nat.pow_mod, Nat.mod_mod, ← Nat.pow_mod]
  have h2 : (a * a) ^ (e / 2) * a ^ (e % 2) = a ^ e := by
    rw [← Nat.pow_two, ← Nat.pow_mul, ← Nat.pow_add]
    congr 1
    omega
  split
  · rename_i h
    rw [h, Nat.pow_one] at h2
    rw [Nat.mul_mod, h1, ← Nat.mul_mod, Nat.mul_mod, Nat.mod_mod, ← Nat.mul_mod, ← h2]
    congr 1
    rw [Nat.mul_assoc, Nat.mul_comm a]
  · rename_i h
    have : e % 2 = 0 := by omega
    rw [this, Nat.pow_zero, Nat.mul_one] at h2
    rw [Nat.mul_mod, h1, ← Nat.mul_mod, h2]
theorem mod_prod_lt {a b n : Nat} (ha : a < n) (hb : b < n) (hn : n ≤ 2147483647) : a * b < 4611686018427387904 :=
  Nat.lt_of_le_of_lt (Nat.mul_le_mul (show a ≤ 2147483647 by omega) (show b ≤ 2147483647 by omega)) (by decide)
theorem f47 {A E n : Nat} (hn : 0 < n) (hn2 : n ≤ 2147483647) (hA : A < n) (hE : E < 9223372036854775808) (m : Nat) (hm : 100 ≤ m) : evF tab it m 47 [.int .i64 (A : Int), .int .i64 (E : Int), .int .i64 (n : Int)] [] = some (.int .i64 ((A ^ E % n : Nat) : Int), []) := by
  obtain ⟨m, rfl⟩ : ∃ j, m = j + 1 := ⟨m - 1, by omega⟩
  generalize hg : A ^ E % n = g
  refine f_enter rfl rfl ?_
  repeat' first
 | (apply s_mov; (focus ((conv => lhs; whnf); done)))
 | (apply c_nil)
 | (apply s_remN (a := 1); exact rfl; omega)
 | (apply c_seq)
 | (apply c_reg)
 | (apply c_block)
 | (with_reducible apply k_c)
  refine c_loop ?_
  refine loop_gc (σ := Nat × Nat × Nat × Nat) (fun s => [.int .i64 (s.1 : Int), .int .i64 (s.2.1 : Int), .int .i64 (n : Int), .int .i64 (s.2.2.1 : Int)]) (fun _ => []) (fun s => s.1 < n ∧ s.2.2.1 < n ∧ s.2.2.1 * s.1 ^ s.2.1 % n = g ∧ s.2.1 < 2 ^ s.2.2.2 ∧ s.2.1 < 9223372036854775808) (fun s => s.2.2.2) ?_ _ (A, E, 1 % n, 63) _ _ ⟨hA, Nat.mod_lt _ hn, ?_, hE, hE⟩ (by show 63 < _; omega) (gc_to rfl (by simp [idFreeL, AV.idFree, *]; done))
  · intro ⟨a, e, out, k⟩ ⟨h1, h2, h3, h4, he⟩ K hK
    dsimp only at h1 h2 h3 h4 he hK ⊢
    have b1 := mod_prod_lt h1 h1 hn2
    have b2 := mod_prod_lt h2 h1 hn2
    have hk : 0 < e → ∃ j, k = j + 1 ∧ e / 2 < 2 ^ j := fun he => by
      cases k with
      | zero => simp at h4; omega
      | succ j => exact ⟨j, rfl, by rw [Nat.pow_succ] at h4; omega⟩
    have hs := pow_step a e n out
    repeat' first
 | (apply s_mov; (focus ((conv => lhs; whnf); done)))
 | (apply c_nil)
 | ((first | apply s_lss | apply s_leq | apply s_gtr | apply s_geq | apply s_eql | apply s_neq); exact rfl; all_goals (intro _; try (exfalso; omega)))
 | (apply s_cn; (focus (repeat (first | apply opds_nil | (apply opds_cons; (first | (focus ((conv => lhs; whnf); done)) | exact rfl))))); exact c46 hn (by omega) (by omega) _)
 | (apply s_and1; exact rfl; omega)
 | (apply s_shr1; exact rfl)
 | (apply c_seq)
 | (apply c_reg)
 | (apply c_block)
 | (apply c_exitH)
 | (apply c_skip)
 | (apply c_ret)
 | (apply c_condT; exact rfl)
 | (apply c_condF; exact rfl)
 | (apply c_preF; (focus (repeat (first | apply looks_nil | (apply looks_cons; (focus ((conv => lhs; whnf); done)))))); (focus (simp [idFreeL, AV.idFree, *]; done)))
 | (with_reducible apply k_c)
    · obtain ⟨j, rfl, hj⟩ := hk (by omega)
      rw [if_pos (by omega)] at hs
      exact hK (a * a % n, e / 2, out * a % n, j) _ _ ⟨Nat.mod_lt _ hn, Nat.mod_lt _ hn, hs.trans h3, hj, by show e / 2 < _; omega⟩ (by show j < j + 1; omega) (gc_to rfl (by simp [idFreeL, AV.idFree, *]; done))
    · obtain ⟨j, rfl, hj⟩ := hk (by omega)
      rw [if_neg (by omega)] at hs
      exact hK (a * a % n, e / 2, out, j) _ _ ⟨Nat.mod_lt _ hn, h2, hs.trans h3, hj, by show e / 2 < _; omega⟩ (by show j < j + 1; omega) (gc_to rfl (by simp [idFreeL, AV.idFree, *]; done))
    · refine fin_t (by (conv => lhs; whnf)) (by rfl) ?_
      have : e = 0 := by omega
      subst this
      rw [Nat.pow_zero, Nat.mul_one, Nat.mod_eq_of_lt h2] at h3
      rw [h3]
  · show 1 % n * A ^ E % n = g
    rw [Nat.mul_mod, Nat.mod_mod, ← Nat.mul_mod, Nat.one_mul, hg]
end Go.AM.Pr
