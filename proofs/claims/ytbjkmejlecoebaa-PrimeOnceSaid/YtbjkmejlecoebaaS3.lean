/- A part of the proof: S1 SE1 S2 S3. -/
import Derived.Test.YtbjkmejlecoebaaPc
import Derived.Test.YtbjkmejlecoebaaM3
set_option linter.unusedSectionVars false
set_option linter.unusedVariables false
set_option linter.unusedSimpArgs false
namespace Go.AM.Pr
def IsNum (a : Int) : Prop := 1 ≤ a ∧ a ≤ 2147483647
instance (a : Int) : Decidable (IsNum a) := by unfold IsNum; infer_instance
def IsRest (a m : Int) : Prop := IsNum m ∧ 0 ≤ a ∧ a < m
instance (a m : Int) : Decidable (IsRest a m) := by unfold IsRest; infer_instance
theorem f41 (a : Int) (m : Nat) (hm : 1 ≤ m) : evF tab it m 41 [.int .i64 a] [] = some (.bool (decide (IsNum a)), []) := by
  obtain ⟨m, rfl⟩ : ∃ j, m = j + 1 := ⟨m - 1, by omega⟩
  refine f_enter rfl rfl ?_
  repeat' first
 | (apply s_mov; (focus ((conv => lhs; whnf); done)))
 | (apply s_gT; exact rfl)
 | (apply s_gF; exact rfl)
 | (apply c_nil)
 | (apply s_pickT; exact rfl; (focus ((conv => lhs; whnf); done)))
 | (apply s_pickF; exact rfl; (focus ((conv => lhs; whnf); done)))
 | ((first | apply s_lss | apply s_leq | apply s_gtr | apply s_geq | apply s_eql | apply s_neq); exact rfl; all_goals (intro _; try (exfalso; omega)))
 | (apply c_seq)
 | (apply c_reg)
 | (apply c_ret)
 | (with_reducible apply k_c)
  all_goals refine fin_t (by (conv => lhs; whnf)) (by rfl) ?_
  all_goals first | exact leafT (by unfold IsNum; omega) | exact leafF (by unfold IsNum; omega)
theorem c41 {m : Nat} (hm : 1 ≤ m) (a : Int) (H : Heap) : callPure (evF tab it m) true 41 [.int .i64 a] H = some (.bool (decide (IsNum a)), H) :=
  callPure_free rfl (by simp) (f41 a m hm) rfl
theorem f17 (a : Int) (m : Nat) (hm : 1 ≤ m) : evF tab it m 17 [.int .i64 a] [] = some (.bool (decide (IsNum a)), []) := by
  obtain ⟨m, rfl⟩ : ∃ j, m = j + 1 := ⟨m - 1, by omega⟩
  refine f_enter rfl rfl ?_
  repeat' first
 | (apply s_mov; (focus ((conv => lhs; whnf); done)))
 | (apply s_gT; exact rfl)
 | (apply s_gF; exact rfl)
 | (apply c_nil)
 | (apply s_pickT; exact rfl; (focus ((conv => lhs; whnf); done)))
 | (apply s_pickF; exact rfl; (focus ((conv => lhs; whnf); done)))
 | ((first | apply s_lss | apply s_leq | apply s_gtr | apply s_geq | apply s_eql | apply s_neq); exact rfl; all_goals (intro _; try (exfalso; omega)))
 | (apply c_seq)
 | (apply c_reg)
 | (apply c_ret)
 | (with_reducible apply k_c)
  all_goals refine fin_t (by (conv => lhs; whnf)) (by rfl) ?_
  all_goals first | exact leafT (by unfold IsNum; omega) | exact leafF (by unfold IsNum; omega)
theorem c17 {m : Nat} (hm : 1 ≤ m) (a : Int) (H : Heap) : callPure (evF tab it m) true 17 [.int .i64 a] H = some (.bool (decide (IsNum a)), H) :=
  callPure_free rfl (by simp) (f17 a m hm) rfl
theorem f49 (a n : Int) (m : Nat) (hm : 2 ≤ m) : evF tab it m 49 [.int .i64 a, .int .i64 n] [] = some (.bool (decide (IsRest a n)), []) := by
  obtain ⟨m, rfl⟩ : ∃ j, m = j + 1 := ⟨m - 1, by omega⟩
  refine f_enter rfl rfl ?_
  repeat' first
 | (apply s_mov; (focus ((conv => lhs; whnf); done)))
 | (apply s_gT; exact rfl)
 | (apply s_gF; exact rfl)
 | (apply c_nil)
 | (apply s_pickT; exact rfl; (focus ((conv => lhs; whnf); done)))
 | (apply s_pickF; exact rfl; (focus ((conv => lhs; whnf); done)))
 | ((first | apply s_lss | apply s_leq | apply s_gtr | apply s_geq | apply s_eql | apply s_neq); exact rfl; all_goals (intro _; try (exfalso; omega)))
 | (apply isE; refine s_cB (by (focus (repeat (first | apply opds_nil | (apply opds_cons; (first | (focus ((conv => lhs; whnf); done)) | exact rfl)))))) (c41 (by omega) _ _) (fun _ => ?_) (fun _ => ?_))
 | (apply c_seq)
 | (apply c_reg)
 | (apply c_ret)
 | (with_reducible apply k_c)
  all_goals refine fin_t (by (conv => lhs; whnf)) (by rfl) ?_
  all_goals first | exact leafT (by unfold IsRest; refine ⟨by assumption, by omega, by omega⟩) | exact leafF (fun h => by unfold IsRest at h; first | omega | exact absurd h.1 (by assumption))
theorem c49 {m : Nat} (hm : 2 ≤ m) (a n : Int) (H : Heap) : callPure (evF tab it m) true 49 [.int .i64 a, .int .i64 n] H = some (.bool (decide (IsRest a n)), H) :=
  callPure_free rfl (by simp) (f49 a n m hm) rfl
theorem f46 {a b n : Nat} (hn : 0 < n) (hab : a * b < 9223372036854775808) (m : Nat) (hm : 1 ≤ m) : evF tab it m 46 [.int .i64 (a : Int), .int .i64 (b : Int), .int .i64 (n : Int)] [] = some (.int .i64 ((a * b % n : Nat) : Int), []) := by
  obtain ⟨m, rfl⟩ : ∃ j, m = j + 1 := ⟨m - 1, by omega⟩
  refine f_enter rfl rfl ?_
  repeat' first
 | (apply s_mov; (focus ((conv => lhs; whnf); done)))
 | (apply c_nil)
 | (apply s_mulN; exact rfl; omega)
 | (apply s_remN; exact rfl; omega)
 | (apply c_seq)
 | (apply c_reg)
 | (apply c_ret)
 | (with_reducible apply k_c)
  exact fin_t (by (conv => lhs; whnf)) (by rfl) rfl
theorem c46 {a b n : Nat} (hn : 0 < n) (hab : a * b < 9223372036854775808) {m : Nat} (hm : 1 ≤ m) (H : Heap) : callPure (evF tab it m) true 46 [.int .i64 (a : Int), .int .i64 (b : Int), .int .i64 (n : Int)] H = some (.int .i64 ((a * b % n : Nat) : Int), H) :=
  callPure_free rfl (by simp) (f46 hn hab m hm) rfl
end Go.AM.Pr

set_option linter.unusedSectionVars false
/- Euler's theorem, in plain Lean. -/
namespace Go.AM.Num

theorem perm_of_sub {α : Type} [DecidableEq α] : ∀ {l1 l2 : List α}, l1.Nodup → (∀ x ∈ l1, x ∈ l2) → l2.length ≤ l1.length → l1.Perm l2
  | [], l2, _, _, h => by
    have : l2 = [] := List.eq_nil_of_length_eq_zero (by simpa using h)
    subst this; exact List.Perm.refl _
  | x :: xs, l2, hn, hs, h => by
    obtain ⟨h1, h2⟩ := List.nodup_cons.1 hn
    have hx : x ∈ l2 := hs x (by simp)
    have hp := List.perm_cons_erase hx
    have hl : (l2.erase x).length = l2.length - 1 := List.length_erase_of_mem hx
    have ih : xs.Perm (l2.erase x) := perm_of_sub h2 (fun y hy => (List.mem_erase_of_ne (fun e : y = x => h1 (by rw [← e]; exact hy))).2 (hs y (by simp [hy]))) (by simp at h; omega)
    exact (List.Perm.cons x ih).trans hp.symm

def pr (m : Nat) (l : List Nat) : Nat := l.foldr (fun x acc => x * acc % m) (1 % m)
theorem pr_perm {m : Nat} {l k : List Nat} (h : l.Perm k) : pr m l = pr m k := by
  induction h with
  | nil => rfl
  | cons x h ih => simp only [pr, List.foldr_cons] at ih ⊢; rw [ih]
  | swap x y l =>
    simp only [pr, List.foldr_cons]
    rw [Nat.mul_mod_mod, Nat.mul_mod_mod, Nat.mul_left_comm]
  | trans _ _ h1 h2 => exact h1.trans h2
theorem pr_map {m a : Nat} : ∀ (l : List Nat), pr m (l.map fun x => a * x % m) = a ^ l.length * pr m l % m
  | [] => by simp [pr]
  | x :: l => by
    have ih := pr_map (m := m) (a := a) l
    simp only [pr, List.map_cons, List.foldr_cons, List.length_cons] at ih ⊢
    rw [ih, Nat.mul_mod_mod, Nat.mod_mul_mod, Nat.mul_mod_mod, Nat.pow_succ]
    congr 1
    simp only [Nat.mul_assoc, Nat.mul_left_comm, Nat.mul_comm]
theorem cop_mod {a m : Nat} : Nat.Coprime (a % m) m ↔ Nat.Coprime a m := by
  unfold Nat.Coprime
  rw [← Nat.gcd_rec m a, Nat.gcd_comm]
theorem pr_cop {m : Nat} : ∀ (l : List Nat), (∀ x ∈ l, Nat.Coprime x m) → Nat.Coprime (pr m l) m
  | [], _ => by simp only [pr, List.foldr_nil]; exact cop_mod.2 (Nat.coprime_one_left _)
  | x :: l, h => by
    simp only [pr, List.foldr_cons]
    exact cop_mod.2 (Nat.Coprime.mul_left (h x (by simp)) (pr_cop l fun y hy => h y (by simp [hy])))

def units (m : Nat) : List Nat := (List.range m).filter fun x => Nat.gcd x m == 1
theorem mem_units {m x : Nat} : x ∈ units m ↔ x < m ∧ Nat.Coprime x m := by simp [units, Nat.Coprime]
theorem cancel {m a x y : Nat} (ha : Nat.Coprime a m) (hx : x < m) (hy : y < m) (h : a * x % m = a * y % m) : x = y := by
  have key : ∀ {x y : Nat}, x < m → y < m → x ≤ y → a * x % m = a * y % m → x = y := fun {x y} hx hy hle h => by
    have hd : m ∣ a * y - a * x := Nat.dvd_of_mod_eq_zero (Nat.sub_mod_eq_zero_of_mod_eq h.symm)
    rw [← Nat.mul_sub] at hd
    have := Nat.Coprime.dvd_of_dvd_mul_left (Nat.Coprime.symm ha) hd
    have := Nat.eq_zero_of_dvd_of_lt this (by omega)
    omega
  rcases Nat.le_total x y with hle | hle
  · exact key hx hy hle h
  · exact (key hy hx hle h.symm).symm
/-- Euler's theorem -/
theorem euler {m a : Nat} (hm : 1 ≤ m) (ha : Nat.Coprime a m) : a ^ (units m).length % m = 1 % m := by
  have hperm : ((units m).map fun x => a * x % m).Perm (units m) := by
    refine perm_of_sub ?_ ?_ (by simp)
    · have hn : (units m).Nodup := List.Pairwise.filter _ List.nodup_range
      refine List.pairwise_map.2 ?_
      refine hn.imp_of_mem fun {x y} hx hy hne e => hne ?_
      exact cancel ha (mem_units.1 hx).1 (mem_units.1 hy).1 e
    · intro y hy
      obtain ⟨x, hx, rfl⟩ := List.mem_map.1 hy
      exact mem_units.2 ⟨Nat.mod_lt _ hm, cop_mod.2 (Nat.Coprime.mul_left ha (mem_units.1 hx).2)⟩
  have h := pr_perm (m := m) hperm
  rw [pr_map] at h
  have hc := pr_cop (units m) fun x hx => (mem_units.1 hx).2
  have hlt : pr m (units m) < m := by
    cases hu : units m with
    | nil => exact Nat.mod_lt _ hm
    | cons x l => exact Nat.mod_lt _ hm
  have h1 : pr m (units m) * (a ^ (units m).length % m) % m = pr m (units m) * (1 % m) % m := by
    rw [Nat.mul_mod_mod, Nat.mul_comm, h, Nat.mul_mod_mod, Nat.mul_one, Nat.mod_eq_of_lt hlt]
  exact cancel hc (Nat.mod_lt _ hm) (Nat.mod_lt _ hm) h1
def IsPr (q : Nat) : Prop := 2 ≤ q ∧ ∀ d, d ∣ q → d = 1 ∨ d = q
theorem pr_cop_of_lt {q x : Nat} (hq : IsPr q) (h0 : 0 < x) (hx : x < q) : Nat.Coprime x q := by
  rcases hq.2 _ (Nat.gcd_dvd_right x q) with h | h
  · exact h
  · have := Nat.le_of_dvd h0 (h ▸ Nat.gcd_dvd_left x q)
    omega
theorem units_pr {q : Nat} (hq : IsPr q) : (units q).length = q - 1 := by
  obtain ⟨k, rfl⟩ : ∃ k, q = k + 1 := ⟨q - 1, by have := hq.1; omega⟩
  have h2 := hq.1
  have h0 : (Nat.gcd 0 (k + 1) == 1) = false := by simp; omega
  unfold units
  rw [List.range_succ_eq_map, List.filter_cons, h0]
  simp only [Bool.false_eq_true, if_false]
  rw [List.filter_eq_self.2]
  · simp
  · intro x hx
    obtain ⟨y, hy, rfl⟩ := List.mem_map.1 hx
    have := pr_cop_of_lt hq (x := y + 1) (by omega) (by have := List.mem_range.1 hy; omega)
    exact beq_iff_eq.2 this
theorem fermat {q a : Nat} (hq : IsPr q) (ha : Nat.Coprime a q) : a ^ (q - 1) % q = 1 := by
  have h := euler (m := q) (by have := hq.1; omega) ha
  rw [units_pr hq] at h
  rw [h, Nat.mod_eq_of_lt (by have := hq.1; omega)]
/-- 1 + a + .. + a ^ (n - 1) -/
def gs (a : Nat) : Nat → Nat
  | 0 => 0
  | n + 1 => gs a n + a ^ n
theorem gs_mul (b : Nat) : ∀ n, b * gs (b + 1) n + 1 = (b + 1) ^ n
  | 0 => by simp [gs]
  | n + 1 => by
    have ih := gs_mul b n
    rw [gs, Nat.mul_add, Nat.pow_succ, Nat.mul_succ, Nat.mul_comm ((b + 1) ^ n) b]
    omega
theorem gs_mod {q a : Nat} (ha : a % q = 1 % q) : ∀ n, gs a n % q = n % q
  | 0 => by simp [gs]
  | n + 1 => by
    have ih := gs_mod ha n
    have hp : a ^ n % q = 1 % q := by rw [Nat.pow_mod, ha, ← Nat.pow_mod, Nat.one_pow]
    rw [gs, Nat.add_mod, ih, hp, ← Nat.add_mod]
/-- one more power of q -/
theorem lift {q k a : Nat} (hk : 1 ≤ k) (h0 : 1 ≤ a) (h : q ^ k ∣ a - 1) : q ^ (k + 1) ∣ a ^ q - 1 := by
  obtain ⟨b, rfl⟩ : ∃ b, a = b + 1 := ⟨a - 1, by omega⟩
  simp only [Nat.add_sub_cancel] at h
  have hqb : q ∣ b := Nat.dvd_trans (Nat.dvd_trans ⟨1, by simp⟩ (Nat.pow_dvd_pow q hk)) h
  have hmod : (b + 1) % q = 1 % q := by
    obtain ⟨c, rfl⟩ := hqb
    rw [Nat.mul_add_mod]
  have hg : q ∣ gs (b + 1) q := Nat.dvd_of_mod_eq_zero (by rw [gs_mod hmod, Nat.mod_self])
  have e := gs_mul b q
  have e2 : (b + 1) ^ q - 1 = b * gs (b + 1) q := by omega
  rw [e2, Nat.pow_succ]
  exact Nat.mul_dvd_mul h hg
/-- Euler's theorem for a power of a prime -/
theorem euler_pow {q a : Nat} (hq : IsPr q) (ha : Nat.Coprime a q) (h0 : 1 ≤ a) : ∀ k, q ^ (k + 1) ∣ a ^ ((q - 1) * q ^ k) - 1
  | 0 => by
    have h := fermat hq ha
    have h1 : (a ^ (q - 1) - 1) % q = 0 := Nat.sub_mod_eq_zero_of_mod_eq (by rw [h, Nat.mod_eq_of_lt (by have := hq.1; omega)])
    simpa using Nat.dvd_of_mod_eq_zero h1
  | k + 1 => by
    have ih := euler_pow hq ha h0 k
    have := lift (by omega) (Nat.one_le_pow _ _ h0) ih
    rwa [← Nat.pow_mul, Nat.mul_assoc, ← Nat.pow_succ] at this
theorem pow_dvd {x a d e : Nat} (h0 : 1 ≤ a) (h : x ∣ a ^ d - 1) (hd : d ∣ e) : x ∣ a ^ e - 1 := by
  obtain ⟨c, rfl⟩ := hd
  have hp : 1 ≤ a ^ d := Nat.one_le_pow _ _ h0
  obtain ⟨b, hb⟩ : ∃ b, a ^ d = b + 1 := ⟨a ^ d - 1, by omega⟩
  rw [hb, Nat.add_sub_cancel] at h
  have e := gs_mul b c
  rw [Nat.pow_mul, hb]
  have : (b + 1) ^ c - 1 = b * gs (b + 1) c := by omega
  rw [this]
  exact Nat.dvd_trans h ⟨_, rfl⟩
def prodL (l : List (Nat × Nat)) : Nat := l.foldr (fun p acc => p.1 ^ p.2 * acc) 1
def totL (l : List (Nat × Nat)) : Nat := l.foldr (fun p acc => (p.1 - 1) * p.1 ^ (p.2 - 1) * acc) 1
theorem pr_ne_cop {p q : Nat} (hp : IsPr p) (hq : IsPr q) (hne : p ≠ q) : Nat.Coprime p q := by
  rcases hp.2 _ (Nat.gcd_dvd_left p q) with h | h
  · exact h
  · have hd : p ∣ q := h ▸ Nat.gcd_dvd_right p q
    rcases hq.2 _ hd with h1 | h1
    · have := hp.1; omega
    · exact absurd h1 hne
theorem cop_prodL {p : Nat} (hp : IsPr p) : ∀ {l : List (Nat × Nat)}, (∀ x ∈ l, IsPr x.1) → p ∉ l.map (·.1) → ∀ k, Nat.Coprime (p ^ k) (prodL l)
  | [], _, _, k => by simp [prodL]
  | x :: l, h, hn, k => by
    simp only [List.map_cons, List.mem_cons, not_or] at hn
    have h1 := cop_prodL hp (l := l) (fun y hy => h y (by simp [hy])) hn.2 k
    have h2 : Nat.Coprime (p ^ k) (x.1 ^ x.2) := Nat.Coprime.pow _ _ (pr_ne_cop hp (h x (by simp)) hn.1)
    exact Nat.Coprime.mul_right h2 h1
theorem euler_div {a : Nat} (h0 : 1 ≤ a) {e : Nat} : ∀ {l : List (Nat × Nat)}, (∀ x ∈ l, IsPr x.1 ∧ 1 ≤ x.2) → (l.map (·.1)).Nodup → Nat.Coprime a (prodL l) → totL l ∣ e → prodL l ∣ a ^ e - 1
  | [], _, _, _, _ => by simp [prodL]
  | x :: l, h, hn, ha, he => by
    obtain ⟨hx, hx2⟩ := h x (by simp)
    simp only [List.map_cons, List.nodup_cons] at hn
    have ha' : Nat.Coprime a (x.1 ^ x.2 * prodL l) := ha
    have hax : Nat.Coprime a x.1 := Nat.Coprime.coprime_dvd_right (Nat.dvd_trans ⟨x.1 ^ (x.2 - 1), by rw [← Nat.pow_succ', Nat.succ_eq_add_one, Nat.sub_add_cancel hx2]⟩ ⟨_, rfl⟩) ha'
    have hal : Nat.Coprime a (prodL l) := Nat.Coprime.coprime_dvd_right ⟨x.1 ^ x.2, Nat.mul_comm _ _⟩ ha'
    have he' : (x.1 - 1) * x.1 ^ (x.2 - 1) * totL l ∣ e := he
    have h1 : x.1 ^ x.2 ∣ a ^ e - 1 := by
      have := euler_pow hx hax h0 (x.2 - 1)
      rw [Nat.sub_add_cancel hx2] at this
      exact pow_dvd h0 this (Nat.dvd_trans ⟨_, rfl⟩ he')
    have h2 : prodL l ∣ a ^ e - 1 := euler_div h0 (fun y hy => h y (by simp [hy])) hn.2 hal (Nat.dvd_trans ⟨_, Nat.mul_comm _ _⟩ he')
    exact Nat.Coprime.mul_dvd_of_dvd_of_dvd (cop_prodL hx (fun y hy => (h y (by simp [hy])).1) hn.1 x.2) h1 h2
/-! ### trial division -/
def strip : Nat → Nat → Nat → Nat × Nat
  | 0, _, n => (0, n)
  | f + 1, q, n => if n % q = 0 then ((strip f q (n / q)).1 + 1, (strip f q (n / q)).2) else (0, n)
theorem strip_spec {q : Nat} (hq : 2 ≤ q) : ∀ (f n : Nat), 1 ≤ n → n ≤ f → n = q ^ (strip f q n).1 * (strip f q n).2 ∧ (strip f q n).2 % q ≠ 0 ∧ 1 ≤ (strip f q n).2 ∧ (n % q = 0 → 1 ≤ (strip f q n).1)
  | 0, n, h1, h2 => by omega
  | f + 1, n, h1, h2 => by
    unfold strip
    split
    · rename_i h
      have hd : q * (n / q) = n := Nat.mul_div_cancel' (Nat.dvd_of_mod_eq_zero h)
      have h3 : 1 ≤ n / q := by
        rcases Nat.eq_zero_or_pos (n / q) with e | e
        · rw [e] at hd; omega
        · exact e
      have h4 : n / q < n := Nat.div_lt_self h1 hq
      obtain ⟨g1, g2, g3, g4⟩ := strip_spec hq f (n / q) h3 (by omega)
      refine ⟨?_, g2, g3, fun _ => by simp⟩
      dsimp only
      rw [Nat.pow_succ', Nat.mul_assoc, ← g1, hd]
    · rename_i h
      exact ⟨by simp, h, h1, fun e => absurd e h⟩
def dv : Nat → Nat → Nat → List (Nat × Nat)
  | 0, _, n => if 1 < n then [(n, 1)] else []
  | f + 1, q, n => if q * q ≤ n then (if n % q = 0 then (q, (strip n q n).1) :: dv f (q + 1) (strip n q n).2 else dv f (q + 1) n) else if 1 < n then [(n, 1)] else []
/-- no divisor below q -/
def Rough (q n : Nat) : Prop := ∀ d, 1 < d → d ∣ n → q ≤ d
theorem rough_pr {q n : Nat} (h : Rough q n) (hn : 1 < n) (hq : n < q * q) : IsPr n := by
  refine ⟨hn, fun d hd => ?_⟩
  obtain ⟨e, rfl⟩ := hd
  rcases Nat.lt_or_ge 1 d with h1 | h1
  · rcases Nat.lt_or_ge 1 e with h2 | h2
    · have a := h d h1 ⟨e, rfl⟩
      have b := h e h2 ⟨d, Nat.mul_comm _ _⟩
      have := Nat.mul_le_mul a b
      omega
    · right
      rcases (show e = 0 ∨ e = 1 by omega) with rfl | rfl
      · omega
      · simp
  · left
    rcases (show d = 0 ∨ d = 1 by omega) with rfl | rfl
    · omega
    · rfl
theorem dv_last {q n : Nat} (h : Rough q n) (h1 : 1 ≤ n) (hq : n < q * q) : prodL (if 1 < n then [(n, 1)] else []) = n ∧ (∀ x ∈ (if 1 < n then [(n, 1)] else []), IsPr x.1 ∧ 1 ≤ x.2 ∧ q ≤ x.1) ∧ ((if 1 < n then [(n, 1)] else []).map (·.1)).Pairwise (· < ·) := by
  by_cases hn : 1 < n
  · simp only [if_pos hn]
    refine ⟨by simp [prodL], fun x hx => ?_, by simp⟩
    simp at hx
    subst hx
    exact ⟨rough_pr h hn hq, Nat.le_refl _, h n hn (Nat.dvd_refl _)⟩
  · simp only [if_neg hn]
    exact ⟨by simp [prodL]; omega, by simp, by simp⟩
theorem dv_spec : ∀ (f q n : Nat), 2 ≤ q → 1 ≤ n → Rough q n → n < (q + f) * (q + f) → prodL (dv f q n) = n ∧ (∀ x ∈ dv f q n, IsPr x.1 ∧ 1 ≤ x.2 ∧ q ≤ x.1) ∧ ((dv f q n).map (·.1)).Pairwise (· < ·)
  | 0, q, n, hq, h1, hr, hf => dv_last hr h1 hf
  | f + 1, q, n, hq, h1, hr, hf => by
    have hf' : ∀ r, r ≤ n → r < (q + 1 + f) * (q + 1 + f) := fun r hr' => by rw [show q + 1 + f = q + (f + 1) from by omega]; omega
    unfold dv
    split
    · split
      · rename_i h2 h3
        obtain ⟨g1, g2, g3, g4⟩ := strip_spec hq n n h1 (Nat.le_refl _)
        generalize (strip n q n).1 = t at *
        generalize (strip n q n).2 = r at *
        have ht := g4 h3
        have hrn : r ∣ n := ⟨q ^ t, by rw [Nat.mul_comm]; exact g1⟩
        have hrough : Rough (q + 1) r := fun d hd hdr => by
          have := hr d hd (Nat.dvd_trans hdr hrn)
          rcases Nat.lt_or_ge q d with h | h
          · exact h
          · have e : d = q := by omega
            subst e
            exact absurd (Nat.mod_eq_zero_of_dvd hdr) g2
        have hpr : IsPr q := ⟨hq, fun d hd => by
          rcases Nat.lt_or_ge 1 d with h | h
          · right
            have a := hr d h (Nat.dvd_trans hd (Nat.dvd_of_mod_eq_zero h3))
            have b := Nat.le_of_dvd (by omega) hd
            omega
          · left
            have := Nat.pos_of_dvd_of_pos hd (by omega)
            omega⟩
        obtain ⟨i1, i2, i3⟩ := dv_spec f (q + 1) r (by omega) g3 hrough (hf' r (Nat.le_of_dvd h1 hrn))
        refine ⟨?_, fun x hx => ?_, ?_⟩
        · show q ^ t * prodL (dv f (q + 1) r) = n
          rw [i1]; exact g1.symm
        · rcases List.mem_cons.1 hx with rfl | hx
          · exact ⟨hpr, ht, Nat.le_refl _⟩
          · obtain ⟨a, b, c⟩ := i2 x hx
            exact ⟨a, b, by omega⟩
        · refine List.pairwise_cons.2 ⟨fun y hy => ?_, i3⟩
          obtain ⟨x, hx, rfl⟩ := List.mem_map.1 hy
          exact (i2 x hx).2.2
      · rename_i h2 h3
        have hrough : Rough (q + 1) n := fun d hd hdr => by
          have := hr d hd hdr
          rcases Nat.lt_or_ge q d with h | h
          · exact h
          · have e : d = q := by omega
            subst e
            exact absurd (Nat.mod_eq_zero_of_dvd hdr) h3
        obtain ⟨i1, i2, i3⟩ := dv_spec f (q + 1) n (by omega) h1 hrough (hf' n (Nat.le_refl _))
        exact ⟨i1, fun x hx => ⟨(i2 x hx).1, (i2 x hx).2.1, by have := (i2 x hx).2.2; omega⟩, i3⟩
    · exact dv_last hr h1 (by omega)
end Go.AM.Num

set_option linter.unusedSectionVars false
set_option linter.unusedVariables false
set_option linter.unusedSimpArgs false
namespace Go.AM.Pr
open Go.AM.Num
theorem rough_two (n : Nat) : Rough 2 n := fun d h _ => h
theorem rough_succ {d n : Nat} (h : Rough d n) (hd : ¬ d ∣ n) : Rough (d + 1) n := fun k h1 h2 => by
  have := h k h1 h2
  rcases (by omega : k = d ∨ d + 1 ≤ k) with rfl | h3
  · exact absurd h2 hd
  · exact h3
theorem sq_mono {a b : Nat} (h : a ≤ b) : a * a ≤ b * b := Nat.mul_le_mul h h
/-- the least divisor -/
def IsLd (d n : Nat) : Prop := (1 < n → IsPr d ∧ d ∣ n ∧ Rough d n) ∧ 1 ≤ d ∧ d ≤ n
theorem rough_dvd_pr {d n : Nat} (h : Rough d n) (h2 : 2 ≤ d) (hd : d ∣ n) : IsPr d := ⟨h2, fun k hk => by
  rcases (by omega : k = 0 ∨ k = 1 ∨ 1 < k) with rfl | h1 | h1
  · obtain ⟨c, hc⟩ := hk; omega
  · exact .inl h1
  · have a := h k h1 (Nat.dvd_trans hk hd)
    have b := Nat.le_of_dvd (by omega) hk
    exact .inr (by omega)⟩
theorem ld_ex {n : Nat} (h1 : 1 ≤ n) : ∃ d : Nat, IsLd d n := by
  rcases (by omega : n = 1 ∨ 1 < n) with rfl | h
  · exact ⟨1, fun h => by omega, by omega, by omega⟩
  · have key : ∀ k, 2 ≤ k → Rough k n ∨ ∃ d, 2 ≤ d ∧ d ∣ n ∧ Rough d n := by
      intro k hk
      induction k with
      | zero => omega
      | succ k ih =>
        rcases (by omega : k + 1 = 2 ∨ 2 ≤ k) with e | e
        · rw [e]; exact .inl (rough_two n)
        · rcases ih e with h | h
          · by_cases hd : k ∣ n
            · exact .inr ⟨k, e, hd, h⟩
            · exact .inl (rough_succ h hd)
          · exact .inr h
    obtain ⟨d, h2, h3, h4⟩ : ∃ d, 2 ≤ d ∧ d ∣ n ∧ Rough d n := by
      rcases key (n + 1) (by omega) with h' | h'
      · have := h' n h (Nat.dvd_refl n); omega
      · exact h'
    exact ⟨d, fun _ => ⟨rough_dvd_pr h4 h2 h3, h3, h4⟩, by omega, Nat.le_of_dvd (by omega) h3⟩
theorem ld_uniq {n a b : Nat} (ha : IsLd a n) (hb : IsLd b n) : a = b := by
  by_cases h : 1 < n
  · obtain ⟨⟨a1, _⟩, a2, a3⟩ := ha.1 h
    obtain ⟨⟨b1, _⟩, b2, b3⟩ := hb.1 h
    have := a3 b (by omega) b2
    have := b3 a (by omega) a2
    omega
  · have := ha.2; have := hb.2; omega
theorem ld_self {d n : Nat} (h1 : 1 ≤ n) (h : Rough d n) (hd : n < d * d) : IsLd n n := ⟨fun hn => ⟨rough_pr h hn hd, Nat.dvd_refl n, fun k h1 h2 => by
  rcases (rough_pr h hn hd).2 k h2 with e | e <;> omega⟩, h1, Nat.le_refl n⟩
theorem f43 {n : Nat} (h1 : 1 ≤ n) (h2 : n ≤ 2147483647) (m : Nat) (hm : 46345 ≤ m) : ∃ d : Nat, IsLd d n ∧ evF tab it m 43 [.int .i64 (n : Int)] [] = some (.int .i64 (d : Int), []) := by
  obtain ⟨m, rfl⟩ : ∃ j, m = j + 1 := ⟨m - 1, by omega⟩
  obtain ⟨d0, hd0⟩ := ld_ex h1
  refine ⟨d0, hd0, ?_⟩
  refine f_enter rfl rfl ?_
  repeat' first
 | (apply s_mov; (focus ((conv => lhs; whnf); done)))
 | (apply c_nil)
 | (apply c_seq)
 | (apply c_reg)
 | (apply c_block)
 | (with_reducible apply k_c)
  refine c_loop ?_
  refine loop_gc (σ := Nat) (fun d => [.int .i64 (n : Int), .int .i64 (d : Int)]) (fun _ => []) (fun d => 2 ≤ d ∧ d ≤ 46342 ∧ Rough d n) (fun d => 46342 - d) ?_ _ 2 _ _ ⟨by omega, by omega, rough_two n⟩ (by omega) (gc_to rfl (by simp [idFreeL, AV.idFree, *]; done))
  intro d ⟨hd, hb, hr⟩ K hK
  have hs := sq_mono hb
  repeat' first
 | (apply s_mov; (focus ((conv => lhs; whnf); done)))
 | (apply c_nil)
 | ((first | apply s_lss | apply s_leq | apply s_gtr | apply s_geq | apply s_eql | apply s_neq); exact rfl; all_goals (intro _; try (exfalso; omega)))
 | ((first | apply s_add | apply s_sub); exact rfl; omega)
 | (apply s_mulN; exact rfl; omega)
 | (apply s_remN; exact rfl; omega)
 | (apply c_seq)
 | (apply c_reg)
 | (apply c_block)
 | (apply c_exitH)
 | (apply c_skip)
 | (apply c_ret)
 | (apply c_condT; exact rfl)
 | (apply c_condF; exact rfl)
 | (apply c_preF; (focus (repeat (first | apply looks_nil | (apply looks_cons; (focus ((conv => lhs; whnf); done)))))); (focus (simp [idFreeL, AV.idFree, *]; done)))
 | (with_reducible apply k_c)
  · refine fin_t (by (conv => lhs; whnf)) (by rfl) ?_
    have hdn : d ∣ n := Nat.dvd_of_mod_eq_zero (by omega)
    rw [ld_uniq hd0 ⟨fun _ => ⟨rough_dvd_pr hr hd hdn, hdn, hr⟩, by omega, Nat.le_of_dvd (by omega) hdn⟩]
  · have hlt : d + 1 ≤ 46342 := by
      rcases (by omega : d = 46342 ∨ d + 1 ≤ 46342) with rfl | h
      · omega
      · exact h
    refine hK (d + 1) _ _ ⟨by omega, hlt, rough_succ hr fun h => ?_⟩ (by omega) (gc_to rfl (by simp [idFreeL, AV.idFree, *]; done))
    have := Nat.mod_eq_zero_of_dvd h
    omega
  · refine fin_t (by (conv => lhs; whnf)) (by rfl) ?_
    rw [ld_uniq hd0 (ld_self h1 hr (by omega))]
theorem c43 {n : Nat} (h1 : 1 ≤ n) (h2 : n ≤ 2147483647) {m : Nat} (hm : 46345 ≤ m) (H : Heap) : ∃ d : Nat, IsLd d n ∧ callPure (evF tab it m) true 43 [.int .i64 (n : Int)] H = some (.int .i64 (d : Int), H) := by
  obtain ⟨d, hd, h⟩ := f43 h1 h2 m hm
  exact ⟨d, hd, callPure_free rfl (by simp) h rfl⟩
/-- the greatest common divisor -/
theorem gcd_step {a b k : Nat} (hb : 0 < b) (h : b ≤ a) (hk : a * b < 2 ^ k) : 1 ≤ k ∧ b * (a % b) < 2 ^ (k - 1) ∧ a % b < b := by
  have h1 : a % b < b := Nat.mod_lt _ hb
  have h2 : a % b + b ≤ a := by
    have := Nat.mod_add_div a b
    have : 1 ≤ a / b := (Nat.one_le_div_iff hb).2 h
    have := Nat.mul_le_mul_left b this
    omega
  have h3 : b * (2 * (a % b)) ≤ b * a := Nat.mul_le_mul_left b (by omega)
  have h4 : 1 ≤ a * b := Nat.mul_le_mul (show 1 ≤ a by omega) hb
  cases k with
  | zero => simp at hk; omega
  | succ k =>
    refine ⟨by omega, ?_, h1⟩
    rw [Nat.pow_succ] at hk
    have e1 : b * (2 * (a % b)) = 2 * (b * (a % b)) := by rw [Nat.mul_left_comm]
    have e2 : b * a = a * b := Nat.mul_comm b a
    simp only [Nat.add_sub_cancel]
    omega
theorem f53 {A B : Nat} (hA : A < 9223372036854775808) (hB : B < 9223372036854775808) (m : Nat) (hm : 200 ≤ m) : evF tab it m 53 [.int .i64 (A : Int), .int .i64 (B : Int)] [] = some (.int .i64 ((Nat.gcd A B : Nat) : Int), []) := by
  obtain ⟨m, rfl⟩ : ∃ j, m = j + 1 := ⟨m - 1, by omega⟩
  generalize hg : Nat.gcd A B = g
  have hAB : A * B < 2 ^ 126 := Nat.lt_of_le_of_lt (Nat.mul_le_mul (show A ≤ 9223372036854775807 by omega) (show B ≤ 9223372036854775807 by omega)) (by decide)
  refine f_enter rfl rfl ?_
  repeat' first
 | (apply s_mov; (focus ((conv => lhs; whnf); done)))
 | (apply c_nil)
 | (apply c_seq)
 | (apply c_reg)
 | (apply c_block)
 | (with_reducible apply k_c)
  refine c_loop ?_
  refine loop_gc (σ := Nat × Nat × Nat) (fun s => [.int .i64 (s.1 : Int), .int .i64 (s.2.1 : Int)]) (fun _ => []) (fun s => Nat.gcd s.1 s.2.1 = g ∧ s.1 * s.2.1 < 2 ^ s.2.2 ∧ s.2.2 ≤ 126) (fun s => s.2.2 + (if s.1 < s.2.1 then 1 else 0)) ?_ _ (A, B, 126) _ _ ⟨hg, hAB, Nat.le_refl _⟩ (by show 126 + _ < _; split <;> omega) (gc_to rfl (by simp [idFreeL, AV.idFree, *]; done))
  intro ⟨a, b, k⟩ ⟨h1, h2, h3⟩ K hK
  dsimp only at h1 h2 h3 hK ⊢
  repeat' first
 | (apply s_mov; (focus ((conv => lhs; whnf); done)))
 | (apply c_nil)
 | ((first | apply s_lss | apply s_leq | apply s_gtr | apply s_geq | apply s_eql | apply s_neq); exact rfl; all_goals (intro _; try (exfalso; omega)))
 | (apply s_remN; exact rfl; omega)
 | (apply c_seq)
 | (apply c_reg)
 | (apply c_block)
 | (apply c_exitH)
 | (apply c_skip)
 | (apply c_ret)
 | (apply c_condT; exact rfl)
 | (apply c_condF; exact rfl)
 | (apply c_preF; (focus (repeat (first | apply looks_nil | (apply looks_cons; (focus ((conv => lhs; whnf); done)))))); (focus (simp [idFreeL, AV.idFree, *]; done)))
 | (with_reducible apply k_c)
  · refine hK (b, a % b, if a < b then k else k - 1) _ _ ?_ ?_ (gc_to rfl (by simp [idFreeL, AV.idFree, *]; done))
    · have hgs : Nat.gcd b (a % b) = g := by rw [Nat.gcd_comm, ← Nat.gcd_rec, Nat.gcd_comm, h1]
      by_cases h : a < b
      · simp only [if_pos h]
        exact ⟨hgs, by rw [Nat.mod_eq_of_lt h, Nat.mul_comm]; exact h2, h3⟩
      · simp only [if_neg h]
        obtain ⟨g1, g2, g3⟩ := gcd_step (by omega) (by omega) h2
        exact ⟨hgs, g2, by omega⟩
    · show _ + _ < _ + _
      by_cases h : a < b
      · simp only [if_pos h]
        rw [Nat.mod_eq_of_lt h, if_neg (by omega)]
        omega
      · simp only [if_neg h]
        obtain ⟨g1, g2, g3⟩ := gcd_step (by omega) (by omega) h2
        rw [if_neg (by omega)]
        omega
  · refine fin_t (by (conv => lhs; whnf)) (by rfl) ?_
    have : b = 0 := by omega
    subst this
    rw [Nat.gcd_zero_right] at h1
    rw [h1]
theorem c53 {A B : Nat} (hA : A < 9223372036854775808) (hB : B < 9223372036854775808) {m : Nat} (hm : 200 ≤ m) (H : Heap) : callPure (evF tab it m) true 53 [.int .i64 (A : Int), .int .i64 (B : Int)] H = some (.int .i64 ((Nat.gcd A B : Nat) : Int), H) :=
  callPure_free rfl (by simp) (f53 hA hB m hm) rfl
theorem pow_step (a e n out : Nat) : (if e % 2 = 1 then out * a % n else out) * (a * a % n) ^ (e / 2) % n = out * a ^ e % n := by
  have h1 : (a * a % n) ^ (e / 2) % n = (a * a) ^ (e / 2) % n := by rw [Nat.pow_mod, Nat.mod_mod, ← Nat.pow_mod]
  have h2 : (a * a) ^ (e / 2) * a ^ (e % 2) = a ^ e := by
    rw [← Nat.pow_two, ← Nat.pow_mul, ← Nat.pow_add]
    congr 1
    omega
  split
  · rename_i h
    rw [h, Nat.pow_one] at h2
    rw [Nat.mul_mod, h1, ← Nat.mul_mod, Nat.mul_mod, Nat.mod_mod, ← Nat.mul_mod, ← h2]
    congr 1
    rw [Nat.mul_assoc, Nat.mul_comm a]
  · rename_i h
    have : e % 2 = 0 := by omega
    rw [this, Nat.pow_zero, Nat.mul_one] at h2
    rw [Nat.mul_mod, h1, ← Nat.mul_mod, h2]
theorem mod_prod_lt {a b n : Nat} (ha : a < n) (hb : b < n) (hn : n ≤ 2147483647) : a * b < 4611686018427387904 :=
  Nat.lt_of_le_of_lt (Nat.mul_le_mul (show a ≤ 2147483647 by omega) (show b ≤ 2147483647 by omega)) (by decide)
theorem f47 {A E n : Nat} (hn : 0 < n) (hn2 : n ≤ 2147483647) (hA : A < n) (hE : E < 9223372036854775808) (m : Nat) (hm : 100 ≤ m) : evF tab it m 47 [.int .i64 (A : Int), .int .i64 (E : Int), .int .i64 (n : Int)] [] = some (.int .i64 ((A ^ E % n : Nat) : Int), []) := by
  obtain ⟨m, rfl⟩ : ∃ j, m = j + 1 := ⟨m - 1, by omega⟩
  generalize hg : A ^ E % n = g
  refine f_enter rfl rfl ?_
  repeat' first
 | (apply s_mov; (focus ((conv => lhs; whnf); done)))
 | (apply c_nil)
 | (apply s_remN (a := 1); exact rfl; omega)
 | (apply c_seq)
 | (apply c_reg)
 | (apply c_block)
 | (with_reducible apply k_c)
  refine c_loop ?_
  refine loop_gc (σ := Nat × Nat × Nat × Nat) (fun s => [.int .i64 (s.1 : Int), .int .i64 (s.2.1 : Int), .int .i64 (n : Int), .int .i64 (s.2.2.1 : Int)]) (fun _ => []) (fun s => s.1 < n ∧ s.2.2.1 < n ∧ s.2.2.1 * s.1 ^ s.2.1 % n = g ∧ s.2.1 < 2 ^ s.2.2.2 ∧ s.2.1 < 9223372036854775808) (fun s => s.2.2.2) ?_ _ (A, E, 1 % n, 63) _ _ ⟨hA, Nat.mod_lt _ hn, ?_, hE, hE⟩ (by show 63 < _; omega) (gc_to rfl (by simp [idFreeL, AV.idFree, *]; done))
  · intro ⟨a, e, out, k⟩ ⟨h1, h2, h3, h4, he⟩ K hK
    dsimp only at h1 h2 h3 h4 he hK ⊢
    have b1 := mod_prod_lt h1 h1 hn2
    have b2 := mod_prod_lt h2 h1 hn2
    have hk : 0 < e → ∃ j, k = j + 1 ∧ e / 2 < 2 ^ j := fun he => by
      cases k with
      | zero => simp at h4; omega
      | succ j => exact ⟨j, rfl, by rw [Nat.pow_succ] at h4; omega⟩
    have hs := pow_step a e n out
    repeat' first
 | (apply s_mov; (focus ((conv => lhs; whnf); done)))
 | (apply c_nil)
 | ((first | apply s_lss | apply s_leq | apply s_gtr | apply s_geq | apply s_eql | apply s_neq); exact rfl; all_goals (intro _; try (exfalso; omega)))
 | (apply s_cn; (focus (repeat (first | apply opds_nil | (apply opds_cons; (first | (focus ((conv => lhs; whnf); done)) | exact rfl))))); exact c46 hn (by omega) (by omega) _)
 | (apply s_and1; exact rfl; omega)
 | (apply s_shr1; exact rfl)
 | (apply c_seq)
 | (apply c_reg)
 | (apply c_block)
 | (apply c_exitH)
 | (apply c_skip)
 | (apply c_ret)
 | (apply c_condT; exact rfl)
 | (apply c_condF; exact rfl)
 | (apply c_preF; (focus (repeat (first | apply looks_nil | (apply looks_cons; (focus ((conv => lhs; whnf); done)))))); (focus (simp [idFreeL, AV.idFree, *]; done)))
 | (with_reducible apply k_c)
    · obtain ⟨j, rfl, hj⟩ := hk (by omega)
      rw [if_pos (by omega)] at hs
      exact hK (a * a % n, e / 2, out * a % n, j) _ _ ⟨Nat.mod_lt _ hn, Nat.mod_lt _ hn, hs.trans h3, hj, by show e / 2 < _; omega⟩ (by show j < j + 1; omega) (gc_to rfl (by simp [idFreeL, AV.idFree, *]; done))
    · obtain ⟨j, rfl, hj⟩ := hk (by omega)
      rw [if_neg (by omega)] at hs
      exact hK (a * a % n, e / 2, out, j) _ _ ⟨Nat.mod_lt _ hn, h2, hs.trans h3, hj, by show e / 2 < _; omega⟩ (by show j < j + 1; omega) (gc_to rfl (by simp [idFreeL, AV.idFree, *]; done))
    · refine fin_t (by (conv => lhs; whnf)) (by rfl) ?_
      have : e = 0 := by omega
      subst this
      rw [Nat.pow_zero, Nat.mul_one, Nat.mod_eq_of_lt h2] at h3
      rw [h3]
  · show 1 % n * A ^ E % n = g
    rw [Nat.mul_mod, Nat.mod_mod, ← Nat.mul_mod, Nat.one_mul, hg]
end Go.AM.Pr

set_option linter.unusedSectionVars false
set_option linter.unusedVariables false
set_option linter.unusedSimpArgs false
namespace Go.AM.Pr
open Go.AM.Num
theorem c47 {A E n : Nat} (hn : 0 < n) (hn2 : n ≤ 2147483647) (hA : A < n) (hE : E < 9223372036854775808) {m : Nat} (hm : 100 ≤ m) (H : Heap) : callPure (evF tab it m) true 47 [.int .i64 (A : Int), .int .i64 (E : Int), .int .i64 (n : Int)] H = some (.int .i64 ((A ^ E % n : Nat) : Int), H) :=
  callPure_free rfl (by simp) (f47 hn hn2 hA hE m hm) rfl
/-- the reference's power -/
theorem f22 {A E n : Nat} (hn : 0 < n) (hn2 : n ≤ 2147483647) (hE : E < 9223372036854775808) (m : Nat) (hm : 100 ≤ m) : evF tab it m 22 [.int .i64 (A : Int), .int .i64 (E : Int), .int .i64 (n : Int)] [] = some (.int .i64 ((A ^ E % n : Nat) : Int), []) := by
  obtain ⟨m, rfl⟩ : ∃ j, m = j + 1 := ⟨m - 1, by omega⟩
  generalize hg : A ^ E % n = g
  refine f_enter rfl rfl ?_
  repeat' first
 | (apply s_mov; (focus ((conv => lhs; whnf); done)))
 | (apply c_nil)
 | (apply s_remN (a := 1); exact rfl; omega)
 | (apply s_remN; exact rfl; omega)
 | (apply c_seq)
 | (apply c_reg)
 | (apply c_block)
 | (with_reducible apply k_c)
  refine c_loop ?_
  refine loop_gc (σ := Nat × Nat × Nat × Nat) (fun s => [.int .i64 (s.1 : Int), .int .i64 (s.2.1 : Int), .int .i64 (n : Int), .int .i64 (s.2.2.1 : Int)]) (fun _ => []) (fun s => s.1 < n ∧ s.2.2.1 < n ∧ s.2.2.1 * s.1 ^ s.2.1 % n = g ∧ s.2.1 < 2 ^ s.2.2.2 ∧ s.2.1 < 9223372036854775808) (fun s => s.2.2.2) ?_ _ (A % n, E, 1 % n, 63) _ _ ⟨Nat.mod_lt _ hn, Nat.mod_lt _ hn, ?_, hE, hE⟩ (by show 63 < _; omega) (gc_to rfl (by simp [idFreeL, AV.idFree, *]; done))
  · intro ⟨a, e, out, k⟩ ⟨h1, h2, h3, h4, he⟩ K hK
    dsimp only at h1 h2 h3 h4 he hK ⊢
    have b1 := mod_prod_lt h1 h1 hn2
    have b2 := mod_prod_lt h2 h1 hn2
    have hk : 0 < e → ∃ j, k = j + 1 ∧ e / 2 < 2 ^ j := fun he => by
      cases k with
      | zero => simp at h4; omega
      | succ j => exact ⟨j, rfl, by rw [Nat.pow_succ] at h4; omega⟩
    have hs := pow_step a e n out
    repeat' first
 | (apply s_mov; (focus ((conv => lhs; whnf); done)))
 | (apply c_nil)
 | ((first | apply s_lss | apply s_leq | apply s_gtr | apply s_geq | apply s_eql | apply s_neq); exact rfl; all_goals (intro _; try (exfalso; omega)))
 | (apply s_quoN (b := 2); exact rfl; omega; omega)
 | (apply s_remN (b := 2); exact rfl; omega)
 | (apply s_mulN; exact rfl; omega)
 | (apply s_remN; exact rfl; omega)
 | (apply c_seq)
 | (apply c_reg)
 | (apply c_block)
 | (apply c_exitH)
 | (apply c_skip)
 | (apply c_ret)
 | (apply c_condT; exact rfl)
 | (apply c_condF; exact rfl)
 | (apply c_preF; (focus (repeat (first | apply looks_nil | (apply looks_cons; (focus ((conv => lhs; whnf); done)))))); (focus (simp [idFreeL, AV.idFree, *]; done)))
 | (with_reducible apply k_c)
    · obtain ⟨j, rfl, hj⟩ := hk (by omega)
      rw [if_pos (by omega)] at hs
      exact hK (a * a % n, e / 2, out * a % n, j) _ _ ⟨Nat.mod_lt _ hn, Nat.mod_lt _ hn, hs.trans h3, hj, by show e / 2 < _; omega⟩ (by show j < j + 1; omega) (gc_to rfl (by simp [idFreeL, AV.idFree, *]; done))
    · obtain ⟨j, rfl, hj⟩ := hk (by omega)
      rw [if_neg (by omega)] at hs
      exact hK (a * a % n, e / 2, out, j) _ _ ⟨Nat.mod_lt _ hn, h2, hs.trans h3, hj, by show e / 2 < _; omega⟩ (by show j < j + 1; omega) (gc_to rfl (by simp [idFreeL, AV.idFree, *]; done))
    · refine fin_t (by (conv => lhs; whnf)) (by rfl) ?_
      have : e = 0 := by omega
      subst this
      rw [Nat.pow_zero, Nat.mul_one, Nat.mod_eq_of_lt h2] at h3
      rw [h3]
  · show 1 % n * (A % n) ^ E % n = g
    rw [Nat.mul_mod, Nat.mod_mod, ← Nat.pow_mod, ← Nat.mul_mod, Nat.one_mul, hg]
theorem c22 {A E n : Nat} (hn : 0 < n) (hn2 : n ≤ 2147483647) (hE : E < 9223372036854775808) {m : Nat} (hm : 100 ≤ m) (H : Heap) : callPure (evF tab it m) true 22 [.int .i64 (A : Int), .int .i64 (E : Int), .int .i64 (n : Int)] H = some (.int .i64 ((A ^ E % n : Nat) : Int), H) :=
  callPure_free rfl (by simp) (f22 hn hn2 hE m hm) rfl

/-! ### Euclid's way -/
structure EI (A B g : Nat) (a b : Nat) (x y : Int) : Prop where
  ex : ∃ X Y : Nat, ∃ s : Int, (s = 1 ∨ s = -1) ∧ x = s * X ∧ y = -(s * Y) ∧ X * b + Y * a = B ∧ X ≤ B ∧ Y ≤ B
  dx : (B : Int) ∣ x * A - a
  dy : (B : Int) ∣ y * A - b
  gg : Nat.gcd a b = g
theorem EI.step {A B g a b : Nat} {x y : Int} (h : EI A B g a b x y) (hb : 0 < b) : EI A B g b (a - a / b * b) y (x - ((a / b : Nat) : Int) * y) ∧ a / b * b ≤ a ∧ (-(B : Int) ≤ ((a / b : Nat) : Int) * y ∧ ((a / b : Nat) : Int) * y ≤ B) ∧ (-(B : Int) ≤ x - ((a / b : Nat) : Int) * y ∧ x - ((a / b : Nat) : Int) * y ≤ B) := by
  obtain ⟨⟨X, Y, s, hs, rfl, rfl, e, hX, hY⟩, dx, dy, gg⟩ := h
  generalize hq : a / b = q
  have hqb : q * b ≤ a := hq ▸ Nat.div_mul_le_self a b
  have hmod : a - q * b = a % b := by
    have := Nat.mod_add_div a b
    rw [hq, Nat.mul_comm] at this
    omega
  have e2 : Y * (a - q * b) + (X + q * Y) * b = B := by
    rw [Nat.mul_sub, Nat.add_mul]
    have : Y * (q * b) ≤ Y * a := Nat.mul_le_mul_left _ hqb
    have : q * Y * b = Y * (q * b) := by rw [Nat.mul_comm q Y, Nat.mul_assoc]
    omega
  have hY' : X + q * Y ≤ B := by
    have := Nat.le_mul_of_pos_right (X + q * Y) hb
    omega
  have e3 : s * (X : Int) - (q : Int) * -(s * (Y : Int)) = s * ((X + q * Y : Nat) : Int) := by
    push_cast
    rw [Int.mul_neg, Int.sub_neg, Int.mul_add, Int.mul_left_comm]
  have e4 : (q : Int) * -(s * (Y : Int)) = -(s * ((q * Y : Nat) : Int)) := by
    push_cast
    rw [Int.mul_neg, Int.mul_left_comm]
  refine ⟨⟨⟨Y, X + q * Y, -s, by omega, by rw [Int.neg_mul], by rw [e3, Int.neg_mul, Int.neg_neg], e2, hY, hY'⟩, dy, ?_, ?_⟩, hqb, ?_, ?_⟩
  · have e5 : (s * (X : Int) - (q : Int) * -(s * (Y : Int))) * (A : Int) - ((a - q * b : Nat) : Int) = (s * (X : Int) * A - a) - (q : Int) * (-(s * (Y : Int)) * A - b) := by
      rw [Int.natCast_sub hqb, Int.sub_mul, Int.mul_sub, Int.mul_assoc (q : Int)]
      push_cast
      omega
    rw [e5]
    exact Int.dvd_sub dx (Int.dvd_mul_of_dvd_right dy)
  · rw [hmod, Nat.gcd_comm, ← Nat.gcd_rec, Nat.gcd_comm, gg]
  · rw [e4]
    rcases hs with rfl | rfl <;> omega
  · rw [e3]
    rcases hs with rfl | rfl <;> omega
theorem EI.step_k {a b k : Nat} (hb : 0 < b) (hk : a * b < 2 ^ k) : b * (a - a / b * b) < 2 ^ (if a < b then k else k - 1) ∧ (if a < b then k else k - 1) + (if b < a - a / b * b then 1 else 0) < k + (if a < b then 1 else 0) := by
  have hmod : a - a / b * b = a % b := by
    have := Nat.mod_add_div a b
    rw [Nat.mul_comm] at this
    omega
  rw [hmod]
  by_cases h : a < b
  · simp only [if_pos h]
    rw [Nat.mod_eq_of_lt h, if_neg (by omega)]
    exact ⟨by rw [Nat.mul_comm]; exact hk, by omega⟩
  · simp only [if_neg h]
    obtain ⟨g1, g2, g3⟩ := gcd_step hb (by omega) hk
    rw [if_neg (by omega)]
    exact ⟨g2, by omega⟩
theorem prod126 {A B : Nat} (hA : A < 9223372036854775808) (hB : B < 9223372036854775808) : A * B < 2 ^ 126 :=
  Nat.lt_of_le_of_lt (Nat.mul_le_mul (show A ≤ 9223372036854775807 by omega) (show B ≤ 9223372036854775807 by omega)) (by decide)
theorem sub_mod {a b : Nat} : a - a / b * b = a % b := by
  have := Nat.mod_add_div a b
  rw [Nat.mul_comm] at this
  omega
def eucl (a b : Nat) (x y : Int) : Nat × Int := if h : b = 0 then (a, x) else eucl b (a - a / b * b) y (x - ((a / b : Nat) : Int) * y)
termination_by b
decreasing_by rw [sub_mod]; exact Nat.mod_lt _ (by omega)
theorem eucl_z {a : Nat} {x y : Int} : eucl a 0 x y = (a, x) := by rw [eucl]; rfl
theorem eucl_s {a b : Nat} {x y : Int} (h : 0 < b) : eucl a b x y = eucl b (a - a / b * b) y (x - ((a / b : Nat) : Int) * y) := by rw [eucl, dif_neg (by omega)]
theorem eucl_spec {A B g : Nat} : ∀ (n a b : Nat) (x y : Int), b ≤ n → EI A B g a b x y → (eucl a b x y).1 = g ∧ (B : Int) ∣ (eucl a b x y).2 * A - g ∧ -(B : Int) ≤ (eucl a b x y).2 ∧ (eucl a b x y).2 ≤ B := by
  intro n
  induction n with
  | zero =>
    intro a b x y hb h
    have : b = 0 := by omega
    subst this
    have hg := h.gg
    rw [Nat.gcd_zero_right] at hg
    subst hg
    rw [eucl_z]
    obtain ⟨X, Y, s, hs, rfl, _, _, hX, _⟩ := h.ex
    exact ⟨rfl, h.dx, by rcases hs with rfl | rfl <;> simp only <;> omega, by rcases hs with rfl | rfl <;> simp only <;> omega⟩
  | succ n ih =>
    intro a b x y hb h
    by_cases h0 : b = 0
    · exact (by
        subst h0
        have hg := h.gg
        rw [Nat.gcd_zero_right] at hg
        subst hg
        rw [eucl_z]
        obtain ⟨X, Y, s, hs, rfl, _, _, hX, _⟩ := h.ex
        exact ⟨rfl, h.dx, by rcases hs with rfl | rfl <;> simp only <;> omega, by rcases hs with rfl | rfl <;> simp only <;> omega⟩)
    · rw [eucl_s (by omega)]
      exact ih _ _ _ _ (by rw [sub_mod]; have := Nat.mod_lt a (show b > 0 by omega); omega) (h.step (by omega)).1
theorem EI.init {A B : Nat} (h1 : 1 ≤ B) : EI A B (Nat.gcd A B) A B 1 0 := ⟨⟨1, 0, 1, .inl rfl, by simp, by simp, by simp, h1, by omega⟩, by simp, by simp, rfl⟩
theorem EI.init' {A B : Nat} (h1 : 1 ≤ B) : EI A B (Nat.gcd A B) B A 0 1 := ⟨⟨0, 1, -1, .inr rfl, by simp, by simp, by simp, by omega, h1⟩, by simp, by simp, Nat.gcd_comm B A⟩
theorem f50 {A B : Nat} (hA : A < 9223372036854775808) (h1 : 1 ≤ B) (hB : B ≤ 2147483647) (m : Nat) (hm : 200 ≤ m) : evF tab it m 50 [.int .i64 (A : Int), .int .i64 (B : Int)] [] = some (.tup [.int .i64 ((eucl A B 1 0).1 : Int), .int .i64 (eucl A B 1 0).2], []) := by
  obtain ⟨m, rfl⟩ : ∃ j, m = j + 1 := ⟨m - 1, by omega⟩
  have hAB := prod126 hA (show B < 9223372036854775808 by omega)
  generalize hE : eucl A B 1 0 = E
  refine f_enter rfl rfl ?_
  repeat' first
 | (apply s_mov; (focus ((conv => lhs; whnf); done)))
 | (apply c_nil)
 | (apply c_seq)
 | (apply c_reg)
 | (apply c_block)
 | (with_reducible apply k_c)
  refine c_loop ?_
  refine loop_gc (σ := Nat × Nat × Int × Int × Nat) (fun s => [.int .i64 (s.1 : Int), .int .i64 (s.2.1 : Int), .int .i64 s.2.2.1, .int .i64 s.2.2.2.1]) (fun _ => []) (fun s => EI A B (Nat.gcd A B) s.1 s.2.1 s.2.2.1 s.2.2.2.1 ∧ eucl s.1 s.2.1 s.2.2.1 s.2.2.2.1 = E ∧ s.1 * s.2.1 < 2 ^ s.2.2.2.2 ∧ s.2.2.2.2 ≤ 126 ∧ s.1 < 9223372036854775808 ∧ s.2.1 < 9223372036854775808) (fun s => s.2.2.2.2 + (if s.1 < s.2.1 then 1 else 0)) ?_ _ (A, B, 1, 0, 126) _ _ ⟨EI.init h1, hE, hAB, Nat.le_refl _, hA, by show B < _; omega⟩ (by show 126 + _ < _; split <;> omega) (gc_to rfl (by simp [idFreeL, AV.idFree, *]; done))
  intro ⟨a, b, x, y, k⟩ ⟨hi, he, h2, h3, ha, hb⟩ K hK
  dsimp only at hi he h2 h3 ha hb hK ⊢
  have hst : 0 < b → _ := fun h => hi.step h
  have hsk : 0 < b → _ := fun h => EI.step_k h h2
  by_cases h0 : b = 0
  · subst h0
    repeat' first
 | (apply s_mov; (focus ((conv => lhs; whnf); done)))
 | (apply c_nil)
 | ((first | apply s_lss | apply s_leq | apply s_gtr | apply s_geq | apply s_eql | apply s_neq); exact rfl; all_goals (intro _; try (exfalso; omega)))
 | (apply c_seq)
 | (apply c_reg)
 | (apply c_exitH)
 | (apply c_ret)
 | (apply c_condF; exact rfl)
 | (apply c_preF; (focus (repeat (first | apply looks_nil | (apply looks_cons; (focus ((conv => lhs; whnf); done)))))); (focus (simp [idFreeL, AV.idFree, *]; done)))
 | (with_reducible apply k_c)
    rw [eucl_z] at he
    subst he
    exact fin_tt (by (conv => lhs; whnf)) (by (conv => lhs; whnf)) (by rfl) (by rfl) rfl
  · obtain ⟨g1, g2, g3, g4⟩ := hst (by omega)
    obtain ⟨g5, g6⟩ := hsk (by omega)
    rw [eucl_s (by omega)] at he
    repeat' first
 | (apply s_mov; (focus ((conv => lhs; whnf); done)))
 | (apply c_nil)
 | ((first | apply s_lss | apply s_leq | apply s_gtr | apply s_geq | apply s_eql | apply s_neq); exact rfl; all_goals (intro _; try (exfalso; omega)))
 | (apply s_subN; exact rfl; omega; omega)
 | (apply s_mul; exact rfl; omega)
 | ((first | apply s_add | apply s_sub); exact rfl; omega)
 | (apply s_quoN; exact rfl; omega; omega)
 | (apply c_seq)
 | (apply c_reg)
 | (apply c_block)
 | (apply c_skip)
 | (apply c_condT; exact rfl)
 | (with_reducible apply k_c)
    exact hK (b, a - a / b * b, y, x - ((a / b : Nat) : Int) * y, if a < b then k else k - 1) _ _ ⟨g1, he, g5, by show (if a < b then k else k - 1) ≤ 126; split <;> omega, hb, by show a - a / b * b < _; omega⟩ g6 (gc_to rfl (by simp [idFreeL, AV.idFree, *]; done))
theorem c50 {A B : Nat} (hA : A < 9223372036854775808) (h1 : 1 ≤ B) (hB : B ≤ 2147483647) {m : Nat} (hm : 200 ≤ m) (H : Heap) : callPure (evF tab it m) true 50 [.int .i64 (A : Int), .int .i64 (B : Int)] H = some (.tup [.int .i64 ((eucl A B 1 0).1 : Int), .int .i64 (eucl A B 1 0).2], H) :=
  callPure_free rfl (by simp) (f50 hA h1 hB m hm) rfl
theorem tmod_add {x m : Int} (hm : 0 < m) : (x.tmod m + m).tmod m = x % m := by
  have h1 : m ∣ x - x.tmod m := ⟨x.tdiv m, by have := Int.tmod_add_mul_tdiv x m; omega⟩
  have h2 : -m < x.tmod m ∧ x.tmod m < m := by
    have a := Int.tmod_lt_of_pos x hm
    have b := Int.lt_tmod_of_pos x hm
    omega
  rw [Int.tmod_eq_emod_of_nonneg (by omega), Int.add_emod_right]
  refine Int.emod_eq_emod_iff_emod_sub_eq_zero.2 (Int.emod_eq_zero_of_dvd ?_)
  have : x.tmod m - x = -(x - x.tmod m) := by omega
  rw [this]
  exact Int.dvd_neg.2 h1
/-- the inverse: z below m with z a = 1 modulo m -/
theorem inv_uniq {a m y z : Int} (hm : 0 < m) (hy : m ∣ y * a - 1) (hz : m ∣ z * a - 1) : y % m = z % m := by
  refine Int.emod_eq_emod_iff_emod_sub_eq_zero.2 (Int.emod_eq_zero_of_dvd ?_)
  have h : m ∣ (y * (z * a - 1) - z * (y * a - 1)) := Int.dvd_sub (Int.dvd_mul_of_dvd_right hz) (Int.dvd_mul_of_dvd_right hy)
  have e : y * (z * a - 1) - z * (y * a - 1) = -(y - z) := by
    rw [Int.mul_sub, Int.mul_sub, Int.mul_left_comm y z a]
    omega
  rw [e] at h
  exact Int.dvd_neg.1 h
/-- what Inverse returns -/
def invOf (a m : Nat) : Int := (eucl a m 1 0).2 % m
theorem eucl_g {A B : Nat} (h1 : 1 ≤ B) : (eucl A B 1 0).1 = Nat.gcd A B := (eucl_spec B A B 1 0 (Nat.le_refl _) (EI.init h1)).1
theorem eucl_d {A B : Nat} (h1 : 1 ≤ B) : (B : Int) ∣ (eucl A B 1 0).2 * A - (Nat.gcd A B : Nat) ∧ -(B : Int) ≤ (eucl A B 1 0).2 ∧ (eucl A B 1 0).2 ≤ B := (eucl_spec B A B 1 0 (Nat.le_refl _) (EI.init h1)).2
theorem f34 (a n : Int) (m : Nat) (hm : 203 ≤ m) : evF tab it m 34 [.int .i64 a, .int .i64 n] [] = some (.tup (if IsRest a n then (if Nat.gcd a.toNat n.toNat = 1 then [.int .i64 (invOf a.toNat n.toNat), .int .i64 0] else [.int .i64 0, .int .i64 6]) else [.int .i64 0, .int .i64 2]), []) := by
  obtain ⟨m, rfl⟩ : ∃ j, m = j + 1 := ⟨m - 1, by omega⟩
  by_cases hr : IsRest a n
  · obtain ⟨A, rfl⟩ : ∃ A : Nat, a = A := ⟨a.toNat, by have := hr.2.1; omega⟩
    obtain ⟨N, rfl⟩ : ∃ A : Nat, n = A := ⟨n.toNat, by have := hr.1.1; omega⟩
    rw [if_pos hr]
    simp only [Int.toNat_natCast]
    have hr' := hr
    unfold IsRest IsNum at hr'
    have e1 := eucl_g (A := A) (B := N) (by omega)
    have e2 := eucl_d (A := A) (B := N) (by omega)
    have e3 : invOf A N = _ := rfl
    unfold invOf at e3
    have e4 := tmod_add (x := (eucl A N 1 0).2) (m := N) (by omega)
    have e5 : -(N : Int) ≤ ((eucl A N 1 0).2).tmod N ∧ ((eucl A N 1 0).2).tmod N ≤ N := by
      have a := Int.tmod_lt_of_pos (eucl A N 1 0).2 (show (0 : Int) < N by omega)
      have b := Int.lt_tmod_of_pos (eucl A N 1 0).2 (show (0 : Int) < N by omega)
      omega
    refine f_enter rfl rfl ?_
    repeat' first
 | (apply s_mov; (focus ((conv => lhs; whnf); done)))
 | (apply c_nil)
 | (apply s_notT; exact rfl)
 | (apply s_notF; exact rfl)
 | ((first | apply s_lss | apply s_leq | apply s_gtr | apply s_geq | apply s_eql | apply s_neq); exact rfl; all_goals (intro _; try (exfalso; omega)))
 | (apply isE; refine s_cB (by (focus (repeat (first | apply opds_nil | (apply opds_cons; (first | (focus ((conv => lhs; whnf); done)) | exact rfl)))))) (c49 (by omega) _ _ _) (fun _ => ?_) (fun _ => ?_))
 | (apply s_cn; (focus (repeat (first | apply opds_nil | (apply opds_cons; (first | (focus ((conv => lhs; whnf); done)) | exact rfl))))); exact c50 (by omega) (by omega) (by omega) (by omega) _)
 | (apply s_rem; exact rfl; omega)
 | ((first | apply s_add | apply s_sub); exact rfl; omega)
 | (apply s_pd; (focus ((conv => lhs; whnf); done)))
 | (apply c_seq)
 | (apply c_reg)
 | (apply c_skip)
 | (apply c_ret)
 | (apply c_condT; exact rfl)
 | (apply c_condF; exact rfl)
 | (with_reducible apply k_c)
    · rw [if_pos (by omega)]
      refine fin_tt (by (conv => lhs; whnf)) (by (conv => lhs; whnf)) (by rfl) (by rfl) ?_
      rw [e4]
      rfl
    · rw [if_neg (by omega)]
      exact fin_tt (by (conv => lhs; whnf)) (by (conv => lhs; whnf)) (by rfl) (by rfl) rfl
    · exact absurd hr (by assumption)
  · rw [if_neg hr]
    refine f_enter rfl rfl ?_
    repeat' first
 | (apply s_mov; (focus ((conv => lhs; whnf); done)))
 | (apply c_nil)
 | (apply s_notT; exact rfl)
 | (apply s_notF; exact rfl)
 | (apply isE; refine s_cB (by (focus (repeat (first | apply opds_nil | (apply opds_cons; (first | (focus ((conv => lhs; whnf); done)) | exact rfl)))))) (c49 (by omega) _ _ _) (fun _ => ?_) (fun _ => ?_))
 | (apply c_seq)
 | (apply c_reg)
 | (apply c_skip)
 | (apply c_ret)
 | (apply c_condT; exact rfl)
 | (apply c_condF; exact rfl)
 | (with_reducible apply k_c)
    · exact absurd (by assumption) hr
    · exact fin_tt (by (conv => lhs; whnf)) (by (conv => lhs; whnf)) (by rfl) (by rfl) rfl
theorem c34 {m : Nat} (hm : 203 ≤ m) (a n : Int) (H : Heap) : callPure (evF tab it m) true 34 [.int .i64 a, .int .i64 n] H = some (.tup (if IsRest a n then (if Nat.gcd a.toNat n.toNat = 1 then [.int .i64 (invOf a.toNat n.toNat), .int .i64 0] else [.int .i64 0, .int .i64 6]) else [.int .i64 0, .int .i64 2]), H) :=
  callPure_free rfl (by simp) (f34 a n m hm) (by split <;> (try split) <;> rfl)
theorem invOf_spec {a n : Nat} (h1 : 1 ≤ n) (hg : Nat.gcd a n = 1) : 0 ≤ invOf a n ∧ invOf a n < n ∧ (n : Int) ∣ invOf a n * a - 1 := by
  obtain ⟨d, _⟩ := eucl_d (A := a) h1
  rw [hg] at d
  unfold invOf
  refine ⟨Int.emod_nonneg _ (by omega), Int.emod_lt_of_pos _ (by omega), ?_⟩
  have e : (n : Int) ∣ (eucl a n 1 0).2 - (eucl a n 1 0).2 % n := ⟨(eucl a n 1 0).2 / n, by have := Int.emod_add_mul_ediv (eucl a n 1 0).2 n; omega⟩
  have := Int.dvd_sub d (Int.dvd_trans e (Int.dvd_mul_right _ (a : Int)))
  rw [Int.sub_mul] at this
  have e2 : (eucl a n 1 0).2 * (a : Int) - ((1 : Nat) : Int) - ((eucl a n 1 0).2 * a - (eucl a n 1 0).2 % n * a) = (eucl a n 1 0).2 % n * a - 1 := by omega
  rwa [e2] at this
/-- the reference's inverse -/
theorem f36 {A B : Nat} (h1 : 1 ≤ B) (hB : B ≤ 2147483647) (hA : A < 9223372036854775808) (m : Nat) (hm : 203 ≤ m) : evF tab it m 36 [.int .i64 (A : Int), .int .i64 (B : Int)] [] = some (.tup (if Nat.gcd A B = 1 then [.int .i64 (invOf A B), .bool true] else [.int .i64 0, .bool false]), []) := by
  obtain ⟨m, rfl⟩ : ∃ j, m = j + 1 := ⟨m - 1, by omega⟩
  have hAB := prod126 (show B < 9223372036854775808 by omega) hA
  have hE : ∀ x : Int, (B : Int) ∣ x * A - (Nat.gcd A B : Nat) → Nat.gcd A B = 1 → (x.tmod B + B).tmod B = invOf A B := fun x hx hg => by
    rw [tmod_add (by omega)]
    rw [hg] at hx
    have d := (eucl_d (A := A) h1).1
    rw [hg] at d
    exact inv_uniq (by omega) hx d
  refine f_enter rfl rfl ?_
  repeat' first
 | (apply s_mov; (focus ((conv => lhs; whnf); done)))
 | (apply c_nil)
 | ((first | apply s_lss | apply s_leq | apply s_gtr | apply s_geq | apply s_eql | apply s_neq); exact rfl; all_goals (intro _; try (exfalso; omega)))
 | (apply s_cn; (focus (repeat (first | apply opds_nil | (apply opds_cons; (first | (focus ((conv => lhs; whnf); done)) | exact rfl))))); exact c53 (by omega) (by omega) (by omega) _)
 | (apply c_seq)
 | (apply c_reg)
 | (apply c_block)
 | (apply c_skip)
 | (apply c_ret)
 | (apply c_condT; exact rfl)
 | (apply c_condF; exact rfl)
 | (with_reducible apply k_c)
  · rw [if_pos (by omega)]
    refine c_loop ?_
    refine loop_gc (σ := Nat × Nat × Int × Int × Nat) (fun s => [.int .i64 (B : Int), .int .i64 (s.1 : Int), .int .i64 (s.2.1 : Int), .int .i64 s.2.2.1, .int .i64 s.2.2.2.1]) (fun _ => []) (fun s => EI A B (Nat.gcd A B) s.1 s.2.1 s.2.2.1 s.2.2.2.1 ∧ s.1 * s.2.1 < 2 ^ s.2.2.2.2 ∧ s.2.2.2.2 ≤ 126 ∧ s.1 < 9223372036854775808 ∧ s.2.1 < 9223372036854775808) (fun s => s.2.2.2.2 + (if s.1 < s.2.1 then 1 else 0)) ?_ _ (B, A, 0, 1, 126) _ _ ⟨EI.init' h1, hAB, Nat.le_refl _, by show B < _; omega, hA⟩ (by show 126 + _ < _; split <;> omega) (gc_to rfl (by simp [idFreeL, AV.idFree, *]; done))
    intro ⟨a, b, x, y, k⟩ ⟨hi, h2, h3, ha, hb⟩ K hK
    dsimp only at hi h2 h3 ha hb hK ⊢
    by_cases h0 : b = 0
    · subst h0
      have hg := hi.gg
      rw [Nat.gcd_zero_right] at hg
      obtain ⟨X, Y, s, hs, hx, _, _, hX, _⟩ := hi.ex
      have hx2 : -(B : Int) ≤ x ∧ x ≤ B := by rcases hs with rfl | rfl <;> omega
      have hx3 := hE x (by rw [← hg]; exact hi.dx) (by omega)
      have e5 : -(B : Int) ≤ x.tmod B ∧ x.tmod B ≤ B := by
        have a := Int.tmod_lt_of_pos x (show (0 : Int) < B by omega)
        have b := Int.lt_tmod_of_pos x (show (0 : Int) < B by omega)
        omega
      repeat' first
 | (apply s_mov; (focus ((conv => lhs; whnf); done)))
 | (apply c_nil)
 | ((first | apply s_lss | apply s_leq | apply s_gtr | apply s_geq | apply s_eql | apply s_neq); exact rfl; all_goals (intro _; try (exfalso; omega)))
 | (apply s_rem; exact rfl; omega)
 | ((first | apply s_add | apply s_sub); exact rfl; omega)
 | (apply c_seq)
 | (apply c_reg)
 | (apply c_exitH)
 | (apply c_ret)
 | (apply c_condF; exact rfl)
 | (apply c_preF; (focus (repeat (first | apply looks_nil | (apply looks_cons; (focus ((conv => lhs; whnf); done)))))); (focus (simp [idFreeL, AV.idFree, *]; done)))
 | (with_reducible apply k_c)
      refine fin_tt (by (conv => lhs; whnf)) (by (conv => lhs; whnf)) (by rfl) (by rfl) ?_
      rw [hx3]
    · obtain ⟨g1, g2, g3, g4⟩ := hi.step (by omega)
      obtain ⟨g5, g6⟩ := EI.step_k (by omega) h2
      repeat' first
 | (apply s_mov; (focus ((conv => lhs; whnf); done)))
 | (apply c_nil)
 | ((first | apply s_lss | apply s_leq | apply s_gtr | apply s_geq | apply s_eql | apply s_neq); exact rfl; all_goals (intro _; try (exfalso; omega)))
 | (apply s_subN; exact rfl; omega; omega)
 | (apply s_mul; exact rfl; omega)
 | ((first | apply s_add | apply s_sub); exact rfl; omega)
 | (apply s_quoN; exact rfl; omega; omega)
 | (apply c_seq)
 | (apply c_reg)
 | (apply c_block)
 | (apply c_skip)
 | (apply c_condT; exact rfl)
 | (with_reducible apply k_c)
      exact hK (b, a - a / b * b, y, x - ((a / b : Nat) : Int) * y, if a < b then k else k - 1) _ _ ⟨g1, g5, by show (if a < b then k else k - 1) ≤ 126; split <;> omega, hb, by show a - a / b * b < _; omega⟩ g6 (gc_to rfl (by simp [idFreeL, AV.idFree, *]; done))
  · rw [if_neg (by omega)]
    exact fin_tt (by (conv => lhs; whnf)) (by (conv => lhs; whnf)) (by rfl) (by rfl) rfl
theorem c36 {A B : Nat} (h1 : 1 ≤ B) (hB : B ≤ 2147483647) (hA : A < 9223372036854775808) {m : Nat} (hm : 203 ≤ m) (H : Heap) : callPure (evF tab it m) true 36 [.int .i64 (A : Int), .int .i64 (B : Int)] H = some (.tup (if Nat.gcd A B = 1 then [.int .i64 (invOf A B), .bool true] else [.int .i64 0, .bool false]), H) :=
  callPure_free rfl (by simp) (f36 h1 hB hA m hm) (by split <;> rfl)
end Go.AM.Pr
