/- A part of the proof: SE2 S4 S5 S6 S7 S8. -/
import Derived.Test.YtbjkmejlecoebaaS3
set_option linter.unusedSectionVars false
set_option linter.unusedVariables false
set_option linter.unusedSimpArgs false
namespace Go.AM.Num
structure FacR (l : List (Nat × Nat)) : Prop where
  all : ∀ x ∈ l, IsPr x.1 ∧ 1 ≤ x.2
  asc : (l.map (·.1)).Pairwise (· < ·)
structure Fac (l : List (Nat × Nat)) (n : Nat) : Prop extends FacR l where
  prod : prodL l = n
theorem prodL_cons (x : Nat × Nat) (l : List (Nat × Nat)) : prodL (x :: l) = x.1 ^ x.2 * prodL l := rfl
theorem prodL_append : ∀ (l r : List (Nat × Nat)), prodL (l ++ r) = prodL l * prodL r
  | [], r => by simp [prodL]
  | x :: l, r => by rw [List.cons_append, prodL_cons, prodL_cons, prodL_append l r, Nat.mul_assoc]
theorem FacR.tail {x : Nat × Nat} {l : List (Nat × Nat)} (h : FacR (x :: l)) : FacR l := ⟨fun y hy => h.all y (List.mem_cons_of_mem _ hy), by have := h.asc; rw [List.map_cons, List.pairwise_cons] at this; exact this.2⟩
theorem FacR.head_lt {x : Nat × Nat} {l : List (Nat × Nat)} (h : FacR (x :: l)) : ∀ y ∈ l, x.1 < y.1 := fun y hy => by
  have := h.asc
  rw [List.map_cons, List.pairwise_cons] at this
  exact this.1 y.1 (List.mem_map_of_mem hy)
theorem FacR.append {l r : List (Nat × Nat)} (h : FacR (l ++ r)) : FacR l ∧ FacR r ∧ ∀ x ∈ l, ∀ y ∈ r, x.1 < y.1 := by
  have h2 := h.asc
  rw [List.map_append, List.pairwise_append] at h2
  exact ⟨⟨fun x hx => h.all x (List.mem_append_left _ hx), h2.1⟩, ⟨fun x hx => h.all x (List.mem_append_right _ hx), h2.2.1⟩, fun x hx y hy => h2.2.2 _ (List.mem_map_of_mem hx) _ (List.mem_map_of_mem hy)⟩
theorem FacR.pos {l : List (Nat × Nat)} (h : FacR l) : 1 ≤ prodL l := by
  induction l with
  | nil => simp [prodL]
  | cons x l ih =>
    rw [prodL_cons]
    have := (h.all x List.mem_cons_self).1.1
    exact Nat.mul_le_mul (Nat.pow_pos (by omega)) (ih h.tail)
theorem fac_ex {n : Nat} (h1 : 1 ≤ n) : ∃ l, Fac l n := by
  obtain ⟨e1, e2, e3⟩ := dv_spec n 2 n (by omega) h1 (fun d h _ => h) (by
    have := Nat.mul_le_mul (show 1 ≤ 2 + n by omega) (show n + 1 ≤ 2 + n by omega)
    omega)
  exact ⟨dv n 2 n, ⟨fun x hx => ⟨(e2 x hx).1, (e2 x hx).2.1⟩, e3⟩, e1⟩
theorem pr_dvd_pr {p q : Nat} (hp : IsPr p) (hq : IsPr q) (h : p ∣ q) : p = q := by
  rcases hq.2 p h with e | e
  · have := hp.1; omega
  · exact e
/-- a prime that does not divide is prime to it -/
theorem pr_cop_or {p n : Nat} (hp : IsPr p) : Nat.Coprime p n ∨ p ∣ n := by
  rcases hp.2 (Nat.gcd p n) (Nat.gcd_dvd_left p n) with e | e
  · exact .inl e
  · exact .inr (e ▸ Nat.gcd_dvd_right p n)
theorem pr_dvd_mul {p a b : Nat} (hp : IsPr p) (h : p ∣ a * b) : p ∣ a ∨ p ∣ b := by
  rcases pr_cop_or (n := a) hp with e | e
  · exact .inr (Nat.Coprime.dvd_of_dvd_mul_left e h)
  · exact .inl e
theorem pr_dvd_pow {p a : Nat} (hp : IsPr p) : ∀ {k : Nat}, p ∣ a ^ k → p ∣ a
  | 0, h => by
    rw [Nat.pow_zero] at h
    have := Nat.le_of_dvd (by omega) h
    have := hp.1
    omega
  | k + 1, h => by
    rw [Nat.pow_succ] at h
    rcases pr_dvd_mul hp h with e | e
    · exact pr_dvd_pow hp e
    · exact e
theorem pr_dvd_prod {p : Nat} (hp : IsPr p) : ∀ {l : List (Nat × Nat)}, (∀ x ∈ l, IsPr x.1 ∧ 1 ≤ x.2) → p ∣ prodL l → ∃ e, (p, e) ∈ l
  | [], _, h => by
    simp [prodL] at h
    have := hp.1
    omega
  | x :: l, ha, h => by
    rw [prodL_cons] at h
    rcases pr_dvd_mul hp h with e | e
    · have := pr_dvd_pr hp (ha x List.mem_cons_self).1 (pr_dvd_pow hp e)
      exact ⟨x.2, by rw [this]; exact List.mem_cons_self⟩
    · obtain ⟨k, hk⟩ := pr_dvd_prod hp (fun y hy => ha y (List.mem_cons_of_mem _ hy)) e
      exact ⟨k, List.mem_cons_of_mem _ hk⟩
theorem mem_dvd_prod : ∀ {l : List (Nat × Nat)} {x : Nat × Nat}, x ∈ l → x.1 ^ x.2 ∣ prodL l
  | y :: l, x, h => by
    rw [prodL_cons]
    rcases List.mem_cons.1 h with rfl | h
    · exact ⟨_, rfl⟩
    · exact Nat.dvd_trans (mem_dvd_prod h) ⟨_, Nat.mul_comm _ _⟩
theorem FacR.not_dvd {p : Nat} {l : List (Nat × Nat)} (hl : ∀ x ∈ l, IsPr x.1 ∧ 1 ≤ x.2) (hp : IsPr p) (h : ∀ x ∈ l, p < x.1) : ¬ p ∣ prodL l := fun hd => by
  obtain ⟨e, he⟩ := pr_dvd_prod hp hl hd
  exact absurd (h _ he) (Nat.lt_irrefl p)
theorem pow_cancel {p a b x y : Nat} (hp : 2 ≤ p) (hx : ¬ p ∣ x) (hy : ¬ p ∣ y) (h : p ^ a * x = p ^ b * y) : a = b ∧ x = y := by
  have key : ∀ {a b x y : Nat}, ¬ p ∣ x → p ^ a * x = p ^ b * y → ¬ a < b := fun {a b x y} hx h hlt => by
    obtain ⟨c, rfl⟩ : ∃ c, b = a + (c + 1) := ⟨b - a - 1, by omega⟩
    rw [Nat.pow_add, Nat.mul_assoc] at h
    have := Nat.eq_of_mul_eq_mul_left (Nat.pow_pos (by omega)) h
    rw [Nat.pow_succ] at this
    exact hx ⟨p ^ c * y, by rw [this]; simp only [Nat.mul_comm, Nat.mul_left_comm, Nat.mul_assoc]⟩
  have e : a = b := by
    have := key hx h
    have := key hy h.symm
    omega
  subst e
  exact ⟨rfl, Nat.eq_of_mul_eq_mul_left (Nat.pow_pos (by omega)) h⟩
theorem fac_one {l : List (Nat × Nat)} (h : Fac l 1) : l = [] := by
  cases l with
  | nil => rfl
  | cons x l =>
    have hx := h.all x List.mem_cons_self
    have := mem_dvd_prod (l := x :: l) (x := x) List.mem_cons_self
    rw [h.prod] at this
    have := Nat.le_of_dvd (by omega) this
    have := Nat.pow_le_pow_right (show 0 < x.1 by have := hx.1.1; omega) hx.2
    have := hx.1.1
    rw [Nat.pow_one] at *
    omega
theorem fac_uniq : ∀ {l r : List (Nat × Nat)} {n : Nat}, Fac l n → Fac r n → l = r
  | [], r, n, h, g => by
    have : n = 1 := h.prod.symm
    subst this
    exact (fac_one g).symm
  | x :: l, [], n, h, g => by
    have : n = 1 := g.prod.symm
    subst this
    exact fac_one h
  | x :: l, y :: r, n, h, g => by
    have hx := h.all x List.mem_cons_self
    have hy := g.all y List.mem_cons_self
    have dx : x.1 ∣ prodL (y :: r) := by rw [g.prod, ← h.prod]; exact Nat.dvd_trans (Nat.dvd_of_pow_dvd hx.2 (Nat.dvd_refl _)) (mem_dvd_prod List.mem_cons_self)
    have dy : y.1 ∣ prodL (x :: l) := by rw [h.prod, ← g.prod]; exact Nat.dvd_trans (Nat.dvd_of_pow_dvd hy.2 (Nat.dvd_refl _)) (mem_dvd_prod List.mem_cons_self)
    obtain ⟨e, he⟩ := pr_dvd_prod hx.1 g.all dx
    obtain ⟨f, hf⟩ := pr_dvd_prod hy.1 h.all dy
    have l1 : y.1 ≤ x.1 := by
      rcases List.mem_cons.1 he with q | q
      · rw [← q]; exact Nat.le_refl _
      · exact Nat.le_of_lt (g.toFacR.head_lt (x.1, e) q)
    have l2 : x.1 ≤ y.1 := by
      rcases List.mem_cons.1 hf with q | q
      · rw [← q]; exact Nat.le_refl _
      · exact Nat.le_of_lt (h.toFacR.head_lt (y.1, f) q)
    have e1 : x.1 = y.1 := by omega
    have hp := h.prod.trans g.prod.symm
    rw [prodL_cons, prodL_cons, ← e1] at hp
    obtain ⟨e2, e3⟩ := pow_cancel hx.1.1 (FacR.not_dvd (fun y hy => h.all y (List.mem_cons_of_mem _ hy)) hx.1 h.toFacR.head_lt) (FacR.not_dvd (fun y hy => g.all y (List.mem_cons_of_mem _ hy)) hx.1 (e1 ▸ g.toFacR.head_lt)) hp
    have := fac_uniq ⟨h.toFacR.tail, e3⟩ ⟨g.toFacR.tail, rfl⟩
    rw [this]
    obtain ⟨a, b⟩ := x
    obtain ⟨c, d⟩ := y
    simp only at e1 e2
    rw [e1, e2]
theorem fac_pr {n : Nat} (h : IsPr n) : Fac [(n, 1)] n := ⟨⟨fun x hx => by simp at hx; subst hx; exact ⟨h, Nat.le_refl 1⟩, by simp⟩, by simp [prodL]⟩
theorem pr_ex {n : Nat} (h : 1 < n) : ∃ p, IsPr p ∧ p ∣ n := by
  obtain ⟨l, hl⟩ := fac_ex (n := n) (by omega)
  cases l with
  | nil => have := hl.prod; simp [prodL] at this; omega
  | cons x l =>
    have hx := hl.all x List.mem_cons_self
    exact ⟨x.1, hx.1, by rw [← hl.prod]; exact Nat.dvd_trans (Nat.dvd_of_pow_dvd hx.2 (Nat.dvd_refl _)) (mem_dvd_prod List.mem_cons_self)⟩
/-- no prime below q divides it -/
theorem FacR.rough {r : List (Nat × Nat)} {q : Nat} (h : FacR r) (hq : ∀ x ∈ r, q ≤ x.1) : Rough q (prodL r) := fun d h1 h2 => by
  obtain ⟨p, hp, hd⟩ := pr_ex h1
  obtain ⟨e, he⟩ := pr_dvd_prod hp h.all (Nat.dvd_trans hd h2)
  have := hq _ he
  have := Nat.le_of_dvd (by omega) hd
  omega
end Go.AM.Num

set_option linter.unusedSectionVars false
set_option linter.unusedVariables false
set_option linter.unusedSimpArgs false
namespace Go.AM.Pr
open Go.AM.Num
/-- what a closure does that divide calls -/
structure Clo (m g : Nat) (caps : List AV) (k : Nat) (S : List (Nat × Nat) → Heap) (L : List (Nat × Nat)) : Prop where
  hk : (S []).length = k
  g2 : ∀ l (a : Int), gc k [.int .i64 a, .fn g caps] (S l) = some ([.int .i64 a, .fn g caps], S l)
  g3 : ∀ l (a b : Int), gc k [.int .i64 a, .fn g caps, .int .i64 b] (S l) = some ([.int .i64 a, .fn g caps, .int .i64 b], S l)
  g4 : ∀ l (a b c : Int), gc k [.int .i64 a, .fn g caps, .int .i64 b, .int .i64 c] (S l) = some ([.int .i64 a, .fn g caps, .int .i64 b, .int .i64 c], S l)
  fin : ∀ l, gc k [.tup []] (S l) = some ([.tup []], S l)
  call : ∀ l (q t : Nat) r, L = l ++ (q, t) :: r → ∃ H', callMut (evF tab it m) g ([.int .i64 (q : Int), .int .i64 (t : Int)] ++ caps) (S l) = some (.tup [], H') ∧
    (∀ a b : Int, gc k [.int .i64 a, .fn g caps, .int .i64 b] H' = some ([.int .i64 a, .fn g caps, .int .i64 b], S (l ++ [(q, t)]))) ∧ gc k [.tup []] H' = some ([.tup []], S (l ++ [(q, t)]))
theorem head_eq {r : List (Nat × Nat)} {q : Nat} (h : FacR r) (hq : ∀ x ∈ r, q ≤ x.1) (hp : IsPr q) (hd : q ∣ prodL r) : ∃ e t, r = (q, e) :: t := by
  obtain ⟨e, he⟩ := pr_dvd_prod hp h.all hd
  cases r with
  | nil => cases he
  | cons x t =>
    rcases List.mem_cons.1 he with h1 | h1
    · exact ⟨e, t, by rw [h1]⟩
    · have a := h.head_lt (q, e) h1
      have b := hq x List.mem_cons_self
      simp only at a
      omega
/-- what is left at q: a power of q, and greater primes -/
theorem split_at {r : List (Nat × Nat)} {q : Nat} (h : FacR r) (hq2 : 2 ≤ q) (hq : ∀ x ∈ r, q ≤ x.1) : ∃ e t, prodL r = q ^ e * prodL t ∧ ¬ q ∣ prodL t ∧ (∀ x ∈ t, q + 1 ≤ x.1) ∧ (if 0 < e then r = (q, e) :: t else r = t) := by
  by_cases hd : q ∣ prodL r
  · have hp := rough_dvd_pr (h.rough hq) hq2 hd
    obtain ⟨e, t, rfl⟩ := head_eq h hq hp hd
    have he := (h.all _ List.mem_cons_self).2
    refine ⟨e, t, rfl, FacR.not_dvd (fun y hy => h.all y (List.mem_cons_of_mem _ hy)) hp h.head_lt, h.head_lt, ?_⟩
    rw [if_pos (show 0 < e from he)]
  · refine ⟨0, r, by simp, hd, fun x hx => ?_, by simp⟩
    rcases (by have := hq x hx; omega : q = x.1 ∨ q + 1 ≤ x.1) with e | e
    · exact absurd (e ▸ Nat.dvd_trans (Nat.dvd_of_pow_dvd (h.all x hx).2 (Nat.dvd_refl _)) (mem_dvd_prod hx)) hd
    · exact e
theorem f58 {N g k m : Nat} {caps : List AV} {S : List (Nat × Nat) → Heap} {L : List (Nat × Nat)} (h1 : 1 ≤ N) (hN : N ≤ 2147483647) (hL : Fac L N) (hC : Clo m g caps k S L) (hm : 46400 ≤ m) :
    evF tab it (m + 1) 58 [.int .i64 (N : Int), .fn g caps] (S []) = some (.tup [], S L) := by
  refine f_enterH rfl rfl ?_
  rw [hC.hk]
  repeat' first
 | (apply s_mov; (focus ((conv => lhs; whnf); done)))
 | (apply c_nil)
 | (apply c_seq)
 | (apply c_reg)
 | (apply c_block)
 | (with_reducible apply k_c)
  refine c_loop ?_
  refine loop_gc (σ := Nat × Nat × List (Nat × Nat)) (fun s => [.int .i64 (s.1 : Int), .fn g caps, .int .i64 (s.2.1 : Int)]) (fun s => S s.2.2) (fun s => 2 ≤ s.2.1 ∧ s.2.1 ≤ 46342 ∧ ∃ r, L = s.2.2 ++ r ∧ prodL r = s.1 ∧ (∀ x ∈ r, s.2.1 ≤ x.1)) (fun s => 46342 - s.2.1) ?_ _ (N, 2, []) _ _ ⟨by show 2 ≤ 2; omega, by show 2 ≤ 46342; omega, L, rfl, hL.prod, fun x hx => (hL.all x hx).1.1⟩ (by show 46342 - 2 < _; omega) (hC.g3 [] _ _)
  intro ⟨n, q, l⟩ ⟨hq, hb, r, hr, hp, hge⟩ K hK
  dsimp only at hq hb hr hp hge hK ⊢
  have hrf : FacR r := (FacR.append (hr ▸ hL.toFacR)).2.1
  have hnN : n ≤ N := by
    have := hL.prod
    rw [hr, prodL_append, hp] at this
    have hl := (FacR.append (hr ▸ hL.toFacR)).1.pos
    rw [← this]
    exact Nat.le_mul_of_pos_left _ hl
  have hn1 : 1 ≤ n := hp ▸ hrf.pos
  have hs := sq_mono hb
  obtain ⟨e, t, e1, e2, e3, e4⟩ := split_at hrf hq hge
  repeat' first
 | (apply s_mov; (focus ((conv => lhs; whnf); done)))
 | (apply c_nil)
 | ((first | apply s_lss | apply s_leq | apply s_gtr | apply s_geq | apply s_eql | apply s_neq); exact rfl; all_goals (intro _; try (exfalso; omega)))
 | (apply s_mulN; exact rfl; omega)
 | (apply c_seq)
 | (apply c_reg)
 | (apply c_block)
 | (apply c_exitH)
 | (apply c_skip)
 | (apply c_condT; exact rfl)
 | (apply c_condF; exact rfl)
 | (with_reducible apply k_c)
  · have hlt : q + 1 ≤ 46342 := by
      rcases (by omega : q = 46342 ∨ q + 1 ≤ 46342) with rfl | h
      · omega
      · exact h
    refine c_loop ?_
    have he31 : e < 100 := by
      rcases Nat.lt_or_ge e 100 with h | h
      · exact h
      · have a1 := Nat.pow_le_pow_right (show 0 < 2 by omega) h
        have a2 := Nat.pow_le_pow_left hq e
        have a3 := Nat.le_mul_of_pos_right (q ^ e) (show 0 < prodL t by
          have := hp ▸ e1
          rcases Nat.eq_zero_or_pos (prodL t) with z | z
          · rw [z] at this; omega
          · exact z)
        have a4 : 2 ^ 100 ≤ n := by rw [← hp, e1]; omega
        have : 2 ^ 100 ≤ 2147483647 := by omega
        exact absurd this (by decide)
    have hle : ∀ j, j ≤ e → q ^ (e - j) * prodL t ≤ n := fun j hj => by
      rw [← hp, e1]
      exact Nat.mul_le_mul_right _ (Nat.pow_le_pow_right (by omega) (by omega))
    have hz : ∀ j, j < e → q ^ (e - j) * prodL t % q = 0 ∧ q ^ (e - j) * prodL t / q = q ^ (e - (j + 1)) * prodL t := fun j hj => by
      have : q ^ (e - j) * prodL t = q * (q ^ (e - (j + 1)) * prodL t) := by
        rw [show e - j = (e - (j + 1)) + 1 by omega, Nat.pow_succ]
        simp only [Nat.mul_comm, Nat.mul_left_comm, Nat.mul_assoc]
      rw [this]
      exact ⟨Nat.mul_mod_right _ _, Nat.mul_div_cancel_left _ (by omega)⟩
    have hnz : prodL t % q ≠ 0 := fun h => e2 (Nat.dvd_of_mod_eq_zero h)
    have e0 : q ^ (e - e) * prodL t = prodL t := by rw [Nat.sub_self, Nat.pow_zero, Nat.one_mul]
    refine loop_gc (σ := Nat) (fun j => [.int .i64 ((q ^ (e - j) * prodL t : Nat) : Int), .fn g caps, .int .i64 (q : Int), .int .i64 (j : Int)]) (fun _ => S l) (fun j => j ≤ e) (fun j => e - j) ?_ _ 0 _ _ (by omega) (by omega) (by
      rw [Nat.sub_zero, ← e1, hp]
      exact hC.g4 l _ _ _)
    intro j hj K' hK'
    have hj2 := hle j hj
    have hj3 := hz j
    repeat' first
 | (apply s_mov; (focus ((conv => lhs; whnf); done)))
 | (apply c_nil)
 | ((first | apply s_lss | apply s_leq | apply s_gtr | apply s_geq | apply s_eql | apply s_neq); exact rfl; all_goals (intro _; try (exfalso; omega)))
 | ((first | apply s_add | apply s_sub); exact rfl; omega)
 | (apply s_quoN; exact rfl; omega; omega)
 | (apply s_remN; exact rfl; omega)
 | (apply c_seq)
 | (apply c_reg)
 | (apply c_block)
 | (apply c_exitH)
 | (apply c_skip)
 | (apply c_condT; exact rfl)
 | (apply c_condF; exact rfl)
 | (with_reducible apply k_c)
    · have hje : j < e := by
        rcases (by omega : j = e ∨ j < e) with rfl | h
        · rw [e0] at *; omega
        · exact h
      obtain ⟨z1, z2⟩ := hj3 hje
      rw [z2]
      exact hK' (j + 1) _ _ (by omega) (by omega) (hC.g4 l _ _ _)
    · obtain rfl : e = j := by
        rcases (by omega : e = j ∨ j < e) with rfl | h
        · rfl
        · have := (hj3 h).1; omega
      rw [e0] at *
      (try apply k_c)
      apply c_pre
      · exact hC.g4 l _ _ _
      have hn0 : 0 ≤ prodL t := by omega
      by_cases h0 : 0 < e
      · rw [if_pos h0] at e4
        subst e4
        obtain ⟨H', c1, c2, c3⟩ := hC.call l q e t hr
        repeat' first
 | (apply s_mov; (focus ((conv => lhs; whnf); done)))
 | (apply c_nil)
 | ((first | apply s_lss | apply s_leq | apply s_gtr | apply s_geq | apply s_eql | apply s_neq); exact rfl; all_goals (intro _; try (exfalso; omega)))
 | (apply s_en; (focus (repeat (first | apply opds_nil | (apply opds_cons; (first | (focus ((conv => lhs; whnf); done)) | exact rfl))))); exact c1)
 | (apply c_seq)
 | (apply c_reg)
 | (apply c_condT; exact rfl)
 | (with_reducible apply k_c)
        (try apply k_c)
        apply c_pre
        · exact c2 _ _
        repeat' first
 | (apply s_mov; (focus ((conv => lhs; whnf); done)))
 | (apply c_nil)
 | ((first | apply s_add | apply s_sub); exact rfl; omega)
 | (apply c_reg)
        exact hK (prodL t, q + 1, l ++ [(q, e)]) _ _ ⟨by show 2 ≤ q + 1; omega, hlt, t, by simp [hr], rfl, e3⟩ (by show _ - (q + 1) < _; omega) (hC.g3 _ _ _)
      · rw [if_neg h0] at e4
        subst e4
        repeat' first
 | (apply s_mov; (focus ((conv => lhs; whnf); done)))
 | (apply c_nil)
 | ((first | apply s_lss | apply s_leq | apply s_gtr | apply s_geq | apply s_eql | apply s_neq); exact rfl; all_goals (intro _; try (exfalso; omega)))
 | (apply c_seq)
 | (apply c_reg)
 | (apply c_skip)
 | (apply c_condF; exact rfl)
 | (with_reducible apply k_c)
        (try apply k_c)
        apply c_pre
        · exact hC.g3 l _ _
        repeat' first
 | (apply s_mov; (focus ((conv => lhs; whnf); done)))
 | (apply c_nil)
 | ((first | apply s_add | apply s_sub); exact rfl; omega)
 | (apply c_reg)
        exact hK (prodL r, q + 1, l) _ _ ⟨by show 2 ≤ q + 1; omega, hlt, r, hr, rfl, e3⟩ (by show _ - (q + 1) < _; omega) (hC.g3 _ _ _)
  · apply c_pre
    · exact hC.g2 l _
    by_cases hn : 1 < n
    · have hpr := rough_pr (hp ▸ hrf.rough hge) hn (by omega)
      obtain rfl : r = [(n, 1)] := fac_uniq ⟨hrf, hp⟩ (fac_pr hpr)
      obtain ⟨H', c1, c2, c3⟩ := hC.call l n 1 [] hr
      repeat' first
 | (apply s_mov; (focus ((conv => lhs; whnf); done)))
 | (apply c_nil)
 | ((first | apply s_lss | apply s_leq | apply s_gtr | apply s_geq | apply s_eql | apply s_neq); exact rfl; all_goals (intro _; try (exfalso; omega)))
 | (apply s_en; (focus (repeat (first | apply opds_nil | (apply opds_cons; (first | (focus ((conv => lhs; whnf); done)) | exact rfl))))); exact c1)
 | (apply c_seq)
 | (apply c_reg)
 | (apply c_condT; exact rfl)
 | (with_reducible apply k_c)
      simp only [finish, ress, tupOf, Option.bind_some, c3]
      rw [hr]
      rfl
    · obtain rfl : r = [] := fac_one ⟨hrf, by omega⟩
      repeat' first
 | (apply s_mov; (focus ((conv => lhs; whnf); done)))
 | (apply c_nil)
 | ((first | apply s_lss | apply s_leq | apply s_gtr | apply s_geq | apply s_eql | apply s_neq); exact rfl; all_goals (intro _; try (exfalso; omega)))
 | (apply c_seq)
 | (apply c_reg)
 | (apply c_skip)
 | (apply c_condF; exact rfl)
 | (with_reducible apply k_c)
      simp only [finish, ress, tupOf, Option.bind_some, hC.fin]
      rw [hr, List.append_nil]
      rfl
end Go.AM.Pr

set_option linter.unusedSectionVars false
set_option linter.unusedVariables false
set_option linter.unusedSimpArgs false
namespace Go.AM.Pr
attribute [local go_sem] gc subHeap reach_skip ren_free reach_new reach_newp reach_end rangeL roots boxCells nodupB posOf renL AV.ren pickO renH renO looks look bindEnv envOf reach_int reach_bool reach_nilS reach_rd putRow cells_sl cells_int cells_bool cells_nilS cells_rd cells_agg reach_agg reach_tup idFreeL idf_sl idf_ptr idf_int idf_bool idf_nilS idf_rd reach_fn reach_mp cells_fn cells_ptr cells_mp idf_mp idf_fn idf_agg idf_tup
open Go.AM.Num
theorem e_appz_nil {call : CallF} {q sz : Nat} {H : Heap} {cs : List AV} {n : Nat} (hn : n ≠ 0) (hm : n ≤ most) : evE call H (.app false sz q) [.nilS, .rd sz n cs] = some (.sl H.length sz 0 n, H ++ [some (.data cs)]) := by
  simp [evE, appOf, szOk, lenOf, rowOf, hn, hm, killRow, newRow]
theorem e_appz_sl {call : CallF} {q id sz : Nat} {H : Heap} {cs bs : List AV} {n k : Nat} (h : H.data? id = some cs) (hl : cs.length = k * sz) (hn : n ≠ 0) (hm : k + n ≤ most) : evE call H (.app false sz q) [.sl id sz 0 k, .rd sz n bs] = some (.sl (H.set id none).length sz 0 (k + n), H.set id none ++ [some (.data (cs ++ bs))]) := by
  simp [evE, appOf, szOk, lenOf, rowOf, hn, hm, killRow, newRow, h, hl, List.take_of_length_le]
theorem e_stBox {call : CallF} {H : Heap} {id : Nat} {v w : AV} (hH : H[id]? = some (some (.box [w]))) (h1 : v.cells = [v]) (h2 : v.solid = true) (h3 : v.one = true) : evE call H (.st 1) [.ptr id 0, v] = some (.undef, H.set id (some (.box [v]))) := by
  simp [evE, stAt, hH, h1, h2, oneL, h3, putRow]
theorem e_bldP {call : CallF} {H : Heap} {a b : Int} : evE call H (.bldS true true 2 1 [.int .i64 0, .int .i64 0] [(0, 2)]) [.agg [.int .i64 a, .int .i64 b]] = some (.rd 2 1 [.int .i64 a, .int .i64 b], H) := rfl
theorem p_bldP {H : Heap} {a b : Int} : evP H (.bld [.int .i64 0, .int .i64 0] [(0, 1), (1, 1)]) [.int .i64 a, .int .i64 b] = some (.agg [.int .i64 a, .int .i64 b]) := rfl
def cellH (sz : Nat) : Nat → List AV → Heap
  | 0, _ => [some (.box [.nilS])]
  | n + 1, C => [some (.box [.sl 1 sz 0 (n + 1)]), some (.data C)]
def pcs (l : List (Nat × Nat)) : List AV := l.flatMap fun x => [.int .i64 (x.1 : Int), .int .i64 (x.2 : Int)]
theorem pcs_len (l : List (Nat × Nat)) : (pcs l).length = l.length * 2 := by
  induction l with
  | nil => rfl
  | cons x l ih =>
    have : pcs (x :: l) = .int .i64 (x.1 : Int) :: .int .i64 (x.2 : Int) :: pcs l := rfl
    rw [this]
    simp only [List.length_cons, ih]
    omega
theorem pcs_app (l r : List (Nat × Nat)) : pcs (l ++ r) = pcs l ++ pcs r := by simp [pcs]
theorem f62 {q t : Nat} {l : List (Nat × Nat)} (hl : l.length < 1000) {m : Nat} (hm : 1 ≤ m) : evF tab it m 62 [.int .i64 (q : Int), .int .i64 (t : Int), .ptr 0 0] (cellH 2 l.length (pcs l)) =
    some (.tup [], if l.length = 0 then cellH 2 1 (pcs (l ++ [(q, t)])) else [some (.box [.sl 2 2 0 (l.length + 1)]), none, some (.data (pcs (l ++ [(q, t)])))]) := by
  obtain ⟨m, rfl⟩ : ∃ j, m = j + 1 := ⟨m - 1, by omega⟩
  have hlen := pcs_len l
  have hp := pcs_app l [(q, t)]
  generalize evF tab it m = call at *
  have hp1 : pcs [(q, t)] = [.int .i64 (q : Int), .int .i64 (t : Int)] := rfl
  rw [hp1] at hp
  cases hn : l.length with
  | zero =>
    obtain rfl : l = [] := List.length_eq_zero_iff.1 hn
    rw [if_pos rfl]
    refine f_enterH rfl rfl ?_
    rw [hp]
    simp only [cellH]
    repeat' first
 | (apply s_mov; (focus ((conv => lhs; whnf); done)))
 | (apply c_nil)
 | (apply s_pn; (focus (repeat (first | apply opds_nil | (apply opds_cons; (first | (focus ((conv => lhs; whnf); done)) | exact rfl))))); exact p_bldP)
 | (apply s_en; (focus (repeat (first | apply opds_nil | (apply opds_cons; (first | (focus ((conv => lhs; whnf); done)) | exact rfl))))); exact e_bldP)
 | (apply s_en; (focus (repeat (first | apply opds_nil | (apply opds_cons; (first | (focus ((conv => lhs; whnf); done)) | exact rfl))))); exact e_appz_nil (by omega) (by decide))
 | (apply s_st; (focus (repeat (first | apply opds_nil | (apply opds_cons; (first | (focus ((conv => lhs; whnf); done)) | exact rfl))))); exact e_stBox rfl rfl rfl rfl)
 | (apply s_pd; exact rfl)
 | (apply c_reg)
    simp [finish, ress, tupOf, go_sem, pcs]
  | succ n =>
    rw [if_neg (by omega)]
    rw [hn] at hlen
    refine f_enterH rfl rfl ?_
    generalize hC : pcs l = C at *
    generalize pcs (l ++ [(q, t)]) = D at *
    simp only [cellH]
    repeat' first
 | (apply s_mov; (focus ((conv => lhs; whnf); done)))
 | (apply c_nil)
 | (apply s_pn; (focus (repeat (first | apply opds_nil | (apply opds_cons; (first | (focus ((conv => lhs; whnf); done)) | exact rfl))))); exact p_bldP)
 | (apply s_en; (focus (repeat (first | apply opds_nil | (apply opds_cons; (first | (focus ((conv => lhs; whnf); done)) | exact rfl))))); exact e_bldP)
 | (apply s_en; (focus (repeat (first | apply opds_nil | (apply opds_cons; (first | (focus ((conv => lhs; whnf); done)) | exact rfl))))); exact e_appz_sl rfl hlen (by omega) (by unfold most; omega))
 | (apply s_st; (focus (repeat (first | apply opds_nil | (apply opds_cons; (first | (focus ((conv => lhs; whnf); done)) | exact rfl))))); exact e_stBox rfl rfl rfl rfl)
 | (apply s_pd; exact rfl)
 | (apply c_reg)
    rw [hp]
    simp [finish, ress, tupOf, go_sem]
/-- the heap behind a closure that appends -/
theorem clo_cell {call : CallF} {g sz n : Nat} {C D : List AV} {x y : Int}
    (hc : call g [.int .i64 x, .int .i64 y, .ptr 0 0] (cellH sz n C) = some (.tup [], if n = 0 then cellH sz 1 D else [some (.box [.sl 2 sz 0 (n + 1)]), none, some (.data D)])) :
    ∃ H', callMut call g [.int .i64 x, .int .i64 y, .ptr 0 0] (cellH sz n C) = some (.tup [], H') ∧
      (∀ a b : Int, gc 1 [.int .i64 a, .fn g [.ptr 0 0], .int .i64 b] H' = some ([.int .i64 a, .fn g [.ptr 0 0], .int .i64 b], cellH sz (n + 1) D)) ∧ gc 1 [.tup []] H' = some ([.tup []], cellH sz (n + 1) D) := by
  cases n with
  | zero =>
    simp only [cellH, if_true] at hc ⊢
    refine ⟨[some (.box [.sl 1 sz 0 1]), some (.data D)], ?_, fun a b => ?_, ?_⟩
    · simp [callMut, subHeap, backOf, writeBack, hc, go_sem]
    · simp [go_sem]
    · simp [go_sem]
  | succ n =>
    rw [if_neg (by omega)] at hc
    simp only [cellH] at hc ⊢
    refine ⟨[some (.box [.sl 2 sz 0 (n + 1 + 1)]), none, some (.data D)], ?_, fun a b => ?_, ?_⟩
    · simp [callMut, subHeap, backOf, writeBack, hc, go_sem]
    · simp [go_sem]
    · simp [go_sem]
end Go.AM.Pr

set_option linter.unusedSectionVars false
set_option linter.unusedVariables false
set_option linter.unusedSimpArgs false
namespace Go.AM.Pr
attribute [local go_sem] gc subHeap reach_skip ren_free reach_new reach_newp reach_end rangeL roots boxCells nodupB posOf renL AV.ren pickO renH renO looks look bindEnv envOf reach_int reach_bool reach_nilS reach_rd putRow cells_sl cells_int cells_bool cells_nilS cells_rd cells_agg reach_agg reach_tup idFreeL idf_sl idf_ptr idf_int idf_bool idf_nilS idf_rd reach_fn reach_mp cells_fn cells_ptr cells_mp idf_mp idf_fn idf_agg idf_tup
open Go.AM.Num
theorem fac_len {l : List (Nat × Nat)} (h : FacR l) : 2 ^ l.length ≤ prodL l := by
  induction l with
  | nil => simp [prodL]
  | cons x l ih =>
    rw [prodL_cons, List.length_cons, Nat.pow_succ, Nat.mul_comm]
    have hx := h.all x List.mem_cons_self
    have := Nat.pow_le_pow_right (show 0 < x.1 by have := hx.1.1; omega) hx.2
    rw [Nat.pow_one] at this
    exact Nat.mul_le_mul (Nat.le_trans hx.1.1 this) (ih h.tail)
theorem fac_len31 {l : List (Nat × Nat)} {N : Nat} (h : Fac l N) (hN : N ≤ 2147483647) : l.length ≤ 30 := by
  rcases Nat.lt_or_ge 30 l.length with h1 | h1
  · have a := fac_len h.toFacR
    rw [h.prod] at a
    have := Nat.pow_le_pow_right (show 0 < 2 by omega) (show 31 ≤ l.length by omega)
    omega
  · exact h1
theorem gcell2 {g sz n : Nat} {C : List AV} (a : Int) : gc 1 [.int .i64 a, .fn g [.ptr 0 0]] (cellH sz n C) = some ([.int .i64 a, .fn g [.ptr 0 0]], cellH sz n C) := by
  cases n <;> simp [cellH, go_sem]
theorem gcell3 {g sz n : Nat} {C : List AV} (a b : Int) : gc 1 [.int .i64 a, .fn g [.ptr 0 0], .int .i64 b] (cellH sz n C) = some ([.int .i64 a, .fn g [.ptr 0 0], .int .i64 b], cellH sz n C) := by
  cases n <;> simp [cellH, go_sem]
theorem gcell4 {g sz n : Nat} {C : List AV} (a b c : Int) : gc 1 [.int .i64 a, .fn g [.ptr 0 0], .int .i64 b, .int .i64 c] (cellH sz n C) = some ([.int .i64 a, .fn g [.ptr 0 0], .int .i64 b, .int .i64 c], cellH sz n C) := by
  cases n <;> simp [cellH, go_sem]
theorem gcellf {sz n : Nat} {C : List AV} : gc 1 [.tup []] (cellH sz n C) = some ([.tup []], cellH sz n C) := by
  cases n <;> simp [cellH, go_sem]
theorem clo62 {L : List (Nat × Nat)} (hL : L.length ≤ 30) {m : Nat} (hm : 1 ≤ m) : Clo m 62 [.ptr 0 0] 1 (fun l => cellH 2 l.length (pcs l)) L where
  hk := rfl
  g2 l a := gcell2 a
  g3 l a b := gcell3 a b
  g4 l a b c := gcell4 a b c
  fin l := gcellf
  call l q t r h := by
    have hl : l.length < 1000 := by rw [h] at hL; simp at hL; omega
    have := clo_cell (f62 (q := q) (t := t) hl hm)
    simpa using this
/-- a call of divide with one cell -/
theorem mut58 {N g sz n : Nat} {C : List AV} {m : Nat} (hc : evF tab it m 58 [.int .i64 (N : Int), .fn g [.ptr 0 0]] [some (.box [.nilS])] = some (.tup [], cellH sz n C)) :
    callMut (evF tab it m) 58 [.int .i64 (N : Int), .fn g [.ptr 0 0]] [some (.box [.nilS])] = some (.tup [], cellH sz n C) := by
  cases n <;> simp [callMut, subHeap, backOf, writeBack, hc, go_sem, cellH]
def fzP (l : List (Nat × Nat)) : AV := match l with
  | [] => .nilS
  | x :: r => .rd 2 (r.length + 1) (pcs (x :: r))
def owP (l : List (Nat × Nat)) : AV := match l with
  | [] => .nilS
  | _ :: r => .sl 0 2 0 (r.length + 1)
def owPH (l : List (Nat × Nat)) : Heap := match l with
  | [] => []
  | x :: r => [some (.data (pcs (x :: r)))]
theorem e_alB {call : CallF} {H : Heap} : evE call H (.alloc false [.nilS]) [] = some (.ptr H.length 0, H ++ [some (.box [.nilS])]) := rfl
theorem e_alB0 {call : CallF} : evE call [] (.alloc false [.nilS]) [] = some (.ptr 0 0, [some (.box [.nilS])]) := rfl
theorem p_mkfn {H : Heap} {g : Nat} {c : List AV} : evP H (.mkfn g) c = some (.fn g c) := by cases c <;> rfl
theorem p_ldBox {H : Heap} {id : Nat} {v : AV} (h : H[id]? = some (some (.box [v]))) : evP H (.ld false 1) [.ptr id 0] = some v := by
  simp [evP, ldc, getRow, Heap.cells?, HO.cells?, h, wholeOf]
theorem f42 {N : Nat} {L : List (Nat × Nat)} (h1 : 1 ≤ N) (hN : N ≤ 2147483647) (hL : Fac L N) {m : Nat} (hm : 46402 ≤ m) : evF tab it m 42 [.int .i64 (N : Int)] [] = some (owP L, owPH L) := by
  obtain ⟨m, rfl⟩ : ∃ j, m = j + 1 := ⟨m - 1, by omega⟩
  obtain ⟨m', rfl⟩ : ∃ j, m = j + 1 := ⟨m - 1, by omega⟩
  have hc := mut58 (f58 h1 hN hL (clo62 (fac_len31 hL hN) (m := m') (by omega)) (by omega))
  refine f_enter rfl rfl ?_
  generalize evF tab it (m' + 1) = call at *
  cases L with
  | nil =>
    simp only [List.length_nil, cellH] at hc
    repeat' first
 | (apply s_mov; (focus ((conv => lhs; whnf); done)))
 | (apply c_nil)
 | (apply s_en; (focus (repeat (first | apply opds_nil | (apply opds_cons; (first | (focus ((conv => lhs; whnf); done)) | exact rfl))))); exact e_alB0)
 | (apply s_en; (focus (repeat (first | apply opds_nil | (apply opds_cons; (first | (focus ((conv => lhs; whnf); done)) | exact rfl))))); exact hc)
 | (apply s_pn; (focus (repeat (first | apply opds_nil | (apply opds_cons; (first | (focus ((conv => lhs; whnf); done)) | exact rfl))))); exact p_mkfn)
 | (apply s_pn; (focus (repeat (first | apply opds_nil | (apply opds_cons; (first | (focus ((conv => lhs; whnf); done)) | exact rfl))))); exact p_ldBox rfl)
 | (apply c_seq)
 | (apply c_reg)
 | (apply c_ret)
 | (with_reducible apply k_c)
    simp [finish, ress, tupOf, resOf, look, go_sem, owP, owPH]
  | cons x r =>
    simp only [List.length_cons, cellH, owP, owPH] at hc ⊢
    generalize pcs (x :: r) = C at *
    repeat' first
 | (apply s_mov; (focus ((conv => lhs; whnf); done)))
 | (apply c_nil)
 | (apply s_en; (focus (repeat (first | apply opds_nil | (apply opds_cons; (first | (focus ((conv => lhs; whnf); done)) | exact rfl))))); exact e_alB0)
 | (apply s_en; (focus (repeat (first | apply opds_nil | (apply opds_cons; (first | (focus ((conv => lhs; whnf); done)) | exact rfl))))); exact hc)
 | (apply s_pn; (focus (repeat (first | apply opds_nil | (apply opds_cons; (first | (focus ((conv => lhs; whnf); done)) | exact rfl))))); exact p_mkfn)
 | (apply s_pn; (focus (repeat (first | apply opds_nil | (apply opds_cons; (first | (focus ((conv => lhs; whnf); done)) | exact rfl))))); exact p_ldBox rfl)
 | (apply c_seq)
 | (apply c_reg)
 | (apply c_ret)
 | (with_reducible apply k_c)
    simp [finish, ress, tupOf, resOf, look, go_sem]
theorem frz_owP (l : List (Nat × Nat)) : frzV (owPH l) 40 (owP l) = some (fzP l) := by
  rcases l with _ | ⟨a, r⟩
  · rfl
  · have := pcs_len (a :: r)
    rw [List.length_cons] at this
    simp [owP, owPH, frzV, Heap.data?, fzP, List.take_of_length_le, this]
theorem c42 {N : Nat} {L : List (Nat × Nat)} (h1 : 1 ≤ N) (hN : N ≤ 2147483647) (hL : Fac L N) {m : Nat} (hm : 46402 ≤ m) (H : Heap) : callPure (evF tab it m) true 42 [.int .i64 (N : Int)] H = some (fzP L, H) := by
  have e : frzL H 40 [AV.int .i64 (N : Int)] = some [AV.int .i64 (N : Int)] := rfl
  simp [callPure, e, f42 h1 hN hL hm, frz_owP, idFreeL, AV.idFree]
end Go.AM.Pr

set_option linter.unusedSectionVars false
set_option linter.unusedVariables false
set_option linter.unusedSimpArgs false
namespace Go.AM.Pr
open Go.AM.Num
noncomputable instance (n : Nat) : Decidable (IsPr n) := Classical.propDecidable _
theorem fzP_free (l : List (Nat × Nat)) : (fzP l).idFree = true := by cases l <;> rfl
theorem fac_single {x : Nat × Nat} {N : Nat} (h : Fac [x] N) : IsPr N ↔ x.2 = 1 := by
  constructor
  · intro hp
    have := fac_uniq h (fac_pr hp)
    simp at this
    rw [this]
  · intro h2
    have := h.prod
    simp [prodL, h2] at this
    exact this ▸ (h.all x (by simp)).1
theorem fac_multi {l : List (Nat × Nat)} {N : Nat} (h : Fac l N) (hl : l.length ≠ 1) : ¬ IsPr N := fun hp => by
  have := fac_uniq h (fac_pr hp)
  rw [this] at hl
  simp at hl
theorem f63 {N : Nat} (h1 : 1 ≤ N) (hN : N ≤ 2147483647) {m : Nat} (hm : 46403 ≤ m) : evF tab it m 63 [.int .i64 (N : Int)] [] = some (.bool (decide (IsPr N)), []) := by
  obtain ⟨m, rfl⟩ : ∃ j, m = j + 1 := ⟨m - 1, by omega⟩
  obtain ⟨L, hL⟩ := fac_ex h1
  have hc := c42 h1 hN hL (m := m) (by omega)
  refine f_enter rfl rfl ?_
  generalize evF tab it m = call at *
  rcases L with _ | ⟨x, _ | ⟨y, r⟩⟩
  · skip
    repeat' first
 | (apply s_mov; (focus ((conv => lhs; whnf); done)))
 | (apply s_gF; exact rfl)
 | (apply c_nil)
 | (apply s_pickF; exact rfl; (focus ((conv => lhs; whnf); done)))
 | ((first | apply s_lss | apply s_leq | apply s_gtr | apply s_geq | apply s_eql | apply s_neq); exact rfl; all_goals (intro _; try (exfalso; omega)))
 | (apply s_cn; (focus (repeat (first | apply opds_nil | (apply opds_cons; (first | (focus ((conv => lhs; whnf); done)) | exact rfl))))); exact hc _)
 | (apply s_pd; exact rfl)
 | (apply c_seq)
 | (apply c_reg)
 | (apply c_ret)
 | (with_reducible apply k_c)
    all_goals refine fin_t (by (conv => lhs; whnf)) (by rfl) ?_
    all_goals first | exact leafF (fac_multi hL (by simp)) | (exfalso; omega)
  · have hs := fac_single hL
    simp only [fzP, pcs, List.flatMap_cons, List.flatMap_nil, List.append_nil, List.length_nil] at hc
    repeat' first
 | (apply s_mov; (focus ((conv => lhs; whnf); done)))
 | (apply s_gT; exact rfl)
 | (apply c_nil)
 | (apply s_pickT; exact rfl; (focus ((conv => lhs; whnf); done)))
 | ((first | apply s_lss | apply s_leq | apply s_gtr | apply s_geq | apply s_eql | apply s_neq); exact rfl; all_goals (intro _; try (exfalso; omega)))
 | (apply s_cn; (focus (repeat (first | apply opds_nil | (apply opds_cons; (first | (focus ((conv => lhs; whnf); done)) | exact rfl))))); exact hc _)
 | (apply s_pd; exact rfl)
 | (apply c_seq)
 | (apply c_reg)
 | (apply c_ret)
 | (with_reducible apply k_c)
    all_goals refine fin_t (by (conv => lhs; whnf)) (by rfl) ?_
    all_goals first | exact leafT (hs.2 (by omega)) | exact leafF (fun h => by have := hs.1 h; omega)
  · generalize hF : fzP (x :: y :: r) = F at *
    have hlen : ∀ H, evP H .len [F] = some (.int .i64 ((r.length + 2 : Nat) : Int)) := fun H => by rw [← hF]; rfl
    repeat' first
 | (apply s_mov; (focus ((conv => lhs; whnf); done)))
 | (apply s_gF; exact rfl)
 | (apply c_nil)
 | (apply s_pickF; exact rfl; (focus ((conv => lhs; whnf); done)))
 | ((first | apply s_lss | apply s_leq | apply s_gtr | apply s_geq | apply s_eql | apply s_neq); exact rfl; all_goals (intro _; try (exfalso; omega)))
 | (apply s_cn; (focus (repeat (first | apply opds_nil | (apply opds_cons; (first | (focus ((conv => lhs; whnf); done)) | exact rfl))))); exact hc _)
 | (apply s_pn; (focus (repeat (first | apply opds_nil | (apply opds_cons; (first | (focus ((conv => lhs; whnf); done)) | exact rfl))))); exact hlen _)
 | (apply c_seq)
 | (apply c_reg)
 | (apply c_ret)
 | (with_reducible apply k_c)
    all_goals refine fin_t (by (conv => lhs; whnf)) (by rfl) ?_
    all_goals first | exact leafF (fac_multi hL (by simp)) | (exfalso; omega)
theorem c63 {N : Nat} (h1 : 1 ≤ N) (hN : N ≤ 2147483647) {m : Nat} (hm : 46403 ≤ m) (H : Heap) : callPure (evF tab it m) true 63 [.int .i64 (N : Int)] H = some (.bool (decide (IsPr N)), H) :=
  callPure_free rfl (by simp) (f63 h1 hN hm) rfl
/-- a prime number -/
def IsPN (p : Int) : Prop := IsNum p ∧ IsPr p.toNat
noncomputable instance (n : Int) : Decidable (IsPN n) := Classical.propDecidable _
theorem f44 {p : Int} {m : Nat} (hm : 46404 ≤ m) : evF tab it m 44 [.int .i64 p] [] = some (.bool (decide (IsPN p)), []) := by
  obtain ⟨m, rfl⟩ : ∃ j, m = j + 1 := ⟨m - 1, by omega⟩
  by_cases hp : IsNum p
  · obtain ⟨N, rfl⟩ : ∃ N : Nat, p = N := ⟨p.toNat, by have := hp.1; omega⟩
    have hp' := hp
    unfold IsNum at hp'
    refine f_enter rfl rfl ?_
    repeat' first
 | (apply s_mov; (focus ((conv => lhs; whnf); done)))
 | (apply s_gT; exact rfl)
 | (apply s_gF; exact rfl)
 | (apply s_gFD; exact rfl)
 | (apply c_nil)
 | (apply s_pickT; exact rfl; (focus ((conv => lhs; whnf); done)))
 | (apply s_pickF; exact rfl; (focus ((conv => lhs; whnf); done)))
 | (apply isE; refine s_cB (by (focus (repeat (first | apply opds_nil | (apply opds_cons; (first | (focus ((conv => lhs; whnf); done)) | exact rfl)))))) (c41 (by omega) _ _) (fun _ => ?_) (fun _ => ?_))
 | (apply isE; refine s_cB (by (focus (repeat (first | apply opds_nil | (apply opds_cons; (first | (focus ((conv => lhs; whnf); done)) | exact rfl)))))) (c63 (by omega) (by omega) (by omega) _) (fun _ => ?_) (fun _ => ?_))
 | (apply c_seq)
 | (apply c_reg)
 | (apply c_ret)
 | (with_reducible apply k_c)
    all_goals refine fin_t (by (conv => lhs; whnf)) (by rfl) ?_
    all_goals first | exact leafT ⟨hp, by simpa using (by assumption : IsPr N)⟩ | exact leafF (fun h => by have := h.2; simp only [Int.toNat_natCast] at this; exact absurd this (by assumption)) | exact absurd hp (by assumption)
  · refine f_enter rfl rfl ?_
    repeat' first
 | (apply s_mov; (focus ((conv => lhs; whnf); done)))
 | (apply s_gT; exact rfl)
 | (apply s_gF; exact rfl)
 | (apply s_gFD; exact rfl)
 | (apply c_nil)
 | (apply s_pickF; exact rfl; (focus ((conv => lhs; whnf); done)))
 | (apply isE; refine s_cB (by (focus (repeat (first | apply opds_nil | (apply opds_cons; (first | (focus ((conv => lhs; whnf); done)) | exact rfl)))))) (c41 (by omega) _ _) (fun _ => ?_) (fun _ => ?_))
 | (apply c_seq)
 | (apply c_reg)
 | (apply c_ret)
 | (with_reducible apply k_c)
    · exact absurd (by assumption) hp
    all_goals refine fin_t (by (conv => lhs; whnf)) (by rfl) ?_
    all_goals exact leafF (fun h => hp h.1)
theorem c44 {m : Nat} (hm : 46404 ≤ m) (p : Int) (H : Heap) : callPure (evF tab it m) true 44 [.int .i64 p] H = some (.bool (decide (IsPN p)), H) :=
  callPure_free rfl (by simp) (f44 hm) rfl
theorem f21 {p : Int} {m : Nat} (hm : 46404 ≤ m) : evF tab it m 21 [.int .i64 p] [] = some (.bool (decide (IsPN p)), []) := by
  obtain ⟨m, rfl⟩ : ∃ j, m = j + 1 := ⟨m - 1, by omega⟩
  by_cases hp : IsNum p
  · obtain ⟨N, rfl⟩ : ∃ N : Nat, p = N := ⟨p.toNat, by have := hp.1; omega⟩
    have hp' := hp
    unfold IsNum at hp'
    obtain ⟨d, hd, hc⟩ := c43 (n := N) (by omega) (by omega) (m := m) (by omega) []
    have hpd : IsPN (N : Int) ↔ 1 < N ∧ d = N := by
      constructor
      · intro h
        have h2 : IsPr N := by simpa using h.2
        refine ⟨h2.1, ?_⟩
        obtain ⟨e1, e2, e3⟩ := hd.1 h2.1
        exact pr_dvd_pr e1 h2 e2
      · rintro ⟨h1, rfl⟩
        exact ⟨hp, by simpa using (hd.1 h1).1⟩
    refine f_enter rfl rfl ?_
    repeat' first
 | (apply s_mov; (focus ((conv => lhs; whnf); done)))
 | (apply s_gT; exact rfl)
 | (apply s_gF; exact rfl)
 | (apply s_gFD; exact rfl)
 | (apply c_nil)
 | (apply s_pickT; exact rfl; (focus ((conv => lhs; whnf); done)))
 | (apply s_pickF; exact rfl; (focus ((conv => lhs; whnf); done)))
 | ((first | apply s_lss | apply s_leq | apply s_gtr | apply s_geq | apply s_eql | apply s_neq); exact rfl; all_goals (intro _; try (exfalso; omega)))
 | (apply isE; refine s_cB (by (focus (repeat (first | apply opds_nil | (apply opds_cons; (first | (focus ((conv => lhs; whnf); done)) | exact rfl)))))) (c17 (by omega) _ _) (fun _ => ?_) (fun _ => ?_))
 | (apply s_cn; (focus (repeat (first | apply opds_nil | (apply opds_cons; (first | (focus ((conv => lhs; whnf); done)) | exact rfl))))); exact hc)
 | (apply c_seq)
 | (apply c_reg)
 | (apply c_ret)
 | (with_reducible apply k_c)
    all_goals first
      | exact absurd hp (by assumption)
      | (refine fin_t (by (conv => lhs; whnf)) (by rfl) ?_
         first | exact leafT (hpd.2 ⟨by omega, by omega⟩) | exact leafF (fun h => by have := hpd.1 h; omega))
  · refine f_enter rfl rfl ?_
    repeat' first
 | (apply s_mov; (focus ((conv => lhs; whnf); done)))
 | (apply s_gT; exact rfl)
 | (apply s_gF; exact rfl)
 | (apply s_gFD; exact rfl)
 | (apply c_nil)
 | (apply s_pickT; exact rfl; (focus ((conv => lhs; whnf); done)))
 | (apply s_pickF; exact rfl; (focus ((conv => lhs; whnf); done)))
 | ((first | apply s_lss | apply s_leq | apply s_gtr | apply s_geq | apply s_eql | apply s_neq); exact rfl; all_goals (intro _; try (exfalso; omega)))
 | (apply isE; refine s_cB (by (focus (repeat (first | apply opds_nil | (apply opds_cons; (first | (focus ((conv => lhs; whnf); done)) | exact rfl)))))) (c17 (by omega) _ _) (fun _ => ?_) (fun _ => ?_))
 | (apply c_seq)
 | (apply c_reg)
 | (apply c_ret)
 | (with_reducible apply k_c)
    · exact absurd (by assumption) hp
    all_goals refine fin_t (by (conv => lhs; whnf)) (by rfl) ?_
    all_goals exact leafF (fun h => hp h.1)
theorem c21 {m : Nat} (hm : 46404 ≤ m) (p : Int) (H : Heap) : callPure (evF tab it m) true 21 [.int .i64 p] H = some (.bool (decide (IsPN p)), H) :=
  callPure_free rfl (by simp) (f21 hm) rfl
end Go.AM.Pr

set_option linter.unusedSectionVars false
set_option linter.unusedVariables false
set_option linter.unusedSimpArgs false
namespace Go.AM.Pr
attribute [local go_sem] gc subHeap reach_skip ren_free reach_new reach_newp reach_end rangeL roots boxCells nodupB posOf renL AV.ren pickO renH renO looks look bindEnv envOf reach_int reach_bool reach_nilS reach_rd putRow cells_sl cells_int cells_bool cells_nilS cells_rd cells_agg reach_agg reach_tup idFreeL idf_sl idf_ptr idf_int idf_bool idf_nilS idf_rd reach_fn reach_mp cells_fn cells_ptr cells_mp idf_mp idf_fn idf_agg idf_tup
open Go.AM.Num
theorem f16 {N : Nat} {L : List (Nat × Nat)} (h1 : 1 ≤ N) (hN : N ≤ 2147483647) (hL : Fac L N) {m : Nat} (hm : 46403 ≤ m) : evF tab it m 16 [.int .i64 (N : Int)] [] = some (.tup [fzP L, .int .i64 0], []) := by
  obtain ⟨m, rfl⟩ : ∃ j, m = j + 1 := ⟨m - 1, by omega⟩
  have hp : IsNum (N : Int) := ⟨by omega, by omega⟩
  have ff := fzP_free L
  have hc := c42 h1 hN hL (m := m) (by omega) []
  generalize fzP L = F at *
  refine f_enter rfl rfl ?_
  repeat' first
 | (apply s_mov; (focus ((conv => lhs; whnf); done)))
 | (apply c_nil)
 | (apply s_notT; exact rfl)
 | (apply s_notF; exact rfl)
 | (apply isE; refine s_cB (by (focus (repeat (first | apply opds_nil | (apply opds_cons; (first | (focus ((conv => lhs; whnf); done)) | exact rfl)))))) (c41 (by omega) _ _) (fun _ => ?_) (fun _ => ?_))
 | (apply s_cn; (focus (repeat (first | apply opds_nil | (apply opds_cons; (first | (focus ((conv => lhs; whnf); done)) | exact rfl))))); exact hc)
 | (apply c_seq)
 | (apply c_reg)
 | (apply c_skip)
 | (apply c_ret)
 | (apply c_condT; exact rfl)
 | (apply c_condF; exact rfl)
 | (with_reducible apply k_c)
  · exact fin_tt (by (conv => lhs; whnf)) (by (conv => lhs; whnf)) ff (by rfl) rfl
  · exact absurd hp (by assumption)
theorem f16e {a : Int} (ha : ¬ IsNum a) {m : Nat} (hm : 46403 ≤ m) : evF tab it m 16 [.int .i64 a] [] = some (.tup [.nilS, .int .i64 2], []) := by
  obtain ⟨m, rfl⟩ : ∃ j, m = j + 1 := ⟨m - 1, by omega⟩
  refine f_enter rfl rfl ?_
  repeat' first
 | (apply s_mov; (focus ((conv => lhs; whnf); done)))
 | (apply c_nil)
 | (apply s_notT; exact rfl)
 | (apply s_notF; exact rfl)
 | (apply isE; refine s_cB (by (focus (repeat (first | apply opds_nil | (apply opds_cons; (first | (focus ((conv => lhs; whnf); done)) | exact rfl)))))) (c41 (by omega) _ _) (fun _ => ?_) (fun _ => ?_))
 | (apply c_seq)
 | (apply c_reg)
 | (apply c_skip)
 | (apply c_ret)
 | (apply c_condT; exact rfl)
 | (apply c_condF; exact rfl)
 | (with_reducible apply k_c)
  · exact absurd (by assumption) ha
  · exact fin_tt (by (conv => lhs; whnf)) (by (conv => lhs; whnf)) (by rfl) (by rfl) rfl
theorem c16 {N : Nat} {L : List (Nat × Nat)} (h1 : 1 ≤ N) (hN : N ≤ 2147483647) (hL : Fac L N) {m : Nat} (hm : 46403 ≤ m) (H : Heap) : callPure (evF tab it m) true 16 [.int .i64 (N : Int)] H = some (.tup [fzP L, .int .i64 0], H) :=
  callPure_free rfl (by simp) (f16 h1 hN hL hm) (by simp [AV.idFree, idFreeL, fzP_free])
theorem c16e {a : Int} (ha : ¬ IsNum a) {m : Nat} (hm : 46403 ≤ m) (H : Heap) : callPure (evF tab it m) true 16 [.int .i64 a] H = some (.tup [.nilS, .int .i64 2], H) :=
  callPure_free rfl (by simp) (f16e ha hm) rfl
theorem c18 (H : Heap) : callPure (evF tab it 60000) true 18 [] H = some (.bool true, H) := callPure_free rfl (by simp) awake rfl
theorem owP_gc (l : List (Nat × Nat)) (n : Nat) : gc 0 [.int .i64 (n : Int), owP l] (owPH l) = some ([.int .i64 (n : Int), owP l], owPH l) := by
  cases l <;> simp [owP, owPH, go_sem]
theorem owP_gc3 (l : List (Nat × Nat)) (n d e : Int) : gc 0 [.int .i64 n, owP l, .int .i64 d, .int .i64 e] (owPH l) = some ([.int .i64 n, owP l, .int .i64 d, .int .i64 e], owPH l) := by
  cases l <;> simp [owP, owPH, go_sem]
theorem owP_gc1 (l : List (Nat × Nat)) : gc 0 [owP l] (owPH l) = some ([owP l], owPH l) := by
  cases l <;> simp [owP, owPH, go_sem]
theorem e_bldP' {call : CallF} {H : Heap} {a b : Int} : evE call H (.bldS true true 2 1 [.int .i64 0, .int .i64 0] [(0, 2)]) [.agg [.int .i64 a, .int .i64 b]] = some (.rd 2 1 [.int .i64 a, .int .i64 b], H) := rfl
/-- the reference's factorization -/
theorem f19 {N : Nat} {L : List (Nat × Nat)} (h1 : 1 ≤ N) (hN : N ≤ 2147483647) (hL : Fac L N) {m : Nat} (hm : 46403 ≤ m) : evF tab it m 19 [.int .i64 (N : Int)] [] = some (owP L, owPH L) := by
  obtain ⟨m, rfl⟩ : ∃ j, m = j + 1 := ⟨m - 1, by omega⟩
  have h43 := fun {n : Nat} (h1 : 1 ≤ n) (h2 : n ≤ 2147483647) H => c43 h1 h2 (m := m) (by omega) H
  have hL31 := fac_len31 hL hN
  refine f_enter rfl rfl ?_
  generalize evF tab it m = call at *
  repeat' first
 | (apply s_mov; (focus ((conv => lhs; whnf); done)))
 | (apply c_nil)
 | (apply c_seq)
 | (apply c_reg)
 | (apply c_block)
 | (with_reducible apply k_c)
  refine c_loop ?_
  refine loop_gc (σ := Nat × List (Nat × Nat)) (fun s => [.int .i64 (s.1 : Int), owP s.2]) (fun s => owPH s.2) (fun s => ∃ r, L = s.2 ++ r ∧ prodL r = s.1) (fun s => L.length - s.2.length) ?_ _ (N, []) _ _ ⟨L, rfl, hL.prod⟩ (by show L.length - _ < _; omega) (owP_gc [] N)
  intro ⟨n, l⟩ ⟨r, hr, hp⟩ K hK
  dsimp only at hr hp hK ⊢
  have hrf : FacR r := (FacR.append (hr ▸ hL.toFacR)).2.1
  have hnN : n ≤ N := by
    have := hL.prod
    rw [hr, prodL_append, hp] at this
    have hl := (FacR.append (hr ▸ hL.toFacR)).1.pos
    rw [← this]
    exact Nat.le_mul_of_pos_left _ hl
  have hn1 : 1 ≤ n := hp ▸ hrf.pos
  obtain ⟨d, hd, hc⟩ := h43 hn1 (by omega) (owPH l)
  by_cases h1n : 1 < n
  · obtain ⟨hdp, hdd, hdr⟩ := hd.1 h1n
    have hge : ∀ x ∈ r, d ≤ x.1 := fun x hx => hdr x.1 (hrf.all x hx).1.1 (by rw [← hp]; exact Nat.dvd_trans (Nat.dvd_of_pow_dvd (hrf.all x hx).2 (Nat.dvd_refl _)) (mem_dvd_prod hx))
    obtain ⟨e, t, rfl⟩ := head_eq hrf hge hdp (hp ▸ hdd)
    have he1 := (hrf.all _ List.mem_cons_self).2
    have e1 : prodL ((d, e) :: t) = d ^ e * prodL t := rfl
    have e2 : ¬ d ∣ prodL t := FacR.not_dvd (fun y hy => hrf.all y (List.mem_cons_of_mem _ hy)) hdp hrf.head_lt
    have hq := hdp.1
    have he31 : e < 100 := by
      rcases Nat.lt_or_ge e 100 with h | h
      · exact h
      · have a1 := Nat.pow_le_pow_right (show 0 < 2 by omega) h
        have a2 := Nat.pow_le_pow_left hq e
        have a3 := Nat.le_mul_of_pos_right (d ^ e) hrf.tail.pos
        have a4 : 2 ^ 100 ≤ n := by rw [← hp, e1]; omega
        have : 2 ^ 100 ≤ 2147483647 := by omega
        exact absurd this (by decide)
    have hle : ∀ j, j ≤ e → d ^ (e - j) * prodL t ≤ n := fun j hj => by
      rw [← hp, e1]
      exact Nat.mul_le_mul_right _ (Nat.pow_le_pow_right (by omega) (by omega))
    have hz : ∀ j, j < e → d ^ (e - j) * prodL t % d = 0 ∧ d ^ (e - j) * prodL t / d = d ^ (e - (j + 1)) * prodL t := fun j hj => by
      have : d ^ (e - j) * prodL t = d * (d ^ (e - (j + 1)) * prodL t) := by
        rw [show e - j = (e - (j + 1)) + 1 by omega, Nat.pow_succ]
        simp only [Nat.mul_comm, Nat.mul_left_comm, Nat.mul_assoc]
      rw [this]
      exact ⟨Nat.mul_mod_right _ _, Nat.mul_div_cancel_left _ (by omega)⟩
    have hnz : prodL t % d ≠ 0 := fun h => e2 (Nat.dvd_of_mod_eq_zero h)
    have e0 : d ^ (e - e) * prodL t = prodL t := by rw [Nat.sub_self, Nat.pow_zero, Nat.one_mul]
    have g3 := owP_gc3 l
    have hlen : L.length = l.length + (t.length + 1) := by rw [hr]; simp
    have happ : ∃ H', (∀ z, evE call (owPH l) (.app false 2 16) [owP l, .rd 2 1 [.int .i64 (d : Int), .int .i64 (e : Int)]] = some (z, H') → True) ∧ ∃ v, evE call (owPH l) (.app false 2 16) [owP l, .rd 2 1 [.int .i64 (d : Int), .int .i64 (e : Int)]] = some (v, H') ∧ ∀ a : Nat, gc 0 [.int .i64 (a : Int), v] H' = some ([.int .i64 (a : Int), owP (l ++ [(d, e)])], owPH (l ++ [(d, e)])) := by
      have hp1 : pcs [(d, e)] = [.int .i64 (d : Int), .int .i64 (e : Int)] := rfl
      rcases l with _ | ⟨x, l'⟩
      · refine ⟨_, fun _ _ => trivial, _, e_appz_nil (by omega) (by decide), fun a => ?_⟩
        have := hp1
        simp [owP, owPH, go_sem, this]
      · have hl2 := pcs_len (x :: l')
        have hl3 : (x :: l').length = l'.length + 1 := rfl
        rw [hl3] at hl2 hlen
        refine ⟨_, fun _ _ => trivial, _, e_appz_sl (k := l'.length + 1) rfl hl2 (by omega) (by unfold most; omega), fun a => ?_⟩
        have := pcs_app (x :: l') [(d, e)]
        rw [hp1] at this
        simp only [List.cons_append] at this
        simp [owP, owPH, go_sem, this]
    obtain ⟨HA, _, va, ha, hag⟩ := happ
    generalize hOV : owP l = ov at *
    generalize hOH : owPH l = oh at *
    repeat' first
 | (apply s_mov; (focus ((conv => lhs; whnf); done)))
 | (apply c_nil)
 | ((first | apply s_lss | apply s_leq | apply s_gtr | apply s_geq | apply s_eql | apply s_neq); exact rfl; all_goals (intro _; try (exfalso; omega)))
 | (apply s_cn; (focus (repeat (first | apply opds_nil | (apply opds_cons; (first | (focus ((conv => lhs; whnf); done)) | exact rfl))))); exact hc)
 | (apply c_seq)
 | (apply c_reg)
 | (apply c_block)
 | (apply c_skip)
 | (apply c_condT; exact rfl)
 | (with_reducible apply k_c)
    · refine c_loop ?_
      refine loop_gc (σ := Nat) (fun j => [.int .i64 ((d ^ (e - j) * prodL t : Nat) : Int), ov, .int .i64 (d : Int), .int .i64 (j : Int)]) (fun _ => oh) (fun j => j ≤ e) (fun j => e - j) ?_ _ 0 _ _ (by omega) (by omega) (by
        rw [Nat.sub_zero, ← e1, hp]
        exact g3 _ _ _)
      intro j hj K' hK'
      have hj2 := hle j hj
      have hj3 := hz j
      repeat' first
 | (apply s_mov; (focus ((conv => lhs; whnf); done)))
 | (apply c_nil)
 | ((first | apply s_lss | apply s_leq | apply s_gtr | apply s_geq | apply s_eql | apply s_neq); exact rfl; all_goals (intro _; try (exfalso; omega)))
 | ((first | apply s_add | apply s_sub); exact rfl; omega)
 | (apply s_quoN; exact rfl; omega; omega)
 | (apply s_remN; exact rfl; omega)
 | (apply c_seq)
 | (apply c_reg)
 | (apply c_block)
 | (apply c_exitH)
 | (apply c_skip)
 | (apply c_condT; exact rfl)
 | (apply c_condF; exact rfl)
 | (with_reducible apply k_c)
      · have hje : j < e := by
          rcases (by omega : j = e ∨ j < e) with rfl | h
          · rw [e0] at *; omega
          · exact h
        obtain ⟨z1, z2⟩ := hj3 hje
        rw [z2]
        exact hK' (j + 1) _ _ (by omega) (by omega) (g3 _ _ _)
      · obtain rfl : e = j := by
          rcases (by omega : e = j ∨ j < e) with rfl | h
          · rfl
          · have := (hj3 h).1; omega
        rw [e0] at *
        try apply k_c
        apply c_pre
        · exact g3 _ _ _
        repeat' first
 | (apply s_mov; (focus ((conv => lhs; whnf); done)))
 | (apply c_nil)
 | (apply s_pn; (focus (repeat (first | apply opds_nil | (apply opds_cons; (first | (focus ((conv => lhs; whnf); done)) | exact rfl))))); exact p_bldP)
 | (apply s_en; (focus (repeat (first | apply opds_nil | (apply opds_cons; (first | (focus ((conv => lhs; whnf); done)) | exact rfl))))); exact e_bldP)
 | (apply s_en; (focus (repeat (first | apply opds_nil | (apply opds_cons; (first | (focus ((conv => lhs; whnf); done)) | exact rfl))))); exact ha)
 | (apply c_reg)
        exact hK (prodL t, l ++ [(d, e)]) _ _ ⟨t, by simp [hr], rfl⟩ (by show L.length - (l ++ [(d, e)]).length < L.length - l.length; simp; omega) (hag _)
  · obtain rfl : r = [] := fac_one ⟨hrf, by omega⟩
    have g1 := owP_gc1 l
    rw [List.append_nil] at hr
    subst hr
    generalize hOV : owP L = ov at *
    generalize hOH : owPH L = oh at *
    repeat' first
 | (apply s_mov; (focus ((conv => lhs; whnf); done)))
 | (apply c_nil)
 | ((first | apply s_lss | apply s_leq | apply s_gtr | apply s_geq | apply s_eql | apply s_neq); exact rfl; all_goals (intro _; try (exfalso; omega)))
 | (apply c_seq)
 | (apply c_reg)
 | (apply c_exitH)
 | (apply c_condF; exact rfl)
 | (with_reducible apply k_c)
    apply c_pre
    · exact g1
    repeat' first
 | (apply s_mov; (focus ((conv => lhs; whnf); done)))
 | (apply c_nil)
 | (apply c_seq)
 | (apply c_reg)
 | (apply c_ret)
 | (with_reducible apply k_c)
    simp [finish, ress, resOf, look, tupOf, g1]
end Go.AM.Pr
