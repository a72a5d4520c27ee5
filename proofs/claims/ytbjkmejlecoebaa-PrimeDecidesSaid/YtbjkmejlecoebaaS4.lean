/- A part of the proof: S4. -/
import Derived.Test.YtbjkmejlecoebaaS3
import Derived.Test.YtbjkmejlecoebaaSE2
set_option linter.unusedSectionVars false
set_option linter.unusedVariables false
set_option linter.unusedSimpArgs false
namespace Go.AM.Pr
open Go.AM.Num
/-- what a closure does that divide calls -/
structure Clo (m g : Nat) (caps : List AV) (k : Nat) (S : List (Nat × Nat) → Heap) (L : List (Nat × Nat)) : Prop where
  hk : (S []).length = k
  g2 : ∀ l (a : Int), gc k [.int .i64 a, .fn g caps] (S l) = some ([.int .i64 a, .fn g caps], S l)
  g3 : ∀ l (a b : Int), gc k [.int .i64 a, .fn g caps, .int .i64 b] (S l) = some ([.int .i64 a, .fn g caps, .int .i64 b], S l)
  g4 : ∀ l (a b c : Int), gc k [.int .i64 a, .fn g caps, .int .i64 b, .int .i64 c] (S l) = some ([.int .i64 a, .fn g caps, .int .i64 b, .int .i64 c], S l)
  fin : ∀ l, gc k [.tup []] (S l) = some ([.tup []], S l)
  call : ∀ l (q t : Nat) r, L = l ++ (q, t) :: r → ∃ H', callMut (evF tab it m) g ([.int .i64 (q : Int), .int .i64 (t : Int)] ++ caps) (S l) = some (.tup [], H') ∧
    (∀ a b : Int, gc k [.int .i64 a, .fn g caps, .int .i64 b] H' = some ([.int .i64 a, .fn g caps, .int .i64 b], S (l ++ [(q, t)]))) ∧ gc k [.tup []] H' = some ([.tup []], S (l ++ [(q, t)]))
theorem head_eq {r : List (Nat × Nat)} {q : Nat} (h : FacR r) (hq : ∀ x ∈ r, q ≤ x.1) (hp : IsPr q) (hd : q ∣ prodL r) : ∃ e t, r = (q, e) :: t := by
  obtain ⟨e, he⟩ := pr_dvd_prod hp h.all hd
  cases r with
  | nil => cases he
  | cons x t =>
    rcases List.mem_cons.1 he with h1 | h1
    · exact ⟨e, t, by rw [h1]⟩
    · have a := h.head_lt (q, e) h1
      have b := hq x List.mem_cons_self
      simp only at a
      omega
/-- what is left at q: a power of q, and greater primes -/
theorem split_at {r : List (Nat × Nat)} {q : Nat} (h : FacR r) (hq2 : 2 ≤ q) (hq : ∀ x ∈ r, q ≤ x.1) : ∃ e t, prodL r = q ^ e * prodL t ∧ ¬ q ∣ prodL t ∧ (∀ x ∈ t, q + 1 ≤ x.1) ∧ (if 0 < e then r = (q, e) :: t else r = t) := by
  by_cases hd : q ∣ prodL r
  · have hp := rough_dvd_pr (h.rough hq) hq2 hd
    obtain ⟨e, t, rfl⟩ := head_eq h hq hp hd
    have he := (h.all _ List.mem_cons_self).2
    refine ⟨e, t, rfl, FacR.not_dvd (fun y hy => h.all y (List.mem_cons_of_mem _ hy)) hp h.head_lt, h.head_lt, ?_⟩
    rw [if_pos (show 0 < e from he)]
  · refine ⟨0, r, by simp, hd, fun x hx => ?_, by simp⟩
    rcases (by have := hq x hx; omega : q = x.1 ∨ q + 1 ≤ x.1) with e | e
    · exact absurd (e ▸ Nat.dvd_trans (Nat.dvd_of_pow_dvd (h.all x hx).2 (Nat.dvd_refl _)) (mem_dvd_prod hx)) hd
    · exact e
theorem f58 {N g k m : Nat} {caps : List AV} {S : List (Nat × Nat) → Heap} {L : List (Nat × Nat)} (h1 : 1 ≤ N) (hN : N ≤ 2147483647) (hL : Fac L N) (hC : Clo m g caps k S L) (hm : 46400 ≤ m) :
    evF tab it (m + 1) 58 [.int .i64 (N : Int), .fn g caps] (S []) = some (.tup [], S L) := by
  refine f_enterH rfl rfl ?_
  rw [hC.hk]
  repeat' first
 | (apply s_mov; (focus ((conv => lhs; whnf); done)))
 | (apply c_nil)
 | (apply c_seq)
 | (apply c_reg)
 | (apply c_block)
 | (with_reducible apply k_c)
  refine c_loop ?_
  refine loop_gc (σ := Nat × Nat × List (Nat × Nat)) (fun s => [.int .i64 (s.1 : Int), .fn g caps, .int .i64 (s.2.1 : Int)]) (fun s => S s.2.2) (fun s => 2 ≤ s.2.1 ∧ s.2.1 ≤ 46342 ∧ ∃ r, L = s.2.2 ++ r ∧ prodL r = s.1 ∧ (∀ x ∈ r, s.2.1 ≤ x.1)) (fun s => 46342 - s.2.1) ?_ _ (N, 2, []) _ _ ⟨by show 2 ≤ 2; omega, by show 2 ≤ 46342; omega, L, rfl, hL.prod, fun x hx => (hL.all x hx).1.1⟩ (by show 46342 - 2 < _; omega) (hC.g3 [] _ _)
  intro ⟨n, q, l⟩ ⟨hq, hb, r, hr, hp, hge⟩ K hK
  dsimp only at hq hb hr hp hge hK ⊢
  have hrf : FacR r := (FacR.append (hr ▸ hL.toFacR)).2.1
  have hnN : n ≤ N := by
    have := hL.prod
    rw [hr, prodL_append, hp] at this
    have hl := (FacR.append (hr ▸ hL.toFacR)).1.pos
    rw [← this]
    exact Nat.le_mul_of_pos_left _ hl
  have hn1 : 1 ≤ n := hp ▸ hrf.pos
  have hs := sq_mono hb
  obtain ⟨e, t, e1, e2, e3, e4⟩ := split_at hrf hq hge
  repeat' first
 | (apply s_mov; (focus ((conv => lhs; whnf); done)))
 | (apply c_nil)
 | ((first | apply s_lss | apply s_leq | apply s_gtr | apply s_geq | apply s_eql | apply s_neq); exact rfl; all_goals (intro _; try (exfalso; omega)))
 | (apply s_mulN; exact rfl; omega)
 | (apply c_seq)
 | (apply c_reg)
 | (apply c_block)
 | (apply c_exitH)
 | (apply c_skip)
 | (apply c_condT; exact rfl)
 | (apply c_condF; exact rfl)
 | (with_reducible apply k_c)
  · have hlt : q + 1 ≤ 46342 := by
      rcases (by omega : q = 46342 ∨ q + 1 ≤ 46342) with rfl | h
      · omega
      · exact h
    refine c_loop ?_
    have he31 : e < 100 := by
      rcases Nat.lt_or_ge e 100 with h | h
      · exact h
      · have a1 := Nat.pow_le_pow_right (show 0 < 2 by omega) h
        have a2 := Nat.pow_le_pow_left hq e
        have a3 := Nat.le_mul_of_pos_right (q ^ e) (show 0 < prodL t by
          have := hp ▸ e1
          rcases Nat.eq_zero_or_pos (prodL t) with z | z
          · rw [z] at this; omega
          · exact z)
        have a4 : 2 ^ 100 ≤ n := by rw [← hp, e1]; omega
        have : 2 ^ 100 ≤ 2147483647 := by omega
        exact absurd this (by decide)
    have hle : ∀ j, j ≤ e → q ^ (e - j) * prodL t ≤ n := fun j hj => by
      rw [← hp, e1]
      exact Nat.mul_le_mul_right _ (Nat.pow_le_pow_right (by omega) (by omega))
    have hz : ∀ j, j < e → q ^ (e - j) * prodL t % q = 0 ∧ q ^ (e - j) * prodL t / q = q ^ (e - (j + 1)) * prodL t := fun j hj => by
      have : q ^ (e - j) * prodL t = q * (q ^ (e - (j + 1)) * prodL t) := by
        rw [show e - j = (e - (j + 1)) + 1 by omega, Nat.pow_succ]
        simp only [Nat.mul_comm, Nat.mul_left_comm, Nat.mul_assoc]
      rw [this]
      exact ⟨Nat.mul_mod_right _ _, Nat.mul_div_cancel_left _ (by omega)⟩
    have hnz : prodL t % q ≠ 0 := fun h => e2 (Nat.dvd_of_mod_eq_zero h)
    have e0 : q ^ (e - e) * prodL t = prodL t := by rw [Nat.sub_self, Nat.pow_zero, Nat.one_mul]
    refine loop_gc (σ := Nat) (fun j => [.int .i64 ((q ^ (e - j) * prodL t : Nat) : Int), .fn g caps, .int .i64 (q : Int), .int .i64 (j : Int)]) (fun _ => S l) (fun j => j ≤ e) (fun j => e - j) ?_ _ 0 _ _ (by omega) (by omega) (by
      rw [Nat.sub_zero, ← e1, hp]
      exact hC.g4 l _ _ _)
    intro j hj K' hK'
    have hj2 := hle j hj
    have hj3 := hz j
    repeat' first
 | (apply s_mov; (focus ((conv => lhs; whnf); done)))
 | (apply c_nil)
 | ((first | apply s_lss | apply s_leq | apply s_gtr | apply s_geq | apply s_eql | apply s_neq); exact rfl; all_goals (intro _; try (exfalso; omega)))
 | ((first | apply s_add | apply s_sub); exact rfl; omega)
 | (apply s_quoN; exact rfl; omega; omega)
 | (apply s_remN; exact rfl; omega)
 | (apply c_seq)
 | (apply c_reg)
 | (apply c_block)
 | (apply c_exitH)
 | (apply c_skip)
 | (apply c_condT; exact rfl)
 | (apply c_condF; exact rfl)
 | (with_reducible apply k_c)
    · have hje : j < e := by
        rcases (by omega : j = e ∨ j < e) with rfl | h
        · rw [e0] at *; omega
        · exact h
      obtain ⟨z1, z2⟩ := hj3 hje
      rw [z2]
      exact hK' (j + 1) _ _ (by omega) (by omega) (hC.g4 l _ _ _)
    · obtain rfl : e = j := by
        rcases (by omega : e = j ∨ j < e) with rfl | h
        · rfl
        · have := (hj3 h).1; omega
      rw [e0] at *
      (try apply k_c)
      apply c_pre
      · exact hC.g4 l _ _ _
      have hn0 : 0 ≤ prodL t := by omega
      by_cases h0 : 0 < e
      · rw [if_pos h0] at e4
        subst e4
        obtain ⟨H', c1, c2, c3⟩ := hC.call l q e t hr
        repeat' first
 | (apply s_mov; (focus ((conv => lhs; whnf); done)))
 | (apply c_nil)
 | ((first | apply s_lss | apply s_leq | apply s_gtr | apply s_geq | apply s_eql | apply s_neq); exact rfl; all_goals (intro _; try (exfalso; omega)))
 | (apply s_en; (focus (repeat (first | apply opds_nil | (apply opds_cons; (first | (focus ((conv => lhs; whnf); done)) | exact rfl))))); exact c1)
 | (apply c_seq)
 | (apply c_reg)
 | (apply c_condT; exact rfl)
 | (with_reducible apply k_c)
        (try apply k_c)
        apply c_pre
        · exact c2 _ _
        repeat' first
 | (apply s_mov; (focus ((conv => lhs; whnf); done)))
 | (apply c_nil)
 | ((first | apply s_add | apply s_sub); exact rfl; omega)
 | (apply c_reg)
        exact hK (prodL t, q + 1, l ++ [(q, e)]) _ _ ⟨by show 2 ≤ q + 1; omega, hlt, t, by simp [hr], rfl, e3⟩ (by show _ - (q + 1) < _; omega) (hC.g3 _ _ _)
      · rw [if_neg h0] at e4
        subst e4
        repeat' first
 | (apply s_mov; (focus ((conv => lhs; whnf); done)))
 | (apply c_nil)
 | ((first | apply s_lss | apply s_leq | apply s_gtr | apply s_geq | apply s_eql | apply s_neq); exact rfl; all_goals (intro _; try (exfalso; omega)))
 | (apply c_seq)
 | (apply c_reg)
 | (apply c_skip)
 | (apply c_condF; exact rfl)
 | (with_reducible apply k_c)
        (try apply k_c)
        apply c_pre
        · exact hC.g3 l _ _
        repeat' first
 | (apply s_mov; (focus ((conv => lhs; whnf); done)))
 | (apply c_nil)
 | ((first | apply s_add | apply s_sub); exact rfl; omega)
 | (apply c_reg)
        exact hK (prodL r, q + 1, l) _ _ ⟨by show 2 ≤ q + 1; omega, hlt, r, hr, rfl, e3⟩ (by show _ - (q + 1) < _; omega) (hC.g3 _ _ _)
  · apply c_pre
    · exact hC.g2 l _
    by_cases hn : 1 < n
    · have hpr := rough_pr (hp ▸ hrf.rough hge) hn (by omega)
      obtain rfl : r = [(n, 1)] := fac_uniq ⟨hrf, hp⟩ (fac_pr hpr)
      obtain ⟨H', c1, c2, c3⟩ := hC.call l n 1 [] hr
      repeat' first
 | (apply s_mov; (focus ((conv => lhs; whnf); done)))
 | (apply c_nil)
 | ((first | apply s_lss | apply s_leq | apply s_gtr | apply s_geq | apply s_eql | apply s_neq); exact rfl; all_goals (intro _; try (exfalso; omega)))
 | (apply s_en; (focus (repeat (first | apply opds_nil | (apply opds_cons; (first | (focus ((conv => lhs; whnf); done)) | exact rfl))))); exact c1)
 | (apply c_seq)
 | (apply c_reg)
 | (apply c_condT; exact rfl)
 | (with_reducible apply k_c)
      simp only [finish, ress, tupOf, Option.bind_some, c3]
      rw [hr]
      rfl
    · obtain rfl : r = [] := fac_one ⟨hrf, by omega⟩
      repeat' first
 | (apply s_mov; (focus ((conv => lhs; whnf); done)))
 | (apply c_nil)
 | ((first | apply s_lss | apply s_leq | apply s_gtr | apply s_geq | apply s_eql | apply s_neq); exact rfl; all_goals (intro _; try (exfalso; omega)))
 | (apply c_seq)
 | (apply c_reg)
 | (apply c_skip)
 | (apply c_condF; exact rfl)
 | (with_reducible apply k_c)
      simp only [finish, ress, tupOf, Option.bind_some, hC.fin]
      rw [hr, List.append_nil]
      rfl
end Go.AM.Pr
