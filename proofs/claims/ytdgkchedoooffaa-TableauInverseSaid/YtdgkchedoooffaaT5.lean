/- A part of the proof: T5. -/
import Derived.Test.YtdgkchedoooffaaT4
set_option linter.unusedVariables false
set_option linter.unusedSimpArgs false
set_option linter.unusedSectionVars false
namespace Go.AM.Tb
set_option maxHeartbeats 2000000
theorem p_convU {H : Heap} {a : Int} (h : 0 ≤ a ∧ a < 9223372036854775808) : evP H (.conv .u64) [.int .i64 a] = some (.int .u64 a) := by
  simp only [evP, IntWalk.u64_in a (by omega)]
theorem p_convI {H : Heap} {a : Int} (h : 0 ≤ a ∧ a < 9223372036854775808) : evP H (.conv .i64) [.int .u64 a] = some (.int .i64 a) := by
  simp only [evP, IntWalk.i64_in a (by omega)]
theorem p_shrU {H : Heap} {a : Int} (h : 0 ≤ a ∧ a < 9223372036854775808) : evP H (.bin .shr) [.int .u64 a, .int .u64 1] = some (.int .u64 (a / 2)) := by
  simp only [evP, binV, isShift, if_true, shiftInt]
  have e : a.fdiv (2 ^ min (Int.toNat 1) IntKind.u64.bits) = a / 2 := by
    have h1 : (2 : Int) ^ min (Int.toNat 1) IntKind.u64.bits = 2 := by decide
    rw [h1, Int.fdiv_eq_ediv_of_nonneg _ (by omega)]
  rw [if_neg (by omega), e]
theorem f91 {cap : List AV} {g n : Nat} {Q : Nat → Bool} {s : Nat} (hn : n ≤ 1000) (hc : idFreeL cap = true) (hs : s ≤ n) (hlo : ∀ i, i < s → Q i = false) (hhi : ∀ i, s ≤ i → i < n → Q i = true) {m : Nat} (hm : 1010 ≤ m)
    (hg : ∀ (i : Nat) H, i < n → callPure (evF tab it m) true g (.int .i64 (i : Int) :: cap) H = some (.bool (Q i), H)) :
    evF tab it (m + 1) 91 [.int .i64 (n : Int), .fn g cap] [] = some (.int .i64 (s : Int), []) := by
  refine f_enter rfl rfl ?_
  generalize evF tab it m = call at *
  repeat' first
 | (apply s_mov; exact aW)
 | (apply c_nil)
 | (apply c_seq)
 | (apply c_reg)
 | (apply c_block)
 | (with_reducible apply k_c)
  refine c_loop ?_
  refine loop_gc (σ := Nat × Nat) (fun p => [.fn g cap, .int .i64 (p.1 : Int), .int .i64 (p.2 : Int)]) (fun _ => []) (fun p => p.1 ≤ s ∧ s ≤ p.2 ∧ p.2 ≤ n) (fun p => p.2 - p.1) ?_ _ (0, n) _ _ ⟨by omega, by omega, by omega⟩ (by dsimp only; omega) (gc_to rfl (by simp [idFreeL, AV.idFree, hc]))
  rintro ⟨i, j⟩ ⟨h1, h2, h3⟩ K hK
  dsimp only at h1 h2 h3 hK ⊢
  by_cases hij : i < j
  · have p1 := fun H => p_convU (H := H) (a := (i : Int) + j) ⟨by omega, by omega⟩
    have p2 := fun H => p_shrU (H := H) (a := (i : Int) + j) ⟨by omega, by omega⟩
    have p3 := fun H => p_convI (H := H) (a := ((i : Int) + j) / 2) ⟨by omega, by omega⟩
    have hh : ((i : Int) + j) / 2 = (((i + j) / 2 : Nat) : Int) := by omega
    rw [hh] at p2 p3
    have ecv : evE call [] (.callv true true) [.fn g cap, .int .i64 (((i + j) / 2 : Nat) : Int)] = some (.bool (Q ((i + j) / 2)), []) := by
      simpa [evE] using hg ((i + j) / 2) [] (by omega)
    have hlt : (i + j) / 2 < j := by omega
    have hge : i ≤ (i + j) / 2 := by omega
    cases hq : Q ((i + j) / 2) with
    | true =>
      rw [hq] at ecv
      have hsl : s ≤ (i + j) / 2 := by
        rcases Nat.lt_or_ge ((i + j) / 2) s with h | h
        · rw [hlo _ h] at hq; cases hq
        · exact h
      generalize (i + j) / 2 = h at *
      repeat' first
 | (apply s_mov; exact aW)
 | (apply c_nil)
 | (apply s_notT; exact rfl)
 | (apply s_lss; exact rfl; all_goals (intro _; try (exfalso; omega)))
 | (apply s_add; exact rfl; omega)
 | (apply s_pn; exact aO; exact p1 _)
 | (apply s_pn; exact aO; exact p2 _)
 | (apply s_pn; exact aO; exact p3 _)
 | (apply s_en; exact aO; exact ecv)
 | (apply c_seq)
 | (apply c_reg)
 | (apply c_block)
 | (apply c_skip)
 | (apply c_condT; exact rfl)
 | (apply c_condF; exact rfl)
 | (with_reducible apply k_c)
      exact hK (i, h) _ _ ⟨by omega, by omega, by omega⟩ (by dsimp only; omega) (gc_to rfl (by simp [idFreeL, AV.idFree, hc]))
    | false =>
      rw [hq] at ecv
      have hsl : (i + j) / 2 < s := by
        rcases Nat.lt_or_ge ((i + j) / 2) s with h | h
        · exact h
        · rw [hhi _ h (by omega)] at hq; cases hq
      generalize (i + j) / 2 = h at *
      repeat' first
 | (apply s_mov; exact aW)
 | (apply c_nil)
 | (apply s_notF; exact rfl)
 | (apply s_lss; exact rfl; all_goals (intro _; try (exfalso; omega)))
 | (apply s_add; exact rfl; omega)
 | (apply s_pn; exact aO; exact p1 _)
 | (apply s_pn; exact aO; exact p2 _)
 | (apply s_pn; exact aO; exact p3 _)
 | (apply s_en; exact aO; exact ecv)
 | (apply c_seq)
 | (apply c_reg)
 | (apply c_block)
 | (apply c_skip)
 | (apply c_condT; exact rfl)
 | (with_reducible apply k_c)
      exact hK (h + 1, j) _ _ ⟨by omega, by omega, by omega⟩ (by dsimp only; omega) (gc_to rfl (by simp [idFreeL, AV.idFree, hc]))
  · have hi : i = s := by omega
    subst hi
    repeat' first
 | (apply s_mov; exact aW)
 | (apply c_nil)
 | (apply s_lss; exact rfl; all_goals (intro _; try (exfalso; omega)))
 | (apply c_seq)
 | (apply c_reg)
 | (apply c_exitH)
 | (apply c_ret)
 | (apply c_condF; exact rfl)
 | (apply c_preF; exact aK; exact aF)
 | (with_reducible apply k_c)
    exact fin_t (by (conv => lhs; whnf)) (by rfl) rfl
theorem c91 {cap : List AV} {g n : Nat} {Q : Nat → Bool} {s : Nat} (hn : n ≤ 1000) (hc : idFreeL cap = true) (hs : s ≤ n) (hlo : ∀ i, i < s → Q i = false) (hhi : ∀ i, s ≤ i → i < n → Q i = true) {m : Nat} (hm : 1010 ≤ m)
    (hg : ∀ (i : Nat) H, i < n → callPure (evF tab it m) true g (.int .i64 (i : Int) :: cap) H = some (.bool (Q i), H)) {args : List AV} {H : Heap} (ha : frzL H 140 args = some [.int .i64 (n : Int), .fn g cap]) :
    callPure (evF tab it (m + 1)) true 91 args H = some (.int .i64 (s : Int), H) := by
  have f := f91 hn hc hs hlo hhi hm hg
  unfold callPure
  rw [ha, Option.bind_some, f, Option.bind_some]
  have e : (idFreeL args || (!(AV.int .i64 (s : Int)).hasRd && ([] : Heap).all fun o => !HO.hasRd o)) = true := by
    rw [show (!(AV.int .i64 (s : Int)).hasRd && ([] : Heap).all fun o => !HO.hasRd o) = true from rfl, Bool.or_true]
  rw [if_pos e]
  rfl
theorem f94 {l : List Int} {v : AV} {x : Int} {i : Nat} (hl : IsL v l) (h : i < l.length) {m : Nat} (hm : 1 ≤ m) : evF tab it m 94 [.int .i64 (i : Int), .rp [v], .rp [.int .i64 x]] [] = some (.bool (decide (x < getI l i)), []) := by
  obtain ⟨m, rfl⟩ : ∃ j, m = j + 1 := ⟨m - 1, by omega⟩
  have fv := hl.free
  have p1 : ∀ H, evP H (.ld false 1) [.rp [v]] = some v := fun H => rfl
  have p2 : ∀ H, evP H (.ld false 1) [.rp [AV.int .i64 x]] = some (.int .i64 x) := fun H => rfl
  have p3 := fun H => p_idx (q := .i64) (i := (i : Int)) (H := H) hl ⟨by omega, by omega⟩
  have p4 := fun H => p_ld (H := H) (l := l) (i := (i : Int)) ⟨by omega, by omega⟩
  refine f_enter rfl rfl ?_
  repeat' first
 | (apply s_mov; exact aW)
 | (apply c_nil)
 | (apply s_gtr; exact rfl; all_goals (intro _; try (exfalso; omega)))
 | (apply s_pn; exact aO; exact p1 _)
 | (apply s_pn; exact aO; exact p2 _)
 | (apply s_pn; exact aO; exact p3 _)
 | (apply s_pn; exact aO; exact p4 _)
 | (apply c_seq)
 | (apply c_reg)
 | (apply c_ret)
 | (with_reducible apply k_c)
  all_goals refine fin_t (by (conv => lhs; whnf)) (by rfl) ?_
  all_goals first | exact leafT (by omega) | exact leafF (by omega)
end Go.AM.Tb
