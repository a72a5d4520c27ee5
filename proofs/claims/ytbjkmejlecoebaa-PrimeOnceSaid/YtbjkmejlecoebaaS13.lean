/- A part of the proof: S9 SE3 S10 SE4 S12 S13. -/
import Derived.Test.YtbjkmejlecoebaaS8
set_option linter.unusedSectionVars false
set_option linter.unusedVariables false
set_option linter.unusedSimpArgs false
namespace Go.AM.Pr
open Go.AM.Num
theorem T38 : T 38 = some ⟨.slice 3, 1, 24, [.nilS]⟩ := rfl
theorem T3 : T 3 = some ⟨.int .i64, 1, 8, [.int .i64 0]⟩ := rfl
theorem take1 {l : List AV} {i : Nat} (h : i < l.length) : (l.drop i).take 1 = [l.getD i .undef] := by
  rw [List.drop_eq_getElem_cons h]
  simp only [List.take_succ_cons, List.take_zero, List.getD, List.getElem?_eq_getElem h, Option.getD_some]
theorem ints_of : ∀ (cs : List AV), (∀ i, i < cs.length → ∃ n : Int, cs.getD i .undef = .int .i64 n) → ∃ l, cs = iL l
  | [], _ => ⟨[], rfl⟩
  | c :: cs, h => by
    obtain ⟨n, hn⟩ := h 0 (by simp)
    obtain ⟨l, rfl⟩ := ints_of cs fun i hi => by simpa using h (i + 1) (by simpa using hi)
    simp at hn
    exact ⟨n :: l, by simp [iL, hn]⟩
theorem ty_int {k : Nat} {cs : List AV} (h : TyAV T k 3 cs) : ∃ n : Int, cs = [.int .i64 n] ∧ (Lit.int .i64 n).wf = true := by
  cases k with
  | zero => exact h.elim
  | succ k =>
    obtain ⟨s, hs, hm⟩ := h
    rw [T3] at hs; cases hs
    exact hm
theorem ty_intsB {k : Nat} {cs : List AV} (h : TyAV T k 38 cs) : ∃ x l, cs = [x] ∧ IsL x l ∧ l.length < 2 ^ 63 := by
  cases k with
  | zero => exact h.elim
  | succ k =>
    obtain ⟨s, hs, hm⟩ := h
    rw [T38] at hs; cases hs
    rcases hm with rfl | ⟨len, cells, se, h1, rfl, h3, h5, h4⟩
    · exact ⟨_, [], rfl, .nil, by simp⟩
    · rw [T3] at h1; cases h1
      simp only [Nat.mul_one] at h3 h4
      obtain ⟨l, rfl⟩ := ints_of cells fun i hi => by
        obtain ⟨n, hn, -⟩ := ty_int (h4 i (by omega))
        rw [take1 hi] at hn
        exact ⟨n, by simpa using hn⟩
      rw [iL_len] at h3
      subst h3
      exact ⟨_, l, rfl, .rd l, h5⟩
theorem ty_ints {k : Nat} {cs : List AV} (h : TyAV T k 38 cs) : ∃ x l, cs = [x] ∧ IsL x l := by
  obtain ⟨x, l, h1, h2, -⟩ := ty_intsB h
  exact ⟨x, l, h1, h2⟩
theorem arg_int {k : Nat} {x : AV} (h : TyArg T k 3 x) : ∃ n : Int, x = .int .i64 n ∧ (Lit.int .i64 n).wf = true := by
  rcases h with ⟨s, xs, hs, ha, _⟩ | ⟨s, hs, ha, h⟩
  · rw [T3] at hs; cases hs; cases ha
  · obtain ⟨n, hn, hw⟩ := ty_int h
    simp only [List.cons.injEq, and_true] at hn
    exact ⟨n, hn, hw⟩
theorem arg_ints {k : Nat} {x : AV} (h : TyArg T k 38 x) : ∃ l, IsL x l := by
  rcases h with ⟨s, xs, hs, ha, _⟩ | ⟨s, hs, ha, h⟩
  · rw [T38] at hs; cases hs; cases ha
  · obtain ⟨y, l, hy, hl⟩ := ty_ints h
    simp only [List.cons.injEq, and_true] at hy
    exact ⟨l, by rw [hy]; exact hl⟩
theorem c19 {N : Nat} {L : List (Nat × Nat)} (h1 : 1 ≤ N) (hN : N ≤ 2147483647) (hL : Fac L N) {m : Nat} (hm : 46403 ≤ m) (H : Heap) : callPure (evF tab it m) true 19 [.int .i64 (N : Int)] H = some (fzP L, H) := by
  have e : frzL H 40 [AV.int .i64 (N : Int)] = some [AV.int .i64 (N : Int)] := rfl
  simp [callPure, e, f19 h1 hN hL hm, frz_owP, idFreeL, AV.idFree]
theorem pcs_at : ∀ {l : List (Nat × Nat)} {i : Nat} (h : i < l.length), ∃ r, (pcs l).drop (i * 2) = .int .i64 (l[i].1 : Int) :: .int .i64 (l[i].2 : Int) :: r
  | x :: l, 0, h => ⟨pcs l, rfl⟩
  | x :: l, i + 1, h => by
    obtain ⟨r, hr⟩ := pcs_at (l := l) (i := i) (by simpa using h)
    refine ⟨r, ?_⟩
    rw [show (i + 1) * 2 = i * 2 + 1 + 1 by omega]
    exact hr
theorem p_lenP {H : Heap} (l : List (Nat × Nat)) : evP H .len [fzP l] = some (.int .i64 ((l.length : Nat) : Int)) := by cases l <;> rfl
theorem p_idxP2 {H : Heap} {l : List (Nat × Nat)} {i : Nat} (h : i < l.length) : evP H (.idxA 2) [fzP l, .int .i64 (i : Int)] = some (.rp ((pcs l).drop (i * 2))) := by
  rcases l with _ | ⟨x, l⟩
  · simp at h
  · have : i < l.length + 1 := h
    simp only [evP, fzP, idxSl]
    rw [if_pos ⟨trivial, by omega, by omega⟩]
    simp
theorem p_ldP {H : Heap} {l : List (Nat × Nat)} {i : Nat} (h : i < l.length) : evP H (.ld true 2) [.rp ((pcs l).drop (i * 2))] = some (.agg [.int .i64 (l[i].1 : Int), .int .i64 (l[i].2 : Int)]) := by
  obtain ⟨r, hr⟩ := pcs_at h
  rw [hr]
  simp [evP, ldc, wholeOf]
theorem p_eqP {H : Heap} {a b : Int} : evP H (.eqagg true [some .i64, some .i64]) [.agg [.int .i64 a, .int .i64 b], .agg [.int .i64 a, .int .i64 b]] = some (.bool false) := by
  simp [evP, eqCells, negIf]
/-- the law -/
theorem f3 {n : Int} (hw : (Lit.int .i64 n).wf = true) : ∃ m H', evF tab it m 3 [.int .i64 n] [] = some (.bool true, H') := by
  refine ⟨60001, [], ?_⟩
  have h18 := c18
  by_cases hn : IsNum n
  · obtain ⟨N, rfl⟩ : ∃ N : Nat, n = N := ⟨n.toNat, by have := hn.1; omega⟩
    have hn' := hn
    unfold IsNum at hn'
    obtain ⟨L, hL⟩ := fac_ex (n := N) (by omega)
    have h16 := c16 (by omega) (by omega) hL (m := 60000) (by omega) []
    have h19 := c19 (by omega) (by omega) hL (m := 60000) (by omega) []
    have h17 := c17 (m := 60000) (by omega) (N : Int) []
    simp only [hn, decide_true] at h17
    have hlen := fun H => p_lenP (H := H) L
    have hidx := fun H i h => p_idxP2 (H := H) (l := L) (i := i) h
    have hld := fun H i h => p_ldP (H := H) (l := L) (i := i) h
    have ff := fzP_free L
    have hl := fac_len31 hL (by omega)
    refine f_enter rfl rfl ?_
    generalize evF tab it 60000 = call at *
    generalize fzP L = F at *
    repeat' first
 | (apply s_mov; (focus ((conv => lhs; whnf); done)))
 | (apply s_gT; exact rfl)
 | (apply c_nil)
 | (apply s_pickF; exact rfl; (focus ((conv => lhs; whnf); done)))
 | (apply s_notT; exact rfl)
 | ((first | apply s_lss | apply s_leq | apply s_gtr | apply s_geq | apply s_eql | apply s_neq); exact rfl; all_goals (intro _; try (exfalso; omega)))
 | (apply s_cn; (focus (repeat (first | apply opds_nil | (apply opds_cons; (first | (focus ((conv => lhs; whnf); done)) | exact rfl))))); exact h16)
 | (apply s_cn; (focus (repeat (first | apply opds_nil | (apply opds_cons; (first | (focus ((conv => lhs; whnf); done)) | exact rfl))))); exact h19)
 | (apply s_cn; (focus (repeat (first | apply opds_nil | (apply opds_cons; (first | (focus ((conv => lhs; whnf); done)) | exact rfl))))); exact h17)
 | (apply s_pn; (focus (repeat (first | apply opds_nil | (apply opds_cons; (first | (focus ((conv => lhs; whnf); done)) | exact rfl))))); exact hlen _)
 | (apply s_pd; (focus ((conv => lhs; whnf); done)))
 | (apply c_seq)
 | (apply c_reg)
 | (apply c_block)
 | (apply c_skip)
 | (apply c_condF; exact rfl)
 | (with_reducible apply k_c)
    · refine c_loop ?_
      refine loop_gc (σ := Nat) (fun i => [F, F, .int .i64 (i : Int)]) (fun _ => []) (fun i => i ≤ L.length) (fun i => L.length - i) ?_ _ 0 _ _ (by omega) (by omega) (gc_to rfl (by simp [idFreeL, AV.idFree, ff]))
      intro i hi K hK
      repeat' first
 | (apply s_mov; (focus ((conv => lhs; whnf); done)))
 | (apply c_nil)
 | ((first | apply s_lss | apply s_leq | apply s_gtr | apply s_geq | apply s_eql | apply s_neq); exact rfl; all_goals (intro _; try (exfalso; omega)))
 | (apply s_pn; (focus (repeat (first | apply opds_nil | (apply opds_cons; (first | (focus ((conv => lhs; whnf); done)) | exact rfl))))); exact hlen _)
 | (apply c_seq)
 | (apply c_reg)
 | (apply c_block)
 | (apply c_exitH)
 | (apply c_skip)
 | (apply c_condT; exact rfl)
 | (apply c_condF; exact rfl)
 | (apply c_preF; (focus (repeat (first | apply looks_nil | (apply looks_cons; (focus ((conv => lhs; whnf); done)))))); (focus (simp [idFreeL, AV.idFree, *]; done)))
 | (with_reducible apply k_c)
      · have hlt : i < L.length := by omega
        have g1 := hidx [] i hlt
        have g2 := hld [] i hlt
        repeat' first
 | (apply s_mov; (focus ((conv => lhs; whnf); done)))
 | (apply c_nil)
 | ((first | apply s_add | apply s_sub); exact rfl; omega)
 | (apply s_pn; (focus (repeat (first | apply opds_nil | (apply opds_cons; (first | (focus ((conv => lhs; whnf); done)) | exact rfl))))); exact g1)
 | (apply s_pn; (focus (repeat (first | apply opds_nil | (apply opds_cons; (first | (focus ((conv => lhs; whnf); done)) | exact rfl))))); exact g2)
 | (apply s_pn; (focus (repeat (first | apply opds_nil | (apply opds_cons; (first | (focus ((conv => lhs; whnf); done)) | exact rfl))))); exact p_eqP)
 | (apply c_reg)
 | (apply c_skip)
 | (apply c_condF; exact rfl)
 | (with_reducible apply k_c)
        exact hK (i + 1) _ _ (by omega) (by omega) (gc_to rfl (by simp [idFreeL, AV.idFree, ff]))
      · skip
        repeat' first
 | (apply s_mov; (focus ((conv => lhs; whnf); done)))
 | (apply c_nil)
 | (apply s_cn; (focus (repeat (first | apply opds_nil | (apply opds_cons; (first | (focus ((conv => lhs; whnf); done)) | exact rfl))))); exact h18 _)
 | (apply c_ret)
 | (with_reducible apply k_c)
        exact fin_t (by (conv => lhs; whnf)) (by rfl) rfl
  · have h16 := c16e hn (m := 60000) (by omega) []
    have h17 := c17 (m := 60000) (by omega) n []
    simp only [hn, decide_false] at h17
    refine f_enter rfl rfl ?_
    generalize evF tab it 60000 = call at *
    repeat' first
 | (apply s_mov; (focus ((conv => lhs; whnf); done)))
 | (apply s_gT; exact rfl)
 | (apply c_nil)
 | (apply s_pickT; exact rfl; (focus ((conv => lhs; whnf); done)))
 | (apply s_notF; exact rfl)
 | ((first | apply s_lss | apply s_leq | apply s_gtr | apply s_geq | apply s_eql | apply s_neq); exact rfl; all_goals (intro _; try (exfalso; omega)))
 | (apply s_cn; (focus (repeat (first | apply opds_nil | (apply opds_cons; (first | (focus ((conv => lhs; whnf); done)) | exact rfl))))); exact h16)
 | (apply s_cn; (focus (repeat (first | apply opds_nil | (apply opds_cons; (first | (focus ((conv => lhs; whnf); done)) | exact rfl))))); exact h17)
 | (apply s_cn; (focus (repeat (first | apply opds_nil | (apply opds_cons; (first | (focus ((conv => lhs; whnf); done)) | exact rfl))))); exact h18 _)
 | (apply s_pd; exact rfl)
 | (apply c_seq)
 | (apply c_reg)
 | (apply c_ret)
 | (apply c_condT; exact rfl)
 | (with_reducible apply k_c)
    exact fin_t (by (conv => lhs; whnf)) (by rfl) rfl
end Go.AM.Pr

set_option linter.unusedSectionVars false
set_option linter.unusedVariables false
set_option linter.unusedSimpArgs false
namespace Go.AM.Num
def gp (l : List (Nat × Nat)) (i : Nat) : Nat × Nat := l.getD i (0, 0)
theorem gp_lt {l : List (Nat × Nat)} {i : Nat} (h : i < l.length) : gp l i = l[i] := by simp [gp, List.getD, h]
theorem gp_mem {l : List (Nat × Nat)} {i : Nat} (h : i < l.length) : gp l i ∈ l := by rw [gp_lt h]; exact List.getElem_mem h
/-- how often p occurs -/
def expo (p : Nat) : List (Nat × Nat) → Nat
  | [] => 0
  | x :: l => (if x.1 = p then x.2 else 0) + expo p l
theorem expo_app (p : Nat) : ∀ (l r : List (Nat × Nat)), expo p (l ++ r) = expo p l + expo p r
  | [], r => by simp [expo]
  | x :: l, r => by rw [List.cons_append]; simp only [expo]; rw [expo_app p l r]; omega
theorem take_succ {l : List (Nat × Nat)} {i : Nat} (h : i < l.length) : l.take (i + 1) = l.take i ++ [gp l i] := by
  rw [gp_lt h, List.take_append_getElem h]
theorem expo_take (p : Nat) {l : List (Nat × Nat)} {i : Nat} (h : i < l.length) : expo p (l.take (i + 1)) = expo p (l.take i) + (if (gp l i).1 = p then (gp l i).2 else 0) := by
  rw [take_succ h, expo_app]; simp [expo]
theorem expo_val {p : Nat} (hp : IsPr p) : ∀ {l : List (Nat × Nat)}, (∀ x ∈ l, IsPr x.1 ∧ 1 ≤ x.2) → ∃ c, prodL l = p ^ expo p l * c ∧ ¬ p ∣ c
  | [], _ => ⟨1, by simp [prodL, expo], fun h => by have := Nat.le_of_dvd (by omega) h; have := hp.1; omega⟩
  | x :: l, h => by
    obtain ⟨c, h1, h2⟩ := expo_val hp (l := l) fun y hy => h y (List.mem_cons_of_mem _ hy)
    have hx := h x List.mem_cons_self
    rw [prodL_cons, h1]
    by_cases e : x.1 = p
    · refine ⟨c, ?_, h2⟩
      simp only [expo, e, if_true]
      rw [Nat.pow_add, Nat.mul_assoc]
    · refine ⟨x.1 ^ x.2 * c, ?_, fun hd => ?_⟩
      · simp only [expo, if_neg e, Nat.zero_add]
        rw [Nat.mul_left_comm]
      · rcases pr_dvd_mul hp hd with g | g
        · exact e (pr_dvd_pr hp hx.1 (pr_dvd_pow hp g)).symm
        · exact h2 g
theorem expo_none {p : Nat} : ∀ {l : List (Nat × Nat)}, (∀ x ∈ l, p < x.1) → expo p l = 0
  | [], _ => rfl
  | x :: l, h => by
    have h1 := h x List.mem_cons_self
    simp only [expo]
    rw [if_neg (by omega), expo_none fun y hy => h y (List.mem_cons_of_mem _ hy)]
theorem expo_at : ∀ {l : List (Nat × Nat)} {i : Nat}, FacR l → i < l.length → expo (gp l i).1 l = (gp l i).2
  | x :: l, 0, h, _ => by
    show (if x.1 = x.1 then x.2 else 0) + expo x.1 l = x.2
    rw [if_pos rfl, expo_none h.head_lt]; rfl
  | x :: l, i + 1, h, hi => by
    have hi' : i < l.length := by simpa using hi
    have := expo_at h.tail hi'
    have hl := h.head_lt _ (gp_mem hi')
    show (if x.1 = (gp l i).1 then x.2 else 0) + expo (gp l i).1 l = (gp l i).2
    rw [if_neg (by omega), this, Nat.zero_add]
/-- the exponents of a product add up -/
theorem expo_join {a b : Nat} {la lb lc : List (Nat × Nat)} (ha : Fac la a) (hb : Fac lb b) (hc : Fac lc (a * b)) {i : Nat} (hi : i < lc.length) : expo (gp lc i).1 la + expo (gp lc i).1 lb = (gp lc i).2 := by
  have hp := (hc.all _ (gp_mem hi)).1
  obtain ⟨c1, e1, n1⟩ := expo_val hp ha.all
  obtain ⟨c2, e2, n2⟩ := expo_val hp hb.all
  obtain ⟨c3, e3, n3⟩ := expo_val hp hc.all
  rw [ha.prod] at e1; rw [hb.prod] at e2; rw [hc.prod, expo_at hc.toFacR hi] at e3
  generalize (gp lc i).1 = p at *
  have : p ^ (expo p la + expo p lb) * (c1 * c2) = p ^ (gp lc i).2 * c3 := by
    rw [← e3, e1, e2, Nat.pow_add]
    rw [← e1, ← e2]
    conv => rhs; rw [e1, e2]
    simp only [Nat.mul_comm, Nat.mul_left_comm, Nat.mul_assoc]
  exact (pow_cancel hp.1 (fun h => (pr_dvd_mul hp h).elim n1 n2) n3 this).1
theorem gp_asc {l : List (Nat × Nat)} (h : FacR l) {i : Nat} (h0 : 0 < i) (hi : i < l.length) : (gp l (i - 1)).1 < (gp l i).1 := by
  obtain ⟨j, rfl⟩ : ∃ j, i = j + 1 := ⟨i - 1, by omega⟩
  have hs : l = l.take (j + 1) ++ l.drop (j + 1) := (List.take_append_drop _ _).symm
  have := (FacR.append (hs ▸ h)).2.2 (gp l j) (by rw [take_succ (by omega)]; simp) (gp l (j + 1)) (by
    rw [gp_lt hi]
    rw [List.drop_eq_getElem_cons hi]
    exact List.mem_cons_self)
  exact this
/-- the product of the first ones, times a power -/
theorem prod_take_le {l : List (Nat × Nat)} (h : FacR l) {i k : Nat} (hi : i < l.length) (hk : k ≤ (gp l i).2) : prodL (l.take i) * (gp l i).1 ^ k ≤ prodL l := by
  have hs : l = l.take (i + 1) ++ l.drop (i + 1) := (List.take_append_drop _ _).symm
  have e : prodL l = prodL (l.take i) * (gp l i).1 ^ (gp l i).2 * prodL (l.drop (i + 1)) := by
    conv => lhs; rw [hs]
    rw [prodL_append, take_succ hi, prodL_append]
    simp [prodL]
  have hpos := (FacR.append (hs ▸ h)).2.1.pos
  have h2 := (h.all _ (gp_mem hi)).1.1
  have h3 := Nat.pow_le_pow_right (show 0 < (gp l i).1 by omega) hk
  rw [e]
  exact Nat.le_trans (Nat.mul_le_mul_left _ h3) (Nat.le_mul_of_pos_right _ hpos)
theorem prod_take_succ {l : List (Nat × Nat)} {i : Nat} (hi : i < l.length) : prodL (l.take (i + 1)) = prodL (l.take i) * (gp l i).1 ^ (gp l i).2 := by
  rw [take_succ hi, prodL_append]
  simp [prodL]
theorem exp_lt {l : List (Nat × Nat)} {N : Nat} (h : Fac l N) (hN : N ≤ 2147483647) {i : Nat} (hi : i < l.length) : 1 ≤ (gp l i).2 ∧ (gp l i).2 ≤ 30 ∧ 2 ≤ (gp l i).1 ∧ (gp l i).1 ≤ N := by
  have hx := h.all _ (gp_mem hi)
  have hd := Nat.le_of_dvd (by have := h.toFacR.pos; rw [h.prod] at this; omega) (h.prod ▸ mem_dvd_prod (gp_mem hi))
  have h2 := hx.1.1
  refine ⟨hx.2, ?_, h2, ?_⟩
  · rcases Nat.lt_or_ge 30 (gp l i).2 with g | g
    · have a := Nat.pow_le_pow_right (show 0 < 2 by omega) (show 31 ≤ (gp l i).2 by omega)
      have b := Nat.pow_le_pow_left h2 (gp l i).2
      omega
    · exact g
  · have := Nat.pow_le_pow_right (show 0 < (gp l i).1 by omega) hx.2
    rw [Nat.pow_one] at this
    omega
end Go.AM.Num

set_option linter.unusedSectionVars false
set_option linter.unusedVariables false
set_option linter.unusedSimpArgs false
namespace Go.AM.Pr
open Go.AM.Num
def modN (x : Int) (n : Nat) : Nat := (x % 18446744073709551616).toNat % n
theorem wrapU {x : Int} : IntKind.u64.wrap x = x % 18446744073709551616 := by
  simp [IntKind.wrap, IntKind.signed, IntKind.bits]
theorem f29 {x : Int} {n : Nat} (hn : 0 < n) (hn2 : n < 9223372036854775808) {m : Nat} (hm : 1 ≤ m) : evF tab it m 29 [.int .i64 x, .int .i64 (n : Int)] [] = some (.int .i64 (modN x n : Nat), []) := by
  obtain ⟨m, rfl⟩ : ∃ j, m = j + 1 := ⟨m - 1, by omega⟩
  have c1 : ∀ H, evP H (.conv .u64) [.int .i64 x] = some (.int .u64 (((x % 18446744073709551616).toNat : Nat) : Int)) := fun H => by
    simp only [evP, wrapU]
    rw [Int.toNat_of_nonneg (Int.emod_nonneg _ (by decide))]
  have c2 : ∀ H, evP H (.conv .u64) [.int .i64 (n : Int)] = some (.int .u64 (n : Int)) := fun H => by
    simp only [evP, wrapU]
    rw [Int.emod_eq_of_lt (by omega) (by omega)]
  have c3 : ∀ H, evP H (.bin .rem) [.int .u64 (((x % 18446744073709551616).toNat : Nat) : Int), .int .u64 (n : Int)] = some (.int .u64 (modN x n : Nat)) := fun H => by
    simp only [evP, binV, isShift, binInt, Bool.false_eq_true, if_false, if_true]
    rw [if_neg (by omega)]
    rfl
  have hlt : modN x n < n := Nat.mod_lt _ hn
  have c4 : ∀ H, evP H (.conv .i64) [.int .u64 (modN x n : Nat)] = some (.int .i64 (modN x n : Nat)) := fun H => by
    simp only [evP]
    rw [wrapI (by omega)]
  refine f_enter rfl rfl ?_
  repeat' first
 | (apply s_mov; (focus ((conv => lhs; whnf); done)))
 | (apply c_nil)
 | (apply s_pn; (focus (repeat (first | apply opds_nil | (apply opds_cons; (first | (focus ((conv => lhs; whnf); done)) | exact rfl))))); exact c1 _)
 | (apply s_pn; (focus (repeat (first | apply opds_nil | (apply opds_cons; (first | (focus ((conv => lhs; whnf); done)) | exact rfl))))); exact c2 _)
 | (apply s_pn; (focus (repeat (first | apply opds_nil | (apply opds_cons; (first | (focus ((conv => lhs; whnf); done)) | exact rfl))))); exact c3 _)
 | (apply s_pn; (focus (repeat (first | apply opds_nil | (apply opds_cons; (first | (focus ((conv => lhs; whnf); done)) | exact rfl))))); exact c4 _)
 | (apply c_seq)
 | (apply c_reg)
 | (apply c_ret)
 | (with_reducible apply k_c)
  exact fin_t (by (conv => lhs; whnf)) (by rfl) rfl
theorem c29 {x : Int} {n : Nat} (hn : 0 < n) (hn2 : n < 9223372036854775808) {m : Nat} (hm : 1 ≤ m) (H : Heap) : callPure (evF tab it m) true 29 [.int .i64 x, .int .i64 (n : Int)] H = some (.int .i64 (modN x n : Nat), H) :=
  callPure_free rfl (by simp) (f29 hn hn2 hm) rfl
def numN (x : Int) (most : Nat) : Nat := if 1 ≤ x ∧ x ≤ most then x.toNat else 1 + modN x most
theorem numN_le {x : Int} {most : Nat} (h : 1 ≤ most) : 1 ≤ numN x most ∧ numN x most ≤ most := by
  have := Nat.mod_lt (x % 18446744073709551616).toNat (show most > 0 by omega)
  unfold numN modN
  split <;> omega
theorem f28 {x : Int} {n : Nat} (hn : 0 < n) (hn2 : n < 9223372036854775807) {m : Nat} (hm : 2 ≤ m) : evF tab it m 28 [.int .i64 x, .int .i64 (n : Int)] [] = some (.int .i64 (numN x n : Nat), []) := by
  obtain ⟨m, rfl⟩ : ∃ j, m = j + 1 := ⟨m - 1, by omega⟩
  have hlt : modN x n < n := Nat.mod_lt _ hn
  have hc := c29 (x := x) hn (by omega) (m := m) (by omega) []
  refine f_enter rfl rfl ?_
  repeat' first
 | (apply s_mov; (focus ((conv => lhs; whnf); done)))
 | (apply s_gT; exact rfl)
 | (apply s_gF; exact rfl)
 | (apply c_nil)
 | (apply s_pickT; exact rfl; (focus ((conv => lhs; whnf); done)))
 | (apply s_pickF; exact rfl; (focus ((conv => lhs; whnf); done)))
 | ((first | apply s_lss | apply s_leq | apply s_gtr | apply s_geq | apply s_eql | apply s_neq); exact rfl; all_goals (intro _; try (exfalso; omega)))
 | ((first | apply s_add | apply s_sub); exact rfl; omega)
 | (apply s_cn; (focus (repeat (first | apply opds_nil | (apply opds_cons; (first | (focus ((conv => lhs; whnf); done)) | exact rfl))))); exact hc)
 | (apply c_seq)
 | (apply c_reg)
 | (apply c_skip)
 | (apply c_ret)
 | (apply c_condT; exact rfl)
 | (apply c_condF; exact rfl)
 | (with_reducible apply k_c)
  · rw [show ((numN x n : Nat) : Int) = x by unfold numN; rw [if_pos (by omega)]; omega]
    exact fin_t (by (conv => lhs; whnf)) (by rfl) rfl
  all_goals
    rw [show ((numN x n : Nat) : Int) = 1 + (modN x n : Nat) by unfold numN; rw [if_neg (by omega)]; omega]
    exact fin_t (by (conv => lhs; whnf)) (by rfl) rfl
theorem c28 {x : Int} {n : Nat} (hn : 0 < n) (hn2 : n < 9223372036854775807) {m : Nat} (hm : 2 ≤ m) (H : Heap) : callPure (evF tab it m) true 28 [.int .i64 x, .int .i64 (n : Int)] H = some (.int .i64 (numN x n : Nat), H) :=
  callPure_free rfl (by simp) (f28 hn hn2 hm) rfl
/-! ### reading a factorization -/
theorem p_idxG {H : Heap} {l : List (Nat × Nat)} {i : Nat} (h : i < l.length) : evP H (.idxA 2) [fzP l, .int .i64 (i : Int)] = some (.rp ((pcs l).drop (i * 2))) := p_idxP2 h
theorem p_fld0 {H : Heap} {l : List (Nat × Nat)} {i : Nat} : evP H (.fldA 0) [.rp ((pcs l).drop (i * 2))] = some (.rp ((pcs l).drop (i * 2))) := by
  simp [evP, fldAt]
theorem p_fld1 {H : Heap} {l : List (Nat × Nat)} {i : Nat} : evP H (.fldA 1) [.rp ((pcs l).drop (i * 2))] = some (.rp ((pcs l).drop (i * 2 + 1))) := by
  simp [evP, fldAt]
theorem p_ld0 {H : Heap} {l : List (Nat × Nat)} {i : Nat} (h : i < l.length) : evP H (.ld false 1) [.rp ((pcs l).drop (i * 2))] = some (.int .i64 ((gp l i).1 : Int)) := by
  obtain ⟨r, hr⟩ := pcs_at h
  rw [hr, gp_lt h]
  simp [evP, ldc, wholeOf]
theorem p_ld1 {H : Heap} {l : List (Nat × Nat)} {i : Nat} (h : i < l.length) : evP H (.ld false 1) [.rp ((pcs l).drop (i * 2 + 1))] = some (.int .i64 ((gp l i).2 : Int)) := by
  obtain ⟨r, hr⟩ := pcs_at h
  have : (pcs l).drop (i * 2 + 1) = .int .i64 (l[i].2 : Int) :: r := by rw [← List.drop_drop, hr]; rfl
  rw [this, gp_lt h]
  simp [evP, ldc, wholeOf]
end Go.AM.Pr

set_option linter.unusedSectionVars false
set_option linter.unusedVariables false
set_option linter.unusedSimpArgs false
namespace Go.AM.Num
theorem totL_cons (x : Nat × Nat) (l : List (Nat × Nat)) : totL (x :: l) = (x.1 - 1) * x.1 ^ (x.2 - 1) * totL l := rfl
theorem totL_app : ∀ (l r : List (Nat × Nat)), totL (l ++ r) = totL l * totL r
  | [], r => by simp [totL]
  | x :: l, r => by rw [List.cons_append, totL_cons, totL_cons, totL_app l r]; simp only [Nat.mul_assoc]
theorem totL_le {l : List (Nat × Nat)} (h : FacR l) : 1 ≤ totL l ∧ totL l ≤ prodL l := by
  induction l with
  | nil => simp [totL, prodL]
  | cons x l ih =>
    have hx := h.all x List.mem_cons_self
    have h2 := hx.1.1
    obtain ⟨i1, i2⟩ := ih h.tail
    rw [totL_cons, prodL_cons]
    have e : x.1 ^ x.2 = x.1 * x.1 ^ (x.2 - 1) := by
      rw [← Nat.pow_succ', Nat.succ_eq_add_one, Nat.sub_add_cancel hx.2]
    have hp : 0 < x.1 ^ (x.2 - 1) := Nat.pow_pos (by omega)
    refine ⟨Nat.mul_le_mul (Nat.mul_le_mul (show 1 ≤ x.1 - 1 by omega) hp) i1, Nat.mul_le_mul ?_ i2⟩
    rw [e]
    exact Nat.mul_le_mul_right _ (by omega)
/-- one step of the totient -/
theorem tot_step {l r : List (Nat × Nat)} {q t : Nat} (hq : 2 ≤ q) (ht : 1 ≤ t) : totL l * prodL ((q, t) :: r) / q * (q - 1) = totL (l ++ [(q, t)]) * prodL r := by
  have e : q ^ t = q * q ^ (t - 1) := by rw [← Nat.pow_succ', Nat.succ_eq_add_one, Nat.sub_add_cancel ht]
  rw [prodL_cons, totL_app]
  have e2 : totL l * ((q, t).1 ^ (q, t).2 * prodL r) = q * (totL l * (q ^ (t - 1) * prodL r)) := by
    simp only [e]
    simp only [Nat.mul_comm, Nat.mul_left_comm, Nat.mul_assoc]
  rw [e2, Nat.mul_div_cancel_left _ (by omega)]
  simp only [totL, List.foldr, Nat.mul_one]
  simp only [Nat.mul_comm, Nat.mul_left_comm, Nat.mul_assoc]
/-- the power is one -/
def Pow1 (a m k : Nat) : Prop := a ^ k % m = 1 % m
instance (a m k : Nat) : Decidable (Pow1 a m k) := by unfold Pow1; infer_instance
theorem Pow1.mul {a m k : Nat} (h : Pow1 a m k) (j : Nat) : Pow1 a m (k * j) := by
  unfold Pow1 at *
  rw [Nat.pow_mul, Nat.pow_mod, h, ← Nat.pow_mod, Nat.one_pow]
theorem Pow1.dvd {a m k n : Nat} (h : Pow1 a m k) (hd : k ∣ n) : Pow1 a m n := by
  obtain ⟨j, rfl⟩ := hd
  exact h.mul j
def ordS (a m q : Nat) : Nat → Nat → Nat
  | 0, n => n
  | t + 1, n => if Pow1 a m (n / q) then ordS a m q t (n / q) else n
def ordF (a m T : Nat) (l : List (Nat × Nat)) : Nat := l.foldl (fun n x => ordS a m x.1 x.2 n) T
theorem ordF_app (a m T : Nat) (l : List (Nat × Nat)) (x : Nat × Nat) : ordF a m T (l ++ [x]) = ordS a m x.1 x.2 (ordF a m T l) := by simp [ordF]
/-- what is left behind the primes of l -/
structure OrdI (a m : Nat) (l r : List (Nat × Nat)) (N : Nat) : Prop where
  one : Pow1 a m N
  pos : 1 ≤ N
  least : ∀ x ∈ l, x.1 ∣ N → ¬ Pow1 a m (N / x.1)
  part : ∃ u, N = u * prodL r ∧ ∀ p, IsPr p → p ∣ u → ∃ x ∈ l, x.1 = p
theorem ordS_spec {a m q u R : Nat} (hq : IsPr q) (hu : ¬ q ∣ u * R) : ∀ (t N : Nat), N = u * q ^ t * R → Pow1 a m N → 1 ≤ N → ∃ j, ordS a m q t N = u * q ^ j * R ∧ j ≤ t ∧ Pow1 a m (ordS a m q t N) ∧ 1 ≤ ordS a m q t N ∧ (q ∣ ordS a m q t N → ¬ Pow1 a m (ordS a m q t N / q))
  | 0, N, e, h1, h2 => by
    refine ⟨0, e, Nat.le_refl _, h1, h2, fun hd => ?_⟩
    simp only [ordS] at hd
    rw [e, Nat.pow_zero, Nat.mul_one] at hd
    exact absurd hd hu
  | t + 1, N, e, h1, h2 => by
    have e2 : N / q = u * q ^ t * R := by
      have : N = q * (u * q ^ t * R) := by rw [e, Nat.pow_succ]; simp only [Nat.mul_comm, Nat.mul_left_comm, Nat.mul_assoc]
      rw [this, Nat.mul_div_cancel_left _ (by have := hq.1; omega)]
    simp only [ordS]
    split
    · rename_i h
      have hpos : 1 ≤ N / q := by
        rw [e2]
        rcases Nat.eq_zero_or_pos (u * q ^ t * R) with z | z
        · rw [e, Nat.pow_succ, ← Nat.mul_assoc, Nat.mul_right_comm _ q, z] at h2; simp at h2
        · exact z
      obtain ⟨j, g1, g2, g3, g4, g5⟩ := ordS_spec hq hu t (N / q) e2 h hpos
      exact ⟨j, g1, by omega, g3, g4, g5⟩
    · rename_i h
      exact ⟨t + 1, e, Nat.le_refl _, h1, h2, fun _ => h⟩
theorem OrdI.step {a m N q t : Nat} {l r : List (Nat × Nat)} (hf : FacR (l ++ (q, t) :: r)) (h : OrdI a m l ((q, t) :: r) N) : OrdI a m (l ++ [(q, t)]) r (ordS a m q t N) := by
  obtain ⟨one, pos, least, u, hu, hp⟩ := h
  obtain ⟨f1, f2, f3⟩ := FacR.append hf
  have hq := (f2.all (q, t) List.mem_cons_self).1
  have hqr : ¬ q ∣ prodL r := FacR.not_dvd (fun y hy => f2.all y (List.mem_cons_of_mem _ hy)) hq f2.head_lt
  have hqu : ¬ q ∣ u := fun hd => by
    obtain ⟨x, hx, e⟩ := hp q hq hd
    have := f3 x hx (q, t) List.mem_cons_self
    simp only at this
    omega
  have hqR : ¬ q ∣ u * prodL r := fun hd => (pr_dvd_mul hq hd).elim hqu hqr
  have e : N = u * q ^ t * prodL r := by rw [hu, prodL_cons, Nat.mul_assoc]
  obtain ⟨j, g1, g2, g3, g4, g5⟩ := ordS_spec hq hqR t N e one pos
  generalize ordS a m q t N = M at *
  have hdvd : M ∣ N := by
    rw [g1, e, Nat.mul_assoc, Nat.mul_assoc]
    exact Nat.mul_dvd_mul_left _ (Nat.mul_dvd_mul (Nat.pow_dvd_pow q g2) (Nat.dvd_refl _))
  refine ⟨g3, g4, fun x hx hd ho => ?_, u * q ^ j, g1, fun p hpp hd => ?_⟩
  · rcases List.mem_append.1 hx with hx | hx
    · have h2 := (f1.all x hx).1.1
      refine least x hx (Nat.dvd_trans hd hdvd) (ho.dvd ?_)
      obtain ⟨c, rfl⟩ := hd
      obtain ⟨d, rfl⟩ := hdvd
      rw [Nat.mul_div_cancel_left _ (by omega), Nat.mul_assoc, Nat.mul_div_cancel_left _ (by omega)]
      exact ⟨d, rfl⟩
    · simp only [List.mem_singleton] at hx
      subst hx
      exact g5 hd ho
  · rcases pr_dvd_mul hpp hd with h | h
    · obtain ⟨x, hx, e⟩ := hp p hpp h
      exact ⟨x, List.mem_append_left _ hx, e⟩
    · exact ⟨(q, t), by simp, (pr_dvd_pr hpp hq (pr_dvd_pow hpp h)).symm⟩
theorem ordF_spec {a m T : Nat} {L : List (Nat × Nat)} (hL : Fac L T) (h1 : Pow1 a m T) : ∀ l r, L = l ++ r → OrdI a m l r (ordF a m T l) := by
  have h0 : 1 ≤ T := hL.prod ▸ hL.toFacR.pos
  have key : ∀ n l r, l.length = n → L = l ++ r → OrdI a m l r (ordF a m T l) := by
    intro n
    induction n with
    | zero =>
      intro l r hl hr
      obtain rfl : l = [] := List.length_eq_zero_iff.1 hl
      have hr : L = r := hr
      subst hr
      exact ⟨h1, h0, fun x hx => (by cases hx), 1, by simp [ordF, hL.prod], fun p hp hd => by
        have := Nat.le_of_dvd (by omega) hd
        have := hp.1
        omega⟩
    | succ n ih =>
      intro l r hl hr
      obtain ⟨l', x, rfl⟩ : ∃ l' x, l = l' ++ [x] := ⟨l.dropLast, l.getLast (by intro h; simp [h] at hl), (List.dropLast_concat_getLast _).symm⟩
      rw [ordF_app]
      obtain ⟨q, t⟩ := x
      have hr' : L = l' ++ (q, t) :: r := by rw [hr]; simp
      exact OrdI.step (hr' ▸ hL.toFacR) (ih l' ((q, t) :: r) (by simpa using hl) hr')
  exact fun l r => key l.length l r rfl
/-- the order: what the law asks -/
theorem ord_done {a m T : Nat} {L : List (Nat × Nat)} (hL : Fac L T) (h1 : Pow1 a m T) : Pow1 a m (ordF a m T L) ∧ 1 ≤ ordF a m T L ∧ ordF a m T L ∣ T ∧ ∀ p, IsPr p → p ∣ ordF a m T L → ¬ Pow1 a m (ordF a m T L / p) := by
  obtain ⟨one, pos, least, u, hu, hp⟩ := ordF_spec hL h1 L [] (by simp)
  have hd : ∀ l r, L = l ++ r → ordF a m T l ∣ T := by
    have key : ∀ n l r, l.length = n → L = l ++ r → ordF a m T l ∣ T := by
      intro n
      induction n with
      | zero =>
        intro l r hl hr
        obtain rfl : l = [] := List.length_eq_zero_iff.1 hl
        exact Nat.dvd_refl T
      | succ n ih =>
        intro l r hl hr
        obtain ⟨l', x, rfl⟩ : ∃ l' x, l = l' ++ [x] := ⟨l.dropLast, l.getLast (by intro h; simp [h] at hl), (List.dropLast_concat_getLast _).symm⟩
        rw [ordF_app]
        obtain ⟨q, t⟩ := x
        have hr' : L = l' ++ (q, t) :: r := by rw [hr]; simp
        obtain ⟨one, pos, least, u, hu, hp⟩ := ordF_spec hL h1 l' ((q, t) :: r) hr'
        obtain ⟨f1, f2, f3⟩ := FacR.append (hr' ▸ hL.toFacR)
        have hq := (f2.all (q, t) List.mem_cons_self).1
        have hqr : ¬ q ∣ prodL r := FacR.not_dvd (fun y hy => f2.all y (List.mem_cons_of_mem _ hy)) hq f2.head_lt
        have hqu : ¬ q ∣ u := fun hd => by
          obtain ⟨x, hx, e⟩ := hp q hq hd
          have := f3 x hx (q, t) List.mem_cons_self
          simp only at this
          omega
        have e : ordF a m T l' = u * q ^ t * prodL r := by rw [hu, prodL_cons, Nat.mul_assoc]
        obtain ⟨j, g1, g2, _⟩ := ordS_spec hq (fun hd => (pr_dvd_mul hq hd).elim hqu hqr) t _ e one pos
        refine Nat.dvd_trans ?_ (ih l' _ (by simpa using hl) hr')
        rw [g1, e, Nat.mul_assoc, Nat.mul_assoc]
        exact Nat.mul_dvd_mul_left _ (Nat.mul_dvd_mul (Nat.pow_dvd_pow q g2) (Nat.dvd_refl _))
    exact fun l r => key l.length l r rfl
  have hdT := hd L [] (by simp)
  refine ⟨one, pos, hdT, fun p hpp hdp => ?_⟩
  obtain ⟨e, he⟩ := pr_dvd_prod hpp hL.all (by rw [hL.prod]; exact Nat.dvd_trans hdp hdT)
  exact least (p, e) he hdp
theorem euler_one {a m : Nat} {L : List (Nat × Nat)} (h1 : 1 ≤ m) (hL : Fac L m) (hg : Nat.gcd a m = 1) : Pow1 a m (totL L) := by
  unfold Pow1
  rcases Nat.eq_zero_or_pos a with rfl | ha
  · rw [Nat.gcd_zero_left] at hg
    subst hg
    rw [Nat.mod_one, Nat.mod_one]
  · have := euler_div (a := a) (e := totL L) ha hL.all (List.Pairwise.imp (fun h => Nat.ne_of_lt h) hL.asc) (by rw [hL.prod]; exact hg) (Nat.dvd_refl _)
    rw [hL.prod] at this
    have hp : 1 ≤ a ^ totL L := Nat.pow_pos ha
    obtain ⟨c, hc⟩ := this
    have : a ^ totL L = m * c + 1 := by omega
    rw [this, Nat.mul_add_mod]
end Go.AM.Num

set_option linter.unusedSectionVars false
set_option linter.unusedVariables false
set_option linter.unusedSimpArgs false
namespace Go.AM.Pr
attribute [local go_sem] gc subHeap reach_skip ren_free reach_new reach_newp reach_end rangeL roots boxCells nodupB posOf renL AV.ren pickO renH renO looks look bindEnv envOf reach_int reach_bool reach_nilS reach_rd putRow cells_sl cells_int cells_bool cells_nilS cells_rd cells_agg reach_agg reach_tup idFreeL idf_sl idf_ptr idf_int idf_bool idf_nilS idf_rd reach_fn reach_mp cells_fn cells_ptr cells_mp idf_mp idf_fn idf_agg idf_tup
open Go.AM.Num
theorem e_stI1 {call : CallF} {H : Heap} {id : Nat} {v w : Int} (hH : H[id]? = some (some (.data [.int .i64 w]))) : evE call H (.st 1) [.ptr id 0, .int .i64 v] = some (.undef, H.set id (some (.data [.int .i64 v]))) := by
  simp [evE, stAt, hH, cells_int, oneL, AV.one, putRow, idFreeL, AV.idFree]
theorem p_ldI1 {H : Heap} {id : Nat} {v : Int} (h : H[id]? = some (some (.data [.int .i64 v]))) : evP H (.ld false 1) [.ptr id 0] = some (.int .i64 v) := by
  simp [evP, ldc, getRow, Heap.cells?, HO.cells?, h, wholeOf]
/-! ### the totient -/
def totS (L l : List (Nat × Nat)) : Nat := totL l * prodL (L.drop l.length)
theorem f74 {q t v : Nat} (hq : 2 ≤ q) (hqm : q ≤ 2147483647) (hv : v ≤ 2147483647) {m : Nat} (hm : 1 ≤ m) (hb : v / q * (q - 1) < 9223372036854775808) : evF tab it m 74 [.int .i64 (q : Int), .int .i64 (t : Int), .ptr 0 0] [some (.data [.int .i64 (v : Int)])] = some (.tup [], [some (.data [.int .i64 ((v / q * (q - 1) : Nat) : Int)])]) := by
  obtain ⟨m, rfl⟩ : ∃ j, m = j + 1 := ⟨m - 1, by omega⟩
  refine f_enterH rfl rfl ?_
  generalize evF tab it m = call at *
  repeat' first
 | (apply s_mov; (focus ((conv => lhs; whnf); done)))
 | (apply c_nil)
 | (apply s_pn; (focus (repeat (first | apply opds_nil | (apply opds_cons; (first | (focus ((conv => lhs; whnf); done)) | exact rfl))))); exact p_ldI1 rfl)
 | (apply s_st; (focus (repeat (first | apply opds_nil | (apply opds_cons; (first | (focus ((conv => lhs; whnf); done)) | exact rfl))))); exact e_stI1 rfl)
 | (apply s_subN (b := 1); exact rfl; omega; omega)
 | (apply s_mulN; exact rfl; omega)
 | (apply s_quoN; exact rfl; omega; omega)
 | (apply c_reg)
  simp [finish, ress, tupOf, go_sem]
theorem clo74 {L : List (Nat × Nat)} {N : Nat} (hL : Fac L N) (hN : N ≤ 2147483647) {m : Nat} (hm : 1 ≤ m) : Clo m 74 [.ptr 0 0] 1 (fun l => [some (.data [.int .i64 ((totS L l : Nat) : Int)])]) L where
  hk := rfl
  g2 l a := by simp [go_sem]
  g3 l a b := by simp [go_sem]
  g4 l a b c := by simp [go_sem]
  fin l := by simp [go_sem]
  call l q t r h := by
    obtain ⟨f1, f2, f3⟩ := FacR.append (h ▸ hL.toFacR)
    have hq := f2.all (q, t) List.mem_cons_self
    have hq2 := hq.1.1
    have e1 : totS L l = totL l * prodL ((q, t) :: r) := by rw [totS, h]; simp
    have e2 : totS L (l ++ [(q, t)]) = totL (l ++ [(q, t)]) * prodL r := by
      rw [totS, h]
      have : l ++ (q, t) :: r = (l ++ [(q, t)]) ++ r := by simp
      rw [this, List.drop_left']
      rfl
    have e3 := tot_step (l := l) (r := r) hq2 hq.2
    rw [← e1, ← e2] at e3
    have hle : totS L l ≤ N := by
      rw [e1, ← hL.prod]
      conv => rhs; rw [h]
      rw [prodL_append]
      exact Nat.mul_le_mul_right _ (totL_le f1).2
    have hle2 : totS L (l ++ [(q, t)]) ≤ totS L l := by
      rw [← e3]
      exact Nat.le_trans (Nat.mul_le_mul_left _ (Nat.sub_le q 1)) (Nat.div_mul_le_self _ _)
    have hqm : q ≤ 2147483647 := by
      have := (exp_lt hL hN (i := l.length) (by rw [h]; simp)).2.2.2
      rw [gp_lt (by rw [h]; simp)] at this
      simp [h] at this
      omega
    have hc := f74 (q := q) (t := t) (v := totS L l) hq2 hqm (by omega) hm (by rw [e3]; omega)
    rw [e3] at hc
    refine ⟨[some (.data [.int .i64 ((totS L (l ++ [(q, t)]) : Nat) : Int)])], ?_, fun a b => ?_, ?_⟩
    · generalize evF tab it m = call at *
      simp [callMut, subHeap, backOf, writeBack, hc, go_sem]
    · simp [go_sem]
    · simp [go_sem]
theorem e_al64 {call : CallF} : evE call [] (.alloc true [.int .i64 0]) [] = some (.ptr 0 0, [some (.data [.int .i64 0])]) := rfl
theorem f64 {N : Nat} {L : List (Nat × Nat)} (h1 : 1 ≤ N) (hN : N ≤ 2147483647) (hL : Fac L N) {m : Nat} (hm : 46402 ≤ m) : evF tab it m 64 [.int .i64 (N : Int)] [] = some (.int .i64 ((totL L : Nat) : Int), []) := by
  obtain ⟨m, rfl⟩ : ∃ j, m = j + 1 := ⟨m - 1, by omega⟩
  obtain ⟨m', rfl⟩ : ∃ j, m = j + 1 := ⟨m - 1, by omega⟩
  have h58 := f58 h1 hN hL (clo74 hL hN (m := m') (by omega)) (by omega)
  have e1 : totS L [] = N := by simp [totS, totL, hL.prod]
  have e2 : totS L L = totL L := by simp [totS, prodL]
  simp only [e1, e2] at h58
  refine f_enter rfl rfl ?_
  generalize evF tab it (m' + 1) = call at *
  have hc : callMut call 58 [.int .i64 (N : Int), .fn 74 [.ptr 0 0]] [some (.data [.int .i64 (N : Int)])] = some (.tup [], [some (.data [.int .i64 ((totL L : Nat) : Int)])]) := by
    simp [callMut, subHeap, backOf, writeBack, h58, go_sem]
  repeat' first
 | (apply s_mov; (focus ((conv => lhs; whnf); done)))
 | (apply c_nil)
 | (apply s_en; (focus (repeat (first | apply opds_nil | (apply opds_cons; (first | (focus ((conv => lhs; whnf); done)) | exact rfl))))); exact e_al64)
 | (apply s_en; (focus (repeat (first | apply opds_nil | (apply opds_cons; (first | (focus ((conv => lhs; whnf); done)) | exact rfl))))); exact hc)
 | (apply s_pn; (focus (repeat (first | apply opds_nil | (apply opds_cons; (first | (focus ((conv => lhs; whnf); done)) | exact rfl))))); exact p_mkfn)
 | (apply s_pn; (focus (repeat (first | apply opds_nil | (apply opds_cons; (first | (focus ((conv => lhs; whnf); done)) | exact rfl))))); exact p_ldI1 rfl)
 | (apply s_st; (focus (repeat (first | apply opds_nil | (apply opds_cons; (first | (focus ((conv => lhs; whnf); done)) | exact rfl))))); exact e_stI1 rfl)
 | (apply c_seq)
 | (apply c_reg)
 | (apply c_ret)
 | (with_reducible apply k_c)
  exact fin_t (by (conv => lhs; whnf)) (by rfl) rfl
theorem c64 {N : Nat} {L : List (Nat × Nat)} (h1 : 1 ≤ N) (hN : N ≤ 2147483647) (hL : Fac L N) {m : Nat} (hm : 46402 ≤ m) (H : Heap) : callPure (evF tab it m) true 64 [.int .i64 (N : Int)] H = some (.int .i64 ((totL L : Nat) : Int), H) :=
  callPure_free rfl (by simp) (f64 h1 hN hL hm) rfl
end Go.AM.Pr

set_option linter.unusedSectionVars false
set_option linter.unusedVariables false
set_option linter.unusedSimpArgs false
namespace Go.AM.Pr
attribute [local go_sem] gc subHeap reach_skip ren_free reach_new reach_newp reach_end rangeL roots boxCells nodupB posOf renL AV.ren pickO renH renO looks look bindEnv envOf reach_int reach_bool reach_nilS reach_rd putRow cells_sl cells_int cells_bool cells_nilS cells_rd cells_agg reach_agg reach_tup idFreeL idf_sl idf_ptr idf_int idf_bool idf_nilS idf_rd reach_fn reach_mp cells_fn cells_ptr cells_mp idf_mp idf_fn idf_agg idf_tup
open Go.AM.Num
theorem ordS_le (a m q : Nat) : ∀ t n, ordS a m q t n ≤ n
  | 0, n => Nat.le_refl n
  | t + 1, n => by
    simp only [ordS]
    split
    · exact Nat.le_trans (ordS_le a m q t _) (Nat.div_le_self n q)
    · exact Nat.le_refl n
theorem ordF_le (a m : Nat) : ∀ (l : List (Nat × Nat)) (T : Nat), ordF a m T l ≤ T
  | [], T => Nat.le_refl T
  | x :: l, T => Nat.le_trans (ordF_le a m l _) (ordS_le a m x.1 x.2 T)
theorem f65 {q t a n M : Nat} (hq : 2 ≤ q) (hqm : q ≤ 2147483647) (ht : t ≤ 1000) (hn : n ≤ 2147483647) (hM : 0 < M) (hM2 : M ≤ 2147483647) (ha : a < M) {m : Nat} (hm : 2000 ≤ m) :
    evF tab it m 65 [.int .i64 (q : Int), .int .i64 (t : Int), .ptr 0 0, .ptr 1 0, .ptr 2 0] [some (.data [.int .i64 (a : Int)]), some (.data [.int .i64 (n : Int)]), some (.data [.int .i64 (M : Int)])] =
      some (.tup [], [some (.data [.int .i64 (a : Int)]), some (.data [.int .i64 ((ordS a M q t n : Nat) : Int)]), some (.data [.int .i64 (M : Int)])]) := by
  obtain ⟨m, rfl⟩ : ∃ j, m = j + 1 := ⟨m - 1, by omega⟩
  have h47 := fun {E : Nat} (hE : E ≤ 2147483647) H => c47 (A := a) (E := E) hM hM2 ha (by omega) (m := m) (by omega) H
  generalize hR : ordS a M q t n = R
  refine f_enterH rfl rfl ?_
  generalize evF tab it m = call at *
  repeat' first
 | (apply c_block)
  refine c_loop ?_
  refine loop_gc (σ := Nat × Nat) (fun s => [.int .i64 (q : Int), .int .i64 (s.1 : Int), .ptr 0 0, .ptr 1 0, .ptr 2 0]) (fun s => [some (.data [.int .i64 (a : Int)]), some (.data [.int .i64 (s.2 : Int)]), some (.data [.int .i64 (M : Int)])]) (fun s => s.1 ≤ 1000 ∧ s.2 ≤ 2147483647 ∧ ordS a M q s.1 s.2 = R) (fun s => s.1) ?_ _ (t, n) _ _ ⟨ht, hn, hR⟩ (by show t < _; omega) (by simp [go_sem]; done)
  intro ⟨j, v⟩ ⟨h1, h2, h3⟩ K hK
  dsimp only at h1 h2 h3 hK ⊢
  have hvq : v / q ≤ v := Nat.div_le_self v q
  have h47' := h47 (E := v / q) (by omega) [some (.data [.int .i64 (a : Int)]), some (.data [.int .i64 (v : Int)]), some (.data [.int .i64 (M : Int)])]
  repeat' first
 | (apply s_mov; (focus ((conv => lhs; whnf); done)))
 | (apply s_gT; exact rfl)
 | (apply s_gF; exact rfl)
 | (apply s_gFD; exact rfl)
 | (apply c_nil)
 | (apply s_pickT; exact rfl; (focus ((conv => lhs; whnf); done)))
 | (apply s_pickF; exact rfl; (focus ((conv => lhs; whnf); done)))
 | ((first | apply s_lss | apply s_leq | apply s_gtr | apply s_geq | apply s_eql | apply s_neq); exact rfl; all_goals (intro _; try (exfalso; omega)))
 | (apply s_pn; (focus (repeat (first | apply opds_nil | (apply opds_cons; (first | (focus ((conv => lhs; whnf); done)) | exact rfl))))); exact p_ldI1 rfl)
 | (apply s_cn; (focus (repeat (first | apply opds_nil | (apply opds_cons; (first | (focus ((conv => lhs; whnf); done)) | exact rfl))))); exact h47')
 | (apply s_st; (focus (repeat (first | apply opds_nil | (apply opds_cons; (first | (focus ((conv => lhs; whnf); done)) | exact rfl))))); exact e_stI1 rfl)
 | (apply s_remN (a := 1); exact rfl; omega)
 | (apply s_subN (b := 1); exact rfl; omega; omega)
 | (apply s_quoN; exact rfl; omega; omega)
 | (apply c_seq)
 | (apply c_reg)
 | (apply c_block)
 | (apply c_exitH)
 | (apply c_skip)
 | (apply c_condT; exact rfl)
 | (apply c_condF; exact rfl)
 | (with_reducible apply k_c)
  · obtain ⟨i, rfl⟩ : ∃ i, j = i + 1 := ⟨j - 1, by omega⟩
    have h1' : Pow1 a M (v / q) := by unfold Pow1; omega
    simp only [ordS, if_pos h1'] at h3
    exact hK (i, v / q) _ _ ⟨by show i ≤ _; omega, by show v / q ≤ _; omega, h3⟩ (by show i < i + 1; omega) (by simp [go_sem]; done)
  · obtain ⟨i, rfl⟩ : ∃ i, j = i + 1 := ⟨j - 1, by omega⟩
    have h1' : ¬ Pow1 a M (v / q) := by unfold Pow1; omega
    simp only [ordS, if_neg h1'] at h3
    subst h3
    simp [finish, ress, tupOf, go_sem]
  · obtain rfl : j = 0 := by omega
    simp only [ordS] at h3
    subst h3
    simp [finish, ress, tupOf, go_sem]
theorem clo65 {L : List (Nat × Nat)} {N a M : Nat} (hL : Fac L N) (hN : N ≤ 2147483647) (hM : 0 < M) (hM2 : M ≤ 2147483647) (ha : a < M) {m : Nat} (hm : 2000 ≤ m) : Clo m 65 [.ptr 0 0, .ptr 1 0, .ptr 2 0] 3 (fun l => [some (.data [.int .i64 (a : Int)]), some (.data [.int .i64 ((ordF a M N l : Nat) : Int)]), some (.data [.int .i64 (M : Int)])]) L where
  hk := rfl
  g2 l x := by simp [go_sem]
  g3 l x y := by simp [go_sem]
  g4 l x y z := by simp [go_sem]
  fin l := by simp [go_sem]
  call l q t r h := by
    have he := exp_lt hL hN (i := l.length) (by rw [h]; simp)
    rw [gp_lt (by rw [h]; simp)] at he
    simp [h] at he
    have hle := ordF_le a M l N
    have hc := f65 (q := q) (t := t) (a := a) (n := ordF a M N l) (M := M) he.2.2.1 (by omega) (by omega) (by omega) hM hM2 ha hm
    have e : ordF a M N (l ++ [(q, t)]) = ordS a M q t (ordF a M N l) := ordF_app a M N l (q, t)
    rw [e]
    refine ⟨[some (.data [.int .i64 (a : Int)]), some (.data [.int .i64 ((ordS a M q t (ordF a M N l) : Nat) : Int)]), some (.data [.int .i64 (M : Int)])], ?_, fun x y => ?_, ?_⟩
    · generalize evF tab it m = call at *
      simp [callMut, subHeap, backOf, writeBack, hc, go_sem]
    · simp [go_sem]
    · simp [go_sem]
/-- the order -/
noncomputable def facOf (n : Nat) : List (Nat × Nat) := if h : 1 ≤ n then (fac_ex h).choose else []
theorem facOf_fac {n : Nat} (h : 1 ≤ n) : Fac (facOf n) n := by
  unfold facOf
  rw [dif_pos h]
  exact (fac_ex h).choose_spec
noncomputable def totN (n : Nat) : Nat := totL (facOf n)
noncomputable def ordN (a m : Nat) : Nat := ordF a m (totN m) (facOf (totN m))
theorem totN_le {n : Nat} (h : 1 ≤ n) : 1 ≤ totN n ∧ totN n ≤ n := by
  have hL := facOf_fac h
  have := totL_le hL.toFacR
  rw [hL.prod] at this
  exact this
theorem ordN_spec {a m : Nat} (h1 : 1 ≤ m) (hg : Nat.gcd a m = 1) : Pow1 a m (ordN a m) ∧ 1 ≤ ordN a m ∧ ordN a m ∣ totN m ∧ ∀ p, IsPr p → p ∣ ordN a m → ¬ Pow1 a m (ordN a m / p) :=
  ord_done (facOf_fac (totN_le h1).1) (euler_one h1 (facOf_fac h1) hg)
theorem e_boxI {call : CallF} {H : Heap} {v : Int} : evE call H (.box true) [.int .i64 v] = some (.ptr H.length 0, H ++ [some (.data [.int .i64 v])]) := rfl
theorem f48 {a M : Nat} (hM : 1 ≤ M) (hM2 : M ≤ 2147483647) (ha : a < M) {m : Nat} (hm : 46404 ≤ m) : evF tab it m 48 [.int .i64 (a : Int), .int .i64 (M : Int)] [] = some (.int .i64 ((ordN a M : Nat) : Int), []) := by
  obtain ⟨m, rfl⟩ : ∃ j, m = j + 1 := ⟨m - 1, by omega⟩
  obtain ⟨m', rfl⟩ : ∃ j, m = j + 1 := ⟨m - 1, by omega⟩
  have ht := totN_le hM
  have hL := facOf_fac hM
  have hL2 := facOf_fac ht.1
  have h58 := f58 ht.1 (by omega) hL2 (clo65 hL2 (by omega) hM hM2 ha (m := m') (by omega)) (by omega)
  have e1 : ordF a M (totN M) [] = totN M := rfl
  have e2 : ordF a M (totN M) (facOf (totN M)) = ordN a M := rfl
  simp only [e1, e2] at h58
  have h64 := fun H => c64 hM hM2 hL (m := m' + 1) (by omega) H
  have e3 : totL (facOf M) = totN M := rfl
  rw [e3] at h64
  refine f_enter rfl rfl ?_
  generalize evF tab it (m' + 1) = call at *
  generalize totN M = T at *
  generalize ordN a M = R at *
  have hc : callMut call 58 [.int .i64 (T : Int), .fn 65 [.ptr 0 0, .ptr 2 0, .ptr 1 0]] [some (.data [.int .i64 (a : Int)]), some (.data [.int .i64 (M : Int)]), some (.data [.int .i64 (T : Int)])] = some (.tup [], [some (.data [.int .i64 (a : Int)]), some (.data [.int .i64 (M : Int)]), some (.data [.int .i64 (R : Int)])]) := by
    simp [callMut, subHeap, backOf, writeBack, h58, go_sem]
  have b1 : evE call [] (.box true) [.int .i64 (a : Int)] = some (.ptr 0 0, [some (.data [.int .i64 (a : Int)])]) := rfl
  have b2 : evE call [some (.data [.int .i64 (a : Int)])] (.box true) [.int .i64 (M : Int)] = some (.ptr 1 0, [some (.data [.int .i64 (a : Int)]), some (.data [.int .i64 (M : Int)])]) := rfl
  have b3 : evE call [some (.data [.int .i64 (a : Int)]), some (.data [.int .i64 (M : Int)])] (.alloc true [.int .i64 0]) [] = some (.ptr 2 0, [some (.data [.int .i64 (a : Int)]), some (.data [.int .i64 (M : Int)]), some (.data [.int .i64 0])]) := rfl
  repeat' first
 | (apply s_mov; (focus ((conv => lhs; whnf); done)))
 | (apply c_nil)
 | (apply s_en; (focus (repeat (first | apply opds_nil | (apply opds_cons; (first | (focus ((conv => lhs; whnf); done)) | exact rfl))))); exact b1)
 | (apply s_en; (focus (repeat (first | apply opds_nil | (apply opds_cons; (first | (focus ((conv => lhs; whnf); done)) | exact rfl))))); exact b2)
 | (apply s_en; (focus (repeat (first | apply opds_nil | (apply opds_cons; (first | (focus ((conv => lhs; whnf); done)) | exact rfl))))); exact b3)
 | (apply s_cn; (focus (repeat (first | apply opds_nil | (apply opds_cons; (first | (focus ((conv => lhs; whnf); done)) | exact rfl))))); exact h64 _)
 | (apply s_en; (focus (repeat (first | apply opds_nil | (apply opds_cons; (first | (focus ((conv => lhs; whnf); done)) | exact rfl))))); exact hc)
 | (apply s_pn; (focus (repeat (first | apply opds_nil | (apply opds_cons; (first | (focus ((conv => lhs; whnf); done)) | exact rfl))))); exact p_mkfn)
 | (apply s_pn; (focus (repeat (first | apply opds_nil | (apply opds_cons; (first | (focus ((conv => lhs; whnf); done)) | exact rfl))))); exact p_ldI1 rfl)
 | (apply s_st; (focus (repeat (first | apply opds_nil | (apply opds_cons; (first | (focus ((conv => lhs; whnf); done)) | exact rfl))))); exact e_stI1 rfl)
 | (apply c_seq)
 | (apply c_reg)
 | (apply c_ret)
 | (with_reducible apply k_c)
  exact fin_t (by (conv => lhs; whnf)) (by rfl) rfl
theorem c48 {a M : Nat} (hM : 1 ≤ M) (hM2 : M ≤ 2147483647) (ha : a < M) {m : Nat} (hm : 46404 ≤ m) (H : Heap) : callPure (evF tab it m) true 48 [.int .i64 (a : Int), .int .i64 (M : Int)] H = some (.int .i64 ((ordN a M : Nat) : Int), H) :=
  callPure_free rfl (by simp) (f48 hM hM2 ha hm) rfl
end Go.AM.Pr
