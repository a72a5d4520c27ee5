/- A part of the proof: S9. -/
import Derived.Test.YtbjkmejlecoebaaS8
set_option linter.unusedSectionVars false
set_option linter.unusedVariables false
set_option linter.unusedSimpArgs false
namespace Go.AM.Pr
open Go.AM.Num
theorem T38 : T 38 = some ⟨.slice 3, 1, 24, [.nilS]⟩ := rfl
theorem T3 : T 3 = some ⟨.int .i64, 1, 8, [.int .i64 0]⟩ := rfl
theorem take1 {l : List AV} {i : Nat} (h : i < l.length) : (l.drop i).take 1 = [l.getD i .undef] := by
  rw [List.drop_eq_getElem_cons h]
  simp only [List.take_succ_cons, List.take_zero, List.getD, List.getElem?_eq_getElem h, Option.getD_some]
theorem ints_of : ∀ (cs : List AV), (∀ i, i < cs.length → ∃ n : Int, cs.getD i .undef = .int .i64 n) → ∃ l, cs = iL l
  | [], _ => ⟨[], rfl⟩
  | c :: cs, h => by
    obtain ⟨n, hn⟩ := h 0 (by simp)
    obtain ⟨l, rfl⟩ := ints_of cs fun i hi => by simpa using h (i + 1) (by simpa using hi)
    simp at hn
    exact ⟨n :: l, by simp [iL, hn]⟩
theorem ty_int {k : Nat} {cs : List AV} (h : TyAV T k 3 cs) : ∃ n : Int, cs = [.int .i64 n] ∧ (Lit.int .i64 n).wf = true := by
  cases k with
  | zero => exact h.elim
  | succ k =>
    obtain ⟨s, hs, hm⟩ := h
    rw [T3] at hs; cases hs
    exact hm
theorem ty_intsB {k : Nat} {cs : List AV} (h : TyAV T k 38 cs) : ∃ x l, cs = [x] ∧ IsL x l ∧ l.length < 2 ^ 63 := by
  cases k with
  | zero => exact h.elim
  | succ k =>
    obtain ⟨s, hs, hm⟩ := h
    rw [T38] at hs; cases hs
    rcases hm with rfl | ⟨len, cells, se, h1, rfl, h3, h5, h4⟩
    · exact ⟨_, [], rfl, .nil, by simp⟩
    · rw [T3] at h1; cases h1
      simp only [Nat.mul_one] at h3 h4
      obtain ⟨l, rfl⟩ := ints_of cells fun i hi => by
        obtain ⟨n, hn, -⟩ := ty_int (h4 i (by omega))
        rw [take1 hi] at hn
        exact ⟨n, by simpa using hn⟩
      rw [iL_len] at h3
      subst h3
      exact ⟨_, l, rfl, .rd l, h5⟩
theorem ty_ints {k : Nat} {cs : List AV} (h : TyAV T k 38 cs) : ∃ x l, cs = [x] ∧ IsL x l := by
  obtain ⟨x, l, h1, h2, -⟩ := ty_intsB h
  exact ⟨x, l, h1, h2⟩
theorem arg_int {k : Nat} {x : AV} (h : TyArg T k 3 x) : ∃ n : Int, x = .int .i64 n ∧ (Lit.int .i64 n).wf = true := by
  rcases h with ⟨s, xs, hs, ha, _⟩ | ⟨s, hs, ha, h⟩
  · rw [T3] at hs; cases hs; cases ha
  · obtain ⟨n, hn, hw⟩ := ty_int h
    simp only [List.cons.injEq, and_true] at hn
    exact ⟨n, hn, hw⟩
theorem arg_ints {k : Nat} {x : AV} (h : TyArg T k 38 x) : ∃ l, IsL x l := by
  rcases h with ⟨s, xs, hs, ha, _⟩ | ⟨s, hs, ha, h⟩
  · rw [T38] at hs; cases hs; cases ha
  · obtain ⟨y, l, hy, hl⟩ := ty_ints h
    simp only [List.cons.injEq, and_true] at hy
    exact ⟨l, by rw [hy]; exact hl⟩
theorem c19 {N : Nat} {L : List (Nat × Nat)} (h1 : 1 ≤ N) (hN : N ≤ 2147483647) (hL : Fac L N) {m : Nat} (hm : 46403 ≤ m) (H : Heap) : callPure (evF tab it m) true 19 [.int .i64 (N : Int)] H = some (fzP L, H) := by
  have e : frzL H 40 [AV.int .i64 (N : Int)] = some [AV.int .i64 (N : Int)] := rfl
  simp [callPure, e, f19 h1 hN hL hm, frz_owP, idFreeL, AV.idFree]
theorem pcs_at : ∀ {l : List (Nat × Nat)} {i : Nat} (h : i < l.length), ∃ r, (pcs l).drop (i * 2) = .int .i64 (l[i].1 : Int) :: .int .i64 (l[i].2 : Int) :: r
  | x :: l, 0, h => ⟨pcs l, rfl⟩
  | x :: l, i + 1, h => by
    obtain ⟨r, hr⟩ := pcs_at (l := l) (i := i) (by simpa using h)
    refine ⟨r, ?_⟩
    rw [show (i + 1) * 2 = i * 2 + 1 + 1 by omega]
    exact hr
theorem p_lenP {H : Heap} (l : List (Nat × Nat)) : evP H .len [fzP l] = some (.int .i64 ((l.length : Nat) : Int)) := by cases l <;> rfl
theorem p_idxP2 {H : Heap} {l : List (Nat × Nat)} {i : Nat} (h : i < l.length) : evP H (.idxA 2) [fzP l, .int .i64 (i : Int)] = some (.rp ((pcs l).drop (i * 2))) := by
  rcases l with _ | ⟨x, l⟩
  · simp at h
  · have : i < l.length + 1 := h
    simp only [evP, fzP, idxSl]
    rw [if_pos ⟨trivial, by omega, by omega⟩]
    simp
theorem p_ldP {H : Heap} {l : List (Nat × Nat)} {i : Nat} (h : i < l.length) : evP H (.ld true 2) [.rp ((pcs l).drop (i * 2))] = some (.agg [.int .i64 (l[i].1 : Int), .int .i64 (l[i].2 : Int)]) := by
  obtain ⟨r, hr⟩ := pcs_at h
  rw [hr]
  simp [evP, ldc, wholeOf]
theorem p_eqP {H : Heap} {a b : Int} : evP H (.eqagg true [some .i64, some .i64]) [.agg [.int .i64 a, .int .i64 b], .agg [.int .i64 a, .int .i64 b]] = some (.bool false) := by
  simp [evP, eqCells, negIf]
/-- the law -/
theorem f3 {n : Int} (hw : (Lit.int .i64 n).wf = true) : ∃ m H', evF tab it m 3 [.int .i64 n] [] = some (.bool true, H') := by
  refine ⟨60001, [], ?_⟩
  have h18 := c18
  by_cases hn : IsNum n
  · obtain ⟨N, rfl⟩ : ∃ N : Nat, n = N := ⟨n.toNat, by have := hn.1; omega⟩
    have hn' := hn
    unfold IsNum at hn'
    obtain ⟨L, hL⟩ := fac_ex (n := N) (by omega)
    have h16 := c16 (by omega) (by omega) hL (m := 60000) (by omega) []
    have h19 := c19 (by omega) (by omega) hL (m := 60000) (by omega) []
    have h17 := c17 (m := 60000) (by omega) (N : Int) []
    simp only [hn, decide_true] at h17
    have hlen := fun H => p_lenP (H := H) L
    have hidx := fun H i h => p_idxP2 (H := H) (l := L) (i := i) h
    have hld := fun H i h => p_ldP (H := H) (l := L) (i := i) h
    have ff := fzP_free L
    have hl := fac_len31 hL (by omega)
    refine f_enter rfl rfl ?_
    generalize evF tab it 60000 = call at *
    generalize fzP L = F at *
    repeat' first
 | (apply s_mov; (focus ((conv => lhs; whnf); done)))
 | (apply s_gT; exact rfl)
 | (apply c_nil)
 | (apply s_pickF; exact rfl; (focus ((conv => lhs; whnf); done)))
 | (apply s_notT; exact rfl)
 | ((first | apply s_lss | apply s_leq | apply s_gtr | apply s_geq | apply s_eql | apply s_neq); exact rfl; all_goals (intro _; try (exfalso; omega)))
 | (apply s_cn; (focus (repeat (first | apply opds_nil | (apply opds_cons; (first | (focus ((conv => lhs; whnf); done)) | exact rfl))))); exact h16)
 | (apply s_cn; (focus (repeat (first | apply opds_nil | (apply opds_cons; (first | (focus ((conv => lhs; whnf); done)) | exact rfl))))); exact h19)
 | (apply s_cn; (focus (repeat (first | apply opds_nil | (apply opds_cons; (first | (focus ((conv => lhs; whnf); done)) | exact rfl))))); exact h17)
 | (apply s_pn; (focus (repeat (first | apply opds_nil | (apply opds_cons; (first | (focus ((conv => lhs; whnf); done)) | exact rfl))))); exact hlen _)
 | (apply s_pd; (focus ((conv => lhs; whnf); done)))
 | (apply c_seq)
 | (apply c_reg)
 | (apply c_block)
 | (apply c_skip)
 | (apply c_condF; exact rfl)
 | (with_reducible apply k_c)
    · refine c_loop ?_
      refine loop_gc (σ := Nat) (fun i => [F, F, .int .i64 (i : Int)]) (fun _ => []) (fun i => i ≤ L.length) (fun i => L.length - i) ?_ _ 0 _ _ (by omega) (by omega) (gc_to rfl (by simp [idFreeL, AV.idFree, ff]))
      intro i hi K hK
      repeat' first
 | (apply s_mov; (focus ((conv => lhs; whnf); done)))
 | (apply c_nil)
 | ((first | apply s_lss | apply s_leq | apply s_gtr | apply s_geq | apply s_eql | apply s_neq); exact rfl; all_goals (intro _; try (exfalso; omega)))
 | (apply s_pn; (focus (repeat (first | apply opds_nil | (apply opds_cons; (first | (focus ((conv => lhs; whnf); done)) | exact rfl))))); exact hlen _)
 | (apply c_seq)
 | (apply c_reg)
 | (apply c_block)
 | (apply c_exitH)
 | (apply c_skip)
 | (apply c_condT; exact rfl)
 | (apply c_condF; exact rfl)
 | (apply c_preF; (focus (repeat (first | apply looks_nil | (apply looks_cons; (focus ((conv => lhs; whnf); done)))))); (focus (simp [idFreeL, AV.idFree, *]; done)))
 | (with_reducible apply k_c)
      · have hlt : i < L.length := by omega
        have g1 := hidx [] i hlt
        have g2 := hld [] i hlt
        repeat' first
 | (apply s_mov; (focus ((conv => lhs; whnf); done)))
 | (apply c_nil)
 | ((first | apply s_add | apply s_sub); exact rfl; omega)
 | (apply s_pn; (focus (repeat (first | apply opds_nil | (apply opds_cons; (first | (focus ((conv => lhs; whnf); done)) | exact rfl))))); exact g1)
 | (apply s_pn; (focus (repeat (first | apply opds_nil | (apply opds_cons; (first | (focus ((conv => lhs; whnf); done)) | exact rfl))))); exact g2)
 | (apply s_pn; (focus (repeat (first | apply opds_nil | (apply opds_cons; (first | (focus ((conv => lhs; whnf); done)) | exact rfl))))); exact p_eqP)
 | (apply c_reg)
 | (apply c_skip)
 | (apply c_condF; exact rfl)
 | (with_reducible apply k_c)
        exact hK (i + 1) _ _ (by omega) (by omega) (gc_to rfl (by simp [idFreeL, AV.idFree, ff]))
      · skip
        repeat' first
 | (apply s_mov; (focus ((conv => lhs; whnf); done)))
 | (apply c_nil)
 | (apply s_cn; (focus (repeat (first | apply opds_nil | (apply opds_cons; (first | (focus ((conv => lhs; whnf); done)) | exact rfl))))); exact h18 _)
 | (apply c_ret)
 | (with_reducible apply k_c)
        exact fin_t (by (conv => lhs; whnf)) (by rfl) rfl
  · have h16 := c16e hn (m := 60000) (by omega) []
    have h17 := c17 (m := 60000) (by omega) n []
    simp only [hn, decide_false] at h17
    refine f_enter rfl rfl ?_
    generalize evF tab it 60000 = call at *
    repeat' first
 | (apply s_mov; (focus ((conv => lhs; whnf); done)))
 | (apply s_gT; exact rfl)
 | (apply c_nil)
 | (apply s_pickT; exact rfl; (focus ((conv => lhs; whnf); done)))
 | (apply s_notF; exact rfl)
 | ((first | apply s_lss | apply s_leq | apply s_gtr | apply s_geq | apply s_eql | apply s_neq); exact rfl; all_goals (intro _; try (exfalso; omega)))
 | (apply s_cn; (focus (repeat (first | apply opds_nil | (apply opds_cons; (first | (focus ((conv => lhs; whnf); done)) | exact rfl))))); exact h16)
 | (apply s_cn; (focus (repeat (first | apply opds_nil | (apply opds_cons; (first | (focus ((conv => lhs; whnf); done)) | exact rfl))))); exact h17)
 | (apply s_cn; (focus (repeat (first | apply opds_nil | (apply opds_cons; (first | (focus ((conv => lhs; whnf); done)) | exact rfl))))); exact h18 _)
 | (apply s_pd; exact rfl)
 | (apply c_seq)
 | (apply c_reg)
 | (apply c_ret)
 | (apply c_condT; exact rfl)
 | (with_reducible apply k_c)
    exact fin_t (by (conv => lhs; whnf)) (by rfl) rfl
end Go.AM.Pr
