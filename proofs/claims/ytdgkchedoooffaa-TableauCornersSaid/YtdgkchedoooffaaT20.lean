/- A part of the proof: T20. -/
import Derived.Test.YtdgkchedoooffaaT6
import Derived.Test.YtdgkchedoooffaaTC4
set_option linter.unusedVariables false
set_option linter.unusedSimpArgs false
set_option linter.unusedSectionVars false
namespace Go.AM.Tb
set_option maxHeartbeats 4000000
theorem c78 {x : AV} {l : List Int} (hx : IsL x l) (h0 : l ≠ []) (hl : l.length ≤ 1000) {m : Nat} (hm : 2 ≤ m) (H : Heap) : callPure (evF tab it m) false 78 [x] H = some (.sl H.length 1 0 l.length, H ++ [some (.data (iL l))]) := by
  have hf : frzL H 140 [x] = some [x] := frzL_free H 140 [x] (by simp) (by simp [idFreeL, hx.free])
  have hr : evF tab it m 78 [x] [] = some (.sl 0 1 0 l.length, [some (.data (iL l))]) := by
    obtain ⟨m, rfl⟩ : ∃ j, m = j + 1 := ⟨m - 1, by omega⟩
    cases hx with
    | nil => exact absurd rfl h0
    | rd l =>
      rcases l with _ | ⟨c, cs⟩
      · exact absurd rfl h0
      · have bl : ∀ call, evE call [] (.bldS true false 1 0 [.int .i64 0] []) [] = some (.sl 0 1 0 0, [some (.data [])]) := fun call => rfl
        refine f_enter rfl rfl ?_
        repeat' first
 | (apply s_mov; exact aW)
 | (apply c_nil)
 | (apply s_en; exact aO; exact bl _)
 | (apply s_en; exact aO; exact e_app_sl rfl rfl (by simp) (by simp at hl ⊢; unfold most; omega))
 | (apply s_pd; exact aW)
 | (apply c_seq)
 | (apply c_reg)
 | (apply c_skip)
 | (apply c_ret)
 | (apply c_condF; exact rfl)
 | (with_reducible apply k_c)
        simp [finish, ress, resOf, look, tupOf, iL, gc, subHeap, reach_new, reach_end, rangeL, roots, boxCells, nodupB, posOf, renL, AV.ren, pickO, renH, renO]
  simp only [callPure, hf, hr, Option.bind_some]
  simp [idFreeL, hx.free, shiftH, AV.ren, renH, renO]
theorem p_ldO {H : Heap} {id : Nat} {l : List Int} {i : Nat} (h : H.data? id = some (iL l)) (hi : i < l.length) : evP H (.ld false 1) [.ptr id (0 + ((i : Nat) : Int).toNat * 1)] = some (.int .i64 (getI l (i : Int))) :=
  p_ldS (i := (i : Int)) (cells?_iff.2 (.inl (data?_iff.1 h))) (by simpa using hi)
theorem e_stO' {call : CallF} {H : Heap} {id : Nat} {l : List Int} {i : Nat} {v : Int} (h : H.data? id = some (iL l)) (hi : i < l.length) : evE call H (.st 1) [.ptr id (0 + ((i : Nat) : Int).toNat * 1), .int .i64 v] = some (.undef, H.set id (some (.data (iL (l.set i v))))) := by
  have := e_stI (call := call) (v := v) (i := (i : Int)) h (by simpa using hi)
  simpa using this
theorem gc_rb {n : Nat} {c : List AV} {b : Bool} : gc 0 [.tup [.sl 0 1 0 n, .bool b]] [some (.data c)] = some ([.tup [.sl 0 1 0 n, .bool b]], [some (.data c)]) := by
  simp [gc, subHeap, reach_tup, reach_new, reach_bool, reach_end, rangeL, roots, boxCells, nodupB, posOf, renL, AV.ren, pickO, renH, renO, idFreeL, AV.idFree]
theorem fin_rb {n s1 s2 : Nat} {c : List AV} {b : Bool} {env : Env} (h1 : look env s1 = .sl 0 1 0 n) (h2 : look env s2 = .bool b) : finish 0 [.t s1, .t s2] env [some (.data c)] = some (.tup [.sl 0 1 0 n, .bool b], [some (.data c)]) := by
  simp only [finish, ress, resOf, h1, h2, tupOf, Option.bind_some, Option.map_some, gc_rb]
  rfl
theorem frz_rb {n : Nat} {l : List Int} {b : Bool} (h : n ≤ l.length) : frzV [some (.data (iL l))] 140 (.tup [.sl 0 1 0 n, .bool b]) = some (.tup [.rd 1 n (iL (l.take n)), .bool b]) := by
  have hd : Heap.data? [some (HO.data (iL l))] 0 = some (iL l) := rfl
  rw [show (140 : Nat) = 139 + 1 from rfl, frzV_tup]
  simp only [idFreeL, AV.idFree, Bool.false_and, Bool.false_eq_true, if_false]
  rw [show (139 : Nat) = 138 + 1 from rfl, frzL_cons, show (138 : Nat) = 137 + 1 from rfl, frzL_cons, show (137 : Nat) = 136 + 1 from rfl, frzL_nil, frzV_bool, frzV_sl, hd]
  simp [iL_len, h, iL, List.map_take]
theorem c57 {x : AV} {l : List Int} (hx : IsL x l) (hsh : IsSh l) (hl : l.length ≤ 100) (hb : ∀ i : Nat, i < l.length → getI l (i : Int) ≤ 1000) {j : Nat} (hj : j < l.length) {m : Nat} (hm : 10 ≤ m) :
    ∃ v, IsL v (lessL l j) ∧ ∀ H, callPure (evF tab it m) true 57 [x, .int .i64 (j : Int)] H = some (if crn l j then .tup [v, .bool true] else .tup [.nilS, .bool false], H) := by
  have fx := hx.free
  have h0 : l ≠ [] := fun e => by subst e; simp at hj
  obtain ⟨m, rfl⟩ : ∃ q, m = q + 1 := ⟨m - 1, by omega⟩
  have e78 := fun H => c78 hx h0 (by omega) (m := m) (by omega) H
  have hj1 := (hsh j hj).1
  have hj2 := hb j hj
  by_cases hc : crn l j = true
  · have hc' : ¬ (j + 1 < l.length ∧ getI l ((j + 1 : Nat) : Int) = getI l (j : Int)) := by unfold crn at hc; rw [Bool.not_eq_true', decide_eq_false_iff_not] at hc; exact hc
    by_cases h1 : getI l (j : Int) = 1
    · have hlast := crn_last hsh hj hc h1
      have hless : lessL l j = l.take j := by unfold lessL; rw [if_pos h1]
      refine ⟨.rd 1 j (iL (l.take j)), by rw [hless]; exact rd_isL (by rw [List.length_take]; omega), fun H => ?_⟩
      rw [if_pos hc]
      have hd0 : Heap.data? [some (HO.data (iL l))] 0 = some (iL l) := rfl
      have p1 := p_ldO hd0 hj
      have p2 : ∀ call, evE call [some (HO.data (iL l))] (.st 1) [.ptr 0 (0 + ((j : Nat) : Int).toNat * 1), .int .i64 (getI l (j : Int) - 1)] = some (.undef, [some (.data (iL (l.set j (getI l (j : Int) - 1))))]) := fun call => e_stO' hd0 hj
      have hd1 : Heap.data? [some (HO.data (iL (l.set j (getI l (j : Int) - 1))))] 0 = some (iL (l.set j (getI l (j : Int) - 1))) := rfl
      have p3 := p_ldO hd1 (i := j) (by simpa using hj)
      rw [set_get hj, if_pos rfl] at p3
      have p4 : ∀ H, evP H (.slc 1 false true) [.sl 0 1 0 l.length, .int .i64 (j : Int)] = some (.sl 0 1 0 j) := fun H => by
        simp [evP, natOf, slcOf, show j ≤ l.length by omega]
      refine callPure_frz (by simp [idFreeL, AV.idFree, fx]) (by simp) (v := .tup [.sl 0 1 0 j, .bool true]) (H1 := [some (.data (iL (l.set j (getI l (j : Int) - 1))))]) ?_ ?_
      · refine f_enter rfl rfl ?_
        generalize evF tab it m = call at *
        repeat' first
 | (apply s_mov; exact aW)
 | (apply s_gF; exact rfl)
 | (apply c_nil)
 | (apply s_pickF; exact rfl; exact aW)
 | (apply s_lss; exact rfl; all_goals (intro _; try (exfalso; omega)))
 | (apply s_eql; exact rfl; all_goals (intro _; try (exfalso; omega)))
 | (apply s_add; exact rfl; omega)
 | (apply s_sub; exact rfl; omega)
 | (apply s_cn; exact aO; exact e78 _)
 | (apply s_pn; exact aO; exact p1)
 | (apply s_st; exact aO; exact p2 _)
 | (apply s_pn; exact aO; exact p3)
 | (apply s_pn; exact aO; exact p4 _)
 | (apply s_len; exact aW; exact aI)
 | (apply s_idxS; exact rfl; exact rfl; omega)
 | (apply c_seq)
 | (apply c_reg)
 | (apply c_skip)
 | (apply c_ret)
 | (apply c_condT; exact rfl)
 | (apply c_condF; exact rfl)
 | (with_reducible apply k_c)
        all_goals
          exact fin_rb rfl rfl
      · rw [frz_rb (by simp; omega), List.take_set_of_le (Nat.le_refl _)]
    · have hless : lessL l j = l.set j (getI l (j : Int) - 1) := by unfold lessL; rw [if_neg h1]
      refine ⟨.rd 1 l.length (iL (l.set j (getI l (j : Int) - 1))), by rw [hless]; exact rd_isL (by simp), fun H => ?_⟩
      rw [if_pos hc]
      have hd0 : Heap.data? [some (HO.data (iL l))] 0 = some (iL l) := rfl
      have p1 := p_ldO hd0 hj
      have p2 : ∀ call, evE call [some (HO.data (iL l))] (.st 1) [.ptr 0 (0 + ((j : Nat) : Int).toNat * 1), .int .i64 (getI l (j : Int) - 1)] = some (.undef, [some (.data (iL (l.set j (getI l (j : Int) - 1))))]) := fun call => e_stO' hd0 hj
      have hd1 : Heap.data? [some (HO.data (iL (l.set j (getI l (j : Int) - 1))))] 0 = some (iL (l.set j (getI l (j : Int) - 1))) := rfl
      have p3 := p_ldO hd1 (i := j) (by simpa using hj)
      rw [set_get hj, if_pos rfl] at p3
      refine callPure_frz (by simp [idFreeL, AV.idFree, fx]) (by simp) (v := .tup [.sl 0 1 0 l.length, .bool true]) (H1 := [some (.data (iL (l.set j (getI l (j : Int) - 1))))]) ?_ ?_
      · refine f_enter rfl rfl ?_
        generalize evF tab it m = call at *
        by_cases hl2 : j + 1 < l.length
        · have hne : getI l ((j : Int) + 1) ≠ getI l (j : Int) := fun e => hc' ⟨hl2, by rw [Int.natCast_add]; exact e⟩
          repeat' first
 | (apply s_mov; exact aW)
 | (apply s_gT; exact rfl)
 | (apply c_nil)
 | (apply s_pickT; exact rfl; exact aW)
 | (apply s_lss; exact rfl; all_goals (intro _; try (exfalso; omega)))
 | (apply s_eql; exact rfl; all_goals (intro _; try (exfalso; omega)))
 | (apply s_add; exact rfl; omega)
 | (apply s_sub; exact rfl; omega)
 | (apply s_cn; exact aO; exact e78 _)
 | (apply s_pn; exact aO; exact p1)
 | (apply s_st; exact aO; exact p2 _)
 | (apply s_pn; exact aO; exact p3)
 | (apply s_len; exact aW; exact aI)
 | (apply s_idx; exact aW; exact rfl; exact aI; omega)
 | (apply s_idxS; exact rfl; exact rfl; omega)
 | (apply s_ldI; exact rfl; omega)
 | (apply c_seq)
 | (apply c_reg)
 | (apply c_skip)
 | (apply c_ret)
 | (apply c_condF; exact rfl)
 | (with_reducible apply k_c)
          all_goals first
            | (exfalso; omega)
            | exact fin_rb rfl rfl
        · skip
          repeat' first
 | (apply s_mov; exact aW)
 | (apply s_gF; exact rfl)
 | (apply c_nil)
 | (apply s_pickF; exact rfl; exact aW)
 | (apply s_lss; exact rfl; all_goals (intro _; try (exfalso; omega)))
 | (apply s_eql; exact rfl; all_goals (intro _; try (exfalso; omega)))
 | (apply s_add; exact rfl; omega)
 | (apply s_sub; exact rfl; omega)
 | (apply s_cn; exact aO; exact e78 _)
 | (apply s_pn; exact aO; exact p1)
 | (apply s_st; exact aO; exact p2 _)
 | (apply s_pn; exact aO; exact p3)
 | (apply s_len; exact aW; exact aI)
 | (apply s_idxS; exact rfl; exact rfl; omega)
 | (apply c_seq)
 | (apply c_reg)
 | (apply c_skip)
 | (apply c_ret)
 | (apply c_condF; exact rfl)
 | (with_reducible apply k_c)
          all_goals first
            | (exfalso; omega)
            | exact fin_rb rfl rfl
      · have := frz_rb (n := l.length) (l := l.set j (getI l (j : Int) - 1)) (b := true) (by simp)
        rw [this, List.take_of_length_le (by simp)]
  · have hc2 : j + 1 < l.length ∧ getI l ((j + 1 : Nat) : Int) = getI l (j : Int) := by
      unfold crn at hc
      rw [Bool.not_eq_true', decide_eq_false_iff_not, Classical.not_not] at hc
      exact hc
    have he : getI l ((j : Int) + 1) = getI l (j : Int) := by rw [← hc2.2, Int.natCast_add]; rfl
    refine ⟨fzL (lessL l j), isL_fz _, fun H => ?_⟩
    rw [if_neg hc]
    refine callPure_free (H1 := []) (by simp [idFreeL, AV.idFree, fx]) (by simp) ?_ rfl
    refine f_enter rfl rfl ?_
    generalize evF tab it m = call at *
    have hc1 := hc2.1
    repeat' first
 | (apply s_mov; exact aW)
 | (apply s_gT; exact rfl)
 | (apply c_nil)
 | (apply s_pickT; exact rfl; exact aW)
 | (apply s_lss; exact rfl; all_goals (intro _; try (exfalso; omega)))
 | (apply s_eql; exact rfl; all_goals (intro _; try (exfalso; omega)))
 | (apply s_add; exact rfl; omega)
 | (apply s_len; exact aW; exact aI)
 | (apply s_idx; exact aW; exact rfl; exact aI; omega)
 | (apply s_ldI; exact rfl; omega)
 | (apply c_seq)
 | (apply c_reg)
 | (apply c_ret)
 | (apply c_condT; exact rfl)
 | (with_reducible apply k_c)
    all_goals first
      | (exfalso; omega)
      | rfl
end Go.AM.Tb
