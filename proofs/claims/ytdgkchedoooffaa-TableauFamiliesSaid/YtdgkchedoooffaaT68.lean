/- A part of the proof: T66 T42 T14 T67 T68. -/
import Derived.Test.YtdgkchedoooffaaT65
import Derived.Test.YtdgkchedoooffaaT41
import Derived.Test.YtdgkchedoooffaaT12
set_option linter.unusedVariables false
set_option linter.unusedSimpArgs false
set_option linter.unusedSectionVars false
namespace Go.AM.Tb
set_option maxHeartbeats 4000000
theorem f60n {x : AV} (hx : IsL x []) {k : Nat} (hk1 : 1 ≤ k) (hk : k ≤ 60) {m : Nat} (hm : 600000000 ≤ m) : evF tab it (m + 1) 60 [x, .int .i64 (k : Int)] [] = some (.agg [.nilS, .nilS], []) := by
  have fx := hx.free
  have e79 : evE (evF tab it m) [some (.box [.nilS, .nilS])] (.call true false 79) [x] = some (.ptr 1 0, [some (.box [.nilS, .nilS]), some (.box [.nilS])]) := by
    have hf := f79 hx (by simp) (m := m) (by omega)
    have hfz : frzL [some (HO.box [.nilS, .nilS])] 140 [x] = some [x] := frzL_free _ 140 [x] (by simp) (by simp [idFreeL, fx])
    rw [show NN (nA [] ([] : List Int).length) = [some (.box [.nilS])] from rfl] at hf
    show callPure (evF tab it m) false 79 [x] [some (.box [.nilS, .nilS])] = _
    simp only [callPure, hfz, hf, Option.bind_some]
    simp [idFreeL, fx, shiftH, AV.ren, renH, renO, renL]
  obtain ⟨gn, by_, T, a1, g1⟩ := c80 (v := .nilS) rfl (E := []) (R := fun _ => 0) (M := 0) (N := 2) (p := fun _ => 0) (fun H => rfl) (fun H k hk => by omega) (fun k hk => by omega) rfl (fun v hv => by omega) (fun k hk => by omega) (by omega) (by omega) (m := m) (by omega)
    (args := [.ptr 1 0, .int .i64 2]) (H := [some (.box [.nilS, .nilS]), some (.box [.nilS])]) rfl
  have hlow : getI gn 1 ≤ 0 := by
    refine Int.not_lt.1 fun h => ?_
    obtain ⟨k, _, k2, _⟩ := g1.bk 1 (by omega) (by omega) (by unfold far; exact Int.lt_trans (by decide) h)
    omega
  have hgn : IsL (.rd 1 2 (iL gn)) gn := rd_isL g1.gl
  have hgl := g1.gl
  have b0 : ∀ call, evE call [] (.alloc false [.nilS, .nilS]) [] = some (.ptr 0 0, [some (.box [.nilS, .nilS])]) := fun call => rfl
  have mu : ∀ H, evP H (.bin .mul) [.int .i64 2, .int .i64 ((([] : List Int).length : Nat) : Int)] = some (.int .i64 0) := fun H => rfl
  have hz : ([] : List Int).length = 0 := rfl
  have gA : gc 0 [x, .int .i64 (k : Int), .ptr 0 0, .ptr 1 0, .int .i64 (2 + 0), .int .i64 0, .rd 1 2 (iL gn), .rd 1 2 (iL by_)] [some (.box [.nilS, .nilS]), some (.box [.nilS])] = some ([x, .int .i64 (k : Int), .ptr 0 0, .ptr 1 0, .int .i64 2, .int .i64 0, .rd 1 2 (iL gn), .rd 1 2 (iL by_)], [some (.box [.nilS, .nilS]), some (.box [.nilS])]) := by cases hx <;> rfl
  have gB : gc 0 [x, .int .i64 (k : Int), .ptr 0 0, .ptr 1 0, .int .i64 0, .rd 1 2 (iL gn)] [some (.box [.nilS, .nilS]), some (.box [.nilS])] = some ([x, .int .i64 (k : Int), .ptr 0 0, .ptr 1 0, .int .i64 0, .rd 1 2 (iL gn)], [some (.box [.nilS, .nilS]), some (.box [.nilS])]) := by cases hx <;> rfl
  have bl : ∀ H, evP H (.bld [.nilS, .nilS] []) [] = some (.agg [.nilS, .nilS]) := fun H => rfl
  have al : ∀ call, evE call [some (.box [.nilS, .nilS]), some (.box [.nilS])] (.alloc false [.nilS, .nilS]) [] = some (.ptr 2 0, [some (.box [.nilS, .nilS]), some (.box [.nilS]), some (.box [.nilS, .nilS])]) := fun call => rfl
  have s2 : ∀ call, evE call [some (.box [.nilS, .nilS]), some (.box [.nilS]), some (.box [.nilS, .nilS])] (.st 2) [.ptr 2 0, .agg [.nilS, .nilS]] = some (.undef, [some (.box [.nilS, .nilS]), some (.box [.nilS]), some (.box [.nilS, .nilS])]) := fun call => rfl
  have gC : gc 0 [.ptr 0 0, .ptr 1 0, .int .i64 0, .ptr 2 0] [some (.box [.nilS, .nilS]), some (.box [.nilS]), some (.box [.nilS, .nilS])] = some ([.ptr 0 0, .ptr 1 0, .int .i64 0, .ptr 2 0], [some (.box [.nilS, .nilS]), some (.box [.nilS]), some (.box [.nilS, .nilS])]) := rfl
  have gE : gc 0 [.ptr 0 0, .ptr 2 0] [some (.box [.nilS, .nilS]), some (.box [.nilS]), some (.box [.nilS, .nilS])] = some ([.ptr 0 0, .ptr 1 0], [some (.box [.nilS, .nilS]), some (.box [.nilS, .nilS])]) := rfl
  have l0 : evP [some (.box [.nilS, .nilS]), some (.box [.nilS, .nilS])] (.ld true 2) [.ptr 1 0] = some (.agg [.nilS, .nilS]) := rfl
  have s3 : ∀ call, evE call [some (.box [.nilS, .nilS]), some (.box [.nilS, .nilS])] (.st 2) [.ptr 0 0, .agg [.nilS, .nilS]] = some (.undef, [some (.box [.nilS, .nilS]), some (.box [.nilS, .nilS])]) := fun call => rfl
  generalize hR : some (AV.agg [.nilS, .nilS], ([] : Heap)) = res
  have hfin : ∀ env, look env 4 = .ptr 0 0 → finish 0 [.cell 4 true 2] env [some (.box [.nilS, .nilS]), some (.box [.nilS, .nilS])] = res := fun env h => by
    rw [← hR]
    have hc : ldc [some (HO.box [.nilS, .nilS]), some (.box [.nilS, .nilS])] 2 (.ptr 0 0) = some [.nilS, .nilS] := rfl
    simp only [finish, ress, resOf, h, hc, Option.bind_some, wholeOf, if_true, Option.map_some, tupOf]
    rfl
  refine f_enter rfl rfl ?_
  generalize evF tab it m = call at *
  repeat' first
 | (apply s_mov; exact aW)
 | (apply c_nil)
 | (apply s_add; exact rfl; omega)
 | (apply s_en; exact aO; exact b0 _)
 | (apply s_en; exact aO; exact e79)
 | (apply s_pn; exact aO; exact mu _)
 | (apply s_cn; exact aO; exact a1)
 | (apply s_len; exact aW; exact aI)
 | (apply s_pd; exact aW)
 | (apply c_seq)
 | (apply c_reg)
 | (apply c_block)
 | (with_reducible apply k_c)
  refine c_loop ?_
  refine loop_gc (σ := Unit) (fun _ => [x, .int .i64 (k : Int), .ptr 0 0, .ptr 1 0, .int .i64 2, .int .i64 0, .rd 1 2 (iL gn), .rd 1 2 (iL by_)]) (fun _ => [some (.box [.nilS, .nilS]), some (.box [.nilS])]) (fun _ => True) (fun _ => 0) ?_ _ () _ _ trivial (by omega) gA
  intro _ _ K hK
  repeat' first
 | (apply s_mov; exact aW)
 | (apply s_gT; exact rfl)
 | (apply c_nil)
 | (apply s_pickT; exact rfl; exact aW)
 | (apply s_lss; exact rfl; all_goals (intro _; try (exfalso; omega)))
 | (apply s_gtr; exact rfl; all_goals (intro _; try (exfalso; omega)))
 | (apply s_eql; exact rfl; all_goals (intro _; try (exfalso; omega)))
 | (apply c_pre; exact gB)
 | (apply s_pn; exact aO; exact bl _)
 | (apply s_en; exact aO; exact al _)
 | (apply s_st; exact aO; exact s2 _)
 | (apply c_pre; exact gC)
 | (apply s_idx; exact aW; exact rfl; exact aI; omega)
 | (apply s_ldI; exact rfl; omega)
 | (apply c_seq)
 | (apply c_reg)
 | (apply c_block)
 | (apply c_exitH)
 | (apply c_skip)
 | (apply c_condF; exact rfl)
 | (with_reducible apply k_c)
  all_goals first
    | (exfalso; omega)
    | skip
  refine c_loop ?_
  refine loop_gc (σ := Unit) (fun _ => [.ptr 0 0, .ptr 1 0, .ptr 2 0, .int .i64 0, .int .i64 0]) (fun _ => [some (.box [.nilS, .nilS]), some (.box [.nilS]), some (.box [.nilS, .nilS])]) (fun _ => True) (fun _ => 0) ?_ _ () _ _ trivial (by omega) rfl
  intro _ _ K hK
  repeat' first
 | (apply c_nil)
 | (apply s_lss; exact rfl; all_goals (intro _; try (exfalso; omega)))
 | (apply c_pre; exact gE)
 | (apply s_pn; exact aO; exact l0)
 | (apply s_st; exact aO; exact s3 _)
 | (apply c_seq)
 | (apply c_reg)
 | (apply c_exitH)
 | (apply c_ret)
 | (apply c_condF; exact rfl)
 | (with_reducible apply k_c)
  all_goals first
    | (exfalso; omega)
    | exact hfin _ rfl
set_option maxHeartbeats 4000000
theorem e_st2 {call : CallF} {H : Heap} {id : Nat} {a b c d : AV} (h : H[id]? = some (some (.box [c, d]))) (h1 : a.one = true) (h2 : b.one = true) : evE call H (.st 2) [.ptr id 0, .agg [a, b]] = some (.undef, H.set id (some (.box [a, b]))) := by
  simp [evE, stAt, AV.cells, oneL, h1, h2, h, putRow]
theorem p_ld2 {H : Heap} {id : Nat} {a b : AV} (h : H[id]? = some (some (.box [a, b]))) : evP H (.ld true 2) [.ptr id 0] = some (.agg [a, b]) := by
  have hc : Heap.cells? H id = some [a, b] := cells?_iff.2 (.inr h)
  simp [evP, ldc, getRow, hc, wholeOf]
set_option maxHeartbeats 4000000
theorem c52 {x : AV} {l : List Int} (hx : IsL x l) (hl : l.length ≤ 1000) {m : Nat} (hm : 2100 ≤ m) (H : Heap) : callPure (evF tab it m) true 52 [x] H = some (.bool (decide (IsW l)), H) := callPure_free (by simp [idFreeL, hx.free]) (by simp) (f52 hx hl hm) rfl
set_option maxHeartbeats 4000000
theorem rightF_nil (k) : RightF [] k [] [] := ⟨by simp, ⟨by simp, by simp⟩, ⟨by simp, by simp⟩, by simp⟩
theorem ch_len {w up c} (h : IsCh w up c) : c.length ≤ w.length := by
  have key : ∀ i : Nat, i < c.length → (i : Int) ≤ getI c (i : Int) := by
    intro i
    induction i with
    | zero => intro hi; exact (h.2 0 hi).1
    | succ i ih =>
      intro hi
      have h1 := ih (by omega)
      have h2 := ((h.2 (i + 1) hi).2.2 (by omega)).1
      rw [show (((i + 1 : Nat) : Int) - 1) = (i : Int) by omega] at h2
      omega
  rcases Nat.eq_zero_or_pos c.length with h0 | h0
  · omega
  · have h1 := key (c.length - 1) (by omega)
    have h2 := (h.2 (c.length - 1) (by omega)).2.1
    omega
theorem c60 {x : AV} {w : List Int} (hx : IsL x w) (hl : w.length ≤ 60) {k : Nat} (hk1 : 1 ≤ k) (hk : k ≤ 60) {m : Nat} (hm : 600000001 ≤ m) : ∃ U D, (∀ H, callPure (evF tab it m) true 60 [x, .int .i64 (k : Int)] H = some (.agg [fzLL U, fzLL D], H)) ∧ RightF w k U D ∧ U.length ≤ 100 ∧ D.length ≤ 100 := by
  obtain ⟨m, rfl⟩ : ∃ j, m = j + 1 := ⟨m - 1, by omega⟩
  have fx := hx.free
  by_cases h0 : w.length = 0
  · have hw : w = [] := List.length_eq_zero_iff.1 h0
    subst hw
    have := f60n hx hk1 hk (m := m) (by omega)
    have e : fzLL [] = .nilS := by simp [fzLL]
    refine ⟨[], [], fun H => ?_, rightF_nil k, by simp, by simp⟩
    rw [e]
    exact callPure_free (by simp [idFreeL, AV.idFree, fx]) (by simp) this rfl
  · obtain ⟨U, D, v, Hr, h1, h2, h3, h4, h5⟩ := f60 hx (by omega) hl hk1 hk (m := m) (by omega)
    exact ⟨U, D, fun H => callPure_frz (by simp [idFreeL, AV.idFree, fx]) (by simp) h1 h2, h3, h4, h5⟩
theorem c34 {x : AV} {w : List Int} {k : Int} (hx : IsL x w) (hl : w.length ≤ 61) {m : Nat} (hm : 600000002 ≤ m) : (IsW w ∧ 1 ≤ k ∧ k ≤ 60 ∧ ∃ U D, (∀ H, callPure (evF tab it m) true 34 [x, .int .i64 k] H = some (.tup [.agg [fzLL U, fzLL D], .int .i64 0], H)) ∧ RightF w k.toNat U D ∧ U.length ≤ 100 ∧ D.length ≤ 100) ∨
    (¬ (IsW w ∧ 1 ≤ k ∧ k ≤ 60) ∧ ∀ H, callPure (evF tab it m) true 34 [x, .int .i64 k] H = some (.tup [.agg [.nilS, .nilS], .int .i64 2], H)) := by
  obtain ⟨m, rfl⟩ : ∃ j, m = j + 1 := ⟨m - 1, by omega⟩
  have fx := hx.free
  have e52 := fun H => c52 hx (by omega) (m := m) (by omega) H
  have b0 : ∀ call, evE call [] (.alloc false [.nilS, .nilS]) [] = some (.ptr 0 0, [some (.box [.nilS, .nilS])]) := fun call => rfl
  have bl : ∀ H, evP H (.bld [.nilS, .nilS] []) [] = some (.agg [.nilS, .nilS]) := fun H => rfl
  have s2 : ∀ (u v : AV) call, u.one = true → v.one = true → evE call [some (.box [.nilS, .nilS])] (.st 2) [.ptr 0 0, .agg [u, v]] = some (.undef, [some (.box [u, v])]) := fun u v call h1 h2 => by
    rw [e_st2 rfl h1 h2]; rfl
  have hfin : ∀ (u v : AV) (e : Int) env, u.idFree = true → v.idFree = true → look env 4 = .ptr 0 0 → look env 5 = .int .i64 e → finish 0 [.cell 4 true 2, .t 5] env [some (.box [u, v])] = some (.tup [.agg [u, v], .int .i64 e], []) := fun u v e env h1 h2 h4 h5 => by
    have hc : ldc [some (HO.box [u, v])] 2 (.ptr 0 0) = some [u, v] := rfl
    have hg : gc 0 [.tup [.agg [u, v], .int .i64 e]] [some (HO.box [u, v])] = some ([.tup [.agg [u, v], .int .i64 e]], []) := gc_free (by simp [idFreeL, AV.idFree, h1, h2]) _
    simp only [finish, ress, resOf, h4, h5, hc, Option.bind_some, wholeOf, if_true, Option.map_some, tupOf, hg]
    rfl
  by_cases hw : IsW w ∧ 1 ≤ k ∧ k ≤ 60
  · obtain ⟨hw1, hk1, hk2⟩ := hw
    obtain ⟨q, rfl⟩ : ∃ q : Nat, k = (q : Int) := ⟨k.toNat, by omega⟩
    obtain ⟨U, D, h1, h2, h3, h4⟩ := c60 hx hw1.1 (k := q) (by omega) (by omega) (m := m) (by omega)
    refine .inl ⟨hw1, hk1, hk2, U, D, fun H => ?_, by simpa using h2, h3, h4⟩
    have fu := (isLL_fz U).free
    have fd := (isLL_fz D).free
    have s3 := fun call => s2 (fzLL U) (fzLL D) call (isLL_fz U).one (isLL_fz D).one
    refine callPure_free (by simp [idFreeL, AV.idFree, fx]) (by simp) (H1 := []) ?_ (by simp [AV.idFree, idFreeL, fu, fd])
    simp only [decide_eq_true hw1] at e52
    have hf := fun env => hfin (fzLL U) (fzLL D) 0 env fu fd
    generalize hR : some (AV.tup [.agg [fzLL U, fzLL D], .int .i64 0], ([] : Heap)) = res at *
    refine f_enter rfl rfl ?_
    generalize evF tab it m = call at *
    generalize fzLL U = uu at *
    generalize fzLL D = dd at *
    repeat' first
 | (apply s_mov; exact aW)
 | (apply s_gT; exact rfl)
 | (apply c_nil)
 | (apply s_pickF; exact rfl; exact aW)
 | (apply s_notT; exact rfl)
 | (apply s_lss; exact rfl; all_goals (intro _; try (exfalso; omega)))
 | (apply s_gtr; exact rfl; all_goals (intro _; try (exfalso; omega)))
 | (apply s_en; exact aO; exact b0 _)
 | (apply s_cn; exact aO; exact e52 _)
 | (apply s_cn; exact aO; exact h1 _)
 | (apply s_st; exact aO; exact s3 _)
 | (apply c_seq)
 | (apply c_reg)
 | (apply c_skip)
 | (apply c_ret)
 | (apply c_condF; exact rfl)
 | (with_reducible apply k_c)
    all_goals first
      | (exfalso; omega)
      | exact hf _ rfl rfl
  · refine .inr ⟨hw, fun H => ?_⟩
    refine callPure_free (by simp [idFreeL, AV.idFree, fx]) (by simp) (H1 := []) ?_ (by simp [AV.idFree, idFreeL])
    have s3 := fun call => s2 .nilS .nilS call rfl rfl
    have hf := fun env => hfin .nilS .nilS 2 env rfl rfl
    generalize hR : some (AV.tup [.agg [.nilS, .nilS], .int .i64 2], ([] : Heap)) = res at *
    by_cases hw1 : IsW w
    · simp only [decide_eq_true hw1] at e52
      have hk : k < 1 ∨ 60 < k := by
        rcases Int.lt_or_le k 1 with h | h
        · exact .inl h
        · exact .inr (Int.not_le.1 fun h' => hw ⟨hw1, h, h'⟩)
      refine f_enter rfl rfl ?_
      generalize evF tab it m = call at *
      repeat' first
 | (apply s_mov; exact aW)
 | (apply s_gT; exact rfl)
 | (apply s_gF; exact rfl)
 | (apply c_nil)
 | (apply s_pickT; exact rfl; exact aW)
 | (apply s_pickF; exact rfl; exact aW)
 | (apply s_notT; exact rfl)
 | (apply s_lss; exact rfl; all_goals (intro _; try (exfalso; omega)))
 | (apply s_gtr; exact rfl; all_goals (intro _; try (exfalso; omega)))
 | (apply s_en; exact aO; exact b0 _)
 | (apply s_cn; exact aO; exact e52 _)
 | (apply s_pn; exact aO; exact bl _)
 | (apply s_st; exact aO; exact s3 _)
 | (apply c_seq)
 | (apply c_reg)
 | (apply c_ret)
 | (apply c_condT; exact rfl)
 | (with_reducible apply k_c)
      all_goals first
        | (exfalso; omega)
        | exact hf _ rfl rfl
    · simp only [decide_eq_false hw1] at e52
      refine f_enter rfl rfl ?_
      generalize evF tab it m = call at *
      repeat' first
 | (apply s_mov; exact aW)
 | (apply s_gF; exact rfl)
 | (apply c_nil)
 | (apply s_pickT; exact rfl; exact aW)
 | (apply s_notF; exact rfl)
 | (apply s_en; exact aO; exact b0 _)
 | (apply s_cn; exact aO; exact e52 _)
 | (apply s_pn; exact aO; exact bl _)
 | (apply s_st; exact aO; exact s3 _)
 | (apply c_seq)
 | (apply c_reg)
 | (apply c_ret)
 | (apply c_condT; exact rfl)
 | (with_reducible apply k_c)
      all_goals first
        | (exfalso; omega)
        | exact hf _ rfl rfl
set_option maxHeartbeats 4000000
theorem f9 {x : AV} {l : List Int} {k : Int} (hx : IsL x l) : ∃ m H', evF tab it m 9 [x, .int .i64 k] [] = some (.bool true, H') := by
  obtain ⟨M, hM⟩ : ∃ M : Nat, M = 600000010 := ⟨_, rfl⟩
  refine ⟨M + 1, [], ?_⟩
  have fx := hx.free
  have hw : (l.take 61).length ≤ 61 := by rw [List.length_take]; omega
  have e19 := fun H => c19 hx (m := M) (by omega) H
  generalize l.take 61 = w at *
  have hvw := isL_fz w
  have e21 := fun H => c21 hvw hvw (by omega) (m := M) (by omega) H
  simp only [decide_true] at e21
  have e22 := fun H => callPure_free (call := evF tab it M) (H := H) (by simp [idFreeL, hvw.free]) (by simp) (f22 hvw (by omega) (m := M) (by omega)) rfl
  have e23 := fun H => awakeN (m := M) (by omega) H
  have e39 := fun {u v : AV} {U D : List (List Int)} (hu : IsLL u U) (hv : IsLL v D) hU hD H => c39 (k := k) hvw hu hv hw hU hD (m := M) (by omega) H
  have e40 := fun {u v : AV} {U D : List (List Int)} (hu : IsLL u U) (hv : IsLL v D) hU hD q (hq : q ≤ 60) H => c40 (k := q) hvw hu hv hw hU hD hq (m := M) (by omega) H
  have fw := fzL_free w
  have b0 : ∀ call, evE call [] (.alloc false [.nilS, .nilS]) [] = some (.ptr 0 0, [some (.box [.nilS, .nilS])]) := fun call => rfl
  have q0 : ∀ H, evP H (.fldA 0) [.ptr 0 0] = some (.ptr 0 0) := fun H => rfl
  have q1 : ∀ H, evP H (.fldA 1) [.ptr 0 0] = some (.ptr 0 1) := fun H => rfl
  rcases c34 (k := k) hvw hw (m := M) (by omega) with ⟨w1, k1, k2, U, D, e34, hr, hU, hD⟩ | ⟨hno, e34⟩
  · obtain ⟨q, rfl⟩ : ∃ q : Nat, k = (q : Int) := ⟨k.toNat, by omega⟩
    rw [Int.toNat_natCast] at hr
    have lU : ∀ c ∈ U, c.length ≤ 200 := fun c hc => by have := ch_len (hr.2.1.1 c hc); omega
    have lD : ∀ c ∈ D, c.length ≤ 200 := fun c hc => by have := ch_len (hr.2.2.1.1 c hc); omega
    have hvu := isLL_fz U
    have hvd := isLL_fz D
    have f39 := e39 hvu hvd ⟨by omega, lU⟩ ⟨by omega, lD⟩
    have f40 := e40 hvu hvd ⟨by omega, lU⟩ ⟨by omega, lD⟩ q (by omega)
    unfold ans39 at f39
    rw [if_pos ⟨w1, k1, k2⟩, Int.toNat_natCast, if_pos hr] at f39
    simp only [hr, decide_true] at f40
    simp only [w1, decide_true] at e22
    have o1 := hvu.one
    have o2 := hvd.one
    have g1 := hvu.free
    have g2 := hvd.free
    clear e39 e40
    refine f_enter rfl rfl ?_
    generalize fzL w = vw at *
    generalize fzLL U = vu at *
    generalize fzLL D = vd at *
    generalize evF tab it M = call at *
    have s1 : evE call [some (HO.box [.nilS, .nilS])] (.st 2) [.ptr 0 0, .agg [vu, vd]] = some (.undef, [some (.box [vu, vd])]) := e_st2 rfl o1 o2
    have l2 : evP [some (HO.box [vu, vd])] (.ld true 2) [.ptr 0 0] = some (.agg [vu, vd]) := p_ld2 rfl
    repeat' first
 | (apply s_mov; exact aW)
 | (apply s_gT; exact rfl)
 | (apply c_nil)
 | (apply s_pickT; exact rfl; exact aW)
 | (apply s_pickF; exact rfl; exact aW)
 | (apply s_notT; exact rfl)
 | (apply s_lss; exact rfl; all_goals (intro _; try (exfalso; omega)))
 | (apply s_gtr; exact rfl; all_goals (intro _; try (exfalso; omega)))
 | (apply s_eql; exact rfl; all_goals (intro _; try (exfalso; omega)))
 | (apply s_cn; exact aO; exact e19 _)
 | (apply s_cn; exact aO; exact e34 _)
 | (apply s_en; exact aO; exact b0 _)
 | (apply s_st; exact aO; exact s1)
 | (apply s_cn; exact aO; exact e21 _)
 | (apply s_cn; exact aO; exact e22 _)
 | (apply s_pn; exact aO; exact l2)
 | (apply s_cn; exact aO; exact f40 _)
 | (apply s_cn; exact aO; exact f39 _)
 | (apply s_cn; exact aO; exact e23 _)
 | (apply s_pd; exact aW)
 | (apply c_seq)
 | (apply c_reg)
 | (apply c_skip)
 | (apply c_ret)
 | (apply c_condF; exact rfl)
 | (with_reducible apply k_c)
    all_goals first
      | (exfalso; omega)
      | exact fin_t (by (conv => lhs; whnf)) (by rfl) rfl
  · have f39 := e39 .nil .nil ⟨by simp, by simp⟩ ⟨by simp, by simp⟩
    unfold ans39 at f39
    rw [if_neg hno] at f39
    have hn0 : IsLL .nilS [] := .nil
    have hz : ([] : List (List Int)).length = 0 := rfl
    clear e39 e40
    have l2 : evP [some (HO.box [.nilS, .nilS])] (.ld true 2) [.ptr 0 0] = some (.agg [.nilS, .nilS]) := p_ld2 rfl
    have l0 : evP [some (HO.box [.nilS, .nilS])] (.ld false 1) [.ptr 0 0] = some .nilS := p_ldX (j := 0) rfl rfl
    have l1 : evP [some (HO.box [.nilS, .nilS])] (.ld false 1) [.ptr 0 1] = some .nilS := p_ldX (j := 1) rfl rfl
    have le : ∀ H, evP H .len [.nilS] = some (.int .i64 0) := fun H => rfl
    by_cases w1 : IsW w
    · have hk : k < 1 ∨ 60 < k := by
        rcases Int.lt_or_le k 1 with h | h
        · exact .inl h
        · exact .inr (Int.not_le.1 fun h' => hno ⟨w1, h, h'⟩)
      simp only [w1, decide_true] at e22
      refine f_enter rfl rfl ?_
      generalize fzL w = vw at *
      generalize evF tab it M = call at *
      have s1 : evE call [some (HO.box [.nilS, .nilS])] (.st 2) [.ptr 0 0, .agg [.nilS, .nilS]] = some (.undef, [some (.box [.nilS, .nilS])]) := e_st2 rfl rfl rfl
      repeat' first
 | (apply s_mov; exact aW)
 | (apply s_gT; exact rfl)
 | (apply s_gF; exact rfl)
 | (apply c_nil)
 | (apply s_pickT; exact rfl; exact aW)
 | (apply s_pickF; exact rfl; exact aW)
 | (apply s_notT; exact rfl)
 | (apply s_lss; exact rfl; all_goals (intro _; try (exfalso; omega)))
 | (apply s_gtr; exact rfl; all_goals (intro _; try (exfalso; omega)))
 | (apply s_eql; exact rfl; all_goals (intro _; try (exfalso; omega)))
 | (apply s_cn; exact aO; exact e19 _)
 | (apply s_cn; exact aO; exact e34 _)
 | (apply s_en; exact aO; exact b0 _)
 | (apply s_st; exact aO; exact s1)
 | (apply s_cn; exact aO; exact e21 _)
 | (apply s_cn; exact aO; exact e22 _)
 | (apply s_pn; exact aO; exact q0 _)
 | (apply s_pn; exact aO; exact q1 _)
 | (apply s_pn; exact aO; exact l0)
 | (apply s_pn; exact aO; exact l2)
 | (apply s_pn; exact aO; exact le _)
 | (apply s_cn; exact aO; exact f39 _)
 | (apply s_cn; exact aO; exact e23 _)
 | (apply s_pd; exact aW)
 | (apply c_seq)
 | (apply c_reg)
 | (apply c_skip)
 | (apply c_ret)
 | (apply c_condT; exact rfl)
 | (apply c_condF; exact rfl)
 | (with_reducible apply k_c)
      all_goals first
        | (exfalso; omega)
        | exact fin_t (by (conv => lhs; whnf)) (by rfl) rfl
    · simp only [w1, decide_false] at e22
      refine f_enter rfl rfl ?_
      generalize fzL w = vw at *
      generalize evF tab it M = call at *
      have s1 : evE call [some (HO.box [.nilS, .nilS])] (.st 2) [.ptr 0 0, .agg [.nilS, .nilS]] = some (.undef, [some (.box [.nilS, .nilS])]) := e_st2 rfl rfl rfl
      repeat' first
 | (apply s_mov; exact aW)
 | (apply s_gT; exact rfl)
 | (apply s_gF; exact rfl)
 | (apply c_nil)
 | (apply s_pickT; exact rfl; exact aW)
 | (apply s_notT; exact rfl)
 | (apply s_notF; exact rfl)
 | (apply s_eql; exact rfl; all_goals (intro _; try (exfalso; omega)))
 | (apply s_cn; exact aO; exact e19 _)
 | (apply s_cn; exact aO; exact e34 _)
 | (apply s_en; exact aO; exact b0 _)
 | (apply s_st; exact aO; exact s1)
 | (apply s_cn; exact aO; exact e21 _)
 | (apply s_cn; exact aO; exact e22 _)
 | (apply s_pn; exact aO; exact q0 _)
 | (apply s_pn; exact aO; exact q1 _)
 | (apply s_pn; exact aO; exact l0)
 | (apply s_pn; exact aO; exact l2)
 | (apply s_pn; exact aO; exact le _)
 | (apply s_cn; exact aO; exact f39 _)
 | (apply s_cn; exact aO; exact e23 _)
 | (apply s_pd; exact aW)
 | (apply c_seq)
 | (apply c_reg)
 | (apply c_skip)
 | (apply c_ret)
 | (apply c_condT; exact rfl)
 | (apply c_condF; exact rfl)
 | (with_reducible apply k_c)
      all_goals first
        | (exfalso; omega)
        | exact fin_t (by (conv => lhs; whnf)) (by rfl) rfl
end Go.AM.Tb
