/- A part of the proof: T14. -/
import Derived.Test.YtdgkchedoooffaaT13
set_option linter.unusedVariables false
set_option linter.unusedSimpArgs false
set_option linter.unusedSectionVars false
namespace Go.AM.Tb
set_option maxHeartbeats 4000000
theorem gc1u {H : Heap} {a : Nat} {is : List Nat} {P : List (List Int)} {v : AV} (h : LB H a is P) (hk : is.length ≤ 100) (hv : v.idFree = true) {n : Nat} (hn : P.length = n) :
    gc 0 [.tup [v, .sl a 1 0 n]] H = some ([.tup [v, .sl 0 1 0 n]], HB P) := by
  subst hn
  have hφ : nodupB (a :: is) = true := nodupB_iff.2 h.nd
  have q1 : posOf (a :: is) a = some 0 := posOf_of_get hφ (j := 0) rfl
  have pr : renL (posOf (a :: is)) (refs is (P.map iL)) = some (refs (List.range' 1 is.length) (P.map iL)) := renL_refs hφ is _ 1 h.lnm fun j i hj => by rw [Nat.add_comm]; exact hj
  refine gc_of (φ := a :: is) ?_ hφ ?_ h.pick ?_
  · have e : reach H 400 (rangeL 0 []) (roots H (rangeL 0 []) ++ [.tup [v, .sl a 1 0 P.length]]) = reach H 398 [] (.sl a 1 0 P.length :: []) := by
      rw [show reach H 400 (rangeL 0 []) (roots H (rangeL 0 []) ++ [.tup [v, .sl a 1 0 P.length]]) = reach H 400 [] [.tup [v, .sl a 1 0 P.length]] from rfl, reach_tup]
      simp only [idFreeL, AV.idFree, Bool.false_and, Bool.and_false, Bool.false_eq_true, if_false, List.append_nil]
      rw [reach_skip hv]
    rw [e, h.reach 398 (by omega) [] (by simp), reach_free _ _ _ _ rfl]
    rfl
  · simp only [renL, AV.ren, q1, idFreeL, AV.idFree, Bool.false_and, Bool.and_false, Bool.false_eq_true, if_false, Option.map_some, Option.bind_some, ren_self hv]
  · simp [renH, renO, pr, renH_rows, HBs, h.ln]
theorem fzLL_free (l : List (List Int)) : (fzLL l).idFree = true := (isLL_fz l).free
theorem f24 {x : AV} {w : List Int} (hx : IsL x w) (hw : w.length ≤ 61) {m : Nat} (hm : 2100 ≤ m) : G53 (pq w w.length).1 (pq w w.length).2 (evF tab it m 24 [x] []) := by
  obtain ⟨m, rfl⟩ : ∃ j, m = j + 1 := ⟨m - 1, by omega⟩
  have fx := hx.free
  have e54 := fun {y : AV} {P0 : List (List Int)} {x0 : Int} (hy : IsLL y P0) h1 h2 H => c54 (x0 := x0) hy h1 h2 (m := m) (by omega) H
  refine via_enter rfl rfl ?_
  generalize evF tab it m = call at *
  refine via (res := ?r0) ?w0 ?g0
  case w0 =>
    repeat' first
 | (apply s_mov; exact aW)
 | (apply c_nil)
 | (apply c_seq)
 | (apply c_reg)
 | (apply c_block)
 | (with_reducible apply k_c)
    exact c_end
  refine loop_P (σ := Nat) (fun i => [x, fzLL (pq w i).1, oV 0 (pq w i).2, .int .i64 (i : Int)]) (fun i => oH 0 (pq w i).2) (fun i => i ≤ w.length) (fun i => w.length - i) ?_ _ 0 _ _ (by omega) (by omega) ?_
  rotate_left
  · have e0 : fzLL (pq w 0).1 = .nilS := by simp [pq, fzLL]
    rw [e0]
    show gc 0 (looks _ _) _ = some ([x, .nilS, .nilS, .int .i64 0], [])
    exact gc_to rfl (by simp [idFreeL, AV.idFree, fx])
  intro i hi K hK
  obtain ⟨l1, l2, l3, l4⟩ := pq_len w i
  have htab := pq_ok w i
  have hrow : ∀ r ∈ (pq w i).1, Srt r ∧ r ≠ [] ∧ r.length ≤ 90 := fun r hr => ⟨(l3 r hr).1, (htab.1.rows r hr).2, by have := (l3 r hr).2; omega⟩
  by_cases hiw : i < w.length
  · have hv' : ((pq w (i + 1)).1, (pq w (i + 1)).2) = (insT (pq w i).1 (getI w (i : Int)), addQ (pq w i).2 (insK (pq w i).1 (getI w (i : Int))) ((i : Int) + 1)) := rfl
    obtain ⟨hv1, hv2⟩ := Prod.mk.inj hv'
    have l1' := ins_len (pq w i).1 (getI w (i : Int))
    have ec := e54 (x0 := getI w (i : Int)) (isLL_fz (pq w i).1) (by omega) hrow
    have fP := fzLL_free (pq w i).1
    have fP' := fzLL_free (insT (pq w i).1 (getI w (i : Int)))
    have hK' := hK (i + 1)
    rw [hv1, hv2] at hK'
    clear hK hv' hv1 hv2
    have hp0 := pq_pos w (i := i)
    generalize (pq w i).1 = P at *
    generalize (pq w i).2 = Q at *
    generalize fzLL P = vP at *
    generalize hvP : fzLL (insT P (getI w (i : Int))) = vP' at *
    rcases Nat.eq_zero_or_pos i with rfl | hip
    · have hP0 : P = [] := List.length_eq_zero_iff.1 (by omega)
      have hQ0 : Q = [] := List.length_eq_zero_iff.1 (by omega)
      subst hP0 hQ0
      simp only [insK, addQ] at hK' ec
      obtain ⟨c1, c2, c3, c4⟩ := lb_growN [] [((0 : Nat) : Int) + 1]
      have b0 : evE call [] (.bldS true false 1 1 [.int .i64 0] [(0, 1)]) [.int .i64 (((0 : Nat) : Int) + 1)] = some (.sl 0 1 0 1, [some (.data (iL [((0 : Nat) : Int) + 1]))]) := e_bldS1
      refine via (res := ?r1) ?w1 ?g1
      case w1 =>
        repeat' first
 | (apply s_mov; exact aW)
 | (apply c_nil)
 | (apply s_lss; exact rfl; all_goals (intro _; try (exfalso; omega)))
 | (apply s_eql; exact rfl; all_goals (intro _; try (exfalso; omega)))
 | (apply s_add; exact rfl; omega)
 | (apply s_cn; exact aO; exact ec _)
 | (apply s_en; exact aO; exact b0)
 | (apply s_en; exact aO; exact c1 _)
 | (apply s_en; exact aO; exact c2 _ _)
 | (apply s_len; exact aW; exact aI)
 | (apply s_idx; exact aW; exact rfl; exact aI; omega)
 | (apply s_ldI; exact rfl; omega)
 | (apply s_pd; exact aW)
 | (apply c_seq)
 | (apply c_reg)
 | (apply c_block)
 | (apply c_skip)
 | (apply c_condT; exact rfl)
 | (with_reducible apply k_c)
        exact rfl
      refine hK' _ _ (by omega) (by omega) ?_
      exact gc1p (pre := [x, vP']) (gs := [.int .i64 1]) c3 (by simp) (by simp [idFreeL, fx, fP']) (by simp) rfl (n := 1) rfl
    · have hQp : 0 < Q.length := by have := hp0 hip; omega
      rw [oV_pos hQp, oH_pos hQp]
      have lb := lb_hb Q []
      rw [List.append_nil] at lb
      by_cases hkQ : insK P (getI w (i : Int)) < Q.length
      · have hidx : (List.range' 1 Q.length)[insK P (getI w (i : Int))]? = some (1 + insK P (getI w (i : Int))) := rngn hkQ
        obtain ⟨a1, a2x, a3, a4, a5⟩ := lb.app hidx (x := (i : Int) + 1) (by have := l4 (getLL Q (insK P (getI w (i : Int)) : Int)) (by rw [getLL_get hkQ]; exact List.getElem_mem _); omega)
        have p1 := lb.ld hidx
        have had : addQ Q (insK P (getI w (i : Int))) ((i : Int) + 1) = Q.set (insK P (getI w (i : Int))) (getLL Q (insK P (getI w (i : Int)) : Int) ++ [(i : Int) + 1]) := by unfold addQ; rw [if_pos hkQ]
        rw [had] at hK'
        rw [oV_pos (by simpa using hQp), oH_pos (by simpa using hQp), List.length_set] at hK'
        generalize hk : insK P (getI w (i : Int)) = k at *
        have p1' : evP (HB Q) (.ld false 1) [.ptr 0 (0 + ((k : Nat) : Int).toNat * 1)] = some (.sl (1 + k) 1 0 (getLL Q (k : Int)).length) := by simpa using p1
        have a2' : evE call ((HB Q).set (1 + k) none ++ [some (HO.data (iL (getLL Q (k : Int) ++ [(i : Int) + 1])))]) (.st 1) [.ptr 0 (0 + ((k : Nat) : Int).toNat * 1), .sl (HB Q).length 1 0 ((getLL Q (k : Int)).length + 1)] = some (.undef, growH (HB Q) 0 (List.range' 1 Q.length) Q k (1 + k) ((i : Int) + 1)) := by simpa using a2x call
        refine via (res := ?r3) ?w3 ?g3
        case w3 =>
          repeat' first
 | (apply s_mov; exact aW)
 | (apply c_nil)
 | (apply s_lss; exact rfl; all_goals (intro _; try (exfalso; omega)))
 | (apply s_eql; exact rfl; all_goals (intro _; try (exfalso; omega)))
 | (apply s_add; exact rfl; omega)
 | (apply s_cn; exact aO; exact ec _)
 | (apply s_pn; exact aO; exact p1')
 | (apply s_en; exact aO; exact e_bld1 rfl rfl rfl rfl)
 | (apply s_en; exact aO; exact a1 _ _)
 | (apply s_st; exact aO; exact a2')
 | (apply s_len; exact aW; exact aI)
 | (apply s_lenSl; exact rfl)
 | (apply s_idx; exact aW; exact rfl; exact aI; omega)
 | (apply s_idxS; exact rfl; exact rfl; omega)
 | (apply s_ldI; exact rfl; omega)
 | (apply s_pd; exact aW)
 | (apply c_seq)
 | (apply c_reg)
 | (apply c_block)
 | (apply c_skip)
 | (apply c_condT; exact rfl)
 | (apply c_condF; exact rfl)
 | (with_reducible apply k_c)
          exact rfl
        refine hK' _ _ (by omega) (by omega) ?_
        exact gc1p (pre := [x, vP']) (gs := [.int .i64 ((i : Int) + 1)]) a3 (by simp; omega) (by simp [idFreeL, fx, fP']) (by simp) rfl (n := Q.length) (by simp)
      · have hkQ' : insK P (getI w (i : Int)) = Q.length := by have := l1'.2; omega
        have had : addQ Q (insK P (getI w (i : Int))) ((i : Int) + 1) = Q ++ [[(i : Int) + 1]] := by unfold addQ; rw [if_neg hkQ]
        rw [had] at hK'
        rw [oV_pos (by simp), oH_pos (by simp)] at hK'
        rw [hkQ'] at ec
        obtain ⟨c1, c2, c3, c4⟩ := lb.grow (r := [(i : Int) + 1]) (by omega)
        have b0 : evE call (HB Q) (.bldS true false 1 1 [.int .i64 0] [(0, 1)]) [.int .i64 ((i : Int) + 1)] = some (.sl (HB Q).length 1 0 1, HB Q ++ [some (.data (iL [(i : Int) + 1]))]) := e_bldS1
        refine via (res := ?r4) ?w4 ?g4
        case w4 =>
          repeat' first
 | (apply s_mov; exact aW)
 | (apply c_nil)
 | (apply s_lss; exact rfl; all_goals (intro _; try (exfalso; omega)))
 | (apply s_eql; exact rfl; all_goals (intro _; try (exfalso; omega)))
 | (apply s_add; exact rfl; omega)
 | (apply s_cn; exact aO; exact ec _)
 | (apply s_en; exact aO; exact b0)
 | (apply s_en; exact aO; exact c1 _)
 | (apply s_en; exact aO; exact c2 _ _)
 | (apply s_len; exact aW; exact aI)
 | (apply s_lenSl; exact rfl)
 | (apply s_idx; exact aW; exact rfl; exact aI; omega)
 | (apply s_ldI; exact rfl; omega)
 | (apply s_pd; exact aW)
 | (apply c_seq)
 | (apply c_reg)
 | (apply c_block)
 | (apply c_skip)
 | (apply c_condT; exact rfl)
 | (with_reducible apply k_c)
          exact rfl
        refine hK' _ _ (by omega) (by omega) ?_
        rw [List.length_append]
        exact gc1p (pre := [x, vP']) (gs := [.int .i64 ((i : Int) + 1)]) c3 (by simp; omega) (by simp [idFreeL, fx, fP']) (by simp) rfl (n := Q.length + 1) (by simp)
  · obtain rfl : i = w.length := by omega
    rcases Nat.eq_zero_or_pos w.length with h0 | h0
    · rw [h0]
      have e0 : fzLL (pq w 0).1 = .nilS := by simp [pq, fzLL]
      rw [e0]
      show G53 _ _ (evC _ _ _ _ _ _ _ _ (bindEnv _ 0 [x, .nilS, .nilS, .int .i64 ((0 : Nat) : Int)]) [])
      refine via (res := ?r5) ?w5 ?g5
      case w5 =>
        repeat' first
 | (apply s_mov; exact aW)
 | (apply c_nil)
 | (apply s_lss; exact rfl; all_goals (intro _; try (exfalso; omega)))
 | (apply s_len; exact aW; exact aI)
 | (apply c_seq)
 | (apply c_reg)
 | (apply c_exitH)
 | (apply c_ret)
 | (apply c_condF; exact rfl)
 | (apply c_preF; exact aK; exact aF)
 | (with_reducible apply k_c)
        exact rfl
      exact ⟨.tup [.nilS, .nilS], [], rfl, by simp [frzV_tup, idFreeL, AV.idFree, pq, fzLL]⟩
    · have hpp := pq_pos w h0
      have hQ0 : (pq w w.length).2 ≠ [] := fun e => by rw [e] at l2; simp at l2; omega
      have hQp : 0 < (pq w w.length).2.length := by omega
      rw [oV_pos hQp, oH_pos hQp]
      have fP := fzLL_free (pq w w.length).1
      have lb := lb_hb (pq w w.length).2 []
      rw [List.append_nil] at lb
      generalize hvP : fzLL (pq w w.length).1 = vP at *
      have g2 := gc1p (pre := [vP]) (gs := []) lb (by simp; omega) (by simp [idFreeL, fP]) (by simp) rfl (n := (pq w w.length).2.length) rfl
      refine via (res := ?r6) ?w6 ?g6
      case w6 =>
        repeat' first
 | (apply s_mov; exact aW)
 | (apply c_nil)
 | (apply s_lss; exact rfl; all_goals (intro _; try (exfalso; omega)))
 | (apply c_pre; exact g2)
 | (apply s_len; exact aW; exact aI)
 | (apply c_seq)
 | (apply c_reg)
 | (apply c_exitH)
 | (apply c_ret)
 | (apply c_condF; exact rfl)
 | (with_reducible apply k_c)
        exact rfl
      refine fin53 rfl rfl (gc1u lb (by simp; omega) fP rfl) (by simp [idFreeL, AV.idFree]) (by rw [frzV_free _ _ fP, hvP]) (lb_frz lb (by omega) (fun r hr hr0 => ?_) hQ0 (by omega))
      subst hr0
      have h1 : 0 ∈ lens (pq w w.length).2 := List.mem_map.2 ⟨[], hr, rfl⟩
      rw [← htab.2.1] at h1
      obtain ⟨r, hr, e⟩ := List.mem_map.1 h1
      exact (htab.1.rows r hr).2 (List.length_eq_zero_iff.1 e)
theorem c24 {x : AV} {w : List Int} (hx : IsL x w) (hw : w.length ≤ 61) {m : Nat} (hm : 2100 ≤ m) (H : Heap) : callPure (evF tab it m) true 24 [x] H = some (.tup [fzLL (pq w w.length).1, fzLL (pq w w.length).2], H) := by
  obtain ⟨v, R, e1, e2⟩ := f24 hx hw hm
  exact callPure_frz (by simp [idFreeL, hx.free]) (by simp) e1 e2
theorem c52 {x : AV} {l : List Int} (hx : IsL x l) (hl : l.length ≤ 1000) {m : Nat} (hm : 2100 ≤ m) (H : Heap) : callPure (evF tab it m) true 52 [x] H = some (.bool (decide (IsW l)), H) := callPure_free (by simp [idFreeL, hx.free]) (by simp) (f52 hx hl hm) rfl
theorem c22 {x : AV} {l : List Int} (hx : IsL x l) (hl : l.length ≤ 1000) {m : Nat} (hm : 2100 ≤ m) (H : Heap) : callPure (evF tab it m) true 22 [x] H = some (.bool (decide (IsW l)), H) := callPure_free (by simp [idFreeL, hx.free]) (by simp) (f22 hx hl hm) rfl
theorem f20 {x : AV} {w : List Int} (hx : IsL x w) (hw : w.length ≤ 61) {m : Nat} (hm : 2200 ≤ m) : evF tab it m 20 [x] [] = some (if IsW w then .tup [fzLL (pq w w.length).1, fzLL (pq w w.length).2, .int .i64 0] else .tup [.nilS, .nilS, .int .i64 2], []) := by
  obtain ⟨m, rfl⟩ : ∃ j, m = j + 1 := ⟨m - 1, by omega⟩
  have fx := hx.free
  have e53 := fun H => c53 hx hw (m := m) (by omega) H
  have e52 := fun H => c52 hx (by omega) (m := m) (by omega) H
  have f1 := fzLL_free (pq w w.length).1
  have f2 := fzLL_free (pq w w.length).2
  refine f_enter rfl rfl ?_
  generalize evF tab it m = call at *
  by_cases h : IsW w
  · rw [if_pos h]
    simp only [h, decide_true] at e52
    repeat' first
 | (apply s_mov; exact aW)
 | (apply c_nil)
 | (apply s_notT; exact rfl)
 | (apply s_cn; exact aO; exact e52 _)
 | (apply s_cn; exact aO; exact e53 _)
 | (apply s_pd; exact aW)
 | (apply c_seq)
 | (apply c_reg)
 | (apply c_skip)
 | (apply c_ret)
 | (apply c_condF; exact rfl)
 | (with_reducible apply k_c)
    simp [finish, ress, resOf, look, tupOf, gc_free, idFreeL, AV.idFree, f1, f2]
  · rw [if_neg h]
    simp only [h, decide_false] at e52
    repeat' first
 | (apply s_mov; exact aW)
 | (apply c_nil)
 | (apply s_notF; exact rfl)
 | (apply s_cn; exact aO; exact e52 _)
 | (apply c_seq)
 | (apply c_reg)
 | (apply c_ret)
 | (apply c_condT; exact rfl)
 | (with_reducible apply k_c)
    rfl
theorem c20 {x : AV} {w : List Int} (hx : IsL x w) (hw : w.length ≤ 61) {m : Nat} (hm : 2200 ≤ m) (H : Heap) : callPure (evF tab it m) true 20 [x] H = some (if IsW w then .tup [fzLL (pq w w.length).1, fzLL (pq w w.length).2, .int .i64 0] else .tup [.nilS, .nilS, .int .i64 2], H) := by
  refine callPure_free (by simp [idFreeL, hx.free]) (by simp) (f20 hx hw hm) ?_
  split <;> simp [AV.idFree, idFreeL, fzLL_free]
end Go.AM.Tb
