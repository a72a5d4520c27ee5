/- A part of the proof: J11. -/
import Derived.Test.YtmegimhfoedcdaaJ10
set_option linter.unusedVariables false
set_option linter.unusedSimpArgs false
set_option linter.unusedSectionVars false
namespace Go.AM.Ch
set_option maxHeartbeats 8000000
theorem f11 {x : AV} {b : List (List Int)} (hx : IsLL x b) (hbl : b.length < 9223372036854775808) : ∃ m H', evF tab it m 11 [x] [] = some (.bool true, H') := by
  obtain ⟨M, hM1⟩ : ∃ M : Nat, 100000 ≤ M := ⟨100000, Nat.le_refl _⟩
  refine ⟨M + 1, [], ?_⟩
  have fx := hx.free
  have h25 := fun H => awakeN (m := M) (by omega) H
  have e44 := fun H => c44t (w := 6) hx hbl (by decide) (m := M) (by omega) H
  have hB := tame_isB b (w := 6) (by decide)
  have hn6 : (tameL b 6).length ≤ 6 := by rw [tameL_len]; exact (grN_le b (by decide)).2
  have hrB := tameL_rows b 6
  rw [← tameL_len b 6] at hrB
  have hP : ∀ k, k + 1 < (tameL b 6).length → 1 ≤ ed (tameL b 6) (k + 1) k := fun k hk => by
    rw [tameL_len] at hk
    show 1 ≤ getI (getLL (tameL b 6) ((k + 1 : Nat) : Int)) (k : Int)
    rw [tameL_get hk (by omega)]
    unfold tmE
    rw [if_pos (by omega)]
    unfold tmX
    rw [if_pos rfl]
    split <;> omega
  generalize tameL b 6 = B at *
  have iB := isLL_fz B
  have fB := iB.free
  have lB := fun H => p_lenLL (H := H) iB
  have hn1 := hB.n1
  have e29 := fun H => c29 iB (by omega) (m := M) (by omega) H
  rw [if_pos hB, if_pos hB] at e29
  obtain ⟨n, hn⟩ : ∃ n, n = B.length := ⟨_, rfl⟩
  rw [← hn] at hrB hP
  have hfin : ∀ env' H', look env' 2 = .bool true → finish 0 [.t 2] env' H' = some (.bool true, []) := fun env' H' h => fin_t h rfl rfl
  by_cases h3 : n < 3
  · refine f_enter rfl rfl ?_
    generalize evF tab it M = call at *
    generalize fzLL B = vB at *
    repeat' first
 | (apply s_mov; exact aW)
 | (apply c_nil)
 | (apply s_lss; exact rfl; all_goals (intro _; try (exfalso; omega)))
 | (apply s_cn; exact aO; exact e44 _)
 | (apply s_pn; exact aO; exact lB _)
 | (apply s_cn; exact aO; exact h25 _)
 | (apply c_seq)
 | (apply c_reg)
 | (apply c_ret)
 | (apply c_condT; exact rfl)
 | (with_reducible apply k_c)
    all_goals first
      | (exfalso; omega)
      | exact hfin _ _ rfl
  · obtain ⟨k, hk⟩ : ∃ k, n = k + 1 := ⟨n - 1, by omega⟩
    have hb2 : ∀ i j, i < n → j < n → 0 ≤ ed B i j ∧ ed B i j ≤ 3 := fun i j hi hj => (hB.ed i j (by omega) (by omega)).1
    have hLU9 := fun (K0 : KT) (X : Nat → KT) (Rt : KT) (res : R) (env : Env) (H : Heap) => LU9 (call := evF tab it M) (N := M) (K0 := K0) (X := X) (Rt := Rt) (res := res) (env := env) (H := H) (by omega) iB hB hn.symm
    have hLU15 := fun (K0 : KT) (X : Nat → KT) (Rt : KT) (res : R) (env : Env) (H : Heap) (U V T : Int) => LU15 (call := evF tab it M) (N := M) (K0 := K0) (X := X) (Rt := Rt) (res := res) (env := env) (H := H) (U := U) (V := V) (T := T) (e := 0) (n := n) (by omega) fB (by omega) (by omega)
    have hLU20 := fun (K0 : KT) (X : Nat → KT) (Rt : KT) (res : R) (env : Env) (H : Heap) (U V T a : Int) => LU20 (call := evF tab it M) (N := M) (K0 := K0) (X := X) (Rt := Rt) (res := res) (env := env) (H := H) (U := U) (V := V) (T := T) (a := a) (e := 0) (by omega) fB hk (by omega) (by omega)
    have hLU31 := fun (K0 : KT) (X : Nat → KT) (Rt : KT) (res : R) (env : Env) (H : Heap) (u v : Nat) (T a : Int) (hv : v < u) (hu : u < n) => LU31 (m := M) (N := M) (K0 := K0) (X := X) (Rt := Rt) (res := res) (env := env) (H := H) (T := T) (a := a) (e := 0) (by omega) (by omega) iB hB hn.symm hk hv hu
    have hLU40 := fun (K0 : KT) (X : Nat → KT) (Rt : KT) (res : R) (env : Env) (H : Heap) (T a : Int) (rows : List (List Int)) (hr : Rows k rows) (ha : a ≤ T) => LU40 (m := M) (N := M) (K0 := K0) (X := X) (Rt := Rt) (res := res) (env := env) (H := H) (T := T) (a := a) (by omega) (by omega) hk (by omega) hr ha
    have mk1 := fun call => @e_mkBn call n (by unfold most; omega)
    have mk2 := fun call H => @e_mkBX call H k (by unfold most; omega)
    have sb : ∀ H, evP H (.bin .sub) [.int .i64 (n : Int), .int .i64 1] = some (.int .i64 (k : Int)) := fun H => by
      have e : (n : Int) - 1 = (k : Int) := by omega
      simp only [evP, binV, isShift, binInt, Bool.false_eq_true, if_false, if_true, e]
      rw [wrapI (by omega)]
    have e29c := fun (C : List (List Int)) (hC : IsB C) (hr : Rows n C) => c29q (args := [.sl 0 1 0 n]) (H := HB n C) hC (m := M) (by omega) (frzL_cons (hb_frz9 hr (by omega) (by omega)) frzL_nil)
    have e41c := fun (C : List (List Int)) (hC : IsB C) (hr : Rows n C) => c41q (args := [.sl 0 1 0 n]) (H := HB n C) hC (m := M) (by omega) (frzL_cons (hb_frz9 hr (by omega) (by omega)) frzL_nil)
    have e29o := fun (C : List (List Int)) (hC : IsB C) (hr : Rows k C) => c29q (args := [.sl 0 1 0 k]) (H := HB k C) hC (m := M) (by omega) (frzL_cons (hb_frz9 hr (by omega) (by omega)) frzL_nil)
    have e29l := fun (X : Heap) (C : List (List Int)) (hC : IsB C) (hr : Rows n C) => c29q (args := [.sl X.length 1 0 n]) (H := HY X n C) hC (m := M) (by omega) (frzL_cons (hy_frz hr (by omega) (by omega)) frzL_nil)
    have e18 := fun H => c18o iB hrB (by omega) (by omega) (m := M) (by omega) H
    have hgB : ∀ (U V : Int) (gs : List AV), idFreeL [fzLL B, .int .i64 (n : Int), .int .i64 U, .int .i64 V] = true := fun U V gs => by simp [idFreeL, AV.idFree, fB]
    rw [← hn] at lB
    refine f_enter rfl rfl ?_
    generalize hcall : evF tab it M = call at *
    repeat' first
 | (apply s_mov; exact aW)
 | (apply c_nil)
 | (apply s_lss; exact rfl; all_goals (intro _; try (exfalso; omega)))
 | (apply s_cn; exact aO; exact e44 _)
 | (apply s_pn; exact aO; exact lB _)
 | (apply c_seq)
 | (apply c_reg)
 | (apply c_block)
 | (apply c_skip)
 | (apply c_condF; exact rfl)
 | (with_reducible apply k_c)
    all_goals try (exfalso; omega)
    clear e44
    refine c_loop ?_
    refine hLU9 _ _ _ _ _ _ (gc_to rfl (by simp [idFreeL, AV.idFree, fB])) ?_
    intro U V hUV env' H' hgc
    refine k_c (c_pre hgc ?_)
    clear hLU9 hgc
    generalize hT : trN B = T at *
    have hbT : 1 ≤ T ∧ T ≤ 101559956668416 := by rw [← hT]; exact trN_le hB
    repeat' first
 | (apply s_mov; exact aW)
 | (apply c_nil)
 | (apply s_cn; exact aO; exact e29 _)
 | (apply s_en; exact aO; exact mk1 _)
 | (apply s_pd; exact aW)
 | (apply c_seq)
 | (apply c_reg)
 | (apply c_block)
 | (with_reducible apply k_c)
    all_goals try (exfalso; omega)
    refine c_loop ?_
    refine hLU15 _ _ _ _ _ _ U V T ?_ ?_
    · exact gcHP (pre := [fzLL B, .int .i64 (n : Int), .int .i64 U, .int .i64 V, .int .i64 T, .int .i64 0]) (gs := [.int .i64 0]) (M := n) (i := 0) ⟨rfl, fun r hr => by cases hr⟩ (by omega) (by omega) (by simp [idFreeL, AV.idFree, fB]) (by simp) rfl
    intro C hrC heC env' H' hgc
    refine k_c (c_pre hgc ?_)
    clear hLU15 hgc
    have hC := cir_isB hrC (by omega) (by omega) heC
    have hTC : trN C = n := by rw [trN_tN, hrC.len]; exact tN_circle (by omega) heC
    have hgen := cir_degs (by omega) hrC heC
    have e29c' := e29c C hC hrC
    have e41c' := e41c C hC hrC
    rw [hTC] at e29c'
    rw [hgen] at e41c'
    clear e29c e41c
    generalize iL (canL C) = CC at *
    rcases hUV with ⟨rfl, rfl, hno⟩ | ⟨u, v, rfl, rfl, hvu, hun, hcut⟩
    · -- a path
      have hT1 : T = 1 := by
        rw [← hT, trN_tN, ← hn]
        refine tN_path (by omega) fun i j hi hj => ?_
        have key : ∀ i j : Nat, j < i → i < n → ed B i j = if i = j + 1 then 1 else 0 := fun i j h1 h2 => by
          have a := hno i j h1 h2 (by omega)
          have c := hb2 i j h2 (by omega)
          unfold Cut at a
          by_cases e : i = j + 1
          · have := hP j (by omega)
            rw [← e] at this
            rw [if_pos e]; omega
          · rw [if_neg e]; omega
        have hs := syd_of hB
        rw [← hn] at hs
        unfold patE
        rcases Nat.lt_trichotomy i j with h | h | h
        · rw [hs.sy i j hi hj, key j i h hj]
          (repeat' split) <;> omega
        · subst h
          rw [hs.di i hi, if_neg (by omega)]
        · rw [key i j h hi]
          (repeat' split) <;> omega
      clear hLU20 hLU31 hLU40 e18 e29l e29o
      repeat' first
 | (apply s_mov; exact aW)
 | (apply s_gT; exact rfl)
 | (apply c_nil)
 | (apply s_pickT; exact rfl; exact aW)
 | (apply s_pickF; exact rfl; exact aW)
 | (apply s_lss; exact rfl; all_goals (intro _; try (exfalso; omega)))
 | (apply s_eql; exact rfl; all_goals (intro _; try (exfalso; omega)))
 | (apply s_neq; exact rfl; all_goals (intro _; try (exfalso; omega)))
 | (apply s_cn; exact aO; exact e29c')
 | (apply s_cn; exact aO; exact e41c')
 | (apply s_cn; exact aO; exact h25 _)
 | (apply s_pd; exact aW)
 | (apply c_seq)
 | (apply c_reg)
 | (apply c_skip)
 | (apply c_ret)
 | (apply c_condT; exact rfl)
 | (apply c_condF; exact rfl)
 | (with_reducible apply k_c)
      all_goals first
        | (exfalso; omega)
        | exact hfin _ _ rfl
    · -- an edge less, and merged
      have hs := syd_of hB
      rw [← hn] at hs
      have hvn : v < n := by omega
      have hr1 := setLL_rows (i := u) (j := v) (x := ed B u v - 1) hrB hun
      have hr2 := setLL_rows (i := v) (j := u) (x := ed B u v - 1) hr1 hvn
      have he2 : ∀ i j, i < n → j < n → ed (setLL (setLL B u v (ed B u v - 1)) v u (ed B u v - 1)) i j = dlE (ed B) u v i j := fun i j hi hj => by
        show getI (getLL (setLL (setLL B u v (ed B u v - 1)) v u (ed B u v - 1)) (i : Int)) (j : Int) = _
        rw [setLL_get hr1 hvn hun, setLL_get hrB hun hvn]
        unfold dlE
        by_cases c1 : i = v ∧ j = u
        · rw [if_pos c1, if_pos (Or.inr c1), c1.1, c1.2, hs.sy v u hvn hun]
        · rw [if_neg c1]
          by_cases c2 : i = u ∧ j = v
          · rw [if_pos c2, if_pos (Or.inl c2), c2.1, c2.2]
          · rw [if_neg c2, if_neg (by omega)]; rfl
      have hL := less_isB hB hn.symm hP hvu hun hcut hr2 he2
      have htc := trees_cut hB hn.symm (by omega) hvu hun hr2 he2
      obtain ⟨hms, hmn⟩ := mgS_syd hB hn.symm hvu hun
      have hmnn := tN_nn hms hmn
      have hkn : n - 1 = k := by omega
      rw [hkn] at htc hms hmn hmnn
      rw [hT] at htc
      have hXl := hb_length hrC
      have e18' := e18 (HB n C)
      have hHY : HB n C ++ (some (.box (refs (List.range' ((HB n C).length + 1) n) (B.map iL))) :: rowsH (B.map iL)) = HY (HB n C) n B := rfl
      rw [hHY] at e18'
      have e29l' := e29l (HB n C) _ hL hr2
      have l1 := hy_ld (X := HB n C) hrB hun
      have l2 := hy_get (X := HB n C) hrB hun hvn
      have s1 := hy_st (call := call) (X := HB n C) (x := ed B u v - 1) hrB hun hvn
      have l3 := hy_ld (X := HB n C) hr1 hvn
      have l4 := hy_get (X := HB n C) hr1 hvn hun
      have s2 := hy_st (call := call) (X := HB n C) (x := ed B u v - 1) hr1 hvn hun
      have v2 : getI (getLL B (u : Int)) (v : Int) = ed B u v := rfl
      have v4 : getI (getLL (setLL B u v (ed B u v - 1)) (v : Int)) (u : Int) = ed B u v := by
        rw [setLL_get hrB hun hvn, if_neg (by omega)]
        exact (hs.sy u v hun hvn).symm
      rw [v2] at l2
      rw [v4] at l4
      have hbuv := hb2 u v hun hvn
      have hlen : (HY (HB n C) n (setLL (setLL B u v (ed B u v - 1)) v u (ed B u v - 1))).length = (HB n C).length + 1 + n := by
        unfold HY
        rw [List.length_append, List.length_cons, rowsH_length, List.length_map, hr2.len]; omega
      have mk2' := mk2 call (HY (HB n C) n (setLL (setLL B u v (ed B u v - 1)) v u (ed B u v - 1)))
      have hnilat : (HY (HB n C) n (setLL (setLL B u v (ed B u v - 1)) v u (ed B u v - 1)) ++ [some (.box (List.replicate k .nilS))])[(HY (HB n C) n (setLL (setLL B u v (ed B u v - 1)) v u (ed B u v - 1))).length]? = some (some (HO.box (List.replicate k AV.nilS))) := by
        rw [List.getElem?_append_right (Nat.le_refl _), Nat.sub_self]; rfl
      have hone := fun (rows : List (List Int)) (hr : Rows k rows) (he : ∀ p q, p < k → q < k → ed rows p q = mgS n u v (ed B) p q) (hle : ∀ p q, p < k → q < k → ed rows p q ≤ 3) => one_isB hB hn.symm (by omega) hvu hun (c := rows) (by rw [hkn]; exact hr) (by rw [hkn]; exact he) (by rw [hkn]; exact fun p q hp hq => by rw [← he p q hp hq]; exact hle p q hp hq)
      have htone := fun (rows : List (List Int)) (hr : Rows k rows) (he : ∀ p q, p < k → q < k → ed rows p q = mgS n u v (ed B) p q) => (show trN rows = tN k (mgS n u v (ed B)) by rw [trN_tN, hr.len]; exact tN_congr he)
      generalize trN (setLL (setLL B u v (ed B u v - 1)) v u (ed B u v - 1)) = A at *
      generalize hL2 : setLL (setLL B u v (ed B u v - 1)) v u (ed B u v - 1) = L2 at *
      generalize setLL B u v (ed B u v - 1) = L1 at *
      generalize tN k (mgS n u v (ed B)) = TM at *
      generalize ed B u v = w at *
      clear e18 e29l hL he2 hms hmn hcut
      repeat' first
 | (apply s_mov; exact aW)
 | (apply s_gT; exact rfl)
 | (apply c_nil)
 | (apply s_pickF; exact rfl; exact aW)
 | (apply s_lss; exact rfl; all_goals (intro _; try (exfalso; omega)))
 | (apply s_neq; exact rfl; all_goals (intro _; try (exfalso; omega)))
 | (apply s_cn; exact aO; exact e29c')
 | (apply s_cn; exact aO; exact e41c')
 | (apply s_en; exact aO; exact e18')
 | (apply s_pn; exact aO; exact p_ixO hun)
 | (apply s_pn; exact aO; exact p_ixO hvn)
 | (apply s_pn; exact aO; exact l1)
 | (apply s_pn; exact aO; exact l2)
 | (apply s_pn; exact aO; exact l3)
 | (apply s_pn; exact aO; exact l4)
 | (apply s_st; exact aO; exact s1)
 | (apply s_st; exact aO; exact s2)
 | (apply s_cn; exact aO; exact e29l')
 | (apply s_pn; exact aO; exact sb _)
 | (apply s_en; exact aO; exact mk2')
 | (apply s_sub; exact rfl; omega)
 | (apply s_pd; exact aW)
 | (apply c_seq)
 | (apply c_reg)
 | (apply c_block)
 | (apply c_skip)
 | (apply c_condF; exact rfl)
 | (with_reducible apply k_c)
      all_goals try (exfalso; omega)
      refine c_loop ?_
      refine hLU20 _ _ _ _ _ _ (u : Int) (v : Int) T A ?_ ?_
      · exact gcNil (pre := [fzLL B, .int .i64 (n : Int), .int .i64 (u : Int), .int .i64 (v : Int), .int .i64 T, .int .i64 A, .int .i64 0]) (gs := [.int .i64 0]) (M := k) (by omega) hnilat (by simp [idFreeL, AV.idFree, fB]) (by simp) rfl
      intro env' H' hgc
      refine k_c (c_pre hgc ?_)
      clear hLU20 hgc
      repeat' first
 | (apply s_mov; exact aW)
 | (apply c_nil)
 | (apply c_seq)
 | (apply c_reg)
 | (apply c_block)
 | (with_reducible apply k_c)
      refine c_loop ?_
      refine hLU31 _ _ _ _ _ _ u v T A hvu hun ?_ ?_
      · exact gcHB (pre := [fzLL B, .int .i64 (n : Int), .int .i64 (u : Int), .int .i64 (v : Int), .int .i64 T, .int .i64 A, .int .i64 0]) (gs := [.int .i64 0]) (M := k) ⟨by simp, fun r h => by rw [(List.mem_replicate.1 h).2]; simp⟩ (by omega) (by simp [idFreeL, AV.idFree, fB]) (by simp) rfl
      intro rows hr he env' H' hgc
      refine k_c (c_pre hgc ?_)
      clear hLU31 hgc
      repeat' first
 | (apply s_mov; exact aW)
 | (apply c_nil)
 | (apply c_seq)
 | (apply c_reg)
 | (apply c_block)
 | (with_reducible apply k_c)
      refine c_loop ?_
      refine hLU40 _ _ _ _ _ _ T A rows hr (by omega) ?_ ?_ ?_
      · exact hfin
      · exact gcHB (pre := [.int .i64 (n : Int), .int .i64 T, .int .i64 A, .int .i64 0]) (gs := [.int .i64 0]) (M := k) hr (by omega) rfl (by simp) rfl
      intro hle env' H' hgc
      refine k_c (c_pre hgc ?_)
      clear hLU40 hgc
      have e29o' := e29o rows (hone rows hr he hle) hr
      rw [htone rows hr he] at e29o'
      repeat' first
 | (apply s_mov; exact aW)
 | (apply s_gT; exact rfl)
 | (apply c_nil)
 | (apply s_pickT; exact rfl; exact aW)
 | (apply s_eql; exact rfl; all_goals (intro _; try (exfalso; omega)))
 | (apply s_add; exact rfl; omega)
 | (apply s_cn; exact aO; exact e29o')
 | (apply s_cn; exact aO; exact h25 _)
 | (apply s_pd; exact aW)
 | (apply c_seq)
 | (apply c_reg)
 | (apply c_ret)
 | (with_reducible apply k_c)
      all_goals first
        | (exfalso; omega)
        | exact hfin _ _ rfl
end Go.AM.Ch
