/- A part of the proof: E15. -/
import Derived.Test.YtmegimhfoedcdaaU56
set_option linter.unusedSectionVars false
set_option linter.unusedVariables false
set_option linter.unusedSimpArgs false
namespace Go.AM.Ch
attribute [local go_sem] gc subHeap reach_skip ren_free reach_new reach_newp reach_end rangeL roots boxCells nodupB posOf renL AV.ren pickO renH renO looks look bindEnv envOf reach_int reach_bool reach_nilS reach_rd putRow cells_sl cells_int cells_bool cells_nilS cells_rd cells_agg reach_agg reach_tup idFreeL idf_sl idf_ptr idf_int idf_bool idf_nilS idf_rd reach_fn reach_mp cells_fn cells_ptr cells_mp idf_mp idf_fn idf_agg idf_tup
set_option maxHeartbeats 8000000
/-- law 6 -/
theorem f6 {x y : AV} {b : List (List Int)} {l : List Int} (hx : IsLL x b) (hbl : b.length < 9223372036854775808) (hy : IsL y l) : ∃ m H', evF tab it m 6 [x, y] [] = some (.bool true, H') := by
  obtain ⟨M, hM1, hM2⟩ : ∃ M, smK + 40 ≤ M ∧ 10300000 ≤ M := ⟨smK + 10300000, by omega, by omega⟩
  refine ⟨M + 1, [], ?_⟩
  have h1 := grow_isB b (w := 5) (by decide)
  have hn1 := h1.n1
  have hn5 : (growL b 5).length ≤ 5 := by rw [growL_len]; exact (grN_le b (by decide)).2
  have fx := hx.free; have fy := hy.free
  have e34 := fun H => c34t (w := 5) hx hbl (by decide) (m := M) (by omega) H
  generalize growL b 5 = B at *
  have iB := isLL_fz B
  have fB := iB.free
  have e36 := fun H => c36o (w := 1000) iB hy hn1 (by omega) (by decide) (m := M) (by omega) H
  have hSb : ∀ v : Nat, v < B.length → -1000 ≤ getI (stL B.length l 1000) (v : Int) ∧ getI (stL B.length l 1000) (v : Int) ≤ 1000 := fun v hv => by rw [stL_get hv]; have := stN_le (stX l v) 1000; omega
  have hSl := stL_len B.length l 1000
  generalize stL B.length l 1000 = S0 at *
  have hS0 : 0 < S0.length := by omega
  have e32 := fun H h => c32p (m := M) (id := 0) hSl (by omega) (fun v hv => by
    obtain ⟨k, hk, e⟩ := List.getElem_of_mem hv
    have := hSb k (by omega)
    rw [getI_nat] at this
    have h2 : S0.getD k 0 = v := by simp [List.getD, hk, e]
    rw [h2] at this
    omega) (by omega) (H := H) h
  have hbal : balL S0 = S0.set 0 (getI S0 0 - sumI S0) := rfl
  have hSS := balL_sum hS0
  have hSB := balL_bd (w := 1000) hS0 (by omega) (by omega) (by rw [hSl]; exact hSb)
  rw [hSl] at hSS hSB
  have hbl2 := balL_len S0
  rw [hSl] at hbl2
  have h00 : -1000 ≤ getI S0 0 ∧ getI S0 0 ≤ 1000 := hSb 0 (by omega)
  have hsum := sumTo_le (f := fun j => getI S0 (j : Int)) (M := 1000) (n := S0.length) fun j hj => hSb j (by omega)
  have hsum2 : -5000 ≤ sumI S0 ∧ sumI S0 ≤ 5000 := by
    have h2 : (S0.length : Int) * 1000 ≤ 5 * 1000 := by omega
    unfold sumI
    omega
  have ix0 : ∀ H, evP H (.idxA 1) [.sl 0 1 0 B.length, .int .i64 0] = some (.ptr 0 0) := fun H => p_ixO (i := 0) (by omega)
  have ld0 : evP [some (.data (iL S0))] (.ld false 1) [.ptr 0 0] = some (.int .i64 (getI S0 0)) := p_ldO (H := [some (.data (iL S0))]) (id := 0) (l := S0) (i := 0) rfl hS0
  have st0 : ∀ call, evE call [some (.data (iL S0))] (.st 1) [.ptr 0 0, .int .i64 (getI S0 0 - sumI S0)] = some (.undef, [some (.data (iL (balL S0)))]) := fun call => e_stO (call := call) (H := [some (.data (iL S0))]) (id := 0) (l := S0) (i := 0) (v := getI S0 0 - sumI S0) rfl hS0
  have e32' := e32 [some (.data (iL S0))] rfl
  have hinS : InR B.length 1048576 (balL S0) := ⟨hbl2, fun v hv => by
    obtain ⟨k, hk, e⟩ := List.getElem_of_mem hv
    have := hSB k (by omega)
    rw [getI_nat] at this
    have h2 : (balL S0).getD k 0 = v := by simp [List.getD, hk, e]
    rw [h2] at this
    omega⟩
  have e30 := c30p (id := 0) iB (by omega) (by omega) hbl2 h1 hinS hSS (m := M) (by omega) (by omega) (H := [some (.data (iL (balL S0)))]) rfl
  obtain ⟨ho1, ho2⟩ := ordS_spec h1 hSS
  have hotr : ordS B (balL S0) < 9223372036854775808 := by
    have h2 := trN_le h1
    have h3 := Int.le_of_dvd (by omega) (ordS_tr h1 hSS)
    omega
  have hred := mulL_red h1 hSS
  have mk := fun call H => @e_mkI call H B.length (by unfold most; omega)
  have e20 := fun (k : Nat) (hk : k ≤ 40) => c20p (id := 2) iB h1 (s := mulL (k : Int) (balL S0) B.length) ⟨mulL_len _ _ _, fun v hv => by
    obtain ⟨j, hj, e⟩ := List.getElem_of_mem hv
    rw [mulL_len] at hj
    have h3 := mulL_get (k := (k : Int)) (s := balL S0) hj
    have h4 := hSB j hj
    have h5 : gf (mulL (k : Int) (balL S0) B.length) j = v := by
      show getI _ (j : Int) = v
      rw [getI_nat]; simp [List.getD, mulL_len, hj, e]
    rw [← h5, h3]
    have e6 : gf (balL S0) j = getI (balL S0) (j : Int) := rfl
    rw [e6]
    have h6 : (k : Int) * getI (balL S0) (j : Int) ≤ k * 11000 := Int.mul_le_mul_of_nonneg_left (by omega) (by omega)
    have h7 : (k : Int) * (-11000) ≤ k * getI (balL S0) (j : Int) := Int.mul_le_mul_of_nonneg_left (by omega) (by omega)
    omega⟩ (m := M) (by omega) (H := [some (.data (iL (balL S0))), some (.data (iL (zer B.length))), some (.data (iL (mulL (k : Int) (balL S0) B.length)))]) rfl
  have hzl : (zer B.length).length = B.length := by simp [zer]
  have e22 := fun (k : Nat) H h => c22p (id := 1) (m := M) (H := H) (rd_isL (redL_len B (mulL (k : Int) (balL S0) B.length) 0)) (by rw [redL_len]; omega) hzl (by omega) h
  have h25 := fun H => awakeN (m := M) (by omega) H
  have hzz : List.replicate B.length (0 : Int) = zer B.length := rfl
  have lB := fun H => p_lenLL (H := H) iB
  have bl1 : ∀ call H (a : Int), evE call H (.bldS true true 1 1 [.int .i64 0] [(0, 1)]) [.int .i64 a] = some (.rd 1 1 (iL [a]), H) := fun call H a => rfl
  have ap0 : ∀ call (a : Int), evE call [some (.data (iL (balL S0))), some (.data (iL (zer B.length)))] (.app false 1 8) [.nilS, .rd 1 1 (iL [a])] = some (.sl 2 1 0 1, [some (.data (iL (balL S0))), some (.data (iL (zer B.length))), some (.data (iL [a]))]) := fun call a => e_app_nil rfl (by decide) (by decide)
  have ap1 : ∀ call (L : List Int) (i : Nat) (a : Int), L.length = i → i ≤ 10 → evE call [some (.data (iL (balL S0))), some (.data (iL (zer B.length))), some (.data (iL L))] (.app false 1 8) [.sl 2 1 0 i, .rd 1 1 (iL [a])] = some (.sl 3 1 0 (i + 1), [some (.data (iL (balL S0))), some (.data (iL (zer B.length))), none, some (.data (iL (L ++ [a])))]) := fun call L i a h1 h2 => by
    have := e_app_sl (call := call) (q := 8) (id := 2) (H := [some (.data (iL (balL S0))), some (.data (iL (zer B.length))), some (.data (iL L))]) (cs := iL L) (bs := iL [a]) (n := 1) (k := i) rfl (by rw [iL_len]; exact h1) (by decide) (by unfold most; omega)
    rw [this]
    simp [iL]
  have hmul := fun (k i : Nat) (hk : k ≤ 40) (hi : i < B.length) => (show -9223372036854775808 ≤ (k : Int) * getI (balL S0) (i : Int) ∧ (k : Int) * getI (balL S0) (i : Int) < 9223372036854775808 by
    have h4 := hSB i hi
    have h6 : (k : Int) * getI (balL S0) (i : Int) ≤ k * 11000 := Int.mul_le_mul_of_nonneg_left (by omega) (by omega)
    have h7 : (k : Int) * (-11000) ≤ k * getI (balL S0) (i : Int) := Int.mul_le_mul_of_nonneg_left (by omega) (by omega)
    omega)
  have ldS := fun (i : Nat) (hi : i < B.length) H h => p_ldO (H := H) (id := 0) (l := balL S0) (i := i) h (by omega)
  have hm1 := fun (k : Int) (i : Nat) => mulL_succ k (balL S0) i
  have hml := fun (k : Int) (i : Nat) => mulL_len k (balL S0) i
  clear e32 hinS hsum ho2 h1 hSS hSB hbal hSb hM1
  refine f_enter rfl rfl ?_
  generalize evF tab it M = call at *
  generalize hvB : fzLL B = vB at *
  generalize ordS B (balL S0) = o at *
  generalize balL S0 = S at *
  repeat' first
 | (apply s_mov; (focus ((conv => lhs; whnf); done)))
 | (apply s_gT; exact rfl)
 | (apply c_nil)
 | (apply s_pickF; exact rfl; (focus ((conv => lhs; whnf); done)))
 | ((first | apply s_lss | apply s_leq | apply s_gtr | apply s_geq | apply s_eql | apply s_neq); exact rfl; all_goals (intro _; try (exfalso; omega)))
 | ((first | apply s_add | apply s_sub); exact rfl; omega)
 | (apply s_cn; (focus (repeat (first | apply opds_nil | (apply opds_cons; (first | (focus ((conv => lhs; whnf); done)) | exact rfl))))); exact e34 _)
 | (apply s_en; (focus (repeat (first | apply opds_nil | (apply opds_cons; (first | (focus ((conv => lhs; whnf); done)) | exact rfl))))); exact e36 _)
 | (apply s_cn; (focus (repeat (first | apply opds_nil | (apply opds_cons; (first | (focus ((conv => lhs; whnf); done)) | exact rfl))))); exact e32')
 | (apply s_pn; (focus (repeat (first | apply opds_nil | (apply opds_cons; (first | (focus ((conv => lhs; whnf); done)) | exact rfl))))); exact ix0 _)
 | (apply s_pn; (focus (repeat (first | apply opds_nil | (apply opds_cons; (first | (focus ((conv => lhs; whnf); done)) | exact rfl))))); exact ld0)
 | (apply s_st; (focus (repeat (first | apply opds_nil | (apply opds_cons; (first | (focus ((conv => lhs; whnf); done)) | exact rfl))))); exact st0 _)
 | (apply s_cn; (focus (repeat (first | apply opds_nil | (apply opds_cons; (first | (focus ((conv => lhs; whnf); done)) | exact rfl))))); exact e30)
 | (apply s_pn; (focus (repeat (first | apply opds_nil | (apply opds_cons; (first | (focus ((conv => lhs; whnf); done)) | exact rfl))))); exact lB _)
 | (apply s_en; (focus (repeat (first | apply opds_nil | (apply opds_cons; (first | (focus ((conv => lhs; whnf); done)) | exact rfl))))); exact mk _ _)
 | (apply s_pd; (focus ((conv => lhs; whnf); done)))
 | (apply c_seq)
 | (apply c_reg)
 | (apply c_block)
 | (apply c_skip)
 | (apply c_condF; exact rfl)
 | (with_reducible apply k_c)
  all_goals try (exfalso; omega)
  clear e34 e36 e32' ld0 st0 e30
  have gc1 : ∀ (k : Int) (U V : List AV), gc 0 [vB, .sl 0 1 0 B.length, .int .i64 (o : Int), .sl 1 1 0 B.length, .int .i64 k] [some (.data U), some (.data V)] = some ([vB, .sl 0 1 0 B.length, .int .i64 (o : Int), .sl 1 1 0 B.length, .int .i64 k], [some (.data U), some (.data V)]) := fun k U V => by simp [go_sem, fB]
  have gc1' : ∀ (k : Int) (U V W : List AV), gc 0 [vB, .sl 0 1 0 B.length, .int .i64 (o : Int), .sl 1 1 0 B.length, .int .i64 k] [some (.data U), some (.data V), some (.data W)] = some ([vB, .sl 0 1 0 B.length, .int .i64 (o : Int), .sl 1 1 0 B.length, .int .i64 k], [some (.data U), some (.data V)]) := fun k U V W => by simp [go_sem, fB]
  have gc2 : ∀ (k i : Int) (U V : List AV), gc 0 [vB, .sl 0 1 0 B.length, .int .i64 (o : Int), .sl 1 1 0 B.length, .int .i64 k, .nilS, .int .i64 i] [some (.data U), some (.data V)] = some ([vB, .sl 0 1 0 B.length, .int .i64 (o : Int), .sl 1 1 0 B.length, .int .i64 k, .nilS, .int .i64 i], [some (.data U), some (.data V)]) := fun k i U V => by simp [go_sem, fB]
  have gc3 : ∀ (k i : Int) (n : Nat) (U V W : List AV), gc 0 [vB, .sl 0 1 0 B.length, .int .i64 (o : Int), .sl 1 1 0 B.length, .int .i64 k, .sl 2 1 0 n, .int .i64 i] [some (.data U), some (.data V), some (.data W)] = some ([vB, .sl 0 1 0 B.length, .int .i64 (o : Int), .sl 1 1 0 B.length, .int .i64 k, .sl 2 1 0 n, .int .i64 i], [some (.data U), some (.data V), some (.data W)]) := fun k i n U V W => by simp [go_sem, fB]
  have gc3' : ∀ (k i : Int) (n : Nat) (U V W : List AV), gc 0 [vB, .sl 0 1 0 B.length, .int .i64 (o : Int), .sl 1 1 0 B.length, .int .i64 k, .sl 3 1 0 n, .int .i64 i] [some (.data U), some (.data V), none, some (.data W)] = some ([vB, .sl 0 1 0 B.length, .int .i64 (o : Int), .sl 1 1 0 B.length, .int .i64 k, .sl 2 1 0 n, .int .i64 i], [some (.data U), some (.data V), some (.data W)]) := fun k i n U V W => by simp [go_sem, fB]
  have gc4 : ∀ (k : Int) (n : Nat) (U V W : List AV), gc 0 [vB, .sl 0 1 0 B.length, .int .i64 (o : Int), .sl 1 1 0 B.length, .int .i64 k, .sl 2 1 0 n] [some (.data U), some (.data V), some (.data W)] = some ([vB, .sl 0 1 0 B.length, .int .i64 (o : Int), .sl 1 1 0 B.length, .int .i64 k, .sl 2 1 0 n], [some (.data U), some (.data V), some (.data W)]) := fun k n U V W => by simp [go_sem, fB]
  refine c_loop ?_
  refine loop_gc (σ := Nat) (fun k => [vB, .sl 0 1 0 B.length, .int .i64 (o : Int), .sl 1 1 0 B.length, .int .i64 (k : Int)]) (fun _ => [some (.data (iL S)), some (.data (iL (zer B.length)))]) (fun k => k ≤ 41) (fun k => 41 - k) ?_ _ 1 _ _ (by omega) (by omega) (gc1 _ _ _)
  intro k hk K hKl
  by_cases hk40 : k ≤ 40
  · have hK1 := hKl (k + 1)
    have e20k := e20 k hk40
    have e22k := e22 k [some (.data (iL S)), some (.data (iL (zer B.length))), some (.data (iL (mulL (k : Int) S B.length)))] rfl
    have hredk := hred (k : Int)
    have hmulk := fun i hi => hmul k i hk40 hi
    clear hKl e20 e22 hred hmul
    repeat' first
 | (apply s_mov; (focus ((conv => lhs; whnf); done)))
 | (apply c_nil)
 | ((first | apply s_lss | apply s_leq | apply s_gtr | apply s_geq | apply s_eql | apply s_neq); exact rfl; all_goals (intro _; try (exfalso; omega)))
 | (apply c_seq)
 | (apply c_reg)
 | (apply c_block)
 | (apply c_skip)
 | (apply c_condT; exact rfl)
 | (with_reducible apply k_c)
    all_goals try (exfalso; omega)
    refine c_loop ?_
    refine loop_gc (σ := Nat) (fun i => [vB, .sl 0 1 0 B.length, .int .i64 (o : Int), .sl 1 1 0 B.length, .int .i64 (k : Int), if i = 0 then .nilS else .sl 2 1 0 i, .int .i64 (i : Int)]) (fun i => if i = 0 then [some (.data (iL S)), some (.data (iL (zer B.length)))] else [some (.data (iL S)), some (.data (iL (zer B.length))), some (.data (iL (mulL (k : Int) S i)))]) (fun i => i ≤ B.length) (fun i => B.length - i) ?_ _ 0 _ _ (by omega) (by omega) (by rw [if_pos rfl, if_pos rfl]; exact gc2 _ _ _ _)
    intro i hi K2 hK2
    by_cases hin : i < B.length
    · have hK3 := hK2 (i + 1)
      rw [if_neg (by omega), if_neg (by omega), hm1] at hK3
      have hmi := hmulk i hin
      have hli := hml (k : Int) i
      have apI := fun call a => ap1 call (mulL (k : Int) S i) i a hli (by omega)
      clear hK2 hredk e22k e20k hK1
      by_cases h0 : i = 0
      · subst h0
        rw [if_pos rfl, if_pos rfl]
        have ld := ldS 0 hin [some (.data (iL S)), some (.data (iL (zer B.length)))] rfl
        have e0 : mulL (k : Int) S 0 = [] := rfl
        rw [e0] at hK3
        repeat' first
 | (apply s_mov; (focus ((conv => lhs; whnf); done)))
 | (apply c_nil)
 | ((first | apply s_lss | apply s_leq | apply s_gtr | apply s_geq | apply s_eql | apply s_neq); exact rfl; all_goals (intro _; try (exfalso; omega)))
 | ((first | apply s_add | apply s_sub); exact rfl; omega)
 | (apply s_pn; (focus (repeat (first | apply opds_nil | (apply opds_cons; (first | (focus ((conv => lhs; whnf); done)) | exact rfl))))); exact p_ixO hin)
 | (apply s_pn; (focus (repeat (first | apply opds_nil | (apply opds_cons; (first | (focus ((conv => lhs; whnf); done)) | exact rfl))))); exact ld)
 | (apply s_mul; exact rfl; exact hmi)
 | (apply s_en; (focus (repeat (first | apply opds_nil | (apply opds_cons; (first | (focus ((conv => lhs; whnf); done)) | exact rfl))))); exact bl1 _ _ _)
 | (apply s_en; (focus (repeat (first | apply opds_nil | (apply opds_cons; (first | (focus ((conv => lhs; whnf); done)) | exact rfl))))); exact ap0 _ _)
 | (apply s_lenSl; exact rfl)
 | (apply c_seq)
 | (apply c_reg)
 | (apply c_block)
 | (apply c_skip)
 | (apply c_condT; exact rfl)
 | (with_reducible apply k_c)
        all_goals try (exfalso; omega)
        refine hK3 _ _ (by omega) (by omega) ?_
        exact gc3 _ _ _ _ _ _
      · rw [if_neg h0, if_neg h0]
        have ld := ldS i hin [some (.data (iL S)), some (.data (iL (zer B.length))), some (.data (iL (mulL (k : Int) S i)))] rfl
        repeat' first
 | (apply s_mov; (focus ((conv => lhs; whnf); done)))
 | (apply c_nil)
 | ((first | apply s_lss | apply s_leq | apply s_gtr | apply s_geq | apply s_eql | apply s_neq); exact rfl; all_goals (intro _; try (exfalso; omega)))
 | ((first | apply s_add | apply s_sub); exact rfl; omega)
 | (apply s_pn; (focus (repeat (first | apply opds_nil | (apply opds_cons; (first | (focus ((conv => lhs; whnf); done)) | exact rfl))))); exact p_ixO hin)
 | (apply s_pn; (focus (repeat (first | apply opds_nil | (apply opds_cons; (first | (focus ((conv => lhs; whnf); done)) | exact rfl))))); exact ld)
 | (apply s_mul; exact rfl; exact hmi)
 | (apply s_en; (focus (repeat (first | apply opds_nil | (apply opds_cons; (first | (focus ((conv => lhs; whnf); done)) | exact rfl))))); exact bl1 _ _ _)
 | (apply s_en; (focus (repeat (first | apply opds_nil | (apply opds_cons; (first | (focus ((conv => lhs; whnf); done)) | exact rfl))))); exact apI _ _)
 | (apply s_lenSl; exact rfl)
 | (apply c_seq)
 | (apply c_reg)
 | (apply c_block)
 | (apply c_skip)
 | (apply c_condT; exact rfl)
 | (with_reducible apply k_c)
        all_goals try (exfalso; omega)
        refine hK3 _ _ (by omega) (by omega) ?_
        exact gc3' _ _ _ _ _ _
    · obtain rfl : i = B.length := by omega
      rw [if_neg (by omega), if_neg (by omega)]
      clear hK2 hmulk
      repeat' first
 | (apply s_mov; (focus ((conv => lhs; whnf); done)))
 | (apply c_nil)
 | ((first | apply s_lss | apply s_leq | apply s_gtr | apply s_geq | apply s_eql | apply s_neq); exact rfl; all_goals (intro _; try (exfalso; omega)))
 | (apply s_lenSl; exact rfl)
 | (apply c_seq)
 | (apply c_reg)
 | (apply c_exitH)
 | (apply c_condF; exact rfl)
 | (with_reducible apply k_c)
      all_goals try (exfalso; omega)
      apply c_pre
      · exact gc4 _ _ _ _ _
      by_cases hd : (o : Int) ∣ (k : Int)
      · rw [decide_eq_true (hredk.2 hd)] at e22k
        have hdm : k % o = 0 := Nat.mod_eq_zero_of_dvd (Int.natCast_dvd_natCast.1 hd)
        clear hredk
        generalize iL (redL B (mulL (k : Int) S B.length) 0) = A1 at *
        generalize iL (redT B (mulL (k : Int) S B.length) 0) = A2 at *
        repeat' first
 | (apply s_mov; (focus ((conv => lhs; whnf); done)))
 | (apply s_gT; exact rfl)
 | (apply c_nil)
 | (apply s_pickF; exact rfl; (focus ((conv => lhs; whnf); done)))
 | ((first | apply s_lss | apply s_leq | apply s_gtr | apply s_geq | apply s_eql | apply s_neq); exact rfl; all_goals (intro _; try (exfalso; omega)))
 | (apply s_cn; (focus (repeat (first | apply opds_nil | (apply opds_cons; (first | (focus ((conv => lhs; whnf); done)) | exact rfl))))); exact e20k)
 | (apply s_cn; (focus (repeat (first | apply opds_nil | (apply opds_cons; (first | (focus ((conv => lhs; whnf); done)) | exact rfl))))); exact e22k)
 | (apply s_remN; exact rfl; omega)
 | (apply s_pd; (focus ((conv => lhs; whnf); done)))
 | (apply c_seq)
 | (apply c_reg)
 | (apply c_skip)
 | (apply c_condF; exact rfl)
 | (with_reducible apply k_c)
        all_goals try (exfalso; omega)
        apply c_pre
        · exact gc1' _ _ _ _
        repeat' first
 | (apply s_mov; (focus ((conv => lhs; whnf); done)))
 | (apply c_nil)
 | ((first | apply s_add | apply s_sub); exact rfl; omega)
 | (apply c_reg)
        refine hK1 _ _ (by omega) (by omega) ?_
        exact gc1 _ _ _
      · rw [decide_eq_false (fun h => hd (hredk.1 h))] at e22k
        have hdm : k % o ≠ 0 := fun h => hd (Int.natCast_dvd_natCast.2 (Nat.dvd_of_mod_eq_zero h))
        clear hredk
        generalize iL (redL B (mulL (k : Int) S B.length) 0) = A1 at *
        generalize iL (redT B (mulL (k : Int) S B.length) 0) = A2 at *
        repeat' first
 | (apply s_mov; (focus ((conv => lhs; whnf); done)))
 | (apply s_gT; exact rfl)
 | (apply c_nil)
 | (apply s_pickF; exact rfl; (focus ((conv => lhs; whnf); done)))
 | ((first | apply s_lss | apply s_leq | apply s_gtr | apply s_geq | apply s_eql | apply s_neq); exact rfl; all_goals (intro _; try (exfalso; omega)))
 | (apply s_cn; (focus (repeat (first | apply opds_nil | (apply opds_cons; (first | (focus ((conv => lhs; whnf); done)) | exact rfl))))); exact e20k)
 | (apply s_cn; (focus (repeat (first | apply opds_nil | (apply opds_cons; (first | (focus ((conv => lhs; whnf); done)) | exact rfl))))); exact e22k)
 | (apply s_remN; exact rfl; omega)
 | (apply s_pd; (focus ((conv => lhs; whnf); done)))
 | (apply c_seq)
 | (apply c_reg)
 | (apply c_skip)
 | (apply c_condF; exact rfl)
 | (with_reducible apply k_c)
        all_goals try (exfalso; omega)
        apply c_pre
        · exact gc1' _ _ _ _
        repeat' first
 | (apply s_mov; (focus ((conv => lhs; whnf); done)))
 | (apply c_nil)
 | ((first | apply s_add | apply s_sub); exact rfl; omega)
 | (apply c_reg)
        refine hK1 _ _ (by omega) (by omega) ?_
        exact gc1 _ _ _
  · clear hKl e20 e22 hred hmul
    repeat' first
 | (apply s_mov; (focus ((conv => lhs; whnf); done)))
 | (apply c_nil)
 | ((first | apply s_lss | apply s_leq | apply s_gtr | apply s_geq | apply s_eql | apply s_neq); exact rfl; all_goals (intro _; try (exfalso; omega)))
 | (apply c_seq)
 | (apply c_reg)
 | (apply c_exitH)
 | (apply c_condF; exact rfl)
 | (apply c_preF; (focus (repeat (first | apply looks_nil | (apply looks_cons; (focus ((conv => lhs; whnf); done)))))); (focus (simp [idFreeL, AV.idFree, *]; done)))
 | (with_reducible apply k_c)
    all_goals try (exfalso; omega)
    repeat' first
 | (apply s_mov; (focus ((conv => lhs; whnf); done)))
 | (apply c_nil)
 | (apply s_cn; (focus (repeat (first | apply opds_nil | (apply opds_cons; (first | (focus ((conv => lhs; whnf); done)) | exact rfl))))); exact h25 _)
 | (apply c_ret)
 | (with_reducible apply k_c)
    exact fin_t (by (conv => lhs; whnf)) (by rfl) rfl
end Go.AM.Ch
