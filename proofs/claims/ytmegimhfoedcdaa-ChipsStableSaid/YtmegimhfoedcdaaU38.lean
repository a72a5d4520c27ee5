/- A part of the proof: U38. -/
import Derived.Test.YtmegimhfoedcdaaU37
set_option linter.unusedSectionVars false
set_option linter.unusedVariables false
set_option linter.unusedSimpArgs false
namespace Go.AM.Ch
attribute [local go_sem] gc subHeap reach_skip ren_free reach_new reach_newp reach_end rangeL roots boxCells nodupB posOf renL AV.ren pickO renH renO looks look bindEnv envOf reach_int reach_bool reach_nilS reach_rd putRow cells_sl cells_int cells_bool cells_nilS cells_rd cells_agg reach_agg reach_tup idFreeL idf_sl idf_ptr idf_int idf_bool idf_nilS idf_rd reach_fn reach_mp cells_fn cells_ptr cells_mp idf_mp idf_fn idf_agg idf_tup
set_option maxHeartbeats 8000000
theorem frz_slB {H : Heap} {k id n : Nat} {l : List Bool} (h : H.data? id = some (bL l)) (hl : l.length = n) : frzV H (k + 1) (.sl id 1 0 n) = some (.rd 1 n (bL l)) := by
  have := bL_len l
  subst hl
  simp [frzV_sl, h, this, List.take_of_length_le]
theorem c99 {x y : AV} {b : List (List Int)} {l : List Int} {q : Nat} (hx : IsLL x b) (hy : IsL y l) (hB : IsB b) (hq : q < b.length) (hln : l.length = b.length) {m : Nat} (hm : 300 ≤ m) (H : Heap) :
    callPure (evF tab it m) true 99 [x, y, .int .i64 (q : Int)] H = some (.tup [.rd 1 b.length (bL (leftB b.length (burnL b l q))), .rd 1 (burnL b l q).length (iL (nI (burnL b l q)))], H) :=
  callPure_frz (by simp [idFreeL, AV.idFree, hx.free, hy.free]) (by simp) (f99 hx hy hB hq hln hm) (frzV_tup rfl (frzL_cons (frz_slB rfl (leftB_len _ _)) (frzL_cons (frz_sl rfl (nI_len _)) frzL_nil)))
theorem c105o {x y : AV} {b : List (List Int)} {l : List Int} {q : Nat} (hx : IsLL x b) (hy : IsL y l) (hB : IsB b) (hq : q < b.length) (hl : Near b.length q l) {m : Nat} (hm : 2200 ≤ m) (H : Heap) :
    callPure (evF tab it m) false 105 [x, y, .int .i64 (q : Int)] H = some (.sl H.length 1 0 b.length, H ++ [some (.data (iL (payL b l q)))]) := by
  have ff : idFreeL [x, y, .int .i64 (q : Int)] = true := by simp [idFreeL, AV.idFree, hx.free, hy.free]
  simp [callPure, frzL_free H 40 [x, y, .int .i64 (q : Int)] (by simp) ff, f105 hx hy hB hq hl hm, ff, shiftH, AV.ren, renH, renO]
theorem payL_ok {b : List (List Int)} {l : List Int} {q : Nat} (hB : IsB b) (hq : q < b.length) (hl : Near b.length q l) : (∀ v, v < b.length → v ≠ q → 0 ≤ ap b.length (ed b) (gf l) (gf (payL b l q)) v) ∧ ∀ v, v < b.length → 0 ≤ gf (payL b l q) v ∧ gf (payL b l q) v ≤ 2732094289936000 := by
  have g := gr_of hB
  have hd := dist_dst hB hq
  have hn1 := hB.n1; have hn2 := hB.n2
  have hmx := (maxTo_le (dist b q).1 b.length (b.length - 1)).2 fun j hj => hd.le j (by omega)
  have hmxa : ∀ v : Nat, v < b.length → getI (dist b q).1 (v : Int) ≤ maxTo (dist b q).1 (b.length - 1) := fun v hv => (maxTo_le (dist b q).1 (maxTo (dist b q).1 (b.length - 1)) (b.length - 1)).1 (Int.le_refl _) v (by omega)
  have h0 : PayOk b.length (ed b) (gf (dist b q).1) (gf l) (maxTo (dist b q).1 (b.length - 1)).toNat (payB b.length 100 0) (fun _ => 0) := ⟨fun v hv h => by have := hmxa v hv; have h3 : gf (dist b q).1 v = getI (dist b q).1 (v : Int) := rfl; omega, fun v hv => by simp [payB]⟩
  have h1 := payF_ok g hd (M := 100) (by omega) (fun v hv hvq => (hl.oth v hv hvq).1) _ 0 _ h0
  have hb := payB_bound hn2 (M := 100) (by omega) (k := 0 + (maxTo (dist b q).1 (b.length - 1)).toNat) (by omega)
  have hg : ∀ j, j < b.length → payF b.length (ed b) (gf (dist b q).1) (gf l) (maxTo (dist b q).1 (b.length - 1)).toNat (fun _ => 0) j = gf (payL b l q) j := fun j hj => (payL_get hj).symm
  have h2 := h1.congr hg
  refine ⟨fun v hv hvq => h2.paid v hv (by have := hd.pos v hv hvq; omega), fun v hv => ?_⟩
  have := h2.nn v hv
  omega
/-- fuel enough for any list with small numbers -/
theorem smK_ex : ∃ K : Nat, 100000000000000000000000000000000000 ≤ K := ⟨_, Nat.le_refl _⟩
noncomputable def smK : Nat := Classical.choose smK_ex
theorem smK_le : 100000000000000000000000000000000000 ≤ smK := Classical.choose_spec smK_ex
theorem smK_big : 100000 ≤ smK := Nat.le_trans (by decide) smK_le
attribute [irreducible] smK
theorem pot_small {b : List (List Int)} {l : List Int} {q : Nat} (hB : IsB b) (hq : q < b.length) (hl : Near b.length q l) {t : List Int} (ht : ∀ v, v < b.length → 0 ≤ gf t v ∧ gf t v ≤ 2732094289940000) (hn : ∀ v, v < b.length → v ≠ q → 0 ≤ ap b.length (ed b) (gf l) (gf t) v) :
    (pot b.length (gf (dist b q).1) (ap b.length (ed b) (gf l) (gf t))).toNat + 1 < smK := by
  have g := gr_of hB
  have hd := dist_dst hB hq
  have hn2 := hB.n2
  have hpw : (40 : Int) ^ b.length ≤ 10485760000000000 := by
    have := pow_le40 hn2
    have e : (40 : Int) ^ 10 = 10485760000000000 := by decide
    omega
  have hle := sumTo_le (f := fun i => wgt b.length (gf (dist b q).1) i * ap b.length (ed b) (gf l) (gf t) i) (M := 10485760000000000 * 100000000000000000) (n := b.length) fun v hv => by
    have h1 := ap_low g (l := gf l) ht (by omega) hv
    have h2 := hl.all v hv
    have h3 : (2732094289940000 : Int) * ((b.length : Int) * 3) ≤ 2732094289940000 * (10 * 3) := Int.mul_le_mul_of_nonneg_left (by omega) (by omega)
    have h4 : gf l v = getI l (v : Int) := rfl
    have w0 := wgt_nn hd v
    have w1 : wgt b.length (gf (dist b q).1) v ≤ 10485760000000000 := by
      unfold wgt
      have := pow_pos40 (b.length - (gf (dist b q).1 v).toNat)
      omega
    try dsimp only
    by_cases hvq : v = q
    · subst hvq
      rw [wgt_zero hd, Int.zero_mul]
      omega
    · have h5 := hn v hv hvq
      have h6 : wgt b.length (gf (dist b q).1) v * ap b.length (ed b) (gf l) (gf t) v ≤ 10485760000000000 * 100000000000000000 := Int.mul_le_mul w1 (by omega) h5 (by omega)
      have h7 := Int.mul_nonneg w0 h5
      omega
  have hsk := smK_le
  generalize smK = K at *
  unfold pot
  have : (b.length : Int) * (10485760000000000 * 100000000000000000) ≤ 10 * (10485760000000000 * 100000000000000000) := Int.mul_le_mul_of_nonneg_right (by omega) (by omega)
  omega
/-- small -/
theorem f81 {x y : AV} {b : List (List Int)} {l : List Int} {q : Nat} (hx : IsLL x b) (hy : IsL y l) (hB : IsB b) (hq : q < b.length) (hl : Near b.length q l) {m : Nat} (hm : smK ≤ m) :
    evF tab it m 81 [x, y, .int .i64 (q : Int)] [] = some (.sl 0 1 0 b.length, [some (.data (iL (redT b l q)))]) := by
  obtain ⟨m, rfl⟩ : ∃ j, m = j + 1 := ⟨m - 1, by have := smK_big; omega⟩
  have fx := hx.free; have fy := hy.free
  have hn1 := hB.n1; have hn2 := hB.n2
  have hbd := hB.bd
  have g := gr_of hB
  have hd := dist_dst hB hq
  have hln := hl.len
  have lx : ∀ H, evP H .len [x] = some (.int .i64 ((b.length : Nat) : Int)) := fun H => by cases hx <;> rfl
  have hm2 : 2299 ≤ m := by have := smK_big; omega
  have e105 := fun H => c105o hx hy hB hq hl (m := m) (by omega) H
  have hpl := payL_len b l q
  obtain ⟨hp1, hp2⟩ := payL_ok hB hq hl
  have hps := pot_small hB hq hl (t := payL b l q) (fun v hv => by have := hp2 v hv; omega) hp1
  have hpq := hp2 q hq
  refine f_enter rfl rfl ?_
  have e55 := fun (t : List Int) (ht : t.length = b.length) h1 (H : Heap) (ha : frzL H 40 [x, y, .sl 0 1 0 b.length] = some [x, y, .rd 1 b.length (iL t)]) => c55p hx hy (rd_isL ht) hbd hln ht h1 (fun v hv => by have := hl.all v hv; omega) (m := m) (by omega) H ha
  have e99 := fun (t : List Int) (H : Heap) => c99 (q := q) hx (rd_isL (apl_len b l t)) hB hq (apl_len b l t) (m := m) (by omega) H
  generalize hcall : evF tab it m = call at *
  generalize hPL : payL b l q = PL at *
  generalize hRR : redT b l q = R at *
  have gcO : ∀ (C : List AV), gc 0 [x, y, .int .i64 (q : Int), .sl 0 1 0 b.length] [some (.data C)] = some ([x, y, .int .i64 (q : Int), .sl 0 1 0 b.length], [some (.data C)]) := fun C => by simp [go_sem, fx, fy]
  have gcV : ∀ (L : List Bool) (v : Nat) (C : List AV), gc 0 [x, y, .int .i64 (q : Int), .sl 0 1 0 b.length, .rd 1 b.length (bL L), .int .i64 ((b.length : Nat) : Int), .int .i64 (v : Int)] [some (.data C)] = some ([x, y, .int .i64 (q : Int), .sl 0 1 0 b.length, .rd 1 b.length (bL L), .int .i64 ((b.length : Nat) : Int), .int .i64 (v : Int)], [some (.data C)]) := fun L v C => by simp [go_sem, fx, fy]
  have gcB : ∀ (a : Int) (v : Nat) (C : List AV), gc 0 [.sl 0 1 0 b.length, .int .i64 a, .int .i64 ((b.length : Nat) : Int), .int .i64 (v : Int)] [some (.data C)] = some ([.sl 0 1 0 b.length, .int .i64 a, .int .i64 ((b.length : Nat) : Int), .int .i64 (v : Int)], [some (.data C)]) := fun a v C => by simp [go_sem]
  skip
  repeat' first
 | (apply s_mov; (focus ((conv => lhs; whnf); done)))
 | (apply c_nil)
 | (apply s_en; (focus (repeat (first | apply opds_nil | (apply opds_cons; (first | (focus ((conv => lhs; whnf); done)) | exact rfl))))); exact e105 _)
 | (apply c_seq)
 | (apply c_reg)
 | (apply c_block)
 | (with_reducible apply k_c)
  refine c_loop ?_
  refine loop_gc (σ := List Int) (fun _ => [x, y, .int .i64 (q : Int), .sl 0 1 0 b.length]) (fun t => [some (.data (iL t))]) (fun t => t.length = b.length ∧ (∀ v, v < b.length → v ≠ q → 0 ≤ ap b.length (ed b) (gf l) (gf t) v) ∧ (∀ v, v < b.length → 0 ≤ gf t v) ∧ gf t q = gf PL q) (fun t => (pot b.length (gf (dist b q).1) (ap b.length (ed b) (gf l) (gf t))).toNat) ?_ _ PL _ _ ⟨hpl, hp1, fun v hv => (hp2 v hv).1, rfl⟩ (by omega) (gcO _)
  intro t ⟨htl, hnn, ht0, htq⟩ K hK
  clear hps hm
  have htb : ∀ v, v < b.length → 0 ≤ gf t v ∧ gf t v ≤ 2732094289946000 := fun v hv => by
    have h1 := upper_le g hd (t := gf t) (B := 100) (by omega) (fun w hw hwq => by
      have := hnn w hw hwq
      have h2 := (hl.oth w hw hwq).2
      have h3 : gf l w = getI l (w : Int) := rfl
      unfold ap at this
      omega) b.length v hv (hd.le v hv)
    have h2 : (b.length : Int) * (b.length * 100) ≤ 10 * (10 * 100) := Int.mul_le_mul (by omega) (by omega) (by omega) (by omega)
    have := ht0 v hv
    omega
  have e55' := e55 t htl (fun v hv => by have := htb v hv; have h3 : gf t v = getI t (v : Int) := rfl; omega) [some (.data (iL t))] (frzL_cons (frzV_of fx) (frzL_cons (frzV_of fy) (frzL_cons (frz_sl rfl htl) frzL_nil)))
  have e99' := e99 t
  have hAg : ∀ v, v < b.length → gf (apl b l t) v = ap b.length (ed b) (gf l) (gf t) v := fun v hv => apl_ap hB l t hv
  have hAl := apl_len b l t
  have hleg := burn_leg (b := b) (l := apl b l t) hq
  have hred := burn_red hB (l := apl b l t) hq (fun v hv hvq => by rw [hAg v hv]; exact hnn v hv hvq)
  obtain ⟨hbo, -⟩ := burnL_ok (b := b) (l := apl b l t) hq
  have hbl := hbo.len
  generalize hA : apl b l t = A at *
  generalize hOO : burnL b A q = ord at *
  have lo : ∀ H, evP H .len [AV.rd 1 ord.length (iL (nI ord))] = some (.int .i64 ((ord.length : Nat) : Int)) := fun H => rfl
  have ll : ∀ H, evP H .len [AV.rd 1 b.length (bL (leftB b.length ord))] = some (.int .i64 ((b.length : Nat) : Int)) := fun H => rfl
  repeat' first
 | (apply s_mov; (focus ((conv => lhs; whnf); done)))
 | (apply c_nil)
 | ((first | apply s_lss | apply s_leq | apply s_gtr | apply s_geq | apply s_eql | apply s_neq); exact rfl; all_goals (intro _; try (exfalso; omega)))
 | (apply s_cn; (focus (repeat (first | apply opds_nil | (apply opds_cons; (first | (focus ((conv => lhs; whnf); done)) | exact rfl))))); exact e55')
 | (apply s_cn; (focus (repeat (first | apply opds_nil | (apply opds_cons; (first | (focus ((conv => lhs; whnf); done)) | exact rfl))))); exact e99' _)
 | (apply s_pn; (focus (repeat (first | apply opds_nil | (apply opds_cons; (first | (focus ((conv => lhs; whnf); done)) | exact rfl))))); exact lx _)
 | (apply s_pn; (focus (repeat (first | apply opds_nil | (apply opds_cons; (first | (focus ((conv => lhs; whnf); done)) | exact rfl))))); exact lo _)
 | (apply s_pn; (focus (repeat (first | apply opds_nil | (apply opds_cons; (first | (focus ((conv => lhs; whnf); done)) | exact rfl))))); exact ll _)
 | (apply s_pd; (focus ((conv => lhs; whnf); done)))
 | (apply c_seq)
 | (apply c_reg)
 | (apply c_block)
 | (apply c_exitH)
 | (apply c_skip)
 | (apply c_condT; exact rfl)
 | (apply c_condF; exact rfl)
 | (apply c_exitM; exact rfl)
 | (with_reducible apply k_c)
  · -- all burnt
    have hr := (hred (by omega)).congr hAg
    have htl' : ((List.range b.length).map fun j => gf t j + (- gf t q)).length = b.length := by simp
    have hgt : ∀ j, j < b.length → gf t j + (- gf t q) = gf ((List.range b.length).map fun j => gf t j + (- gf t q)) j := fun j hj => by
      show _ = getI _ (j : Int)
      rw [getI_nat]; simp [List.getD, hj]
    have hRt : ((List.range b.length).map fun j => gf t j + (- gf t q)) = R := by
      rw [← hRR]
      refine redT_eq hB hq htl' (by rw [← hgt q hq]; omega) (hr.congr fun v hv => ?_)
      have : ap b.length (ed b) (gf l) (gf t) v = ap b.length (ed b) (gf l) (fun j => gf t j + (- gf t q)) v := by unfold ap; rw [net_add, net_const]; omega
      rw [this]
      exact ap_congr hv hgt rfl
    have hRl : R.length = b.length := by rw [← hRt]; exact htl'
    have hRg : ∀ j : Nat, j < b.length → getI R (j : Int) = getI t (j : Int) - getI t (q : Int) := fun j hj => by
      have := hgt j hj
      rw [hRt] at this
      unfold gf at this
      omega
    apply c_pre (vs := [.int .i64 (q : Int), .sl 0 1 0 b.length]) (H' := [some (.data (iL t))])
    · simp [go_sem]
    have ldq := fun H h => p_ldO (H := H) (id := 0) (l := t) (i := q) h (by omega)
    have hbq := htb q hq
    have hgq : gf t q = getI t (q : Int) := rfl
    repeat' first
 | (apply s_mov; (focus ((conv => lhs; whnf); done)))
 | (apply c_nil)
 | (apply s_pn; (focus (repeat (first | apply opds_nil | (apply opds_cons; (first | (focus ((conv => lhs; whnf); done)) | exact rfl))))); exact p_ixO hq)
 | (apply s_pn; (focus (repeat (first | apply opds_nil | (apply opds_cons; (first | (focus ((conv => lhs; whnf); done)) | exact rfl))))); exact ldq _ rfl)
 | (apply s_lenSl; exact rfl)
 | (apply c_seq)
 | (apply c_reg)
 | (apply c_block)
 | (with_reducible apply k_c)
    refine c_loop ?_
    refine loop_gc (σ := Nat × List Int) (fun p => [.sl 0 1 0 b.length, .int .i64 (getI t (q : Int)), .int .i64 ((b.length : Nat) : Int), .int .i64 (p.1 : Int)]) (fun p => [some (.data (iL p.2))]) (fun p => p.1 ≤ b.length ∧ p.2.length = b.length ∧ ∀ i : Nat, i < b.length → getI p.2 (i : Int) = if i < p.1 then getI R (i : Int) else getI t (i : Int)) (fun p => b.length - p.1) ?_ _ (0, t) _ _ ⟨by omega, htl, fun i hi => by rw [if_neg (by omega)]⟩ (by show b.length - 0 < _; omega) (gcB _ 0 _)
    intro ⟨v, t'⟩ ⟨hv, htl2, ht'⟩ K2 hK2
    dsimp only at hv htl2 ht' hK2 ⊢
    by_cases hvn : v < b.length
    · have h1 := ht' v hvn
      rw [if_neg (by omega)] at h1
      have h2 := htb v hvn
      have h3 : gf t v = getI t (v : Int) := rfl
      have ld := fun H h => p_ldO (H := H) (id := 0) (l := t') (i := v) h (by omega)
      have st := fun (vv : Int) call H h => e_stO (call := call) (H := H) (id := 0) (l := t') (i := v) (v := vv) h (by omega)
      repeat' first
 | (apply s_mov; (focus ((conv => lhs; whnf); done)))
 | (apply c_nil)
 | ((first | apply s_lss | apply s_leq | apply s_gtr | apply s_geq | apply s_eql | apply s_neq); exact rfl; all_goals (intro _; try (exfalso; omega)))
 | ((first | apply s_add | apply s_sub); exact rfl; omega)
 | (apply s_pn; (focus (repeat (first | apply opds_nil | (apply opds_cons; (first | (focus ((conv => lhs; whnf); done)) | exact rfl))))); exact p_ixO hvn)
 | (apply s_pn; (focus (repeat (first | apply opds_nil | (apply opds_cons; (first | (focus ((conv => lhs; whnf); done)) | exact rfl))))); exact ld _ rfl)
 | (apply s_st; (focus (repeat (first | apply opds_nil | (apply opds_cons; (first | (focus ((conv => lhs; whnf); done)) | exact rfl))))); exact st _ _ _ rfl)
 | (apply c_seq)
 | (apply c_reg)
 | (apply c_block)
 | (apply c_skip)
 | (apply c_condT; exact rfl)
 | (with_reducible apply k_c)
      refine hK2 (v + 1, _) _ _ ⟨by omega, by simpa using htl2, fun i hi => ?_⟩ (by show b.length - (v + 1) < _; omega) (gcB _ (v + 1) _)
      dsimp only
      rw [getI_set (by omega)]
      by_cases e : i = v
      · subst e; rw [if_pos rfl, if_pos (by omega), hRg i hi, h1]
      · rw [if_neg e, ht' i hi]
        by_cases e2 : i < v
        · rw [if_pos e2, if_pos (by omega)]
        · rw [if_neg e2, if_neg (by omega)]
    · obtain rfl : v = b.length := by omega
      obtain rfl : t' = R := ext_getI (by omega) fun i hi => by rw [ht' i (by omega), if_pos (by omega)]
      repeat' first
 | (apply c_nil)
 | ((first | apply s_lss | apply s_leq | apply s_gtr | apply s_geq | apply s_eql | apply s_neq); exact rfl; all_goals (intro _; try (exfalso; omega)))
 | (apply c_seq)
 | (apply c_reg)
 | (apply c_exitH)
 | (apply c_condF; exact rfl)
 | (with_reducible apply k_c)
      apply c_pre (vs := [.sl 0 1 0 b.length]) (H' := [some (.data (iL t'))])
      · simp [go_sem]
      repeat' first
 | (apply s_mov; (focus ((conv => lhs; whnf); done)))
 | (apply c_nil)
 | (apply c_seq)
 | (apply c_reg)
 | (apply c_ret)
 | (with_reducible apply k_c)
      simp [finish, ress, resOf, look, tupOf, go_sem]
  · -- what is left fires
    refine c_loop ?_
    refine loop_gc (σ := Nat × List Int) (fun p => [x, y, .int .i64 (q : Int), .sl 0 1 0 b.length, .rd 1 b.length (bL (leftB b.length ord)), .int .i64 ((b.length : Nat) : Int), .int .i64 (p.1 : Int)]) (fun p => [some (.data (iL p.2))]) (fun p => p.1 ≤ b.length ∧ p.2.length = b.length ∧ ∀ i : Nat, i < b.length → getI p.2 (i : Int) = if i < p.1 then getI t (i : Int) + ind (fun u => !ord.contains u) i else getI t (i : Int)) (fun p => b.length - p.1) ?_ _ (0, t) _ _ ⟨by omega, htl, fun i hi => by rw [if_neg (by omega)]⟩ (by show b.length - 0 < _; omega) (gcV _ 0 _)
    intro ⟨v, t'⟩ ⟨hv, htl2, ht'⟩ K2 hK2
    dsimp only at hv htl2 ht' hK2 ⊢
    by_cases hvn : v < b.length
    · have h1 := ht' v hvn
      rw [if_neg (by omega)] at h1
      have h2 := htb v hvn
      have h3 : gf t v = getI t (v : Int) := rfl
      have hgl := leftB_get (ord := ord) hvn
      have hll := leftB_len b.length ord
      have ld := fun H h => p_ldO (H := H) (id := 0) (l := t') (i := v) h (by omega)
      have st := fun (vv : Int) call H h => e_stO (call := call) (H := H) (id := 0) (l := t') (i := v) (v := vv) h (by omega)
      repeat' first
 | (apply s_mov; (focus ((conv => lhs; whnf); done)))
 | (apply c_nil)
 | ((first | apply s_lss | apply s_leq | apply s_gtr | apply s_geq | apply s_eql | apply s_neq); exact rfl; all_goals (intro _; try (exfalso; omega)))
 | ((first | apply s_add | apply s_sub); exact rfl; omega)
 | (apply s_pn; (focus (repeat (first | apply opds_nil | (apply opds_cons; (first | (focus ((conv => lhs; whnf); done)) | exact rfl))))); exact p_ixO hvn)
 | (apply s_pn; (focus (repeat (first | apply opds_nil | (apply opds_cons; (first | (focus ((conv => lhs; whnf); done)) | exact rfl))))); exact ld _ rfl)
 | (apply s_st; (focus (repeat (first | apply opds_nil | (apply opds_cons; (first | (focus ((conv => lhs; whnf); done)) | exact rfl))))); exact st _ _ _ rfl)
 | (apply s_ldRB; exact rfl; omega; all_goals intro _)
 | (apply s_idxRB; exact rfl; exact rfl; omega)
 | (apply c_seq)
 | (apply c_reg)
 | (apply c_block)
 | (apply c_skip)
 | (apply c_condT; exact rfl)
 | (apply c_condF; exact rfl)
 | (with_reducible apply k_c)
      · rename_i hgt
        rw [hgl] at hgt
        refine hK2 (v + 1, _) _ _ ⟨by omega, by simpa using htl2, fun i hi => ?_⟩ (by show b.length - (v + 1) < _; omega) (gcV _ (v + 1) _)
        dsimp only
        rw [getI_set (by omega)]
        by_cases e : i = v
        · subst e; rw [if_pos rfl, if_pos (by omega), h1]; unfold ind; rw [if_pos hgt]
        · rw [if_neg e, ht' i hi]
          by_cases e2 : i < v
          · rw [if_pos e2, if_pos (by omega)]
          · rw [if_neg e2, if_neg (by omega)]
      · rename_i hgt
        rw [hgl] at hgt
        refine hK2 (v + 1, t') _ _ ⟨by omega, htl2, fun i hi => ?_⟩ (by show b.length - (v + 1) < _; omega) (gcV _ (v + 1) _)
        dsimp only
        rw [ht' i hi]
        by_cases e : i = v
        · subst e; rw [if_neg (by omega), if_pos (by omega)]; unfold ind; rw [if_neg (by show ¬ (!ord.contains i) = true; rw [hgt]; decide), Int.add_zero]
        · by_cases e2 : i < v
          · rw [if_pos e2, if_pos (by omega)]
          · rw [if_neg e2, if_neg (by omega)]
    · obtain rfl : v = b.length := by omega
      have hgt : ∀ j, j < b.length → gf t j + ind (fun u => !ord.contains u) j = gf t' j := fun j hj => by
        have := ht' j hj
        rw [if_pos hj] at this
        exact this.symm
      have hapA : ∀ v, v < b.length → ap b.length (ed b) (gf l) (gf t') v = ap b.length (ed b) (ap b.length (ed b) (gf l) (gf t)) (ind fun u => !ord.contains u) v := fun v hv => by
        rw [ap_ap]
        exact (ap_congr hv hgt rfl).symm
      have hleg' : Leg b.length (ed b) (ap b.length (ed b) (gf l) (gf t)) (fun u => !ord.contains u) := fun v hv hs => by rw [← hAg v hv]; exact hleg v hv hs
      have hqm : (fun u => !ord.contains u) q = false := by
        have h0 := hbo.hd
        have : q ∈ ord := List.mem_of_getElem? h0
        simp [this]
      have hex : ∃ w, w < b.length ∧ (fun u => !ord.contains u) w = true := by
        apply Classical.byContradiction
        intro hc
        have hall : ∀ w ∈ List.range b.length, w ∈ ord := fun w hw => by
          apply Classical.byContradiction
          intro hm
          exact hc ⟨w, List.mem_range.1 hw, by simp [hm]⟩
        have := nodup_len List.nodup_range hall
        rw [List.length_range] at this
        omega
      obtain ⟨w, hw, hws⟩ := hex
      have hfire := leg_fire g hleg' hnn
      have hpot := leg_pot g hd (c := ap b.length (ed b) (gf l) (gf t)) (S := fun u => !ord.contains u) hqm hw hws
      have hpe : pot b.length (gf (dist b q).1) (ap b.length (ed b) (gf l) (gf t')) = pot b.length (gf (dist b q).1) (ap b.length (ed b) (ap b.length (ed b) (gf l) (gf t)) (ind fun u => !ord.contains u)) := sumTo_congr fun i hi => by rw [hapA i hi]
      have hnn' : ∀ v, v < b.length → v ≠ q → 0 ≤ ap b.length (ed b) (gf l) (gf t') v := fun v hv hvq => by rw [hapA v hv]; exact hfire v hv hvq
      have hp0 := pot_nn hd hnn'
      repeat' first
 | (apply c_nil)
 | ((first | apply s_lss | apply s_leq | apply s_gtr | apply s_geq | apply s_eql | apply s_neq); exact rfl; all_goals (intro _; try (exfalso; omega)))
 | (apply c_seq)
 | (apply c_reg)
 | (apply c_exitH)
 | (apply c_condF; exact rfl)
 | (with_reducible apply k_c)
      refine hK t' _ _ ⟨htl2, hnn', fun v hv => ?_, ?_⟩ (by omega) (gcO _)
      · rw [← hgt v hv]
        have := ht0 v hv
        unfold ind
        split <;> omega
      · rw [← hgt q hq, ← htq]
        unfold ind
        rw [hqm]
        simp
end Go.AM.Ch
