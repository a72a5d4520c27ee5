/- A part of the proof: U28b. -/
import Derived.Test.YtmegimhfoedcdaaU28
set_option linter.unusedSectionVars false
set_option linter.unusedVariables false
set_option linter.unusedSimpArgs false
namespace Go.AM.Ch
attribute [local go_sem] gc subHeap reach_skip ren_free reach_new reach_newp reach_end rangeL roots boxCells nodupB posOf renL AV.ren pickO renH renO looks look bindEnv envOf reach_int reach_bool reach_nilS reach_rd putRow cells_sl cells_int cells_bool cells_nilS cells_rd cells_agg reach_agg reach_tup idFreeL idf_sl idf_ptr idf_int idf_bool idf_nilS idf_rd reach_fn reach_mp cells_fn cells_ptr cells_mp idf_mp idf_fn idf_agg idf_tup
set_option maxHeartbeats 8000000
/-- Settle -/
theorem f47 {x y : AV} {b : List (List Int)} {s : List Int} {q : Nat} (hx : IsLL x b) (hy : IsL y s) (hB : IsB b) (hs : InR b.length 1048576 s) (hq : q < b.length) (hnn : ∀ v : Nat, v < b.length → v ≠ q → 0 ≤ getI s (v : Int))
    {m : Nat} (hm : 2200 + 2 * (pot b.length (gf (dist b q).1) (gf s)).toNat ≤ m) :
    evF tab it m 47 [x, y, .int .i64 (q : Int)] [] = if oth b.length q (gf s) ≤ 500 then some (.tup [.sl 0 1 0 b.length, .sl 1 1 0 b.length, .int .i64 0], [some (.data (iL (apl b s (setT b s q)))), some (.data (iL (setT b s q)))]) else some (.tup [.nilS, .nilS, .int .i64 5], []) := by
  obtain ⟨m, rfl⟩ : ∃ j, m = j + 1 := ⟨m - 1, by omega⟩
  have fx := hx.free; have fy := hy.free
  have hn1 := hB.n1; have hn2 := hB.n2
  have hbd := hB.bd
  have g := gr_of hB
  have hd := dist_dst hB hq
  have e52 := fun H => c52 hx hy (by omega) (by rw [hs.1]; omega) (m := m) (by omega) H
  simp only [hB, hs, and_self, if_true] at e52
  have e53 := fun (a lo hi : Int) H => c53 (m := m) (by omega) a lo hi H
  have lx : ∀ H, evP H .len [x] = some (.int .i64 ((b.length : Nat) : Int)) := fun H => by cases hx <;> rfl
  have ly : ∀ H, evP H .len [y] = some (.int .i64 ((b.length : Nat) : Int)) := fun H => by rw [← hs.1]; exact p_lenI hy
  have hsv := inR_get hs
  have hsl := hs.1
  have e74 := fun (i : Nat) (hi : i < b.length) H => c74 hx hbd hi (m := m) (by omega) H
  have e76 := fun H => c76o hy (by omega) (by omega) (m := m) (by omega) H
  rw [hsl] at e76
  have mk := fun call H => @e_mkI call H b.length (by unfold most; omega)
  refine f_enter rfl rfl ?_
  have e55 := fun (args : List AV) (l t : List Int) (hl : l.length = b.length) (ht : t.length = b.length) h1 h2 (H : Heap) (ha : frzL H 40 args = some [x, .rd 1 b.length (iL l), .rd 1 b.length (iL t)]) => c55q hx (rd_isL hl) (rd_isL ht) hbd hl ht h1 h2 (m := m) (by omega) H ha
  have e77 := fun (args : List AV) (l t : List Int) (hl : l.length = b.length) (ht : t.length = b.length) h1 h2 (H : Heap) (ha : frzL H 40 args = some [.rd 1 b.length (iL l), .rd 1 b.length (iL t)]) => c77o (rd_isL hl) (rd_isL ht) (by omega) (by omega) (by omega) h1 h2 (m := m) (by omega) H ha
  generalize hcall : evF tab it m = call at *
  skip
  repeat' first
 | (apply s_mov; (focus ((conv => lhs; whnf); done)))
 | (apply s_gT; exact rfl)
 | (apply c_nil)
 | (apply s_pickF; exact rfl; (focus ((conv => lhs; whnf); done)))
 | (apply s_notT; exact rfl)
 | (apply s_notF; exact rfl)
 | ((first | apply s_lss | apply s_leq | apply s_gtr | apply s_geq | apply s_eql | apply s_neq); exact rfl; all_goals (intro _; try (exfalso; omega)))
 | ((first | apply s_add | apply s_sub); exact rfl; omega)
 | (apply s_cn; (focus (repeat (first | apply opds_nil | (apply opds_cons; (first | (focus ((conv => lhs; whnf); done)) | exact rfl))))); exact e52 _)
 | (apply isE; refine s_cB (by (focus (repeat (first | apply opds_nil | (apply opds_cons; (first | (focus ((conv => lhs; whnf); done)) | exact rfl)))))) (e53 _ _ _ _) (fun _ => ?_) (fun _ => ?_))
 | (apply s_pn; (focus (repeat (first | apply opds_nil | (apply opds_cons; (first | (focus ((conv => lhs; whnf); done)) | exact rfl))))); exact lx _)
 | (apply s_pn; (focus (repeat (first | apply opds_nil | (apply opds_cons; (first | (focus ((conv => lhs; whnf); done)) | exact rfl))))); exact ly _)
 | (apply c_seq)
 | (apply c_reg)
 | (apply c_block)
 | (apply c_skip)
 | (apply c_ret)
 | (apply c_condT; exact rfl)
 | (apply c_condF; exact rfl)
 | (with_reducible apply k_c)
  rotate_left
  · exfalso; omega
  have hbd2 := fun (i : Nat) (hi : i ≤ b.length) => sumTo_le (f := fun i => if (i : Int) = (q : Int) then 0 else gf s i) (M := 1048576) (n := i) fun j hj => by
    have := hsv j (by omega)
    unfold gf
    split <;> omega
  refine c_loop ?_
  refine loop_gc (σ := Nat) (fun i => [x, y, .int .i64 (q : Int), .int .i64 (oth i q (gf s)), y, .int .i64 ((b.length : Nat) : Int), .int .i64 (i : Int)]) (fun _ => []) (fun i => i ≤ b.length) (fun i => b.length - i) ?_ _ 0 _ _ (by omega) (by omega) (gc_to rfl (by simp [idFreeL, AV.idFree, *]; done))
  intro i hi K hK
  have hb3 := hbd2 i hi
  have hK1 := hK (i + 1)
  have e1 : oth (i + 1) q (gf s) = oth i q (gf s) + (if (i : Int) = (q : Int) then 0 else getI s (i : Int)) := rfl
  have e0 : oth i q (gf s) = sumTo (fun i => if (i : Int) = (q : Int) then 0 else gf s i) i := rfl
  rw [← e0] at hb3
  rw [e1] at hK1
  generalize hZ : oth i q (gf s) = Z at *
  by_cases hin : i < b.length
  · have h1 := hsv i hin
    by_cases hiq : i = q
    · subst hiq
      rw [if_pos rfl, Int.add_zero] at hK1
      repeat' first
 | (apply s_mov; (focus ((conv => lhs; whnf); done)))
 | (apply s_gF; exact rfl)
 | (apply c_nil)
 | (apply s_pickF; exact rfl; (focus ((conv => lhs; whnf); done)))
 | ((first | apply s_lss | apply s_leq | apply s_gtr | apply s_geq | apply s_eql | apply s_neq); exact rfl; all_goals (intro _; try (exfalso; omega)))
 | ((first | apply s_add | apply s_sub); exact rfl; omega)
 | (apply s_idx; (focus ((conv => lhs; whnf); done)); exact rfl; (first | assumption | (apply IsLL.at; assumption; omega)); omega)
 | (apply s_ldI; exact rfl; omega)
 | (apply c_seq)
 | (apply c_reg)
 | (apply c_block)
 | (apply c_skip)
 | (apply c_condT; exact rfl)
 | (apply c_condF; exact rfl)
 | (with_reducible apply k_c)
      all_goals first | exact hK1 _ _ (by omega) (by omega) (gc_to rfl (by simp [idFreeL, AV.idFree, *]; done)) | (exfalso; omega)
    · have h2 := hnn i hin hiq
      rw [if_neg (by omega)] at hK1
      repeat' first
 | (apply s_mov; (focus ((conv => lhs; whnf); done)))
 | (apply s_gT; exact rfl)
 | (apply c_nil)
 | (apply s_pickT; exact rfl; (focus ((conv => lhs; whnf); done)))
 | ((first | apply s_lss | apply s_leq | apply s_gtr | apply s_geq | apply s_eql | apply s_neq); exact rfl; all_goals (intro _; try (exfalso; omega)))
 | ((first | apply s_add | apply s_sub); exact rfl; omega)
 | (apply s_idx; (focus ((conv => lhs; whnf); done)); exact rfl; (first | assumption | (apply IsLL.at; assumption; omega)); omega)
 | (apply s_ldI; exact rfl; omega)
 | (apply c_seq)
 | (apply c_reg)
 | (apply c_block)
 | (apply c_skip)
 | (apply c_condT; exact rfl)
 | (apply c_condF; exact rfl)
 | (with_reducible apply k_c)
      all_goals first | exact hK1 _ _ (by omega) (by omega) (gc_to rfl (by simp [idFreeL, AV.idFree, *]; done)) | (exfalso; omega)
  · obtain rfl : i = b.length := by omega
    rw [hZ]
    by_cases hZ5 : Z ≤ 500
    · rw [if_pos hZ5]
      repeat' first
 | (apply s_mov; (focus ((conv => lhs; whnf); done)))
 | (apply c_nil)
 | ((first | apply s_lss | apply s_leq | apply s_gtr | apply s_geq | apply s_eql | apply s_neq); exact rfl; all_goals (intro _; try (exfalso; omega)))
 | (apply s_en; (focus (repeat (first | apply opds_nil | (apply opds_cons; (first | (focus ((conv => lhs; whnf); done)) | exact rfl))))); exact e76 _)
 | (apply s_pn; (focus (repeat (first | apply opds_nil | (apply opds_cons; (first | (focus ((conv => lhs; whnf); done)) | exact rfl))))); exact lx _)
 | (apply s_en; (focus (repeat (first | apply opds_nil | (apply opds_cons; (first | (focus ((conv => lhs; whnf); done)) | exact rfl))))); exact mk _ _)
 | (apply c_seq)
 | (apply c_reg)
 | (apply c_block)
 | (apply c_exitH)
 | (apply c_skip)
 | (apply c_condF; exact rfl)
 | (apply c_preF; (focus (repeat (first | apply looks_nil | (apply looks_cons; (focus ((conv => lhs; whnf); done)))))); (focus (simp [idFreeL, AV.idFree, *]; done)))
 | (with_reducible apply k_c)
      have hz : apl b s (List.replicate b.length 0) = s := apl_zero hB hsl
      have hpz : pot b.length (gf (dist b q).1) (ap b.length (ed b) (gf s) (gf (List.replicate b.length 0))) = pot b.length (gf (dist b q).1) (gf s) := sumTo_congr fun i hi => by
        rw [← apl_ap hB s _ hi, hz]
        rfl
      have g0 : ∀ j, j < b.length → (fun _ : Nat => (0 : Int)) j = gf (List.replicate b.length 0) j := fun j hj => by unfold gf; rw [getI_nat]; simp [List.getD, hj]
      have gcO : ∀ (bb : Bool) (C D : List AV), gc 0 [x, .int .i64 (q : Int), .sl 0 1 0 b.length, .sl 1 1 0 b.length, .bool bb] [some (.data C), some (.data D)] = some ([x, .int .i64 (q : Int), .sl 0 1 0 b.length, .sl 1 1 0 b.length, .bool bb], [some (.data C), some (.data D)]) := fun bb C D => by simp [go_sem, fx]
      have gcI : ∀ (bb : Bool) (v : Nat) (C D : List AV), gc 0 [x, .int .i64 (q : Int), .sl 0 1 0 b.length, .sl 1 1 0 b.length, .bool bb, .int .i64 ((b.length : Nat) : Int), .int .i64 (v : Int)] [some (.data C), some (.data D)] = some ([x, .int .i64 (q : Int), .sl 0 1 0 b.length, .sl 1 1 0 b.length, .bool bb, .int .i64 ((b.length : Nat) : Int), .int .i64 (v : Int)], [some (.data C), some (.data D)]) := fun bb v C D => by simp [go_sem, fx]
      have gcN : ∀ (v : Nat) (C D F C' D' : List AV), gc 0 [x, .int .i64 (q : Int), .sl 3 1 0 b.length, .sl 4 1 0 b.length, .bool true, .int .i64 ((b.length : Nat) : Int), .int .i64 (v : Int)] [some (.data C), some (.data D), some (.data F), some (.data C'), some (.data D')] = some ([x, .int .i64 (q : Int), .sl 0 1 0 b.length, .sl 1 1 0 b.length, .bool true, .int .i64 ((b.length : Nat) : Int), .int .i64 (v : Int)], [some (.data C'), some (.data D')]) := fun v C D F C' D' => by simp [go_sem, fx]
      have hc0 : ∀ v, v < b.length → v ≠ q → 0 ≤ gf s v := hnn
      refine c_loop ?_
      refine loop_gc (σ := List Int × Bool) (fun p => [x, .int .i64 (q : Int), .sl 0 1 0 b.length, .sl 1 1 0 b.length, .bool p.2]) (fun p => [some (.data (iL (apl b s p.1))), some (.data (iL p.1))])
        (fun p => p.1.length = b.length ∧ SetOk b.length (ed b) q (gf s) (gf p.1) ∧ (p.2 = false → Stab b.length (ed b) q (gf s) (gf p.1)))
        (fun p => 2 * (pot b.length (gf (dist b q).1) (ap b.length (ed b) (gf s) (gf p.1))).toNat + (if p.2 = true then 1 else 0)) ?_ _ (List.replicate b.length 0, true) _ _ ⟨by simp, (SetOk.init hc0).congr hq g0, by simp⟩ (by dsimp only; rw [hpz]; simp only [if_true]; omega) (by dsimp only; rw [hz]; exact gcO true _ _)
      intro ⟨t, ag⟩ ⟨htl, hok, hst⟩ K2 hK2
      dsimp only at htl hok hst hK2 ⊢
      cases ag with
      | false =>
        have he := setT_eq htl hok (hst rfl)
        rw [← he]
        repeat' first
 | (apply s_mov; (focus ((conv => lhs; whnf); done)))
 | (apply c_nil)
 | (apply c_seq)
 | (apply c_reg)
 | (apply c_exitH)
 | (apply c_condF; exact rfl)
 | (with_reducible apply k_c)
        apply c_pre (vs := [.sl 0 1 0 b.length, .sl 1 1 0 b.length]) (H' := [some (.data (iL (apl b s t))), some (.data (iL t))])
        · simp [go_sem]
        repeat' first
 | (apply s_mov; (focus ((conv => lhs; whnf); done)))
 | (apply c_nil)
 | (apply c_seq)
 | (apply c_reg)
 | (apply c_ret)
 | (with_reducible apply k_c)
        simp [finish, ress, resOf, look, tupOf, go_sem]
      | true =>
        repeat' first
 | (apply s_mov; (focus ((conv => lhs; whnf); done)))
 | (apply c_nil)
 | (apply s_pn; (focus (repeat (first | apply opds_nil | (apply opds_cons; (first | (focus ((conv => lhs; whnf); done)) | exact rfl))))); exact lx _)
 | (apply c_seq)
 | (apply c_reg)
 | (apply c_block)
 | (apply c_skip)
 | (apply c_condT; exact rfl)
 | (with_reducible apply k_c)
        refine c_loop ?_
        refine loop_gc (σ := Nat × List Int × Bool) (fun p => [x, .int .i64 (q : Int), .sl 0 1 0 b.length, .sl 1 1 0 b.length, .bool p.2.2, .int .i64 ((b.length : Nat) : Int), .int .i64 (p.1 : Int)]) (fun p => [some (.data (iL (apl b s p.2.1))), some (.data (iL p.2.1))])
          (fun p => p.1 ≤ b.length ∧ p.2.1.length = b.length ∧ SetOk b.length (ed b) q (gf s) (gf p.2.1) ∧ (p.2.2 = false → p.2.1 = t ∧ ∀ w, w < p.1 → w ≠ q → ap b.length (ed b) (gf s) (gf t) w < deg b.length (ed b) w) ∧ (p.2.2 = true → pot b.length (gf (dist b q).1) (ap b.length (ed b) (gf s) (gf p.2.1)) < pot b.length (gf (dist b q).1) (ap b.length (ed b) (gf s) (gf t))))
          (fun p => b.length - p.1) ?_ _ (0, t, false) _ _ ⟨by omega, htl, hok, fun _ => ⟨rfl, fun w hw => by omega⟩, by simp⟩ (by show b.length - 0 < _; omega) (gcI false 0 _ _)
        intro ⟨v, t', ag⟩ ⟨hv, htl', hok', hf, hp⟩ K3 hK3
        dsimp only at hv htl' hok' hf hp hK3 ⊢
        by_cases hvn : v < b.length
        · have e74' := e74 v hvn
          have hdg := deg_nn g hvn
          obtain ⟨l1, l2, l3, -⟩ := hok'.le g hq hd hc0 (M := 500) (by rw [hZ]; exact hZ5)
          have hlen : (apl b s t').length = b.length := apl_len b s t'
          have hav := fun (w : Nat) (hw : w < b.length) => apl_ap hB s t' hw
          have ld := fun H h => p_ldO (H := H) (id := 0) (l := apl b s t') (i := v) h (by omega)
          by_cases hvq : v = q
          · subst hvq
            repeat' first
 | (apply s_mov; (focus ((conv => lhs; whnf); done)))
 | (apply s_gF; exact rfl)
 | (apply c_nil)
 | (apply s_pickF; exact rfl; (focus ((conv => lhs; whnf); done)))
 | ((first | apply s_lss | apply s_leq | apply s_gtr | apply s_geq | apply s_eql | apply s_neq); exact rfl; all_goals (intro _; try (exfalso; omega)))
 | ((first | apply s_add | apply s_sub); exact rfl; omega)
 | (apply s_cn; (focus (repeat (first | apply opds_nil | (apply opds_cons; (first | (focus ((conv => lhs; whnf); done)) | exact rfl))))); exact e74' _)
 | (apply c_seq)
 | (apply c_reg)
 | (apply c_block)
 | (apply c_skip)
 | (apply c_condT; exact rfl)
 | (apply c_condF; exact rfl)
 | (with_reducible apply k_c)
            all_goals first
              | (refine hK3 (v + 1, t', ag) _ _ ⟨by omega, htl', hok', fun e => ⟨(hf e).1, fun w hw hwq => (hf e).2 w (by omega) hwq⟩, hp⟩ (by show b.length - (v + 1) < _; omega) (gcI ag (v + 1) _ _); done)
              | (exfalso; omega)
          · have hdg1 := dst_deg g hd hvn hvq
            have hv1 := hav v hvn
            have hpos := hok'.pos v hvn hvq
            have hle := l1 v hvn hvq
            by_cases hfire : deg b.length (ed b) v ≤ ap b.length (ed b) (gf s) (gf t') v
            · have hq1 : 1 ≤ ap b.length (ed b) (gf s) (gf t') v / deg b.length (ed b) v := by
                rw [Int.le_ediv_iff_mul_le (by omega)]; omega
              have hq2 : ap b.length (ed b) (gf s) (gf t') v / deg b.length (ed b) v * deg b.length (ed b) v ≤ ap b.length (ed b) (gf s) (gf t') v := Int.ediv_mul_le _ (by omega)
              have hq3 : ap b.length (ed b) (gf s) (gf t') v / deg b.length (ed b) v ≤ ap b.length (ed b) (gf s) (gf t') v := Int.ediv_le_self _ hpos
              have quo := fun H => p_quo (H := H) (a := ap b.length (ed b) (gf s) (gf t') v) (c := deg b.length (ed b) v) (by omega) (by omega)
              have hstep := hok'.step g hvn hvq hq1 hq2
              have hpot := pot_step g hd (c := gf s) (t := gf t') hvn hvq hq1
              generalize hk : ap b.length (ed b) (gf s) (gf t') v / deg b.length (ed b) v = k at *
              generalize hone : (List.replicate b.length (0 : Int)).set v k = one at *
              have honel : one.length = b.length := by rw [← hone]; simp
              have hg1 : ∀ j, j < b.length → getI one (j : Int) = unit v k j := fun j hj => by rw [← hone]; exact gf_set hvn j hj
              have hpu : ∀ j, j < b.length → gf t' j + unit v k j = gf (pl t' one) j := fun j hj => by rw [← hone]; exact (pl_unit htl' hvn j hj).symm
              have stv := fun call H h => e_stO (call := call) (H := H) (id := 2) (l := List.replicate b.length 0) (i := v) (v := k) h (by simpa using hvn)
              rw [hone] at stv
              have hst' : SetOk b.length (ed b) q (gf s) (gf (pl t' one)) := hstep.congr hq hpu
              have hpot' : pot b.length (gf (dist b q).1) (ap b.length (ed b) (gf s) (gf (pl t' one))) < pot b.length (gf (dist b q).1) (ap b.length (ed b) (gf s) (gf t')) := by
                have e : pot b.length (gf (dist b q).1) (ap b.length (ed b) (gf s) (gf (pl t' one))) = pot b.length (gf (dist b q).1) (ap b.length (ed b) (gf s) (fun j => gf t' j + unit v k j)) := sumTo_congr fun i hi => by rw [ap_congr hi hpu rfl]
                rw [e]; exact hpot
              have hbt : ∀ w : Nat, w < b.length → 0 ≤ getI t' (w : Int) ∧ getI t' (w : Int) ≤ 144000 := fun w hw => by
                have h1 := l3 w hw
                have h2 : (b.length : Int) * (b.length * 500) ≤ 10 * (10 * 500) := Int.mul_le_mul (by omega) (by omega) (by omega) (by omega)
                have h3 : gf t' w = getI t' (w : Int) := rfl
                omega
              have hb1 : ∀ w : Nat, w < b.length → 0 ≤ getI one (w : Int) ∧ getI one (w : Int) ≤ 500 := fun w hw => by
                rw [hg1 w hw]; unfold unit; split <;> omega
              have hbl : ∀ w : Nat, w < b.length → -288230376151711744 ≤ getI (apl b s t') (w : Int) ∧ getI (apl b s t') (w : Int) ≤ 288230376151711744 := fun w hw => by
                rw [hav w hw]
                by_cases hwq : w = q
                · subst hwq
                  have := hsv w hw
                  have h3 : gf s w = getI s (w : Int) := rfl
                  omega
                · have := l1 w hw hwq
                  have := hok'.pos w hw hwq
                  omega
              have e55' := e55 [x, .sl 0 1 0 b.length, .sl 2 1 0 b.length] (apl b s t') one hlen honel (fun w hw => by have := hb1 w hw; omega) hbl [some (.data (iL (apl b s t'))), some (.data (iL t')), some (.data (iL one))] (frzL_cons (frzV_of fx) (frzL_cons (frz_sl rfl hlen) (frzL_cons (frz_sl rfl honel) frzL_nil)))
              rw [apl_pl hB htl'] at e55'
              have e77' := e77 [.sl 1 1 0 b.length, .sl 2 1 0 b.length] t' one htl' honel (fun w hw => by have := hbt w (by omega); omega) (fun w hw => by have := hb1 w (by omega); omega) [some (.data (iL (apl b s t'))), some (.data (iL t')), some (.data (iL one)), some (.data (iL (apl b s (pl t' one))))] (frzL_cons (frz_sl rfl htl') (frzL_cons (frz_sl rfl honel) frzL_nil))
              rw [htl'] at e77'
              rw [← hv1] at quo hfire
              repeat' first
 | (apply s_mov; (focus ((conv => lhs; whnf); done)))
 | (apply s_gT; exact rfl)
 | (apply c_nil)
 | (apply s_pickT; exact rfl; (focus ((conv => lhs; whnf); done)))
 | ((first | apply s_lss | apply s_leq | apply s_gtr | apply s_geq | apply s_eql | apply s_neq); exact rfl; all_goals (intro _; try (exfalso; omega)))
 | ((first | apply s_add | apply s_sub); exact rfl; omega)
 | (apply s_cn; (focus (repeat (first | apply opds_nil | (apply opds_cons; (first | (focus ((conv => lhs; whnf); done)) | exact rfl))))); exact e74' _)
 | (apply s_pn; (focus (repeat (first | apply opds_nil | (apply opds_cons; (first | (focus ((conv => lhs; whnf); done)) | exact rfl))))); exact p_ixO hvn)
 | (apply s_pn; (focus (repeat (first | apply opds_nil | (apply opds_cons; (first | (focus ((conv => lhs; whnf); done)) | exact rfl))))); exact ld _ rfl)
 | (apply s_pn; (focus (repeat (first | apply opds_nil | (apply opds_cons; (first | (focus ((conv => lhs; whnf); done)) | exact rfl))))); exact lx _)
 | (apply s_en; (focus (repeat (first | apply opds_nil | (apply opds_cons; (first | (focus ((conv => lhs; whnf); done)) | exact rfl))))); exact mk _ _)
 | (apply s_pn; (focus (repeat (first | apply opds_nil | (apply opds_cons; (first | (focus ((conv => lhs; whnf); done)) | exact rfl))))); exact quo _)
 | (apply s_st; (focus (repeat (first | apply opds_nil | (apply opds_cons; (first | (focus ((conv => lhs; whnf); done)) | exact rfl))))); exact stv _ _ rfl)
 | (apply s_en; (focus (repeat (first | apply opds_nil | (apply opds_cons; (first | (focus ((conv => lhs; whnf); done)) | exact rfl))))); exact e55')
 | (apply s_en; (focus (repeat (first | apply opds_nil | (apply opds_cons; (first | (focus ((conv => lhs; whnf); done)) | exact rfl))))); exact e77')
 | (apply c_seq)
 | (apply c_reg)
 | (apply c_block)
 | (apply c_skip)
 | (apply c_condT; exact rfl)
 | (with_reducible apply k_c)
              all_goals first
                | (exfalso; omega)
                | (refine hK3 (v + 1, pl t' one, true) _ _ ⟨by omega, by rw [pl_len]; exact htl', hst', by simp, fun _ => ?_⟩ (by show b.length - (v + 1) < _; omega) (gcN (v + 1) _ _ _ _ _)
                   cases ag with
                   | false => rw [(hf rfl).1] at hpot' ⊢; exact hpot'
                   | true => exact Int.lt_trans hpot' (hp rfl))
            · rw [← hv1] at hfire
              repeat' first
 | (apply s_mov; (focus ((conv => lhs; whnf); done)))
 | (apply s_gT; exact rfl)
 | (apply c_nil)
 | (apply s_pickT; exact rfl; (focus ((conv => lhs; whnf); done)))
 | ((first | apply s_lss | apply s_leq | apply s_gtr | apply s_geq | apply s_eql | apply s_neq); exact rfl; all_goals (intro _; try (exfalso; omega)))
 | ((first | apply s_add | apply s_sub); exact rfl; omega)
 | (apply s_cn; (focus (repeat (first | apply opds_nil | (apply opds_cons; (first | (focus ((conv => lhs; whnf); done)) | exact rfl))))); exact e74' _)
 | (apply s_pn; (focus (repeat (first | apply opds_nil | (apply opds_cons; (first | (focus ((conv => lhs; whnf); done)) | exact rfl))))); exact p_ixO hvn)
 | (apply s_pn; (focus (repeat (first | apply opds_nil | (apply opds_cons; (first | (focus ((conv => lhs; whnf); done)) | exact rfl))))); exact ld _ rfl)
 | (apply c_seq)
 | (apply c_reg)
 | (apply c_block)
 | (apply c_skip)
 | (apply c_condT; exact rfl)
 | (apply c_condF; exact rfl)
 | (with_reducible apply k_c)
              all_goals first
                | (refine hK3 (v + 1, t', ag) _ _ ⟨by omega, htl', hok', fun e => ⟨(hf e).1, fun w hw hwq => ?_⟩, hp⟩ (by show b.length - (v + 1) < _; omega) (gcI ag (v + 1) _ _)
                   rcases (by omega : w < v ∨ w = v) with h | rfl
                   · exact (hf e).2 w h hwq
                   · have e2 := (hf e).1
                     subst e2
                     omega)
                | (exfalso; omega)
        · obtain rfl : v = b.length := by omega
          repeat' first
 | (apply c_nil)
 | ((first | apply s_lss | apply s_leq | apply s_gtr | apply s_geq | apply s_eql | apply s_neq); exact rfl; all_goals (intro _; try (exfalso; omega)))
 | (apply c_seq)
 | (apply c_reg)
 | (apply c_exitH)
 | (apply c_condF; exact rfl)
 | (with_reducible apply k_c)
          refine hK2 (t', ag) _ _ ⟨htl', hok', fun e => ?_⟩ ?_ (gcO ag _ _)
          · dsimp only at e
            have := hf e
            intro w hw hwq
            rw [this.1]
            exact this.2 w hw hwq
          · dsimp only
            have hp0 := pot_nn hd hok'.pos
            cases ag with
            | false => rw [(hf rfl).1]; simp
            | true => have := hp rfl; simp only [if_true]; omega
    · rw [if_neg hZ5]
      repeat' first
 | (apply s_mov; (focus ((conv => lhs; whnf); done)))
 | (apply c_nil)
 | ((first | apply s_lss | apply s_leq | apply s_gtr | apply s_geq | apply s_eql | apply s_neq); exact rfl; all_goals (intro _; try (exfalso; omega)))
 | (apply c_seq)
 | (apply c_reg)
 | (apply c_exitH)
 | (apply c_ret)
 | (apply c_condT; exact rfl)
 | (apply c_condF; exact rfl)
 | (apply c_preF; (focus (repeat (first | apply looks_nil | (apply looks_cons; (focus ((conv => lhs; whnf); done)))))); (focus (simp [idFreeL, AV.idFree, *]; done)))
 | (with_reducible apply k_c)
      all_goals first
        | (exfalso; omega)
        | (simp [finish, ress, resOf, look, tupOf, go_sem]; done)
end Go.AM.Ch
