/- A part of the proof: U30. -/
import Derived.Test.YtmegimhfoedcdaaU29
set_option linter.unusedSectionVars false
set_option linter.unusedVariables false
set_option linter.unusedSimpArgs false
namespace Go.AM.Ch
attribute [local go_sem] gc subHeap reach_skip ren_free reach_new reach_newp reach_end rangeL roots boxCells nodupB posOf renL AV.ren pickO renH renO looks look bindEnv envOf reach_int reach_bool reach_nilS reach_rd putRow cells_sl cells_int cells_bool cells_nilS cells_rd cells_agg reach_agg reach_tup idFreeL idf_sl idf_ptr idf_int idf_bool idf_nilS idf_rd reach_fn reach_mp cells_fn cells_ptr cells_mp idf_mp idf_fn idf_agg idf_tup
set_option maxHeartbeats 8000000
theorem fzL_ne {l : List Int} {n : Nat} (h : l.length = n) (hn : 1 ≤ n) : fzL l = .rd 1 n (iL l) := by
  rcases l with _ | ⟨a, r⟩
  · simp at h; omega
  · subst h; simp [fzL]
theorem e_appT {call : CallF} {H : Heap} {y : AV} {s : List Int} (hy : IsL y s) (h1 : 1 ≤ s.length) (h2 : s.length ≤ 1000) : evE call H (.app true 1 8) [.nilS, y] = some (fzL s, H) := by
  rw [fzL_ne rfl h1]
  have hl := iL_len s
  have hm : s.length ≤ most := by unfold most; omega
  cases hy with
  | nil => simp at h1
  | rd =>
    have h0 : ¬ s = [] := by intro e; subst e; simp at h1
    simp [evE, appOf, szOk, lenOf, rowOf, hl, h0, hm, killRow, newRow, List.take_of_length_le]
theorem c35d {x : AV} {b : List (List Int)} (hx : IsLL x b) (hB : IsB b) {i : Nat} (hi : i < b.length) {m : Nat} (hm : 1020 ≤ m) (H : Heap) : callPure (evF tab it m) true 35 [x, .int .i64 (i : Int)] H = some (.int .i64 (deg b.length (ed b) i), H) := by
  rw [← deg_sumI hB.bd hi]
  have hn := hB.n2
  exact c35 hx hi (by rw [hB.bd.row i hi]; omega) (fun v hv => by have := row_all' hB.bd hi v hv; omega) hm H
where
  row_all' {b : List (List Int)} (hb : Bd b) {i : Nat} (hi : i < b.length) : ∀ v ∈ getLL b (i : Int), 0 ≤ v ∧ v ≤ 3 := fun v hv => by
    obtain ⟨k, hk, e⟩ := List.getElem_of_mem hv
    have := hb.val i k hi (by rw [← hb.row i hi]; exact hk)
    rw [getI_nat] at this
    simpa [List.getD, hk, e] using this
theorem bit_unit {n v : Nat} (hv : v < n) : bitL n (2 ^ v) = (List.replicate n 0).set v 1 := by
  refine ext_getI (by simp [bitL_len]) fun i hi => ?_
  rw [bitL_len] at hi
  rw [bitL_get hi, getI_set (by simpa using hv)]
  have h := bitN_set (S := fun _ => false) (S' := fun j => j == v) (i := v) rfl (fun j => by simp) hv
  rw [bitN_none, Nat.zero_add] at h
  rw [← h, bitN_bit _ hi]
  by_cases e : i = v
  · subst e; simp
  · rw [if_neg (by simpa using e), if_neg e, getI_nat]; simp [List.getD, hi]
theorem pl_one {t : List Int} {n v : Nat} (ht : t.length = n) (hv : v < n) {a : Int} (ha : getI t (v : Int) = a) : pl t ((List.replicate n 0).set v 1) = t.set v (a + 1) := by
  refine ext_getI (by simp [pl_len]) fun i hi => ?_
  rw [pl_len] at hi
  rw [pl_get hi, getI_set (by simpa using hv), getI_set (by omega)]
  by_cases e : i = v
  · subst e; rw [if_pos rfl, if_pos rfl, ha]
  · rw [if_neg e, if_neg e, getI_nat (List.replicate n 0)]; simp [List.getD, show i < n by omega]
/-- the reference's Settle -/
theorem f48 {x y : AV} {b : List (List Int)} {s : List Int} {q : Nat} (hx : IsLL x b) (hy : IsL y s) (hB : IsB b) (hs : InR b.length 1048576 s) (hq : q < b.length) (hnn : ∀ v : Nat, v < b.length → v ≠ q → 0 ≤ getI s (v : Int)) (ho5 : oth b.length q (gf s) ≤ 500)
    {m : Nat} (hm : 2200 + 2 * (pot b.length (gf (dist b q).1) (gf s)).toNat ≤ m) :
    evF tab it m 48 [x, y, .int .i64 (q : Int)] [] = some (.tup [fzL (apl b s (setT b s q)), .sl 0 1 0 b.length], [some (.data (iL (setT b s q)))]) := by
  obtain ⟨m, rfl⟩ : ∃ j, m = j + 1 := ⟨m - 1, by omega⟩
  have fx := hx.free; have fy := hy.free
  have hn1 := hB.n1; have hn2 := hB.n2
  have hbd := hB.bd
  have g := gr_of hB
  have hd := dist_dst hB hq
  have lx : ∀ H, evP H .len [x] = some (.int .i64 ((b.length : Nat) : Int)) := fun H => by cases hx <;> rfl
  have hsv := inR_get hs
  have hsl := hs.1
  have ap0 := fun call H => e_appT (call := call) (H := H) hy (by omega) (by omega)
  have e35 := fun (i : Nat) (hi : i < b.length) H => c35d hx hB hi (m := m) (by omega) H
  have mk := fun call H => @e_mkI call H b.length (by unfold most; omega)
  refine f_enter rfl rfl ?_
  have e78 := fun (l : List Int) (S : Nat) (hln : l.length = b.length) hl H => c78 (S := S) hx (isL_fz l) hB hln hl (m := m) (by omega) H
  generalize hcall : evF tab it m = call at *
  have fs := (isL_fz s).free
  have hz : apl b s (List.replicate b.length 0) = s := apl_zero hB hsl
  have hpz : pot b.length (gf (dist b q).1) (ap b.length (ed b) (gf s) (gf (List.replicate b.length 0))) = pot b.length (gf (dist b q).1) (gf s) := sumTo_congr fun i hi => by
    rw [← apl_ap hB s _ hi, hz]
    rfl
  have g0 : ∀ j, j < b.length → (fun _ : Nat => (0 : Int)) j = gf (List.replicate b.length 0) j := fun j hj => by unfold gf; rw [getI_nat]; simp [List.getD, hj]
  have gcO : ∀ (l : List Int) (bb : Bool) (C : List AV), gc 0 [x, .int .i64 (q : Int), fzL l, .sl 0 1 0 b.length, .bool bb] [some (.data C)] = some ([x, .int .i64 (q : Int), fzL l, .sl 0 1 0 b.length, .bool bb], [some (.data C)]) := fun l bb C => by
    have := (isL_fz l).free
    simp [go_sem, fx, this]
  have gcI : ∀ (l : List Int) (bb : Bool) (v : Nat) (C : List AV), gc 0 [x, .int .i64 (q : Int), fzL l, .sl 0 1 0 b.length, .bool bb, .int .i64 (v : Int)] [some (.data C)] = some ([x, .int .i64 (q : Int), fzL l, .sl 0 1 0 b.length, .bool bb, .int .i64 (v : Int)], [some (.data C)]) := fun l bb v C => by
    have := (isL_fz l).free
    simp [go_sem, fx, this]
  have hc0 : ∀ v, v < b.length → v ≠ q → 0 ≤ gf s v := hnn
  skip
  repeat' first
 | (apply s_mov; (focus ((conv => lhs; whnf); done)))
 | (apply c_nil)
 | (apply s_en; (focus (repeat (first | apply opds_nil | (apply opds_cons; (first | (focus ((conv => lhs; whnf); done)) | exact rfl))))); exact ap0 _ _)
 | (apply s_pn; (focus (repeat (first | apply opds_nil | (apply opds_cons; (first | (focus ((conv => lhs; whnf); done)) | exact rfl))))); exact lx _)
 | (apply s_en; (focus (repeat (first | apply opds_nil | (apply opds_cons; (first | (focus ((conv => lhs; whnf); done)) | exact rfl))))); exact mk _ _)
 | (apply c_seq)
 | (apply c_reg)
 | (apply c_block)
 | (with_reducible apply k_c)
  refine c_loop ?_
  refine loop_gc (σ := List Int × Bool) (fun p => [x, .int .i64 (q : Int), fzL (apl b s p.1), .sl 0 1 0 b.length, .bool p.2]) (fun p => [some (.data (iL p.1))])
    (fun p => p.1.length = b.length ∧ SetOk b.length (ed b) q (gf s) (gf p.1) ∧ (p.2 = false → Stab b.length (ed b) q (gf s) (gf p.1)))
    (fun p => 2 * (pot b.length (gf (dist b q).1) (ap b.length (ed b) (gf s) (gf p.1))).toNat + (if p.2 = true then 1 else 0)) ?_ _ (List.replicate b.length 0, true) _ _ ⟨by simp, (SetOk.init hc0).congr hq g0, by simp⟩ (by dsimp only; rw [hpz]; simp only [if_true]; omega) (by dsimp only; rw [hz]; exact gcO s true _)
  intro ⟨t, ag⟩ ⟨htl, hok, hst⟩ K2 hK2
  dsimp only at htl hok hst hK2 ⊢
  cases ag with
  | false =>
    have he := setT_eq htl hok (hst rfl)
    rw [← he]
    have fz := (isL_fz (apl b s t)).free
    generalize fzL (apl b s t) = vz at *
    repeat' first
 | (apply s_mov; (focus ((conv => lhs; whnf); done)))
 | (apply c_nil)
 | (apply c_seq)
 | (apply c_reg)
 | (apply c_exitH)
 | (apply c_condF; exact rfl)
 | (with_reducible apply k_c)
    apply c_pre (vs := [vz, .sl 0 1 0 b.length]) (H' := [some (.data (iL t))])
    · simp [go_sem, fz]
    repeat' first
 | (apply s_mov; (focus ((conv => lhs; whnf); done)))
 | (apply c_nil)
 | (apply c_seq)
 | (apply c_reg)
 | (apply c_ret)
 | (with_reducible apply k_c)
    simp [finish, ress, resOf, look, tupOf, go_sem, fz]
  | true =>
    repeat' first
 | (apply s_mov; (focus ((conv => lhs; whnf); done)))
 | (apply c_nil)
 | (apply c_seq)
 | (apply c_reg)
 | (apply c_block)
 | (apply c_skip)
 | (apply c_condT; exact rfl)
 | (with_reducible apply k_c)
    refine c_loop ?_
    refine loop_gc (σ := Nat × List Int × Bool) (fun p => [x, .int .i64 (q : Int), fzL (apl b s p.2.1), .sl 0 1 0 b.length, .bool p.2.2, .int .i64 (p.1 : Int)]) (fun p => [some (.data (iL p.2.1))])
      (fun p => p.1 ≤ b.length ∧ p.2.1.length = b.length ∧ SetOk b.length (ed b) q (gf s) (gf p.2.1) ∧ (p.2.2 = false → p.2.1 = t ∧ ∀ w, w < p.1 → w ≠ q → ap b.length (ed b) (gf s) (gf t) w < deg b.length (ed b) w) ∧ (p.2.2 = true → pot b.length (gf (dist b q).1) (ap b.length (ed b) (gf s) (gf p.2.1)) < pot b.length (gf (dist b q).1) (ap b.length (ed b) (gf s) (gf t))))
      (fun p => b.length - p.1) ?_ _ (0, t, false) _ _ ⟨by omega, htl, hok, fun _ => ⟨rfl, fun w hw => by omega⟩, by simp⟩ (by show b.length - 0 < _; omega) (gcI _ false 0 _)
    intro ⟨v, t', ag⟩ ⟨hv, htl', hok', hf, hp⟩ K3 hK3
    dsimp only at hv htl' hok' hf hp hK3 ⊢
    have fz := (isL_fz (apl b s t')).free
    have iz := isL_fz (apl b s t')
    by_cases hvn : v < b.length
    · have e35' := e35 v hvn
      have hdg := deg_nn g hvn
      obtain ⟨l1, l2, l3, -⟩ := hok'.le g hq hd hc0 (M := 500) ho5
      have hlen : (apl b s t').length = b.length := apl_len b s t'
      have hav := fun (w : Nat) (hw : w < b.length) => apl_ap hB s t' hw
      by_cases hvq : v = q
      · subst hvq
        repeat' first
 | (apply s_mov; (focus ((conv => lhs; whnf); done)))
 | (apply s_gF; exact rfl)
 | (apply s_gFD; exact rfl)
 | (apply c_nil)
 | (apply s_pickF; exact rfl; (focus ((conv => lhs; whnf); done)))
 | ((first | apply s_lss | apply s_leq | apply s_gtr | apply s_geq | apply s_eql | apply s_neq); exact rfl; all_goals (intro _; try (exfalso; omega)))
 | ((first | apply s_add | apply s_sub); exact rfl; omega)
 | (apply s_pn; (focus (repeat (first | apply opds_nil | (apply opds_cons; (first | (focus ((conv => lhs; whnf); done)) | exact rfl))))); exact lx _)
 | (apply c_seq)
 | (apply c_reg)
 | (apply c_block)
 | (apply c_skip)
 | (apply c_condT; exact rfl)
 | (apply c_condF; exact rfl)
 | (with_reducible apply k_c)
        all_goals first
          | (refine hK3 (v + 1, t', ag) _ _ ⟨by omega, htl', hok', fun e => ⟨(hf e).1, fun w hw hwq => (hf e).2 w (by omega) hwq⟩, hp⟩ (by show b.length - (v + 1) < _; omega) (gcI _ ag (v + 1) _); done)
          | (exfalso; omega)
      · have hv1 := hav v hvn
        have hpos := hok'.pos v hvn hvq
        have hle := l1 v hvn hvq
        by_cases hfire : deg b.length (ed b) v ≤ ap b.length (ed b) (gf s) (gf t') v
        · have hstep := hok'.step g hvn hvq (k := 1) (by omega) (by rw [Int.one_mul]; exact hfire)
          have hpot := pot_step g hd (c := gf s) (t := gf t') hvn hvq (k := 1) (by omega)
          have hpu : ∀ j, j < b.length → gf t' j + unit v 1 j = gf (pl t' ((List.replicate b.length 0).set v 1)) j := fun j hj => (pl_unit htl' hvn j hj).symm
          have hst' : SetOk b.length (ed b) q (gf s) (gf (pl t' ((List.replicate b.length 0).set v 1))) := hstep.congr hq hpu
          have hpot' : pot b.length (gf (dist b q).1) (ap b.length (ed b) (gf s) (gf (pl t' ((List.replicate b.length 0).set v 1)))) < pot b.length (gf (dist b q).1) (ap b.length (ed b) (gf s) (gf t')) := by
            have e : pot b.length (gf (dist b q).1) (ap b.length (ed b) (gf s) (gf (pl t' ((List.replicate b.length 0).set v 1)))) = pot b.length (gf (dist b q).1) (ap b.length (ed b) (gf s) (fun j => gf t' j + unit v 1 j)) := sumTo_congr fun i hi => by rw [ap_congr hi hpu rfl]
            rw [e]; exact hpot
          have hbt : 0 ≤ getI t' (v : Int) ∧ getI t' (v : Int) ≤ 144000 := by
            have h1 := l3 v hvn
            have h2 : (b.length : Int) * (b.length * 500) ≤ 10 * (10 * 500) := Int.mul_le_mul (by omega) (by omega) (by omega) (by omega)
            have h3 : gf t' v = getI t' (v : Int) := rfl
            omega
          have hbl : ∀ w : Nat, w < b.length → -288230376151711744 ≤ getI (apl b s t') (w : Int) ∧ getI (apl b s t') (w : Int) ≤ 288230376151711744 := fun w hw => by
            rw [hav w hw]
            by_cases hwq : w = q
            · subst hwq
              have := hsv w hw
              have h3 : gf s w = getI s (w : Int) := rfl
              omega
            · have := l1 w hw hwq
              have := hok'.pos w hw hwq
              omega
          have e78' := e78 (apl b s t') (2 ^ v) hlen hbl
          rw [bit_unit hvn, apl_pl hB htl'] at e78'
          have shl := fun H => p_shl (H := H) (b := v) (by omega)
          have hpl1 := pl_one htl' hvn rfl
          have hT : (pl t' ((List.replicate b.length 0).set v 1)).length = b.length := by rw [pl_len]; exact htl'
          generalize hP : (2 : Nat) ^ v = P at *
          generalize hTT : pl t' ((List.replicate b.length 0).set v 1) = T at *
          have ld := fun H h => p_ldO (H := H) (id := 0) (l := t') (i := v) h (by omega)
          have stv := fun call H h => e_stO (call := call) (H := H) (id := 0) (l := t') (i := v) (v := getI t' (v : Int) + 1) h (by omega)
          rw [← hpl1] at stv
          have hK31 := hK3 (v + 1, T, true)
          dsimp only at hK31
          have gcT := gcI (apl b s T) true (v + 1) (iL T)
          have fzT := (isL_fz (apl b s T)).free
          rw [← hv1] at hfire
          generalize fzL (apl b s T) = vT at *
          generalize fzL (apl b s t') = vz at *
          repeat' first
 | (apply s_mov; (focus ((conv => lhs; whnf); done)))
 | (apply s_gT; exact rfl)
 | (apply c_nil)
 | (apply s_pickT; exact rfl; (focus ((conv => lhs; whnf); done)))
 | ((first | apply s_lss | apply s_leq | apply s_gtr | apply s_geq | apply s_eql | apply s_neq); exact rfl; all_goals (intro _; try (exfalso; omega)))
 | ((first | apply s_add | apply s_sub); exact rfl; omega)
 | (apply s_pn; (focus (repeat (first | apply opds_nil | (apply opds_cons; (first | (focus ((conv => lhs; whnf); done)) | exact rfl))))); exact lx _)
 | (apply s_cn; (focus (repeat (first | apply opds_nil | (apply opds_cons; (first | (focus ((conv => lhs; whnf); done)) | exact rfl))))); exact e35' _)
 | (apply s_pn; (focus (repeat (first | apply opds_nil | (apply opds_cons; (first | (focus ((conv => lhs; whnf); done)) | exact rfl))))); exact p_ixO hvn)
 | (apply s_pn; (focus (repeat (first | apply opds_nil | (apply opds_cons; (first | (focus ((conv => lhs; whnf); done)) | exact rfl))))); exact ld _ rfl)
 | (apply s_pn; (focus (repeat (first | apply opds_nil | (apply opds_cons; (first | (focus ((conv => lhs; whnf); done)) | exact rfl))))); exact shl _)
 | (apply s_cn; (focus (repeat (first | apply opds_nil | (apply opds_cons; (first | (focus ((conv => lhs; whnf); done)) | exact rfl))))); exact e78' _)
 | (apply s_st; (focus (repeat (first | apply opds_nil | (apply opds_cons; (first | (focus ((conv => lhs; whnf); done)) | exact rfl))))); exact stv _ _ rfl)
 | (apply s_idx; (focus ((conv => lhs; whnf); done)); exact rfl; (first | assumption | (apply IsLL.at; assumption; omega)); omega)
 | (apply s_ldI; exact rfl; omega)
 | (apply c_seq)
 | (apply c_reg)
 | (apply c_block)
 | (apply c_skip)
 | (apply c_condT; exact rfl)
 | (with_reducible apply k_c)
          all_goals first
            | (exfalso; omega)
            | (refine hK31 _ _ ⟨by omega, hT, hst', by simp, fun _ => ?_⟩ (by show b.length - (v + 1) < _; omega) gcT
               cases ag with
               | false => rw [(hf rfl).1] at hpot'; exact hpot'
               | true => exact Int.lt_trans hpot' (hp rfl))
        · rw [← hv1] at hfire
          have hK31 := hK3 (v + 1, t', ag)
          dsimp only at hK31
          have gcT := gcI (apl b s t') ag (v + 1) (iL t')
          generalize fzL (apl b s t') = vz at *
          repeat' first
 | (apply s_mov; (focus ((conv => lhs; whnf); done)))
 | (apply s_gT; exact rfl)
 | (apply c_nil)
 | (apply s_pickT; exact rfl; (focus ((conv => lhs; whnf); done)))
 | ((first | apply s_lss | apply s_leq | apply s_gtr | apply s_geq | apply s_eql | apply s_neq); exact rfl; all_goals (intro _; try (exfalso; omega)))
 | ((first | apply s_add | apply s_sub); exact rfl; omega)
 | (apply s_pn; (focus (repeat (first | apply opds_nil | (apply opds_cons; (first | (focus ((conv => lhs; whnf); done)) | exact rfl))))); exact lx _)
 | (apply s_cn; (focus (repeat (first | apply opds_nil | (apply opds_cons; (first | (focus ((conv => lhs; whnf); done)) | exact rfl))))); exact e35' _)
 | (apply s_idx; (focus ((conv => lhs; whnf); done)); exact rfl; (first | assumption | (apply IsLL.at; assumption; omega)); omega)
 | (apply s_ldI; exact rfl; omega)
 | (apply c_seq)
 | (apply c_reg)
 | (apply c_block)
 | (apply c_skip)
 | (apply c_condT; exact rfl)
 | (apply c_condF; exact rfl)
 | (with_reducible apply k_c)
          all_goals first
            | (refine hK31 _ _ ⟨by omega, htl', hok', fun e => ⟨(hf e).1, fun w hw hwq => ?_⟩, hp⟩ (by show b.length - (v + 1) < _; omega) gcT
               rcases (by omega : w < v ∨ w = v) with h | rfl
               · exact (hf e).2 w h hwq
               · have e2 := (hf e).1
                 subst e2
                 omega)
            | (exfalso; omega)
    · obtain rfl : v = b.length := by omega
      have hK21 := hK2 (t', ag)
      dsimp only at hK21
      have gcT := gcO (apl b s t') ag (iL t')
      generalize fzL (apl b s t') = vz at *
      repeat' first
 | (apply s_mov; (focus ((conv => lhs; whnf); done)))
 | (apply c_nil)
 | ((first | apply s_lss | apply s_leq | apply s_gtr | apply s_geq | apply s_eql | apply s_neq); exact rfl; all_goals (intro _; try (exfalso; omega)))
 | (apply s_pn; (focus (repeat (first | apply opds_nil | (apply opds_cons; (first | (focus ((conv => lhs; whnf); done)) | exact rfl))))); exact lx _)
 | (apply c_seq)
 | (apply c_reg)
 | (apply c_exitH)
 | (apply c_condF; exact rfl)
 | (with_reducible apply k_c)
      refine hK21 _ _ ⟨htl', hok', fun e => ?_⟩ ?_ gcT
      · have := hf e
        intro w hw hwq
        rw [this.1]
        exact this.2 w hw hwq
      · have hp0 := pot_nn hd hok'.pos
        cases ag with
        | false => rw [(hf rfl).1]; simp
        | true => have := hp rfl; simp only [if_true]; omega
end Go.AM.Ch
