/- A part of the proof: U32. -/
import Derived.Test.YtmegimhfoedcdaaU31
set_option linter.unusedSectionVars false
set_option linter.unusedVariables false
set_option linter.unusedSimpArgs false
namespace Go.AM.Ch
attribute [local go_sem] gc subHeap reach_skip ren_free reach_new reach_newp reach_end rangeL roots boxCells nodupB posOf renL AV.ren pickO renH renO looks look bindEnv envOf reach_int reach_bool reach_nilS reach_rd putRow cells_sl cells_int cells_bool cells_nilS cells_rd cells_agg reach_agg reach_tup idFreeL idf_sl idf_ptr idf_int idf_bool idf_nilS idf_rd reach_fn reach_mp cells_fn cells_ptr cells_mp idf_mp idf_fn idf_agg idf_tup
set_option maxHeartbeats 8000000
theorem frzV_tup {H : Heap} {k : Nat} {cs cs' : List AV} (h : idFreeL cs = false) (h1 : frzL H k cs = some cs') : frzV H (k + 1) (.tup cs) = some (.tup cs') := by
  simp [frzV, h, h1]
theorem frz_set {A T : List Int} {n : Nat} (hA : A.length = n) (hT : T.length = n) {e : Int} : frzV [some (.data (iL A)), some (.data (iL T))] 40 (.tup [.sl 0 1 0 n, .sl 1 1 0 n, .int .i64 e]) = some (.tup [.rd 1 n (iL A), .rd 1 n (iL T), .int .i64 e]) :=
  frzV_tup rfl (frzL_cons (frz_sl rfl hA) (frzL_cons (frz_sl rfl hT) (frzL_cons rfl frzL_nil)))
theorem frz_set2 {T : List Int} {x : AV} {n : Nat} (hx : x.idFree = true) (hT : T.length = n) : frzV [some (.data (iL T))] 40 (.tup [x, .sl 0 1 0 n]) = some (.tup [x, .rd 1 n (iL T)]) :=
  frzV_tup (by simp [idFreeL, AV.idFree]) (frzL_cons (frzV_of hx) (frzL_cons (frz_sl rfl hT) frzL_nil))
/-- settling ends -/
theorem set_ex {b : List (List Int)} {s : List Int} {q : Nat} (hB : IsB b) (hq : q < b.length) (hnn : ∀ v : Nat, v < b.length → v ≠ q → 0 ≤ getI s (v : Int)) : ∃ t : List Int, t.length = b.length ∧ SetOk b.length (ed b) q (gf s) (gf t) ∧ Stab b.length (ed b) q (gf s) (gf t) := by
  have g := gr_of hB
  have hd := dist_dst hB hq
  have key : ∀ N : Nat, ∀ t : List Int, t.length = b.length → SetOk b.length (ed b) q (gf s) (gf t) → pot b.length (gf (dist b q).1) (ap b.length (ed b) (gf s) (gf t)) < N → ∃ t : List Int, t.length = b.length ∧ SetOk b.length (ed b) q (gf s) (gf t) ∧ Stab b.length (ed b) q (gf s) (gf t) := by
    intro N
    induction N with
    | zero => intro t _ hok hp; have := pot_nn hd hok.pos; omega
    | succ N ih =>
      intro t htl hok hp
      by_cases hs : Stab b.length (ed b) q (gf s) (gf t)
      · exact ⟨t, htl, hok, hs⟩
      · have : ∃ v, v < b.length ∧ v ≠ q ∧ deg b.length (ed b) v ≤ ap b.length (ed b) (gf s) (gf t) v := by
          apply Classical.byContradiction
          intro hc
          exact hs fun v hv hvq => Classical.byContradiction fun h => hc ⟨v, hv, hvq, by omega⟩
        obtain ⟨v, hvn, hvq, hfire⟩ := this
        have hstep := hok.step g hvn hvq (k := 1) (by omega) (by rw [Int.one_mul]; exact hfire)
        have hpot := pot_step g hd (c := gf s) (t := gf t) hvn hvq (k := 1) (by omega)
        have hpu : ∀ j, j < b.length → gf t j + unit v 1 j = gf (pl t ((List.replicate b.length 0).set v 1)) j := fun j hj => (pl_unit htl hvn j hj).symm
        refine ih (pl t ((List.replicate b.length 0).set v 1)) (by rw [pl_len]; exact htl) (hstep.congr hq hpu) ?_
        have e : pot b.length (gf (dist b q).1) (ap b.length (ed b) (gf s) (gf (pl t ((List.replicate b.length 0).set v 1)))) = pot b.length (gf (dist b q).1) (ap b.length (ed b) (gf s) (fun j => gf t j + unit v 1 j)) := sumTo_congr fun i hi => by rw [ap_congr hi hpu rfl]
        omega
  have g0 : ∀ j, j < b.length → (fun _ : Nat => (0 : Int)) j = gf (List.replicate b.length 0) j := fun j hj => by unfold gf; rw [getI_nat]; simp [List.getD, hj]
  exact key ((pot b.length (gf (dist b q).1) (ap b.length (ed b) (gf s) (gf (List.replicate b.length 0)))).toNat + 1) _ (by simp) ((SetOk.init hnn).congr hq g0) (by omega)
theorem setT_ok {b : List (List Int)} {s : List Int} {q : Nat} (hB : IsB b) (hq : q < b.length) (hnn : ∀ v : Nat, v < b.length → v ≠ q → 0 ≤ getI s (v : Int)) : (setT b s q).length = b.length ∧ SetOk b.length (ed b) q (gf s) (gf (setT b s q)) ∧ Stab b.length (ed b) q (gf s) (gf (setT b s q)) := by
  obtain ⟨t, a, c, d⟩ := set_ex hB hq hnn
  rw [← setT_eq a c d]
  exact ⟨a, c, d⟩
/-- law 13 -/
theorem f13 {x y : AV} {b : List (List Int)} {s : List Int} {q : Int} (hx : IsLL x b) (hy : IsL y s) : ∃ m H', evF tab it m 13 [x, y, .int .i64 q] [] = some (.bool true, H') := by
  generalize hM : 60000 + 2 * (pot (b12 b).length (gf (dist (b12 b) q.toNat).1) (gf (s.take 12))).toNat = M
  refine ⟨M + 1, [], ?_⟩
  have h25 := fun H => awakeM (m := M) (by omega) H
  have fx := hx.free; have fy := hy.free
  have a1 := fun H => c18 hx (m := M) (by omega) H
  have a2 := fun H => c19 hy (m := M) (by omega) H
  have b1 := fun H => c18 (isLL_fz (b12 b)) (m := M) (by omega) H
  have b2 := fun H => c19 (isL_fz (s.take 12)) (m := M) (by omega) H
  rw [b12_idem] at b1
  simp only [List.take_take, Nat.min_self] at b2
  have lb : (b12 b).length ≤ 12 := by simp [b12]; omega
  have lb2 : ∀ l ∈ b12 b, l.length < 100 := fun l hl => by
    obtain ⟨r, _, rfl⟩ := List.mem_map.1 hl
    simp; omega
  have ls : (s.take 12).length ≤ 12 := by simp; omega
  generalize b12 b = B at *
  generalize s.take 12 = S at *
  have iB := isLL_fz B; have iS := isL_fz S
  have e21 := fun H => c21 iB iB ⟨by omega, lb2⟩ (m := M) (by omega) H
  have e22s := fun H => c22 iS iS (by omega) (m := M) (by omega) H
  have e22 := fun {x y : AV} {l l' : List Int} (hx : IsL x l) (hy : IsL y l') (hl : l.length < 100) H => c22 hx hy hl (m := M) (by omega) H
  have e23 := fun H => c23 iB (by omega) (m := M) (by omega) H
  have e24 := fun H => c24 iB iS (by omega) (m := M) (by omega) H
  have lB := fun H => p_lenLL (H := H) iB
  have lS := fun H => p_lenI (H := H) iS
  simp only [decide_true] at e21 e22s
  have fB := iB.free; have fS := iS.free
  by_cases hin : SetIn B S q
  · obtain ⟨h1, h2, h3, h4⟩ := hin
    obtain ⟨qn, rfl⟩ : ∃ k : Nat, q = (k : Int) := ⟨q.toNat, by omega⟩
    rw [Int.toNat_natCast] at hM
    have hnn : ∀ v : Nat, v < B.length → v ≠ qn → 0 ≤ getI S (v : Int) := fun v hv hvq => h4 v hv (by omega)
    have f47' := f47 iB iS h1 h2 (q := qn) (by omega) hnn (m := M) (by omega)
    have f48' := fun h5 => f48 iB iS h1 h2 (q := qn) (by omega) hnn h5 (m := M) (by omega)
    have hsv := inR_get h2
    have hSl := h2.1
    have hbd2 := fun (i : Nat) (hi : i ≤ B.length) => sumTo_le (f := fun i => if (i : Int) = (qn : Int) then 0 else gf S i) (M := 1048576) (n := i) fun j hj => by
      have := hsv j (by omega)
      unfold gf
      split <;> omega
    simp only [h1, h2, decide_true] at e23 e24
    have ff : idFreeL [fzLL B, fzL S, AV.int .i64 (qn : Int)] = true := by simp [idFreeL, AV.idFree, fB, fS]
    obtain ⟨hTl, -, -⟩ := setT_ok h1 (q := qn) (by omega) hnn
    have hAl := apl_len B S (setT B S qn)
    have gcL : ∀ (vl vt : AV) (e : Int) (bb : Bool) (z : Int) (i : Nat), vl.idFree = true → vt.idFree = true → gc 0 [.int .i64 (qn : Int), fzLL B, fzL S, vl, vt, .int .i64 e, .bool bb, .int .i64 z, .int .i64 (i : Int)] [] = some ([.int .i64 (qn : Int), fzLL B, fzL S, vl, vt, .int .i64 e, .bool bb, .int .i64 z, .int .i64 (i : Int)], []) := fun vl vt e bb z i hl ht => by simp [go_sem, fB, fS, hl, ht]
    by_cases h5 : oth B.length qn (gf S) ≤ 500
    · rw [if_pos h5] at f47'
      have e47 : ∀ H, callPure (evF tab it M) true 47 [fzLL B, fzL S, .int .i64 (qn : Int)] H = some (.tup [.rd 1 B.length (iL (apl B S (setT B S qn))), .rd 1 B.length (iL (setT B S qn)), .int .i64 0], H) := fun H => callPure_frz ff (by simp) f47' (frz_set hAl hTl)
      have e48 : ∀ H, callPure (evF tab it M) true 48 [fzLL B, fzL S, .int .i64 (qn : Int)] H = some (.tup [fzL (apl B S (setT B S qn)), .rd 1 B.length (iL (setT B S qn))], H) := fun H => callPure_frz ff (by simp) (f48' h5) (frz_set2 (isL_fz _).free hTl)
      have i1 := rd_isL hAl
      have i2 := rd_isL hTl
      have i3 := isL_fz (apl B S (setT B S qn))
      have e22a := fun H => e22 i1 i3 (by omega) H
      have e22b := fun H => e22 i2 i2 (by omega) H
      simp only [decide_true] at e22a e22b
      clear f47' f48' e22
      generalize apl B S (setT B S qn) = A at *
      generalize setT B S qn = T at *
      refine f_enter rfl rfl ?_
      generalize evF tab it M = call at *
      generalize hvl : AV.rd 1 B.length (iL A) = vl at *
      generalize hvt : AV.rd 1 B.length (iL T) = vt at *
      have fl := i1.free; have ft := i2.free
      generalize fzL A = vz at *
      generalize fzLL B = vB at *
      generalize fzL S = vS at *
      repeat' first
 | (apply s_mov; (focus ((conv => lhs; whnf); done)))
 | (apply s_gT; exact rfl)
 | (apply c_nil)
 | (apply s_pickF; exact rfl; (focus ((conv => lhs; whnf); done)))
 | (apply s_notT; exact rfl)
 | ((first | apply s_lss | apply s_leq | apply s_gtr | apply s_geq | apply s_eql | apply s_neq); exact rfl; all_goals (intro _; try (exfalso; omega)))
 | (apply s_cn; (focus (repeat (first | apply opds_nil | (apply opds_cons; (first | (focus ((conv => lhs; whnf); done)) | exact rfl))))); exact a1 _)
 | (apply s_cn; (focus (repeat (first | apply opds_nil | (apply opds_cons; (first | (focus ((conv => lhs; whnf); done)) | exact rfl))))); exact a2 _)
 | (apply s_cn; (focus (repeat (first | apply opds_nil | (apply opds_cons; (first | (focus ((conv => lhs; whnf); done)) | exact rfl))))); exact b1 _)
 | (apply s_cn; (focus (repeat (first | apply opds_nil | (apply opds_cons; (first | (focus ((conv => lhs; whnf); done)) | exact rfl))))); exact b2 _)
 | (apply s_cn; (focus (repeat (first | apply opds_nil | (apply opds_cons; (first | (focus ((conv => lhs; whnf); done)) | exact rfl))))); exact e47 _)
 | (apply s_cn; (focus (repeat (first | apply opds_nil | (apply opds_cons; (first | (focus ((conv => lhs; whnf); done)) | exact rfl))))); exact e21 _)
 | (apply s_cn; (focus (repeat (first | apply opds_nil | (apply opds_cons; (first | (focus ((conv => lhs; whnf); done)) | exact rfl))))); exact e22s _)
 | (apply s_cn; (focus (repeat (first | apply opds_nil | (apply opds_cons; (first | (focus ((conv => lhs; whnf); done)) | exact rfl))))); exact e23 _)
 | (apply s_cn; (focus (repeat (first | apply opds_nil | (apply opds_cons; (first | (focus ((conv => lhs; whnf); done)) | exact rfl))))); exact e24 _)
 | (apply s_pn; (focus (repeat (first | apply opds_nil | (apply opds_cons; (first | (focus ((conv => lhs; whnf); done)) | exact rfl))))); exact lB _)
 | (apply s_pd; (focus ((conv => lhs; whnf); done)))
 | (apply c_seq)
 | (apply c_reg)
 | (apply c_block)
 | (apply c_skip)
 | (apply c_condF; exact rfl)
 | (with_reducible apply k_c)
      all_goals try (exfalso; omega)
      refine c_loop ?_
      refine loop_gc (σ := Nat) (fun i => [.int .i64 (qn : Int), vB, vS, vl, vt, .int .i64 0, .bool false, .int .i64 (oth i qn (gf S)), .int .i64 (i : Int)]) (fun _ => []) (fun i => i ≤ B.length) (fun i => B.length - i) ?_ _ 0 _ _ (by omega) (by omega) (gcL _ _ _ _ _ 0 fl ft)
      intro i hi K hK
      have hb3 := hbd2 i hi
      have hK1 := hK (i + 1)
      have e1 : oth (i + 1) qn (gf S) = oth i qn (gf S) + (if (i : Int) = (qn : Int) then 0 else getI S (i : Int)) := rfl
      have e0 : oth i qn (gf S) = sumTo (fun i => if (i : Int) = (qn : Int) then 0 else gf S i) i := rfl
      rw [← e0] at hb3
      rw [e1] at hK1
      generalize hZ : oth i qn (gf S) = Z at *
      by_cases hin : i < B.length
      · have h1 := hsv i hin
        by_cases hiq : i = qn
        · subst hiq
          rw [if_pos rfl, Int.add_zero] at hK1
          repeat' first
 | (apply s_mov; (focus ((conv => lhs; whnf); done)))
 | (apply s_gT; exact rfl)
 | (apply s_gF; exact rfl)
 | (apply c_nil)
 | (apply s_pickT; exact rfl; (focus ((conv => lhs; whnf); done)))
 | (apply s_pickF; exact rfl; (focus ((conv => lhs; whnf); done)))
 | (apply s_notF; exact rfl)
 | ((first | apply s_lss | apply s_leq | apply s_gtr | apply s_geq | apply s_eql | apply s_neq); exact rfl; all_goals (intro _; try (exfalso; omega)))
 | ((first | apply s_add | apply s_sub); exact rfl; omega)
 | (apply s_pn; (focus (repeat (first | apply opds_nil | (apply opds_cons; (first | (focus ((conv => lhs; whnf); done)) | exact rfl))))); exact lS _)
 | (apply c_seq)
 | (apply c_reg)
 | (apply c_block)
 | (apply c_skip)
 | (apply c_condT; exact rfl)
 | (apply c_condF; exact rfl)
 | (with_reducible apply k_c)
          all_goals first | exact hK1 _ _ (by omega) (by omega) (gcL _ _ _ _ _ (i + 1) fl ft) | (exfalso; omega)
        · have h2 := hnn i hin hiq
          rw [if_neg (by omega)] at hK1
          repeat' first
 | (apply s_mov; (focus ((conv => lhs; whnf); done)))
 | (apply s_gT; exact rfl)
 | (apply c_nil)
 | (apply s_pickT; exact rfl; (focus ((conv => lhs; whnf); done)))
 | (apply s_notF; exact rfl)
 | ((first | apply s_lss | apply s_leq | apply s_gtr | apply s_geq | apply s_eql | apply s_neq); exact rfl; all_goals (intro _; try (exfalso; omega)))
 | ((first | apply s_add | apply s_sub); exact rfl; omega)
 | (apply s_pn; (focus (repeat (first | apply opds_nil | (apply opds_cons; (first | (focus ((conv => lhs; whnf); done)) | exact rfl))))); exact lS _)
 | (apply s_idx; (focus ((conv => lhs; whnf); done)); exact rfl; (first | assumption | (apply IsLL.at; assumption; omega)); omega)
 | (apply s_ldI; exact rfl; omega)
 | (apply c_seq)
 | (apply c_reg)
 | (apply c_block)
 | (apply c_skip)
 | (apply c_condT; exact rfl)
 | (apply c_condF; exact rfl)
 | (with_reducible apply k_c)
          all_goals first | exact hK1 _ _ (by omega) (by omega) (gcL _ _ _ _ _ (i + 1) fl ft) | (exfalso; omega)
      · obtain rfl : i = B.length := by omega
        repeat' first
 | (apply s_mov; (focus ((conv => lhs; whnf); done)))
 | (apply s_gT; exact rfl)
 | (apply s_gF; exact rfl)
 | (apply c_nil)
 | (apply s_pickT; exact rfl; (focus ((conv => lhs; whnf); done)))
 | (apply s_pickF; exact rfl; (focus ((conv => lhs; whnf); done)))
 | ((first | apply s_lss | apply s_leq | apply s_gtr | apply s_geq | apply s_eql | apply s_neq); exact rfl; all_goals (intro _; try (exfalso; omega)))
 | (apply s_pn; (focus (repeat (first | apply opds_nil | (apply opds_cons; (first | (focus ((conv => lhs; whnf); done)) | exact rfl))))); exact lS _)
 | (apply s_cn; (focus (repeat (first | apply opds_nil | (apply opds_cons; (first | (focus ((conv => lhs; whnf); done)) | exact rfl))))); exact e48 _)
 | (apply s_cn; (focus (repeat (first | apply opds_nil | (apply opds_cons; (first | (focus ((conv => lhs; whnf); done)) | exact rfl))))); exact e22a _)
 | (apply s_cn; (focus (repeat (first | apply opds_nil | (apply opds_cons; (first | (focus ((conv => lhs; whnf); done)) | exact rfl))))); exact e22b _)
 | (apply s_cn; (focus (repeat (first | apply opds_nil | (apply opds_cons; (first | (focus ((conv => lhs; whnf); done)) | exact rfl))))); exact h25 _)
 | (apply s_pd; (focus ((conv => lhs; whnf); done)))
 | (apply c_seq)
 | (apply c_reg)
 | (apply c_exitH)
 | (apply c_skip)
 | (apply c_ret)
 | (apply c_condF; exact rfl)
 | (apply c_preF; (focus (repeat (first | apply looks_nil | (apply looks_cons; (focus ((conv => lhs; whnf); done)))))); (focus (simp [idFreeL, AV.idFree, *]; done)))
 | (with_reducible apply k_c)
        all_goals first | (exfalso; omega) | exact fin_t (by (conv => lhs; whnf)) (by rfl) rfl
    · rw [if_neg h5] at f47'
      have e47 : ∀ H, callPure (evF tab it M) true 47 [fzLL B, fzL S, .int .i64 (qn : Int)] H = some (.tup [.nilS, .nilS, .int .i64 5], H) := fun H => callPure_free ff (by simp) f47' rfl
      clear f47' f48' e22
      refine f_enter rfl rfl ?_
      generalize evF tab it M = call at *
      generalize fzLL B = vB at *
      generalize fzL S = vS at *
      repeat' first
 | (apply s_mov; (focus ((conv => lhs; whnf); done)))
 | (apply s_gT; exact rfl)
 | (apply c_nil)
 | (apply s_pickF; exact rfl; (focus ((conv => lhs; whnf); done)))
 | (apply s_notT; exact rfl)
 | ((first | apply s_lss | apply s_leq | apply s_gtr | apply s_geq | apply s_eql | apply s_neq); exact rfl; all_goals (intro _; try (exfalso; omega)))
 | (apply s_cn; (focus (repeat (first | apply opds_nil | (apply opds_cons; (first | (focus ((conv => lhs; whnf); done)) | exact rfl))))); exact a1 _)
 | (apply s_cn; (focus (repeat (first | apply opds_nil | (apply opds_cons; (first | (focus ((conv => lhs; whnf); done)) | exact rfl))))); exact a2 _)
 | (apply s_cn; (focus (repeat (first | apply opds_nil | (apply opds_cons; (first | (focus ((conv => lhs; whnf); done)) | exact rfl))))); exact b1 _)
 | (apply s_cn; (focus (repeat (first | apply opds_nil | (apply opds_cons; (first | (focus ((conv => lhs; whnf); done)) | exact rfl))))); exact b2 _)
 | (apply s_cn; (focus (repeat (first | apply opds_nil | (apply opds_cons; (first | (focus ((conv => lhs; whnf); done)) | exact rfl))))); exact e47 _)
 | (apply s_cn; (focus (repeat (first | apply opds_nil | (apply opds_cons; (first | (focus ((conv => lhs; whnf); done)) | exact rfl))))); exact e21 _)
 | (apply s_cn; (focus (repeat (first | apply opds_nil | (apply opds_cons; (first | (focus ((conv => lhs; whnf); done)) | exact rfl))))); exact e22s _)
 | (apply s_cn; (focus (repeat (first | apply opds_nil | (apply opds_cons; (first | (focus ((conv => lhs; whnf); done)) | exact rfl))))); exact e23 _)
 | (apply s_cn; (focus (repeat (first | apply opds_nil | (apply opds_cons; (first | (focus ((conv => lhs; whnf); done)) | exact rfl))))); exact e24 _)
 | (apply s_pn; (focus (repeat (first | apply opds_nil | (apply opds_cons; (first | (focus ((conv => lhs; whnf); done)) | exact rfl))))); exact lB _)
 | (apply s_pd; (focus ((conv => lhs; whnf); done)))
 | (apply c_seq)
 | (apply c_reg)
 | (apply c_block)
 | (apply c_skip)
 | (apply c_condF; exact rfl)
 | (with_reducible apply k_c)
      all_goals try (exfalso; omega)
      refine c_loop ?_
      refine loop_gc (σ := Nat) (fun i => [.int .i64 (qn : Int), vB, vS, .nilS, .nilS, .int .i64 5, .bool false, .int .i64 (oth i qn (gf S)), .int .i64 (i : Int)]) (fun _ => []) (fun i => i ≤ B.length) (fun i => B.length - i) ?_ _ 0 _ _ (by omega) (by omega) (gcL _ _ _ _ _ 0 rfl rfl)
      intro i hi K hK
      have hb3 := hbd2 i hi
      have hK1 := hK (i + 1)
      have e1 : oth (i + 1) qn (gf S) = oth i qn (gf S) + (if (i : Int) = (qn : Int) then 0 else getI S (i : Int)) := rfl
      have e0 : oth i qn (gf S) = sumTo (fun i => if (i : Int) = (qn : Int) then 0 else gf S i) i := rfl
      rw [← e0] at hb3
      rw [e1] at hK1
      generalize hZ : oth i qn (gf S) = Z at *
      by_cases hin : i < B.length
      · have h1 := hsv i hin
        by_cases hiq : i = qn
        · subst hiq
          rw [if_pos rfl, Int.add_zero] at hK1
          repeat' first
 | (apply s_mov; (focus ((conv => lhs; whnf); done)))
 | (apply s_gT; exact rfl)
 | (apply s_gF; exact rfl)
 | (apply c_nil)
 | (apply s_pickT; exact rfl; (focus ((conv => lhs; whnf); done)))
 | (apply s_pickF; exact rfl; (focus ((conv => lhs; whnf); done)))
 | (apply s_notF; exact rfl)
 | ((first | apply s_lss | apply s_leq | apply s_gtr | apply s_geq | apply s_eql | apply s_neq); exact rfl; all_goals (intro _; try (exfalso; omega)))
 | ((first | apply s_add | apply s_sub); exact rfl; omega)
 | (apply s_pn; (focus (repeat (first | apply opds_nil | (apply opds_cons; (first | (focus ((conv => lhs; whnf); done)) | exact rfl))))); exact lS _)
 | (apply c_seq)
 | (apply c_reg)
 | (apply c_block)
 | (apply c_skip)
 | (apply c_condT; exact rfl)
 | (apply c_condF; exact rfl)
 | (with_reducible apply k_c)
          all_goals first | exact hK1 _ _ (by omega) (by omega) (gcL _ _ _ _ _ (i + 1) rfl rfl) | (exfalso; omega)
        · have h2 := hnn i hin hiq
          rw [if_neg (by omega)] at hK1
          repeat' first
 | (apply s_mov; (focus ((conv => lhs; whnf); done)))
 | (apply s_gT; exact rfl)
 | (apply c_nil)
 | (apply s_pickT; exact rfl; (focus ((conv => lhs; whnf); done)))
 | (apply s_notF; exact rfl)
 | ((first | apply s_lss | apply s_leq | apply s_gtr | apply s_geq | apply s_eql | apply s_neq); exact rfl; all_goals (intro _; try (exfalso; omega)))
 | ((first | apply s_add | apply s_sub); exact rfl; omega)
 | (apply s_pn; (focus (repeat (first | apply opds_nil | (apply opds_cons; (first | (focus ((conv => lhs; whnf); done)) | exact rfl))))); exact lS _)
 | (apply s_idx; (focus ((conv => lhs; whnf); done)); exact rfl; (first | assumption | (apply IsLL.at; assumption; omega)); omega)
 | (apply s_ldI; exact rfl; omega)
 | (apply c_seq)
 | (apply c_reg)
 | (apply c_block)
 | (apply c_skip)
 | (apply c_condT; exact rfl)
 | (apply c_condF; exact rfl)
 | (with_reducible apply k_c)
          all_goals first | exact hK1 _ _ (by omega) (by omega) (gcL _ _ _ _ _ (i + 1) rfl rfl) | (exfalso; omega)
      · obtain rfl : i = B.length := by omega
        repeat' first
 | (apply s_mov; (focus ((conv => lhs; whnf); done)))
 | (apply s_gT; exact rfl)
 | (apply s_gF; exact rfl)
 | (apply c_nil)
 | (apply s_pickT; exact rfl; (focus ((conv => lhs; whnf); done)))
 | (apply s_pickF; exact rfl; (focus ((conv => lhs; whnf); done)))
 | ((first | apply s_lss | apply s_leq | apply s_gtr | apply s_geq | apply s_eql | apply s_neq); exact rfl; all_goals (intro _; try (exfalso; omega)))
 | (apply s_pn; (focus (repeat (first | apply opds_nil | (apply opds_cons; (first | (focus ((conv => lhs; whnf); done)) | exact rfl))))); exact lS _)
 | (apply s_cn; (focus (repeat (first | apply opds_nil | (apply opds_cons; (first | (focus ((conv => lhs; whnf); done)) | exact rfl))))); exact h25 _)
 | (apply s_pd; (focus ((conv => lhs; whnf); done)))
 | (apply c_seq)
 | (apply c_reg)
 | (apply c_exitH)
 | (apply c_skip)
 | (apply c_ret)
 | (apply c_condT; exact rfl)
 | (apply c_condF; exact rfl)
 | (apply c_preF; (focus (repeat (first | apply looks_nil | (apply looks_cons; (focus ((conv => lhs; whnf); done)))))); (focus (simp [idFreeL, AV.idFree, *]; done)))
 | (with_reducible apply k_c)
        all_goals first | (exfalso; omega) | exact fin_t (by (conv => lhs; whnf)) (by rfl) rfl
  · have e47 : ∀ H, callPure (evF tab it M) true 47 [fzLL B, fzL S, .int .i64 q] H = some (.tup [.nilS, .nilS, .int .i64 2], H) := fun H => callPure_free (by simp [idFreeL, AV.idFree, fB, fS]) (by simp) (f47e iB iS (by omega) (by omega) hin (m := M) (by omega)) rfl
    have gcL : ∀ (e : Int) (bb : Bool) (z : Int) (i : Nat), gc 0 [.int .i64 q, fzLL B, fzL S, .nilS, .nilS, .int .i64 e, .bool bb, .int .i64 z, .int .i64 (i : Int)] [] = some ([.int .i64 q, fzLL B, fzL S, .nilS, .nilS, .int .i64 e, .bool bb, .int .i64 z, .int .i64 (i : Int)], []) := fun e bb z i => by simp [go_sem, fB, fS]
    clear e22
    refine f_enter rfl rfl ?_
    generalize evF tab it M = call at *
    generalize fzLL B = vB at *
    generalize fzL S = vS at *
    by_cases hok : (IsB B ∧ InR B.length 1048576 S) ∧ (0 ≤ q ∧ q < B.length)
    · obtain ⟨⟨h1, h2⟩, h3⟩ := hok
      have hsv := inR_get h2
      have hSl := h2.1
      have hbd2 := fun (i : Nat) (hi : i ≤ B.length) => sumTo_le (f := fun i => if (i : Int) = q then 0 else gf S i) (M := 1048576) (n := i) fun j hj => by
        have := hsv j (by omega)
        unfold gf
        split <;> omega
      have hneg : ∃ v : Nat, v < B.length ∧ (v : Int) ≠ q ∧ getI S (v : Int) < 0 := by
        apply Classical.byContradiction
        intro hc
        exact hin ⟨h1, h2, h3, fun v hv hvq => Classical.byContradiction fun h4 => hc ⟨v, hv, hvq, by omega⟩⟩
      simp only [h1, h2, decide_true] at e23 e24
      repeat' first
 | (apply s_mov; (focus ((conv => lhs; whnf); done)))
 | (apply s_gT; exact rfl)
 | (apply c_nil)
 | (apply s_pickF; exact rfl; (focus ((conv => lhs; whnf); done)))
 | (apply s_notT; exact rfl)
 | ((first | apply s_lss | apply s_leq | apply s_gtr | apply s_geq | apply s_eql | apply s_neq); exact rfl; all_goals (intro _; try (exfalso; omega)))
 | (apply s_cn; (focus (repeat (first | apply opds_nil | (apply opds_cons; (first | (focus ((conv => lhs; whnf); done)) | exact rfl))))); exact a1 _)
 | (apply s_cn; (focus (repeat (first | apply opds_nil | (apply opds_cons; (first | (focus ((conv => lhs; whnf); done)) | exact rfl))))); exact a2 _)
 | (apply s_cn; (focus (repeat (first | apply opds_nil | (apply opds_cons; (first | (focus ((conv => lhs; whnf); done)) | exact rfl))))); exact b1 _)
 | (apply s_cn; (focus (repeat (first | apply opds_nil | (apply opds_cons; (first | (focus ((conv => lhs; whnf); done)) | exact rfl))))); exact b2 _)
 | (apply s_cn; (focus (repeat (first | apply opds_nil | (apply opds_cons; (first | (focus ((conv => lhs; whnf); done)) | exact rfl))))); exact e47 _)
 | (apply s_cn; (focus (repeat (first | apply opds_nil | (apply opds_cons; (first | (focus ((conv => lhs; whnf); done)) | exact rfl))))); exact e21 _)
 | (apply s_cn; (focus (repeat (first | apply opds_nil | (apply opds_cons; (first | (focus ((conv => lhs; whnf); done)) | exact rfl))))); exact e22s _)
 | (apply s_cn; (focus (repeat (first | apply opds_nil | (apply opds_cons; (first | (focus ((conv => lhs; whnf); done)) | exact rfl))))); exact e23 _)
 | (apply s_cn; (focus (repeat (first | apply opds_nil | (apply opds_cons; (first | (focus ((conv => lhs; whnf); done)) | exact rfl))))); exact e24 _)
 | (apply s_pn; (focus (repeat (first | apply opds_nil | (apply opds_cons; (first | (focus ((conv => lhs; whnf); done)) | exact rfl))))); exact lB _)
 | (apply s_pd; (focus ((conv => lhs; whnf); done)))
 | (apply c_seq)
 | (apply c_reg)
 | (apply c_block)
 | (apply c_skip)
 | (apply c_condF; exact rfl)
 | (with_reducible apply k_c)
      all_goals try (exfalso; omega)
      refine c_loop ?_
      refine loop_gc (σ := Nat × Bool) (fun p => [.int .i64 q, vB, vS, .nilS, .nilS, .int .i64 2, .bool p.2, .int .i64 (oth p.1 q (gf S)), .int .i64 (p.1 : Int)]) (fun _ => []) (fun p => p.1 ≤ B.length ∧ (p.2 = false → ∀ j : Nat, j < p.1 → (j : Int) ≠ q → 0 ≤ getI S (j : Int))) (fun p => B.length - p.1) ?_ _ (0, false) _ _ ⟨by omega, fun _ j hj => by omega⟩ (by show B.length - 0 < _; omega) (gcL _ false _ 0)
      intro ⟨i, bb⟩ ⟨hi, hnn⟩ K hK
      dsimp only at hi hnn hK ⊢
      have hb3 := hbd2 i hi
      have hK1 := fun c => hK (i + 1, c)
      dsimp only at hK1
      have e1 : oth (i + 1) q (gf S) = oth i q (gf S) + (if (i : Int) = q then 0 else getI S (i : Int)) := rfl
      have e0 : oth i q (gf S) = sumTo (fun i => if (i : Int) = q then 0 else gf S i) i := rfl
      rw [← e0] at hb3
      rw [e1] at hK1
      generalize hZ : oth i q (gf S) = Z at *
      cases bb with
      | true =>
        repeat' first
 | (apply s_mov; (focus ((conv => lhs; whnf); done)))
 | (apply s_gT; exact rfl)
 | (apply s_gF; exact rfl)
 | (apply c_nil)
 | (apply s_pickT; exact rfl; (focus ((conv => lhs; whnf); done)))
 | (apply s_pickF; exact rfl; (focus ((conv => lhs; whnf); done)))
 | (apply s_notT; exact rfl)
 | ((first | apply s_lss | apply s_leq | apply s_gtr | apply s_geq | apply s_eql | apply s_neq); exact rfl; all_goals (intro _; try (exfalso; omega)))
 | (apply s_pn; (focus (repeat (first | apply opds_nil | (apply opds_cons; (first | (focus ((conv => lhs; whnf); done)) | exact rfl))))); exact lS _)
 | (apply s_cn; (focus (repeat (first | apply opds_nil | (apply opds_cons; (first | (focus ((conv => lhs; whnf); done)) | exact rfl))))); exact h25 _)
 | (apply s_pd; (focus ((conv => lhs; whnf); done)))
 | (apply c_seq)
 | (apply c_reg)
 | (apply c_exitH)
 | (apply c_ret)
 | (apply c_condT; exact rfl)
 | (apply c_condF; exact rfl)
 | (apply c_preF; (focus (repeat (first | apply looks_nil | (apply looks_cons; (focus ((conv => lhs; whnf); done)))))); (focus (simp [idFreeL, AV.idFree, *]; done)))
 | (with_reducible apply k_c)
        all_goals first | (exfalso; omega) | exact fin_t (by (conv => lhs; whnf)) (by rfl) rfl
      | false =>
        by_cases hin : i < B.length
        · have h1 := hsv i hin
          by_cases hiq : (i : Int) = q
          · rw [if_pos hiq, Int.add_zero] at hK1
            repeat' first
 | (apply s_mov; (focus ((conv => lhs; whnf); done)))
 | (apply s_gT; exact rfl)
 | (apply s_gF; exact rfl)
 | (apply c_nil)
 | (apply s_pickT; exact rfl; (focus ((conv => lhs; whnf); done)))
 | (apply s_pickF; exact rfl; (focus ((conv => lhs; whnf); done)))
 | (apply s_notF; exact rfl)
 | ((first | apply s_lss | apply s_leq | apply s_gtr | apply s_geq | apply s_eql | apply s_neq); exact rfl; all_goals (intro _; try (exfalso; omega)))
 | ((first | apply s_add | apply s_sub); exact rfl; omega)
 | (apply s_pn; (focus (repeat (first | apply opds_nil | (apply opds_cons; (first | (focus ((conv => lhs; whnf); done)) | exact rfl))))); exact lS _)
 | (apply c_seq)
 | (apply c_reg)
 | (apply c_block)
 | (apply c_skip)
 | (apply c_condT; exact rfl)
 | (apply c_condF; exact rfl)
 | (with_reducible apply k_c)
            all_goals first
              | (refine hK1 false _ _ ⟨by omega, fun _ j hj hjq => ?_⟩ (by omega) (gcL _ _ _ (i + 1))
                 rcases (by omega : j < i ∨ j = i) with h | rfl
                 · exact hnn rfl j h hjq
                 · exact absurd hiq hjq)
              | (exfalso; omega)
          · rw [if_neg hiq] at hK1
            repeat' first
 | (apply s_mov; (focus ((conv => lhs; whnf); done)))
 | (apply s_gT; exact rfl)
 | (apply c_nil)
 | (apply s_pickT; exact rfl; (focus ((conv => lhs; whnf); done)))
 | (apply s_notF; exact rfl)
 | ((first | apply s_lss | apply s_leq | apply s_gtr | apply s_geq | apply s_eql | apply s_neq); exact rfl; all_goals (intro _; try (exfalso; omega)))
 | ((first | apply s_add | apply s_sub); exact rfl; omega)
 | (apply s_pn; (focus (repeat (first | apply opds_nil | (apply opds_cons; (first | (focus ((conv => lhs; whnf); done)) | exact rfl))))); exact lS _)
 | (apply s_idx; (focus ((conv => lhs; whnf); done)); exact rfl; (first | assumption | (apply IsLL.at; assumption; omega)); omega)
 | (apply s_ldI; exact rfl; omega)
 | (apply c_seq)
 | (apply c_reg)
 | (apply c_block)
 | (apply c_skip)
 | (apply c_condT; exact rfl)
 | (apply c_condF; exact rfl)
 | (with_reducible apply k_c)
            all_goals first
              | (refine hK1 false _ _ ⟨by omega, fun _ j hj hjq => ?_⟩ (by omega) (gcL _ _ _ (i + 1))
                 rcases (by omega : j < i ∨ j = i) with h | rfl
                 · exact hnn rfl j h hjq
                 · omega)
              | (refine hK1 true _ _ ⟨by omega, fun e => by cases e⟩ (by omega) (gcL _ _ _ (i + 1)); done)
              | (exfalso; omega)
        · exfalso
          obtain ⟨v, hv, hvq, hlt⟩ := hneg
          have := hnn rfl v (by omega) hvq
          omega
    · have key : ∀ (res : Go.AM.R), True := fun _ => trivial
      by_cases h1 : IsB B <;> by_cases h2 : InR B.length 1048576 S <;> simp only [h1, h2, decide_true, decide_false] at e23 e24
      all_goals
        repeat' first
 | (apply s_mov; (focus ((conv => lhs; whnf); done)))
 | (apply s_gT; exact rfl)
 | (apply s_gF; exact rfl)
 | (apply s_gFD; exact rfl)
 | (apply c_nil)
 | (apply s_pickT; exact rfl; (focus ((conv => lhs; whnf); done)))
 | (apply s_pickF; exact rfl; (focus ((conv => lhs; whnf); done)))
 | (apply s_notT; exact rfl)
 | (apply s_notF; exact rfl)
 | ((first | apply s_lss | apply s_leq | apply s_gtr | apply s_geq | apply s_eql | apply s_neq); exact rfl; all_goals (intro _; try (exfalso; omega)))
 | (apply s_cn; (focus (repeat (first | apply opds_nil | (apply opds_cons; (first | (focus ((conv => lhs; whnf); done)) | exact rfl))))); exact a1 _)
 | (apply s_cn; (focus (repeat (first | apply opds_nil | (apply opds_cons; (first | (focus ((conv => lhs; whnf); done)) | exact rfl))))); exact a2 _)
 | (apply s_cn; (focus (repeat (first | apply opds_nil | (apply opds_cons; (first | (focus ((conv => lhs; whnf); done)) | exact rfl))))); exact b1 _)
 | (apply s_cn; (focus (repeat (first | apply opds_nil | (apply opds_cons; (first | (focus ((conv => lhs; whnf); done)) | exact rfl))))); exact b2 _)
 | (apply s_cn; (focus (repeat (first | apply opds_nil | (apply opds_cons; (first | (focus ((conv => lhs; whnf); done)) | exact rfl))))); exact e47 _)
 | (apply s_cn; (focus (repeat (first | apply opds_nil | (apply opds_cons; (first | (focus ((conv => lhs; whnf); done)) | exact rfl))))); exact e21 _)
 | (apply s_cn; (focus (repeat (first | apply opds_nil | (apply opds_cons; (first | (focus ((conv => lhs; whnf); done)) | exact rfl))))); exact e22s _)
 | (apply s_cn; (focus (repeat (first | apply opds_nil | (apply opds_cons; (first | (focus ((conv => lhs; whnf); done)) | exact rfl))))); exact e23 _)
 | (apply s_cn; (focus (repeat (first | apply opds_nil | (apply opds_cons; (first | (focus ((conv => lhs; whnf); done)) | exact rfl))))); exact e24 _)
 | (apply s_pn; (focus (repeat (first | apply opds_nil | (apply opds_cons; (first | (focus ((conv => lhs; whnf); done)) | exact rfl))))); exact lB _)
 | (apply s_pd; (focus ((conv => lhs; whnf); done)))
 | (apply c_seq)
 | (apply c_reg)
 | (apply c_block)
 | (apply c_skip)
 | (apply c_condF; exact rfl)
 | (with_reducible apply k_c)
      all_goals first
        | (exfalso; exact hok ⟨⟨h1, h2⟩, by omega⟩)
        | (refine c_loop ?_
           refine loop_gc (σ := Unit) (fun _ => [.int .i64 q, vB, vS, .nilS, .nilS, .int .i64 2, .bool true, .int .i64 0, .int .i64 0]) (fun _ => []) (fun _ => True) (fun _ => 0) ?_ _ () _ _ trivial (by omega) (gcL _ true _ 0)
           intro _ _ K hK
           skip)
      all_goals
        repeat' first
 | (apply s_mov; (focus ((conv => lhs; whnf); done)))
 | (apply s_gT; exact rfl)
 | (apply s_gF; exact rfl)
 | (apply c_nil)
 | (apply s_pickT; exact rfl; (focus ((conv => lhs; whnf); done)))
 | (apply s_pickF; exact rfl; (focus ((conv => lhs; whnf); done)))
 | (apply s_notT; exact rfl)
 | ((first | apply s_lss | apply s_leq | apply s_gtr | apply s_geq | apply s_eql | apply s_neq); exact rfl; all_goals (intro _; try (exfalso; omega)))
 | (apply s_pn; (focus (repeat (first | apply opds_nil | (apply opds_cons; (first | (focus ((conv => lhs; whnf); done)) | exact rfl))))); exact lS _)
 | (apply s_cn; (focus (repeat (first | apply opds_nil | (apply opds_cons; (first | (focus ((conv => lhs; whnf); done)) | exact rfl))))); exact h25 _)
 | (apply s_pd; (focus ((conv => lhs; whnf); done)))
 | (apply c_seq)
 | (apply c_reg)
 | (apply c_exitH)
 | (apply c_ret)
 | (apply c_condT; exact rfl)
 | (apply c_condF; exact rfl)
 | (apply c_preF; (focus (repeat (first | apply looks_nil | (apply looks_cons; (focus ((conv => lhs; whnf); done)))))); (focus (simp [idFreeL, AV.idFree, *]; done)))
 | (with_reducible apply k_c)
      all_goals first | (exfalso; omega) | exact fin_t (by (conv => lhs; whnf)) (by rfl) rfl
end Go.AM.Ch
