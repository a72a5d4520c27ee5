/- A part of the proof: U35. -/
import Derived.Test.YtmegimhfoedcdaaU34
set_option linter.unusedSectionVars false
set_option linter.unusedVariables false
set_option linter.unusedSimpArgs false
namespace Go.AM.Ch
attribute [local go_sem] gc subHeap reach_skip ren_free reach_new reach_newp reach_end rangeL roots boxCells nodupB posOf renL AV.ren pickO renH renO looks look bindEnv envOf reach_int reach_bool reach_nilS reach_rd putRow cells_sl cells_int cells_bool cells_nilS cells_rd cells_agg reach_agg reach_tup idFreeL idf_sl idf_ptr idf_int idf_bool idf_nilS idf_rd reach_fn reach_mp cells_fn cells_ptr cells_mp idf_mp idf_fn idf_agg idf_tup
set_option maxHeartbeats 8000000
/-- what small asks: only q may have many chips -/
structure Near (n q : Nat) (l : List Int) : Prop where
  len : l.length = n
  oth : ∀ v : Nat, v < n → v ≠ q → -100 ≤ getI l (v : Int) ∧ getI l (v : Int) ≤ 100
  own : -1125899906842624 ≤ getI l (q : Int) ∧ getI l (q : Int) ≤ 1125899906842624
theorem Near.all {n q : Nat} {l : List Int} (h : Near n q l) : ∀ v : Nat, v < n → -1125899906842624 ≤ getI l (v : Int) ∧ getI l (v : Int) ≤ 1125899906842624 := fun v hv => by
  by_cases e : v = q
  · subst e; exact h.own
  · have := h.oth v hv e; omega
theorem p_negI {H : Heap} {a : Int} (h : -9223372036854775808 < a ∧ a < 9223372036854775808) : evP H (.un .neg) [.int .i64 a] = some (.int .i64 (-a)) := by
  simp only [evP]; rw [wrapI (by omega)]; simp
/-- pay -/
theorem f105 {x y : AV} {b : List (List Int)} {l : List Int} {q : Nat} (hx : IsLL x b) (hy : IsL y l) (hB : IsB b) (hq : q < b.length) (hl : Near b.length q l) {m : Nat} (hm : 2200 ≤ m) :
    evF tab it m 105 [x, y, .int .i64 (q : Int)] [] = some (.sl 0 1 0 b.length, [some (.data (iL (payL b l q)))]) := by
  obtain ⟨m, rfl⟩ : ∃ j, m = j + 1 := ⟨m - 1, by omega⟩
  have fx := hx.free; have fy := hy.free
  have hn1 := hB.n1; have hn2 := hB.n2
  have hbd := hB.bd
  have g := gr_of hB
  have hd := dist_dst hB hq
  have hfl := dist_len b q
  have lx : ∀ H, evP H .len [x] = some (.int .i64 ((b.length : Nat) : Int)) := fun H => by cases hx <;> rfl
  have e84 := fun H => c84 hx hbd hq (m := m) (by omega) H
  have if84 : IsL (.rd 1 (dist b q).1.length (iL (dist b q).1)) (dist b q).1 := .rd _
  have e112 := fun H => c112 if84 (by omega) (by omega) (m := m) (by omega) H
  have mk := fun call H => @e_mkI call H b.length (by unfold most; omega)
  have hfar : ∀ v : Nat, v < b.length → 0 ≤ getI (dist b q).1 (v : Int) ∧ getI (dist b q).1 (v : Int) ≤ b.length := fun v hv => ⟨hd.nn hv, hd.le v hv⟩
  have hmx := (maxTo_le (dist b q).1 b.length (b.length - 1)).2 fun j hj => (hfar j (by omega)).2
  have hmx0 : 0 ≤ maxTo (dist b q).1 (b.length - 1) := by
    have := (maxTo_le (dist b q).1 (maxTo (dist b q).1 (b.length - 1)) (b.length - 1)).1 (Int.le_refl _) q (by omega)
    have h0 := hd.zero
    unfold gf at h0
    omega
  have hmxa : ∀ v : Nat, v < b.length → getI (dist b q).1 (v : Int) ≤ maxTo (dist b q).1 (b.length - 1) := fun v hv => (maxTo_le (dist b q).1 (maxTo (dist b q).1 (b.length - 1)) (b.length - 1)).1 (Int.le_refl _) v (by omega)
  have hgD : ∀ v : Nat, gf (dist b q).1 v = getI (dist b q).1 (v : Int) := fun _ => rfl
  rw [hfl] at e112
  have hRl := payL_len b l q
  have hRg := fun (j : Nat) (hj : j < b.length) => payL_get (b := b) (l := l) (q := q) hj
  have ff := if84.free
  have hln := hl.len
  refine f_enter rfl rfl ?_
  have e55 := fun (t : List Int) (ht : t.length = b.length) h1 (H : Heap) (ha : frzL H 40 [x, y, .sl 0 1 0 b.length] = some [x, y, .rd 1 b.length (iL t)]) => c55p hx hy (rd_isL ht) hbd hln ht h1 (fun v hv => by have := hl.all v hv; omega) (m := m) (by omega) H ha
  have e113 := fun (a c : Int) (hc : 1 ≤ c ∧ c ≤ 1000) (ha : -4611686018427387904 ≤ a ∧ a ≤ 2305843009213693952) (H : Heap) => c113 hc ha (m := m) (by omega) H
  generalize hcall : evF tab it m = call at *
  generalize hF : (dist b q).1 = F at *
  generalize hmm : maxTo F (b.length - 1) = mx at *
  generalize hRR : payL b l q = R at *
  rw [hfl] at e84 if84 ff
  generalize hvf : AV.rd 1 b.length (iL F) = vf at *
  have gcO : ∀ (d : Int) (C : List AV), gc 0 [x, y, vf, .sl 0 1 0 b.length, .int .i64 d] [some (.data C)] = some ([x, y, vf, .sl 0 1 0 b.length, .int .i64 d], [some (.data C)]) := fun d C => by simp [go_sem, fx, fy, ff]
  have gcA : ∀ (d T : Int) (vn : AV) (v : Nat) (C : List AV), vn.idFree = true → gc 0 [x, y, vf, .sl 0 1 0 b.length, .int .i64 d, vn, .int .i64 T, .int .i64 ((b.length : Nat) : Int), .int .i64 (v : Int)] [some (.data C)] = some ([x, y, vf, .sl 0 1 0 b.length, .int .i64 d, vn, .int .i64 T, .int .i64 ((b.length : Nat) : Int), .int .i64 (v : Int)], [some (.data C)]) := fun d T vn v C h => by simp [go_sem, fx, fy, ff, h]
  have gcG : ∀ (d T G : Int) (vn vr : AV) (v u : Nat) (C : List AV), vn.idFree = true → vr.idFree = true → gc 0 [x, y, vf, .sl 0 1 0 b.length, .int .i64 d, vn, .int .i64 T, .int .i64 (v : Int), .int .i64 G, .int .i64 ((b.length : Nat) : Int), .int .i64 (v : Int), vr, .int .i64 ((b.length : Nat) : Int), .int .i64 (u : Int)] [some (.data C)] = some ([x, y, vf, .sl 0 1 0 b.length, .int .i64 d, vn, .int .i64 T, .int .i64 (v : Int), .int .i64 G, .int .i64 ((b.length : Nat) : Int), .int .i64 (v : Int), vr, .int .i64 ((b.length : Nat) : Int), .int .i64 (u : Int)], [some (.data C)]) := fun d T G vn vr v u C h h2 => by simp [go_sem, fx, fy, ff, h, h2]
  have gcB : ∀ (d T : Int) (v : Nat) (C : List AV), gc 0 [x, y, vf, .sl 0 1 0 b.length, .int .i64 d, .int .i64 T, .int .i64 ((b.length : Nat) : Int), .int .i64 (v : Int)] [some (.data C)] = some ([x, y, vf, .sl 0 1 0 b.length, .int .i64 d, .int .i64 T, .int .i64 ((b.length : Nat) : Int), .int .i64 (v : Int)], [some (.data C)]) := fun d T v C => by simp [go_sem, fx, fy, ff]
  skip
  repeat' first
 | (apply s_mov; (focus ((conv => lhs; whnf); done)))
 | (apply c_nil)
 | (apply s_cn; (focus (repeat (first | apply opds_nil | (apply opds_cons; (first | (focus ((conv => lhs; whnf); done)) | exact rfl))))); exact e84 _)
 | (apply s_pn; (focus (repeat (first | apply opds_nil | (apply opds_cons; (first | (focus ((conv => lhs; whnf); done)) | exact rfl))))); exact lx _)
 | (apply s_en; (focus (repeat (first | apply opds_nil | (apply opds_cons; (first | (focus ((conv => lhs; whnf); done)) | exact rfl))))); exact mk _ _)
 | (apply s_cn; (focus (repeat (first | apply opds_nil | (apply opds_cons; (first | (focus ((conv => lhs; whnf); done)) | exact rfl))))); exact e112 _)
 | (apply c_seq)
 | (apply c_reg)
 | (apply c_block)
 | (with_reducible apply k_c)
  refine c_loop ?_
  refine loop_gc (σ := Nat × List Int) (fun p => [x, y, vf, .sl 0 1 0 b.length, .int .i64 (p.1 : Int)]) (fun p => [some (.data (iL p.2))])
    (fun p => (p.1 : Int) ≤ mx ∧ p.2.length = b.length ∧ PayOk b.length (ed b) (gf F) (gf l) p.1 (payB b.length 100 (mx.toNat - p.1)) (gf p.2) ∧ ∀ j, j < b.length → payF b.length (ed b) (gf F) (gf l) p.1 (gf p.2) j = getI R (j : Int)) (fun p => p.1) ?_ _ (mx.toNat, List.replicate b.length 0) _ _
    ⟨by dsimp only; omega, by simp, ⟨fun v hv h => by dsimp only at h; have := hmxa v hv; rw [hgD] at h; omega, fun v hv => by
        have e : gf (List.replicate b.length 0) v = 0 := by unfold gf; rw [getI_nat]; simp [List.getD, hv]
        have := payB_nn (n := b.length) (M := 100) (by omega) (mx.toNat - mx.toNat)
        dsimp only
        omega⟩, fun j hj => by
        dsimp only
        rw [hRg j hj]
        exact payF_congr _ (fun i hi => by unfold gf; rw [getI_nat]; simp [List.getD, hi]) j hj⟩ (by dsimp only; omega) (by
        have := gcO mx (iL (List.replicate b.length 0))
        rw [show ((mx.toNat : Nat) : Int) = mx by omega]
        exact this)
  intro ⟨d, S⟩ ⟨hdm, hSl, hok, hR⟩ K hK
  dsimp only at hdm hSl hok hR hK ⊢
  cases d with
  | zero =>
    obtain rfl : S = R := ext_getI (by omega) fun i hi => hR i (by omega)
    repeat' first
 | (apply s_mov; (focus ((conv => lhs; whnf); done)))
 | (apply c_nil)
 | ((first | apply s_lss | apply s_leq | apply s_gtr | apply s_geq | apply s_eql | apply s_neq); exact rfl; all_goals (intro _; try (exfalso; omega)))
 | (apply c_seq)
 | (apply c_reg)
 | (apply c_exitH)
 | (apply c_condF; exact rfl)
 | (with_reducible apply k_c)
    apply c_pre (vs := [.sl 0 1 0 b.length]) (H' := [some (.data (iL S))])
    · simp [go_sem]
    repeat' first
 | (apply s_mov; (focus ((conv => lhs; whnf); done)))
 | (apply c_nil)
 | (apply c_seq)
 | (apply c_reg)
 | (apply c_ret)
 | (with_reducible apply k_c)
    simp [finish, ress, resOf, look, tupOf, go_sem]
  | succ d =>
    obtain ⟨hT0, hT1, hst⟩ := PayOk.step g hd (l := gf l) (t := gf S) (payB_nn (by omega) _) (M := 100) (by omega) (fun v hv hvq => (hl.oth v hv hvq).1) hok
    have hpb := payB_bound hn2 (M := 100) (by omega) (k := mx.toNat - (d + 1)) (by omega)
    have hpb1 := payB_bound hn2 (M := 100) (by omega) (k := mx.toNat - d) (by omega)
    have hpe : payB b.length 100 (mx.toNat - d) = 100 + payB b.length 100 (mx.toNat - (d + 1)) * (b.length * 3) + payB b.length 100 (mx.toNat - (d + 1)) := by
      rw [show mx.toNat - d = (mx.toNat - (d + 1)) + 1 by omega]; rfl
    rw [← hpe] at hst
    simp only [payF] at hR
    have hSb : ∀ v : Nat, v < b.length → 0 ≤ getI S (v : Int) ∧ getI S (v : Int) ≤ payB b.length 100 (mx.toNat - (d + 1)) := fun v hv => hok.nn v hv
    have e55' := e55 S hSl (fun v hv => by have := hSb v hv; omega) [some (.data (iL S))] (frzL_cons (frzV_of fx) (frzL_cons (frzV_of fy) (frzL_cons (frz_sl rfl hSl) frzL_nil)))
    have hAl := apl_len b l S
    have hAg : ∀ v : Nat, v < b.length → getI (apl b l S) (v : Int) = ap b.length (ed b) (gf l) (gf S) v := fun v hv => apl_ap hB l S hv
    have hlow : ∀ v : Nat, v < b.length → -288230376151711744 ≤ getI (apl b l S) (v : Int) ∧ getI (apl b l S) (v : Int) ≤ 288230376151711744 := fun v hv => by
      rw [hAg v hv]
      have h1 := ap_low g (l := gf l) (t := gf S) hok.nn hpb.1 hv
      have h2 := hl.all v hv
      have h3 : payB b.length 100 (mx.toNat - (d + 1)) * ((b.length : Int) * 3) ≤ 2732094289936000 * (10 * 3) := Int.mul_le_mul hpb.2 (by omega) (by omega) (by omega)
      have h4 : gf l v = getI l (v : Int) := rfl
      omega
    have htms : ∀ k, k ≤ b.length → tms b.length (ed b) (gf F) (ap b.length (ed b) (gf l) (gf S)) ((d + 1 : Nat) : Int) k = tms b.length (ed b) (gf F) (gf (apl b l S)) ((d + 1 : Nat) : Int) k := fun k hk => tms_congr (fun v hv => (hAg v hv).symm) hk
    have iA := rd_isL (n := b.length) hAl
    rw [htms _ (Nat.le_refl _)] at hT0 hT1 hst hR
    generalize hA : apl b l S = A at *
    generalize hvA : AV.rd 1 b.length (iL A) = vA at *
    have fA := iA.free
    repeat' first
 | (apply s_mov; (focus ((conv => lhs; whnf); done)))
 | (apply c_nil)
 | ((first | apply s_lss | apply s_leq | apply s_gtr | apply s_geq | apply s_eql | apply s_neq); exact rfl; all_goals (intro _; try (exfalso; omega)))
 | (apply s_cn; (focus (repeat (first | apply opds_nil | (apply opds_cons; (first | (focus ((conv => lhs; whnf); done)) | exact rfl))))); exact e55')
 | (apply s_pn; (focus (repeat (first | apply opds_nil | (apply opds_cons; (first | (focus ((conv => lhs; whnf); done)) | exact rfl))))); exact lx _)
 | (apply c_seq)
 | (apply c_reg)
 | (apply c_block)
 | (apply c_skip)
 | (apply c_condT; exact rfl)
 | (with_reducible apply k_c)
    refine c_loop ?_
    refine loop_gc (σ := Nat) (fun k => [x, y, vf, .sl 0 1 0 b.length, .int .i64 ((d + 1 : Nat) : Int), vA, .int .i64 (tms b.length (ed b) (gf F) (gf A) ((d + 1 : Nat) : Int) k), .int .i64 ((b.length : Nat) : Int), .int .i64 (k : Int)]) (fun _ => [some (.data (iL S))]) (fun k => k ≤ b.length) (fun k => b.length - k) ?_ _ 0 _ _ (by omega) (by omega) (gcA _ _ _ 0 _ fA)
    intro v hv K2 hK2
    have hTk0 := tms_nn (n := b.length) (E := ed b) (D := gf F) (c := gf A) (d := ((d + 1 : Nat) : Int)) v
    have hK21 := hK2 (v + 1)
    simp only [tms] at hK21
    by_cases hvn : v < b.length
    · have hfv := hfar v hvn
      have hgDv := hgD v
      rw [hgDv] at hK21
      by_cases hfd : getI F (v : Int) = ((d + 1 : Nat) : Int)
      · rw [if_pos hfd] at hK21
        have hvq : v ≠ q := fun e => by subst e; have := hd.zero; rw [hgD] at this; omega
        have hgp := gets_pos g hd hvn hvq
        rw [hgD, hfd] at hgp
        have hgn := gets_nn g (D := gf F) (d := ((d + 1 : Nat) : Int)) hvn
        have hrow := hx.at (i := (v : Int)) ⟨by omega, by omega⟩
        have hrl := hbd.row v hvn
        have lr : ∀ H, evP H .len [llAt x (v : Int)] = some (.int .i64 ((b.length : Nat) : Int)) := fun H => by rw [← hrl]; exact p_lenI hrow
        have fr := hrow.free
        have hlv := hlow v hvn
        have ng := fun H => p_negI (H := H) (a := getI A (v : Int)) (by omega)
        have e113' := e113 (-getI A (v : Int)) (getsN b.length (ed b) (gf F) ((d + 1 : Nat) : Int) v) (by omega) (by omega)
        have hgA : gf A v = getI A (v : Int) := rfl
        rw [hgA] at hK21
        generalize hCC : ceilI (-getI A (v : Int)) (getsN b.length (ed b) (gf F) ((d + 1 : Nat) : Int) v) = CC at *
        generalize hTk : tms b.length (ed b) (gf F) (gf A) ((d + 1 : Nat) : Int) v = Tk at *
        repeat' first
 | (apply s_mov; (focus ((conv => lhs; whnf); done)))
 | (apply c_nil)
 | ((first | apply s_lss | apply s_leq | apply s_gtr | apply s_geq | apply s_eql | apply s_neq); exact rfl; all_goals (intro _; try (exfalso; omega)))
 | (apply s_pn; (focus (repeat (first | apply opds_nil | (apply opds_cons; (first | (focus ((conv => lhs; whnf); done)) | exact rfl))))); exact lr _)
 | (apply s_idx; (focus ((conv => lhs; whnf); done)); exact rfl; (first | assumption | (apply IsLL.at; assumption; omega)); omega)
 | (apply s_idxLL; (focus ((conv => lhs; whnf); done)); exact rfl; assumption; omega)
 | (apply s_ldI; exact rfl; omega)
 | (apply s_ldLL; exact rfl; assumption; omega)
 | (apply c_seq)
 | (apply c_reg)
 | (apply c_block)
 | (apply c_skip)
 | (apply c_condT; exact rfl)
 | (apply c_condF; exact rfl)
 | (with_reducible apply k_c)
        all_goals try (exfalso; omega)
        refine c_loop ?_
        refine loop_gc (σ := Nat) (fun u => [x, y, vf, .sl 0 1 0 b.length, .int .i64 ((d + 1 : Nat) : Int), vA, .int .i64 Tk, .int .i64 (v : Int), .int .i64 (sumTo (fun u => if gf F u < ((d + 1 : Nat) : Int) then ed b v u else 0) u), .int .i64 ((b.length : Nat) : Int), .int .i64 (v : Int), llAt x (v : Int), .int .i64 ((b.length : Nat) : Int), .int .i64 (u : Int)]) (fun _ => [some (.data (iL S))]) (fun u => u ≤ b.length) (fun u => b.length - u) ?_ _ 0 _ _ (by omega) (by omega) (gcG _ _ _ _ _ v 0 _ fA fr)
        intro u hu K3 hK3
        have hsl := sumTo_le (f := fun u => if gf F u < ((d + 1 : Nat) : Int) then ed b v u else 0) (M := 3) (n := u) fun j hj => by
          have h1 := g.nn v j hvn (by omega)
          have h2 := g.le v j hvn (by omega)
          try dsimp only
          split <;> omega
        have hK31 := hK3 (u + 1)
        simp only [sumTo] at hK31
        have hsN : u = b.length → sumTo (fun u => if gf F u < ((d + 1 : Nat) : Int) then ed b v u else 0) u = getsN b.length (ed b) (gf F) ((d + 1 : Nat) : Int) v := fun e => by subst e; rfl
        generalize hZ : sumTo (fun u => if gf F u < ((d + 1 : Nat) : Int) then ed b v u else 0) u = Z at *
        by_cases hun : u < b.length
        · have h1 := hbd.val v u hvn hun
          have hfu := hfar u hun
          have hed : ed b v u = getI (getLL b (v : Int)) (u : Int) := rfl
          have hgDu := hgD u
          rw [hed, hgDu] at hK31
          by_cases hlt : getI F (u : Int) < ((d + 1 : Nat) : Int)
          · rw [if_pos hlt] at hK31
            repeat' first
 | (apply s_mov; (focus ((conv => lhs; whnf); done)))
 | (apply c_nil)
 | ((first | apply s_lss | apply s_leq | apply s_gtr | apply s_geq | apply s_eql | apply s_neq); exact rfl; all_goals (intro _; try (exfalso; omega)))
 | ((first | apply s_add | apply s_sub); exact rfl; omega)
 | (apply s_idx; (focus ((conv => lhs; whnf); done)); exact rfl; (first | assumption | (apply IsLL.at; assumption; omega)); omega)
 | (apply s_ldI; exact rfl; omega)
 | (apply c_seq)
 | (apply c_reg)
 | (apply c_block)
 | (apply c_skip)
 | (apply c_condT; exact rfl)
 | (with_reducible apply k_c)
            all_goals first | exact hK31 _ _ (by omega) (by omega) (gcG _ _ _ _ _ v (u + 1) _ fA fr) | (exfalso; omega)
          · rw [if_neg hlt, Int.add_zero] at hK31
            repeat' first
 | (apply s_mov; (focus ((conv => lhs; whnf); done)))
 | (apply c_nil)
 | ((first | apply s_lss | apply s_leq | apply s_gtr | apply s_geq | apply s_eql | apply s_neq); exact rfl; all_goals (intro _; try (exfalso; omega)))
 | ((first | apply s_add | apply s_sub); exact rfl; omega)
 | (apply s_idx; (focus ((conv => lhs; whnf); done)); exact rfl; (first | assumption | (apply IsLL.at; assumption; omega)); omega)
 | (apply s_ldI; exact rfl; omega)
 | (apply c_seq)
 | (apply c_reg)
 | (apply c_block)
 | (apply c_skip)
 | (apply c_condT; exact rfl)
 | (apply c_condF; exact rfl)
 | (with_reducible apply k_c)
            all_goals first | exact hK31 _ _ (by omega) (by omega) (gcG _ _ _ _ _ v (u + 1) _ fA fr) | (exfalso; omega)
        · obtain rfl : u = b.length := by omega
          have hZN := hsN rfl
          rw [← hZN] at e113'
          repeat' first
 | (apply c_nil)
 | ((first | apply s_lss | apply s_leq | apply s_gtr | apply s_geq | apply s_eql | apply s_neq); exact rfl; all_goals (intro _; try (exfalso; omega)))
 | (apply c_seq)
 | (apply c_reg)
 | (apply c_exitH)
 | (apply c_condF; exact rfl)
 | (with_reducible apply k_c)
          apply c_pre (vs := [x, y, vf, .sl 0 1 0 b.length, .int .i64 ((d + 1 : Nat) : Int), vA, .int .i64 Tk, .int .i64 (v : Int), .int .i64 Z, .int .i64 ((b.length : Nat) : Int), .int .i64 (v : Int)]) (H' := [some (.data (iL S))])
          · simp [go_sem, fx, fy, ff, fA]
          repeat' first
 | (apply s_mov; (focus ((conv => lhs; whnf); done)))
 | (apply c_nil)
 | (apply s_pn; (focus (repeat (first | apply opds_nil | (apply opds_cons; (first | (focus ((conv => lhs; whnf); done)) | exact rfl))))); exact ng _)
 | (apply s_cn; (focus (repeat (first | apply opds_nil | (apply opds_cons; (first | (focus ((conv => lhs; whnf); done)) | exact rfl))))); exact e113' _)
 | (apply s_idx; (focus ((conv => lhs; whnf); done)); exact rfl; (first | assumption | (apply IsLL.at; assumption; omega)); omega)
 | (apply s_mx; exact rfl; exact rfl)
 | (apply s_ldI; exact rfl; omega)
 | (apply c_reg)
 | (with_reducible apply k_c)
          apply c_pre (vs := [x, y, vf, .sl 0 1 0 b.length, .int .i64 ((d + 1 : Nat) : Int), vA, .int .i64 (if CC > Tk then CC else Tk), .int .i64 ((b.length : Nat) : Int), .int .i64 (v : Int)]) (H' := [some (.data (iL S))])
          · simp [go_sem, fx, fy, ff, fA]
          repeat' first
 | (apply s_mov; (focus ((conv => lhs; whnf); done)))
 | (apply c_nil)
 | ((first | apply s_add | apply s_sub); exact rfl; omega)
 | (apply c_reg)
          exact hK21 _ _ (by omega) (by omega) (gcA _ _ _ (v + 1) _ fA)
      · rw [if_neg hfd] at hK21
        generalize hTk : tms b.length (ed b) (gf F) (gf A) ((d + 1 : Nat) : Int) v = Tk at *
        repeat' first
 | (apply s_mov; (focus ((conv => lhs; whnf); done)))
 | (apply c_nil)
 | ((first | apply s_lss | apply s_leq | apply s_gtr | apply s_geq | apply s_eql | apply s_neq); exact rfl; all_goals (intro _; try (exfalso; omega)))
 | (apply s_idx; (focus ((conv => lhs; whnf); done)); exact rfl; (first | assumption | (apply IsLL.at; assumption; omega)); omega)
 | (apply s_ldI; exact rfl; omega)
 | (apply c_seq)
 | (apply c_reg)
 | (apply c_block)
 | (apply c_exitH)
 | (apply c_skip)
 | (apply c_condT; exact rfl)
 | (with_reducible apply k_c)
        all_goals try (exfalso; omega)
        apply c_pre (vs := [x, y, vf, .sl 0 1 0 b.length, .int .i64 ((d + 1 : Nat) : Int), vA, .int .i64 Tk, .int .i64 ((b.length : Nat) : Int), .int .i64 (v : Int)]) (H' := [some (.data (iL S))])
        · simp [go_sem, fx, fy, ff, fA]
        repeat' first
 | (apply s_mov; (focus ((conv => lhs; whnf); done)))
 | (apply c_nil)
 | ((first | apply s_add | apply s_sub); exact rfl; omega)
 | (apply c_reg)
        exact hK21 _ _ (by omega) (by omega) (gcA _ _ _ (v + 1) _ fA)
    · obtain rfl : v = b.length := by omega
      generalize hTk : tms b.length (ed b) (gf F) (gf A) ((d + 1 : Nat) : Int) b.length = Tk at *
      skip
      repeat' first
 | (apply c_nil)
 | ((first | apply s_lss | apply s_leq | apply s_gtr | apply s_geq | apply s_eql | apply s_neq); exact rfl; all_goals (intro _; try (exfalso; omega)))
 | (apply c_seq)
 | (apply c_reg)
 | (apply c_exitH)
 | (apply c_condF; exact rfl)
 | (with_reducible apply k_c)
      apply c_pre (vs := [x, y, vf, .sl 0 1 0 b.length, .int .i64 ((d + 1 : Nat) : Int), .int .i64 Tk]) (H' := [some (.data (iL S))])
      · simp [go_sem, fx, fy, ff]
      repeat' first
 | (apply s_mov; (focus ((conv => lhs; whnf); done)))
 | (apply c_nil)
 | (apply s_pn; (focus (repeat (first | apply opds_nil | (apply opds_cons; (first | (focus ((conv => lhs; whnf); done)) | exact rfl))))); exact lx _)
 | (apply c_seq)
 | (apply c_reg)
 | (apply c_block)
 | (with_reducible apply k_c)
      refine c_loop ?_
      refine loop_gc (σ := Nat × List Int) (fun p => [x, y, vf, .sl 0 1 0 b.length, .int .i64 ((d + 1 : Nat) : Int), .int .i64 Tk, .int .i64 ((b.length : Nat) : Int), .int .i64 (p.1 : Int)]) (fun p => [some (.data (iL p.2))]) (fun p => p.1 ≤ b.length ∧ p.2.length = b.length ∧ ∀ i : Nat, i < b.length → getI p.2 (i : Int) = if i < p.1 then getI S (i : Int) + nearS (gf F) ((d + 1 : Nat) : Int) Tk i else getI S (i : Int)) (fun p => b.length - p.1) ?_ _ (0, S) _ _ ⟨by omega, hSl, fun i hi => by rw [if_neg (by omega)]⟩ (by show b.length - 0 < _; omega) (gcB _ _ 0 _)
      intro ⟨v, S'⟩ ⟨hv', hSl', hS'⟩ K3 hK3
      dsimp only at hv' hSl' hS' hK3 ⊢
      by_cases hvn : v < b.length
      · have hfv := hfar v hvn
        have h1 := hS' v hvn
        rw [if_neg (by omega)] at h1
        have h2 := hSb v hvn
        have ld := fun H h => p_ldO (H := H) (id := 0) (l := S') (i := v) h (by omega)
        have st := fun (vv : Int) call H h => e_stO (call := call) (H := H) (id := 0) (l := S') (i := v) (v := vv) h (by omega)
        by_cases hlt : getI F (v : Int) < ((d + 1 : Nat) : Int)
        · skip
          repeat' first
 | (apply s_mov; (focus ((conv => lhs; whnf); done)))
 | (apply c_nil)
 | ((first | apply s_lss | apply s_leq | apply s_gtr | apply s_geq | apply s_eql | apply s_neq); exact rfl; all_goals (intro _; try (exfalso; omega)))
 | ((first | apply s_add | apply s_sub); exact rfl; omega)
 | (apply s_pn; (focus (repeat (first | apply opds_nil | (apply opds_cons; (first | (focus ((conv => lhs; whnf); done)) | exact rfl))))); exact p_ixO hvn)
 | (apply s_pn; (focus (repeat (first | apply opds_nil | (apply opds_cons; (first | (focus ((conv => lhs; whnf); done)) | exact rfl))))); exact ld _ rfl)
 | (apply s_st; (focus (repeat (first | apply opds_nil | (apply opds_cons; (first | (focus ((conv => lhs; whnf); done)) | exact rfl))))); exact st _ _ _ rfl)
 | (apply s_idx; (focus ((conv => lhs; whnf); done)); exact rfl; (first | assumption | (apply IsLL.at; assumption; omega)); omega)
 | (apply s_ldI; exact rfl; omega)
 | (apply c_seq)
 | (apply c_reg)
 | (apply c_block)
 | (apply c_skip)
 | (apply c_condT; exact rfl)
 | (with_reducible apply k_c)
          all_goals first
            | (refine hK3 (v + 1, _) _ _ ⟨by omega, by simpa using hSl', fun i hi => ?_⟩ (by show b.length - (v + 1) < _; omega) (gcB _ _ (v + 1) _)
               dsimp only
               rw [getI_set (by omega)]
               by_cases e : i = v
               · subst e
                 rw [if_pos rfl, if_pos (by omega), h1]
                 unfold nearS
                 rw [hgD, if_pos hlt]
               · rw [if_neg e, hS' i hi]
                 by_cases e2 : i < v
                 · rw [if_pos e2, if_pos (by omega)]
                 · rw [if_neg e2, if_neg (by omega)])
            | (exfalso; omega)
        · skip
          repeat' first
 | (apply s_mov; (focus ((conv => lhs; whnf); done)))
 | (apply c_nil)
 | ((first | apply s_lss | apply s_leq | apply s_gtr | apply s_geq | apply s_eql | apply s_neq); exact rfl; all_goals (intro _; try (exfalso; omega)))
 | ((first | apply s_add | apply s_sub); exact rfl; omega)
 | (apply s_idx; (focus ((conv => lhs; whnf); done)); exact rfl; (first | assumption | (apply IsLL.at; assumption; omega)); omega)
 | (apply s_ldI; exact rfl; omega)
 | (apply c_seq)
 | (apply c_reg)
 | (apply c_block)
 | (apply c_skip)
 | (apply c_condT; exact rfl)
 | (apply c_condF; exact rfl)
 | (with_reducible apply k_c)
          all_goals first
            | (refine hK3 (v + 1, S') _ _ ⟨by omega, hSl', fun i hi => ?_⟩ (by show b.length - (v + 1) < _; omega) (gcB _ _ (v + 1) _)
               dsimp only
               rw [hS' i hi]
               by_cases e : i = v
               · subst e
                 rw [if_neg (by omega), if_pos (by omega)]
                 unfold nearS
                 rw [hgD, if_neg hlt, Int.add_zero]
               · by_cases e2 : i < v
                 · rw [if_pos e2, if_pos (by omega)]
                 · rw [if_neg e2, if_neg (by omega)])
            | (exfalso; omega)
      · obtain rfl : v = b.length := by omega
        repeat' first
 | (apply c_nil)
 | ((first | apply s_lss | apply s_leq | apply s_gtr | apply s_geq | apply s_eql | apply s_neq); exact rfl; all_goals (intro _; try (exfalso; omega)))
 | (apply c_seq)
 | (apply c_reg)
 | (apply c_exitH)
 | (apply c_condF; exact rfl)
 | (with_reducible apply k_c)
        apply c_pre (vs := [x, y, vf, .sl 0 1 0 b.length, .int .i64 ((d + 1 : Nat) : Int)]) (H' := [some (.data (iL S'))])
        · simp [go_sem, fx, fy, ff]
        repeat' first
 | (apply s_mov; (focus ((conv => lhs; whnf); done)))
 | (apply c_nil)
 | ((first | apply s_add | apply s_sub); exact rfl; omega)
 | (apply c_reg)
        have hcong : ∀ j, j < b.length → gf S j + nearS (gf F) ((d + 1 : Nat) : Int) Tk j = gf S' j := fun j hj => by
          have := hS' j hj
          rw [if_pos hj] at this
          exact this.symm
        refine hK (d, S') _ _ ⟨by dsimp only; omega, hSl', hst.congr hcong, fun j hj => ?_⟩ (by dsimp only; omega) (by
          have := gcO (d : Int) (iL S')
          rw [show ((d + 1 : Nat) : Int) - 1 = (d : Int) by omega]
          exact this)
        rw [← hR j hj]
        exact (payF_congr d hcong j hj).symm
end Go.AM.Ch
