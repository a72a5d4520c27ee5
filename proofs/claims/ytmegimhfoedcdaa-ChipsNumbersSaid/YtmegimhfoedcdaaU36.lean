/- A part of the proof: U35 U17 U18 U19 U36. -/
import Derived.Test.YtmegimhfoedcdaaU34
import Derived.Test.YtmegimhfoedcdaaU16
import Derived.Test.YtmegimhfoedcdaaM3
set_option linter.unusedVariables false
set_option linter.unusedSimpArgs false
set_option linter.unusedSectionVars false
namespace Go.AM.Ch
attribute [local go_sem] gc subHeap reach_skip ren_free reach_new reach_newp reach_end rangeL roots boxCells nodupB posOf renL AV.ren pickO renH renO looks look bindEnv envOf reach_int reach_bool reach_nilS reach_rd putRow cells_sl cells_int cells_bool cells_nilS cells_rd cells_agg reach_agg reach_tup idFreeL idf_sl idf_ptr idf_int idf_bool idf_nilS idf_rd reach_fn reach_mp cells_fn cells_ptr cells_mp idf_mp idf_fn idf_agg idf_tup
set_option maxHeartbeats 8000000
structure Near (n q : Nat) (l : List Int) : Prop where
  len : l.length = n
  oth : ∀ v : Nat, v < n → v ≠ q → -100 ≤ getI l (v : Int) ∧ getI l (v : Int) ≤ 100
  own : -1125899906842624 ≤ getI l (q : Int) ∧ getI l (q : Int) ≤ 1125899906842624
theorem Near.all {n q : Nat} {l : List Int} (h : Near n q l) : ∀ v : Nat, v < n → -1125899906842624 ≤ getI l (v : Int) ∧ getI l (v : Int) ≤ 1125899906842624 := fun v hv => by
  by_cases e : v = q
  · subst e; exact h.own
  · have := h.oth v hv e; omega
theorem p_negI {H : Heap} {a : Int} (h : -9223372036854775808 < a ∧ a < 9223372036854775808) : evP H (.un .neg) [.int .i64 a] = some (.int .i64 (-a)) := by
  simp only [evP]; rw [wrapI (by omega)]; simp
theorem f105 {x y : AV} {b : List (List Int)} {l : List Int} {q : Nat} (hx : IsLL x b) (hy : IsL y l) (hB : IsB b) (hq : q < b.length) (hl : Near b.length q l) {m : Nat} (hm : 2200 ≤ m) :
    evF tab it m 105 [x, y, .int .i64 (q : Int)] [] = some (.sl 0 1 0 b.length, [some (.data (iL (payL b l q)))]) := by
  obtain ⟨m, rfl⟩ : ∃ j, m = j + 1 := ⟨m - 1, by omega⟩
  have fx := hx.free; have fy := hy.free
  have hn1 := hB.n1; have hn2 := hB.n2
  have hbd := hB.bd
  have g := gr_of hB
  have hd := dist_dst hB hq
  have hfl := dist_len b q
  have lx : ∀ H, evP H .len [x] = some (.int .i64 ((b.length : Nat) : Int)) := fun H => by cases hx <;> rfl
  have e84 := fun H => c84 hx hbd hq (m := m) (by omega) H
  have if84 : IsL (.rd 1 (dist b q).1.length (iL (dist b q).1)) (dist b q).1 := .rd _
  have e112 := fun H => c112 if84 (by omega) (by omega) (m := m) (by omega) H
  have mk := fun call H => @e_mkI call H b.length (by unfold most; omega)
  have hfar : ∀ v : Nat, v < b.length → 0 ≤ getI (dist b q).1 (v : Int) ∧ getI (dist b q).1 (v : Int) ≤ b.length := fun v hv => ⟨hd.nn hv, hd.le v hv⟩
  have hmx := (maxTo_le (dist b q).1 b.length (b.length - 1)).2 fun j hj => (hfar j (by omega)).2
  have hmx0 : 0 ≤ maxTo (dist b q).1 (b.length - 1) := by
    have := (maxTo_le (dist b q).1 (maxTo (dist b q).1 (b.length - 1)) (b.length - 1)).1 (Int.le_refl _) q (by omega)
    have h0 := hd.zero
    unfold gf at h0
    omega
  have hmxa : ∀ v : Nat, v < b.length → getI (dist b q).1 (v : Int) ≤ maxTo (dist b q).1 (b.length - 1) := fun v hv => (maxTo_le (dist b q).1 (maxTo (dist b q).1 (b.length - 1)) (b.length - 1)).1 (Int.le_refl _) v (by omega)
  have hgD : ∀ v : Nat, gf (dist b q).1 v = getI (dist b q).1 (v : Int) := fun _ => rfl
  rw [hfl] at e112
  have hRl := payL_len b l q
  have hRg := fun (j : Nat) (hj : j < b.length) => payL_get (b := b) (l := l) (q := q) hj
  have ff := if84.free
  have hln := hl.len
  refine f_enter rfl rfl ?_
  have e55 := fun (t : List Int) (ht : t.length = b.length) h1 (H : Heap) (ha : frzL H 40 [x, y, .sl 0 1 0 b.length] = some [x, y, .rd 1 b.length (iL t)]) => c55p hx hy (rd_isL ht) hbd hln ht h1 (fun v hv => by have := hl.all v hv; omega) (m := m) (by omega) H ha
  have e113 := fun (a c : Int) (hc : 1 ≤ c ∧ c ≤ 1000) (ha : -4611686018427387904 ≤ a ∧ a ≤ 2305843009213693952) (H : Heap) => c113 hc ha (m := m) (by omega) H
  generalize hcall : evF tab it m = call at *
  generalize hF : (dist b q).1 = F at *
  generalize hmm : maxTo F (b.length - 1) = mx at *
  generalize hRR : payL b l q = R at *
  rw [hfl] at e84 if84 ff
  generalize hvf : AV.rd 1 b.length (iL F) = vf at *
  have gcO : ∀ (d : Int) (C : List AV), gc 0 [x, y, vf, .sl 0 1 0 b.length, .int .i64 d] [some (.data C)] = some ([x, y, vf, .sl 0 1 0 b.length, .int .i64 d], [some (.data C)]) := fun d C => by simp [go_sem, fx, fy, ff]
  have gcA : ∀ (d T : Int) (vn : AV) (v : Nat) (C : List AV), vn.idFree = true → gc 0 [x, y, vf, .sl 0 1 0 b.length, .int .i64 d, vn, .int .i64 T, .int .i64 ((b.length : Nat) : Int), .int .i64 (v : Int)] [some (.data C)] = some ([x, y, vf, .sl 0 1 0 b.length, .int .i64 d, vn, .int .i64 T, .int .i64 ((b.length : Nat) : Int), .int .i64 (v : Int)], [some (.data C)]) := fun d T vn v C h => by simp [go_sem, fx, fy, ff, h]
  have gcG : ∀ (d T G : Int) (vn vr : AV) (v u : Nat) (C : List AV), vn.idFree = true → vr.idFree = true → gc 0 [x, y, vf, .sl 0 1 0 b.length, .int .i64 d, vn, .int .i64 T, .int .i64 (v : Int), .int .i64 G, .int .i64 ((b.length : Nat) : Int), .int .i64 (v : Int), vr, .int .i64 ((b.length : Nat) : Int), .int .i64 (u : Int)] [some (.data C)] = some ([x, y, vf, .sl 0 1 0 b.length, .int .i64 d, vn, .int .i64 T, .int .i64 (v : Int), .int .i64 G, .int .i64 ((b.length : Nat) : Int), .int .i64 (v : Int), vr, .int .i64 ((b.length : Nat) : Int), .int .i64 (u : Int)], [some (.data C)]) := fun d T G vn vr v u C h h2 => by simp [go_sem, fx, fy, ff, h, h2]
  have gcB : ∀ (d T : Int) (v : Nat) (C : List AV), gc 0 [x, y, vf, .sl 0 1 0 b.length, .int .i64 d, .int .i64 T, .int .i64 ((b.length : Nat) : Int), .int .i64 (v : Int)] [some (.data C)] = some ([x, y, vf, .sl 0 1 0 b.length, .int .i64 d, .int .i64 T, .int .i64 ((b.length : Nat) : Int), .int .i64 (v : Int)], [some (.data C)]) := fun d T v C => by simp [go_sem, fx, fy, ff]
  skip
  repeat' first
 | (apply s_mov; exact aW)
 | (apply c_nil)
 | (apply s_cn; exact aO; exact e84 _)
 | (apply s_pn; exact aO; exact lx _)
 | (apply s_en; exact aO; exact mk _ _)
 | (apply s_cn; exact aO; exact e112 _)
 | (apply c_seq)
 | (apply c_reg)
 | (apply c_block)
 | (with_reducible apply k_c)
  refine c_loop ?_
  refine loop_gc (σ := Nat × List Int) (fun p => [x, y, vf, .sl 0 1 0 b.length, .int .i64 (p.1 : Int)]) (fun p => [some (.data (iL p.2))])
    (fun p => (p.1 : Int) ≤ mx ∧ p.2.length = b.length ∧ PayOk b.length (ed b) (gf F) (gf l) p.1 (payB b.length 100 (mx.toNat - p.1)) (gf p.2) ∧ ∀ j, j < b.length → payF b.length (ed b) (gf F) (gf l) p.1 (gf p.2) j = getI R (j : Int)) (fun p => p.1) ?_ _ (mx.toNat, List.replicate b.length 0) _ _
    ⟨by dsimp only; omega, by simp, ⟨fun v hv h => by dsimp only at h; have := hmxa v hv; rw [hgD] at h; omega, fun v hv => by
        have e : gf (List.replicate b.length 0) v = 0 := by unfold gf; rw [getI_nat]; simp [List.getD, hv]
        have := payB_nn (n := b.length) (M := 100) (by omega) (mx.toNat - mx.toNat)
        dsimp only
        omega⟩, fun j hj => by
        dsimp only
        rw [hRg j hj]
        exact payF_congr _ (fun i hi => by unfold gf; rw [getI_nat]; simp [List.getD, hi]) j hj⟩ (by dsimp only; omega) (by
        have := gcO mx (iL (List.replicate b.length 0))
        rw [show ((mx.toNat : Nat) : Int) = mx by omega]
        exact this)
  intro ⟨d, S⟩ ⟨hdm, hSl, hok, hR⟩ K hK
  dsimp only at hdm hSl hok hR hK ⊢
  cases d with
  | zero =>
    obtain rfl : S = R := ext_getI (by omega) fun i hi => hR i (by omega)
    repeat' first
 | (apply s_mov; exact aW)
 | (apply c_nil)
 | (apply s_gtr; exact rfl; all_goals (intro _; try (exfalso; omega)))
 | (apply c_seq)
 | (apply c_reg)
 | (apply c_exitH)
 | (apply c_condF; exact rfl)
 | (with_reducible apply k_c)
    apply c_pre (vs := [.sl 0 1 0 b.length]) (H' := [some (.data (iL S))])
    · simp [go_sem]
    repeat' first
 | (apply s_mov; exact aW)
 | (apply c_nil)
 | (apply c_seq)
 | (apply c_reg)
 | (apply c_ret)
 | (with_reducible apply k_c)
    simp [finish, ress, resOf, look, tupOf, go_sem]
  | succ d =>
    obtain ⟨hT0, hT1, hst⟩ := PayOk.step g hd (l := gf l) (t := gf S) (payB_nn (by omega) _) (M := 100) (by omega) (fun v hv hvq => (hl.oth v hv hvq).1) hok
    have hpb := payB_bound hn2 (M := 100) (by omega) (k := mx.toNat - (d + 1)) (by omega)
    have hpb1 := payB_bound hn2 (M := 100) (by omega) (k := mx.toNat - d) (by omega)
    have hpe : payB b.length 100 (mx.toNat - d) = 100 + payB b.length 100 (mx.toNat - (d + 1)) * (b.length * 3) + payB b.length 100 (mx.toNat - (d + 1)) := by
      rw [show mx.toNat - d = (mx.toNat - (d + 1)) + 1 by omega]; rfl
    rw [← hpe] at hst
    simp only [payF] at hR
    have hSb : ∀ v : Nat, v < b.length → 0 ≤ getI S (v : Int) ∧ getI S (v : Int) ≤ payB b.length 100 (mx.toNat - (d + 1)) := fun v hv => hok.nn v hv
    have e55' := e55 S hSl (fun v hv => by have := hSb v hv; omega) [some (.data (iL S))] (frzL_cons (frzV_of fx) (frzL_cons (frzV_of fy) (frzL_cons (frz_sl rfl hSl) frzL_nil)))
    have hAl := apl_len b l S
    have hAg : ∀ v : Nat, v < b.length → getI (apl b l S) (v : Int) = ap b.length (ed b) (gf l) (gf S) v := fun v hv => apl_ap hB l S hv
    have hlow : ∀ v : Nat, v < b.length → -288230376151711744 ≤ getI (apl b l S) (v : Int) ∧ getI (apl b l S) (v : Int) ≤ 288230376151711744 := fun v hv => by
      rw [hAg v hv]
      have h1 := ap_low g (l := gf l) (t := gf S) hok.nn hpb.1 hv
      have h2 := hl.all v hv
      have h3 : payB b.length 100 (mx.toNat - (d + 1)) * ((b.length : Int) * 3) ≤ 2732094289936000 * (10 * 3) := Int.mul_le_mul hpb.2 (by omega) (by omega) (by omega)
      have h4 : gf l v = getI l (v : Int) := rfl
      omega
    have htms : ∀ k, k ≤ b.length → tms b.length (ed b) (gf F) (ap b.length (ed b) (gf l) (gf S)) ((d + 1 : Nat) : Int) k = tms b.length (ed b) (gf F) (gf (apl b l S)) ((d + 1 : Nat) : Int) k := fun k hk => tms_congr (fun v hv => (hAg v hv).symm) hk
    have iA := rd_isL (n := b.length) hAl
    rw [htms _ (Nat.le_refl _)] at hT0 hT1 hst hR
    generalize hA : apl b l S = A at *
    generalize hvA : AV.rd 1 b.length (iL A) = vA at *
    have fA := iA.free
    repeat' first
 | (apply s_mov; exact aW)
 | (apply c_nil)
 | (apply s_gtr; exact rfl; all_goals (intro _; try (exfalso; omega)))
 | (apply s_cn; exact aO; exact e55')
 | (apply s_pn; exact aO; exact lx _)
 | (apply c_seq)
 | (apply c_reg)
 | (apply c_block)
 | (apply c_skip)
 | (apply c_condT; exact rfl)
 | (with_reducible apply k_c)
    refine c_loop ?_
    refine loop_gc (σ := Nat) (fun k => [x, y, vf, .sl 0 1 0 b.length, .int .i64 ((d + 1 : Nat) : Int), vA, .int .i64 (tms b.length (ed b) (gf F) (gf A) ((d + 1 : Nat) : Int) k), .int .i64 ((b.length : Nat) : Int), .int .i64 (k : Int)]) (fun _ => [some (.data (iL S))]) (fun k => k ≤ b.length) (fun k => b.length - k) ?_ _ 0 _ _ (by omega) (by omega) (gcA _ _ _ 0 _ fA)
    intro v hv K2 hK2
    have hTk0 := tms_nn (n := b.length) (E := ed b) (D := gf F) (c := gf A) (d := ((d + 1 : Nat) : Int)) v
    have hK21 := hK2 (v + 1)
    simp only [tms] at hK21
    by_cases hvn : v < b.length
    · have hfv := hfar v hvn
      have hgDv := hgD v
      rw [hgDv] at hK21
      by_cases hfd : getI F (v : Int) = ((d + 1 : Nat) : Int)
      · rw [if_pos hfd] at hK21
        have hvq : v ≠ q := fun e => by subst e; have := hd.zero; rw [hgD] at this; omega
        have hgp := gets_pos g hd hvn hvq
        rw [hgD, hfd] at hgp
        have hgn := gets_nn g (D := gf F) (d := ((d + 1 : Nat) : Int)) hvn
        have hrow := hx.at (i := (v : Int)) ⟨by omega, by omega⟩
        have hrl := hbd.row v hvn
        have lr : ∀ H, evP H .len [llAt x (v : Int)] = some (.int .i64 ((b.length : Nat) : Int)) := fun H => by rw [← hrl]; exact p_lenI hrow
        have fr := hrow.free
        have hlv := hlow v hvn
        have ng := fun H => p_negI (H := H) (a := getI A (v : Int)) (by omega)
        have e113' := e113 (-getI A (v : Int)) (getsN b.length (ed b) (gf F) ((d + 1 : Nat) : Int) v) (by omega) (by omega)
        have hgA : gf A v = getI A (v : Int) := rfl
        rw [hgA] at hK21
        generalize hCC : ceilI (-getI A (v : Int)) (getsN b.length (ed b) (gf F) ((d + 1 : Nat) : Int) v) = CC at *
        generalize hTk : tms b.length (ed b) (gf F) (gf A) ((d + 1 : Nat) : Int) v = Tk at *
        repeat' first
 | (apply s_mov; exact aW)
 | (apply c_nil)
 | (apply s_lss; exact rfl; all_goals (intro _; try (exfalso; omega)))
 | (apply s_neq; exact rfl; all_goals (intro _; try (exfalso; omega)))
 | (apply s_pn; exact aO; exact lr _)
 | (apply s_idx; exact aW; exact rfl; exact aI; omega)
 | (apply s_idxLL; exact aW; exact rfl; assumption; omega)
 | (apply s_ldI; exact rfl; omega)
 | (apply s_ldLL; exact rfl; assumption; omega)
 | (apply c_seq)
 | (apply c_reg)
 | (apply c_block)
 | (apply c_skip)
 | (apply c_condT; exact rfl)
 | (apply c_condF; exact rfl)
 | (with_reducible apply k_c)
        all_goals try (exfalso; omega)
        refine c_loop ?_
        refine loop_gc (σ := Nat) (fun u => [x, y, vf, .sl 0 1 0 b.length, .int .i64 ((d + 1 : Nat) : Int), vA, .int .i64 Tk, .int .i64 (v : Int), .int .i64 (sumTo (fun u => if gf F u < ((d + 1 : Nat) : Int) then ed b v u else 0) u), .int .i64 ((b.length : Nat) : Int), .int .i64 (v : Int), llAt x (v : Int), .int .i64 ((b.length : Nat) : Int), .int .i64 (u : Int)]) (fun _ => [some (.data (iL S))]) (fun u => u ≤ b.length) (fun u => b.length - u) ?_ _ 0 _ _ (by omega) (by omega) (gcG _ _ _ _ _ v 0 _ fA fr)
        intro u hu K3 hK3
        have hsl := sumTo_le (f := fun u => if gf F u < ((d + 1 : Nat) : Int) then ed b v u else 0) (M := 3) (n := u) fun j hj => by
          have h1 := g.nn v j hvn (by omega)
          have h2 := g.le v j hvn (by omega)
          try dsimp only
          split <;> omega
        have hK31 := hK3 (u + 1)
        simp only [sumTo] at hK31
        have hsN : u = b.length → sumTo (fun u => if gf F u < ((d + 1 : Nat) : Int) then ed b v u else 0) u = getsN b.length (ed b) (gf F) ((d + 1 : Nat) : Int) v := fun e => by subst e; rfl
        generalize hZ : sumTo (fun u => if gf F u < ((d + 1 : Nat) : Int) then ed b v u else 0) u = Z at *
        by_cases hun : u < b.length
        · have h1 := hbd.val v u hvn hun
          have hfu := hfar u hun
          have hed : ed b v u = getI (getLL b (v : Int)) (u : Int) := rfl
          have hgDu := hgD u
          rw [hed, hgDu] at hK31
          by_cases hlt : getI F (u : Int) < ((d + 1 : Nat) : Int)
          · rw [if_pos hlt] at hK31
            repeat' first
 | (apply s_mov; exact aW)
 | (apply c_nil)
 | (apply s_lss; exact rfl; all_goals (intro _; try (exfalso; omega)))
 | (apply s_add; exact rfl; omega)
 | (apply s_idx; exact aW; exact rfl; exact aI; omega)
 | (apply s_ldI; exact rfl; omega)
 | (apply c_seq)
 | (apply c_reg)
 | (apply c_block)
 | (apply c_skip)
 | (apply c_condT; exact rfl)
 | (with_reducible apply k_c)
            all_goals first | exact hK31 _ _ (by omega) (by omega) (gcG _ _ _ _ _ v (u + 1) _ fA fr) | (exfalso; omega)
          · rw [if_neg hlt, Int.add_zero] at hK31
            repeat' first
 | (apply s_mov; exact aW)
 | (apply c_nil)
 | (apply s_lss; exact rfl; all_goals (intro _; try (exfalso; omega)))
 | (apply s_add; exact rfl; omega)
 | (apply s_idx; exact aW; exact rfl; exact aI; omega)
 | (apply s_ldI; exact rfl; omega)
 | (apply c_seq)
 | (apply c_reg)
 | (apply c_block)
 | (apply c_skip)
 | (apply c_condT; exact rfl)
 | (apply c_condF; exact rfl)
 | (with_reducible apply k_c)
            all_goals first | exact hK31 _ _ (by omega) (by omega) (gcG _ _ _ _ _ v (u + 1) _ fA fr) | (exfalso; omega)
        · obtain rfl : u = b.length := by omega
          have hZN := hsN rfl
          rw [← hZN] at e113'
          repeat' first
 | (apply c_nil)
 | (apply s_lss; exact rfl; all_goals (intro _; try (exfalso; omega)))
 | (apply c_seq)
 | (apply c_reg)
 | (apply c_exitH)
 | (apply c_condF; exact rfl)
 | (with_reducible apply k_c)
          apply c_pre (vs := [x, y, vf, .sl 0 1 0 b.length, .int .i64 ((d + 1 : Nat) : Int), vA, .int .i64 Tk, .int .i64 (v : Int), .int .i64 Z, .int .i64 ((b.length : Nat) : Int), .int .i64 (v : Int)]) (H' := [some (.data (iL S))])
          · simp [go_sem, fx, fy, ff, fA]
          repeat' first
 | (apply s_mov; exact aW)
 | (apply c_nil)
 | (apply s_pn; exact aO; exact ng _)
 | (apply s_cn; exact aO; exact e113' _)
 | (apply s_idx; exact aW; exact rfl; exact aI; omega)
 | (apply s_mx; exact rfl; exact rfl)
 | (apply s_ldI; exact rfl; omega)
 | (apply c_reg)
 | (with_reducible apply k_c)
          apply c_pre (vs := [x, y, vf, .sl 0 1 0 b.length, .int .i64 ((d + 1 : Nat) : Int), vA, .int .i64 (if CC > Tk then CC else Tk), .int .i64 ((b.length : Nat) : Int), .int .i64 (v : Int)]) (H' := [some (.data (iL S))])
          · simp [go_sem, fx, fy, ff, fA]
          repeat' first
 | (apply s_mov; exact aW)
 | (apply c_nil)
 | (apply s_add; exact rfl; omega)
 | (apply c_reg)
          exact hK21 _ _ (by omega) (by omega) (gcA _ _ _ (v + 1) _ fA)
      · rw [if_neg hfd] at hK21
        generalize hTk : tms b.length (ed b) (gf F) (gf A) ((d + 1 : Nat) : Int) v = Tk at *
        repeat' first
 | (apply s_mov; exact aW)
 | (apply c_nil)
 | (apply s_lss; exact rfl; all_goals (intro _; try (exfalso; omega)))
 | (apply s_neq; exact rfl; all_goals (intro _; try (exfalso; omega)))
 | (apply s_idx; exact aW; exact rfl; exact aI; omega)
 | (apply s_ldI; exact rfl; omega)
 | (apply c_seq)
 | (apply c_reg)
 | (apply c_block)
 | (apply c_exitH)
 | (apply c_skip)
 | (apply c_condT; exact rfl)
 | (with_reducible apply k_c)
        all_goals try (exfalso; omega)
        apply c_pre (vs := [x, y, vf, .sl 0 1 0 b.length, .int .i64 ((d + 1 : Nat) : Int), vA, .int .i64 Tk, .int .i64 ((b.length : Nat) : Int), .int .i64 (v : Int)]) (H' := [some (.data (iL S))])
        · simp [go_sem, fx, fy, ff, fA]
        repeat' first
 | (apply s_mov; exact aW)
 | (apply c_nil)
 | (apply s_add; exact rfl; omega)
 | (apply c_reg)
        exact hK21 _ _ (by omega) (by omega) (gcA _ _ _ (v + 1) _ fA)
    · obtain rfl : v = b.length := by omega
      generalize hTk : tms b.length (ed b) (gf F) (gf A) ((d + 1 : Nat) : Int) b.length = Tk at *
      skip
      repeat' first
 | (apply c_nil)
 | (apply s_lss; exact rfl; all_goals (intro _; try (exfalso; omega)))
 | (apply c_seq)
 | (apply c_reg)
 | (apply c_exitH)
 | (apply c_condF; exact rfl)
 | (with_reducible apply k_c)
      apply c_pre (vs := [x, y, vf, .sl 0 1 0 b.length, .int .i64 ((d + 1 : Nat) : Int), .int .i64 Tk]) (H' := [some (.data (iL S))])
      · simp [go_sem, fx, fy, ff]
      repeat' first
 | (apply s_mov; exact aW)
 | (apply c_nil)
 | (apply s_pn; exact aO; exact lx _)
 | (apply c_seq)
 | (apply c_reg)
 | (apply c_block)
 | (with_reducible apply k_c)
      refine c_loop ?_
      refine loop_gc (σ := Nat × List Int) (fun p => [x, y, vf, .sl 0 1 0 b.length, .int .i64 ((d + 1 : Nat) : Int), .int .i64 Tk, .int .i64 ((b.length : Nat) : Int), .int .i64 (p.1 : Int)]) (fun p => [some (.data (iL p.2))]) (fun p => p.1 ≤ b.length ∧ p.2.length = b.length ∧ ∀ i : Nat, i < b.length → getI p.2 (i : Int) = if i < p.1 then getI S (i : Int) + nearS (gf F) ((d + 1 : Nat) : Int) Tk i else getI S (i : Int)) (fun p => b.length - p.1) ?_ _ (0, S) _ _ ⟨by omega, hSl, fun i hi => by rw [if_neg (by omega)]⟩ (by show b.length - 0 < _; omega) (gcB _ _ 0 _)
      intro ⟨v, S'⟩ ⟨hv', hSl', hS'⟩ K3 hK3
      dsimp only at hv' hSl' hS' hK3 ⊢
      by_cases hvn : v < b.length
      · have hfv := hfar v hvn
        have h1 := hS' v hvn
        rw [if_neg (by omega)] at h1
        have h2 := hSb v hvn
        have ld := fun H h => p_ldO (H := H) (id := 0) (l := S') (i := v) h (by omega)
        have st := fun (vv : Int) call H h => e_stO (call := call) (H := H) (id := 0) (l := S') (i := v) (v := vv) h (by omega)
        by_cases hlt : getI F (v : Int) < ((d + 1 : Nat) : Int)
        · skip
          repeat' first
 | (apply s_mov; exact aW)
 | (apply c_nil)
 | (apply s_lss; exact rfl; all_goals (intro _; try (exfalso; omega)))
 | (apply s_add; exact rfl; omega)
 | (apply s_pn; exact aO; exact p_ixO hvn)
 | (apply s_pn; exact aO; exact ld _ rfl)
 | (apply s_st; exact aO; exact st _ _ _ rfl)
 | (apply s_idx; exact aW; exact rfl; exact aI; omega)
 | (apply s_ldI; exact rfl; omega)
 | (apply c_seq)
 | (apply c_reg)
 | (apply c_block)
 | (apply c_skip)
 | (apply c_condT; exact rfl)
 | (with_reducible apply k_c)
          all_goals first
            | (refine hK3 (v + 1, _) _ _ ⟨by omega, by simpa using hSl', fun i hi => ?_⟩ (by show b.length - (v + 1) < _; omega) (gcB _ _ (v + 1) _)
               dsimp only
               rw [getI_set (by omega)]
               by_cases e : i = v
               · subst e
                 rw [if_pos rfl, if_pos (by omega), h1]
                 unfold nearS
                 rw [hgD, if_pos hlt]
               · rw [if_neg e, hS' i hi]
                 by_cases e2 : i < v
                 · rw [if_pos e2, if_pos (by omega)]
                 · rw [if_neg e2, if_neg (by omega)])
            | (exfalso; omega)
        · skip
          repeat' first
 | (apply s_mov; exact aW)
 | (apply c_nil)
 | (apply s_lss; exact rfl; all_goals (intro _; try (exfalso; omega)))
 | (apply s_add; exact rfl; omega)
 | (apply s_idx; exact aW; exact rfl; exact aI; omega)
 | (apply s_ldI; exact rfl; omega)
 | (apply c_seq)
 | (apply c_reg)
 | (apply c_block)
 | (apply c_skip)
 | (apply c_condT; exact rfl)
 | (apply c_condF; exact rfl)
 | (with_reducible apply k_c)
          all_goals first
            | (refine hK3 (v + 1, S') _ _ ⟨by omega, hSl', fun i hi => ?_⟩ (by show b.length - (v + 1) < _; omega) (gcB _ _ (v + 1) _)
               dsimp only
               rw [hS' i hi]
               by_cases e : i = v
               · subst e
                 rw [if_neg (by omega), if_pos (by omega)]
                 unfold nearS
                 rw [hgD, if_neg hlt, Int.add_zero]
               · by_cases e2 : i < v
                 · rw [if_pos e2, if_pos (by omega)]
                 · rw [if_neg e2, if_neg (by omega)])
            | (exfalso; omega)
      · obtain rfl : v = b.length := by omega
        repeat' first
 | (apply c_nil)
 | (apply s_lss; exact rfl; all_goals (intro _; try (exfalso; omega)))
 | (apply c_seq)
 | (apply c_reg)
 | (apply c_exitH)
 | (apply c_condF; exact rfl)
 | (with_reducible apply k_c)
        apply c_pre (vs := [x, y, vf, .sl 0 1 0 b.length, .int .i64 ((d + 1 : Nat) : Int)]) (H' := [some (.data (iL S'))])
        · simp [go_sem, fx, fy, ff]
        repeat' first
 | (apply s_mov; exact aW)
 | (apply c_nil)
 | (apply s_sub; exact rfl; omega)
 | (apply c_reg)
        have hcong : ∀ j, j < b.length → gf S j + nearS (gf F) ((d + 1 : Nat) : Int) Tk j = gf S' j := fun j hj => by
          have := hS' j hj
          rw [if_pos hj] at this
          exact this.symm
        refine hK (d, S') _ _ ⟨by dsimp only; omega, hSl', hst.congr hcong, fun j hj => ?_⟩ (by dsimp only; omega) (by
          have := gcO (d : Int) (iL S')
          rw [show ((d + 1 : Nat) : Int) - 1 = (d : Int) by omega]
          exact this)
        rw [← hR j hj]
        exact (payF_congr d hcong j hj).symm
set_option maxHeartbeats 8000000
theorem c23 {x : AV} {b : List (List Int)} (hx : IsLL x b) (hl : b.length < 100) {m : Nat} (hm : 2100 ≤ m) (H : Heap) : callPure (evF tab it m) true 23 [x] H = some (.bool (decide (IsB b)), H) :=
  callPure_free (by simp [idFreeL, hx.free]) (by simp) (f23 hx hl hm) rfl
theorem b12_idem (b : List (List Int)) : b12 (b12 b) = b12 b := by
  unfold b12
  rw [← List.map_take, List.take_take, List.map_map]
  simp only [Nat.min_self]
  congr 1
  funext l
  simp [List.take_take]
theorem awakeN {m : Nat} (hm : 60000 ≤ m) (H : Heap) : callPure (evF tab it m) true 25 [] H = some (.bool true, H) :=
  callPure_free rfl (by simp) (evF_mono hm _ _ _ _ awake) rfl
theorem T23 : T 23 = some ⟨.slice 3, 1, 24, [.nilS]⟩ := rfl
theorem T3 : T 3 = some ⟨.int .i64, 1, 8, [.int .i64 0]⟩ := rfl
theorem T22 : T 22 = some ⟨.slice 23, 1, 24, [.nilS]⟩ := rfl
theorem take1 {l : List AV} {i : Nat} (h : i < l.length) : (l.drop i).take 1 = [l.getD i .undef] := by
  rw [List.drop_eq_getElem_cons h]
  simp only [List.take_succ_cons, List.take_zero, List.getD, List.getElem?_eq_getElem h, Option.getD_some]
theorem ints_of : ∀ (cs : List AV), (∀ i, i < cs.length → ∃ n : Int, cs.getD i .undef = .int .i64 n) → ∃ l, cs = iL l
  | [], _ => ⟨[], rfl⟩
  | c :: cs, h => by
    obtain ⟨n, hn⟩ := h 0 (by simp)
    obtain ⟨l, rfl⟩ := ints_of cs fun i hi => by simpa using h (i + 1) (by simpa using hi)
    simp at hn
    exact ⟨n :: l, by simp [iL, hn]⟩
theorem ty_int {k : Nat} {cs : List AV} (h : TyAV T k 3 cs) : ∃ n : Int, cs = [.int .i64 n] ∧ (Lit.int .i64 n).wf = true := by
  cases k with
  | zero => exact h.elim
  | succ k =>
    obtain ⟨s, hs, hm⟩ := h
    rw [T3] at hs; cases hs
    exact hm
theorem ty_intsB {k : Nat} {cs : List AV} (h : TyAV T k 23 cs) : ∃ x l, cs = [x] ∧ IsL x l ∧ l.length < 2 ^ 63 := by
  cases k with
  | zero => exact h.elim
  | succ k =>
    obtain ⟨s, hs, hm⟩ := h
    rw [T23] at hs; cases hs
    rcases hm with rfl | ⟨len, cells, se, h1, rfl, h3, h5, h4⟩
    · exact ⟨_, [], rfl, .nil, by simp⟩
    · rw [T3] at h1; cases h1
      simp only [Nat.mul_one] at h3 h4
      obtain ⟨l, rfl⟩ := ints_of cells fun i hi => by
        obtain ⟨n, hn, -⟩ := ty_int (h4 i (by omega))
        rw [take1 hi] at hn
        exact ⟨n, by simpa using hn⟩
      rw [iL_len] at h3
      subst h3
      exact ⟨_, l, rfl, .rd l, h5⟩
theorem ty_ints {k : Nat} {cs : List AV} (h : TyAV T k 23 cs) : ∃ x l, cs = [x] ∧ IsL x l := by
  obtain ⟨x, l, h1, h2, -⟩ := ty_intsB h
  exact ⟨x, l, h1, h2⟩
theorem arg_ints {k : Nat} {x : AV} (h : TyArg T k 23 x) : ∃ l, IsL x l := by
  rcases h with ⟨s, xs, hs, ha, _⟩ | ⟨s, hs, ha, h⟩
  · rw [T23] at hs; cases hs; cases ha
  · obtain ⟨y, l, hy, hl⟩ := ty_ints h
    simp only [List.cons.injEq, and_true] at hy
    exact ⟨l, by rw [hy]; exact hl⟩
set_option maxHeartbeats 1000000
def bitN (S : Nat → Bool) : Nat → Nat
  | 0 => 0
  | k + 1 => bitN S k + (if S k = true then 2 ^ k else 0)
theorem bitN_lt (S : Nat → Bool) : ∀ n, bitN S n < 2 ^ n
  | 0 => by simp [bitN]
  | n + 1 => by
    have := bitN_lt S n
    have e : 2 ^ (n + 1) = 2 ^ n + 2 ^ n := by rw [Nat.pow_succ]; omega
    simp only [bitN]
    split <;> omega
theorem bitN_bit (S : Nat → Bool) : ∀ {n i : Nat}, i < n → bitN S n / 2 ^ i % 2 = if S i = true then 1 else 0
  | n + 1, i, h => by
    simp only [bitN]
    have hp : 0 < 2 ^ i := Nat.pow_pos (by omega)
    rcases (by omega : i < n ∨ i = n) with h1 | rfl
    · have ih := bitN_bit S h1
      split
      · obtain ⟨j, rfl⟩ : ∃ j, n = i + 1 + j := ⟨n - i - 1, by omega⟩
        have e : 2 ^ (i + 1 + j) = 2 ^ i * (2 * 2 ^ j) := by rw [Nat.pow_add, Nat.pow_succ]; simp only [Nat.mul_assoc]
        rw [e, Nat.add_mul_div_left _ _ hp, Nat.add_mul_mod_self_left]
        exact ih
      · exact ih
    · have := bitN_lt S i
      split
      · have e : bitN S i + 2 ^ i = bitN S i + 2 ^ i * 1 := by omega
        rw [e, Nat.add_mul_div_left _ _ hp, Nat.div_eq_of_lt this]
      · rw [Nat.add_zero, Nat.div_eq_of_lt this]
theorem bitN_congr {S S' : Nat → Bool} : ∀ {n : Nat}, (∀ j, j < n → S j = S' j) → bitN S n = bitN S' n
  | 0, _ => rfl
  | n + 1, h => by simp only [bitN]; rw [bitN_congr fun j hj => h j (by omega), h n (by omega)]
theorem bitN_none : ∀ n : Nat, bitN (fun _ => false) n = 0
  | 0 => rfl
  | n + 1 => by simp [bitN, bitN_none n]
theorem bitN_set {S S' : Nat → Bool} {i : Nat} (h : S i = false) (h' : ∀ j, S' j = (j == i || S j)) : ∀ {n : Nat}, i < n → bitN S' n = bitN S n + 2 ^ i
  | n + 1, hi => by
    simp only [bitN]
    rcases (by omega : i < n ∨ i = n) with h1 | rfl
    · rw [bitN_set h h' h1, h' n]
      have : (n == i) = false := by simp; omega
      rw [this, Bool.false_or]
      omega
    · have e : bitN S' i = bitN S i := bitN_congr fun j hj => by
        rw [h' j]
        have : (j == i) = false := by simp; omega
        rw [this, Bool.false_or]
      rw [e, h' i, h]
      simp
theorem sumTo_set {S S' : Nat → Bool} {f : Nat → Int} {i : Nat} (h : S i = false) (h' : ∀ j, S' j = (j == i || S j)) : ∀ {n : Nat}, i < n → sumTo (fun j => if S' j = true then f j else 0) n = sumTo (fun j => if S j = true then f j else 0) n + f i
  | n + 1, hi => by
    simp only [sumTo]
    rcases (by omega : i < n ∨ i = n) with h1 | rfl
    · rw [sumTo_set h h' h1, h' n]
      have : (n == i) = false := by simp; omega
      rw [this, Bool.false_or]
      omega
    · have e : sumTo (fun j => if S' j = true then f j else 0) i = sumTo (fun j => if S j = true then f j else 0) i := sumTo_congr fun j hj => by
        rw [h' j]
        have : (j == i) = false := by simp; omega
        rw [this, Bool.false_or]
      rw [e, h' i, h]
      simp
theorem p_shr {H : Heap} {a b : Nat} (hb : b < 62) : evP H (.bin .shr) [.int .i64 (a : Int), .int .i64 (b : Int)] = some (.int .i64 ((a / 2 ^ b : Nat) : Int)) := by
  simp only [evP, binV, isShift, shiftInt, if_true]
  rw [if_neg (by omega)]
  have hm : min ((b : Int)).toNat IntKind.i64.bits = b := by
    rw [Int.toNat_natCast]
    show min b 64 = b
    omega
  have e : ((a : Int)).fdiv (2 ^ b) = ((a / 2 ^ b : Nat) : Int) := by
    have e : ((2 : Int) ^ b) = ((2 ^ b : Nat) : Int) := by push_cast; rfl
    rw [e]
    exact Int.ofNat_fdiv a (2 ^ b) |>.symm ▸ rfl
  simp only [hm]
  rw [e]
theorem p_shl {H : Heap} {b : Nat} (hb : b < 62) : evP H (.bin .shl) [.int .i64 1, .int .i64 (b : Int)] = some (.int .i64 ((2 ^ b : Nat) : Int)) := by
  simp only [evP, binV, isShift, shiftInt, if_true]
  rw [if_neg (by omega)]
  have hm : min ((b : Int)).toNat IntKind.i64.bits = b := by
    rw [Int.toNat_natCast]
    show min b 64 = b
    omega
  have hlt : 2 ^ b < 9223372036854775808 := Nat.lt_of_lt_of_le (Nat.pow_lt_pow_right (by omega) hb) (by decide)
  simp only [hm, Int.one_mul]
  have e : ((2 : Int) ^ b) = ((2 ^ b : Nat) : Int) := by push_cast; rfl
  rw [e]
  generalize 2 ^ b = B at hlt ⊢
  rw [wrapI (by omega)]
def preS (O : List Int) (k : Nat) : Nat → Bool := fun j => decide ((j : Int) ∈ O.take k)
theorem preS_zero (O : List Int) (j : Nat) : preS O 0 j = false := by simp [preS]
theorem mem_take {O : List Int} {k : Nat} {v : Int} (hk : k ≤ O.length) : v ∈ O.take k ↔ ∃ j : Nat, j < k ∧ getI O (j : Int) = v := by
  constructor
  · intro h
    obtain ⟨j, hj, e⟩ := List.getElem_of_mem h
    rw [List.length_take] at hj
    refine ⟨j, by omega, ?_⟩
    rw [getI_nat]
    simp only [List.getElem_take] at e
    simp [List.getD, show j < O.length by omega, e]
  · rintro ⟨j, hj, e⟩
    rw [getI_nat] at e
    have hjl : j < O.length := by omega
    simp only [List.getD, List.getElem?_eq_getElem hjl, Option.getD_some] at e
    rw [← e, List.mem_iff_getElem]
    exact ⟨j, by rw [List.length_take]; omega, by simp⟩
theorem preS_succ {O : List Int} {k i : Nat} (hk : k < O.length) (hi : getI O (k : Int) = (i : Int)) (j : Nat) : preS O (k + 1) j = (j == i || preS O k j) := by
  have e : preS O (k + 1) j = decide ((j : Int) ∈ O.take (k + 1)) := rfl
  rw [e, Bool.eq_iff_iff]
  simp only [preS, decide_eq_true_eq, Bool.or_eq_true, beq_iff_eq, mem_take (show k + 1 ≤ O.length by omega), mem_take (show k ≤ O.length by omega)]
  constructor
  · rintro ⟨t, ht, e⟩
    rcases (by omega : t < k ∨ t = k) with h | rfl
    · exact .inr ⟨t, h, e⟩
    · left; omega
  · rintro (rfl | ⟨t, ht, e⟩)
    · exact ⟨k, by omega, hi⟩
    · exact ⟨t, by omega, e⟩
theorem preS_sum {O : List Int} {n : Nat} (f : Int → Int) : ∀ {k : Nat}, k ≤ O.length → (∀ j : Nat, j < k → (0 ≤ getI O (j : Int) ∧ getI O (j : Int) < n) ∧ (∀ t : Nat, t < j → getI O (t : Int) ≠ getI O (j : Int))) →
    sumTo (fun j => if preS O k j = true then f (j : Int) else 0) n = sumTo (fun j => f (getI O (j : Int))) k
  | 0, _, _ => by
    simp only [preS_zero]
    have : ∀ n : Nat, sumTo (fun j => if false = true then f (j : Int) else 0) n = 0 := fun n => by
      induction n with
      | zero => rfl
      | succ n ih => simp only [sumTo, ih]; simp
    simpa [sumTo] using this n
  | k + 1, hk, h => by
    obtain ⟨⟨h1, h2⟩, h3⟩ := h k (by omega)
    obtain ⟨i, hi⟩ : ∃ i : Nat, getI O (k : Int) = (i : Int) := ⟨(getI O (k : Int)).toNat, by omega⟩
    have hS : preS O k i = false := by
      simp only [preS, decide_eq_false_iff_not, mem_take (show k ≤ O.length by omega)]
      rintro ⟨t, ht, e⟩
      exact h3 t ht (by omega)
    rw [sumTo_set (f := fun j => f (j : Int)) hS (preS_succ (by omega) hi) (by omega), preS_sum f (by omega) fun j hj => h j (by omega)]
    simp only [sumTo, hi]
set_option maxHeartbeats 4000000
def brn (b : List (List Int)) (ord : List Nat) (v : Nat) : Int := sumTo (fun j => getI (getLL b (v : Int)) (getI (nI ord) (j : Int))) ord.length
def bP (b : List (List Int)) (l : List Int) (ord : List Nat) (v : Nat) : Bool := !ord.contains v && decide (getI l (v : Int) < brn b ord v)
def burnF (b : List (List Int)) (l : List Int) : Nat → List Nat → List Nat
  | 0, ord => ord
  | f + 1, ord => match (List.range b.length).find? (bP b l ord) with
    | none => ord
    | some v => burnF b l f (ord ++ [v])
def burnL (b : List (List Int)) (l : List Int) (q : Nat) : List Nat := burnF b l b.length [q]
theorem nI_get {ord : List Nat} {j : Nat} (h : j < ord.length) : getI (nI ord) (j : Int) = (ord[j] : Nat) := by
  rw [getI_nat]
  simp [nI, List.getD, h]
structure BrnOk (b : List (List Int)) (l : List Int) (q : Nat) (ord : List Nat) : Prop where
  nd : ord.Nodup
  lt : ∀ v ∈ ord, v < b.length
  hd : ord[0]? = some q
  low : ∀ k : Nat, 0 < k → (h : k < ord.length) → getI l ((ord[k] : Nat) : Int) < brn b (ord.take k) ord[k]
theorem BrnOk.init {b : List (List Int)} {l : List Int} {q : Nat} (hq : q < b.length) : BrnOk b l q [q] :=
  ⟨by simp, by simpa using hq, rfl, fun k h1 h2 => by simp at h2; omega⟩
theorem BrnOk.step {b : List (List Int)} {l : List Int} {q : Nat} {ord : List Nat} (h : BrnOk b l q ord) {v : Nat} (hv : v < b.length) (hp : bP b l ord v = true) : BrnOk b l q (ord ++ [v]) := by
  simp only [bP, Bool.and_eq_true, Bool.not_eq_true', decide_eq_true_eq] at hp
  obtain ⟨h1, h2⟩ := hp
  have hm : v ∉ ord := by simpa using h1
  have h0 := h.hd
  obtain ⟨h3, -⟩ := List.getElem?_eq_some_iff.1 h0
  refine ⟨?_, fun w hw => ?_, by rw [List.getElem?_append_left h3]; exact h0, fun k k1 k2 => ?_⟩
  · rw [List.nodup_append]
    exact ⟨h.nd, by simp, fun a ha c hc e => by simp at hc; subst hc; subst e; exact hm ha⟩
  · rcases List.mem_append.1 hw with hw | hw
    · exact h.lt w hw
    · simp at hw; subst hw; exact hv
  · simp only [List.length_append, List.length_cons, List.length_nil] at k2
    by_cases e : k < ord.length
    · rw [List.getElem_append_left e, List.take_append_of_le_length (by omega)]
      exact h.low k k1 e
    · obtain rfl : k = ord.length := by omega
      rw [List.getElem_append_right (by omega)]
      simpa using h2
theorem BrnOk.len {b : List (List Int)} {l : List Int} {q : Nat} {ord : List Nat} (h : BrnOk b l q ord) : 1 ≤ ord.length ∧ ord.length ≤ b.length := by
  obtain ⟨h3, -⟩ := List.getElem?_eq_some_iff.1 h.hd
  have := nodup_len h.nd fun w hw => List.mem_range.2 (h.lt w hw)
  rw [List.length_range] at this
  omega
theorem burnF_ok {b : List (List Int)} {l : List Int} {q : Nat} : ∀ (f : Nat) (ord : List Nat), BrnOk b l q ord → b.length ≤ f + ord.length → BrnOk b l q (burnF b l f ord) ∧ ∀ v, v < b.length → bP b l (burnF b l f ord) v = false
  | 0, ord, h, hf => ⟨h, fun v hv => by
      have hl := h.len
      have hm : v ∈ ord := by
        apply Classical.byContradiction
        intro hn
        have hnd : (v :: ord).Nodup := List.nodup_cons.2 ⟨hn, h.nd⟩
        have := nodup_len hnd (l2 := List.range b.length) fun w hw => by
          rcases List.mem_cons.1 hw with rfl | hw
          · exact List.mem_range.2 hv
          · exact List.mem_range.2 (h.lt w hw)
        rw [List.length_range] at this
        simp at this
        omega
      unfold bP burnF
      simp [hm]⟩
  | f + 1, ord, h, hf => by
    simp only [burnF]
    split
    · rename_i hn
      refine ⟨h, fun v hv => ?_⟩
      have := List.find?_eq_none.1 hn v (List.mem_range.2 hv)
      simpa using this
    · rename_i v hn
      have hp := List.find?_some hn
      have hv := List.mem_range.1 (List.mem_of_find?_eq_some hn)
      exact burnF_ok f _ (h.step hv hp) (by simp; omega)
theorem burnL_ok {b : List (List Int)} {l : List Int} {q : Nat} (hq : q < b.length) : BrnOk b l q (burnL b l q) ∧ ∀ v, v < b.length → bP b l (burnL b l q) v = false :=
  burnF_ok _ _ (BrnOk.init hq) (by omega)
theorem brn_out {b : List (List Int)} {ord : List Nat} (hnd : ord.Nodup) (hlt : ∀ v ∈ ord, v < b.length) (v : Nat) : brn b ord v = outE b.length (ed b) (fun u => !ord.contains u) v := by
  have h := preS_sum (O := nI ord) (n := b.length) (fun u => getI (getLL b (v : Int)) u) (k := ord.length) (by rw [nI_len]; omega) fun j hj => by
    rw [nI_get hj]
    have := hlt _ (List.getElem_mem hj)
    refine ⟨by omega, fun t ht => ?_⟩
    rw [nI_get (by omega)]
    intro e
    have e2 : ord[t] = ord[j] := by omega
    exact (List.pairwise_iff_getElem.1 hnd) t j (by omega) hj ht e2
  unfold brn
  rw [← h]
  unfold outE
  refine sumTo_congr fun u hu => ?_
  have e : preS (nI ord) ord.length u = ord.contains u := by
    rw [Bool.eq_iff_iff]
    simp only [preS, decide_eq_true_eq, List.contains_iff_mem]
    rw [List.take_of_length_le (by rw [nI_len]; omega)]
    simp only [nI, List.mem_map]
    constructor
    · rintro ⟨a, ha, e⟩
      have : a = u := by omega
      exact this ▸ ha
    · intro h; exact ⟨u, h, rfl⟩
  rw [e]
  show _ = if (!ord.contains u) = true then 0 else ed b v u
  cases ord.contains u <;> rfl
theorem burn_leg {b : List (List Int)} {l : List Int} {q : Nat} (hq : q < b.length) : Leg b.length (ed b) (gf l) (fun u => !(burnL b l q).contains u) := fun v hv hs => by
  obtain ⟨h1, h2⟩ := burnL_ok (b := b) (l := l) hq
  have h3 := h2 v hv
  rw [← brn_out h1.nd h1.lt v]
  simp only [bP, hs, Bool.true_and, decide_eq_false_iff_not] at h3
  unfold gf
  omega
theorem burn_red {b : List (List Int)} (hB : IsB b) {l : List Int} {q : Nat} (hq : q < b.length) (hl : ∀ v, v < b.length → v ≠ q → 0 ≤ gf l v) (hn : (burnL b l q).length = b.length) : Red b.length (ed b) q (gf l) := by
  obtain ⟨h1, h2⟩ := burnL_ok (b := b) (l := l) hq
  have g := gr_of hB
  generalize burnL b l q = ord at *
  refine ⟨hl, fun S hS ⟨w, hw, hsw⟩ => ?_⟩
  have hall : ∀ v, v < b.length → v ∈ ord := fun v hv => by
    apply Classical.byContradiction
    intro hn'
    have hnd : (v :: ord).Nodup := List.nodup_cons.2 ⟨hn', h1.nd⟩
    have := nodup_len hnd (l2 := List.range b.length) fun w hw => by
      rcases List.mem_cons.1 hw with rfl | hw
      · exact List.mem_range.2 hv
      · exact List.mem_range.2 (h1.lt w hw)
    rw [List.length_range] at this
    simp at this
    omega
  have key : ∀ k : Nat, (∃ j : Nat, j < k ∧ ∃ h : j < ord.length, S ord[j] = true) → ∃ j : Nat, ∃ h : j < ord.length, S ord[j] = true ∧ ∀ t : Nat, t < j → (ht : t < ord.length) → S ord[t] = false := by
    intro k
    induction k with
    | zero => rintro ⟨j, hj, _⟩; omega
    | succ k ih =>
      rintro ⟨j, hj, hjl, hs⟩
      by_cases hex : ∃ j : Nat, j < k ∧ ∃ h : j < ord.length, S ord[j] = true
      · exact ih hex
      · refine ⟨j, hjl, hs, fun t ht htl => ?_⟩
        cases hc : S ord[t] with
        | false => rfl
        | true => exact absurd ⟨t, by omega, htl, hc⟩ hex
  obtain ⟨j0, hj0, e0⟩ := List.getElem_of_mem (hall w hw)
  obtain ⟨j, hj, hs, hfirst⟩ := key ord.length ⟨j0, hj0, hj0, by rw [e0]; exact hsw⟩
  have hj1 : 0 < j := by
    rcases Nat.eq_zero_or_pos j with e | e
    · subst e
      have := h1.hd
      rw [List.getElem?_eq_getElem hj] at this
      simp only [Option.some.injEq] at this
      rw [this, hS] at hs
      cases hs
    · exact e
  have hv : ord[j] < b.length := h1.lt _ (List.getElem_mem hj)
  refine ⟨ord[j], hv, hs, ?_⟩
  have hlow := h1.low j hj1 hj
  have hnd : (ord.take j).Nodup := List.Nodup.sublist (List.take_sublist _ _) h1.nd
  rw [brn_out hnd (fun v hv => h1.lt v (List.mem_of_mem_take hv))] at hlow
  have hle : outE b.length (ed b) (fun u => !(ord.take j).contains u) ord[j] ≤ outE b.length (ed b) S ord[j] := by
    refine sumTo_mono fun u hu => ?_
    have hn0 := g.nn ord[j] u hv hu
    by_cases hm : u ∈ ord.take j
    · have hc : (ord.take j).contains u = true := by simpa using hm
      obtain ⟨t, ht, e⟩ := List.getElem_of_mem hm
      rw [List.length_take] at ht
      simp only [List.getElem_take] at e
      have hSu := hfirst t (by omega) (by omega)
      rw [e] at hSu
      simp only [hc, hSu, Bool.not_true, Bool.false_eq_true, if_false]
      exact Int.le_refl _
    · have hc : (ord.take j).contains u = false := by simpa using hm
      simp only [hc, Bool.not_false, if_true]
      split <;> omega
  unfold gf
  omega
end Go.AM.Ch
