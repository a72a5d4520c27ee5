/- A part of the proof: U57. -/
import Derived.Test.YtmegimhfoedcdaaU53
import Derived.Test.YtmegimhfoedcdaaU49
import Derived.Test.YtmegimhfoedcdaaU56
set_option linter.unusedSectionVars false
set_option linter.unusedVariables false
set_option linter.unusedSimpArgs false
namespace Go.AM.Ch
attribute [local go_sem] gc subHeap reach_skip ren_free reach_new reach_newp reach_end rangeL roots boxCells nodupB posOf renL AV.ren pickO renH renO looks look bindEnv envOf reach_int reach_bool reach_nilS reach_rd putRow cells_sl cells_int cells_bool cells_nilS cells_rd cells_agg reach_agg reach_tup idFreeL idf_sl idf_ptr idf_int idf_bool idf_nilS idf_rd reach_fn reach_mp cells_fn cells_ptr cells_mp idf_mp idf_fn idf_agg idf_tup
set_option maxHeartbeats 8000000
theorem sumI_gf' (l : List Int) : sumI l = sumTo (gf l) l.length := rfl
theorem c34' {x : AV} {b : List (List Int)} {w : Nat} (hx : IsLL x b) (hb : b.length < 9223372036854775808) (hw : 1 ≤ w ∧ w ≤ 10) {m : Nat} (hm : 100 ≤ m) (H : Heap) :
    callPure (evF tab it m) true 34 [x, .int .i64 (w : Int)] H = some (fzLL (growL b w), H) :=
  callPure_frz (by simp [idFreeL, AV.idFree, hx.free]) (by simp) (f34 hx hb hw hm) (hb_frz (growL_rows b w) (grN_le b hw.1).1 (by have := (grN_le b hw.1).2; omega))
theorem c37p {args : List AV} {x y z : AV} {b : List (List Int)} {s t : List Int} (hx : IsLL x b) (hy : IsL y s) (hz : IsL z t) (hl : b.length < 100) (hs : s.length ≤ 1000) (ht : t.length ≤ 1000) (h : ApOk b s t) {m : Nat} (hm : 2130 ≤ m) (H : Heap) (ha : frzL H 40 args = some [x, y, z]) :
    callPure (evF tab it m) true 37 args H = some (.tup [.rd 1 b.length (iL (apl b s t)), .int .i64 0], H) := by
  have f := f37 hx hy hz hl hs ht hm
  rw [if_pos h, if_pos h] at f
  refine callPure_own ha f rfl (by simp [HO.hasRd, iL_noRd]) ?_
  exact frzV_tup rfl (frzL_cons (frz_sl rfl (apl_len b s t)) (frzL_cons rfl frzL_nil))
/-- twice a script, and more -/
def twL (t : List Int) : List Int := t.map fun a => 2 * a + 7
theorem twL_get {t : List Int} {i : Nat} (h : i < t.length) : getI (twL t) (i : Int) = 2 * getI t (i : Int) + 7 := by
  rw [getI_nat, getI_nat]; simp [twL, List.getD, h]
theorem apl_tw {b : List (List Int)} (hB : IsB b) {s t : List Int} (ht : t.length = b.length) : apl b (apl b s t) t = apl b s (twL t) := by
  rw [apl_pl hB ht]
  refine ext_getI (by rw [apl_len, apl_len]) fun i hi => ?_
  rw [apl_len] at hi
  rw [apl_ap hB _ _ hi, apl_ap hB _ _ hi]
  unfold ap
  have e1 : net b.length (ed b) (gf (pl t t)) i = net b.length (ed b) (fun j => gf t j + gf t j) i := net_congr hi fun j hj => pl_get (by omega)
  have e2 : net b.length (ed b) (gf (twL t)) i = net b.length (ed b) (fun j => (gf t j + gf t j) + 7) i := net_congr hi fun j hj => by
    have := twL_get (t := t) (i := j) (by omega)
    unfold gf
    omega
  rw [e1, e2, net_add _ _ (fun j => gf t j + gf t j) (fun _ => 7), net_const]
  omega
theorem apl_seven {b : List (List Int)} (hB : IsB b) {s : List Int} (hs : s.length = b.length) : apl b s (List.replicate b.length 7) = s := by
  refine ext_getI (by rw [apl_len, hs]) fun i hi => ?_
  rw [apl_len] at hi
  rw [apl_ap hB _ _ hi]
  have e : net b.length (ed b) (gf (List.replicate b.length 7)) i = net b.length (ed b) (fun _ => 7) i := net_congr hi fun j hj => by unfold gf; rw [getI_nat]; simp [List.getD, hj]
  unfold ap
  rw [e, net_const]
  show gf s i - 0 = _
  unfold gf
  omega
theorem redL_apl {b : List (List Int)} (hB : IsB b) {s t : List Int} (ht : t.length = b.length) {q : Nat} (hq : q < b.length) : redL b (apl b s t) q = redL b s q := by
  have hr := redL_red hB (apl b s t) hq
  have e : redL b (apl b s t) q = apl b s (pl t (redT b (apl b s t) q)) := by unfold redL; exact apl_pl hB ht
  rw [e] at hr ⊢
  exact redL_eq hB hq hr
theorem sum_apl' {b : List (List Int)} (hB : IsB b) (s t : List Int) : sumTo (gf (apl b s t)) b.length = sumTo (gf s) b.length := by
  rw [← ap_sum (gr_of hB) (gf s) (gf t)]
  exact sumTo_congr fun v hv => apl_ap hB s t hv
theorem apl_in {b : List (List Int)} (hB : IsB b) {s t : List Int} (hs : ∀ v : Nat, v < b.length → -1000 ≤ getI s (v : Int) ∧ getI s (v : Int) ≤ 1000) (ht : ∀ v : Nat, v < b.length → -50 ≤ getI t (v : Int) ∧ getI t (v : Int) ≤ 50) : InR b.length 1048576 (apl b s t) := by
  refine ⟨apl_len _ _ _, fun v hv => ?_⟩
  obtain ⟨k, hk, e⟩ := List.getElem_of_mem hv
  rw [apl_len] at hk
  have hg : getI (apl b s t) (k : Int) = v := by rw [getI_nat]; simp [List.getD, apl_len, hk, e]
  rw [apl_ap hB s t hk] at hg
  have hn := hB.n2
  have g := gr_of hB
  have h1 := ap_low g (l := gf s) (t := fun j => gf t j + 50) (B := 100) (fun w hw => by have := ht w hw; unfold gf; omega) (by decide) hk
  have e2 : ap b.length (ed b) (gf s) (fun j => gf t j + 50) k = ap b.length (ed b) (gf s) (gf t) k := by unfold ap; rw [net_add, net_const]; omega
  rw [e2] at h1
  have h2 := hs k hk
  have h3 : gf s k = getI s (k : Int) := rfl
  omega
/-- law 8 -/
theorem f8 {x y z : AV} {b : List (List Int)} {l sc : List Int} (hx : IsLL x b) (hbl : b.length < 9223372036854775808) (hy : IsL y l) (hz : IsL z sc) : ∃ m H', evF tab it m 8 [x, y, z] [] = some (.bool true, H') := by
  obtain ⟨M, hM⟩ : ∃ M, M = smK + 30 := ⟨_, rfl⟩
  have hM1 : 100000 ≤ M := by have := smK_big; omega
  refine ⟨M + 1, [], ?_⟩
  have h25 := fun H => awakeN (m := M) (by omega) H
  have fx := hx.free; have fy := hy.free; have fz := hz.free
  have e34 := fun H => c34' (w := 7) hx hbl (by decide) (m := M) (by omega) H
  have h1 := grow_isB b (w := 7) (by decide)
  generalize growL b 7 = B at *
  have iB := isLL_fz B
  have hn1 := h1.n1; have hn2 := h1.n2
  have e36 := fun H => c36 (w := 1000) iB hy hn1 (by omega) (by decide) (m := M) (by omega) H
  have e36t := fun H => c36 (w := 50) iB hz hn1 (by omega) (by decide) (m := M) (by omega) H
  have h2 := stL_in B.length l 1000 (by decide)
  have hsb : ∀ v : Nat, v < B.length → -1000 ≤ getI (stL B.length l 1000) (v : Int) ∧ getI (stL B.length l 1000) (v : Int) ≤ 1000 := fun v hv => by rw [stL_get hv]; have := stN_le (stX l v) 1000; omega
  have htb : ∀ v : Nat, v < B.length → -50 ≤ getI (stL B.length sc 50) (v : Int) ∧ getI (stL B.length sc 50) (v : Int) ≤ 50 := fun v hv => by rw [stL_get hv]; have := stN_le (stX sc v) 50; omega
  have hsl := stL_len B.length l 1000
  have htl := stL_len B.length sc 50
  generalize stL B.length l 1000 = S at *
  generalize stL B.length sc 50 = T at *
  have iS := isL_fz S; have iT := isL_fz T
  have hm2 := apl_in h1 hsb htb
  have hml := apl_len B S T
  have hsum := sum_apl' h1 S T
  have hred := redL_apl h1 (s := S) htl hn1
  have hwon : wonB B (apl B S T) = wonB B S := by unfold wonB; rw [hred]
  have hTw := apl_tw h1 (s := S) htl
  have hSv := apl_seven h1 hsl
  have hinT : ∀ L : List Int, L.length = B.length → (∀ v : Nat, v < B.length → -1000000 ≤ getI L (v : Int) ∧ getI L (v : Int) ≤ 1000000) → InR B.length 1099511627776 L := fun L hl h => ⟨hl, fun v hv => by
    obtain ⟨k, hk, e⟩ := List.getElem_of_mem hv
    have := h k (by omega)
    rw [getI_nat] at this
    have h2 : L.getD k 0 = v := by simp [List.getD, hk, e]
    rw [h2] at this
    omega⟩
  have okT := hinT T htl fun v hv => by have := htb v hv; omega
  have ok7 := hinT (List.replicate B.length 7) (by simp) fun v hv => by rw [getI_nat]; simp [List.getD, hv]
  have okW := hinT (twL T) (by simp [twL, htl]) fun v hv => by rw [twL_get (by omega)]; have := htb v hv; omega
  have iM := rd_isL hml
  have e37a := fun H => c37p iB iS iT (by omega) (by omega) (by omega) ⟨h1, h2, okT⟩ (m := M) (by omega) H (frzL_cons (frzV_of iB.free) (frzL_cons (frzV_of iS.free) (frzL_cons (frzV_of iT.free) frzL_nil)))
  have e37b := fun H => c37p iB iM iT (by omega) (by omega) (by omega) ⟨h1, hm2, okT⟩ (m := M) (by omega) H (frzL_cons (frzV_of iB.free) (frzL_cons (frzV_of iM.free) (frzL_cons (frzV_of iT.free) frzL_nil)))
  have hwl : (twL T).length = B.length := by simp [twL, htl]
  have hrl : (List.replicate B.length (7 : Int)).length = B.length := by simp
  have e37c := c37p iB iS (rd_isL hwl) (by omega) (by omega) (by omega) ⟨h1, h2, okW⟩ (m := M) (by omega) [some (.data (iL (List.replicate B.length 7))), some (.data (iL (twL T)))] (args := [fzLL B, fzL S, .sl 1 1 0 B.length]) (frzL_cons (frzV_of iB.free) (frzL_cons (frzV_of iS.free) (frzL_cons (frz_sl rfl hwl) frzL_nil)))
  have e37d := c37p iB iS (rd_isL hrl) (by omega) (by omega) (by omega) ⟨h1, h2, ok7⟩ (m := M) (by omega) [some (.data (iL (List.replicate B.length 7))), some (.data (iL (twL T)))] (args := [fzLL B, fzL S, .sl 0 1 0 B.length]) (frzL_cons (frzV_of iB.free) (frzL_cons (frzV_of iS.free) (frzL_cons (frz_sl rfl hrl) frzL_nil)))
  rw [hTw] at e37b
  rw [hSv] at e37d
  have hs1 : ∀ v ∈ S, -1099511627776 ≤ v ∧ v ≤ 1099511627776 := fun v hv => by have := h2.2 v hv; omega
  have hs2 : ∀ v ∈ apl B S T, -1099511627776 ≤ v ∧ v ≤ 1099511627776 := fun v hv => by have := hm2.2 v hv; omega
  have e32s := fun H => c32 iS (by omega) hs1 (m := M) (by omega) H
  have e32m := fun H => c32 iM (by omega) hs2 (m := M) (by omega) H
  rw [sumI_gf', hsl] at e32s
  rw [sumI_gf', hml, hsum] at e32m
  have e20s := fun H => c20 (q := 0) iB iS h1 h2 hn1 (m := M) (by omega) H
  have e20m := fun H => c20 (q := 0) iB iM h1 hm2 hn1 (m := M) (by omega) H
  rw [show apl B S (redT B S 0) = redL B S 0 from rfl] at e20s
  rw [show apl B (apl B S T) (redT B (apl B S T) 0) = redL B S 0 from hred] at e20m
  have e39s := fun H => c39 iB iS h1 h2 (m := M) (by omega) H
  have e39m := fun H => c39 iB iM h1 hm2 (m := M) (by omega) H
  rw [hwon] at e39m
  obtain ⟨hRl, hRq, -⟩ := redT_ok h1 S hn1
  obtain ⟨hQl, hQq, -⟩ := redT_ok h1 (apl B S T) hn1
  unfold gf at hRq hQq
  have hXl := redL_len B S 0
  have iX := rd_isL hXl
  have hwb : wonB B S = decide (0 ≤ getI (redL B S 0) 0) := rfl
  have e22a := fun H => c22 (rd_isL (apl_len B S (twL T))) (rd_isL (apl_len B S (twL T))) (by rw [apl_len]; omega) (m := M) (by omega) H
  have e22b := fun H => c22 (rd_isL hsl) iS (by omega) (m := M) (by omega) H
  have e22c := fun H => c22 iX iX (by omega) (m := M) (by omega) H
  simp only [decide_true] at e22a e22b e22c
  have fB := iB.free; have fS := iS.free; have fT := iT.free; have fM := iM.free
  have lB := fun H => p_lenLL (H := H) iB
  have mk := fun call H => @e_mkI call H B.length (by unfold most; omega)
  have al : ∀ call H, evE call H (.alloc false [.bool false, .nilS, .nilS]) [] = some (.ptr H.length 0, H ++ [some (.box [.bool false, .nilS, .nilS])]) := fun call H => rfl
  obtain ⟨p1, hp1, hq1⟩ : ∃ pv, (if wonB B S = true then AV.nilS else .rd 1 B.length (iL (ordB B S))) = pv ∧ pv.one = true := by
    cases wonB B S with
    | true => exact ⟨_, rfl, rfl⟩
    | false => exact ⟨_, rfl, rfl⟩
  obtain ⟨p2, hp2, hq2⟩ : ∃ pv, (if wonB B S = true then AV.nilS else .rd 1 B.length (iL (ordB B (apl B S T)))) = pv ∧ pv.one = true := by
    cases wonB B S with
    | true => exact ⟨_, rfl, rfl⟩
    | false => exact ⟨_, rfl, rfl⟩
  simp only [hp1] at e39s
  simp only [hp2] at e39m
  clear hp1 hp2
  have o1 : ∀ x : Bool, (AV.bool x).one = true := fun _ => rfl
  have hF1 : (AV.rd 1 B.length (iL (redT B S 0))).one = true := rfl
  have hF2 : (AV.rd 1 B.length (iL (redT B (apl B S T) 0))).one = true := rfl
  have hWl : (twL T).length = B.length := hwl
  have hWg := fun (i : Nat) (hi : i < B.length) => twL_get (t := T) (i := i) (by omega)
  have iR := rd_isL hRl
  have iQ := rd_isL hQl
  have lR := fun H => p_lenI (H := H) iR
  have lQ := fun H => p_lenI (H := H) iQ
  rw [hRl] at lR
  rw [hQl] at lQ
  have gq : getI (redT B S 0) 0 = 0 := hRq
  have gq2 : getI (redT B (apl B S T) 0) 0 = 0 := hQq
  clear hM hRq hQq hred hwon hTw hSv hsum
  generalize hvM : AV.rd 1 B.length (iL (apl B S T)) = vM at *
  generalize hvR : AV.rd 1 B.length (iL (redT B S 0)) = vR at *
  generalize hvQ : AV.rd 1 B.length (iL (redT B (apl B S T) 0)) = vQ at *
  generalize redT B S 0 = RR at *
  generalize redT B (apl B S T) 0 = QQ at *
  generalize hvX : AV.rd 1 B.length (iL (redL B S 0)) = vX at *
  generalize redL B S 0 = X at *
  generalize hW : wonB B S = W at *
  generalize sumTo (gf S) B.length = Z at *
  generalize twL T = TW at *
  have b3 : oneL [.bool W, vR, p1] = true := by simp [oneL, o1, hF1, hq1]
  have b4 : oneL [.bool W, vQ, p2] = true := by simp [oneL, o1, hF2, hq2]
  have bq : ∀ H, evP H (.beq false) [.bool W, .bool W] = some (.bool true) := fun H => by cases W <;> rfl
  refine f_enter rfl rfl ?_
  generalize evF tab it M = call at *
  generalize fzLL B = vB at *
  generalize hvS : fzL S = vS at *
  generalize hvT : fzL T = vT at *
  skip
  repeat' first
 | (apply s_mov; (focus ((conv => lhs; whnf); done)))
 | (apply s_gT; exact rfl)
 | (apply c_nil)
 | (apply s_pickF; exact rfl; (focus ((conv => lhs; whnf); done)))
 | ((first | apply s_lss | apply s_leq | apply s_gtr | apply s_geq | apply s_eql | apply s_neq); exact rfl; all_goals (intro _; try (exfalso; omega)))
 | (apply s_cn; (focus (repeat (first | apply opds_nil | (apply opds_cons; (first | (focus ((conv => lhs; whnf); done)) | exact rfl))))); exact e34 _)
 | (apply s_cn; (focus (repeat (first | apply opds_nil | (apply opds_cons; (first | (focus ((conv => lhs; whnf); done)) | exact rfl))))); exact e36 _)
 | (apply s_cn; (focus (repeat (first | apply opds_nil | (apply opds_cons; (first | (focus ((conv => lhs; whnf); done)) | exact rfl))))); exact e36t _)
 | (apply s_cn; (focus (repeat (first | apply opds_nil | (apply opds_cons; (first | (focus ((conv => lhs; whnf); done)) | exact rfl))))); exact e37a _)
 | (apply s_cn; (focus (repeat (first | apply opds_nil | (apply opds_cons; (first | (focus ((conv => lhs; whnf); done)) | exact rfl))))); exact e32m _)
 | (apply s_cn; (focus (repeat (first | apply opds_nil | (apply opds_cons; (first | (focus ((conv => lhs; whnf); done)) | exact rfl))))); exact e32s _)
 | (apply s_pn; (focus (repeat (first | apply opds_nil | (apply opds_cons; (first | (focus ((conv => lhs; whnf); done)) | exact rfl))))); exact lB _)
 | (apply s_en; (focus (repeat (first | apply opds_nil | (apply opds_cons; (first | (focus ((conv => lhs; whnf); done)) | exact rfl))))); exact mk _ _)
 | (apply s_pd; (focus ((conv => lhs; whnf); done)))
 | (apply c_seq)
 | (apply c_reg)
 | (apply c_block)
 | (apply c_skip)
 | (apply c_condF; exact rfl)
 | (with_reducible apply k_c)
  all_goals try (exfalso; omega)
  have gA : ∀ (i : Nat) (C D : List AV), gc 0 [vB, vS, vT, vM, .sl 0 1 0 B.length, ownV 1 D, .int .i64 (i : Int)] (some (.data C) :: owH D) = some ([vB, vS, vT, vM, .sl 0 1 0 B.length, ownV 1 D, .int .i64 (i : Int)], some (.data C) :: owH D) := fun i C D => by
    cases D <;> simp [ownV, owH, go_sem, fB, fS, fT, fM]
  have gB : ∀ (i c : Nat) (C D : List AV), gc 0 [vB, vS, vT, vM, .sl 0 1 0 B.length, .sl 2 1 0 c, .int .i64 (i : Int)] [some (.data C), none, some (.data D)] = some ([vB, vS, vT, vM, .sl 0 1 0 B.length, .sl 1 1 0 c, .int .i64 (i : Int)], [some (.data C), some (.data D)]) := fun i c C D => by
    simp [go_sem, fB, fS, fT, fM]
  refine c_loop ?_
  refine loop_gc (σ := Nat × List Int) (fun p => [vB, vS, vT, vM, .sl 0 1 0 B.length, ownV 1 (iL (TW.take p.1)), .int .i64 (p.1 : Int)]) (fun p => some (.data (iL p.2)) :: owH (iL (TW.take p.1))) (fun p => p.1 ≤ B.length ∧ p.2.length = B.length ∧ ∀ i : Nat, i < p.1 → getI p.2 (i : Int) = 7) (fun p => B.length - p.1) ?_ _ (0, List.replicate B.length 0) _ _ ⟨by dsimp only; omega, by simp, fun i hi => by omega⟩ (by show B.length - 0 < _; omega) (gA 0 _ [])
  intro ⟨i, same⟩ ⟨hi, hsm, hs7⟩ K hK
  dsimp only at hi hsm hs7 hK ⊢
  by_cases hin : i < B.length
  · have h3 := hWg i hin
    have h4 := htb i hin
    have hstep : TW.take (i + 1) = TW.take i ++ [2 * getI T (i : Int) + 7] := by
      rw [← List.take_append_getElem (by omega : i < TW.length)]
      congr 1
      rw [getI_nat] at h3
      simpa [List.getD, show i < TW.length by omega] using h3
    have hK1 := fun s' : List Int => hK (i + 1, s')
    dsimp only at hK1
    rw [hstep] at hK1
    have e1 : ∀ z : Int, iL (TW.take i ++ [z]) = iL (TW.take i) ++ [.int .i64 z] := fun z => by simp [iL]
    rw [e1] at hK1
    have hAl : (iL (TW.take i)).length ≤ 12 := by rw [iL_len]; simp; omega
    generalize iL (TW.take i) = A at *
    have st := fun (vv : Int) call H h => e_stO (call := call) (H := H) (id := 0) (l := same) (i := i) (v := vv) h (by omega)
    have mu := fun H => p_mul2 (H := H) (a := getI T (i : Int)) (by omega)
    have hnew : ∀ j : Nat, j < i + 1 → getI (same.set i 7) (j : Int) = 7 := fun j hj => by
      rw [getI_set (by omega)]
      by_cases e : j = i
      · rw [if_pos e]
      · rw [if_neg e]; exact hs7 j (by omega)
    rcases A with _ | ⟨u, us⟩
    · simp only [ownV, owH] at *
      repeat' first
 | (apply s_mov; (focus ((conv => lhs; whnf); done)))
 | (apply c_nil)
 | ((first | apply s_lss | apply s_leq | apply s_gtr | apply s_geq | apply s_eql | apply s_neq); exact rfl; all_goals (intro _; try (exfalso; omega)))
 | ((first | apply s_add | apply s_sub); exact rfl; omega)
 | (apply s_pn; (focus (repeat (first | apply opds_nil | (apply opds_cons; (first | (focus ((conv => lhs; whnf); done)) | exact rfl))))); exact lB _)
 | (apply s_pn; (focus (repeat (first | apply opds_nil | (apply opds_cons; (first | (focus ((conv => lhs; whnf); done)) | exact rfl))))); exact p_ixO hin)
 | (apply s_st; (focus (repeat (first | apply opds_nil | (apply opds_cons; (first | (focus ((conv => lhs; whnf); done)) | exact rfl))))); exact st _ _ _ rfl)
 | (apply s_pn; (focus (repeat (first | apply opds_nil | (apply opds_cons; (first | (focus ((conv => lhs; whnf); done)) | exact rfl))))); exact mu _)
 | (apply s_en; (focus (repeat (first | apply opds_nil | (apply opds_cons; (first | (focus ((conv => lhs; whnf); done)) | exact rfl))))); exact e_bld1 rfl rfl rfl rfl)
 | (apply s_en; (focus (repeat (first | apply opds_nil | (apply opds_cons; (first | (focus ((conv => lhs; whnf); done)) | exact rfl))))); exact e_app_nil rfl (by omega) (by decide))
 | (apply s_idx; (focus ((conv => lhs; whnf); done)); exact rfl; (first | assumption | (apply IsLL.at; assumption; omega)); omega)
 | (apply s_ldI; exact rfl; omega)
 | (apply c_seq)
 | (apply c_reg)
 | (apply c_block)
 | (apply c_skip)
 | (apply c_condT; exact rfl)
 | (with_reducible apply k_c)
      all_goals first
        | (exfalso; omega)
        | (refine hK1 (same.set i 7) _ _ ⟨by omega, by simpa using hsm, hnew⟩ (by show B.length - (i + 1) < _; omega) ?_
           exact gA (i + 1) _ [.int .i64 (2 * getI T (i : Int) + 7)])
    · simp only [ownV, owH] at *
      repeat' first
 | (apply s_mov; (focus ((conv => lhs; whnf); done)))
 | (apply c_nil)
 | ((first | apply s_lss | apply s_leq | apply s_gtr | apply s_geq | apply s_eql | apply s_neq); exact rfl; all_goals (intro _; try (exfalso; omega)))
 | ((first | apply s_add | apply s_sub); exact rfl; omega)
 | (apply s_pn; (focus (repeat (first | apply opds_nil | (apply opds_cons; (first | (focus ((conv => lhs; whnf); done)) | exact rfl))))); exact lB _)
 | (apply s_pn; (focus (repeat (first | apply opds_nil | (apply opds_cons; (first | (focus ((conv => lhs; whnf); done)) | exact rfl))))); exact p_ixO hin)
 | (apply s_st; (focus (repeat (first | apply opds_nil | (apply opds_cons; (first | (focus ((conv => lhs; whnf); done)) | exact rfl))))); exact st _ _ _ rfl)
 | (apply s_pn; (focus (repeat (first | apply opds_nil | (apply opds_cons; (first | (focus ((conv => lhs; whnf); done)) | exact rfl))))); exact mu _)
 | (apply s_en; (focus (repeat (first | apply opds_nil | (apply opds_cons; (first | (focus ((conv => lhs; whnf); done)) | exact rfl))))); exact e_bld1 rfl rfl rfl rfl)
 | (apply s_en; (focus (repeat (first | apply opds_nil | (apply opds_cons; (first | (focus ((conv => lhs; whnf); done)) | exact rfl))))); exact e_app_sl rfl rfl (by omega) (by simp at hAl; unfold most; omega))
 | (apply s_idx; (focus ((conv => lhs; whnf); done)); exact rfl; (first | assumption | (apply IsLL.at; assumption; omega)); omega)
 | (apply s_ldI; exact rfl; omega)
 | (apply c_seq)
 | (apply c_reg)
 | (apply c_block)
 | (apply c_skip)
 | (apply c_condT; exact rfl)
 | (with_reducible apply k_c)
      all_goals first
        | (exfalso; omega)
        | (refine hK1 (same.set i 7) _ _ ⟨by omega, by simpa using hsm, hnew⟩ (by show B.length - (i + 1) < _; omega) ((gB (i + 1) _ _ _).trans ?_)
           simp [ownV, owH])
  · obtain rfl : i = B.length := by omega
    obtain rfl : same = List.replicate B.length 7 := ext_getI (by simpa using hsm) fun j hj => by
      rw [hs7 j (by omega), getI_nat]; simp [List.getD, show j < B.length by omega]
    have hall : TW.take B.length = TW := List.take_of_length_le (by omega)
    rw [hall]
    have hown : ownV 1 (iL TW) = .sl 1 1 0 B.length ∧ owH (iL TW) = [some (.data (iL TW))] := by
      have h1 := iL_len TW
      generalize iL TW = C at *
      cases C with
      | nil => simp at h1; omega
      | cons c cs => simp only [List.length_cons] at h1; constructor <;> simp [ownV, owH]; omega
    rw [hown.1, hown.2]
    repeat' first
 | (apply s_mov; (focus ((conv => lhs; whnf); done)))
 | (apply c_nil)
 | ((first | apply s_lss | apply s_leq | apply s_gtr | apply s_geq | apply s_eql | apply s_neq); exact rfl; all_goals (intro _; try (exfalso; omega)))
 | (apply s_pn; (focus (repeat (first | apply opds_nil | (apply opds_cons; (first | (focus ((conv => lhs; whnf); done)) | exact rfl))))); exact lB _)
 | (apply c_seq)
 | (apply c_reg)
 | (apply c_exitH)
 | (apply c_condF; exact rfl)
 | (with_reducible apply k_c)
    apply c_pre (vs := [vB, vS, vT, vM, .sl 0 1 0 B.length, .sl 1 1 0 B.length]) (H' := [some (.data (iL (List.replicate B.length 7))), some (.data (iL TW))])
    · simp [go_sem, fB, fS, fT, fM]
    by_cases hx0 : 0 ≤ getI X 0
    · obtain rfl : W = true := by rw [hwb]; simpa using hx0
      repeat' first
 | (apply s_mov; (focus ((conv => lhs; whnf); done)))
 | (apply s_gT; exact rfl)
 | (apply c_nil)
 | (apply s_pickT; exact rfl; (focus ((conv => lhs; whnf); done)))
 | (apply s_pickF; exact rfl; (focus ((conv => lhs; whnf); done)))
 | (apply s_notT; exact rfl)
 | ((first | apply s_lss | apply s_leq | apply s_gtr | apply s_geq | apply s_eql | apply s_neq); exact rfl; all_goals (intro _; try (exfalso; omega)))
 | (apply s_cn; (focus (repeat (first | apply opds_nil | (apply opds_cons; (first | (focus ((conv => lhs; whnf); done)) | exact rfl))))); exact e37b _)
 | (apply s_cn; (focus (repeat (first | apply opds_nil | (apply opds_cons; (first | (focus ((conv => lhs; whnf); done)) | exact rfl))))); exact e37c)
 | (apply s_cn; (focus (repeat (first | apply opds_nil | (apply opds_cons; (first | (focus ((conv => lhs; whnf); done)) | exact rfl))))); exact e37d)
 | (apply s_cn; (focus (repeat (first | apply opds_nil | (apply opds_cons; (first | (focus ((conv => lhs; whnf); done)) | exact rfl))))); exact e22a _)
 | (apply s_cn; (focus (repeat (first | apply opds_nil | (apply opds_cons; (first | (focus ((conv => lhs; whnf); done)) | exact rfl))))); exact e22b _)
 | (apply s_cn; (focus (repeat (first | apply opds_nil | (apply opds_cons; (first | (focus ((conv => lhs; whnf); done)) | exact rfl))))); exact e22c _)
 | (apply s_cn; (focus (repeat (first | apply opds_nil | (apply opds_cons; (first | (focus ((conv => lhs; whnf); done)) | exact rfl))))); exact e20s _)
 | (apply s_cn; (focus (repeat (first | apply opds_nil | (apply opds_cons; (first | (focus ((conv => lhs; whnf); done)) | exact rfl))))); exact e20m _)
 | (apply s_cn; (focus (repeat (first | apply opds_nil | (apply opds_cons; (first | (focus ((conv => lhs; whnf); done)) | exact rfl))))); exact e39s _)
 | (apply s_cn; (focus (repeat (first | apply opds_nil | (apply opds_cons; (first | (focus ((conv => lhs; whnf); done)) | exact rfl))))); exact e39m _)
 | (apply s_en; (focus (repeat (first | apply opds_nil | (apply opds_cons; (first | (focus ((conv => lhs; whnf); done)) | exact rfl))))); exact al _ _)
 | (apply s_st; (focus (repeat (first | apply opds_nil | (apply opds_cons; (first | (focus ((conv => lhs; whnf); done)) | exact rfl))))); exact e_stA' rfl rfl rfl b3 rfl)
 | (apply s_st; (focus (repeat (first | apply opds_nil | (apply opds_cons; (first | (focus ((conv => lhs; whnf); done)) | exact rfl))))); exact e_stA' rfl rfl rfl b4 rfl)
 | (apply s_pn; (focus (repeat (first | apply opds_nil | (apply opds_cons; (first | (focus ((conv => lhs; whnf); done)) | exact rfl))))); exact lR _)
 | (apply s_pn; (focus (repeat (first | apply opds_nil | (apply opds_cons; (first | (focus ((conv => lhs; whnf); done)) | exact rfl))))); exact lQ _)
 | (apply s_pn; (focus (repeat (first | apply opds_nil | (apply opds_cons; (first | (focus ((conv => lhs; whnf); done)) | exact rfl))))); exact lB _)
 | (apply s_cn; (focus (repeat (first | apply opds_nil | (apply opds_cons; (first | (focus ((conv => lhs; whnf); done)) | exact rfl))))); exact h25 _)
 | (apply s_len; (focus ((conv => lhs; whnf); done)); (first | assumption | (apply IsLL.at; assumption; omega)))
 | (apply s_idx; (focus ((conv => lhs; whnf); done)); exact rfl; (first | assumption | (apply IsLL.at; assumption; omega)); omega)
 | (apply s_ldI; exact rfl; omega)
 | (apply s_pd; (focus ((conv => lhs; whnf); done)))
 | (apply c_seq)
 | (apply c_reg)
 | (apply c_skip)
 | (apply c_ret)
 | (apply c_condF; exact rfl)
 | (with_reducible apply k_c)
      all_goals first
        | (exfalso; omega)
        | exact fin_t (by (conv => lhs; whnf)) (by rfl) rfl
    · obtain rfl : W = false := by rw [hwb]; simpa using hx0
      repeat' first
 | (apply s_mov; (focus ((conv => lhs; whnf); done)))
 | (apply s_gT; exact rfl)
 | (apply c_nil)
 | (apply s_pickT; exact rfl; (focus ((conv => lhs; whnf); done)))
 | (apply s_pickF; exact rfl; (focus ((conv => lhs; whnf); done)))
 | (apply s_notT; exact rfl)
 | ((first | apply s_lss | apply s_leq | apply s_gtr | apply s_geq | apply s_eql | apply s_neq); exact rfl; all_goals (intro _; try (exfalso; omega)))
 | (apply s_cn; (focus (repeat (first | apply opds_nil | (apply opds_cons; (first | (focus ((conv => lhs; whnf); done)) | exact rfl))))); exact e37b _)
 | (apply s_cn; (focus (repeat (first | apply opds_nil | (apply opds_cons; (first | (focus ((conv => lhs; whnf); done)) | exact rfl))))); exact e37c)
 | (apply s_cn; (focus (repeat (first | apply opds_nil | (apply opds_cons; (first | (focus ((conv => lhs; whnf); done)) | exact rfl))))); exact e37d)
 | (apply s_cn; (focus (repeat (first | apply opds_nil | (apply opds_cons; (first | (focus ((conv => lhs; whnf); done)) | exact rfl))))); exact e22a _)
 | (apply s_cn; (focus (repeat (first | apply opds_nil | (apply opds_cons; (first | (focus ((conv => lhs; whnf); done)) | exact rfl))))); exact e22b _)
 | (apply s_cn; (focus (repeat (first | apply opds_nil | (apply opds_cons; (first | (focus ((conv => lhs; whnf); done)) | exact rfl))))); exact e22c _)
 | (apply s_cn; (focus (repeat (first | apply opds_nil | (apply opds_cons; (first | (focus ((conv => lhs; whnf); done)) | exact rfl))))); exact e20s _)
 | (apply s_cn; (focus (repeat (first | apply opds_nil | (apply opds_cons; (first | (focus ((conv => lhs; whnf); done)) | exact rfl))))); exact e20m _)
 | (apply s_cn; (focus (repeat (first | apply opds_nil | (apply opds_cons; (first | (focus ((conv => lhs; whnf); done)) | exact rfl))))); exact e39s _)
 | (apply s_cn; (focus (repeat (first | apply opds_nil | (apply opds_cons; (first | (focus ((conv => lhs; whnf); done)) | exact rfl))))); exact e39m _)
 | (apply s_en; (focus (repeat (first | apply opds_nil | (apply opds_cons; (first | (focus ((conv => lhs; whnf); done)) | exact rfl))))); exact al _ _)
 | (apply s_st; (focus (repeat (first | apply opds_nil | (apply opds_cons; (first | (focus ((conv => lhs; whnf); done)) | exact rfl))))); exact e_stA' rfl rfl rfl b3 rfl)
 | (apply s_st; (focus (repeat (first | apply opds_nil | (apply opds_cons; (first | (focus ((conv => lhs; whnf); done)) | exact rfl))))); exact e_stA' rfl rfl rfl b4 rfl)
 | (apply s_pn; (focus (repeat (first | apply opds_nil | (apply opds_cons; (first | (focus ((conv => lhs; whnf); done)) | exact rfl))))); exact lR _)
 | (apply s_pn; (focus (repeat (first | apply opds_nil | (apply opds_cons; (first | (focus ((conv => lhs; whnf); done)) | exact rfl))))); exact lQ _)
 | (apply s_pn; (focus (repeat (first | apply opds_nil | (apply opds_cons; (first | (focus ((conv => lhs; whnf); done)) | exact rfl))))); exact lB _)
 | (apply s_cn; (focus (repeat (first | apply opds_nil | (apply opds_cons; (first | (focus ((conv => lhs; whnf); done)) | exact rfl))))); exact h25 _)
 | (apply s_len; (focus ((conv => lhs; whnf); done)); (first | assumption | (apply IsLL.at; assumption; omega)))
 | (apply s_idx; (focus ((conv => lhs; whnf); done)); exact rfl; (first | assumption | (apply IsLL.at; assumption; omega)); omega)
 | (apply s_ldI; exact rfl; omega)
 | (apply s_pd; (focus ((conv => lhs; whnf); done)))
 | (apply c_seq)
 | (apply c_reg)
 | (apply c_skip)
 | (apply c_ret)
 | (apply c_condF; exact rfl)
 | (with_reducible apply k_c)
      all_goals first
        | (exfalso; omega)
        | exact fin_t (by (conv => lhs; whnf)) (by rfl) rfl
end Go.AM.Ch
