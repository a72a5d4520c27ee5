/- A part of the proof: Q56. -/
import Derived.Test.YtmeajfgjbebkiaaQ55
import Derived.Test.YtmeajfgjbebkiaaQ52
set_option linter.unusedSectionVars false
set_option linter.unusedVariables false
set_option linter.unusedSimpArgs false
namespace Go.AM.Pa
attribute [local go_sem] gc subHeap reach_skip ren_free reach_new reach_newp reach_end rangeL roots boxCells nodupB posOf renL AV.ren pickO renH renO looks look bindEnv envOf reach_int reach_bool reach_nilS reach_rd putRow cells_sl cells_int cells_bool cells_nilS cells_rd cells_agg reach_agg reach_tup idFreeL idf_sl idf_ptr idf_int idf_bool idf_nilS idf_rd
/-! ref.Winners -/
theorem rep_true (n : Nat) : List.replicate n true = (List.range n).map fun _ => true := by
  refine List.ext_getElem (by simp) fun i h1 h2 => ?_
  simp
theorem winL_succ2 (z : List Bool) (i : Nat) : iL (winL z (i + 1)) = iL (winL z i) ++ [.int .i64 (winA z i)] := winL_succ z i
set_option maxHeartbeats 4000000
theorem c38 {x : AV} {g : Gm} (hx : IsG x g) (hg : Good g) (hrow : ∀ i : Int, (getLL g.next i).length < 50) {m : Nat} (hm : 140 ≤ m) (H : Heap) :
    callPure (evF tab it m) true 38 [x] H = some (fzL (winL (zAll g).1 g.next.length), H) := by
  refine callPure_frz (by simp [idFreeL, hx.free]) (by simp) (v := ownV 0 (iL (winL (zAll g).1 g.next.length))) (H1 := owH (iL (winL (zAll g).1 g.next.length))) ?_ (frz_own _)
  obtain ⟨m, rfl⟩ : ∃ j, m = j + 1 := ⟨m - 1, by omega⟩
  have hg1 := hg.1; have hg2 := hg.2.1
  have har := area_fl hg
  have f := f61 hx hg rfl hrow 25 (fl g.next.length) ((List.range g.next.length).map fun _ => true) (List.replicate g.next.length (-1)) har (by simp) (by simp) (fun i => by rw [fl_getB hg1.2, getB_mapN]; simp) (by have := ct_le (fl g.next.length); rw [har.len] at this; omega) m (by omega)
  change evF tab it m 61 _ _ = some (_, [some (.data (bL (outL g.next.length (fl g.next.length) (zAll g).1)))]) at f
  have hWg : ∀ i : Nat, i < g.next.length → getB (outL g.next.length (fl g.next.length) (zAll g).1) i = !getB (zAll g).1 i := fun i hi => by
    rw [getB_outL (fun i h => by rw [fl_getB hg1.2] at h; simpa using h), fl_getB hg1.2]; simp [hi]
  have hWl := outL_len g.next.length (fl g.next.length) (zAll g).1
  generalize outL g.next.length (fl g.next.length) (zAll g).1 = WON at *
  obtain ⟨xo, xr, xn, rfl, ho, hr, hn⟩ := hx
  have fo := ho.free; have fr := hr.free; have fn := hn.free
  have ob : ∀ call, evE call [] (.box false) [.agg [xo, xr, xn]] = some (.ptr 0 0, [some (.box [xo, xr, xn])]) := fun call => by simp [evE, AV.cells, oneL, ho.one, hr.one, hn.one, mkHO]
  have h61 : callPure (evF tab it m) true 61 [.agg [xo, xr, xn], .sl 1 1 0 g.owner.length] [some (.box [xo, xr, xn]), some (.data (bL ((List.range g.next.length).map fun _ => true)))] = some (.rd 1 g.owner.length (bL WON), [some (.box [xo, xr, xn]), some (.data (bL ((List.range g.next.length).map fun _ => true)))]) := by
    have h2 : (bL ((List.range g.next.length).map fun _ => true)).length = g.next.length := by rw [bL_len]; simp
    have h3 : (bL ((List.range g.next.length).map fun _ => true)).take g.next.length = bL ((List.range g.next.length).map fun _ => true) := List.take_of_length_le (by omega)
    have e : frzL [some (.box [xo, xr, xn]), some (.data (bL ((List.range g.next.length).map fun _ => true)))] 40 [.agg [xo, xr, xn], .sl 1 1 0 g.owner.length] = some [.agg [xo, xr, xn], .rd 1 g.next.length (bL ((List.range g.next.length).map fun _ => true))] := by
      rw [hg2]
      simp [frzL_cons, frzL_nil, frzV_agg, frzV_sl, idFreeL, fo, fr, fn, Heap.data?, h2, h3]
    have h4 : (bL WON).length = g.next.length := by rw [bL_len, hWl]
    have h5 : (bL WON).take g.next.length = bL WON := List.take_of_length_le (by omega)
    simp only [callPure, e, Option.bind_some, f]
    simp [AV.hasRd, HO.hasRd, bL_noRd, frzV_sl, Heap.data?, h4, h5, hg2]
  have hz0 := upto_zero g.next.length fun (j : Nat) => true
  rw [← hg2] at hz0
  refine f_enter rfl rfl ?_
  generalize evF tab it m = call at *
  repeat' first
 | (apply s_mov; (focus ((conv => lhs; whnf); done)))
 | (apply c_nil)
 | (apply s_en; (focus (repeat (first | apply opds_nil | (apply opds_cons; (first | (focus ((conv => lhs; whnf); done)) | exact rfl))))); exact ob _)
 | (apply s_en; (focus (repeat (first | apply opds_nil | (apply opds_cons; (first | (focus ((conv => lhs; whnf); done)) | exact rfl))))); exact e_mkB (by unfold most; omega))
 | (apply s_len; (focus ((conv => lhs; whnf); done)); (first | assumption | (apply IsLL.at; assumption; omega)))
 | (apply s_pd; (focus ((conv => lhs; whnf); done)))
 | (apply c_seq)
 | (apply c_reg)
 | (apply c_block)
 | (with_reducible apply k_c)
  refine c_loop ?_
  refine loop_gc (σ := Nat) (fun i => [.ptr 0 0, .sl 1 1 0 g.owner.length, .int .i64 i]) (fun i => [some (.box [xo, xr, xn]), some (.data (bL (upto g.owner.length (fun _ => true) i)))]) (fun i => i ≤ g.next.length) (fun i => g.next.length - i) ?_ _ 0 _ _ (by omega) (by omega) (by simp [go_sem, fo, fr, fn, hz0]; done)
  intro i hi K hK
  have hul := upto_len g.owner.length (fun _ => true) i
  repeat' first
 | (apply s_mov; (focus ((conv => lhs; whnf); done)))
 | (apply c_nil)
 | ((first | apply s_lss | apply s_leq | apply s_gtr | apply s_geq | apply s_eql | apply s_neq); exact rfl; all_goals (intro _; try (exfalso; omega)))
 | ((first | apply s_add | apply s_sub); exact rfl; omega)
 | (apply s_st; (focus (repeat (first | apply opds_nil | (apply opds_cons; (first | (focus ((conv => lhs; whnf); done)) | exact rfl))))); exact e_stB rfl (by omega))
 | (apply s_lenSl; exact rfl)
 | (apply s_idxS; exact rfl; exact rfl; omega)
 | (apply c_seq)
 | (apply c_reg)
 | (apply c_block)
 | (apply c_exitH)
 | (apply c_skip)
 | (apply c_condT; exact rfl)
 | (apply c_condF; exact rfl)
 | (with_reducible apply k_c)
  · refine hK (i + 1) _ _ (by omega) (by omega) ?_
    rw [← upto_set (b := true) rfl]
    exact (by simp [go_sem, fo, fr, fn, Int.toNat_natCast]; done)
  have hin : i = g.owner.length := by omega
  clear hK hul hz0
  rw [hin, upto_all, hg2]
  rw [hg2] at h61
  refine c_pre (vs := [.ptr 0 0, .sl 1 1 0 g.next.length]) (H' := [some (.box [xo, xr, xn]), some (.data (bL ((List.range g.next.length).map fun _ => true)))]) (by simp [go_sem, fo, fr, fn]; done) ?_
  repeat' first
 | (apply s_mov; (focus ((conv => lhs; whnf); done)))
 | (apply c_nil)
 | (apply s_cn; (focus (repeat (first | apply opds_nil | (apply opds_cons; (first | (focus ((conv => lhs; whnf); done)) | exact rfl))))); exact h61)
 | (apply s_pd; (focus ((conv => lhs; whnf); done)))
 | (apply c_seq)
 | (apply c_reg)
 | (apply c_block)
 | (with_reducible apply k_c)
  refine c_loop ?_
  refine loop_gc (σ := Nat) (fun i => [.rd 1 g.next.length (bL WON), ownV 0 (iL (winL (zAll g).1 i)), .int .i64 i]) (fun i => owH (iL (winL (zAll g).1 i))) (fun i => i ≤ g.next.length) (fun i => g.next.length - i) ?_ _ 0 _ _ (by omega) (by omega) (by simp [go_sem, winL, ownV, owH, iL]; done)
  clear hin hi
  intro i hi K hK
  have hsi := winL_succ (zAll g).1 i
  have hsl := winL_len (zAll g).1 i
  have hsn : i = g.next.length → winL (zAll g).1 i = winL (zAll g).1 g.next.length := fun e => by rw [e]
  have hWi := hWg i
  generalize winL (zAll g).1 i = l at *
  have hap : ∀ call y, evE call (owH (iL l)) (.app false 1 8) [ownV 0 (iL l), .rd 1 1 [y]] = some (.sl (0 + (owK (iL l)).length) 1 0 ((iL l).length + 1), owK (iL l) ++ [some (.data (iL l ++ [y]))]) := fun call y => by
    have := e_app_own (call := call) (Pr := []) (l := iL l) (v := y) (q := 8) (id := 0) rfl (by omega)
    simpa using this
  repeat' first
 | (apply s_mov; (focus ((conv => lhs; whnf); done)))
 | (apply c_nil)
 | ((first | apply s_lss | apply s_leq | apply s_gtr | apply s_geq | apply s_eql | apply s_neq); exact rfl; all_goals (intro _; try (exfalso; omega)))
 | ((first | apply s_add | apply s_sub); exact rfl; omega)
 | (apply s_en; (focus (repeat (first | apply opds_nil | (apply opds_cons; (first | (focus ((conv => lhs; whnf); done)) | exact rfl))))); exact e_bld1 rfl rfl rfl rfl)
 | (apply s_en; (focus (repeat (first | apply opds_nil | (apply opds_cons; (first | (focus ((conv => lhs; whnf); done)) | exact rfl))))); exact hap _ _)
 | (apply s_lenRd; exact rfl)
 | (apply s_ldRB; exact rfl; omega; all_goals intro _)
 | (apply s_idxRB; exact rfl; exact rfl; omega)
 | (apply c_seq)
 | (apply c_reg)
 | (apply c_block)
 | (apply c_exitH)
 | (apply c_skip)
 | (apply c_condT; exact rfl)
 | (apply c_condF; exact rfl)
 | (with_reducible apply k_c)
  · rename_i q1 q2
    rw [hWi (by omega)] at q2
    have hw : winA (zAll g).1 i = 1 := win_f (by simpa using q2)
    refine hK (i + 1) _ _ (by omega) (by omega) ?_
    rw [hsi, hw]
    rcases l with _ | ⟨c, cs⟩ <;> exact (by simp [go_sem, ownV, owH, owK, iL]; done)
  · rename_i q1 q2
    rw [hWi (by omega)] at q2
    have hw : winA (zAll g).1 i = 0 := win_t (by simpa using q2)
    refine hK (i + 1) _ _ (by omega) (by omega) ?_
    rw [hsi, hw]
    rcases l with _ | ⟨c, cs⟩ <;> exact (by simp [go_sem, ownV, owH, owK, iL]; done)
  rw [← hsn (by omega)]
  refine c_pre (vs := [ownV 0 (iL l)]) (H' := owH (iL l)) (by rcases l with _ | ⟨c, cs⟩ <;> exact (by simp [go_sem, ownV, owH, owK, iL]; done)) ?_
  repeat' first
 | (apply s_mov; (focus ((conv => lhs; whnf); done)))
 | (apply c_nil)
 | (apply c_seq)
 | (apply c_reg)
 | (apply c_ret)
 | (with_reducible apply k_c)
  rcases l with _ | ⟨c, cs⟩ <;> simp [finish, ress, resOf, look, tupOf, gc, subHeap, reach_new, reach_nilS, reach_end, rangeL, roots, boxCells, nodupB, posOf, renL, AV.ren, pickO, renH, renO, bindEnv, ownV, owH, iL]
theorem f12 {x : AV} {a : Gm} (hx : IsG x a) : ∃ m H', evF tab it m 12 [x] [] = some (.bool true, H') := by
  refine ⟨301, [], ?_⟩
  obtain ⟨xo, xr, xn, rfl, ho, hr, hn⟩ := id hx
  have fo := ho.free; have fr := hr.free; have fn := hn.free
  have ob : ∀ call, evE call [] (.box false) [.agg [xo, xr, xn]] = some (.ptr 0 0, [some (.box [xo, xr, xn])]) := fun call => by simp [evE, AV.cells, oneL, ho.one, hr.one, hn.one, mkHO]
  have h16 := fun H => c16 hx (m := 300) (by omega) H
  have hzo := isL_fz (g30 a).owner
  have hzr := isL_fz (g30 a).rank
  have hzn := isLL_fz (g30 a).next
  have hgl := g30_len a
  have hgr := g30_row (a := a)
  have hG := isG_fz (g30 a)
  unfold fzG at h16 hG
  generalize g30 a = g at *
  generalize fzL g.owner = zo at *
  generalize fzL g.rank = zr at *
  generalize fzLL g.next = zn at *
  have go := hzo.free; have gr := hzr.free; have gn := hzn.free
  have al2 : ∀ call H, evE call H (.alloc false [.nilS, .nilS]) [] = some (.ptr H.length 0, H ++ [some (.box [.nilS, .nilS])]) := fun call H => rfl
  have al3 : ∀ call H, evE call H (.alloc false [.nilS, .nilS, .nilS]) [] = some (.ptr H.length 0, H ++ [some (.box [.nilS, .nilS, .nilS])]) := fun call H => rfl
  have stG : ∀ call H id, H[id]? = some (some (.box [.nilS, .nilS, .nilS])) → evE call H (.st 3) [.ptr id 0, .agg [zo, zr, zn]] = some (.undef, H.set id (some (.box [zo, zr, zn]))) := fun call H id h => e_st3 hzo.one hzr.one hzn.one h
  have h19 := fun H => c19 hG hG ⟨by omega, by omega, by omega, fun l hl => by have := hgr l hl; omega⟩ (m := 300) (by omega) H
  simp only [and_self, decide_true] at h19
  have h29 := fun H => c29 hG ⟨by omega, hgr⟩ (m := 300) (by omega) H
  have h21 := fun H => c21 hG ⟨by omega, fun l hl => by have := hgr l hl; omega⟩ (m := 300) (by omega) H
  have h23 := fun H => c23m (m := 300) (by omega) H
  by_cases hc : Good g
  · simp only [if_pos hc] at h29
    simp only [decide_eq_true hc] at h21
    have hc1 := hc.1
    have hright := z_right hc
    have hW := isL_fz (winL (zAll g).1 g.next.length)
    have hM := isL_fz (movL g (zAll g).1 (zAll g).2 g.next.length)
    have hWl : (winL (zAll g).1 g.next.length).length = g.next.length := by simp [winL]
    have hMl : (movL g (zAll g).1 (zAll g).2 g.next.length).length = g.next.length := by simp [movL]
    have h38 := fun H => c38 hG hc (getLL_lt hgr (by omega)) (m := 300) (by omega) H
    generalize movL g (zAll g).1 (zAll g).2 g.next.length = MO at *
    generalize winL (zAll g).1 g.next.length = W at *
    have h34 := fun H => c34 hG hW hM hc hgr ⟨by omega, by omega⟩ (m := 300) (by omega) H
    rw [rightB_t hright] at h34
    have h37 := fun H => c37 hG hW hM ⟨by omega, hgr⟩ ⟨by omega, by omega⟩ (m := 300) (by omega) H
    have hchk : chkV g W MO = 0 := by unfold chkV; rw [if_pos hc, rightB_t hright]; rfl
    rw [hchk] at h37
    have h20 := fun H => c20 hW hW (by omega) (m := 300) (by omega) H
    simp only [decide_true] at h20
    generalize fzL W = w at *
    generalize fzL MO = mo at *
    have st2 : ∀ call H id, H[id]? = some (some (.box [.nilS, .nilS])) → evE call H (.st 2) [.ptr id 0, .agg [w, mo]] = some (.undef, H.set id (some (.box [w, mo]))) := fun call H id h => by
      simp [evE, stAt, cells_agg, oneL, hW.one, hM.one, h, putRow]
    refine f_enter rfl rfl ?_
    generalize evF tab it 300 = call at *
    repeat' first
 | (apply s_mov; (focus ((conv => lhs; whnf); done)))
 | (apply s_gT; exact rfl)
 | (apply c_nil)
 | (apply s_pickT; exact rfl; (focus ((conv => lhs; whnf); done)))
 | (apply s_notT; exact rfl)
 | ((first | apply s_lss | apply s_leq | apply s_gtr | apply s_geq | apply s_eql | apply s_neq); exact rfl; all_goals (intro _; try (exfalso; omega)))
 | (apply s_en; (focus (repeat (first | apply opds_nil | (apply opds_cons; (first | (focus ((conv => lhs; whnf); done)) | exact rfl))))); exact ob _)
 | (apply s_en; (focus (repeat (first | apply opds_nil | (apply opds_cons; (first | (focus ((conv => lhs; whnf); done)) | exact rfl))))); exact al2 _ _)
 | (apply s_en; (focus (repeat (first | apply opds_nil | (apply opds_cons; (first | (focus ((conv => lhs; whnf); done)) | exact rfl))))); exact al3 _ _)
 | (apply s_cn; (focus (repeat (first | apply opds_nil | (apply opds_cons; (first | (focus ((conv => lhs; whnf); done)) | exact rfl))))); exact h16 _)
 | (apply s_cn; (focus (repeat (first | apply opds_nil | (apply opds_cons; (first | (focus ((conv => lhs; whnf); done)) | exact rfl))))); exact h29 _)
 | (apply s_cn; (focus (repeat (first | apply opds_nil | (apply opds_cons; (first | (focus ((conv => lhs; whnf); done)) | exact rfl))))); exact h19 _)
 | (apply s_cn; (focus (repeat (first | apply opds_nil | (apply opds_cons; (first | (focus ((conv => lhs; whnf); done)) | exact rfl))))); exact h21 _)
 | (apply s_cn; (focus (repeat (first | apply opds_nil | (apply opds_cons; (first | (focus ((conv => lhs; whnf); done)) | exact rfl))))); exact h34 _)
 | (apply s_cn; (focus (repeat (first | apply opds_nil | (apply opds_cons; (first | (focus ((conv => lhs; whnf); done)) | exact rfl))))); exact h38 _)
 | (apply s_cn; (focus (repeat (first | apply opds_nil | (apply opds_cons; (first | (focus ((conv => lhs; whnf); done)) | exact rfl))))); exact h20 _)
 | (apply s_cn; (focus (repeat (first | apply opds_nil | (apply opds_cons; (first | (focus ((conv => lhs; whnf); done)) | exact rfl))))); exact h37 _)
 | (apply s_cn; (focus (repeat (first | apply opds_nil | (apply opds_cons; (first | (focus ((conv => lhs; whnf); done)) | exact rfl))))); exact h23 _)
 | (apply s_st; (focus (repeat (first | apply opds_nil | (apply opds_cons; (first | (focus ((conv => lhs; whnf); done)) | exact rfl))))); exact stG _ _ _ rfl)
 | (apply s_st; (focus (repeat (first | apply opds_nil | (apply opds_cons; (first | (focus ((conv => lhs; whnf); done)) | exact rfl))))); exact st2 _ _ _ rfl)
 | (apply s_pd; (focus ((conv => lhs; whnf); done)))
 | (apply c_seq)
 | (apply c_reg)
 | (apply c_skip)
 | (apply c_ret)
 | (apply c_condF; exact rfl)
 | (with_reducible apply k_c)
    all_goals (refine fin_t (v := .bool true) ?_ ?_ ?_ <;> exact rfl)
  · simp only [if_neg hc] at h29
    simp only [decide_eq_false hc] at h21
    have h37 := fun H => c37 hG (W := []) (M := []) .nil .nil ⟨by omega, hgr⟩ ⟨by simp, by simp⟩ (m := 300) (by omega) H
    have hchk : chkV g [] [] = 2 := by unfold chkV; rw [if_neg hc]
    rw [hchk] at h37
    have st2 : ∀ call H id, H[id]? = some (some (.box [.nilS, .nilS])) → evE call H (.st 2) [.ptr id 0, .agg [.nilS, .nilS]] = some (.undef, H.set id (some (.box [.nilS, .nilS]))) := fun call H id h => by
      simp [evE, stAt, cells_agg, oneL, AV.one, h, putRow]
    refine f_enter rfl rfl ?_
    generalize evF tab it 300 = call at *
    repeat' first
 | (apply s_mov; (focus ((conv => lhs; whnf); done)))
 | (apply s_gT; exact rfl)
 | (apply c_nil)
 | (apply s_pickT; exact rfl; (focus ((conv => lhs; whnf); done)))
 | (apply s_notT; exact rfl)
 | (apply s_notF; exact rfl)
 | ((first | apply s_lss | apply s_leq | apply s_gtr | apply s_geq | apply s_eql | apply s_neq); exact rfl; all_goals (intro _; try (exfalso; omega)))
 | (apply s_en; (focus (repeat (first | apply opds_nil | (apply opds_cons; (first | (focus ((conv => lhs; whnf); done)) | exact rfl))))); exact ob _)
 | (apply s_en; (focus (repeat (first | apply opds_nil | (apply opds_cons; (first | (focus ((conv => lhs; whnf); done)) | exact rfl))))); exact al2 _ _)
 | (apply s_en; (focus (repeat (first | apply opds_nil | (apply opds_cons; (first | (focus ((conv => lhs; whnf); done)) | exact rfl))))); exact al3 _ _)
 | (apply s_cn; (focus (repeat (first | apply opds_nil | (apply opds_cons; (first | (focus ((conv => lhs; whnf); done)) | exact rfl))))); exact h16 _)
 | (apply s_cn; (focus (repeat (first | apply opds_nil | (apply opds_cons; (first | (focus ((conv => lhs; whnf); done)) | exact rfl))))); exact h29 _)
 | (apply s_cn; (focus (repeat (first | apply opds_nil | (apply opds_cons; (first | (focus ((conv => lhs; whnf); done)) | exact rfl))))); exact h19 _)
 | (apply s_cn; (focus (repeat (first | apply opds_nil | (apply opds_cons; (first | (focus ((conv => lhs; whnf); done)) | exact rfl))))); exact h21 _)
 | (apply s_cn; (focus (repeat (first | apply opds_nil | (apply opds_cons; (first | (focus ((conv => lhs; whnf); done)) | exact rfl))))); exact h37 _)
 | (apply s_cn; (focus (repeat (first | apply opds_nil | (apply opds_cons; (first | (focus ((conv => lhs; whnf); done)) | exact rfl))))); exact h23 _)
 | (apply s_st; (focus (repeat (first | apply opds_nil | (apply opds_cons; (first | (focus ((conv => lhs; whnf); done)) | exact rfl))))); exact stG _ _ _ rfl)
 | (apply s_st; (focus (repeat (first | apply opds_nil | (apply opds_cons; (first | (focus ((conv => lhs; whnf); done)) | exact rfl))))); exact st2 _ _ _ rfl)
 | (apply s_pd; (focus ((conv => lhs; whnf); done)))
 | (apply c_seq)
 | (apply c_reg)
 | (apply c_skip)
 | (apply c_ret)
 | (apply c_condT; exact rfl)
 | (apply c_condF; exact rfl)
 | (with_reducible apply k_c)
    all_goals (refine fin_t (v := .bool true) ?_ ?_ ?_ <;> exact rfl)
end Go.AM.Pa
