/- A part of the proof: Q35. -/
import Derived.Test.YtmeajfgjbebkiaaQ34
import Derived.Test.YtmeajfgjbebkiaaQ33
set_option linter.unusedSectionVars false
set_option linter.unusedVariables false
set_option linter.unusedSimpArgs false
namespace Go.AM.Pa
attribute [local go_sem] gc subHeap reach_skip ren_free reach_new reach_newp reach_end rangeL roots boxCells nodupB posOf renL AV.ren pickO renH renO looks look bindEnv envOf reach_int reach_bool reach_nilS reach_rd putRow cells_sl cells_int cells_bool cells_nilS cells_rd cells_agg reach_agg reach_tup idFreeL idf_sl idf_ptr idf_int idf_bool idf_nilS idf_rd
theorem g30_id {g : Gm} (h1 : g.owner.length ≤ 30) (h2 : g.rank.length ≤ 30) (h3 : g.next.length ≤ 30) (h4 : ∀ l ∈ g.next, l.length ≤ 30) : g30 g = g := by
  have e : (g.next.map (·.take 30)) = g.next := by
    refine (List.map_congr_left fun l hl => ?_).trans (List.map_id _)
    exact List.take_of_length_le (h4 l hl)
  unfold g30
  rw [List.take_of_length_le h1, List.take_of_length_le h2, List.take_of_length_le h3, e]
/-- game, its rows its caller's own -/
theorem c16o {x : AV} {g : Gm} (hx : IsG x g) (hg : Good g) (hr : ∀ l ∈ g.next, l.length ≤ 30) {m : Nat} (hm : 103 ≤ m) (H : Heap) :
    callPure (evF tab it m) true 16 [x] H = callPure (evF tab it m) true 16 [x] H ∧ callPure (evF tab it m) false 16 [x] H = some (.agg [fzL g.owner, fzL g.rank, .sl H.length 1 0 g.next.length], H ++ [some (.data (g.next.map fzL))]) := by
  refine ⟨rfl, ?_⟩
  have h1 := hg.1; have h2 := hg.2.1; have h3 := hg.2.2.1
  have e := g30_id (g := g) (by omega) (by omega) (by omega) hr
  have e1 : rws g 30 = g.next.map fzL := by
    have : g.next = (g30 g).next := by rw [e]
    rw [this]
    simp [rws, g30, Function.comp_def, List.map_take, List.take_take]
  have f := f16 hx m hm
  have e2 : g.owner.take 30 = g.owner := List.take_of_length_le (by omega)
  have e3 : g.rank.take 30 = g.rank := List.take_of_length_le (by omega)
  rw [e1, e2, e3] at f
  have fx := hx.free
  have g1 := fzL_free g.owner
  have g2 := fzL_free g.rank
  have e4 : ownV 0 (g.next.map fzL) = .sl 0 1 0 g.next.length ∧ owH (g.next.map fzL) = [some (.data (g.next.map fzL))] := by
    rcases hn : g.next with _ | ⟨c, cs⟩
    · rw [hn] at h1; simp at h1
    · simp [ownV, owH]
  rw [e4.1, e4.2] at f
  simp [callPure, frzL_free H 40 [x] (by simp) (by simp [idFreeL, fx]), f, idFreeL, fx, shiftH, AV.ren, renH, renO, renL, ren_free, g1, g2, idf_sl]
theorem fzS_box {env : Env} {H : Heap} {s id j sid n : Nat} {cs D : List AV} (h1 : look env s = .ptr id 0) (h2 : H[id]? = some (some (.box cs))) (h3 : cs.getD j .undef = .sl sid 1 0 n) (h4 : H.data? sid = some D) (h5 : D.length = n) (h6 : (H.set sid none)[id]? = some (some (.box cs))) :
    fzS env H s (some j) = some (env, (H.set sid none).set id (some (.box (cs.set j (.rd 1 n D))))) := by
  subst h5
  rw [List.getD_eq_getElem?_getD] at h3
  simp [fzS, h1, h2, h3, evE, h4, h6, AV.one]
/-- a game with a row set -/
def setG (g : Gm) (i : Nat) (row : List Int) : Gm := ⟨g.owner, g.rank, g.next.set i row⟩
theorem setG_ll (g : Gm) (i : Nat) (row : List Int) (v : Nat) : getLL (setG g i row).next v = if v = i ∧ i < g.next.length then row else getLL g.next v := by
  simp only [setG, getLL_nat, List.getD]
  rw [List.getElem?_set]
  by_cases h : i = v
  · subst h
    by_cases h2 : i < g.next.length
    · simp [h2]
    · simp [h2, List.getElem?_eq_none (Nat.le_of_not_lt h2)]
  · simp [h, show ¬ v = i from fun e => h e.symm]
theorem setG_good {g : Gm} (hg : Good g) {i : Nat} {row : List Int} (h1 : row ≠ []) (h2 : Asc row g.next.length) : Good (setG g i row) := by
  have hl : (setG g i row).next.length = g.next.length := by simp [setG]
  refine ⟨by rw [hl]; exact hg.1, by rw [hl]; exact hg.2.1, by rw [hl]; exact hg.2.2.1, fun v hv => ?_⟩
  rw [hl] at hv
  have h := hg.2.2.2 v hv
  refine ⟨h.1, h.2.1, ?_, ?_⟩
  · rw [setG_ll]; split
    · exact h1
    · exact h.2.2.1
  · rw [setG_ll, hl]; split
    · exact h2
    · exact h.2.2.2
theorem more_win {g : Gm} (hg : Good g) {i : Nat} {row : List Int} (hi : i < g.next.length) (h1 : row ≠ []) (h2 : Asc row g.next.length) (hs : ∀ u, u ∈ getLL g.next i → u ∈ row) {v : Nat} (hv : v < g.next.length)
    (hw : winA (zAll g).1 v = getI g.owner i) : winA (zAll (setG g i row)).1 v = getI g.owner i := by
  have hp : getI g.owner i = 0 ∨ getI g.owner i = 1 := by
    have := (hg.2.2.2 i hi).1
    omega
  refine strat_uniq (setG_good hg h1 h2) hp (strat_more (strat_z hg hp) (fun _ => rfl) (fun _ => rfl) (by simp [setG]) (fun w hwn u hu => ?_) fun w hwn ho => ?_) ⟨hv, hw⟩
  · rw [setG_ll]; split
    · rename_i h; rw [h.1] at hu; exact hs u hu
    · exact hu
  · rw [setG_ll, if_neg]
    rintro ⟨rfl, -⟩
    exact ho rfl
set_option maxHeartbeats 4000000
theorem f6 {x : AV} {a : Gm} {a0 a1 : Int} (hx : IsG x a) : ∃ m H', evF tab it m 6 [x, .agg [.int .i64 a0, .int .i64 a1]] [] = some (.bool true, H') := by
  refine ⟨401, [], ?_⟩
  obtain ⟨xo, xr, xn, rfl, ho, hr, hn⟩ := id hx
  have fo := ho.free; have fr := hr.free; have fn := hn.free
  have ob : ∀ call, evE call [] (.box false) [.agg [xo, xr, xn]] = some (.ptr 0 0, [some (.box [xo, xr, xn])]) := fun call => by simp [evE, AV.cells, oneL, ho.one, hr.one, hn.one, mkHO]
  have h28 := fun H => c28 hx (hi := 10) (by omega) (m := 400) (by omega) H
  have hg := tame_good a (hi := 10) (by omega)
  obtain ⟨ha1, ha2⟩ := tame_rows a 10
  have ha3 : ∀ l ∈ (tameG a 10).next, l.length ≤ 30 := fun l hl => by
    obtain ⟨k, hk, rfl⟩ := List.getElem_of_mem hl
    have h1 := hg.1
    have h2 := (hg.2.2.2 k hk).2.2.2
    have := asc_len h2
    simp only [getLL_nat, List.getD, List.getElem?_eq_getElem hk, Option.getD_some] at this
    omega
  have hzo := isL_fz (tameG a 10).owner
  have hzr := isL_fz (tameG a 10).rank
  have hzn := isLL_fz (tameG a 10).next
  have hG := isG_fz (tameG a 10)
  unfold fzG at h28 hG
  generalize tameG a 10 = g at *
  have h29 := fun H => c29 hG ⟨ha1, ha2⟩ (m := 400) (by omega) H
  simp only [if_pos hg] at h29
  have hg1 := hg.1; have hg2 := hg.2.1; have hg3 := hg.2.2.1
  have h16 := fun H => (c16o hG hg ha3 (m := 400) (by omega) H).2
  have h31 := fun y H => c31 (x := y) (n := g.owner.length) (by omega) (m := 400) (by omega) H
  have r0 := mdF_range (x := a0) (n := g.owner.length) (by omega)
  have r1 := mdF_range (x := a1) (n := g.owner.length) (by omega)
  obtain ⟨iN, hiN⟩ : ∃ k : Nat, mdF a0 g.owner.length = k := ⟨_, (Int.toNat_of_nonneg r0.1).symm⟩
  obtain ⟨tN, htN⟩ : ∃ k : Nat, mdF a1 g.owner.length = k := ⟨_, (Int.toNat_of_nonneg r1.1).symm⟩
  have h31a := h31 a0
  have h31b := h31 a1
  rw [hiN] at h31a r0
  rw [htN] at h31b r1
  have hi : iN < g.next.length := by omega
  -- the new row
  have hrow := fil_asc g.next.length fun j => decide (j = tN) || decide ((j : Int) ∈ getLL g.next iN)
  have hrne : fil g.next.length (fun j => decide (j = tN) || decide ((j : Int) ∈ getLL g.next iN)) ≠ [] := fun e => by
    have : (tN : Int) ∈ fil g.next.length (fun j => decide (j = tN) || decide ((j : Int) ∈ getLL g.next iN)) := fil_mem.2 ⟨by omega, by simp⟩
    rw [e] at this; cases this
  have hrs : ∀ u, u ∈ getLL g.next iN → u ∈ fil g.next.length (fun j => decide (j = tN) || decide ((j : Int) ∈ getLL g.next iN)) := fun u hu => by
    have := row_mem hg rfl hi u hu
    obtain ⟨k, rfl⟩ : ∃ k : Nat, u = k := ⟨u.toNat, by omega⟩
    exact fil_mem.2 ⟨by omega, by simp [hu]⟩
  have hwin := fun (v : Nat) hv => more_win hg hi hrne hrow hrs (v := v) hv
  have hg' := setG_good hg (i := iN) hrne hrow
  have hG' := isG_fz (setG g iN (fil g.next.length fun j => decide (j = tN) || decide ((j : Int) ∈ getLL g.next iN)))
  have hl' : (setG g iN (fil g.next.length fun j => decide (j = tN) || decide ((j : Int) ∈ getLL g.next iN))).next.length = g.next.length := by simp [setG]
  have hrl := fil_len g.next.length fun j => decide (j = tN) || decide ((j : Int) ∈ getLL g.next iN)
  have h29' := fun H => c29 hG' ⟨by omega, fun l hl => by
    rcases List.mem_or_eq_of_mem_set hl with h | rfl
    · exact ha2 l h
    · omega⟩ (m := 400) (by omega) H
  simp only [if_pos hg', hl'] at h29'
  have hnl : (setG g iN (fil g.next.length fun j => decide (j = tN) || decide ((j : Int) ∈ getLL g.next iN))).next = g.next.set iN (fil g.next.length fun j => decide (j = tN) || decide ((j : Int) ∈ getLL g.next iN)) := rfl
  have hno : (setG g iN (fil g.next.length fun j => decide (j = tN) || decide ((j : Int) ∈ getLL g.next iN))).owner = g.owner := rfl
  have hnr : (setG g iN (fil g.next.length fun j => decide (j = tN) || decide ((j : Int) ∈ getLL g.next iN))).rank = g.rank := rfl
  unfold fzG at h29'
  rw [hno, hnr, fzLL_ne hl' hg1.1, hnl] at h29'
  have h30 : ∀ (v : Int) H, callPure (evF tab it 400) true 30 [llAt (fzLL g.next) iN, .int .i64 v] H = some (.bool (decide (v ∈ getLL g.next iN)), H) := fun v H => c30 (IsLL.at hzn ⟨by omega, by omega⟩) (by have := getLL_lt ha2 (by omega) iN; omega) (by omega) H
  have h23 := fun H => c23m (m := 400) (by omega) H
  have hfr : (fzLL g.next) = .rd 1 g.next.length (g.next.map fzL) := fzLL_ne rfl hg1.1
  have hDl : (g.next.map fzL).length = g.next.length := by simp
  have hDset : ∀ r : List Int, putRow (g.next.map fzL) iN [fzL r] = (g.next.set iN r).map fzL := fun r => by
    simp only [putRow, List.length_cons, List.length_nil, List.map_set]
    rw [List.set_eq_take_append_cons_drop]
    simp [hi]
  have hDset2 : ∀ r : List Int, ((g.next.set iN r).map fzL).length = g.next.length := fun r => by simp
  have w1 := isL_fz (winL (zAll g).1 g.next.length)
  have w1l : (winL (zAll g).1 g.next.length).length = g.next.length := by simp [winL]
  have w1a : ∀ j : Nat, j < g.next.length → getI (winL (zAll g).1 g.next.length) (j : Nat) = winA (zAll g).1 j := fun j hj => by rw [winL, getI_map hj]
  have hmo := isL_fz (movL g (zAll g).1 (zAll g).2 g.next.length)
  generalize fzL (movL g (zAll g).1 (zAll g).2 g.next.length) = mo at *
  generalize winL (zAll g).1 g.next.length = W at *
  generalize fzL W = w at *
  generalize hROW : fil g.next.length (fun j => decide (j = tN) || decide ((j : Int) ∈ getLL g.next iN)) = ROW at *
  have w2 := isL_fz (winL (zAll (setG g iN ROW)).1 g.next.length)
  have w2l : (winL (zAll (setG g iN ROW)).1 g.next.length).length = g.next.length := by simp [winL]
  have w2a : ∀ j : Nat, j < g.next.length → getI (winL (zAll (setG g iN ROW)).1 g.next.length) (j : Nat) = winA (zAll (setG g iN ROW)).1 j := fun j hj => by rw [winL, getI_map hj]
  have hmo2 := isL_fz (movL (setG g iN ROW) (zAll (setG g iN ROW)).1 (zAll (setG g iN ROW)).2 g.next.length)
  generalize fzL (movL (setG g iN ROW) (zAll (setG g iN ROW)).1 (zAll (setG g iN ROW)).2 g.next.length) = mo2 at *
  generalize winL (zAll (setG g iN ROW)).1 g.next.length = W2 at *
  generalize fzL W2 = y at *
  generalize fzL g.owner = zo at *
  generalize fzL g.rank = zr at *
  generalize fzLL g.next = zn at *
  have go := hzo.free; have gr := hzr.free; have gn := hzn.free; have gw := w1.free; have gm := hmo.free; have gw2 := w2.free; have gm2 := hmo2.free
  have al2 : ∀ call H, evE call H (.alloc false [.nilS, .nilS]) [] = some (.ptr H.length 0, H ++ [some (.box [.nilS, .nilS])]) := fun call H => rfl
  have al3 : ∀ call H, evE call H (.alloc false [.nilS, .nilS, .nilS]) [] = some (.ptr H.length 0, H ++ [some (.box [.nilS, .nilS, .nilS])]) := fun call H => rfl
  have stG : ∀ call H id, H[id]? = some (some (.box [.nilS, .nilS, .nilS])) → evE call H (.st 3) [.ptr id 0, .agg [zo, zr, zn]] = some (.undef, H.set id (some (.box [zo, zr, zn]))) := fun call H id h => e_st3 hzo.one hzr.one hzn.one h
  have stO : ∀ call H id k, H[id]? = some (some (.box [.nilS, .nilS, .nilS])) → evE call H (.st 3) [.ptr id 0, .agg [zo, zr, .sl k 1 0 g.next.length]] = some (.undef, H.set id (some (.box [zo, zr, .sl k 1 0 g.next.length]))) := fun call H id k h => e_st3 hzo.one hzr.one rfl h
  have st2 : ∀ call H id, H[id]? = some (some (.box [.nilS, .nilS])) → evE call H (.st 2) [.ptr id 0, .agg [w, mo]] = some (.undef, H.set id (some (.box [w, mo]))) := fun call H id h => by
    simp [evE, stAt, cells_agg, oneL, w1.one, hmo.one, h, putRow]
  have st2' : ∀ call H id, H[id]? = some (some (.box [.nilS, .nilS])) → evE call H (.st 2) [.ptr id 0, .agg [y, mo2]] = some (.undef, H.set id (some (.box [y, mo2]))) := fun call H id h => by
    simp [evE, stAt, cells_agg, oneL, w2.one, hmo2.one, h, putRow]
  refine f_enter rfl rfl ?_
  generalize evF tab it 400 = call at *
  repeat' first
 | (apply s_mov; (focus ((conv => lhs; whnf); done)))
 | (apply c_nil)
 | (apply s_en; (focus (repeat (first | apply opds_nil | (apply opds_cons; (first | (focus ((conv => lhs; whnf); done)) | exact rfl))))); exact ob _)
 | (apply s_en; (focus (repeat (first | apply opds_nil | (apply opds_cons; (first | (focus ((conv => lhs; whnf); done)) | exact rfl))))); exact al3 _ _)
 | (apply s_cn; (focus (repeat (first | apply opds_nil | (apply opds_cons; (first | (focus ((conv => lhs; whnf); done)) | exact rfl))))); exact h28 _)
 | (apply s_cn; (focus (repeat (first | apply opds_nil | (apply opds_cons; (first | (focus ((conv => lhs; whnf); done)) | exact rfl))))); exact h31a _)
 | (apply s_cn; (focus (repeat (first | apply opds_nil | (apply opds_cons; (first | (focus ((conv => lhs; whnf); done)) | exact rfl))))); exact h31b _)
 | (apply s_cn; (focus (repeat (first | apply opds_nil | (apply opds_cons; (first | (focus ((conv => lhs; whnf); done)) | exact rfl))))); exact h16 _)
 | (apply s_st; (focus (repeat (first | apply opds_nil | (apply opds_cons; (first | (focus ((conv => lhs; whnf); done)) | exact rfl))))); exact stG _ _ _ rfl)
 | (apply s_st; (focus (repeat (first | apply opds_nil | (apply opds_cons; (first | (focus ((conv => lhs; whnf); done)) | exact rfl))))); exact stO _ _ _ _ rfl)
 | (apply isE; apply s_ed; (focus ((conv => lhs; whnf); done)))
 | (apply s_len; (focus ((conv => lhs; whnf); done)); (first | assumption | (apply IsLL.at; assumption; omega)))
 | (apply s_idxP; exact rfl; exact rfl; omega)
 | (apply s_pd; (focus ((conv => lhs; whnf); done)))
 | (apply c_seq)
 | (apply c_reg)
 | (apply c_block)
 | (with_reducible apply k_c)
  refine c_loop ?_
  refine loop_gc (σ := Nat) (fun j => [.ptr 0 0, .int .i64 iN, .int .i64 tN, .ptr 1 0, ownV 3 (iL (fil j fun j => decide (j = tN) || decide ((j : Int) ∈ getLL g.next iN))), .int .i64 j]) (fun j => [some (.box [zo, zr, zn]), some (.box [zo, zr, .sl 2 1 0 g.next.length]), some (.data (g.next.map fzL))] ++ owH (iL (fil j fun j => decide (j = tN) || decide ((j : Int) ∈ getLL g.next iN)))) (fun j => j ≤ g.next.length) (fun j => g.next.length - j) ?_ _ 0 _ _ (by omega) (by omega) (by simp [go_sem, go, gr, gn, gw, gm, gw2, gm2, fil, ownV, owH, iL]; done)
  intro j hj K hK
  have hsi := fil_succ j fun j => decide (j = tN) || decide ((j : Int) ∈ getLL g.next iN)
  have hsl := fil_len j fun j => decide (j = tN) || decide ((j : Int) ∈ getLL g.next iN)
  have hsn : j = g.next.length → fil j (fun j => decide (j = tN) || decide ((j : Int) ∈ getLL g.next iN)) = ROW := fun e => by rw [e, hROW]
  generalize fil j (fun j => decide (j = tN) || decide ((j : Int) ∈ getLL g.next iN)) = l at *
  have hap : ∀ call v, evE call ([some (.box [zo, zr, zn]), some (.box [zo, zr, .sl 2 1 0 g.next.length]), some (.data (g.next.map fzL))] ++ owH (iL l)) (.app false 1 8) [ownV 3 (iL l), .rd 1 1 [v]] = _ := fun call v => e_app_own rfl (by rw [iL_len]; omega)
  repeat' first
 | (apply s_mov; (focus ((conv => lhs; whnf); done)))
 | (apply s_gT; exact rfl)
 | (apply s_gF; exact rfl)
 | (apply s_gFD; exact rfl)
 | (apply c_nil)
 | (apply s_pickT; exact rfl; (focus ((conv => lhs; whnf); done)))
 | (apply s_pickF; exact rfl; (focus ((conv => lhs; whnf); done)))
 | ((first | apply s_lss | apply s_leq | apply s_gtr | apply s_geq | apply s_eql | apply s_neq); exact rfl; all_goals (intro _; try (exfalso; omega)))
 | ((first | apply s_add | apply s_sub); exact rfl; omega)
 | (apply isE; refine s_cB (by (focus (repeat (first | apply opds_nil | (apply opds_cons; (first | (focus ((conv => lhs; whnf); done)) | exact rfl)))))) (h30 _ _) (fun _ => ?_) (fun _ => ?_))
 | (apply s_en; (focus (repeat (first | apply opds_nil | (apply opds_cons; (first | (focus ((conv => lhs; whnf); done)) | exact rfl))))); exact e_bld1 rfl rfl rfl rfl)
 | (apply s_en; (focus (repeat (first | apply opds_nil | (apply opds_cons; (first | (focus ((conv => lhs; whnf); done)) | exact rfl))))); exact hap _ _)
 | (apply s_len; (focus ((conv => lhs; whnf); done)); (first | assumption | (apply IsLL.at; assumption; omega)))
 | (apply s_idxLL; (focus ((conv => lhs; whnf); done)); exact rfl; assumption; omega)
 | (apply s_ldLL; exact rfl; assumption; omega)
 | (apply s_pd; (focus ((conv => lhs; whnf); done)))
 | (apply c_seq)
 | (apply c_reg)
 | (apply c_block)
 | (apply c_exitH)
 | (apply c_skip)
 | (apply c_condT; exact rfl)
 | (apply c_condF; exact rfl)
 | (with_reducible apply k_c)
  · rename_i hlt hjt
    have hjt' : j = tN := by omega
    refine hK (j + 1) _ _ (by omega) (by omega) ?_
    rw [hsi, if_pos (by simp [hjt'])]
    rcases l with _ | ⟨c, cs⟩ <;> exact (by simp [go_sem, go, gr, gn, gw, gm, gw2, gm2, ownV, owH, owK, iL]; done)
  · rename_i hlt hjt hin
    refine hK (j + 1) _ _ (by omega) (by omega) ?_
    rw [hsi, if_pos (by simp [hin])]
    rcases l with _ | ⟨c, cs⟩ <;> exact (by simp [go_sem, go, gr, gn, gw, gm, gw2, gm2, ownV, owH, owK, iL]; done)
  · rename_i hlt hjt hin
    have hjt' : ¬ j = tN := by omega
    refine hK (j + 1) _ _ (by omega) (by omega) ?_
    rw [hsi, if_neg (by simp [hin, hjt'])]
    rcases l with _ | ⟨c, cs⟩ <;> exact (by simp [go_sem, go, gr, gn, gw, gm, gw2, gm2, ownV, owH, owK, iL]; done)
  refine c_fzo rfl rfl ?_
  obtain rfl := hsn (by omega)
  have fls := fzL_free l
  clear hap hK hsi hsn
  have stR : ∀ call, evE call [some (.box [zo, zr, zn]), some (.box [zo, zr, .sl 2 1 0 g.next.length]), some (.data (g.next.map fzL))] (.st 1) [.ptr 2 (0 + iN * 1), fzL l] = some (.undef, [some (.box [zo, zr, zn]), some (.box [zo, zr, .sl 2 1 0 g.next.length]), some (.data ((g.next.set iN l).map fzL))]) := fun call => by
    have e := hDset l
    have e2 : iN + 1 ≤ (g.next.map fzL).length := by rw [hDl]; omega
    simp only [Nat.zero_add, Nat.mul_one]
    simp [evE, stAt, (isL_fz l).cellsV, oneL, (isL_fz l).one, idFreeL, fls, e, show iN + 1 ≤ g.next.length by omega]
  refine c_pre (vs := [.ptr 0 0, .int .i64 iN, .ptr 1 0, fzL l]) (H' := [some (.box [zo, zr, zn]), some (.box [zo, zr, .sl 2 1 0 g.next.length]), some (.data (g.next.map fzL))]) (by simp [go_sem, go, gr, gn, gw, gm, gw2, gm2, fls]; done) ?_
  repeat' first
 | (apply s_mov; (focus ((conv => lhs; whnf); done)))
 | (apply c_nil)
 | (apply s_st; (focus (repeat (first | apply opds_nil | (apply opds_cons; (first | (focus ((conv => lhs; whnf); done)) | exact rfl))))); exact stR _)
 | (apply s_idxS; exact rfl; exact rfl; omega)
 | (apply s_pd; (focus ((conv => lhs; whnf); done)))
 | (apply c_seq)
 | (apply c_reg)
 | (with_reducible apply k_c)
  refine c_fz (fzS_box (id := 1) (D := (g.next.set iN l).map fzL) rfl rfl rfl rfl (hDset2 l) rfl) ?_
  repeat' first
 | (apply s_mov; (focus ((conv => lhs; whnf); done)))
 | (apply s_gT; exact rfl)
 | (apply c_nil)
 | (apply s_pickF; exact rfl; (focus ((conv => lhs; whnf); done)))
 | ((first | apply s_lss | apply s_leq | apply s_gtr | apply s_geq | apply s_eql | apply s_neq); exact rfl; all_goals (intro _; try (exfalso; omega)))
 | (apply s_en; (focus (repeat (first | apply opds_nil | (apply opds_cons; (first | (focus ((conv => lhs; whnf); done)) | exact rfl))))); exact al2 _ _)
 | (apply s_cn; (focus (repeat (first | apply opds_nil | (apply opds_cons; (first | (focus ((conv => lhs; whnf); done)) | exact rfl))))); exact h29 _)
 | (apply s_cn; (focus (repeat (first | apply opds_nil | (apply opds_cons; (first | (focus ((conv => lhs; whnf); done)) | exact rfl))))); exact h29' _)
 | (apply s_st; (focus (repeat (first | apply opds_nil | (apply opds_cons; (first | (focus ((conv => lhs; whnf); done)) | exact rfl))))); exact st2 _ _ _ rfl)
 | (apply s_st; (focus (repeat (first | apply opds_nil | (apply opds_cons; (first | (focus ((conv => lhs; whnf); done)) | exact rfl))))); exact st2' _ _ _ rfl)
 | (apply s_len; (focus ((conv => lhs; whnf); done)); (first | assumption | (apply IsLL.at; assumption; omega)))
 | (apply s_pd; (focus ((conv => lhs; whnf); done)))
 | (apply c_seq)
 | (apply c_reg)
 | (apply c_block)
 | (apply c_skip)
 | (apply c_condF; exact rfl)
 | (with_reducible apply k_c)
  refine c_loop ?_
  refine loop_gc (σ := Nat) (fun k => [.ptr 0 0, .int .i64 iN, .ptr 1 0, .ptr 2 0, .int .i64 k]) (fun k => [some (.box [zo, zr, zn]), some (.box [w, mo]), some (.box [y, mo2])]) (fun k => k ≤ g.next.length) (fun k => g.next.length - k) ?_ _ 0 _ _ (by omega) (by omega) (by simp [go_sem, go, gr, gn, gw, gm, gw2, gm2]; done)
  intro k hk K hK
  have e1 := w1a k
  have e2 := w2a k
  have e3 := hwin k
  repeat' first
 | (apply s_mov; (focus ((conv => lhs; whnf); done)))
 | (apply s_gT; exact rfl)
 | (apply s_gF; exact rfl)
 | (apply c_nil)
 | (apply s_pickT; exact rfl; (focus ((conv => lhs; whnf); done)))
 | (apply s_pickF; exact rfl; (focus ((conv => lhs; whnf); done)))
 | ((first | apply s_lss | apply s_leq | apply s_gtr | apply s_geq | apply s_eql | apply s_neq); exact rfl; all_goals (intro _; try (exfalso; omega)))
 | ((first | apply s_add | apply s_sub); exact rfl; omega)
 | (apply s_cn; (focus (repeat (first | apply opds_nil | (apply opds_cons; (first | (focus ((conv => lhs; whnf); done)) | exact rfl))))); exact h23 _)
 | (apply s_len; (focus ((conv => lhs; whnf); done)); (first | assumption | (apply IsLL.at; assumption; omega)))
 | (apply s_idx; (focus ((conv => lhs; whnf); done)); exact rfl; (first | assumption | (apply IsLL.at; assumption; omega)); omega)
 | (apply s_ldI; exact rfl; omega)
 | (apply s_pd; (focus ((conv => lhs; whnf); done)))
 | (apply c_seq)
 | (apply c_reg)
 | (apply c_block)
 | (apply c_exitH)
 | (apply c_skip)
 | (apply c_ret)
 | (apply c_condT; exact rfl)
 | (apply c_condF; exact rfl)
 | (apply c_preF; (focus (repeat (first | apply looks_nil | (apply looks_cons; (focus ((conv => lhs; whnf); done)))))); (focus (simp [idFreeL, AV.idFree, *]; done)))
 | (with_reducible apply k_c)
  all_goals first
    | (refine hK (k + 1) _ _ (by omega) (by omega) (by simp [go_sem, go, gr, gn, gw, gm, gw2, gm2]; done))
    | exact fin_t rfl rfl rfl
    | (exfalso
       rename_i hlt q1 q2
       have hlt' : k < g.next.length := by omega
       rw [e1 hlt'] at q1
       rw [e2 hlt'] at q2
       exact q2 (e3 hlt' q1))
end Go.AM.Pa
