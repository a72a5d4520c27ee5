/- A part of the proof: Q49. -/
import Derived.Test.YtmeajfgjbebkiaaQ48
set_option linter.unusedSectionVars false
set_option linter.unusedVariables false
set_option linter.unusedSimpArgs false
namespace Go.AM.Pa
attribute [local go_sem] gc subHeap reach_skip ren_free reach_new reach_newp reach_end rangeL roots boxCells nodupB posOf renL AV.ren pickO renH renO looks look bindEnv envOf reach_int reach_bool reach_nilS reach_rd putRow cells_sl cells_int cells_bool cells_nilS cells_rd cells_agg reach_agg reach_tup idFreeL idf_sl idf_ptr idf_int idf_bool idf_nilS idf_rd
theorem tame_rank (a : Gm) {hi : Int} (hhi : 1 ≤ hi ∧ hi ≤ 10) : ∀ u ∈ (tameG a hi).rank, u < hi := fun u hu => by
  obtain ⟨v, hv, rfl⟩ := List.mem_map.1 hu
  exact (mdF_range (x := getI (g30 a).rank v) (n := hi) (by omega)).2
theorem getI_mapf {l : List Int} {f : Int → Int} {i : Nat} (h : i < l.length) : getI (l.map f) i = f (getI l i) := by
  simp [getI_nat, h]
theorem turn_good {g : Gm} (hg : Good g) (h9 : ¬ 9 ∈ g.rank) : Good (turnG g) := by
  have h2 := hg.2.1; have h3 := hg.2.2.1
  refine ⟨hg.1, by simp [turnG]; exact h2, by simp [turnG]; exact h3, fun v hv => ?_⟩
  have hv' : v < g.next.length := hv
  have h := hg.2.2.2 v hv'
  have e1 : getI (turnG g).owner v = 1 - getI g.owner v := getI_mapf (by omega)
  have e2 : getI (turnG g).rank v = getI g.rank v + 1 := getI_mapf (by omega)
  have h9' : getI g.rank v ≠ 9 := fun e => h9 (by rw [← e]; exact getI_memB (by omega))
  have q1 := h.1; have q2 := h.2.1
  exact ⟨by rw [e1]; omega, by rw [e2]; omega, h.2.2.1, h.2.2.2⟩
theorem turn_strat {g : Gm} (hg : Good g) {p : Int} (hp : p = 0 ∨ p = 1) {mv : List Int} {A : Nat → Prop} (a : Strat g mv p A) : Strat (turnG g) mv (1 - p) A := by
  have h2 := hg.2.1; have h3 := hg.2.2.1
  exact strat_turn a (fun v hv => getI_mapf (by omega)) (fun v hv => getI_mapf (by omega)) (fun v hv => (hg.2.2.2 v hv).2.1.1) rfl hp
theorem turn_win {g : Gm} (hg : Good g) (h9 : ¬ 9 ∈ g.rank) {v : Nat} (hv : v < g.next.length) : winA (zAll (turnG g)).1 v = 1 - winA (zAll g).1 v := by
  have hp : winA (zAll g).1 v = 0 ∨ winA (zAll g).1 v = 1 := by unfold winA; split <;> simp
  exact strat_uniq (turn_good hg h9) (by omega) (turn_strat hg hp (strat_z hg hp)) (v := v) ⟨hv, rfl⟩
/-- the winners exchanged -/
def oppL (W : List Int) (i : Nat) : List Int := (List.range i).map fun (j : Nat) => 1 - getI W j
theorem oppL_succ (W : List Int) (i : Nat) : iL (oppL W (i + 1)) = iL (oppL W i) ++ [.int .i64 (1 - getI W i)] := by simp [oppL, iL, List.range_succ]
theorem oppL_len (W : List Int) (i : Nat) : (oppL W i).length = i := by simp [oppL]
theorem turn_right {g : Gm} (hg : Good g) (h9 : ¬ 9 ∈ g.rank) {W M : List Int} (h : RightW g W M) : RightW (turnG g) (oppL W g.next.length) M := by
  have h2 := hg.2.1
  have hw : ∀ v : Nat, v < g.next.length → getI (oppL W g.next.length) v = 1 - getI W v := fun v hv => getLL_rngI hv
  have ho : ∀ v : Nat, v < g.next.length → getI (turnG g).owner v = 1 - getI g.owner v := fun v hv => getI_mapf (by omega)
  refine strat_right (turn_good hg h9) (oppL_len _ _) h.1.2.1 (fun v hv => ?_) fun p hp => ?_
  · have hv' : v < g.next.length := hv
    have hk := h.1.2.2 v hv'
    rw [hw v hv', ho v hv']
    exact ⟨by have := hk.1; omega, fun hne => (hk.2.2 (by omega)).1⟩
  · have s := turn_strat hg (p := 1 - p) (by omega) (right_strat hg h (p := 1 - p) (by omega))
    rw [show 1 - (1 - p) = p by omega] at s
    have hr : ∀ v, Reg (turnG g) (oppL W g.next.length) p v ↔ Reg g W (1 - p) v := fun v => by
      unfold Reg
      constructor
      · rintro ⟨q1, q2⟩
        have q1' : v < g.next.length := q1
        rw [hw v q1'] at q2
        exact ⟨q1', by omega⟩
      · rintro ⟨q1, q2⟩
        exact ⟨q1, by rw [hw v q1]; omega⟩
    have : Reg (turnG g) (oppL W g.next.length) p = Reg g W (1 - p) := funext fun v => propext (hr v)
    rw [this]; exact s
set_option maxHeartbeats 4000000
theorem f15 {x : AV} {a : Gm} (hx : IsG x a) : ∃ m H', evF tab it m 15 [x] [] = some (.bool true, H') := by
  refine ⟨401, [], ?_⟩
  obtain ⟨xo, xr, xn, rfl, ho, hr, hn⟩ := id hx
  have fo := ho.free; have fr := hr.free; have fn := hn.free
  have ob : ∀ call, evE call [] (.box false) [.agg [xo, xr, xn]] = some (.ptr 0 0, [some (.box [xo, xr, xn])]) := fun call => by simp [evE, AV.cells, oneL, ho.one, hr.one, hn.one, mkHO]
  have h28 := fun H => c28 hx (hi := 9) (by omega) (m := 400) (by omega) H
  have hg := tame_good a (hi := 9) (by omega)
  have h9 : ¬ 9 ∈ (tameG a 9).rank := fun h => by have := tame_rank a (hi := 9) (by omega) 9 h; omega
  obtain ⟨ha1, ha2⟩ := tame_rows a 9
  have hzo := isL_fz (tameG a 9).owner
  have hzr := isL_fz (tameG a 9).rank
  have hzn := isLL_fz (tameG a 9).next
  have hG := isG_fz (tameG a 9)
  unfold fzG at h28 hG
  generalize tameG a 9 = g at *
  have h29 := fun H => c29 hG ⟨ha1, ha2⟩ (m := 400) (by omega) H
  simp only [if_pos hg] at h29
  have hg1 := hg.1; have hg2 := hg.2.1; have hg3 := hg.2.2.1
  have h33 := fun H => f33 hG ⟨by omega, by omega, ha2⟩ 400 (by omega) H
  simp only [if_pos (show Good g ∧ ¬ 9 ∈ g.rank from ⟨hg, h9⟩)] at h33
  have ht := turn_good hg h9
  have hto := isL_fz (turnG g).owner
  have htr := isL_fz (turnG g).rank
  have htn := isLL_fz (turnG g).next
  have hT := isG_fz (turnG g)
  unfold fzG at h33 hT
  have hnn : (turnG g).next = g.next := rfl
  have h29' := fun H => c29 hT ⟨ha1, ha2⟩ (m := 400) (by omega) H
  simp only [if_pos ht] at h29'
  have hright := turn_right hg h9 (z_right hg)
  have hw := isL_fz (winL (zAll g).1 g.next.length)
  have hwl : (winL (zAll g).1 g.next.length).length = g.next.length := by simp [winL]
  have hwa : ∀ j : Nat, j < g.next.length → getI (winL (zAll g).1 g.next.length) (j : Nat) = winA (zAll g).1 j := fun j hj => by rw [winL, getI_map hj]
  have hpw := isL_fz (winL (zAll (turnG g)).1 (turnG g).next.length)
  have hpl : (winL (zAll (turnG g)).1 (turnG g).next.length).length = g.next.length := by simp [winL, hnn]
  have hpa : ∀ j : Nat, j < g.next.length → getI (winL (zAll (turnG g)).1 (turnG g).next.length) (j : Nat) = 1 - winA (zAll g).1 j := fun j hj => by rw [winL, getI_map (show j < (turnG g).next.length from hj), turn_win hg h9 hj]
  have hmo := isL_fz (movL g (zAll g).1 (zAll g).2 g.next.length)
  have hmol : (movL g (zAll g).1 (zAll g).2 g.next.length).length = g.next.length := by simp [movL]
  have hpm := isL_fz (movL (turnG g) (zAll (turnG g)).1 (zAll (turnG g)).2 (turnG g).next.length)
  generalize fzL (movL (turnG g) (zAll (turnG g)).1 (zAll (turnG g)).2 (turnG g).next.length) = pm at *
  generalize winL (zAll (turnG g)).1 (turnG g).next.length = PW at *
  generalize fzL PW = pw at *
  generalize movL g (zAll g).1 (zAll g).2 g.next.length = MO at *
  generalize fzL MO = mo at *
  generalize winL (zAll g).1 g.next.length = W at *
  generalize fzL W = w at *
  generalize fzL g.owner = zo at *
  generalize fzL g.rank = zr at *
  have h37 := fun {args : List AV} {H : Heap} (v : AV) (hv : IsL v (oppL W g.next.length)) (e : frzL H 40 args = some [.agg [fzL (turnG g).owner, fzL (turnG g).rank, fzLL (turnG g).next], .agg [v, mo]]) => c37f e hT hv hmo ⟨ha1, ha2⟩ ⟨by rw [oppL_len]; omega, by omega⟩ (m := 400) (by omega)
  have hchk : chkV (turnG g) (oppL W g.next.length) MO = 0 := by
    unfold chkV
    rw [if_pos ht, rightB_t hright]
    rfl
  rw [hchk] at h37
  generalize fzL (turnG g).owner = to at *
  generalize fzL (turnG g).rank = tr at *
  rw [hnn] at h33 hT htn h29' h37
  generalize fzLL g.next = zn at *
  have go := hzo.free; have gr := hzr.free; have gn := hzn.free; have gw := hw.free; have gm := hmo.free; have gto := hto.free; have gtr := htr.free; have gpw := hpw.free; have gpm := hpm.free
  have al2 : ∀ call H, evE call H (.alloc false [.nilS, .nilS]) [] = some (.ptr H.length 0, H ++ [some (.box [.nilS, .nilS])]) := fun call H => rfl
  have al3 : ∀ call H, evE call H (.alloc false [.nilS, .nilS, .nilS]) [] = some (.ptr H.length 0, H ++ [some (.box [.nilS, .nilS, .nilS])]) := fun call H => rfl
  have stG : ∀ call H id, H[id]? = some (some (.box [.nilS, .nilS, .nilS])) → evE call H (.st 3) [.ptr id 0, .agg [zo, zr, zn]] = some (.undef, H.set id (some (.box [zo, zr, zn]))) := fun call H id h => e_st3 hzo.one hzr.one hzn.one h
  have stT : ∀ call H id, H[id]? = some (some (.box [.nilS, .nilS, .nilS])) → evE call H (.st 3) [.ptr id 0, .agg [to, tr, zn]] = some (.undef, H.set id (some (.box [to, tr, zn]))) := fun call H id h => e_st3 hto.one htr.one hzn.one h
  have st2g : ∀ (a b : AV), a.one = true → b.one = true → ∀ call H id, H[id]? = some (some (.box [.nilS, .nilS])) → evE call H (.st 2) [.ptr id 0, .agg [a, b]] = some (.undef, H.set id (some (.box [a, b]))) := fun a b h1 h2 call H id h => by
    simp [evE, stAt, cells_agg, oneL, h1, h2, h, putRow]
  have st2 := st2g w mo hw.one hmo.one
  have st2p := st2g pw pm hpw.one hpm.one
  have st2x := st2g .nilS mo rfl hmo.one
  have bl1 : ∀ H, evP H (.bld [.nilS, .nilS] [(1, 1)]) [mo] = some (.agg [.nilS, mo]) := fun H => by
    simp [evP, fillParts, hmo.cellsV, hmo.solid, putPart]
  refine f_enter rfl rfl ?_
  have h23 := fun H => c23m (m := 400) (by omega) H
  generalize evF tab it 400 = call at *
  repeat' first
 | (apply s_mov; (focus ((conv => lhs; whnf); done)))
 | (apply s_gT; exact rfl)
 | (apply c_nil)
 | (apply s_pickF; exact rfl; (focus ((conv => lhs; whnf); done)))
 | ((first | apply s_lss | apply s_leq | apply s_gtr | apply s_geq | apply s_eql | apply s_neq); exact rfl; all_goals (intro _; try (exfalso; omega)))
 | (apply s_en; (focus (repeat (first | apply opds_nil | (apply opds_cons; (first | (focus ((conv => lhs; whnf); done)) | exact rfl))))); exact ob _)
 | (apply s_en; (focus (repeat (first | apply opds_nil | (apply opds_cons; (first | (focus ((conv => lhs; whnf); done)) | exact rfl))))); exact al2 _ _)
 | (apply s_en; (focus (repeat (first | apply opds_nil | (apply opds_cons; (first | (focus ((conv => lhs; whnf); done)) | exact rfl))))); exact al3 _ _)
 | (apply s_cn; (focus (repeat (first | apply opds_nil | (apply opds_cons; (first | (focus ((conv => lhs; whnf); done)) | exact rfl))))); exact h28 _)
 | (apply s_cn; (focus (repeat (first | apply opds_nil | (apply opds_cons; (first | (focus ((conv => lhs; whnf); done)) | exact rfl))))); exact h29 _)
 | (apply s_cn; (focus (repeat (first | apply opds_nil | (apply opds_cons; (first | (focus ((conv => lhs; whnf); done)) | exact rfl))))); exact h33 _)
 | (apply s_cn; (focus (repeat (first | apply opds_nil | (apply opds_cons; (first | (focus ((conv => lhs; whnf); done)) | exact rfl))))); exact h29' _)
 | (apply s_pn; (focus (repeat (first | apply opds_nil | (apply opds_cons; (first | (focus ((conv => lhs; whnf); done)) | exact rfl))))); exact bl1 _)
 | (apply s_st; (focus (repeat (first | apply opds_nil | (apply opds_cons; (first | (focus ((conv => lhs; whnf); done)) | exact rfl))))); exact stG _ _ _ rfl)
 | (apply s_st; (focus (repeat (first | apply opds_nil | (apply opds_cons; (first | (focus ((conv => lhs; whnf); done)) | exact rfl))))); exact stT _ _ _ rfl)
 | (apply s_st; (focus (repeat (first | apply opds_nil | (apply opds_cons; (first | (focus ((conv => lhs; whnf); done)) | exact rfl))))); exact st2 _ _ _ rfl)
 | (apply s_st; (focus (repeat (first | apply opds_nil | (apply opds_cons; (first | (focus ((conv => lhs; whnf); done)) | exact rfl))))); exact st2p _ _ _ rfl)
 | (apply s_st; (focus (repeat (first | apply opds_nil | (apply opds_cons; (first | (focus ((conv => lhs; whnf); done)) | exact rfl))))); exact st2x _ _ _ rfl)
 | (apply s_len; (focus ((conv => lhs; whnf); done)); (first | assumption | (apply IsLL.at; assumption; omega)))
 | (apply s_pd; (focus ((conv => lhs; whnf); done)))
 | (apply c_seq)
 | (apply c_reg)
 | (apply c_block)
 | (apply c_skip)
 | (apply c_condF; exact rfl)
 | (with_reducible apply k_c)
  refine c_loop ?_
  refine loop_gc (σ := Nat) (fun i => [.ptr 0 0, .ptr 1 0, .ptr 2 0, .ptr 3 0, .int .i64 i]) (fun i => [some (.box [w, mo]), some (.box [to, tr, zn]), some (.box [pw, pm]), some (.box [ownV 4 (iL (oppL W i)), mo])] ++ owH (iL (oppL W i))) (fun i => i ≤ g.next.length) (fun i => g.next.length - i) ?_ _ 0 _ _ (by omega) (by omega) (by simp [go_sem, go, gr, gn, gw, gm, gto, gtr, gpw, gpm, oppL, ownV, owH, iL]; done)
  intro i hi K hK
  have hsi := oppL_succ W i
  have hsl := oppL_len W i
  have hsn : i = g.next.length → oppL W i = oppL W g.next.length := fun e => by rw [e]
  have hwi := hwa i
  have hpi := hpa i
  have hw01 : winA (zAll g).1 i = 0 ∨ winA (zAll g).1 i = 1 := by unfold winA; split <;> simp
  generalize oppL W i = l at *
  have hap : ∀ call v, evE call ([some (.box [w, mo]), some (.box [to, tr, zn]), some (.box [pw, pm]), some (.box [ownV 4 (iL l), mo])] ++ owH (iL l)) (.app false 1 8) [ownV 4 (iL l), .rd 1 1 [v]] = _ := fun call v => e_app_own rfl (by rw [iL_len]; omega)
  have stR : ∀ call D a b, evE call ([some (.box [w, mo]), some (.box [to, tr, zn]), some (.box [pw, pm]), some (.box [ownV 4 (iL l), mo])] ++ owK (iL l) ++ [some (.data D)]) (.st 1) [.ptr 3 (0 + 0), .sl a 1 0 b] = some (.undef, [some (.box [w, mo]), some (.box [to, tr, zn]), some (.box [pw, pm]), some (.box [.sl a 1 0 b, mo])] ++ owK (iL l) ++ [some (.data D)]) := fun call D a b => by
    simp [evE, stAt, cells_sl, oneL, AV.one, putRow]
  repeat' first
 | (apply s_mov; (focus ((conv => lhs; whnf); done)))
 | (apply c_nil)
 | ((first | apply s_lss | apply s_leq | apply s_gtr | apply s_geq | apply s_eql | apply s_neq); exact rfl; all_goals (intro _; try (exfalso; omega)))
 | ((first | apply s_add | apply s_sub); exact rfl; omega)
 | (apply s_en; (focus (repeat (first | apply opds_nil | (apply opds_cons; (first | (focus ((conv => lhs; whnf); done)) | exact rfl))))); exact e_bld1 rfl rfl rfl rfl)
 | (apply s_en; (focus (repeat (first | apply opds_nil | (apply opds_cons; (first | (focus ((conv => lhs; whnf); done)) | exact rfl))))); exact hap _ _)
 | (apply s_st; (focus (repeat (first | apply opds_nil | (apply opds_cons; (first | (focus ((conv => lhs; whnf); done)) | exact rfl))))); exact stR _ _ _ _)
 | (apply s_len; (focus ((conv => lhs; whnf); done)); (first | assumption | (apply IsLL.at; assumption; omega)))
 | (apply s_idx; (focus ((conv => lhs; whnf); done)); exact rfl; (first | assumption | (apply IsLL.at; assumption; omega)); omega)
 | (apply s_ldI; exact rfl; omega)
 | (apply s_pd; (focus ((conv => lhs; whnf); done)))
 | (apply c_seq)
 | (apply c_reg)
 | (apply c_block)
 | (apply c_exitH)
 | (apply c_skip)
 | (apply c_condT; exact rfl)
 | (apply c_condF; exact rfl)
 | (with_reducible apply k_c)
  · refine hK (i + 1) _ _ (by omega) (by omega) ?_
    rw [hsi]
    rcases l with _ | ⟨c, cs⟩ <;> exact (by simp [go_sem, gn, gw, gm, gto, gtr, gpw, gpm, ownV, owH, owK, iL]; done)
  have hin : i = g.next.length := by omega
  have hle := hsn hin
  rcases l with _ | ⟨c, cs⟩
  · simp at hsl; omega
  · simp only [List.length_cons] at hsl
    have hcs : (iL (c :: cs)).length = cs.length + 1 := by rw [iL_len]; rfl
    refine c_pre (vs := [.ptr 0 0, .ptr 1 0]) (H' := [some (.box [to, tr, zn]), some (.box [.sl 2 1 0 (cs.length + 1), mo]), some (.data (iL (c :: cs)))]) (by simp [go_sem, gn, gw, gm, gto, gtr, gpw, gpm, ownV, owH, owK, iL]; done) ?_
    have hc37 := h37 (args := [.agg [to, tr, zn], .agg [.sl 2 1 0 (cs.length + 1), mo]]) (H := [some (.box [to, tr, zn]), some (.box [.sl 2 1 0 (cs.length + 1), mo]), some (.data (iL (c :: cs)))]) (.rd 1 (cs.length + 1) (iL (c :: cs))) (by rw [← hle]; exact isL_rd (by simp)) (by
      have h2 : (iL (c :: cs)).take (cs.length + 1) = iL (c :: cs) := List.take_of_length_le (by omega)
      simp [frzL_cons, frzL_nil, frzV_agg, frzV_sl, frzV_free, idFreeL, idf_sl, gto, gtr, gn, gm, Heap.data?, hcs, h2])
    repeat' first
 | (apply s_mov; (focus ((conv => lhs; whnf); done)))
 | (apply s_gT; exact rfl)
 | (apply c_nil)
 | (apply s_pickT; exact rfl; (focus ((conv => lhs; whnf); done)))
 | ((first | apply s_lss | apply s_leq | apply s_gtr | apply s_geq | apply s_eql | apply s_neq); exact rfl; all_goals (intro _; try (exfalso; omega)))
 | (apply s_cn; (focus (repeat (first | apply opds_nil | (apply opds_cons; (first | (focus ((conv => lhs; whnf); done)) | exact rfl))))); exact hc37)
 | (apply s_cn; (focus (repeat (first | apply opds_nil | (apply opds_cons; (first | (focus ((conv => lhs; whnf); done)) | exact rfl))))); exact h23 _)
 | (apply s_pd; (focus ((conv => lhs; whnf); done)))
 | (apply c_seq)
 | (apply c_reg)
 | (apply c_ret)
 | (with_reducible apply k_c)
    exact fin_t rfl rfl rfl
end Go.AM.Pa
