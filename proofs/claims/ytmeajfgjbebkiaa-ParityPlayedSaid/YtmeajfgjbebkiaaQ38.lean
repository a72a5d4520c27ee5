/- A part of the proof: Q38. -/
import Derived.Test.YtmeajfgjbebkiaaQ37
set_option linter.unusedSectionVars false
set_option linter.unusedVariables false
set_option linter.unusedSimpArgs false
namespace Go.AM.Pa
attribute [local go_sem] gc subHeap reach_skip ren_free reach_new reach_newp reach_end rangeL roots boxCells nodupB posOf renL AV.ren pickO renH renO looks look bindEnv envOf reach_int reach_bool reach_nilS reach_rd putRow cells_sl cells_int cells_bool cells_nilS cells_rd cells_agg reach_agg reach_tup idFreeL idf_sl idf_ptr idf_int idf_bool idf_nilS idf_rd
theorem fzS_sl {env : Env} {H : Heap} {s id n : Nat} {D : List AV} (h1 : look env s = .sl id 1 0 n) (h2 : H.data? id = some D) (h3 : D.length = n) : fzS env H s none = some ((s, .rd 1 n D) :: env, H.set id none) := by
  subst h3
  simp [fzS, h1, evE, h2]
/-- the moves of the winner, completed by a plan -/
def qs (g : Gm) (z : List Bool) (mv : List Int) (w : Int) (pl : List Int) : Nat → List Int
  | 0 => pl
  | i + 1 => if getI g.owner i = w ∧ winA z i = w then (qs g z mv w pl i).set i (getI mv i) else qs g z mv w pl i
theorem qs_len (g : Gm) (z : List Bool) (mv : List Int) (w : Int) (pl : List Int) : ∀ i, (qs g z mv w pl i).length = pl.length
  | 0 => rfl
  | i + 1 => by
    simp only [qs]
    split
    · rw [List.length_set, qs_len g z mv w pl i]
    · exact qs_len g z mv w pl i
theorem qs_get (g : Gm) (z : List Bool) (mv : List Int) (w : Int) (pl : List Int) (j : Nat) (hj : j < pl.length) : ∀ i, getI (qs g z mv w pl i) j = if j < i ∧ getI g.owner j = w ∧ winA z j = w then getI mv j else getI pl j
  | 0 => by simp [qs]
  | i + 1 => by
    have ih := qs_get g z mv w pl j hj i
    simp only [qs]
    split
    · rename_i h
      rw [getI_set, qs_len]
      by_cases e : i = j
      · subst e
        rw [if_pos ⟨rfl, hj⟩, if_pos ⟨by omega, h⟩]
      · rw [if_neg (fun h => e h.1), ih]
        by_cases h3 : j < i ∧ getI g.owner j = w ∧ winA z j = w
        · rw [if_pos h3, if_pos ⟨by omega, h3.2⟩]
        · rw [if_neg h3, if_neg fun h4 => h3 ⟨by omega, h4.2⟩]
    · rename_i h
      rw [ih]
      by_cases h3 : j < i ∧ getI g.owner j = w ∧ winA z j = w
      · rw [if_pos h3, if_pos ⟨by omega, h3.2⟩]
      · rw [if_neg h3, if_neg fun h4 => ?_]
        by_cases e : j = i
        · subst e; exact h h4.2
        · exact h3 ⟨by omega, h4.2⟩
theorem qs_ok {g : Gm} (hg : Good g) {w : Int} (hw : w = 0 ∨ w = 1) {pl : List Int} (hp : OkPlan g pl) : OkPlan g (qs g (zAll g).1 (zAll g).2 w pl g.next.length) := by
  refine ⟨by rw [qs_len]; exact hp.1, fun v hv => ?_⟩
  rw [qs_get _ _ _ _ _ _ (by rw [hp.1]; exact hv)]
  split
  · rename_i h
    obtain ⟨u, u1, u2, -⟩ := (strat_z hg hw).mem v ⟨hv, h.2.2⟩ h.2.1
    rw [← u1]; exact u2
  · exact hp.2 v hv
set_option maxHeartbeats 4000000
theorem f7 {x t : AV} {a : Gm} {set : List Int} {p : Int} (hx : IsG x a) (ht : IsL t set) : ∃ m H', evF tab it m 7 [x, .int .i64 p, t] [] = some (.bool true, H') := by
  refine ⟨401, [], ?_⟩
  obtain ⟨xo, xr, xn, rfl, ho, hr, hn⟩ := id hx
  have fo := ho.free; have fr := hr.free; have fn := hn.free; have ft := ht.free
  have ob : ∀ call, evE call [] (.box false) [.agg [xo, xr, xn]] = some (.ptr 0 0, [some (.box [xo, xr, xn])]) := fun call => by simp [evE, AV.cells, oneL, ho.one, hr.one, hn.one, mkHO]
  have h28 := fun H => c28 hx (hi := 10) (by omega) (m := 400) (by omega) H
  have hg := tame_good a (hi := 10) (by omega)
  obtain ⟨ha1, ha2⟩ := tame_rows a 10
  have hzo := isL_fz (tameG a 10).owner
  have hzr := isL_fz (tameG a 10).rank
  have hzn := isLL_fz (tameG a 10).next
  have hG := isG_fz (tameG a 10)
  unfold fzG at h28 hG
  generalize tameG a 10 = g at *
  have h29 := fun H => c29 hG ⟨ha1, ha2⟩ (m := 400) (by omega) H
  simp only [if_pos hg] at h29
  have hg1 := hg.1; have hg2 := hg.2.1; have hg3 := hg.2.2.1
  have h31 := fun H => c31 (x := p) (n := g.owner.length) (by omega) (m := 400) (by omega) H
  have r0 := mdF_range (x := p) (n := g.owner.length) (by omega)
  obtain ⟨fN, hfN⟩ : ∃ k : Nat, mdF p g.owner.length = k := ⟨_, (Int.toNat_of_nonneg r0.1).symm⟩
  rw [hfN] at h31 r0
  have hf : fN < g.next.length := by omega
  have h32 := fun H => c32o hG ht hg ha2 (m := 400) (by omega) H
  have hpl := plL_ok hg ha2 set
  generalize plL g set g.next.length = pl at *
  have hw01 : winA (zAll g).1 fN = 0 ∨ winA (zAll g).1 fN = 1 := by unfold winA; split <;> simp
  have hq := qs_ok hg hw01 hpl
  have hpw := walk_end hg (p := fN) (by omega) hq
  obtain ⟨hpw1, hpw2⟩ := played_win hg (strat_z hg hw01) hq (fun v hv ho => by
    rw [qs_get _ _ _ _ _ _ (by rw [hpl.1]; exact hv.1), if_pos ⟨hv.1, ho, hv.2⟩]) ⟨hf, rfl⟩ hpw.1
  have hql := qs_len g (zAll g).1 (zAll g).2 (winA (zAll g).1 fN) pl g.next.length
  have hpll := hpl.1
  have h25 := fun H => c25 (p := fN) hG (isL_fz (qs g (zAll g).1 (zAll g).2 (winA (zAll g).1 fN) pl g.next.length)) ⟨by omega, ha2⟩ (by omega) (m := 400) (by omega) H
  simp only [if_pos (show Good g ∧ (0 ≤ (fN : Int) ∧ (fN : Int) ≤ (g.next.length : Int) - 1) ∧ OkPlan g (qs g (zAll g).1 (zAll g).2 (winA (zAll g).1 fN) pl g.next.length) from ⟨hg, by omega, hq⟩)] at h25
  rw [fzL_ne (hql.trans hpll) hg1.1] at h25
  have h23 := fun H => c23m (m := 400) (by omega) H
  have hw := isL_fz (winL (zAll g).1 g.next.length)
  have hwl : (winL (zAll g).1 g.next.length).length = g.next.length := by simp [winL]
  have hwa : ∀ j : Nat, j < g.next.length → getI (winL (zAll g).1 g.next.length) (j : Nat) = winA (zAll g).1 j := fun j hj => by rw [winL, getI_map hj]
  have hmo := isL_fz (movL g (zAll g).1 (zAll g).2 g.next.length)
  have hmol : (movL g (zAll g).1 (zAll g).2 g.next.length).length = g.next.length := by simp [movL]
  have hma : ∀ j : Nat, j < g.next.length → getI g.owner j = winA (zAll g).1 j → getI (movL g (zAll g).1 (zAll g).2 g.next.length) (j : Nat) = getI (zAll g).2 j := fun j hj h => by rw [movL, getI_map hj, mov_eq rfl h]
  generalize movL g (zAll g).1 (zAll g).2 g.next.length = MO at *
  generalize fzL MO = mo at *
  generalize winL (zAll g).1 g.next.length = W at *
  generalize fzL W = w at *
  generalize fzL g.owner = zo at *
  generalize fzL g.rank = zr at *
  generalize fzLL g.next = zn at *
  have hwf := hwa fN hf
  have go := hzo.free; have gr := hzr.free; have gn := hzn.free; have gw := hw.free; have gm := hmo.free
  generalize hF : walk (qs g (zAll g).1 (zAll g).2 (winA (zAll g).1 fN) pl g.next.length) 30 [] fN = F at *
  obtain ⟨L, V⟩ := F
  simp only at hpw hpw1 hpw2 h25
  have hva : IsL (playV L V) (playA L V) := isL_rd (by simp [playA]; omega)
  have hvb : IsL (playW L V) (playB L V) := isL_rd (by simp [playB])
  have hpbl : 1 ≤ (playB L V).length := by simp [playB]; omega
  have hpal : (playA L V).length ≤ 24 := by simp [playA]; omega
  have hpbl2 : (playB L V).length ≤ 24 := by simp [playB]; omega
  have hin : ∀ u ∈ L, 0 ≤ u ∧ u < g.next.length ∧ getI W u = getI W fN := fun u hu => by
    obtain ⟨v, rfl, hv⟩ := hpw2 u hu
    exact ⟨by omega, by have := hv.1; omega, by rw [hwa v hv.1, hv.2, hwf]⟩
  have hfa : ∀ i : Nat, (i : Int) < (playA L V).length → 0 ≤ getI (playA L V) i ∧ getI (playA L V) i < g.next.length ∧ getI W (getI (playA L V) i) = getI W fN := fun i hi => hin _ (List.mem_of_mem_take (getI_mem (l := playA L V) (i := i) (by omega)))
  have hfb : ∀ i : Nat, ¬ (i : Int) < (playA L V).length → (i : Int) < (playA L V).length + (playB L V).length → 0 ≤ getI (playB L V) ((i : Int) - (playA L V).length) ∧ getI (playB L V) ((i : Int) - (playA L V).length) < g.next.length ∧ getI W (getI (playB L V) ((i : Int) - (playA L V).length)) = getI W fN := fun i hi hi2 => by
    obtain ⟨k, hk⟩ : ∃ k : Nat, (i : Int) - (playA L V).length = k := ⟨((i : Int) - (playA L V).length).toNat, by omega⟩
    rw [hk]
    exact hin _ (List.mem_of_mem_drop (getI_mem (l := playB L V) (i := k) (by omega)))
  rw [hpw1.trans hwf.symm] at h25
  generalize playV L V = va at *
  generalize playW L V = vb at *
  generalize playA L V = PA at *
  generalize playB L V = PB at *
  have fva := hva.free; have fvb := hvb.free
  have al2 : ∀ call H, evE call H (.alloc false [.nilS, .nilS]) [] = some (.ptr H.length 0, H ++ [some (.box [.nilS, .nilS])]) := fun call H => rfl
  have al3 : ∀ call H, evE call H (.alloc false [.nilS, .nilS, .nilS]) [] = some (.ptr H.length 0, H ++ [some (.box [.nilS, .nilS, .nilS])]) := fun call H => rfl
  have stG : ∀ call H id, H[id]? = some (some (.box [.nilS, .nilS, .nilS])) → evE call H (.st 3) [.ptr id 0, .agg [zo, zr, zn]] = some (.undef, H.set id (some (.box [zo, zr, zn]))) := fun call H id h => e_st3 hzo.one hzr.one hzn.one h
  have st2 : ∀ call H id, H[id]? = some (some (.box [.nilS, .nilS])) → evE call H (.st 2) [.ptr id 0, .agg [w, mo]] = some (.undef, H.set id (some (.box [w, mo]))) := fun call H id h => by
    simp [evE, stAt, cells_agg, oneL, hw.one, hmo.one, h, putRow]
  refine f_enter rfl rfl ?_
  generalize evF tab it 400 = call at *
  repeat' first
 | (apply s_mov; (focus ((conv => lhs; whnf); done)))
 | (apply s_gT; exact rfl)
 | (apply c_nil)
 | (apply s_pickF; exact rfl; (focus ((conv => lhs; whnf); done)))
 | ((first | apply s_lss | apply s_leq | apply s_gtr | apply s_geq | apply s_eql | apply s_neq); exact rfl; all_goals (intro _; try (exfalso; omega)))
 | (apply s_en; (focus (repeat (first | apply opds_nil | (apply opds_cons; (first | (focus ((conv => lhs; whnf); done)) | exact rfl))))); exact ob _)
 | (apply s_en; (focus (repeat (first | apply opds_nil | (apply opds_cons; (first | (focus ((conv => lhs; whnf); done)) | exact rfl))))); exact al2 _ _)
 | (apply s_en; (focus (repeat (first | apply opds_nil | (apply opds_cons; (first | (focus ((conv => lhs; whnf); done)) | exact rfl))))); exact al3 _ _)
 | (apply s_cn; (focus (repeat (first | apply opds_nil | (apply opds_cons; (first | (focus ((conv => lhs; whnf); done)) | exact rfl))))); exact h28 _)
 | (apply s_cn; (focus (repeat (first | apply opds_nil | (apply opds_cons; (first | (focus ((conv => lhs; whnf); done)) | exact rfl))))); exact h29 _)
 | (apply s_cn; (focus (repeat (first | apply opds_nil | (apply opds_cons; (first | (focus ((conv => lhs; whnf); done)) | exact rfl))))); exact h31 _)
 | (apply s_cn; (focus (repeat (first | apply opds_nil | (apply opds_cons; (first | (focus ((conv => lhs; whnf); done)) | exact rfl))))); exact h32 _)
 | (apply s_st; (focus (repeat (first | apply opds_nil | (apply opds_cons; (first | (focus ((conv => lhs; whnf); done)) | exact rfl))))); exact stG _ _ _ rfl)
 | (apply s_st; (focus (repeat (first | apply opds_nil | (apply opds_cons; (first | (focus ((conv => lhs; whnf); done)) | exact rfl))))); exact st2 _ _ _ rfl)
 | (apply s_len; (focus ((conv => lhs; whnf); done)); (first | assumption | (apply IsLL.at; assumption; omega)))
 | (apply s_pd; (focus ((conv => lhs; whnf); done)))
 | (apply c_seq)
 | (apply c_reg)
 | (apply c_block)
 | (apply c_skip)
 | (apply c_condF; exact rfl)
 | (with_reducible apply k_c)
  refine c_loop ?_
  refine loop_gc (σ := Nat) (fun i => [.int .i64 fN, .ptr 0 0, .ptr 1 0, .sl 2 1 0 g.next.length, .int .i64 i]) (fun i => [some (.box [zo, zr, zn]), some (.box [w, mo]), some (.data (iL (qs g (zAll g).1 (zAll g).2 (winA (zAll g).1 fN) pl i)))]) (fun i => i ≤ g.next.length) (fun i => g.next.length - i) ?_ _ 0 _ _ (by omega) (by omega) (by simp [go_sem, ft, go, gr, gn, gw, gm, qs]; done)
  intro i hi K hK
  have hsl := qs_len g (zAll g).1 (zAll g).2 (winA (zAll g).1 fN) pl i
  have hsi : qs g (zAll g).1 (zAll g).2 (winA (zAll g).1 fN) pl (i + 1) = if getI g.owner i = winA (zAll g).1 fN ∧ winA (zAll g).1 i = winA (zAll g).1 fN then (qs g (zAll g).1 (zAll g).2 (winA (zAll g).1 fN) pl i).set i (getI (zAll g).2 i) else qs g (zAll g).1 (zAll g).2 (winA (zAll g).1 fN) pl i := rfl
  have hwi := hwa i
  have hmi := hma i
  repeat' first
 | (apply s_mov; (focus ((conv => lhs; whnf); done)))
 | (apply s_gT; exact rfl)
 | (apply s_gF; exact rfl)
 | (apply c_nil)
 | (apply s_pickT; exact rfl; (focus ((conv => lhs; whnf); done)))
 | (apply s_pickF; exact rfl; (focus ((conv => lhs; whnf); done)))
 | ((first | apply s_lss | apply s_leq | apply s_gtr | apply s_geq | apply s_eql | apply s_neq); exact rfl; all_goals (intro _; try (exfalso; omega)))
 | ((first | apply s_add | apply s_sub); exact rfl; omega)
 | (apply s_st; (focus (repeat (first | apply opds_nil | (apply opds_cons; (first | (focus ((conv => lhs; whnf); done)) | exact rfl))))); exact e_stI rfl (by omega))
 | (apply s_lenSl; exact rfl)
 | (apply s_idx; (focus ((conv => lhs; whnf); done)); exact rfl; (first | assumption | (apply IsLL.at; assumption; omega)); omega)
 | (apply s_idxS; exact rfl; exact rfl; omega)
 | (apply s_ldI; exact rfl; omega)
 | (apply s_pd; (focus ((conv => lhs; whnf); done)))
 | (apply c_seq)
 | (apply c_reg)
 | (apply c_block)
 | (apply c_exitH)
 | (apply c_skip)
 | (apply c_condT; exact rfl)
 | (apply c_condF; exact rfl)
 | (with_reducible apply k_c)
  · rename_i hlt q1 q2
    have hlt' : i < g.next.length := by omega
    refine hK (i + 1) _ _ (by omega) (by omega) ?_
    have e1 : getI g.owner i = winA (zAll g).1 fN := by rw [← hwf]; exact q1
    have e2 : winA (zAll g).1 i = winA (zAll g).1 fN := by rw [← hwf, ← hwi hlt']; exact q2
    rw [hsi, if_pos ⟨e1, e2⟩, hmi hlt' (e1.trans e2.symm)]
    exact (by simp [go_sem, ft, go, gr, gn, gw, gm]; done)
  · rename_i hlt q1 q2
    have hlt' : i < g.next.length := by omega
    refine hK (i + 1) _ _ (by omega) (by omega) ?_
    rw [hsi, if_neg (fun h => q2 (by rw [hwi hlt', hwf]; exact h.2))]
    exact (by simp [go_sem, ft, go, gr, gn, gw, gm]; done)
  · rename_i hlt q1
    refine hK (i + 1) _ _ (by omega) (by omega) ?_
    rw [hsi, if_neg (fun h => q1 (by rw [hwf]; exact h.1))]
    exact (by simp [go_sem, ft, go, gr, gn, gw, gm]; done)
  have hin' : i = g.next.length := by omega
  subst hin'
  clear hK hsi hsl
  generalize qs g (zAll g).1 (zAll g).2 (winA (zAll g).1 fN) pl g.next.length = Q at *
  have hQl : (iL Q).length = g.next.length := by rw [iL_len]; omega
  refine c_fz (fzS_sl (D := iL Q) rfl rfl hQl) ?_
  refine c_pre (vs := [.int .i64 fN, .ptr 0 0, .ptr 1 0, .rd 1 g.next.length (iL Q)]) (H' := [some (.box [zo, zr, zn]), some (.box [w, mo])]) (by simp [go_sem, ft, go, gr, gn, gw, gm]; done) ?_
  repeat' first
 | (apply s_mov; (focus ((conv => lhs; whnf); done)))
 | (apply s_gT; exact rfl)
 | (apply c_nil)
 | (apply s_pickF; exact rfl; (focus ((conv => lhs; whnf); done)))
 | ((first | apply s_lss | apply s_leq | apply s_gtr | apply s_geq | apply s_eql | apply s_neq); exact rfl; all_goals (intro _; try (exfalso; omega)))
 | (apply s_cn; (focus (repeat (first | apply opds_nil | (apply opds_cons; (first | (focus ((conv => lhs; whnf); done)) | exact rfl))))); exact h25 _)
 | (apply s_len; (focus ((conv => lhs; whnf); done)); (first | assumption | (apply IsLL.at; assumption; omega)))
 | (apply s_idx; (focus ((conv => lhs; whnf); done)); exact rfl; (first | assumption | (apply IsLL.at; assumption; omega)); omega)
 | (apply s_ldI; exact rfl; omega)
 | (apply s_pd; (focus ((conv => lhs; whnf); done)))
 | (apply c_seq)
 | (apply c_reg)
 | (apply c_block)
 | (apply c_skip)
 | (apply c_condF; exact rfl)
 | (with_reducible apply k_c)
  refine c_loop ?_
  refine loop_gc (σ := Nat) (fun i => [.int .i64 fN, .ptr 0 0, va, vb, .int .i64 i]) (fun i => [some (.box [w, mo])]) (fun i => i ≤ PA.length + PB.length) (fun i => PA.length + PB.length - i) ?_ _ 0 _ _ (by omega) (by omega) (by simp [go_sem, ft, go, gr, gn, gw, gm, fva, fvb]; done)
  intro i hi K hK
  have ha := hfa i
  have hb := hfb i
  repeat' first
 | (apply s_mov; (focus ((conv => lhs; whnf); done)))
 | (apply s_gT; exact rfl)
 | (apply c_nil)
 | (apply s_pickF; exact rfl; (focus ((conv => lhs; whnf); done)))
 | ((first | apply s_lss | apply s_leq | apply s_gtr | apply s_geq | apply s_eql | apply s_neq); exact rfl; all_goals (intro _; try (exfalso; omega)))
 | ((first | apply s_add | apply s_sub); exact rfl; omega)
 | (apply s_idx; (focus ((conv => lhs; whnf); done)); exact rfl; assumption; (exact (by omega)))
 | (apply s_cn; (focus (repeat (first | apply opds_nil | (apply opds_cons; (first | (focus ((conv => lhs; whnf); done)) | exact rfl))))); exact h23 _)
 | (apply s_len; (focus ((conv => lhs; whnf); done)); (first | assumption | (apply IsLL.at; assumption; omega)))
 | (apply s_ldI; exact rfl; omega)
 | (apply s_pd; (focus ((conv => lhs; whnf); done)))
 | (apply c_seq)
 | (apply c_reg)
 | (apply c_block)
 | (apply c_exitH)
 | (apply c_skip)
 | (apply c_ret)
 | (apply c_condT; exact rfl)
 | (apply c_condF; exact rfl)
 | (apply c_preF; (focus (repeat (first | apply looks_nil | (apply looks_cons; (focus ((conv => lhs; whnf); done)))))); (focus (simp [idFreeL, AV.idFree, *]; done)))
 | (with_reducible apply k_c)
  all_goals first
    | (refine hK (i + 1) _ _ (by omega) (by omega) (by simp [go_sem, ft, go, gr, gn, gw, gm, fva, fvb]; done))
    | exact fin_t rfl rfl rfl
end Go.AM.Pa
