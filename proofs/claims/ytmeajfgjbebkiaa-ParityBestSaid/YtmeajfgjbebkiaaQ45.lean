/- A part of the proof: Q45. -/
import Derived.Test.YtmeajfgjbebkiaaQ43
import Derived.Test.YtmeajfgjbebkiaaQ37
set_option linter.unusedSectionVars false
set_option linter.unusedVariables false
set_option linter.unusedSimpArgs false
namespace Go.AM.Pa
attribute [local go_sem] gc subHeap reach_skip ren_free reach_new reach_newp reach_end rangeL roots boxCells nodupB posOf renL AV.ren pickO renH renO looks look bindEnv envOf reach_int reach_bool reach_nilS reach_rd putRow cells_sl cells_int cells_bool cells_nilS cells_rd cells_agg reach_agg reach_tup idFreeL idf_sl idf_ptr idf_int idf_bool idf_nilS idf_rd
/-- what wins against a plan wins -/
theorem bnd_sub {g : Gm} (hg : Good g) {p : Int} (hp01 : p = 0 ∨ p = 1) {pl : List Int} (hp : OkB g p pl) {v : Nat} (hv : v < g.next.length) (hw : winA (zAll (bndG g p pl)).1 v = p) : winA (zAll g).1 v = p := by
  have hb := bnd_good hg hp
  have hl := bnd_len g p pl
  have s := strat_z hb hp01
  have hpl : ∀ v : Nat, v < g.next.length → getI g.owner v = p → getLL (bndG g p pl).next v = [getI pl v] := fun v hv ho => by rw [bnd_ll hv, bRow, if_pos ho]
  have hno : ∀ v : Nat, v < g.next.length → ¬ getI g.owner v = p → getLL (bndG g p pl).next v = getLL g.next v := fun v hv ho => by rw [bnd_ll hv, bRow, if_neg ho]
  refine strat_uniq hg hp01 (mv := (zAll (bndG g p pl)).2) (A := fun v => v < (bndG g p pl).next.length ∧ winA (zAll (bndG g p pl)).1 v = p) ⟨fun v h => by have := h.1; omega, fun v h ho => ?_, fun v h ho u hu => ?_, fun f hf r hr => ?_⟩ ⟨by omega, hw⟩
  · obtain ⟨u, u1, u2, u3⟩ := s.mem v h ho
    have hv' : v < g.next.length := by have := h.1; omega
    rw [hpl v hv' ho] at u2
    simp at u2
    refine ⟨u, u1, ?_, u3⟩
    rw [u2]; exact hp v hv' ho
  · have hv' : v < g.next.length := by have := h.1; omega
    exact s.trap v h ho u (by rw [hno v hv' ho]; exact hu)
  · refine s.win f (fun i => ⟨(hf i).1, ?_⟩) r hr
    have hv' : f i < g.next.length := by have := (hf i).1.1; omega
    obtain ⟨h1, h2⟩ := (hf i).2
    refine ⟨?_, h2⟩
    by_cases ho : getI g.owner (f i) = p
    · obtain ⟨u, u1, u2, u3⟩ := s.mem _ (hf i).1 ho
      rw [h2 ho, ← u1]; exact u2
    · rw [hno _ hv' ho]; exact h1
/-- the moves of the winner beat all that it wins -/
theorem bnd_sup {g : Gm} (hg : Good g) {p : Int} (hp01 : p = 0 ∨ p = 1) {pl : List Int} (hp : OkB g p pl) (hm : ∀ v : Nat, v < g.next.length → winA (zAll g).1 v = p → getI g.owner v = p → getI pl v = getI (zAll g).2 v) {v : Nat} (hv : v < g.next.length) (hw : winA (zAll g).1 v = p) : winA (zAll (bndG g p pl)).1 v = p := by
  have hb := bnd_good hg hp
  have hl := bnd_len g p pl
  have s := strat_z hg hp01
  have hpl : ∀ v : Nat, v < g.next.length → getI g.owner v = p → getLL (bndG g p pl).next v = [getI pl v] := fun v hv ho => by rw [bnd_ll hv, bRow, if_pos ho]
  have hno : ∀ v : Nat, v < g.next.length → ¬ getI g.owner v = p → getLL (bndG g p pl).next v = getLL g.next v := fun v hv ho => by rw [bnd_ll hv, bRow, if_neg ho]
  refine strat_uniq hb hp01 (mv := (zAll g).2) (A := fun v => v < g.next.length ∧ winA (zAll g).1 v = p) ⟨fun v h => by have := h.1; omega, fun v h ho => ?_, fun v h ho u hu => ?_, fun f hf r hr => ?_⟩ ⟨hv, hw⟩
  · obtain ⟨u, u1, u2, u3⟩ := s.mem v h ho
    refine ⟨u, u1, ?_, u3⟩
    rw [hpl v h.1 ho, hm v h.1 h.2 ho, u1]
    exact List.mem_cons_self
  · rw [hno v h.1 ho] at hu
    exact s.trap v h ho u hu
  · refine s.win f (fun i => ⟨(hf i).1, ?_⟩) r hr
    obtain ⟨h1, h2⟩ := (hf i).2
    refine ⟨?_, h2⟩
    by_cases ho : getI g.owner (f i) = p
    · obtain ⟨u, u1, u2, u3⟩ := s.mem _ (hf i).1 ho
      rw [h2 ho, ← u1]; exact u2
    · rw [hno _ (hf i).1.1 ho] at h1; exact h1
/-- the moves of the winner, completed by a plan, one after the other -/
def qmA (g : Gm) (z : List Bool) (mv : List Int) (p : Int) (pl : List Int) (j : Nat) : Int := if getI g.owner j = p ∧ winA z j = p then getI mv j else getI pl j
def qmL (g : Gm) (z : List Bool) (mv : List Int) (p : Int) (pl : List Int) (i : Nat) : List Int := (List.range i).map (qmA g z mv p pl)
theorem qmL_succ (g : Gm) (z : List Bool) (mv : List Int) (p : Int) (pl : List Int) (i : Nat) : iL (qmL g z mv p pl (i + 1)) = iL (qmL g z mv p pl i) ++ [.int .i64 (qmA g z mv p pl i)] := by simp [qmL, iL, List.range_succ]
theorem qmL_len (g : Gm) (z : List Bool) (mv : List Int) (p : Int) (pl : List Int) (i : Nat) : (qmL g z mv p pl i).length = i := by simp [qmL]
theorem qm_ok {g : Gm} (hg : Good g) {p : Int} (hp01 : p = 0 ∨ p = 1) {pl : List Int} (hp : OkPlan g pl) : OkB g p (qmL g (zAll g).1 (zAll g).2 p pl g.next.length) := fun v hv ho => by
  rw [qmL, getLL_rngI hv, qmA]
  split
  · rename_i h
    obtain ⟨u, u1, u2, -⟩ := (strat_z hg hp01).mem v ⟨hv, h.2⟩ h.1
    rw [← u1]; exact u2
  · exact hp.2 v hv
theorem qm_beats {g : Gm} (hg : Good g) {p : Int} (hp01 : p = 0 ∨ p = 1) {pl : List Int} (hp : OkPlan g pl) {v : Nat} (hv : v < g.next.length) : ((v : Int) ∈ beatsL g p (qmL g (zAll g).1 (zAll g).2 p pl g.next.length)) ↔ winA (zAll g).1 v = p := by
  have hq := qm_ok hg hp01 hp
  rw [beatsL, fil_mem, decide_eq_true_iff]
  constructor
  · exact fun h => bnd_sub hg hp01 hq hv h.2
  · refine fun h => ⟨hv, bnd_sup hg hp01 hq (fun v hv hw ho => ?_) hv h⟩
    rw [qmL, getLL_rngI hv, qmA, if_pos ⟨ho, hw⟩]
set_option maxHeartbeats 4000000
theorem f11 {x t : AV} {a : Gm} {set : List Int} (hx : IsG x a) (ht : IsL t set) : ∃ m H', evF tab it m 11 [x, t] [] = some (.bool true, H') := by
  refine ⟨401, [], ?_⟩
  obtain ⟨xo, xr, xn, rfl, ho, hr, hn⟩ := id hx
  have fo := ho.free; have fr := hr.free; have fn := hn.free; have ft := ht.free
  have ob : ∀ call, evE call [] (.box false) [.agg [xo, xr, xn]] = some (.ptr 0 0, [some (.box [xo, xr, xn])]) := fun call => by simp [evE, AV.cells, oneL, ho.one, hr.one, hn.one, mkHO]
  have h28 := fun H => c28 hx (hi := 10) (by omega) (m := 400) (by omega) H
  have hg := tame_good a (hi := 10) (by omega)
  obtain ⟨ha1, ha2⟩ := tame_rows a 10
  have hzo := isL_fz (tameG a 10).owner
  have hzr := isL_fz (tameG a 10).rank
  have hzn := isLL_fz (tameG a 10).next
  have hG := isG_fz (tameG a 10)
  unfold fzG at h28 hG
  generalize tameG a 10 = g at *
  have h29 := fun H => c29 hG ⟨ha1, ha2⟩ (m := 400) (by omega) H
  simp only [if_pos hg] at h29
  have hg1 := hg.1; have hg2 := hg.2.1; have hg3 := hg.2.2.1
  have h32 := fun H => c32 hG ht hg ha2 (m := 400) (by omega) H
  have hpl := plL_ok hg ha2 set
  generalize plL g set g.next.length = pl at *
  have hpll := hpl.1
  have hzp := isL_fz pl
  have hOB : ∀ p, OkB g p pl := fun p v hv _ => hpl.2 v hv
  have h35 : ∀ p : Int, 0 ≤ p ∧ p ≤ 1 → ∀ H, callPure (evF tab it 400) true 35 [.agg [fzL g.owner, fzL g.rank, fzLL g.next], .int .i64 p, fzL pl] H = some (.tup [fzL (beatsL g p pl), .int .i64 0], H) := fun p hp H => by
    have := c35 (p := p) hG hzp ⟨ha1, ha2⟩ (by omega) (m := 400) (by omega) H
    rw [if_pos ⟨hg, hp, hpll, hOB p⟩] at this
    exact this
  have h35' : ∀ p : Int, 0 ≤ p ∧ p ≤ 1 → ∀ H, callPure (evF tab it 400) true 35 [.agg [fzL g.owner, fzL g.rank, fzLL g.next], .int .i64 p, fzL (qmL g (zAll g).1 (zAll g).2 p pl g.next.length)] H = some (.tup [fzL (beatsL g p (qmL g (zAll g).1 (zAll g).2 p pl g.next.length)), .int .i64 0], H) := fun p hp H => by
    have := c35 (p := p) hG (isL_fz (qmL g (zAll g).1 (zAll g).2 p pl g.next.length)) ⟨ha1, ha2⟩ (by rw [qmL_len]; omega) (m := 400) (by omega) H
    rw [if_pos ⟨hg, hp, qmL_len _ _ _ _ _ _, qm_ok hg (by omega) hpl⟩] at this
    exact this
  have h30 : ∀ (s : List Int) (v : Int), s.length < 100 → ∀ H, callPure (evF tab it 400) true 30 [fzL s, .int .i64 v] H = some (.bool (decide (v ∈ s)), H) := fun s v hs H => c30 (isL_fz s) hs (by omega) H
  have h23 := fun H => c23m (m := 400) (by omega) H
  have hw := isL_fz (winL (zAll g).1 g.next.length)
  have hwl : (winL (zAll g).1 g.next.length).length = g.next.length := by simp [winL]
  have hwa : ∀ j : Nat, j < g.next.length → getI (winL (zAll g).1 g.next.length) (j : Nat) = winA (zAll g).1 j := fun j hj => by rw [winL, getI_map hj]
  have hmo := isL_fz (movL g (zAll g).1 (zAll g).2 g.next.length)
  have hmol : (movL g (zAll g).1 (zAll g).2 g.next.length).length = g.next.length := by simp [movL]
  have hma : ∀ j : Nat, j < g.next.length → getI g.owner j = winA (zAll g).1 j → getI (movL g (zAll g).1 (zAll g).2 g.next.length) (j : Nat) = getI (zAll g).2 j := fun j hj h => by rw [movL, getI_map hj, mov_eq rfl h]
  generalize movL g (zAll g).1 (zAll g).2 g.next.length = MO at *
  generalize fzL MO = mo at *
  generalize winL (zAll g).1 g.next.length = W at *
  generalize fzL W = w at *
  generalize fzL g.owner = zo at *
  generalize fzL g.rank = zr at *
  generalize fzLL g.next = zn at *
  have go := hzo.free; have gr := hzr.free; have gn := hzn.free; have gw := hw.free; have gm := hmo.free; have gp := hzp.free
  have al2 : ∀ call H, evE call H (.alloc false [.nilS, .nilS]) [] = some (.ptr H.length 0, H ++ [some (.box [.nilS, .nilS])]) := fun call H => rfl
  have al3 : ∀ call H, evE call H (.alloc false [.nilS, .nilS, .nilS]) [] = some (.ptr H.length 0, H ++ [some (.box [.nilS, .nilS, .nilS])]) := fun call H => rfl
  have stG : ∀ call H id, H[id]? = some (some (.box [.nilS, .nilS, .nilS])) → evE call H (.st 3) [.ptr id 0, .agg [zo, zr, zn]] = some (.undef, H.set id (some (.box [zo, zr, zn]))) := fun call H id h => e_st3 hzo.one hzr.one hzn.one h
  have st2 : ∀ call H id, H[id]? = some (some (.box [.nilS, .nilS])) → evE call H (.st 2) [.ptr id 0, .agg [w, mo]] = some (.undef, H.set id (some (.box [w, mo]))) := fun call H id h => by
    simp [evE, stAt, cells_agg, oneL, hw.one, hmo.one, h, putRow]
  refine f_enter rfl rfl ?_
  generalize evF tab it 400 = call at *
  repeat' first
 | (apply s_mov; (focus ((conv => lhs; whnf); done)))
 | (apply s_gT; exact rfl)
 | (apply c_nil)
 | (apply s_pickF; exact rfl; (focus ((conv => lhs; whnf); done)))
 | ((first | apply s_lss | apply s_leq | apply s_gtr | apply s_geq | apply s_eql | apply s_neq); exact rfl; all_goals (intro _; try (exfalso; omega)))
 | (apply s_en; (focus (repeat (first | apply opds_nil | (apply opds_cons; (first | (focus ((conv => lhs; whnf); done)) | exact rfl))))); exact ob _)
 | (apply s_en; (focus (repeat (first | apply opds_nil | (apply opds_cons; (first | (focus ((conv => lhs; whnf); done)) | exact rfl))))); exact al2 _ _)
 | (apply s_en; (focus (repeat (first | apply opds_nil | (apply opds_cons; (first | (focus ((conv => lhs; whnf); done)) | exact rfl))))); exact al3 _ _)
 | (apply s_cn; (focus (repeat (first | apply opds_nil | (apply opds_cons; (first | (focus ((conv => lhs; whnf); done)) | exact rfl))))); exact h28 _)
 | (apply s_cn; (focus (repeat (first | apply opds_nil | (apply opds_cons; (first | (focus ((conv => lhs; whnf); done)) | exact rfl))))); exact h29 _)
 | (apply s_cn; (focus (repeat (first | apply opds_nil | (apply opds_cons; (first | (focus ((conv => lhs; whnf); done)) | exact rfl))))); exact h32 _)
 | (apply s_st; (focus (repeat (first | apply opds_nil | (apply opds_cons; (first | (focus ((conv => lhs; whnf); done)) | exact rfl))))); exact stG _ _ _ rfl)
 | (apply s_st; (focus (repeat (first | apply opds_nil | (apply opds_cons; (first | (focus ((conv => lhs; whnf); done)) | exact rfl))))); exact st2 _ _ _ rfl)
 | (apply s_len; (focus ((conv => lhs; whnf); done)); (first | assumption | (apply IsLL.at; assumption; omega)))
 | (apply s_pd; (focus ((conv => lhs; whnf); done)))
 | (apply c_seq)
 | (apply c_reg)
 | (apply c_block)
 | (apply c_skip)
 | (apply c_condF; exact rfl)
 | (with_reducible apply k_c)
  refine c_loop ?_
  refine loop_gc (σ := Nat) (fun p => [.ptr 0 0, fzL pl, .ptr 1 0, .int .i64 p]) (fun p => [some (.box [zo, zr, zn]), some (.box [w, mo])]) (fun p => p ≤ 2) (fun p => 2 - p) ?_ _ 0 _ _ (by omega) (by omega) (by simp [go_sem, go, gr, gn, gw, gm, gp]; done)
  intro p hp K hK
  have hb35 := h35 p
  repeat' first
 | (apply s_mov; (focus ((conv => lhs; whnf); done)))
 | (apply c_nil)
 | ((first | apply s_lss | apply s_leq | apply s_gtr | apply s_geq | apply s_eql | apply s_neq); exact rfl; all_goals (intro _; try (exfalso; omega)))
 | (apply s_cn; (focus (repeat (first | apply opds_nil | (apply opds_cons; (first | (focus ((conv => lhs; whnf); done)) | exact rfl))))); exact hb35 (by omega) _)
 | (apply s_cn; (focus (repeat (first | apply opds_nil | (apply opds_cons; (first | (focus ((conv => lhs; whnf); done)) | exact rfl))))); exact h23 _)
 | (apply s_pd; (focus ((conv => lhs; whnf); done)))
 | (apply c_seq)
 | (apply c_reg)
 | (apply c_block)
 | (apply c_exitH)
 | (apply c_skip)
 | (apply c_ret)
 | (apply c_condT; exact rfl)
 | (apply c_condF; exact rfl)
 | (apply c_preF; (focus (repeat (first | apply looks_nil | (apply looks_cons; (focus ((conv => lhs; whnf); done)))))); (focus (simp [idFreeL, AV.idFree, *]; done)))
 | (with_reducible apply k_c)
  rotate_left
  · exact fin_t rfl rfl rfl
  have hp2 : (0 : Int) ≤ p ∧ (p : Int) ≤ 1 := by omega
  have hp01 : (p : Int) = 0 ∨ (p : Int) = 1 := by omega
  have hbz := isL_fz (beatsL g p pl)
  have hbl := beatsL_len g p pl
  have hbin : ∀ i : Nat, i < (beatsL g p pl).length → 0 ≤ getI (beatsL g p pl) i ∧ getI (beatsL g p pl) i < g.next.length ∧ getI W (getI (beatsL g p pl) i) = p := fun i hi => by
    obtain ⟨v, hv, h1, h2⟩ := fil_nat (getI_mem (l := beatsL g p pl) hi)
    rw [hv]
    exact ⟨by omega, by omega, by rw [hwa v h1]; exact bnd_sub hg hp01 (hOB p) h1 (of_decide_eq_true h2)⟩
  generalize beatsL g p pl = b at *
  have gb := hbz.free
  refine c_loop ?_
  refine loop_gc (σ := Nat) (fun i => [.ptr 0 0, fzL pl, .ptr 1 0, .int .i64 p, fzL b, .int .i64 i]) (fun i => [some (.box [zo, zr, zn]), some (.box [w, mo])]) (fun i => i ≤ b.length) (fun i => b.length - i) ?_ _ 0 _ _ (by omega) (by omega) (by simp [go_sem, go, gr, gn, gw, gm, gp, gb]; done)
  intro i hi K2 hK2
  have hbi := hbin i
  repeat' first
 | (apply s_mov; (focus ((conv => lhs; whnf); done)))
 | (apply s_gT; exact rfl)
 | (apply c_nil)
 | (apply s_pickF; exact rfl; (focus ((conv => lhs; whnf); done)))
 | ((first | apply s_lss | apply s_leq | apply s_gtr | apply s_geq | apply s_eql | apply s_neq); exact rfl; all_goals (intro _; try (exfalso; omega)))
 | ((first | apply s_add | apply s_sub); exact rfl; omega)
 | (apply s_len; (focus ((conv => lhs; whnf); done)); (first | assumption | (apply IsLL.at; assumption; omega)))
 | (apply s_idx; (focus ((conv => lhs; whnf); done)); exact rfl; (first | assumption | (apply IsLL.at; assumption; omega)); omega)
 | (apply s_ldI; exact rfl; omega)
 | (apply s_pd; (focus ((conv => lhs; whnf); done)))
 | (apply c_seq)
 | (apply c_reg)
 | (apply c_block)
 | (apply c_exitH)
 | (apply c_skip)
 | (apply c_condT; exact rfl)
 | (apply c_condF; exact rfl)
 | (with_reducible apply k_c)
  · refine hK2 (i + 1) _ _ (by omega) (by omega) (by simp [go_sem, go, gr, gn, gw, gm, gp, gb]; done)
  clear hK2 hbi
  refine c_pre (vs := [.ptr 0 0, fzL pl, .ptr 1 0, .int .i64 p]) (H' := [some (.box [zo, zr, zn]), some (.box [w, mo])]) (by simp [go_sem, go, gr, gn, gw, gm, gp, gb]; done) ?_
  repeat' first
 | (apply s_mov; (focus ((conv => lhs; whnf); done)))
 | (apply c_nil)
 | (apply c_seq)
 | (apply c_reg)
 | (apply c_block)
 | (with_reducible apply k_c)
  refine c_loop ?_
  refine loop_gc (σ := Nat) (fun i => [.ptr 0 0, fzL pl, .ptr 1 0, .int .i64 p, ownV 2 (iL (qmL g (zAll g).1 (zAll g).2 p pl i)), .int .i64 i]) (fun i => [some (.box [zo, zr, zn]), some (.box [w, mo])] ++ owH (iL (qmL g (zAll g).1 (zAll g).2 p pl i))) (fun i => i ≤ g.next.length) (fun i => g.next.length - i) ?_ _ 0 _ _ (by omega) (by omega) (by simp [go_sem, go, gr, gn, gw, gm, gp, qmL, ownV, owH, iL]; done)
  intro i hi K2 hK2
  have hsi := qmL_succ g (zAll g).1 (zAll g).2 p pl i
  have hsl := qmL_len g (zAll g).1 (zAll g).2 p pl i
  have hsn : i = g.next.length → qmL g (zAll g).1 (zAll g).2 p pl i = qmL g (zAll g).1 (zAll g).2 p pl g.next.length := fun e => by rw [e]
  have hwi := hwa i
  have hmi := hma i
  generalize qmL g (zAll g).1 (zAll g).2 p pl i = l at *
  have hap : ∀ call v, evE call ([some (.box [zo, zr, zn]), some (.box [w, mo])] ++ owH (iL l)) (.app false 1 8) [ownV 2 (iL l), .rd 1 1 [v]] = _ := fun call v => e_app_own rfl (by rw [iL_len]; omega)
  repeat' first
 | (apply s_mov; (focus ((conv => lhs; whnf); done)))
 | (apply s_gT; exact rfl)
 | (apply s_gF; exact rfl)
 | (apply c_nil)
 | (apply s_pickT; exact rfl; (focus ((conv => lhs; whnf); done)))
 | (apply s_pickF; exact rfl; (focus ((conv => lhs; whnf); done)))
 | ((first | apply s_lss | apply s_leq | apply s_gtr | apply s_geq | apply s_eql | apply s_neq); exact rfl; all_goals (intro _; try (exfalso; omega)))
 | ((first | apply s_add | apply s_sub); exact rfl; omega)
 | (apply s_en; (focus (repeat (first | apply opds_nil | (apply opds_cons; (first | (focus ((conv => lhs; whnf); done)) | exact rfl))))); exact e_bld1 rfl rfl rfl rfl)
 | (apply s_en; (focus (repeat (first | apply opds_nil | (apply opds_cons; (first | (focus ((conv => lhs; whnf); done)) | exact rfl))))); exact hap _ _)
 | (apply s_len; (focus ((conv => lhs; whnf); done)); (first | assumption | (apply IsLL.at; assumption; omega)))
 | (apply s_idx; (focus ((conv => lhs; whnf); done)); exact rfl; (first | assumption | (apply IsLL.at; assumption; omega)); omega)
 | (apply s_ldI; exact rfl; omega)
 | (apply s_pd; (focus ((conv => lhs; whnf); done)))
 | (apply c_seq)
 | (apply c_reg)
 | (apply c_block)
 | (apply c_exitH)
 | (apply c_skip)
 | (apply c_condT; exact rfl)
 | (apply c_condF; exact rfl)
 | (with_reducible apply k_c)
  · rename_i q0 q1 q2
    have hlt : i < g.next.length := by omega
    have q3 : winA (zAll g).1 i = p := by rw [← hwi hlt]; exact q2
    refine hK2 (i + 1) _ _ (by omega) (by omega) ?_
    rw [hsi, qmA, if_pos ⟨q1, q3⟩, ← hmi hlt (q1.trans q3.symm)]
    rcases l with _ | ⟨c, cs⟩ <;> exact (by simp [go_sem, go, gr, gn, gw, gm, gp, ownV, owH, owK, iL]; done)
  · rename_i q0 q1 q2
    have hlt : i < g.next.length := by omega
    refine hK2 (i + 1) _ _ (by omega) (by omega) ?_
    rw [hsi, qmA, if_neg (fun h => q2 (by rw [hwi hlt]; exact h.2))]
    rcases l with _ | ⟨c, cs⟩ <;> exact (by simp [go_sem, go, gr, gn, gw, gm, gp, ownV, owH, owK, iL]; done)
  · rename_i q0 q1
    refine hK2 (i + 1) _ _ (by omega) (by omega) ?_
    rw [hsi, qmA, if_neg (fun h => q1 h.1)]
    rcases l with _ | ⟨c, cs⟩ <;> exact (by simp [go_sem, go, gr, gn, gw, gm, gp, ownV, owH, owK, iL]; done)
  refine c_fzo rfl rfl ?_
  have hq := hsn (by omega)
  have hc35 := h35' p hp2
  have hcin := fun (v : Nat) (hv : v < g.next.length) => qm_beats hg hp01 hpl hv
  rw [← hq] at hc35 hcin
  clear hap hK2 hsi hsn hwi hmi
  have hlz := isL_fz l
  have gl := hlz.free
  have hcz := isL_fz (beatsL g p l)
  have hcl := beatsL_len g p l
  generalize beatsL g p l = c at *
  have gc := hcz.free
  have hc30 := fun v => h30 c v (by omega)
  refine c_pre (vs := [.ptr 0 0, fzL pl, .ptr 1 0, .int .i64 p, fzL l]) (H' := [some (.box [zo, zr, zn]), some (.box [w, mo])]) (by simp [go_sem, go, gr, gn, gw, gm, gp, gl]; done) ?_
  repeat' first
 | (apply s_mov; (focus ((conv => lhs; whnf); done)))
 | (apply c_nil)
 | ((first | apply s_lss | apply s_leq | apply s_gtr | apply s_geq | apply s_eql | apply s_neq); exact rfl; all_goals (intro _; try (exfalso; omega)))
 | (apply s_cn; (focus (repeat (first | apply opds_nil | (apply opds_cons; (first | (focus ((conv => lhs; whnf); done)) | exact rfl))))); exact hc35 _)
 | (apply s_pd; (focus ((conv => lhs; whnf); done)))
 | (apply c_seq)
 | (apply c_reg)
 | (apply c_block)
 | (apply c_skip)
 | (apply c_condF; exact rfl)
 | (with_reducible apply k_c)
  refine c_loop ?_
  refine loop_gc (σ := Nat) (fun i => [.ptr 0 0, fzL pl, .ptr 1 0, .int .i64 p, fzL c, .int .i64 i]) (fun i => [some (.box [zo, zr, zn]), some (.box [w, mo])]) (fun i => i ≤ g.next.length) (fun i => g.next.length - i) ?_ _ 0 _ _ (by omega) (by omega) (by simp [go_sem, go, gr, gn, gw, gm, gp, gc]; done)
  clear hi hq hsl
  intro v hv K3 hK3
  have hwv := hwa v
  have hcv := hcin v
  repeat' first
 | (apply s_mov; (focus ((conv => lhs; whnf); done)))
 | (apply c_nil)
 | ((first | apply s_lss | apply s_leq | apply s_gtr | apply s_geq | apply s_eql | apply s_neq); exact rfl; all_goals (intro _; try (exfalso; omega)))
 | ((first | apply s_add | apply s_sub); exact rfl; omega)
 | (apply isE; refine s_cB (by (focus (repeat (first | apply opds_nil | (apply opds_cons; (first | (focus ((conv => lhs; whnf); done)) | exact rfl)))))) (hc30 _ _) (fun _ => ?_) (fun _ => ?_))
 | (apply s_len; (focus ((conv => lhs; whnf); done)); (first | assumption | (apply IsLL.at; assumption; omega)))
 | (apply s_idx; (focus ((conv => lhs; whnf); done)); exact rfl; (first | assumption | (apply IsLL.at; assumption; omega)); omega)
 | (apply s_ldI; exact rfl; omega)
 | (apply s_pd; (focus ((conv => lhs; whnf); done)))
 | (apply c_seq)
 | (apply c_reg)
 | (apply c_block)
 | (apply c_exitH)
 | (apply c_skip)
 | (apply c_ret)
 | (apply c_condT; exact rfl)
 | (apply c_condF; exact rfl)
 | (with_reducible apply k_c)
  all_goals first
    | (refine hK3 (v + 1) _ _ (by omega) (by omega) (by simp [go_sem, go, gr, gn, gw, gm, gp, gc]; done))
    | (exfalso
       have hlt : v < g.next.length := by omega
       rw [hwv hlt, ← hcv hlt] at *
       contradiction)
    | skip
  refine c_pre (vs := [.ptr 0 0, fzL pl, .ptr 1 0, .int .i64 p]) (H' := [some (.box [zo, zr, zn]), some (.box [w, mo])]) (by simp [go_sem, go, gr, gn, gw, gm, gp, gc]; done) ?_
  repeat' first
 | (apply s_mov; (focus ((conv => lhs; whnf); done)))
 | (apply c_nil)
 | ((first | apply s_add | apply s_sub); exact rfl; omega)
 | (apply c_reg)
  refine hK (p + 1) _ _ (by omega) (by omega) (by simp [go_sem, go, gr, gn, gw, gm, gp]; done)
end Go.AM.Pa
