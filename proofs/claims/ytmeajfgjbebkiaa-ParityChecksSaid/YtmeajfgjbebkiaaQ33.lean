/- A part of the proof: Q33. -/
import Derived.Test.YtmeajfgjbebkiaaQ32
import Derived.Test.YtmeajfgjbebkiaaQ8b
set_option linter.unusedSectionVars false
set_option linter.unusedVariables false
set_option linter.unusedSimpArgs false
namespace Go.AM.Pa
attribute [local go_sem] gc subHeap reach_skip ren_free reach_new reach_newp reach_end rangeL roots boxCells nodupB posOf renL AV.ren pickO renH renO looks look bindEnv envOf reach_int reach_bool reach_nilS reach_rd putRow cells_sl cells_int cells_bool cells_nilS cells_rd cells_agg reach_agg reach_tup idFreeL idf_sl idf_ptr idf_int idf_bool idf_nilS idf_rd
/-! an own list that grows -/
def owK (l : List AV) : Heap := match l with
  | [] => []
  | _ :: _ => [none]
theorem e_app_own {call : CallF} {Pr : Heap} {l : List AV} {v : AV} {q id : Nat} (hi : id = Pr.length) (hl : l.length < 1000) :
    evE call (Pr ++ owH l) (.app false 1 q) [ownV id l, .rd 1 1 [v]] = some (.sl (id + (owK l).length) 1 0 (l.length + 1), Pr ++ owK l ++ [some (.data (l ++ [v]))]) := by
  subst hi
  rcases l with _ | ⟨a, r⟩
  · have : ¬ most < 1 := by unfold most; omega
    simp [evE, appOf, szOk, lenOf, rowOf, killRow, newRow, ownV, owH, owK, most]
  · have h2 : r.length + 1 + 1 ≤ most := by unfold most; simp at hl; omega
    have h3 : (a :: r).take (r.length + 1) = a :: r := List.take_of_length_le (by simp)
    simp [evE, appOf, szOk, lenOf, rowOf, killRow, newRow, ownV, owH, owK, h2, Heap.data?, h3]
theorem fz_nil : fzL [] = .nilS := by unfold fzL; rfl
theorem asc_len {l : List Int} {n : Nat} (h : Asc l n) : l.length ≤ n := by
  rcases Nat.lt_or_ge n l.length with hlt | hle
  · exfalso
    have key : ∀ i : Nat, i < l.length → (i : Int) ≤ getI l i ∧ getI l i < n := by
      intro i
      induction i with
      | zero =>
        intro hi
        have := h 0 hi
        unfold badAt at this
        simp only [Int.natCast_zero] at this ⊢
        omega
      | succ i ih =>
        intro hi
        have h1 := ih (by omega)
        have := h (i + 1) hi
        unfold badAt at this
        rw [show (((i + 1 : Nat) : Int) - 1) = (i : Int) by omega] at this
        omega
    have := key n hlt
    omega
  · exact hle
set_option maxHeartbeats 4000000
theorem f5 {x t : AV} {a : Gm} {set : List Int} (hx : IsG x a) (ht : IsL t set) (hset : set.length < 2 ^ 63) : ∃ m H', evF tab it m 5 [x, t] [] = some (.bool true, H') := by
  refine ⟨set.length + 401, [], ?_⟩
  obtain ⟨xo, xr, xn, rfl, ho, hr, hn⟩ := id hx
  have fo := ho.free; have fr := hr.free; have fn := hn.free; have ft := ht.free
  have ob : ∀ call, evE call [] (.box false) [.agg [xo, xr, xn]] = some (.ptr 0 0, [some (.box [xo, xr, xn])]) := fun call => by simp [evE, AV.cells, oneL, ho.one, hr.one, hn.one, mkHO]
  have h28 := fun H => c28 hx (hi := 10) (by omega) (m := set.length + 400) (by omega) H
  have hg := tame_good a (hi := 10) (by omega)
  obtain ⟨ha1, ha2⟩ := tame_rows a 10
  have hzo := isL_fz (tameG a 10).owner
  have hzr := isL_fz (tameG a 10).rank
  have hzn := isLL_fz (tameG a 10).next
  have hG := isG_fz (tameG a 10)
  unfold fzG at h28 hG
  generalize tameG a 10 = g at *
  have h29 := fun H => c29 hG ⟨ha1, ha2⟩ (m := set.length + 400) (by omega) H
  simp only [if_pos hg] at h29
  have hg1 := hg.1; have hg2 := hg.2.1; have hg3 := hg.2.2.1
  have h18 : ∀ (p : Int) (s : List Int), 0 ≤ p ∧ p ≤ 1 → Asc s g.next.length → ∀ H, callPure (evF tab it (set.length + 400)) true 18 [.agg [fzL g.owner, fzL g.rank, fzLL g.next], .int .i64 p, fzL s] H = some (.tup [fzL (attrL g p s), .int .i64 0], H) := fun p s hp hs H => by
    have := c18 (p := p) hG (isL_fz s) ⟨by omega, ha2⟩ (by have := asc_len hs; omega) (m := set.length + 400) (by omega) H
    rw [if_pos ⟨hg, hp, hs⟩] at this
    exact this
  have h20 : ∀ (s u : List Int), s = u → s.length < 100 → ∀ H, callPure (evF tab it (set.length + 400)) true 20 [fzL s, fzL u] H = some (.bool true, H) := fun s u e hs H => by
    have := c20 (isL_fz s) (isL_fz u) hs (m := set.length + 400) (by omega) H
    rw [decide_eq_true e] at this
    exact this
  have h30 : ∀ (s : List Int) (v : Int), s.length < 100 → ∀ H, callPure (evF tab it (set.length + 400)) true 30 [fzL s, .int .i64 v] H = some (.bool (decide (v ∈ s)), H) := fun s v hs H => c30 (isL_fz s) hs (by omega) H
  have h30s := fun (v : Int) H => c30L ht (v := v) hset (m := set.length + 400) (by omega) H
  have h23 := fun H => c23m (m := set.length + 400) (by omega) H
  have hw := isL_fz (winL (zAll g).1 g.next.length)
  have hwl : (winL (zAll g).1 g.next.length).length = g.next.length := by simp [winL]
  have hwa : ∀ j : Nat, j < g.next.length → getI (winL (zAll g).1 g.next.length) (j : Nat) = winA (zAll g).1 j := fun j hj => by rw [winL, getI_map hj]
  have hmo := isL_fz (movL g (zAll g).1 (zAll g).2 g.next.length)
  generalize fzL (movL g (zAll g).1 (zAll g).2 g.next.length) = mo at *
  generalize winL (zAll g).1 g.next.length = W at *
  generalize fzL W = w at *
  generalize fzL g.owner = zo at *
  generalize fzL g.rank = zr at *
  generalize fzLL g.next = zn at *
  have go := hzo.free; have gr := hzr.free; have gn := hzn.free; have gw := hw.free; have gm := hmo.free
  have al2 : ∀ call H, evE call H (.alloc false [.nilS, .nilS]) [] = some (.ptr H.length 0, H ++ [some (.box [.nilS, .nilS])]) := fun call H => rfl
  have al3 : ∀ call H, evE call H (.alloc false [.nilS, .nilS, .nilS]) [] = some (.ptr H.length 0, H ++ [some (.box [.nilS, .nilS, .nilS])]) := fun call H => rfl
  have stG : ∀ call H id, H[id]? = some (some (.box [.nilS, .nilS, .nilS])) → evE call H (.st 3) [.ptr id 0, .agg [zo, zr, zn]] = some (.undef, H.set id (some (.box [zo, zr, zn]))) := fun call H id h => e_st3 hzo.one hzr.one hzn.one h
  have st2 : ∀ call H id, H[id]? = some (some (.box [.nilS, .nilS])) → evE call H (.st 2) [.ptr id 0, .agg [w, mo]] = some (.undef, H.set id (some (.box [w, mo]))) := fun call H id h => by
    simp [evE, stAt, cells_agg, oneL, hw.one, hmo.one, h, putRow]
  have hrowl : ∀ v : Nat, (getLL g.next v).length < 50 := fun v => getLL_lt ha2 (by omega) _
  refine f_enter rfl rfl ?_
  generalize evF tab it (set.length + 400) = call at *
  repeat' first
 | (apply s_mov; (focus ((conv => lhs; whnf); done)))
 | (apply s_gT; exact rfl)
 | (apply c_nil)
 | (apply s_pickF; exact rfl; (focus ((conv => lhs; whnf); done)))
 | ((first | apply s_lss | apply s_leq | apply s_gtr | apply s_geq | apply s_eql | apply s_neq); exact rfl; all_goals (intro _; try (exfalso; omega)))
 | (apply s_en; (focus (repeat (first | apply opds_nil | (apply opds_cons; (first | (focus ((conv => lhs; whnf); done)) | exact rfl))))); exact ob _)
 | (apply s_en; (focus (repeat (first | apply opds_nil | (apply opds_cons; (first | (focus ((conv => lhs; whnf); done)) | exact rfl))))); exact al2 _ _)
 | (apply s_en; (focus (repeat (first | apply opds_nil | (apply opds_cons; (first | (focus ((conv => lhs; whnf); done)) | exact rfl))))); exact al3 _ _)
 | (apply s_cn; (focus (repeat (first | apply opds_nil | (apply opds_cons; (first | (focus ((conv => lhs; whnf); done)) | exact rfl))))); exact h28 _)
 | (apply s_st; (focus (repeat (first | apply opds_nil | (apply opds_cons; (first | (focus ((conv => lhs; whnf); done)) | exact rfl))))); exact stG _ _ _ rfl)
 | (apply s_cn; (focus (repeat (first | apply opds_nil | (apply opds_cons; (first | (focus ((conv => lhs; whnf); done)) | exact rfl))))); exact h29 _)
 | (apply s_st; (focus (repeat (first | apply opds_nil | (apply opds_cons; (first | (focus ((conv => lhs; whnf); done)) | exact rfl))))); exact st2 _ _ _ rfl)
 | (apply s_len; (focus ((conv => lhs; whnf); done)); (first | assumption | (apply IsLL.at; assumption; omega)))
 | (apply s_pd; (focus ((conv => lhs; whnf); done)))
 | (apply c_seq)
 | (apply c_reg)
 | (apply c_block)
 | (apply c_skip)
 | (apply c_condF; exact rfl)
 | (with_reducible apply k_c)
  refine c_loop ?_
  refine loop_gc (σ := Nat) (fun i => [t, .ptr 0 0, .ptr 1 0, ownV 2 (iL (fil i fun j => decide ((j : Int) ∈ set))), .int .i64 i]) (fun i => [some (.box [zo, zr, zn]), some (.box [w, mo])] ++ owH (iL (fil i fun j => decide ((j : Int) ∈ set)))) (fun i => i ≤ g.next.length) (fun i => g.next.length - i) ?_ _ 0 _ _ (by omega) (by omega) (by simp [go_sem, ft, go, gr, gn, gw, gm, fil, ownV, owH, iL]; done)
  intro i hi K hK
  have hsi := fil_succ i fun j => decide ((j : Int) ∈ set)
  have hsl := fil_len i fun j => decide ((j : Int) ∈ set)
  have hsn : i = g.next.length → fil i (fun j => decide ((j : Int) ∈ set)) = fil g.next.length fun j => decide ((j : Int) ∈ set) := fun e => by rw [e]
  generalize fil i (fun j => decide ((j : Int) ∈ set)) = l at *
  have hap : ∀ call v, evE call ([some (.box [zo, zr, zn]), some (.box [w, mo])] ++ owH (iL l)) (.app false 1 8) [ownV 2 (iL l), .rd 1 1 [v]] = _ := fun call v => e_app_own rfl (by rw [iL_len]; omega)
  repeat' first
 | (apply s_mov; (focus ((conv => lhs; whnf); done)))
 | (apply c_nil)
 | ((first | apply s_lss | apply s_leq | apply s_gtr | apply s_geq | apply s_eql | apply s_neq); exact rfl; all_goals (intro _; try (exfalso; omega)))
 | ((first | apply s_add | apply s_sub); exact rfl; omega)
 | (apply isE; refine s_cB (by (focus (repeat (first | apply opds_nil | (apply opds_cons; (first | (focus ((conv => lhs; whnf); done)) | exact rfl)))))) (h30s _ _) (fun _ => ?_) (fun _ => ?_))
 | (apply s_en; (focus (repeat (first | apply opds_nil | (apply opds_cons; (first | (focus ((conv => lhs; whnf); done)) | exact rfl))))); exact e_bld1 rfl rfl rfl rfl)
 | (apply s_en; (focus (repeat (first | apply opds_nil | (apply opds_cons; (first | (focus ((conv => lhs; whnf); done)) | exact rfl))))); exact hap _ _)
 | (apply s_len; (focus ((conv => lhs; whnf); done)); (first | assumption | (apply IsLL.at; assumption; omega)))
 | (apply s_pd; (focus ((conv => lhs; whnf); done)))
 | (apply c_seq)
 | (apply c_reg)
 | (apply c_block)
 | (apply c_exitH)
 | (apply c_skip)
 | (apply c_condT; exact rfl)
 | (apply c_condF; exact rfl)
 | (with_reducible apply k_c)
  · rename_i hin
    refine hK (i + 1) _ _ (by omega) (by omega) ?_
    rw [hsi, if_pos (decide_eq_true hin)]
    rcases l with _ | ⟨c, cs⟩ <;> exact (by simp [go_sem, ft, go, gr, gn, gw, gm, ownV, owH, owK, iL]; done)
  · rename_i hin
    refine hK (i + 1) _ _ (by omega) (by omega) ?_
    rw [hsi, if_neg (by simpa using hin)]
    rcases l with _ | ⟨c, cs⟩ <;> exact (by simp [go_sem, ft, go, gr, gn, gw, gm, ownV, owH, owK, iL]; done)
  refine c_fzo rfl rfl ?_
  have hss := hsn (by omega)
  have hsome : Asc l g.next.length := by rw [hss]; exact fil_asc _ _
  have hls := isL_fz l
  clear hap hK hsi hsn
  have fls := hls.free
  refine c_pre (vs := [.ptr 0 0, .ptr 1 0, fzL l]) (H' := [some (.box [zo, zr, zn]), some (.box [w, mo])]) (by simp [go_sem, ft, go, gr, gn, gw, gm, fls]; done) ?_
  repeat' first
 | (apply s_mov; (focus ((conv => lhs; whnf); done)))
 | (apply c_nil)
 | (apply c_seq)
 | (apply c_reg)
 | (apply c_block)
 | (with_reducible apply k_c)
  refine c_loop ?_
  refine loop_gc (σ := Nat) (fun p => [.ptr 0 0, .ptr 1 0, fzL l, .int .i64 p]) (fun _ => [some (.box [zo, zr, zn]), some (.box [w, mo])]) (fun p => p ≤ 2) (fun p => 2 - p) ?_ _ 0 _ _ (by omega) (by omega) (by simp [go_sem, ft, go, gr, gn, gw, gm, fls]; done)
  intro p hp K hK
  repeat' first
 | (apply s_mov; (focus ((conv => lhs; whnf); done)))
 | (apply c_nil)
 | ((first | apply s_lss | apply s_leq | apply s_gtr | apply s_geq | apply s_eql | apply s_neq); exact rfl; all_goals (intro _; try (exfalso; omega)))
 | (apply s_cn; (focus (repeat (first | apply opds_nil | (apply opds_cons; (first | (focus ((conv => lhs; whnf); done)) | exact rfl))))); exact h23 _)
 | (apply c_seq)
 | (apply c_reg)
 | (apply c_block)
 | (apply c_exitH)
 | (apply c_skip)
 | (apply c_ret)
 | (apply c_condT; exact rfl)
 | (apply c_condF; exact rfl)
 | (apply c_preF; (focus (repeat (first | apply looks_nil | (apply looks_cons; (focus ((conv => lhs; whnf); done)))))); (focus (simp [idFreeL, AV.idFree, *]; done)))
 | (with_reducible apply k_c)
  rotate_left
  · exact fin_t rfl rfl rfl
  have hp2 : (0 : Int) ≤ p ∧ (p : Int) ≤ 1 := by omega
  have hp01 : (p : Int) = 0 ∨ (p : Int) = 1 := by omega
  refine c_loop ?_
  refine loop_gc (σ := Nat) (fun j => [.ptr 0 0, .ptr 1 0, fzL l, .int .i64 p, ownV 2 (iL (fil j fun j => decide (winA (zAll g).1 j = (p : Int)))), .int .i64 j]) (fun j => [some (.box [zo, zr, zn]), some (.box [w, mo])] ++ owH (iL (fil j fun j => decide (winA (zAll g).1 j = (p : Int))))) (fun j => j ≤ g.next.length) (fun j => g.next.length - j) ?_ _ 0 _ _ (by omega) (by omega) (by simp [go_sem, ft, go, gr, gn, gw, gm, fls, fil, ownV, owH, iL]; done)
  intro j hj K2 hK2
  have hsi := fil_succ j fun j => decide (winA (zAll g).1 j = (p : Int))
  have hsl := fil_len j fun j => decide (winA (zAll g).1 j = (p : Int))
  have hsn : j = g.next.length → fil j (fun j => decide (winA (zAll g).1 j = (p : Int))) = fil g.next.length fun j => decide (winA (zAll g).1 j = (p : Int)) := fun e => by rw [e]
  have hwj := hwa j
  generalize fil j (fun j => decide (winA (zAll g).1 j = (p : Int))) = won at *
  have hap : ∀ call v, evE call ([some (.box [zo, zr, zn]), some (.box [w, mo])] ++ owH (iL won)) (.app false 1 8) [ownV 2 (iL won), .rd 1 1 [v]] = _ := fun call v => e_app_own rfl (by rw [iL_len]; omega)
  repeat' first
 | (apply s_mov; (focus ((conv => lhs; whnf); done)))
 | (apply c_nil)
 | ((first | apply s_lss | apply s_leq | apply s_gtr | apply s_geq | apply s_eql | apply s_neq); exact rfl; all_goals (intro _; try (exfalso; omega)))
 | ((first | apply s_add | apply s_sub); exact rfl; omega)
 | (apply s_en; (focus (repeat (first | apply opds_nil | (apply opds_cons; (first | (focus ((conv => lhs; whnf); done)) | exact rfl))))); exact e_bld1 rfl rfl rfl rfl)
 | (apply s_en; (focus (repeat (first | apply opds_nil | (apply opds_cons; (first | (focus ((conv => lhs; whnf); done)) | exact rfl))))); exact hap _ _)
 | (apply s_len; (focus ((conv => lhs; whnf); done)); (first | assumption | (apply IsLL.at; assumption; omega)))
 | (apply s_idx; (focus ((conv => lhs; whnf); done)); exact rfl; (first | assumption | (apply IsLL.at; assumption; omega)); omega)
 | (apply s_ldI; exact rfl; omega)
 | (apply s_pd; (focus ((conv => lhs; whnf); done)))
 | (apply c_seq)
 | (apply c_reg)
 | (apply c_block)
 | (apply c_exitH)
 | (apply c_skip)
 | (apply c_condT; exact rfl)
 | (apply c_condF; exact rfl)
 | (with_reducible apply k_c)
  · rename_i hlt hin
    refine hK2 (j + 1) _ _ (by omega) (by omega) ?_
    rw [hsi, if_pos (decide_eq_true (by rw [← hwj (by omega)]; exact hin))]
    rcases won with _ | ⟨c, cs⟩ <;> exact (by simp [go_sem, ft, go, gr, gn, gw, gm, fls, ownV, owH, owK, iL]; done)
  · rename_i hlt hin
    refine hK2 (j + 1) _ _ (by omega) (by omega) ?_
    rw [hsi, if_neg (by rw [← hwj (by omega)]; simpa using hin)]
    rcases won with _ | ⟨c, cs⟩ <;> exact (by simp [go_sem, ft, go, gr, gn, gw, gm, fls, ownV, owH, owK, iL]; done)
  refine c_fzo rfl rfl ?_
  have hww := hsn (by omega)
  have hwon : Asc won g.next.length := by rw [hww]; exact fil_asc _ _
  have hwonl := asc_len hwon
  have hwz := isL_fz won
  clear hap hK2 hsi hsn
  have fwz := hwz.free
  have e1 : attrL g p won = won := by rw [hww]; exact attrL_won hg hp01
  have hb := attrL_asc hg (p := p) hsome
  have hbl := asc_len hb
  have e2 := attrL_idem hg (p := p) hsome
  have e3 := fun (v : Int) => attrL_sup hg (p := p) hsome (x := v)
  have e4 := fun (v : Nat) => attrL_out hg (p := p) hsome (v := v)
  have a1 := h18 p won hp2 hwon
  have a2 := h18 p l hp2 hsome
  have a3 := h18 p (attrL g p l) hp2 hb
  rw [e1] at a1
  rw [e2] at a3
  generalize attrL g p l = b at *
  have fb := fzL_free b
  have c1 := h20 won won rfl (by omega)
  have c2 := h20 b b rfl (by omega)
  refine c_pre (vs := [.ptr 0 0, .ptr 1 0, fzL l, .int .i64 p, fzL won]) (H' := [some (.box [zo, zr, zn]), some (.box [w, mo])]) (by simp [go_sem, ft, go, gr, gn, gw, gm, fls, fwz]; done) ?_
  repeat' first
 | (apply s_mov; (focus ((conv => lhs; whnf); done)))
 | (apply s_gT; exact rfl)
 | (apply c_nil)
 | (apply s_pickF; exact rfl; (focus ((conv => lhs; whnf); done)))
 | (apply s_notT; exact rfl)
 | ((first | apply s_lss | apply s_leq | apply s_gtr | apply s_geq | apply s_eql | apply s_neq); exact rfl; all_goals (intro _; try (exfalso; omega)))
 | (apply s_cn; (focus (repeat (first | apply opds_nil | (apply opds_cons; (first | (focus ((conv => lhs; whnf); done)) | exact rfl))))); exact a1 _)
 | (apply s_cn; (focus (repeat (first | apply opds_nil | (apply opds_cons; (first | (focus ((conv => lhs; whnf); done)) | exact rfl))))); exact a2 _)
 | (apply s_cn; (focus (repeat (first | apply opds_nil | (apply opds_cons; (first | (focus ((conv => lhs; whnf); done)) | exact rfl))))); exact a3 _)
 | (apply s_cn; (focus (repeat (first | apply opds_nil | (apply opds_cons; (first | (focus ((conv => lhs; whnf); done)) | exact rfl))))); exact c1 _)
 | (apply s_cn; (focus (repeat (first | apply opds_nil | (apply opds_cons; (first | (focus ((conv => lhs; whnf); done)) | exact rfl))))); exact c2 _)
 | (apply s_pd; (focus ((conv => lhs; whnf); done)))
 | (apply c_seq)
 | (apply c_reg)
 | (apply c_block)
 | (apply c_skip)
 | (apply c_condF; exact rfl)
 | (with_reducible apply k_c)
  have hbz := isL_fz b
  have hlsl := asc_len hsome
  refine c_loop ?_
  refine loop_gc (σ := Nat) (fun k => [.ptr 0 0, .ptr 1 0, fzL l, .int .i64 p, fzL b, .int .i64 k]) (fun _ => [some (.box [zo, zr, zn]), some (.box [w, mo])]) (fun k => k ≤ l.length) (fun k => l.length - k) ?_ _ 0 _ _ (by omega) (by omega) (by simp [go_sem, go, gr, gn, gw, gm, fls, fb]; done)
  intro k hk K3 hK3
  have hbk := h30 b (getI l k) (by omega)
  repeat' first
 | (apply s_mov; (focus ((conv => lhs; whnf); done)))
 | (apply c_nil)
 | (apply s_notT; exact rfl)
 | (apply s_notF; exact rfl)
 | ((first | apply s_lss | apply s_leq | apply s_gtr | apply s_geq | apply s_eql | apply s_neq); exact rfl; all_goals (intro _; try (exfalso; omega)))
 | ((first | apply s_add | apply s_sub); exact rfl; omega)
 | (apply isE; refine s_cB (by (focus (repeat (first | apply opds_nil | (apply opds_cons; (first | (focus ((conv => lhs; whnf); done)) | exact rfl)))))) (hbk _) (fun _ => ?_) (fun _ => ?_))
 | (apply s_len; (focus ((conv => lhs; whnf); done)); (first | assumption | (apply IsLL.at; assumption; omega)))
 | (apply s_idx; (focus ((conv => lhs; whnf); done)); exact rfl; (first | assumption | (apply IsLL.at; assumption; omega)); omega)
 | (apply s_ldI; exact rfl; omega)
 | (apply c_seq)
 | (apply c_reg)
 | (apply c_block)
 | (apply c_exitH)
 | (apply c_skip)
 | (apply c_ret)
 | (apply c_condT; exact rfl)
 | (apply c_condF; exact rfl)
 | (with_reducible apply k_c)
  · refine hK3 (k + 1) _ _ (by omega) (by omega) (by simp [go_sem, go, gr, gn, gw, gm, fls, fb]; done)
  · rename_i hlt hnb
    refine absurd (e3 _ ?_) hnb
    have hlt' : k < l.length := by omega
    rw [getI_nat]
    simp [hlt']
  clear hK3 hbk
  refine c_pre (vs := [.ptr 0 0, .ptr 1 0, fzL l, .int .i64 p, fzL b]) (H' := [some (.box [zo, zr, zn]), some (.box [w, mo])]) (by simp [go_sem, go, gr, gn, gw, gm, fls, fb]; done) ?_
  repeat' first
 | (apply s_mov; (focus ((conv => lhs; whnf); done)))
 | (apply c_nil)
 | (apply c_seq)
 | (apply c_reg)
 | (apply c_block)
 | (with_reducible apply k_c)
  refine c_loop ?_
  refine loop_gc (σ := Nat) (fun v => [.ptr 0 0, .ptr 1 0, fzL l, .int .i64 p, fzL b, .int .i64 v]) (fun _ => [some (.box [zo, zr, zn]), some (.box [w, mo])]) (fun v => v ≤ g.next.length) (fun v => g.next.length - v) ?_ _ 0 _ _ (by omega) (by omega) (by simp [go_sem, go, gr, gn, gw, gm, fls, fb]; done)
  intro v hv K4 hK4
  have hbv := h30 b v (by omega)
  repeat' first
 | (apply s_mov; (focus ((conv => lhs; whnf); done)))
 | (apply c_nil)
 | ((first | apply s_lss | apply s_leq | apply s_gtr | apply s_geq | apply s_eql | apply s_neq); exact rfl; all_goals (intro _; try (exfalso; omega)))
 | (apply isE; refine s_cB (by (focus (repeat (first | apply opds_nil | (apply opds_cons; (first | (focus ((conv => lhs; whnf); done)) | exact rfl)))))) (hbv _) (fun _ => ?_) (fun _ => ?_))
 | (apply s_len; (focus ((conv => lhs; whnf); done)); (first | assumption | (apply IsLL.at; assumption; omega)))
 | (apply s_pd; (focus ((conv => lhs; whnf); done)))
 | (apply c_seq)
 | (apply c_reg)
 | (apply c_block)
 | (apply c_exitH)
 | (apply c_skip)
 | (apply c_condT; exact rfl)
 | (apply c_condF; exact rfl)
 | (with_reducible apply k_c)
  · refine c_pre (vs := [.ptr 0 0, .ptr 1 0, fzL l, .int .i64 p, fzL b, .int .i64 v]) (H' := [some (.box [zo, zr, zn]), some (.box [w, mo])]) (by simp [go_sem, go, gr, gn, gw, gm, fls, fb]; done) ?_
    repeat' first
 | (apply s_mov; (focus ((conv => lhs; whnf); done)))
 | (apply c_nil)
 | ((first | apply s_add | apply s_sub); exact rfl; omega)
 | (apply c_reg)
    refine hK4 (v + 1) _ _ (by omega) (by omega) (by simp [go_sem, go, gr, gn, gw, gm, fls, fb]; done)
  · rename_i hlt hnb
    have hvn : v < g.next.length := by omega
    obtain ⟨q1, u, q2, q3⟩ := e4 v hvn hnb
    have hrl := hrowl v
    have hrv := IsLL.at hzn (i := (v : Int)) (by omega)
    have hbk := fun (k : Nat) => h30 b (getI (getLL g.next v) k) (by omega)
    obtain ⟨ku, hku, hkue⟩ := List.getElem_of_mem q2
    have hmem : ∀ k : Nat, k < (getLL g.next v).length → getI (getLL g.next v) k ∈ getLL g.next v := fun k hk => by
      rw [getI_nat]; simp [hk]
    refine c_loop ?_
    refine loop_gc (σ := Nat × Bool) (fun s => [.ptr 0 0, .ptr 1 0, fzL l, .int .i64 p, fzL b, .int .i64 v, .bool s.2, .int .i64 s.1]) (fun _ => [some (.box [zo, zr, zn]), some (.box [w, mo])]) (fun s => s.1 ≤ (getLL g.next v).length ∧ (s.2 = false → ∀ k : Nat, k < s.1 → getI (getLL g.next v) k ∈ b)) (fun s => (getLL g.next v).length - s.1) ?_ _ (0, false) _ _ ⟨by simp, fun _ k hk => by simp at hk⟩ (by simp only; omega) (by simp [go_sem, go, gr, gn, gw, gm, fls, fb]; done)
    intro ⟨k, st⟩ ⟨hk, hst⟩ K5 hK5
    simp only at hk hst hK5
    have hbk := hbk k
    rcases st with _ | _
    · skip
      repeat' first
 | (apply s_mov; (focus ((conv => lhs; whnf); done)))
 | (apply s_gT; exact rfl)
 | (apply s_gF; exact rfl)
 | (apply c_nil)
 | (apply s_pickT; exact rfl; (focus ((conv => lhs; whnf); done)))
 | (apply s_pickF; exact rfl; (focus ((conv => lhs; whnf); done)))
 | (apply s_notT; exact rfl)
 | (apply s_notF; exact rfl)
 | ((first | apply s_lss | apply s_leq | apply s_gtr | apply s_geq | apply s_eql | apply s_neq); exact rfl; all_goals (intro _; try (exfalso; omega)))
 | ((first | apply s_add | apply s_sub); exact rfl; omega)
 | (apply isE; refine s_cB (by (focus (repeat (first | apply opds_nil | (apply opds_cons; (first | (focus ((conv => lhs; whnf); done)) | exact rfl)))))) (hbk _) (fun _ => ?_) (fun _ => ?_))
 | (apply s_len; (focus ((conv => lhs; whnf); done)); (first | assumption | (apply IsLL.at; assumption; omega)))
 | (apply s_idx; (focus ((conv => lhs; whnf); done)); exact rfl; (first | assumption | (apply IsLL.at; assumption; omega)); omega)
 | (apply s_idxLL; (focus ((conv => lhs; whnf); done)); exact rfl; assumption; omega)
 | (apply s_ldI; exact rfl; omega)
 | (apply s_ldLL; exact rfl; assumption; omega)
 | (apply s_pd; (focus ((conv => lhs; whnf); done)))
 | (apply c_seq)
 | (apply c_reg)
 | (apply c_block)
 | (apply c_exitH)
 | (apply c_skip)
 | (apply c_ret)
 | (apply c_condT; exact rfl)
 | (apply c_condF; exact rfl)
 | (with_reducible apply k_c)
      all_goals first
        | (exfalso; exact q1 (by assumption) _ (hmem k (by omega)) (by assumption))
        | (refine hK5 (k + 1, false) _ _ ⟨by simp only; omega, fun h0 k' hk' => ?_⟩ (by simp only; omega) (by simp [go_sem, go, gr, gn, gw, gm, fls, fb]; done)
           first
             | (cases h0; done)
             | (rcases (by omega : k' < k ∨ k' = k) with h | rfl
                · exact hst rfl k' h
                · assumption))
        | (refine hK5 (k + 1, true) _ _ ⟨by simp only; omega, fun h0 => by cases h0⟩ (by simp only; omega) (by simp [go_sem, go, gr, gn, gw, gm, fls, fb]; done))
        | skip
      clear hK5 hbk
      refine c_pre (vs := [.ptr 0 0, .ptr 1 0, fzL l, .int .i64 p, fzL b, .int .i64 v, .bool false]) (H' := [some (.box [zo, zr, zn]), some (.box [w, mo])]) (by simp [go_sem, go, gr, gn, gw, gm, fls, fb]; done) ?_
      repeat' first
 | (apply s_mov; (focus ((conv => lhs; whnf); done)))
 | (apply c_nil)
 | (apply s_notF; exact rfl)
 | (apply c_seq)
 | (apply c_reg)
 | (apply c_ret)
 | (apply c_condT; exact rfl)
 | (with_reducible apply k_c)
      exfalso
      have h9 := hst rfl ku (by omega)
      have h8 : getI (getLL g.next v) ku = u := by rw [getI_nat]; simp [hku, hkue]
      rw [h8] at h9
      exact q3 h9
    · skip
      repeat' first
 | (apply s_mov; (focus ((conv => lhs; whnf); done)))
 | (apply s_gT; exact rfl)
 | (apply s_gF; exact rfl)
 | (apply c_nil)
 | (apply s_pickT; exact rfl; (focus ((conv => lhs; whnf); done)))
 | (apply s_pickF; exact rfl; (focus ((conv => lhs; whnf); done)))
 | ((first | apply s_lss | apply s_leq | apply s_gtr | apply s_geq | apply s_eql | apply s_neq); exact rfl; all_goals (intro _; try (exfalso; omega)))
 | ((first | apply s_add | apply s_sub); exact rfl; omega)
 | (apply isE; refine s_cB (by (focus (repeat (first | apply opds_nil | (apply opds_cons; (first | (focus ((conv => lhs; whnf); done)) | exact rfl)))))) (hbk _) (fun _ => ?_) (fun _ => ?_))
 | (apply s_len; (focus ((conv => lhs; whnf); done)); (first | assumption | (apply IsLL.at; assumption; omega)))
 | (apply s_idx; (focus ((conv => lhs; whnf); done)); exact rfl; (first | assumption | (apply IsLL.at; assumption; omega)); omega)
 | (apply s_idxLL; (focus ((conv => lhs; whnf); done)); exact rfl; assumption; omega)
 | (apply s_ldI; exact rfl; omega)
 | (apply s_ldLL; exact rfl; assumption; omega)
 | (apply s_pd; (focus ((conv => lhs; whnf); done)))
 | (apply c_seq)
 | (apply c_reg)
 | (apply c_block)
 | (apply c_exitH)
 | (apply c_skip)
 | (apply c_ret)
 | (apply c_condT; exact rfl)
 | (apply c_condF; exact rfl)
 | (with_reducible apply k_c)
      all_goals first
        | (exfalso; exact q1 (by assumption) _ (hmem k (by omega)) (by assumption))
        | (refine hK5 (k + 1, true) _ _ ⟨by simp only; omega, fun h0 k' hk' => ?_⟩ (by simp only; omega) (by simp [go_sem, go, gr, gn, gw, gm, fls, fb]; done)
           first
             | (cases h0; done)
             | (rcases (by omega : k' < k ∨ k' = k) with h | rfl
                · exact hst rfl k' h
                · assumption))
        | (refine hK5 (k + 1, true) _ _ ⟨by simp only; omega, fun h0 => by cases h0⟩ (by simp only; omega) (by simp [go_sem, go, gr, gn, gw, gm, fls, fb]; done))
        | skip
      clear hK5 hbk
      refine c_pre (vs := [.ptr 0 0, .ptr 1 0, fzL l, .int .i64 p, fzL b, .int .i64 v, .bool true]) (H' := [some (.box [zo, zr, zn]), some (.box [w, mo])]) (by simp [go_sem, go, gr, gn, gw, gm, fls, fb]; done) ?_
      repeat' first
 | (apply s_mov; (focus ((conv => lhs; whnf); done)))
 | (apply c_nil)
 | (apply s_notT; exact rfl)
 | (apply c_seq)
 | (apply c_reg)
 | (apply c_skip)
 | (apply c_condF; exact rfl)
 | (with_reducible apply k_c)
      refine c_pre (vs := [.ptr 0 0, .ptr 1 0, fzL l, .int .i64 p, fzL b, .int .i64 v]) (H' := [some (.box [zo, zr, zn]), some (.box [w, mo])]) (by simp [go_sem, go, gr, gn, gw, gm, fls, fb]; done) ?_
      repeat' first
 | (apply s_mov; (focus ((conv => lhs; whnf); done)))
 | (apply c_nil)
 | ((first | apply s_add | apply s_sub); exact rfl; omega)
 | (apply c_reg)
      refine hK4 (v + 1) _ _ (by omega) (by omega) (by simp [go_sem, go, gr, gn, gw, gm, fls, fb]; done)
  · refine c_pre (vs := [.ptr 0 0, .ptr 1 0, fzL l, .int .i64 p]) (H' := [some (.box [zo, zr, zn]), some (.box [w, mo])]) (by simp [go_sem, go, gr, gn, gw, gm, fls, fb]; done) ?_
    repeat' first
 | (apply s_mov; (focus ((conv => lhs; whnf); done)))
 | (apply c_nil)
 | ((first | apply s_add | apply s_sub); exact rfl; omega)
 | (apply c_reg)
    refine hK (p + 1) _ _ (by omega) (by omega) (by simp [go_sem, go, gr, gn, gw, gm, fls, fb]; done)
end Go.AM.Pa
