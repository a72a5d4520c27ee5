/- A part of the proof: Q25. -/
import Derived.Test.YtmeajfgjbebkiaaQ24
import Derived.Test.YtmeajfgjbebkiaaQ14
set_option linter.unusedSectionVars false
set_option linter.unusedVariables false
set_option linter.unusedSimpArgs false
namespace Go.AM.Pa
attribute [local go_sem] gc subHeap reach_skip ren_free reach_new reach_newp reach_end rangeL roots boxCells nodupB posOf renL AV.ren pickO renH renO looks look bindEnv envOf reach_int reach_bool reach_nilS reach_rd putRow cells_sl cells_int cells_bool cells_nilS cells_rd cells_agg reach_agg reach_tup idFreeL idf_sl idf_ptr idf_int idf_bool idf_nilS idf_rd
/-- who wins a place, by the set of places that player 0 wins -/
def winA (z : List Bool) (v : Nat) : Int := if getB z v then 0 else 1
def movA (g : Gm) (z : List Bool) (mv : List Int) (v : Nat) : Int := if getI g.owner v = winA z v then getI mv v else -1
def winL (z : List Bool) (i : Nat) : List Int := (List.range i).map (winA z)
def movL (g : Gm) (z : List Bool) (mv : List Int) (i : Nat) : List Int := (List.range i).map (movA g z mv)
theorem winL_succ (z : List Bool) (i : Nat) : iL (winL z (i + 1)) = iL (winL z i) ++ [.int .i64 (winA z i)] := by simp [winL, iL, List.range_succ]
theorem movL_succ (g : Gm) (z : List Bool) (mv : List Int) (i : Nat) : iL (movL g z mv (i + 1)) = iL (movL g z mv i) ++ [.int .i64 (movA g z mv i)] := by simp [movL, iL, List.range_succ]
theorem winL_len (z : List Bool) (i : Nat) : (iL (winL z i)).length = i := by simp [winL, iL]
theorem movL_len (g : Gm) (z : List Bool) (mv : List Int) (i : Nat) : (iL (movL g z mv i)).length = i := by simp [movL, iL]
theorem win_t {z : List Bool} {v : Nat} (h : getB z v = true) : winA z v = 0 := by unfold winA; rw [h]; rfl
theorem win_f {z : List Bool} {v : Nat} (h : getB z v = false) : winA z v = 1 := by unfold winA; rw [h]; rfl
theorem mov_eq {g : Gm} {z : List Bool} {mv : List Int} {v : Nat} {w : Int} (hw : winA z v = w) (h : getI g.owner v = w) : movA g z mv v = getI mv v := by unfold movA; rw [if_pos (h.trans hw.symm)]
theorem mov_ne {g : Gm} {z : List Bool} {mv : List Int} {v : Nat} {w : Int} (hw : winA z v = w) (h : ¬ getI g.owner v = w) : movA g z mv v = -1 := by unfold movA; rw [if_neg (by rw [hw]; exact h)]
/-- the whole game solved -/
def zAll (g : Gm) : List Bool × List Int := zsol g 25 (fl g.next.length) (List.replicate g.next.length (-1))
def hp55 (b0 b1 b2 b3 b4 : Option HO) (g : Gm) (z : List Bool) (mv : List Int) (i : Nat) : Heap := match i with
  | 0 => [b0, b1, b2, b3, b4, some (.box [.nilS, .nilS])]
  | j + 1 => [b0, b1, b2, b3, b4, some (.box [.sl 6 1 0 (j + 1), .sl 7 1 0 (j + 1)]), some (.data (iL (winL z (j + 1)))), some (.data (iL (movL g z mv (j + 1))))]
theorem mutG2 {call : CallF} {f : Nat} {R : Heap} {o0 o1 : Option HO} {xo xr xn w : AV} {n : Nat} {mv mv' : List Int} {rest : List AV} (fo : xo.idFree = true) (fr : xr.idFree = true) (fn : xn.idFree = true) (hr : idFreeL rest = true)
    (hc : call f (.ptr 0 0 :: rest) [some (.box [xo, xr, xn, .sl 1 1 0 n]), some (.data (iL mv))] = some (w, [some (.box [xo, xr, xn, .sl 1 1 0 n]), some (.data (iL mv'))])) (hw : w.idFree = true) :
    callMut call f (.ptr 2 0 :: rest) (o0 :: o1 :: some (.box [xo, xr, xn, .sl 3 1 0 n]) :: some (.data (iL mv)) :: R) = some (w, o0 :: o1 :: some (.box [xo, xr, xn, .sl 3 1 0 n]) :: some (.data (iL mv')) :: R) := by
  have e1 : reach (o0 :: o1 :: some (.box [xo, xr, xn, .sl 3 1 0 n]) :: some (.data (iL mv)) :: R) 400 [] (.ptr 2 0 :: rest) = [2, 3] := by
    simp [reach_newp, reach_new, reach_skip, boxCells, fo, fr, fn, reach_free _ _ _ _ hr]
  have e2 : subHeap [2, 3] (.ptr 2 0 :: rest) (o0 :: o1 :: some (.box [xo, xr, xn, .sl 3 1 0 n]) :: some (.data (iL mv)) :: R) = some (.ptr 0 0 :: rest, [some (.box [xo, xr, xn, .sl 1 1 0 n]), some (.data (iL mv))]) := by
    simp [subHeap, nodupB, renL, AV.ren, posOf, pickO, renH, renO, ren_free, fo, fr, fn, renL_free _ hr]
  simp only [callMut, e1, e2, Option.bind_some, hc]
  simp [ren_free, hw, AV.ren, renH, renO, renL, fo, fr, fn, backOf, writeBack]
theorem ct_le (b : List Bool) : ct b ≤ b.length := List.count_le_length
theorem area_fl {g : Gm} (hg : Good g) : Area g (fl g.next.length) := by
  have h24 := hg.1.2
  refine ⟨fl_len h24, fun i hi => by rw [fl_getB h24] at hi; simpa using hi, fun i hi => ?_⟩
  have hlt : i < g.next.length := by rw [fl_getB h24] at hi; simpa using hi
  have hne := (hg.2.2.2 i hlt).2.2.1
  obtain ⟨u, r, e⟩ := List.exists_cons_of_ne_nil hne
  have hu : u ∈ getLL g.next i := by rw [e]; exact List.mem_cons_self
  have := row_mem hg rfl hlt u hu
  refine ⟨u, hu, ?_⟩
  rw [getB_nonneg, fl_getB h24]
  simp; omega
set_option maxHeartbeats 4000000
/-- outcome -/
theorem e55 {x : AV} {a : Gm} (hx : IsG x a) (hg : Good a) (hrow : ∀ i : Int, (getLL a.next i).length < 50) {m : Nat} (hm : 190 ≤ m) :
    evF tab it m 55 [x] [] = some (.agg [.sl 0 1 0 a.next.length, .sl 1 1 0 a.next.length], [some (.data (iL (winL (zAll a).1 a.next.length))), some (.data (iL (movL a (zAll a).1 (zAll a).2 a.next.length)))]) := by
  have hg1 := hg.1; have hg2 := hg.2.1; have hg3 := hg.2.2.1
  · obtain ⟨m, rfl⟩ : ∃ j, m = j + 1 := ⟨m - 1, by omega⟩
    obtain ⟨xo, xr, xn, rfl, ho, hr, hn⟩ := hx
    have fo := ho.free; have fr := hr.free; have fn := hn.free
    have hz24 := z24_len
    have har := area_fl hg
    have w64 := f64 ho hr hn hg rfl hrow 25 _ (List.replicate a.next.length (-1)) har (by simp) (by have := ct_le (fl a.next.length); rw [har.len] at this; omega) m (by omega)
    obtain ⟨zl, zm, -⟩ := zsol_sub hg (n := a.next.length) 25 _ (List.replicate a.next.length (-1)) har (by simp)
    change (zAll a).1.length = 24 at zl
    change (zAll a).2.length = a.next.length at zm
    change evF tab it m 64 _ _ = some (.agg (bL (zAll a).1), [_, some (.data (iL (zAll a).2))]) at w64
    have hfl := har.len
    generalize zAll a = Z at *
    have ob : ∀ call, evE call [] (.box false) [.agg [xo, xr, xn]] = some (.ptr 0 0, [some (.box [xo, xr, xn])]) := fun call => by simp [evE, AV.cells, oneL, ho.one, hr.one, hn.one, mkHO]
    have al2 : ∀ call H, evE call H (.alloc false [.nilS, .nilS]) [] = some (.ptr H.length 0, H ++ [some (.box [.nilS, .nilS])]) := fun call H => rfl
    have h1 := c42 (o0 := some (.box [xo, xr, xn])) (o1 := some (.box [.nilS, .nilS])) ho hr hn hg1.2 (m := m) (by omega)
    have h2 := c45 (o0 := some (.box [xo, xr, xn])) (o1 := some (.box [.nilS, .nilS])) (mv := List.replicate a.next.length (-1)) ho hr hn (by simp) hg1.2 (m := m) (by omega)
    have h3 : ∀ frz R, evE (evF tab it m) (some (.box [xo, xr, xn]) :: some (.box [.nilS, .nilS]) :: some (.box [xo, xr, xn, .sl 3 1 0 a.next.length]) :: some (.data (iL (List.replicate a.next.length (-1)))) :: R) (.call false frz 64) [.ptr 2 0, .agg (bL (fl a.next.length))] = some (.agg (bL Z.1), some (.box [xo, xr, xn]) :: some (.box [.nilS, .nilS]) :: some (.box [xo, xr, xn, .sl 3 1 0 a.next.length]) :: some (.data (iL Z.2)) :: R) := fun frz R =>
      mutG2 fo fr fn (by simp [idFreeL, aggB_free]) w64 (aggB_free _)
    refine f_enter rfl rfl ?_
    repeat' first
 | (apply s_mov; (focus ((conv => lhs; whnf); done)))
 | (apply c_nil)
 | (apply s_en; (focus (repeat (first | apply opds_nil | (apply opds_cons; (first | (focus ((conv => lhs; whnf); done)) | exact rfl))))); exact ob _)
 | (apply s_en; (focus (repeat (first | apply opds_nil | (apply opds_cons; (first | (focus ((conv => lhs; whnf); done)) | exact rfl))))); exact al2 _ _)
 | (apply s_cn; (focus (repeat (first | apply opds_nil | (apply opds_cons; (first | (focus ((conv => lhs; whnf); done)) | exact rfl))))); exact h1)
 | (apply s_cn; (focus (repeat (first | apply opds_nil | (apply opds_cons; (first | (focus ((conv => lhs; whnf); done)) | exact rfl))))); exact h2)
 | (apply s_en; (focus (repeat (first | apply opds_nil | (apply opds_cons; (first | (focus ((conv => lhs; whnf); done)) | exact rfl))))); exact h3 _ _)
 | (apply s_en; (focus (repeat (first | apply opds_nil | (apply opds_cons; (first | (focus ((conv => lhs; whnf); done)) | exact rfl))))); exact e_alR)
 | (apply s_st; (focus (repeat (first | apply opds_nil | (apply opds_cons; (first | (focus ((conv => lhs; whnf); done)) | exact rfl))))); exact e_stR rfl zl hz24)
 | (apply s_lenLL; (focus ((conv => lhs; whnf); done)); assumption)
 | (apply s_pd; (focus ((conv => lhs; whnf); done)))
 | (apply c_seq)
 | (apply c_reg)
 | (apply c_block)
 | (with_reducible apply k_c)
    refine c_loop ?_
    refine loop_gc (σ := Nat) (fun i => [.ptr 0 0, .ptr 1 0, .ptr 2 0, .ptr 4 0, .ptr 5 0, .int .i64 a.next.length, .int .i64 i]) (fun i => hp55 (some (.box [xo, xr, xn])) (some (.box [.nilS, .nilS])) (some (.box [xo, xr, xn, .sl 3 1 0 a.next.length])) (some (.data (iL Z.2))) (some (.data (bL Z.1))) a Z.1 Z.2 i) (fun i => i ≤ a.next.length) (fun i => a.next.length - i) ?_ _ 0 _ _ (by omega) (by omega) (by simp [go_sem, fo, fr, fn, hp55]; done)
    intro i hi K hK
    rcases i with _ | j
    · have ew := winL_succ Z.1 0
      have em := movL_succ a Z.1 Z.2 0
      have e0 : iL (winL Z.1 0) = [] := rfl
      have e1 : iL (movL a Z.1 Z.2 0) = [] := rfl
      rw [e0] at ew
      rw [e1] at em
      simp only [List.nil_append, Nat.zero_add] at ew em
      simp only [hp55]
      repeat' first
 | (apply s_mov; (focus ((conv => lhs; whnf); done)))
 | (apply c_nil)
 | ((first | apply s_lss | apply s_leq | apply s_gtr | apply s_geq | apply s_eql | apply s_neq); exact rfl; all_goals (intro _; try (exfalso; omega)))
 | ((first | apply s_add | apply s_sub); exact rfl; omega)
 | (apply s_pn; (focus (repeat (first | apply opds_nil | (apply opds_cons; (first | (focus ((conv => lhs; whnf); done)) | exact rfl))))); exact p_ldS rfl (by omega))
 | (apply s_en; (focus (repeat (first | apply opds_nil | (apply opds_cons; (first | (focus ((conv => lhs; whnf); done)) | exact rfl))))); exact e_bld1 rfl rfl rfl rfl)
 | (apply s_en; (focus (repeat (first | apply opds_nil | (apply opds_cons; (first | (focus ((conv => lhs; whnf); done)) | exact rfl))))); exact e_app_nil rfl (by omega) (by decide))
 | (apply isE; apply s_st; (focus (repeat (first | apply opds_nil | (apply opds_cons; (first | (focus ((conv => lhs; whnf); done)) | exact rfl))))); (focus ((conv => lhs; whnf); done)))
 | (apply s_idx; (focus ((conv => lhs; whnf); done)); exact rfl; (first | assumption | (apply IsLL.at; assumption; omega)); omega)
 | (apply s_idxP; exact rfl; exact rfl; omega)
 | (apply s_ldB; exact rfl; exact rfl; omega; all_goals intro _)
 | (apply s_idxS; exact rfl; exact rfl; omega)
 | (apply s_ldI; exact rfl; omega)
 | (apply s_pd; (focus ((conv => lhs; whnf); done)))
 | (apply c_seq)
 | (apply c_reg)
 | (apply c_block)
 | (apply c_skip)
 | (apply c_condT; exact rfl)
 | (apply c_condF; exact rfl)
 | (with_reducible apply k_c)
      · rename_i h1 h2
        refine hK 1 _ _ (by omega) (by omega) ?_
        rw [win_t h1] at ew
        rw [mov_eq (win_t h1) h2] at em
        simp only [hp55, Nat.zero_add, ew, em]
        exact (by simp [go_sem, fo, fr, fn]; done)
      · rename_i h1 h2
        refine hK 1 _ _ (by omega) (by omega) ?_
        rw [win_t h1] at ew
        rw [mov_ne (win_t h1) h2] at em
        simp only [hp55, Nat.zero_add, ew, em]
        exact (by simp [go_sem, fo, fr, fn]; done)
      · rename_i h1 h2
        refine hK 1 _ _ (by omega) (by omega) ?_
        rw [win_f h1] at ew
        rw [mov_eq (win_f h1) h2] at em
        simp only [hp55, Nat.zero_add, ew, em]
        exact (by simp [go_sem, fo, fr, fn]; done)
      · rename_i h1 h2
        refine hK 1 _ _ (by omega) (by omega) ?_
        rw [win_f h1] at ew
        rw [mov_ne (win_f h1) h2] at em
        simp only [hp55, Nat.zero_add, ew, em]
        exact (by simp [go_sem, fo, fr, fn]; done)
    · have hlw := winL_len Z.1 (j + 1)
      have hlm := movL_len a Z.1 Z.2 (j + 1)
      have ew := winL_succ Z.1 (j + 1)
      have em := movL_succ a Z.1 Z.2 (j + 1)
      simp only [hp55]
      repeat' first
 | (apply s_mov; (focus ((conv => lhs; whnf); done)))
 | (apply c_nil)
 | ((first | apply s_lss | apply s_leq | apply s_gtr | apply s_geq | apply s_eql | apply s_neq); exact rfl; all_goals (intro _; try (exfalso; omega)))
 | ((first | apply s_add | apply s_sub); exact rfl; omega)
 | (apply s_pn; (focus (repeat (first | apply opds_nil | (apply opds_cons; (first | (focus ((conv => lhs; whnf); done)) | exact rfl))))); exact p_ldS rfl (by omega))
 | (apply s_en; (focus (repeat (first | apply opds_nil | (apply opds_cons; (first | (focus ((conv => lhs; whnf); done)) | exact rfl))))); exact e_bld1 rfl rfl rfl rfl)
 | (apply s_en; (focus (repeat (first | apply opds_nil | (apply opds_cons; (first | (focus ((conv => lhs; whnf); done)) | exact rfl))))); exact e_app_sl rfl (by assumption) (by omega) (by unfold most; omega))
 | (apply isE; apply s_st; (focus (repeat (first | apply opds_nil | (apply opds_cons; (first | (focus ((conv => lhs; whnf); done)) | exact rfl))))); (focus ((conv => lhs; whnf); done)))
 | (apply s_idx; (focus ((conv => lhs; whnf); done)); exact rfl; (first | assumption | (apply IsLL.at; assumption; omega)); omega)
 | (apply s_idxP; exact rfl; exact rfl; omega)
 | (apply s_ldB; exact rfl; exact rfl; omega; all_goals intro _)
 | (apply s_idxS; exact rfl; exact rfl; omega)
 | (apply s_ldI; exact rfl; omega)
 | (apply s_pd; (focus ((conv => lhs; whnf); done)))
 | (apply c_seq)
 | (apply c_reg)
 | (apply c_block)
 | (apply c_exitH)
 | (apply c_skip)
 | (apply c_condT; exact rfl)
 | (apply c_condF; exact rfl)
 | (with_reducible apply k_c)
      · rename_i h1 h2
        refine hK (j + 1 + 1) _ _ (by omega) (by omega) ?_
        rw [win_t h1] at ew
        rw [mov_eq (win_t h1) h2] at em
        simp only [hp55, ew, em]
        exact (by simp [go_sem, fo, fr, fn]; done)
      · rename_i h1 h2
        refine hK (j + 1 + 1) _ _ (by omega) (by omega) ?_
        rw [win_t h1] at ew
        rw [mov_ne (win_t h1) h2] at em
        simp only [hp55, ew, em]
        exact (by simp [go_sem, fo, fr, fn]; done)
      · rename_i h1 h2
        refine hK (j + 1 + 1) _ _ (by omega) (by omega) ?_
        rw [win_f h1] at ew
        rw [mov_eq (win_f h1) h2] at em
        simp only [hp55, ew, em]
        exact (by simp [go_sem, fo, fr, fn]; done)
      · rename_i h1 h2
        refine hK (j + 1 + 1) _ _ (by omega) (by omega) ?_
        rw [win_f h1] at ew
        rw [mov_ne (win_f h1) h2] at em
        simp only [hp55, ew, em]
        exact (by simp [go_sem, fo, fr, fn]; done)
      · have hn' : a.next.length = j + 1 := by omega
        have e1 : hp55 (some (.box [xo, xr, xn])) (some (.box [.nilS, .nilS])) (some (.box [xo, xr, xn, .sl 3 1 0 (j + 1)])) (some (.data (iL Z.2))) (some (.data (bL Z.1))) a Z.1 Z.2 0 = [] ∨ True := .inr trivial
        have fa : AV.idFree (.agg [xo, xr, xn]) = true := by simp [AV.idFree, idFreeL, fo, fr, fn]
        rw [hn']
        refine c_pre (vs := [.ptr 0 0, .ptr 1 0]) (H' := [some (.box [.nilS, .nilS]), some (.box [.sl 2 1 0 (j + 1), .sl 3 1 0 (j + 1)]), some (.data (iL (winL Z.1 (j + 1)))), some (.data (iL (movL a Z.1 Z.2 (j + 1))))]) (by simp [go_sem, fo, fr, fn]; done) ?_
        repeat' first
 | (apply c_nil)
 | (apply isE; apply s_st; (focus (repeat (first | apply opds_nil | (apply opds_cons; (first | (focus ((conv => lhs; whnf); done)) | exact rfl))))); (focus ((conv => lhs; whnf); done)))
 | (apply s_pd; (focus ((conv => lhs; whnf); done)))
 | (apply c_seq)
 | (apply c_reg)
 | (apply c_ret)
 | (with_reducible apply k_c)
        simp [finish, ress, resOf, ldc, getRow, Heap.cells?, HO.cells?, wholeOf, look, tupOf, bindEnv, putRow, cells_agg, idFreeL, AV.idFree, idf_sl, gc, subHeap, reach_agg, reach_new, reach_end, rangeL, roots, boxCells, nodupB, posOf, renL, AV.ren, pickO, renH, renO]
theorem c55 {x : AV} {a : Gm} (hx : IsG x a) (hg : Good a) (hrow : ∀ i : Int, (getLL a.next i).length < 50) {m : Nat} (hm : 190 ≤ m) (H : Heap) :
    callPure (evF tab it m) true 55 [x] H = some (.agg [fzL (winL (zAll a).1 a.next.length), fzL (movL a (zAll a).1 (zAll a).2 a.next.length)], H) := by
  refine callPure_frz (by simp [idFreeL, hx.free]) (by simp) (e55 hx hg hrow hm) ?_
  have hg1 := hg.1
  have l1 : (winL (zAll a).1 a.next.length).length = a.next.length := by simp [winL]
  have l2 : (movL a (zAll a).1 (zAll a).2 a.next.length).length = a.next.length := by simp [movL]
  have k1 := fzL_ne l1 (by omega)
  have k2 := fzL_ne l2 (by omega)
  rw [k1, k2]
  simp [frzV_agg, frzL_cons, frzL_nil, frzV_sl, idFreeL, idf_sl, Heap.data?, iL_len, l1, l2, List.take_of_length_le]
theorem callPure_two {call : CallF} {f : Nat} {args : List AV} {H : Heap} {n : Nat} {u v : List Int} (ha : idFreeL args = true) (hl : args.length < 40) (hc : call f args [] = some (.agg [.sl 0 1 0 n, .sl 1 1 0 n], [some (.data (iL u)), some (.data (iL v))])) :
    callPure call false f args H = some (.agg [.sl H.length 1 0 n, .sl (H.length + 1) 1 0 n], H ++ [some (.data (iL u)), some (.data (iL v))]) := by
  simp only [callPure, frzL_free H 40 args hl ha, hc, ha, Option.bind_some, Bool.true_or, if_true, Bool.false_eq_true, if_false]
  simp [shiftH, AV.ren, renL, idFreeL, idf_sl, renH, renO]
/-- Solve -/
theorem e29 {x : AV} {a : Gm} (hx : IsG x a) (ha : a.next.length < 50 ∧ ∀ l ∈ a.next, l.length < 50) {m : Nat} (hm : 192 ≤ m) :
    evF tab it m 29 [x] [] = some (if Good a then (.tup [.agg [.sl 0 1 0 a.next.length, .sl 1 1 0 a.next.length], .int .i64 0], [some (.data (iL (winL (zAll a).1 a.next.length))), some (.data (iL (movL a (zAll a).1 (zAll a).2 a.next.length)))]) else (.tup [.agg [.nilS, .nilS], .int .i64 2], [])) := by
  obtain ⟨m, rfl⟩ : ∃ j, m = j + 1 := ⟨m - 1, by omega⟩
  have hx' := hx
  obtain ⟨xo, xr, xn, rfl, ho, hr, hn⟩ := hx
  have fo := ho.free; have fr := hr.free; have fn := hn.free
  have ob : ∀ call, evE call [] (.box false) [.agg [xo, xr, xn]] = some (.ptr 0 0, [some (.box [xo, xr, xn])]) := fun call => by simp [evE, AV.cells, oneL, ho.one, hr.one, hn.one, mkHO]
  have al2 : ∀ call H, evE call H (.alloc false [.nilS, .nilS]) [] = some (.ptr H.length 0, H ++ [some (.box [.nilS, .nilS])]) := fun call H => rfl
  have h39 := fun H => c39 hx' ⟨by omega, fun l hl => by have := ha.2 l hl; omega⟩ (m := m) (by omega) H
  by_cases hg : Good a
  · have h55 := fun H => callPure_two (H := H) (args := [.agg [xo, xr, xn]]) (by simp [idFreeL, hx'.free]) (by simp) (e55 hx' hg (getLL_lt ha.2 (by omega)) (m := m) (by omega))
    rw [if_pos hg]
    have st2 : ∀ call H, H[1]? = some (some (.box [.nilS, .nilS])) → evE call H (.st 2) [.ptr 1 0, .agg [.sl 2 1 0 a.next.length, .sl 3 1 0 a.next.length]] = some (.undef, H.set 1 (some (.box [.sl 2 1 0 a.next.length, .sl 3 1 0 a.next.length]))) := fun call H h => by
      simp [evE, stAt, cells_agg, oneL, AV.one, h, putRow]
    refine f_enter rfl rfl ?_
    repeat' first
 | (apply s_mov; (focus ((conv => lhs; whnf); done)))
 | (apply c_nil)
 | (apply s_notT; exact rfl)
 | (apply s_notF; exact rfl)
 | (apply s_en; (focus (repeat (first | apply opds_nil | (apply opds_cons; (first | (focus ((conv => lhs; whnf); done)) | exact rfl))))); exact ob _)
 | (apply s_en; (focus (repeat (first | apply opds_nil | (apply opds_cons; (first | (focus ((conv => lhs; whnf); done)) | exact rfl))))); exact al2 _ _)
 | (apply isE; refine s_cB (by (focus (repeat (first | apply opds_nil | (apply opds_cons; (first | (focus ((conv => lhs; whnf); done)) | exact rfl)))))) (h39 _) (fun _ => ?_) (fun _ => ?_))
 | (apply s_cn; (focus (repeat (first | apply opds_nil | (apply opds_cons; (first | (focus ((conv => lhs; whnf); done)) | exact rfl))))); exact h55 _)
 | (apply s_st; (focus (repeat (first | apply opds_nil | (apply opds_cons; (first | (focus ((conv => lhs; whnf); done)) | exact rfl))))); exact st2 _ _ rfl)
 | (apply s_pd; (focus ((conv => lhs; whnf); done)))
 | (apply c_seq)
 | (apply c_reg)
 | (apply c_skip)
 | (apply c_ret)
 | (apply c_condT; exact rfl)
 | (apply c_condF; exact rfl)
 | (with_reducible apply k_c)
    any_goals contradiction
    all_goals simp [finish, ress, resOf, ldc, getRow, Heap.cells?, HO.cells?, wholeOf, look, tupOf, putRow, cells_agg, idFreeL, AV.idFree, idf_sl, gc, subHeap, reach_tup, reach_int, reach_agg, reach_new, reach_end, rangeL, roots, boxCells, nodupB, posOf, renL, AV.ren, pickO, renH, renO]
  · rw [if_neg hg]
    refine f_enter rfl rfl ?_
    repeat' first
 | (apply s_mov; (focus ((conv => lhs; whnf); done)))
 | (apply c_nil)
 | (apply s_notT; exact rfl)
 | (apply s_notF; exact rfl)
 | (apply s_en; (focus (repeat (first | apply opds_nil | (apply opds_cons; (first | (focus ((conv => lhs; whnf); done)) | exact rfl))))); exact ob _)
 | (apply s_en; (focus (repeat (first | apply opds_nil | (apply opds_cons; (first | (focus ((conv => lhs; whnf); done)) | exact rfl))))); exact al2 _ _)
 | (apply isE; refine s_cB (by (focus (repeat (first | apply opds_nil | (apply opds_cons; (first | (focus ((conv => lhs; whnf); done)) | exact rfl)))))) (h39 _) (fun _ => ?_) (fun _ => ?_))
 | (apply isE; apply s_st; (focus (repeat (first | apply opds_nil | (apply opds_cons; (first | (focus ((conv => lhs; whnf); done)) | exact rfl))))); (focus ((conv => lhs; whnf); done)))
 | (apply s_pd; (focus ((conv => lhs; whnf); done)))
 | (apply c_seq)
 | (apply c_reg)
 | (apply c_skip)
 | (apply c_ret)
 | (apply c_condT; exact rfl)
 | (apply c_condF; exact rfl)
 | (with_reducible apply k_c)
    any_goals contradiction
    all_goals simp [finish, ress, resOf, ldc, getRow, Heap.cells?, HO.cells?, wholeOf, look, tupOf, putRow, cells_agg, gc_free, idFreeL, AV.idFree]
theorem c29 {x : AV} {a : Gm} (hx : IsG x a) (ha : a.next.length < 50 ∧ ∀ l ∈ a.next, l.length < 50) {m : Nat} (hm : 192 ≤ m) (H : Heap) :
    callPure (evF tab it m) true 29 [x] H = some (if Good a then .tup [.agg [fzL (winL (zAll a).1 a.next.length), fzL (movL a (zAll a).1 (zAll a).2 a.next.length)], .int .i64 0] else .tup [.agg [.nilS, .nilS], .int .i64 2], H) := by
  have h := e29 hx ha hm
  by_cases hg : Good a
  · rw [if_pos hg] at h ⊢
    refine callPure_frz (by simp [idFreeL, hx.free]) (by simp) h ?_
    have hg1 := hg.1
    have l1 : (winL (zAll a).1 a.next.length).length = a.next.length := by simp [winL]
    have l2 : (movL a (zAll a).1 (zAll a).2 a.next.length).length = a.next.length := by simp [movL]
    have k1 := fzL_ne l1 (by omega)
    have k2 := fzL_ne l2 (by omega)
    rw [k1, k2]
    simp [frzV_tup, frzV_int, frzV_agg, frzL_cons, frzL_nil, frzV_sl, idFreeL, idf_sl, AV.idFree, Heap.data?, iL_len, l1, l2, List.take_of_length_le]
  · rw [if_neg hg] at h ⊢
    exact callPure_free (by simp [idFreeL, hx.free]) (by simp) h rfl
theorem c29o {x : AV} {a : Gm} (hx : IsG x a) (ha : a.next.length < 50 ∧ ∀ l ∈ a.next, l.length < 50) (hg : Good a) {m : Nat} (hm : 192 ≤ m) (H : Heap) :
    callPure (evF tab it m) false 29 [x] H = some (.tup [.agg [.sl H.length 1 0 a.next.length, .sl (H.length + 1) 1 0 a.next.length], .int .i64 0], H ++ [some (.data (iL (winL (zAll a).1 a.next.length))), some (.data (iL (movL a (zAll a).1 (zAll a).2 a.next.length)))]) := by
  have h := e29 hx ha hm
  rw [if_pos hg] at h
  simp only [callPure, frzL_free H 40 [x] (by simp) (by simp [idFreeL, hx.free]), h, idFreeL, hx.free, Option.bind_some, Bool.and_self, Bool.true_or, if_true, Bool.false_eq_true, if_false]
  simp [shiftH, AV.ren, renL, idFreeL, idf_sl, AV.idFree, renH, renO]
end Go.AM.Pa
