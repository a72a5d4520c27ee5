/- A part of the proof: U62. -/
import Derived.Test.YtmegimhfoedcdaaU33b
import Derived.Test.YtmegimhfoedcdaaU49
import Derived.Test.YtmegimhfoedcdaaU56
set_option linter.unusedSectionVars false
set_option linter.unusedVariables false
set_option linter.unusedSimpArgs false
namespace Go.AM.Ch
attribute [local go_sem] gc subHeap reach_skip ren_free reach_new reach_newp reach_end rangeL roots boxCells nodupB posOf renL AV.ren pickO renH renO looks look bindEnv envOf reach_int reach_bool reach_nilS reach_rd putRow cells_sl cells_int cells_bool cells_nilS cells_rd cells_agg reach_agg reach_tup idFreeL idf_sl idf_ptr idf_int idf_bool idf_nilS idf_rd reach_fn reach_mp cells_fn cells_ptr cells_mp idf_mp idf_fn idf_agg idf_tup
set_option maxHeartbeats 8000000
theorem c44 {x : AV} {b : List (List Int)} {w : Nat} (hx : IsLL x b) (hb : b.length < 9223372036854775808) (hw : 1 ≤ w ∧ w ≤ 10) {m : Nat} (hm : 100 ≤ m) (H : Heap) :
    callPure (evF tab it m) true 44 [x, .int .i64 (w : Int)] H = some (fzLL (tameL b w), H) :=
  callPure_frz (by simp [idFreeL, AV.idFree, hx.free]) (by simp) (f44 hx hb hw hm) (hb_frz (tameL_rows b w) (grN_le b hw.1).1 (by have := (grN_le b hw.1).2; omega))
theorem c20o {x y : AV} {b : List (List Int)} {s : List Int} {q : Nat} (hx : IsLL x b) (hy : IsL y s) (hB : IsB b) (hs : InR b.length 1048576 s) (hq : q < b.length) {m : Nat} (hm : smK + 23 ≤ m) (H : Heap) :
    callPure (evF tab it m) false 20 [x, y, .int .i64 (q : Int)] H = some (.tup [.sl H.length 1 0 b.length, .sl (H.length + 1) 1 0 b.length, .int .i64 0], H ++ [some (.data (iL (redL b s q))), some (.data (iL (redT b s q)))]) := by
  have ff : idFreeL [x, y, .int .i64 (q : Int)] = true := by simp [idFreeL, AV.idFree, hx.free, hy.free]
  have f := f20 hx hy hB hs hq hm
  rw [show apl b s (redT b s q) = redL b s q from rfl] at f
  simp [callPure, frzL_free H 40 [x, y, .int .i64 (q : Int)] (by simp) ff, f, ff, AV.hasRd, hasRdL, HO.hasRd, iL_noRd, shiftH, AV.ren, renL, idFreeL, idf_sl, AV.idFree, renH, renO]
theorem c39o {x y : AV} {b : List (List Int)} {s : List Int} (hx : IsLL x b) (hy : IsL y s) (hB : IsB b) (hs : InR b.length 1048576 s) {m : Nat} (hm : smK + 24 ≤ m) (H : Heap) :
    callPure (evF tab it m) false 39 [x, y] H = some (.tup [.agg [.bool (wonB b s), .sl H.length 1 0 b.length, if wonB b s = true then .nilS else .sl (H.length + 1) 1 0 b.length], .int .i64 0], H ++ some (.data (iL (redT b s 0))) :: (if wonB b s = true then [] else [some (.data (iL (ordB b s)))])) := by
  have ff : idFreeL [x, y] = true := by simp [idFreeL, AV.idFree, hx.free, hy.free]
  have f := f39 hx hy hB hs hm
  cases hw : wonB b s <;> rw [hw] at f <;> simp [callPure, frzL_free H 40 [x, y] (by simp) ff, f, ff, AV.hasRd, hasRdL, HO.hasRd, iL_noRd, shiftH, AV.ren, renL, idFreeL, idf_sl, AV.idFree, renH, renO]
/-! rows that are reached through one list -/
def HG (cs : List AV) (rows : List (List Int)) : Heap := some (.box cs) :: rowsH (rows.map iL)
structure RowsK (k n : Nat) (rows : List (List Int)) : Prop where
  len : rows.length = k
  each : ∀ r ∈ rows, r.length = n
theorem RowsK.get {k n : Nat} {rows : List (List Int)} (h : RowsK k n rows) {i : Nat} (hi : i < k) : (getLL rows (i : Int)).length = n := by
  rw [getLL_nat]
  have : i < rows.length := by rw [h.len]; exact hi
  simp only [List.getD, List.getElem?_eq_getElem this, Option.getD_some]
  exact h.each _ (List.getElem_mem this)
theorem RowsK.set {k n i j : Nat} {x : Int} {rows : List (List Int)} (h : RowsK k n rows) (hi : i < k) : RowsK k n (setLL rows i j x) := by
  refine ⟨by simp [setLL, h.len], fun r hr => ?_⟩
  unfold setLL at hr
  rcases List.mem_or_eq_of_mem_set hr with hr | hr
  · exact h.each r hr
  · rw [hr, List.length_set]; exact h.get hi
theorem hg_ld {cs : List AV} {rows : List (List Int)} {i : Nat} {v : AV} (h : cs[i]? = some v) : evP (HG cs rows) (.ld false 1) [.ptr 0 i] = some v := by
  have hc : Heap.cells? (HG cs rows) 0 = some cs := rfl
  obtain ⟨h1, h2⟩ := List.getElem?_eq_some_iff.1 h
  have h5 : i + 1 ≤ cs.length := by omega
  simp only [evP, ldc, getRow, hc, Option.bind_some, if_pos h5]
  rw [List.drop_eq_getElem_cons h1, h2]
  simp [wholeOf]
theorem hg_st {call : CallF} {cs : List AV} {k n i j : Nat} {x : Int} {rows : List (List Int)} (h : RowsK k n rows) (hi : i < k) (hj : j < n) : evE call (HG cs rows) (.st 1) [.ptr (1 + i) j, .int .i64 x] = some (.undef, HG cs (setLL rows i j x)) := by
  have hil : i < rows.length := by rw [h.len]; exact hi
  have h1 : (HG cs rows)[1 + i]? = some (some (.data (iL (getLL rows (i : Int))))) := by
    unfold HG
    rw [Nat.add_comm, List.getElem?_cons_succ]
    exact rowsH_get (rows_at hil)
  have hd : Heap.data? (HG cs rows) (1 + i) = some (iL (getLL rows (i : Int))) := data?_iff.2 h1
  have hst := e_stO (call := call) (H := HG cs rows) (id := 1 + i) (l := getLL rows (i : Int)) (i := j) (v := x) hd (by rw [h.get hi]; exact hj)
  rw [hst]
  have e1 : (HG cs rows).set (1 + i) (some (.data (iL ((getLL rows (i : Int)).set j x)))) = HG cs (setLL rows i j x) := by
    unfold HG
    rw [Nat.add_comm, List.set_cons_succ]
    simp [rowsH, setLL, List.map_set]
  rw [e1]
theorem b12_id {b : List (List Int)} (h : b.length ≤ 12) (h2 : ∀ r ∈ b, r.length ≤ 12) : b12 b = b := by
  unfold b12
  rw [List.take_of_length_le h]
  refine (List.map_congr_left fun r hr => ?_).trans (List.map_id _)
  exact List.take_of_length_le (h2 r hr)
theorem c46q {x y fv ov : AV} {b : List (List Int)} {s F O : List Int} {won : Bool} (hx : IsLL x b) (hy : IsL y s) (hF : IsL fv F) (hO : IsL ov O) (hB : IsB b) (hs : InR b.length 1048576 s) (hFl : F.length ≤ 1000) (hOl : O.length ≤ 1000) {m : Nat} (hm : 2100 ≤ m) (H : Heap) :
    callPure (evF tab it m) true 46 [x, y, .agg [.bool won, fv, ov]] H = some (.bool (decide (RightW b s won F O)), H) :=
  callPure_free (by simp [idFreeL, AV.idFree, hx.free, hy.free, hF.free, hO.free]) (by simp) (f46 hx hy hF hO hB hs hFl hOl hm) rfl
/-- law 12 -/
theorem f12 {x y : AV} {b : List (List Int)} {l : List Int} (hx : IsLL x b) (hbl : b.length < 9223372036854775808) (hy : IsL y l) : ∃ m H', evF tab it m 12 [x, y] [] = some (.bool true, H') := by
  obtain ⟨M, hM⟩ : ∃ M, M = smK + 30 := ⟨_, rfl⟩
  have hM1 : 100000 ≤ M := by have := smK_big; omega
  refine ⟨M + 1, [], ?_⟩
  have h25 := fun H => awakeN (m := M) (by omega) H
  have fx := hx.free; have fy := hy.free
  have e44 := fun H => c44 (w := 6) hx hbl (by decide) (m := M) (by omega) H
  have h1 := tame_isB b (w := 6) (by decide)
  have hn6 : (tameL b 6).length ≤ 6 := by rw [tameL_len]; exact (grN_le b (by decide)).2
  have hrow : ∀ r ∈ tameL b 6, r.length ≤ 12 := fun r hr => by
    have := (tameL_rows b 6).each r hr
    have := (grN_le b (w := 6) (by decide)).2
    omega
  generalize tameL b 6 = B at *
  have iB := isLL_fz B
  have hn1 := h1.n1
  have e36 := fun H => c36 (w := 50) iB hy hn1 (by omega) (by decide) (m := M) (by omega) H
  have h2 := stL_in B.length l 50 (by decide)
  have hsl := stL_len B.length l 50
  generalize stL B.length l 50 = S at *
  have iS := isL_fz S
  have e18 := fun H => c18 iB (m := M) (by omega) H
  have e19 := fun H => c19 iS (m := M) (by omega) H
  rw [b12_id (by omega) hrow] at e18
  rw [List.take_of_length_le (by omega)] at e19
  have e20 := fun H => c20o (q := 0) iB iS h1 h2 hn1 (m := M) (by omega) H
  have e39 := fun H => c39o iB iS h1 h2 (m := M) (by omega) H
  have e39f := fun H => c39 iB iS h1 h2 (m := M) (by omega) H
  have e41 := fun H => c41o iB h1 (m := M) (by omega) H
  have e22s := fun H => c22 iS iS (by omega) (m := M) (by omega) H
  have e22r := fun (i : Nat) (hi : i < B.length) H => c22 (iB.at (i := (i : Int)) ⟨by omega, by omega⟩) (iB.at (i := (i : Int)) ⟨by omega, by omega⟩) (by rw [h1.row i hi]; omega) (m := M) (by omega) H
  simp only [decide_true] at e22s e22r
  have hRl := (redT_ok h1 S hn1).1
  have hXl := redL_len B S 0
  have hol := ordB_len h1 S
  have hcl := canL_len B
  have iF := rd_isL hRl
  have hR := win_right h1 h2
  obtain ⟨ov, hov, iO, hO1⟩ : ∃ ov, (if wonB B S = true then AV.nilS else .rd 1 B.length (iL (ordB B S))) = ov ∧ IsL ov (if wonB B S = true then [] else ordB B S) ∧ ov.one = true := by
    cases wonB B S with
    | true => exact ⟨_, rfl, .nil, rfl⟩
    | false => exact ⟨_, rfl, rd_isL hol, rfl⟩
  have hOl : (if wonB B S = true then [] else ordB B S).length ≤ 1000 := by
    split
    · simp
    · omega
  have e46 := fun H => c46q iB iS iF iO h1 h2 (by omega) hOl (m := M) (by omega) (won := wonB B S) H
  simp only [hR, decide_true] at e46
  simp only [hov] at e39f
  have hF1 : (AV.rd 1 B.length (iL (redT B S 0))).one = true := rfl
  have b2 : oneL [.bool (wonB B S), .rd 1 B.length (iL (redT B S 0)), ov] = true := by
    have : ∀ x : Bool, (AV.bool x).one = true := fun _ => rfl
    simp [oneL, this, hF1, hO1]
  have fO := iO.free
  have fF := iF.free
  clear hov hM iO hR hOl
  generalize hvF : AV.rd 1 B.length (iL (redT B S 0)) = vF at *
  generalize redT B S 0 = RT at *
  generalize redL B S 0 = RL at *
  generalize ordB B S = OB at *
  generalize canL B = CN at *
  generalize degsB B / 2 - B.length + 1 = gn at *
  generalize wonB B S = W at *
  have fB := iB.free; have fS := iS.free
  have lB := fun H => p_lenLL (H := H) iB
  have al : ∀ call H, evE call H (.alloc false [.bool false, .nilS, .nilS]) [] = some (.ptr H.length 0, H ++ [some (.box [.bool false, .nilS, .nilS])]) := fun call H => rfl
  refine f_enter rfl rfl ?_
  generalize evF tab it M = call at *
  generalize fzLL B = vB at *
  generalize fzL S = vS at *
  cases W with
  | true =>
      simp only [if_true] at e39
      have hcs : ∀ i : Nat, i < 5 → ([AV.sl 1 1 0 B.length, .sl 2 1 0 B.length, .sl 3 1 0 B.length, .nilS, .sl 4 1 0 B.length][i]? = some .nilS ∧ True) ∨ ∃ r : Nat, [AV.sl 1 1 0 B.length, .sl 2 1 0 B.length, .sl 3 1 0 B.length, .nilS, .sl 4 1 0 B.length][i]? = some (.sl (1 + r) 1 0 B.length) ∧ r < 4 := fun i hi => by
        rcases (by omega : i = 0 ∨ i = 1 ∨ i = 2 ∨ i = 3 ∨ i = 4) with rfl | rfl | rfl | rfl | rfl
        all_goals first | (right; exact ⟨0, rfl, by decide⟩) | (right; exact ⟨1, rfl, by decide⟩) | (right; exact ⟨2, rfl, by decide⟩) | (right; exact ⟨3, rfl, by decide⟩) | (left; exact ⟨rfl, trivial⟩)
      have gO : ∀ (i : Nat) (rows : List (List Int)), rows.length = 4 → gc 0 [vB, vS, vB, vS, .int .i64 0, .int .i64 0, .int .i64 0, .sl 0 1 0 5, .int .i64 (i : Int)] (HG [.sl 1 1 0 B.length, .sl 2 1 0 B.length, .sl 3 1 0 B.length, .nilS, .sl 4 1 0 B.length] rows) = some ([vB, vS, vB, vS, .int .i64 0, .int .i64 0, .int .i64 0, .sl 0 1 0 5, .int .i64 (i : Int)], HG [.sl 1 1 0 B.length, .sl 2 1 0 B.length, .sl 3 1 0 B.length, .nilS, .sl 4 1 0 B.length] rows) := fun i rows hr => by
        match rows, hr with
        | [a, c, d, e], _ => simp [HG, rowsH, go_sem, fB, fS]
      have gI : ∀ (i j : Nat) (rows : List (List Int)), rows.length = 4 → gc 0 [vB, vS, vB, vS, .int .i64 0, .int .i64 0, .int .i64 0, .sl 0 1 0 5, .int .i64 (i : Int), .int .i64 (j : Int)] (HG [.sl 1 1 0 B.length, .sl 2 1 0 B.length, .sl 3 1 0 B.length, .nilS, .sl 4 1 0 B.length] rows) = some ([vB, vS, vB, vS, .int .i64 0, .int .i64 0, .int .i64 0, .sl 0 1 0 5, .int .i64 (i : Int), .int .i64 (j : Int)], HG [.sl 1 1 0 B.length, .sl 2 1 0 B.length, .sl 3 1 0 B.length, .nilS, .sl 4 1 0 B.length] rows) := fun i j rows hr => by
        match rows, hr with
        | [a, c, d, e], _ => simp [HG, rowsH, go_sem, fB, fS]
      have bb : ∀ call H, evE call H (.bldB 1 5 [.nilS] [(0, 1), (1, 1), (2, 1), (3, 1), (4, 1)]) [.sl 0 1 0 B.length, .sl 1 1 0 B.length, .sl 2 1 0 B.length, .nilS, .sl 4 1 0 B.length] = some (.sl H.length 1 0 5, H ++ [some (.box [.sl 0 1 0 B.length, .sl 1 1 0 B.length, .sl 2 1 0 B.length, .nilS, .sl 4 1 0 B.length])]) := fun call H => by
        simp [evE, repl, fillParts, AV.cells, AV.solid, putPart, oneL, AV.one, newBox]
      have b5 : oneL [.bool true, .sl 2 1 0 B.length, .nilS] = true := rfl
      repeat' first
 | (apply s_mov; (focus ((conv => lhs; whnf); done)))
 | (apply c_nil)
 | (apply s_cn; (focus (repeat (first | apply opds_nil | (apply opds_cons; (first | (focus ((conv => lhs; whnf); done)) | exact rfl))))); exact e44 _)
 | (apply s_cn; (focus (repeat (first | apply opds_nil | (apply opds_cons; (first | (focus ((conv => lhs; whnf); done)) | exact rfl))))); exact e36 _)
 | (apply s_cn; (focus (repeat (first | apply opds_nil | (apply opds_cons; (first | (focus ((conv => lhs; whnf); done)) | exact rfl))))); exact e18 _)
 | (apply s_cn; (focus (repeat (first | apply opds_nil | (apply opds_cons; (first | (focus ((conv => lhs; whnf); done)) | exact rfl))))); exact e19 _)
 | (apply s_en; (focus (repeat (first | apply opds_nil | (apply opds_cons; (first | (focus ((conv => lhs; whnf); done)) | exact rfl))))); exact e20 _)
 | (apply s_en; (focus (repeat (first | apply opds_nil | (apply opds_cons; (first | (focus ((conv => lhs; whnf); done)) | exact rfl))))); exact e39 _)
 | (apply s_en; (focus (repeat (first | apply opds_nil | (apply opds_cons; (first | (focus ((conv => lhs; whnf); done)) | exact rfl))))); exact e41 _)
 | (apply s_en; (focus (repeat (first | apply opds_nil | (apply opds_cons; (first | (focus ((conv => lhs; whnf); done)) | exact rfl))))); exact al _ _)
 | (apply s_st; (focus (repeat (first | apply opds_nil | (apply opds_cons; (first | (focus ((conv => lhs; whnf); done)) | exact rfl))))); exact e_stA' rfl rfl rfl b5 rfl)
 | (apply s_en; (focus (repeat (first | apply opds_nil | (apply opds_cons; (first | (focus ((conv => lhs; whnf); done)) | exact rfl))))); exact bb _ _)
 | (apply s_pd; (focus ((conv => lhs; whnf); done)))
 | (apply c_seq)
 | (apply c_reg)
 | (apply c_block)
 | (with_reducible apply k_c)
      refine c_loop ?_
      refine loop_gc (σ := Nat × List (List Int)) (fun p => [vB, vS, vB, vS, .int .i64 0, .int .i64 0, .int .i64 0, .sl 0 1 0 5, .int .i64 (p.1 : Int)]) (fun p => HG [.sl 1 1 0 B.length, .sl 2 1 0 B.length, .sl 3 1 0 B.length, .nilS, .sl 4 1 0 B.length] p.2) (fun p => p.1 ≤ 5 ∧ RowsK 4 B.length p.2) (fun p => 5 - p.1) ?_ _ (0, [RL, RT, RT, CN]) _ _ ⟨by dsimp only; omega, ⟨rfl, fun r hr => by simp only [List.mem_cons, List.not_mem_nil, or_false] at hr; rcases hr with rfl | rfl | rfl | rfl <;> assumption⟩⟩ (by show 5 - 0 < _; omega) ((by simp [HG, rowsH, go_sem, fB, fS] : gc 0 [vB, vS, vB, vS, .int .i64 0, .int .i64 0, .int .i64 0, .sl 5 1 0 5, .int .i64 0] [some (.data (iL RL)), some (.data (iL RT)), some (.data (iL RT)), some (.box [.bool true, .sl 2 1 0 B.length, .nilS]), some (.data (iL CN)), some (.box [.sl 0 1 0 B.length, .sl 1 1 0 B.length, .sl 2 1 0 B.length, .nilS, .sl 4 1 0 B.length])] = some ([vB, vS, vB, vS, .int .i64 0, .int .i64 0, .int .i64 0, .sl 0 1 0 5, .int .i64 0], HG [.sl 1 1 0 B.length, .sl 2 1 0 B.length, .sl 3 1 0 B.length, .nilS, .sl 4 1 0 B.length] [RL, RT, RT, CN])))
      intro ⟨i, rows⟩ ⟨hi, hrk⟩ K hK
      dsimp only at hi hrk hK ⊢
      by_cases hin : i < 5
      · have hld := hcs i hin
        rcases hld with ⟨hc, -⟩ | ⟨r, hc, hr⟩
        · have ld := fun rows : List (List Int) => hg_ld (rows := rows) hc
          repeat' first
 | (apply s_mov; (focus ((conv => lhs; whnf); done)))
 | (apply c_nil)
 | ((first | apply s_lss | apply s_leq | apply s_gtr | apply s_geq | apply s_eql | apply s_neq); exact rfl; all_goals (intro _; try (exfalso; omega)))
 | (apply s_lenSl; exact rfl)
 | (apply c_seq)
 | (apply c_reg)
 | (apply c_block)
 | (apply c_skip)
 | (apply c_condT; exact rfl)
 | (with_reducible apply k_c)
          all_goals try (exfalso; omega)
          refine c_loop ?_
          refine loop_gc (σ := Nat) (fun j => [vB, vS, vB, vS, .int .i64 0, .int .i64 0, .int .i64 0, .sl 0 1 0 5, .int .i64 (i : Int), .int .i64 (j : Int)]) (fun _ => HG [.sl 1 1 0 B.length, .sl 2 1 0 B.length, .sl 3 1 0 B.length, .nilS, .sl 4 1 0 B.length] rows) (fun j => j = 0) (fun j => 0) ?_ _ 0 _ _ rfl (by omega) (gI i 0 rows hrk.len)
          intro j hj K2 hK2
          subst hj
          repeat' first
 | (apply s_mov; (focus ((conv => lhs; whnf); done)))
 | (apply c_nil)
 | ((first | apply s_lss | apply s_leq | apply s_gtr | apply s_geq | apply s_eql | apply s_neq); exact rfl; all_goals (intro _; try (exfalso; omega)))
 | (apply s_pn; (focus (repeat (first | apply opds_nil | (apply opds_cons; (first | (focus ((conv => lhs; whnf); done)) | exact rfl))))); exact p_ixO hin)
 | (apply s_pn; (focus (repeat (first | apply opds_nil | (apply opds_cons; (first | (focus ((conv => lhs; whnf); done)) | exact rfl))))); exact ld _)
 | (apply s_pd; (focus ((conv => lhs; whnf); done)))
 | (apply c_seq)
 | (apply c_reg)
 | (apply c_exitH)
 | (apply c_condF; exact rfl)
 | (with_reducible apply k_c)
          all_goals try (exfalso; omega)
          apply c_pre
          · exact gO i rows hrk.len
          repeat' first
 | (apply s_mov; (focus ((conv => lhs; whnf); done)))
 | (apply c_nil)
 | ((first | apply s_add | apply s_sub); exact rfl; omega)
 | (apply c_reg)
          exact hK (i + 1, rows) _ _ ⟨by dsimp only; omega, hrk⟩ (by show 5 - (i + 1) < _; omega) (gO (i + 1) rows hrk.len)
        · have ld := fun rows : List (List Int) => hg_ld (rows := rows) hc
          repeat' first
 | (apply s_mov; (focus ((conv => lhs; whnf); done)))
 | (apply c_nil)
 | ((first | apply s_lss | apply s_leq | apply s_gtr | apply s_geq | apply s_eql | apply s_neq); exact rfl; all_goals (intro _; try (exfalso; omega)))
 | (apply s_lenSl; exact rfl)
 | (apply c_seq)
 | (apply c_reg)
 | (apply c_block)
 | (apply c_skip)
 | (apply c_condT; exact rfl)
 | (with_reducible apply k_c)
          all_goals try (exfalso; omega)
          refine c_loop ?_
          refine loop_gc (σ := Nat × List (List Int)) (fun p => [vB, vS, vB, vS, .int .i64 0, .int .i64 0, .int .i64 0, .sl 0 1 0 5, .int .i64 (i : Int), .int .i64 (p.1 : Int)]) (fun p => HG [.sl 1 1 0 B.length, .sl 2 1 0 B.length, .sl 3 1 0 B.length, .nilS, .sl 4 1 0 B.length] p.2) (fun p => p.1 ≤ B.length ∧ RowsK 4 B.length p.2) (fun p => B.length - p.1) ?_ _ (0, rows) _ _ ⟨by dsimp only; omega, hrk⟩ (by show B.length - 0 < _; omega) (gI i 0 rows hrk.len)
          intro ⟨j, rows⟩ ⟨hj, hrk⟩ K2 hK2
          dsimp only at hj hrk hK2 ⊢
          by_cases hjn : j < B.length
          · have st := fun call => hg_st (call := call) (cs := [.sl 1 1 0 B.length, .sl 2 1 0 B.length, .sl 3 1 0 B.length, .nilS, .sl 4 1 0 B.length]) (x := -99) hrk hr hjn
            repeat' first
 | (apply s_mov; (focus ((conv => lhs; whnf); done)))
 | (apply c_nil)
 | ((first | apply s_lss | apply s_leq | apply s_gtr | apply s_geq | apply s_eql | apply s_neq); exact rfl; all_goals (intro _; try (exfalso; omega)))
 | ((first | apply s_add | apply s_sub); exact rfl; omega)
 | (apply s_pn; (focus (repeat (first | apply opds_nil | (apply opds_cons; (first | (focus ((conv => lhs; whnf); done)) | exact rfl))))); exact p_ixO hin)
 | (apply s_pn; (focus (repeat (first | apply opds_nil | (apply opds_cons; (first | (focus ((conv => lhs; whnf); done)) | exact rfl))))); exact ld _)
 | (apply s_pn; (focus (repeat (first | apply opds_nil | (apply opds_cons; (first | (focus ((conv => lhs; whnf); done)) | exact rfl))))); exact p_ixO hjn)
 | (apply s_st; (focus (repeat (first | apply opds_nil | (apply opds_cons; (first | (focus ((conv => lhs; whnf); done)) | exact rfl))))); exact st _)
 | (apply s_lenSl; exact rfl)
 | (apply c_seq)
 | (apply c_reg)
 | (apply c_block)
 | (apply c_skip)
 | (apply c_condT; exact rfl)
 | (with_reducible apply k_c)
            all_goals first
              | (exfalso; omega)
              | (refine hK2 (j + 1, _) _ _ ⟨by dsimp only; omega, hrk.set hr⟩ (by show B.length - (j + 1) < _; omega) (gI i (j + 1) _ (hrk.set hr).len))
          · obtain rfl : j = B.length := by omega
            repeat' first
 | (apply s_mov; (focus ((conv => lhs; whnf); done)))
 | (apply c_nil)
 | ((first | apply s_lss | apply s_leq | apply s_gtr | apply s_geq | apply s_eql | apply s_neq); exact rfl; all_goals (intro _; try (exfalso; omega)))
 | (apply s_pn; (focus (repeat (first | apply opds_nil | (apply opds_cons; (first | (focus ((conv => lhs; whnf); done)) | exact rfl))))); exact p_ixO hin)
 | (apply s_pn; (focus (repeat (first | apply opds_nil | (apply opds_cons; (first | (focus ((conv => lhs; whnf); done)) | exact rfl))))); exact ld _)
 | (apply s_lenSl; exact rfl)
 | (apply c_seq)
 | (apply c_reg)
 | (apply c_exitH)
 | (apply c_condF; exact rfl)
 | (with_reducible apply k_c)
            all_goals try (exfalso; omega)
            apply c_pre
            · exact gO i rows hrk.len
            repeat' first
 | (apply s_mov; (focus ((conv => lhs; whnf); done)))
 | (apply c_nil)
 | ((first | apply s_add | apply s_sub); exact rfl; omega)
 | (apply c_reg)
            exact hK (i + 1, rows) _ _ ⟨by dsimp only; omega, hrk⟩ (by show 5 - (i + 1) < _; omega) (gO (i + 1) rows hrk.len)
      · obtain rfl : i = 5 := by omega
        have gV : ∀ (i : Nat), gc 0 [vB, vB, vS, .ptr 0 0, .int .i64 (i : Int)] [some (.box [.bool true, vF, ov])] = some ([vB, vB, vS, .ptr 0 0, .int .i64 (i : Int)], [some (.box [.bool true, vF, ov])]) := fun i => by simp [go_sem, fB, fS, fF, fO]
        repeat' first
 | (apply s_mov; (focus ((conv => lhs; whnf); done)))
 | (apply s_gT; exact rfl)
 | (apply c_nil)
 | (apply s_pickF; exact rfl; (focus ((conv => lhs; whnf); done)))
 | (apply s_notT; exact rfl)
 | ((first | apply s_lss | apply s_leq | apply s_gtr | apply s_geq | apply s_eql | apply s_neq); exact rfl; all_goals (intro _; try (exfalso; omega)))
 | (apply s_cn; (focus (repeat (first | apply opds_nil | (apply opds_cons; (first | (focus ((conv => lhs; whnf); done)) | exact rfl))))); exact e39f _)
 | (apply s_en; (focus (repeat (first | apply opds_nil | (apply opds_cons; (first | (focus ((conv => lhs; whnf); done)) | exact rfl))))); exact al _ _)
 | (apply s_st; (focus (repeat (first | apply opds_nil | (apply opds_cons; (first | (focus ((conv => lhs; whnf); done)) | exact rfl))))); exact e_stA' rfl rfl rfl b2 rfl)
 | (apply s_cn; (focus (repeat (first | apply opds_nil | (apply opds_cons; (first | (focus ((conv => lhs; whnf); done)) | exact rfl))))); exact e22s _)
 | (apply s_pn; (focus (repeat (first | apply opds_nil | (apply opds_cons; (first | (focus ((conv => lhs; whnf); done)) | exact rfl))))); exact lB _)
 | (apply s_lenSl; exact rfl)
 | (apply s_pd; (focus ((conv => lhs; whnf); done)))
 | (apply c_seq)
 | (apply c_reg)
 | (apply c_block)
 | (apply c_exitH)
 | (apply c_skip)
 | (apply c_condF; exact rfl)
 | (apply c_preF; (focus (repeat (first | apply looks_nil | (apply looks_cons; (focus ((conv => lhs; whnf); done)))))); (focus (simp [idFreeL, AV.idFree, *]; done)))
 | (with_reducible apply k_c)
        all_goals try (exfalso; omega)
        refine c_loop ?_
        refine loop_gc (σ := Nat) (fun i => [vB, vB, vS, .ptr 0 0, .int .i64 (i : Int)]) (fun _ => [some (.box [.bool true, vF, ov])]) (fun i => i ≤ B.length) (fun i => B.length - i) ?_ _ 0 _ _ (by omega) (by omega) (gV 0)
        clear hK
        intro i hi K hK
        by_cases hin : i < B.length
        · have e22r' := e22r i hin
          repeat' first
 | (apply s_mov; (focus ((conv => lhs; whnf); done)))
 | (apply c_nil)
 | (apply s_notT; exact rfl)
 | ((first | apply s_lss | apply s_leq | apply s_gtr | apply s_geq | apply s_eql | apply s_neq); exact rfl; all_goals (intro _; try (exfalso; omega)))
 | ((first | apply s_add | apply s_sub); exact rfl; omega)
 | (apply s_pn; (focus (repeat (first | apply opds_nil | (apply opds_cons; (first | (focus ((conv => lhs; whnf); done)) | exact rfl))))); exact lB _)
 | (apply s_cn; (focus (repeat (first | apply opds_nil | (apply opds_cons; (first | (focus ((conv => lhs; whnf); done)) | exact rfl))))); exact e22r' _)
 | (apply s_idxLL; (focus ((conv => lhs; whnf); done)); exact rfl; assumption; omega)
 | (apply s_ldLL; exact rfl; assumption; omega)
 | (apply c_seq)
 | (apply c_reg)
 | (apply c_block)
 | (apply c_skip)
 | (apply c_condT; exact rfl)
 | (apply c_condF; exact rfl)
 | (with_reducible apply k_c)
          all_goals first
            | (exfalso; omega)
            | exact hK (i + 1) _ _ (by omega) (by omega) (gV (i + 1))
        · obtain rfl : i = B.length := by omega
          repeat' first
 | (apply s_mov; (focus ((conv => lhs; whnf); done)))
 | (apply c_nil)
 | ((first | apply s_lss | apply s_leq | apply s_gtr | apply s_geq | apply s_eql | apply s_neq); exact rfl; all_goals (intro _; try (exfalso; omega)))
 | (apply s_pn; (focus (repeat (first | apply opds_nil | (apply opds_cons; (first | (focus ((conv => lhs; whnf); done)) | exact rfl))))); exact lB _)
 | (apply c_seq)
 | (apply c_reg)
 | (apply c_exitH)
 | (apply c_condF; exact rfl)
 | (with_reducible apply k_c)
          all_goals try (exfalso; omega)
          apply c_pre (vs := [vB, vS, .ptr 0 0]) (H' := [some (.box [.bool true, vF, ov])])
          · simp [go_sem, fB, fS, fF, fO]
          repeat' first
 | (apply s_mov; (focus ((conv => lhs; whnf); done)))
 | (apply s_gT; exact rfl)
 | (apply c_nil)
 | (apply s_pickT; exact rfl; (focus ((conv => lhs; whnf); done)))
 | (apply s_cn; (focus (repeat (first | apply opds_nil | (apply opds_cons; (first | (focus ((conv => lhs; whnf); done)) | exact rfl))))); exact e46 _)
 | (apply s_cn; (focus (repeat (first | apply opds_nil | (apply opds_cons; (first | (focus ((conv => lhs; whnf); done)) | exact rfl))))); exact h25 _)
 | (apply s_pd; (focus ((conv => lhs; whnf); done)))
 | (apply c_seq)
 | (apply c_reg)
 | (apply c_ret)
 | (with_reducible apply k_c)
          all_goals exact fin_t (by (conv => lhs; whnf)) (by rfl) rfl
  | false =>
      simp only [Bool.false_eq_true, if_false] at e39
      have hcs : ∀ i : Nat, i < 5 → ([AV.sl 1 1 0 B.length, .sl 2 1 0 B.length, .sl 3 1 0 B.length, .sl 4 1 0 B.length, .sl 5 1 0 B.length][i]? = some .nilS ∧ True) ∨ ∃ r : Nat, [AV.sl 1 1 0 B.length, .sl 2 1 0 B.length, .sl 3 1 0 B.length, .sl 4 1 0 B.length, .sl 5 1 0 B.length][i]? = some (.sl (1 + r) 1 0 B.length) ∧ r < 5 := fun i hi => by
        rcases (by omega : i = 0 ∨ i = 1 ∨ i = 2 ∨ i = 3 ∨ i = 4) with rfl | rfl | rfl | rfl | rfl
        all_goals first | (right; exact ⟨0, rfl, by decide⟩) | (right; exact ⟨1, rfl, by decide⟩) | (right; exact ⟨2, rfl, by decide⟩) | (right; exact ⟨3, rfl, by decide⟩) | (right; exact ⟨4, rfl, by decide⟩)
      have gO : ∀ (i : Nat) (rows : List (List Int)), rows.length = 5 → gc 0 [vB, vS, vB, vS, .int .i64 0, .int .i64 0, .int .i64 0, .sl 0 1 0 5, .int .i64 (i : Int)] (HG [.sl 1 1 0 B.length, .sl 2 1 0 B.length, .sl 3 1 0 B.length, .sl 4 1 0 B.length, .sl 5 1 0 B.length] rows) = some ([vB, vS, vB, vS, .int .i64 0, .int .i64 0, .int .i64 0, .sl 0 1 0 5, .int .i64 (i : Int)], HG [.sl 1 1 0 B.length, .sl 2 1 0 B.length, .sl 3 1 0 B.length, .sl 4 1 0 B.length, .sl 5 1 0 B.length] rows) := fun i rows hr => by
        match rows, hr with
        | [a, c, d, e, f], _ => simp [HG, rowsH, go_sem, fB, fS]
      have gI : ∀ (i j : Nat) (rows : List (List Int)), rows.length = 5 → gc 0 [vB, vS, vB, vS, .int .i64 0, .int .i64 0, .int .i64 0, .sl 0 1 0 5, .int .i64 (i : Int), .int .i64 (j : Int)] (HG [.sl 1 1 0 B.length, .sl 2 1 0 B.length, .sl 3 1 0 B.length, .sl 4 1 0 B.length, .sl 5 1 0 B.length] rows) = some ([vB, vS, vB, vS, .int .i64 0, .int .i64 0, .int .i64 0, .sl 0 1 0 5, .int .i64 (i : Int), .int .i64 (j : Int)], HG [.sl 1 1 0 B.length, .sl 2 1 0 B.length, .sl 3 1 0 B.length, .sl 4 1 0 B.length, .sl 5 1 0 B.length] rows) := fun i j rows hr => by
        match rows, hr with
        | [a, c, d, e, f], _ => simp [HG, rowsH, go_sem, fB, fS]
      have bb : ∀ call H, evE call H (.bldB 1 5 [.nilS] [(0, 1), (1, 1), (2, 1), (3, 1), (4, 1)]) [.sl 0 1 0 B.length, .sl 1 1 0 B.length, .sl 2 1 0 B.length, .sl 3 1 0 B.length, .sl 5 1 0 B.length] = some (.sl H.length 1 0 5, H ++ [some (.box [.sl 0 1 0 B.length, .sl 1 1 0 B.length, .sl 2 1 0 B.length, .sl 3 1 0 B.length, .sl 5 1 0 B.length])]) := fun call H => by
        simp [evE, repl, fillParts, AV.cells, AV.solid, putPart, oneL, AV.one, newBox]
      have b5 : oneL [.bool false, .sl 2 1 0 B.length, .sl 3 1 0 B.length] = true := rfl
      repeat' first
 | (apply s_mov; (focus ((conv => lhs; whnf); done)))
 | (apply c_nil)
 | (apply s_cn; (focus (repeat (first | apply opds_nil | (apply opds_cons; (first | (focus ((conv => lhs; whnf); done)) | exact rfl))))); exact e44 _)
 | (apply s_cn; (focus (repeat (first | apply opds_nil | (apply opds_cons; (first | (focus ((conv => lhs; whnf); done)) | exact rfl))))); exact e36 _)
 | (apply s_cn; (focus (repeat (first | apply opds_nil | (apply opds_cons; (first | (focus ((conv => lhs; whnf); done)) | exact rfl))))); exact e18 _)
 | (apply s_cn; (focus (repeat (first | apply opds_nil | (apply opds_cons; (first | (focus ((conv => lhs; whnf); done)) | exact rfl))))); exact e19 _)
 | (apply s_en; (focus (repeat (first | apply opds_nil | (apply opds_cons; (first | (focus ((conv => lhs; whnf); done)) | exact rfl))))); exact e20 _)
 | (apply s_en; (focus (repeat (first | apply opds_nil | (apply opds_cons; (first | (focus ((conv => lhs; whnf); done)) | exact rfl))))); exact e39 _)
 | (apply s_en; (focus (repeat (first | apply opds_nil | (apply opds_cons; (first | (focus ((conv => lhs; whnf); done)) | exact rfl))))); exact e41 _)
 | (apply s_en; (focus (repeat (first | apply opds_nil | (apply opds_cons; (first | (focus ((conv => lhs; whnf); done)) | exact rfl))))); exact al _ _)
 | (apply s_st; (focus (repeat (first | apply opds_nil | (apply opds_cons; (first | (focus ((conv => lhs; whnf); done)) | exact rfl))))); exact e_stA' rfl rfl rfl b5 rfl)
 | (apply s_en; (focus (repeat (first | apply opds_nil | (apply opds_cons; (first | (focus ((conv => lhs; whnf); done)) | exact rfl))))); exact bb _ _)
 | (apply s_pd; (focus ((conv => lhs; whnf); done)))
 | (apply c_seq)
 | (apply c_reg)
 | (apply c_block)
 | (with_reducible apply k_c)
      refine c_loop ?_
      refine loop_gc (σ := Nat × List (List Int)) (fun p => [vB, vS, vB, vS, .int .i64 0, .int .i64 0, .int .i64 0, .sl 0 1 0 5, .int .i64 (p.1 : Int)]) (fun p => HG [.sl 1 1 0 B.length, .sl 2 1 0 B.length, .sl 3 1 0 B.length, .sl 4 1 0 B.length, .sl 5 1 0 B.length] p.2) (fun p => p.1 ≤ 5 ∧ RowsK 5 B.length p.2) (fun p => 5 - p.1) ?_ _ (0, [RL, RT, RT, OB, CN]) _ _ ⟨by dsimp only; omega, ⟨rfl, fun r hr => by simp only [List.mem_cons, List.not_mem_nil, or_false] at hr; rcases hr with rfl | rfl | rfl | rfl | rfl <;> assumption⟩⟩ (by show 5 - 0 < _; omega) ((by simp [HG, rowsH, go_sem, fB, fS] : gc 0 [vB, vS, vB, vS, .int .i64 0, .int .i64 0, .int .i64 0, .sl 6 1 0 5, .int .i64 0] [some (.data (iL RL)), some (.data (iL RT)), some (.data (iL RT)), some (.data (iL OB)), some (.box [.bool false, .sl 2 1 0 B.length, .sl 3 1 0 B.length]), some (.data (iL CN)), some (.box [.sl 0 1 0 B.length, .sl 1 1 0 B.length, .sl 2 1 0 B.length, .sl 3 1 0 B.length, .sl 5 1 0 B.length])] = some ([vB, vS, vB, vS, .int .i64 0, .int .i64 0, .int .i64 0, .sl 0 1 0 5, .int .i64 0], HG [.sl 1 1 0 B.length, .sl 2 1 0 B.length, .sl 3 1 0 B.length, .sl 4 1 0 B.length, .sl 5 1 0 B.length] [RL, RT, RT, OB, CN])))
      intro ⟨i, rows⟩ ⟨hi, hrk⟩ K hK
      dsimp only at hi hrk hK ⊢
      by_cases hin : i < 5
      · have hld := hcs i hin
        rcases hld with ⟨hc, -⟩ | ⟨r, hc, hr⟩
        · have ld := fun rows : List (List Int) => hg_ld (rows := rows) hc
          repeat' first
 | (apply s_mov; (focus ((conv => lhs; whnf); done)))
 | (apply c_nil)
 | ((first | apply s_lss | apply s_leq | apply s_gtr | apply s_geq | apply s_eql | apply s_neq); exact rfl; all_goals (intro _; try (exfalso; omega)))
 | (apply s_lenSl; exact rfl)
 | (apply c_seq)
 | (apply c_reg)
 | (apply c_block)
 | (apply c_skip)
 | (apply c_condT; exact rfl)
 | (with_reducible apply k_c)
          all_goals try (exfalso; omega)
          refine c_loop ?_
          refine loop_gc (σ := Nat) (fun j => [vB, vS, vB, vS, .int .i64 0, .int .i64 0, .int .i64 0, .sl 0 1 0 5, .int .i64 (i : Int), .int .i64 (j : Int)]) (fun _ => HG [.sl 1 1 0 B.length, .sl 2 1 0 B.length, .sl 3 1 0 B.length, .sl 4 1 0 B.length, .sl 5 1 0 B.length] rows) (fun j => j = 0) (fun j => 0) ?_ _ 0 _ _ rfl (by omega) (gI i 0 rows hrk.len)
          intro j hj K2 hK2
          subst hj
          repeat' first
 | (apply s_mov; (focus ((conv => lhs; whnf); done)))
 | (apply c_nil)
 | ((first | apply s_lss | apply s_leq | apply s_gtr | apply s_geq | apply s_eql | apply s_neq); exact rfl; all_goals (intro _; try (exfalso; omega)))
 | (apply s_pn; (focus (repeat (first | apply opds_nil | (apply opds_cons; (first | (focus ((conv => lhs; whnf); done)) | exact rfl))))); exact p_ixO hin)
 | (apply s_pn; (focus (repeat (first | apply opds_nil | (apply opds_cons; (first | (focus ((conv => lhs; whnf); done)) | exact rfl))))); exact ld _)
 | (apply s_pd; (focus ((conv => lhs; whnf); done)))
 | (apply c_seq)
 | (apply c_reg)
 | (apply c_exitH)
 | (apply c_condF; exact rfl)
 | (with_reducible apply k_c)
          all_goals try (exfalso; omega)
          apply c_pre
          · exact gO i rows hrk.len
          repeat' first
 | (apply s_mov; (focus ((conv => lhs; whnf); done)))
 | (apply c_nil)
 | ((first | apply s_add | apply s_sub); exact rfl; omega)
 | (apply c_reg)
          exact hK (i + 1, rows) _ _ ⟨by dsimp only; omega, hrk⟩ (by show 5 - (i + 1) < _; omega) (gO (i + 1) rows hrk.len)
        · have ld := fun rows : List (List Int) => hg_ld (rows := rows) hc
          repeat' first
 | (apply s_mov; (focus ((conv => lhs; whnf); done)))
 | (apply c_nil)
 | ((first | apply s_lss | apply s_leq | apply s_gtr | apply s_geq | apply s_eql | apply s_neq); exact rfl; all_goals (intro _; try (exfalso; omega)))
 | (apply s_lenSl; exact rfl)
 | (apply c_seq)
 | (apply c_reg)
 | (apply c_block)
 | (apply c_skip)
 | (apply c_condT; exact rfl)
 | (with_reducible apply k_c)
          all_goals try (exfalso; omega)
          refine c_loop ?_
          refine loop_gc (σ := Nat × List (List Int)) (fun p => [vB, vS, vB, vS, .int .i64 0, .int .i64 0, .int .i64 0, .sl 0 1 0 5, .int .i64 (i : Int), .int .i64 (p.1 : Int)]) (fun p => HG [.sl 1 1 0 B.length, .sl 2 1 0 B.length, .sl 3 1 0 B.length, .sl 4 1 0 B.length, .sl 5 1 0 B.length] p.2) (fun p => p.1 ≤ B.length ∧ RowsK 5 B.length p.2) (fun p => B.length - p.1) ?_ _ (0, rows) _ _ ⟨by dsimp only; omega, hrk⟩ (by show B.length - 0 < _; omega) (gI i 0 rows hrk.len)
          intro ⟨j, rows⟩ ⟨hj, hrk⟩ K2 hK2
          dsimp only at hj hrk hK2 ⊢
          by_cases hjn : j < B.length
          · have st := fun call => hg_st (call := call) (cs := [.sl 1 1 0 B.length, .sl 2 1 0 B.length, .sl 3 1 0 B.length, .sl 4 1 0 B.length, .sl 5 1 0 B.length]) (x := -99) hrk hr hjn
            repeat' first
 | (apply s_mov; (focus ((conv => lhs; whnf); done)))
 | (apply c_nil)
 | ((first | apply s_lss | apply s_leq | apply s_gtr | apply s_geq | apply s_eql | apply s_neq); exact rfl; all_goals (intro _; try (exfalso; omega)))
 | ((first | apply s_add | apply s_sub); exact rfl; omega)
 | (apply s_pn; (focus (repeat (first | apply opds_nil | (apply opds_cons; (first | (focus ((conv => lhs; whnf); done)) | exact rfl))))); exact p_ixO hin)
 | (apply s_pn; (focus (repeat (first | apply opds_nil | (apply opds_cons; (first | (focus ((conv => lhs; whnf); done)) | exact rfl))))); exact ld _)
 | (apply s_pn; (focus (repeat (first | apply opds_nil | (apply opds_cons; (first | (focus ((conv => lhs; whnf); done)) | exact rfl))))); exact p_ixO hjn)
 | (apply s_st; (focus (repeat (first | apply opds_nil | (apply opds_cons; (first | (focus ((conv => lhs; whnf); done)) | exact rfl))))); exact st _)
 | (apply s_lenSl; exact rfl)
 | (apply c_seq)
 | (apply c_reg)
 | (apply c_block)
 | (apply c_skip)
 | (apply c_condT; exact rfl)
 | (with_reducible apply k_c)
            all_goals first
              | (exfalso; omega)
              | (refine hK2 (j + 1, _) _ _ ⟨by dsimp only; omega, hrk.set hr⟩ (by show B.length - (j + 1) < _; omega) (gI i (j + 1) _ (hrk.set hr).len))
          · obtain rfl : j = B.length := by omega
            repeat' first
 | (apply s_mov; (focus ((conv => lhs; whnf); done)))
 | (apply c_nil)
 | ((first | apply s_lss | apply s_leq | apply s_gtr | apply s_geq | apply s_eql | apply s_neq); exact rfl; all_goals (intro _; try (exfalso; omega)))
 | (apply s_pn; (focus (repeat (first | apply opds_nil | (apply opds_cons; (first | (focus ((conv => lhs; whnf); done)) | exact rfl))))); exact p_ixO hin)
 | (apply s_pn; (focus (repeat (first | apply opds_nil | (apply opds_cons; (first | (focus ((conv => lhs; whnf); done)) | exact rfl))))); exact ld _)
 | (apply s_lenSl; exact rfl)
 | (apply c_seq)
 | (apply c_reg)
 | (apply c_exitH)
 | (apply c_condF; exact rfl)
 | (with_reducible apply k_c)
            all_goals try (exfalso; omega)
            apply c_pre
            · exact gO i rows hrk.len
            repeat' first
 | (apply s_mov; (focus ((conv => lhs; whnf); done)))
 | (apply c_nil)
 | ((first | apply s_add | apply s_sub); exact rfl; omega)
 | (apply c_reg)
            exact hK (i + 1, rows) _ _ ⟨by dsimp only; omega, hrk⟩ (by show 5 - (i + 1) < _; omega) (gO (i + 1) rows hrk.len)
      · obtain rfl : i = 5 := by omega
        have gV : ∀ (i : Nat), gc 0 [vB, vB, vS, .ptr 0 0, .int .i64 (i : Int)] [some (.box [.bool false, vF, ov])] = some ([vB, vB, vS, .ptr 0 0, .int .i64 (i : Int)], [some (.box [.bool false, vF, ov])]) := fun i => by simp [go_sem, fB, fS, fF, fO]
        repeat' first
 | (apply s_mov; (focus ((conv => lhs; whnf); done)))
 | (apply s_gT; exact rfl)
 | (apply c_nil)
 | (apply s_pickF; exact rfl; (focus ((conv => lhs; whnf); done)))
 | (apply s_notT; exact rfl)
 | ((first | apply s_lss | apply s_leq | apply s_gtr | apply s_geq | apply s_eql | apply s_neq); exact rfl; all_goals (intro _; try (exfalso; omega)))
 | (apply s_cn; (focus (repeat (first | apply opds_nil | (apply opds_cons; (first | (focus ((conv => lhs; whnf); done)) | exact rfl))))); exact e39f _)
 | (apply s_en; (focus (repeat (first | apply opds_nil | (apply opds_cons; (first | (focus ((conv => lhs; whnf); done)) | exact rfl))))); exact al _ _)
 | (apply s_st; (focus (repeat (first | apply opds_nil | (apply opds_cons; (first | (focus ((conv => lhs; whnf); done)) | exact rfl))))); exact e_stA' rfl rfl rfl b2 rfl)
 | (apply s_cn; (focus (repeat (first | apply opds_nil | (apply opds_cons; (first | (focus ((conv => lhs; whnf); done)) | exact rfl))))); exact e22s _)
 | (apply s_pn; (focus (repeat (first | apply opds_nil | (apply opds_cons; (first | (focus ((conv => lhs; whnf); done)) | exact rfl))))); exact lB _)
 | (apply s_lenSl; exact rfl)
 | (apply s_pd; (focus ((conv => lhs; whnf); done)))
 | (apply c_seq)
 | (apply c_reg)
 | (apply c_block)
 | (apply c_exitH)
 | (apply c_skip)
 | (apply c_condF; exact rfl)
 | (apply c_preF; (focus (repeat (first | apply looks_nil | (apply looks_cons; (focus ((conv => lhs; whnf); done)))))); (focus (simp [idFreeL, AV.idFree, *]; done)))
 | (with_reducible apply k_c)
        all_goals try (exfalso; omega)
        refine c_loop ?_
        refine loop_gc (σ := Nat) (fun i => [vB, vB, vS, .ptr 0 0, .int .i64 (i : Int)]) (fun _ => [some (.box [.bool false, vF, ov])]) (fun i => i ≤ B.length) (fun i => B.length - i) ?_ _ 0 _ _ (by omega) (by omega) (gV 0)
        clear hK
        intro i hi K hK
        by_cases hin : i < B.length
        · have e22r' := e22r i hin
          repeat' first
 | (apply s_mov; (focus ((conv => lhs; whnf); done)))
 | (apply c_nil)
 | (apply s_notT; exact rfl)
 | ((first | apply s_lss | apply s_leq | apply s_gtr | apply s_geq | apply s_eql | apply s_neq); exact rfl; all_goals (intro _; try (exfalso; omega)))
 | ((first | apply s_add | apply s_sub); exact rfl; omega)
 | (apply s_pn; (focus (repeat (first | apply opds_nil | (apply opds_cons; (first | (focus ((conv => lhs; whnf); done)) | exact rfl))))); exact lB _)
 | (apply s_cn; (focus (repeat (first | apply opds_nil | (apply opds_cons; (first | (focus ((conv => lhs; whnf); done)) | exact rfl))))); exact e22r' _)
 | (apply s_idxLL; (focus ((conv => lhs; whnf); done)); exact rfl; assumption; omega)
 | (apply s_ldLL; exact rfl; assumption; omega)
 | (apply c_seq)
 | (apply c_reg)
 | (apply c_block)
 | (apply c_skip)
 | (apply c_condT; exact rfl)
 | (apply c_condF; exact rfl)
 | (with_reducible apply k_c)
          all_goals first
            | (exfalso; omega)
            | exact hK (i + 1) _ _ (by omega) (by omega) (gV (i + 1))
        · obtain rfl : i = B.length := by omega
          repeat' first
 | (apply s_mov; (focus ((conv => lhs; whnf); done)))
 | (apply c_nil)
 | ((first | apply s_lss | apply s_leq | apply s_gtr | apply s_geq | apply s_eql | apply s_neq); exact rfl; all_goals (intro _; try (exfalso; omega)))
 | (apply s_pn; (focus (repeat (first | apply opds_nil | (apply opds_cons; (first | (focus ((conv => lhs; whnf); done)) | exact rfl))))); exact lB _)
 | (apply c_seq)
 | (apply c_reg)
 | (apply c_exitH)
 | (apply c_condF; exact rfl)
 | (with_reducible apply k_c)
          all_goals try (exfalso; omega)
          apply c_pre (vs := [vB, vS, .ptr 0 0]) (H' := [some (.box [.bool false, vF, ov])])
          · simp [go_sem, fB, fS, fF, fO]
          repeat' first
 | (apply s_mov; (focus ((conv => lhs; whnf); done)))
 | (apply s_gT; exact rfl)
 | (apply c_nil)
 | (apply s_pickT; exact rfl; (focus ((conv => lhs; whnf); done)))
 | (apply s_cn; (focus (repeat (first | apply opds_nil | (apply opds_cons; (first | (focus ((conv => lhs; whnf); done)) | exact rfl))))); exact e46 _)
 | (apply s_cn; (focus (repeat (first | apply opds_nil | (apply opds_cons; (first | (focus ((conv => lhs; whnf); done)) | exact rfl))))); exact h25 _)
 | (apply s_pd; (focus ((conv => lhs; whnf); done)))
 | (apply c_seq)
 | (apply c_reg)
 | (apply c_ret)
 | (with_reducible apply k_c)
          all_goals exact fin_t (by (conv => lhs; whnf)) (by rfl) rfl
end Go.AM.Ch
