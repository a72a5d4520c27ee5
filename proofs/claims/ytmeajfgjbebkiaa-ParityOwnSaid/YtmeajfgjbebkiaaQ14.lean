/- A part of the proof: Q14. -/
import Derived.Test.YtmeajfgjbebkiaaQ8b
import Derived.Test.YtmeajfgjbebkiaaM3
set_option linter.unusedSectionVars false
set_option linter.unusedVariables false
set_option linter.unusedSimpArgs false
namespace Go.AM.Pa
attribute [local go_sem] gc subHeap reach_skip ren_free reach_new reach_newp reach_end rangeL roots boxCells nodupB posOf renL AV.ren pickO renH renO looks look bindEnv envOf reach_int reach_bool reach_nilS reach_rd putRow cells_sl cells_int cells_bool cells_nilS cells_rd cells_agg reach_agg reach_tup idFreeL idf_sl idf_ptr idf_int idf_bool idf_nilS idf_rd
theorem getI_zero (a : Int) (l : List Int) : getI (a :: l) 0 = a := by simp [getI]
theorem getI_succ (a : Int) (l : List Int) (j : Nat) : getI (a :: l) ((j : Int) + 1) = getI l j := by
  have : ((j : Int) + 1) = ((j + 1 : Nat) : Int) := by omega
  rw [this, getI_nat, getI_nat]
  simp
theorem idxOf_first : ∀ (l : List Int) (i : Nat) (v : Int), i < l.length → (∀ j : Nat, j < i → getI l j ≠ v) → getI l i = v → l.idxOf v = i
  | [], i, v, h, _, _ => by simp at h
  | a :: l, 0, v, _, _, h2 => by
    have h2 : a = v := by rw [← h2]; exact (getI_zero a l).symm
    simp [h2]
  | a :: l, i + 1, v, h, h1, h2 => by
    have ha : a ≠ v := by
      have := h1 0 (by omega)
      intro e
      exact this (by rw [← e]; exact getI_zero a l)
    have ih := idxOf_first l i v (by simpa using h) (fun j hj => by have := h1 (j + 1) (by omega); rw [Int.natCast_add, Int.natCast_one, getI_succ] at this; exact this) (by rw [Int.natCast_add, Int.natCast_one, getI_succ] at h2; exact h2)
    rw [List.idxOf_cons]
    have : (a == v) = false := by simp [ha]
    rw [this, ih]
    rfl
/-- slices.Index -/
theorem f52 {x : AV} {l : List Int} (hx : IsL x l) (v : Int) (hl : l.length < 100) (m : Nat) (hm : 102 ≤ m) : evF tab it m 52 [x, .int .i64 v] [] = some (.int .i64 (if v ∈ l then (l.idxOf v : Int) else -1), []) := by
  obtain ⟨m, rfl⟩ : ∃ j, m = j + 1 := ⟨m - 1, by omega⟩
  have fx := hx.free
  refine f_enter rfl rfl ?_
  repeat' first
 | (apply s_mov; (focus ((conv => lhs; whnf); done)))
 | (apply c_nil)
 | (apply s_len; (focus ((conv => lhs; whnf); done)); (first | assumption | (apply IsLL.at; assumption; omega)))
 | (apply c_seq)
 | (apply c_reg)
 | (apply c_block)
 | (with_reducible apply k_c)
  refine c_loop ?_
  refine loop_gc (σ := Nat) (fun i => [x, .int .i64 v, .int .i64 l.length, .int .i64 i]) (fun _ => []) (fun i => i ≤ l.length ∧ ∀ j : Nat, j < i → getI l j ≠ v) (fun i => l.length - i) ?_ _ 0 _ _ ⟨by omega, by omega⟩ (by omega) (gc_to rfl (by simp [idFreeL, AV.idFree, *]; done))
  intro i ⟨hi, hb⟩ K hK
  repeat' first
 | (apply s_mov; (focus ((conv => lhs; whnf); done)))
 | (apply c_nil)
 | ((first | apply s_lss | apply s_leq | apply s_gtr | apply s_geq | apply s_eql | apply s_neq); exact rfl; all_goals (intro _; try (exfalso; omega)))
 | ((first | apply s_add | apply s_sub); exact rfl; omega)
 | (apply s_idx; (focus ((conv => lhs; whnf); done)); exact rfl; (first | assumption | (apply IsLL.at; assumption; omega)); omega)
 | (apply s_ldI; exact rfl; omega)
 | (apply c_seq)
 | (apply c_reg)
 | (apply c_block)
 | (apply c_exitH)
 | (apply c_skip)
 | (apply c_ret)
 | (apply c_condT; exact rfl)
 | (apply c_condF; exact rfl)
 | (apply c_preF; (focus (repeat (first | apply looks_nil | (apply looks_cons; (focus ((conv => lhs; whnf); done)))))); (focus (simp [idFreeL, AV.idFree, *]; done)))
 | (with_reducible apply k_c)
  · have h : i < l.length := by omega
    have e : v = getI l i := by assumption
    have hm : v ∈ l := by rw [e, getI_nat]; simp [h]
    rw [if_pos hm, idxOf_first l i v h hb e.symm]
    exact fin_t rfl rfl rfl
  · refine hK (i + 1) _ _ ⟨by omega, fun j hj => ?_⟩ (by omega) (gc_to rfl (by simp [idFreeL, AV.idFree, *]; done))
    rcases (by omega : j < i ∨ j = i) with h | rfl
    · exact hb j h
    · exact fun e => absurd e.symm (by assumption)
  · have hm : ¬ v ∈ l := fun h => by
      obtain ⟨j, hj, e⟩ := List.getElem_of_mem h
      refine hb j (by omega) ?_
      rw [getI_nat]; simp [hj, e]
    rw [if_neg hm]
    exact fin_t rfl rfl rfl
theorem c52 {x : AV} {l : List Int} (hx : IsL x l) {v : Int} (hl : l.length < 100) {m : Nat} (hm : 102 ≤ m) (H : Heap) : callPure (evF tab it m) true 52 [x, .int .i64 v] H = some (.int .i64 (if v ∈ l then (l.idxOf v : Int) else -1), H) :=
  callPure_free (by simp [idFreeL, hx.free, AV.idFree]) (by simp) (f52 hx v hl m hm) rfl
/-- slices.Contains -/
theorem f51 {x : AV} {l : List Int} (hx : IsL x l) (v : Int) (hl : l.length < 100) (m : Nat) (hm : 103 ≤ m) : evF tab it m 51 [x, .int .i64 v] [] = some (.bool (decide (v ∈ l)), []) := by
  obtain ⟨m, rfl⟩ : ∃ j, m = j + 1 := ⟨m - 1, by omega⟩
  refine f_enter rfl rfl ?_
  have h52 := fun H => c52 hx (v := v) hl (m := m) (by omega) H
  by_cases hv : v ∈ l
  · simp only [if_pos hv] at h52
    repeat' first
 | (apply s_mov; (focus ((conv => lhs; whnf); done)))
 | (apply c_nil)
 | ((first | apply s_lss | apply s_leq | apply s_gtr | apply s_geq | apply s_eql | apply s_neq); exact rfl; all_goals (intro _; try (exfalso; omega)))
 | (apply s_cn; (focus (repeat (first | apply opds_nil | (apply opds_cons; (first | (focus ((conv => lhs; whnf); done)) | exact rfl))))); exact h52 _)
 | (apply c_seq)
 | (apply c_reg)
 | (apply c_ret)
 | (with_reducible apply k_c)
    exact fin_t rfl rfl (leafT hv)
  · simp only [if_neg hv] at h52
    repeat' first
 | (apply s_mov; (focus ((conv => lhs; whnf); done)))
 | (apply c_nil)
 | ((first | apply s_lss | apply s_leq | apply s_gtr | apply s_geq | apply s_eql | apply s_neq); exact rfl; all_goals (intro _; try (exfalso; omega)))
 | (apply s_cn; (focus (repeat (first | apply opds_nil | (apply opds_cons; (first | (focus ((conv => lhs; whnf); done)) | exact rfl))))); exact h52 _)
 | (apply c_seq)
 | (apply c_reg)
 | (apply c_ret)
 | (with_reducible apply k_c)
    exact fin_t rfl rfl (leafF hv)
theorem c51 {x : AV} {l : List Int} (hx : IsL x l) {v : Int} (hl : l.length < 100) {m : Nat} (hm : 103 ≤ m) (H : Heap) : callPure (evF tab it m) true 51 [x, .int .i64 v] H = some (.bool (decide (v ∈ l)), H) :=
  callPure_free (by simp [idFreeL, hx.free, AV.idFree]) (by simp) (f51 hx v hl m hm) rfl
/-- slices.Clone of a list with numbers -/
theorem c53 {x : AV} {l : List Int} (hx : IsL x l) (h0 : l ≠ []) (hl : l.length < 100) {m : Nat} (hm : 2 ≤ m) (H : Heap) : callPure (evF tab it m) true 53 [x] H = some (fzL l, H) := by
  refine callPure_frz (by simp [idFreeL, hx.free]) (by simp) (v := ownV 0 (iL l)) (H1 := owH (iL l)) ?_ (frz_own _)
  obtain ⟨m, rfl⟩ : ∃ j, m = j + 1 := ⟨m - 1, by omega⟩
  cases hx with
  | nil => exact absurd rfl h0
  | rd l =>
    rcases l with _ | ⟨c, cs⟩
    · exact absurd rfl h0
    · have bl : ∀ call, evE call [] (.bldS true false 1 0 [.int .i64 0] []) [] = some (.sl 0 1 0 0, [some (.data [])]) := fun call => rfl
      refine f_enter rfl rfl ?_
      repeat' first
 | (apply s_mov; (focus ((conv => lhs; whnf); done)))
 | (apply c_nil)
 | (apply s_en; (focus (repeat (first | apply opds_nil | (apply opds_cons; (first | (focus ((conv => lhs; whnf); done)) | exact rfl))))); exact bl _)
 | (apply s_en; (focus (repeat (first | apply opds_nil | (apply opds_cons; (first | (focus ((conv => lhs; whnf); done)) | exact rfl))))); exact e_app_sl rfl rfl (by simp) (by simp at hl ⊢; unfold most; omega))
 | (apply s_pd; (focus ((conv => lhs; whnf); done)))
 | (apply c_seq)
 | (apply c_reg)
 | (apply c_skip)
 | (apply c_ret)
 | (apply c_condF; exact rfl)
 | (with_reducible apply k_c)
      simp [finish, ress, resOf, look, tupOf, iL, ownV, owH, gc, subHeap, reach_new, reach_end, rangeL, roots, boxCells, nodupB, posOf, renL, AV.ren, pickO, renH, renO]
theorem c53w {x : AV} {l : List Int} (hx : IsL x l) (h0 : l ≠ []) (hl : l.length < 100) {m : Nat} (hm : 2 ≤ m) (H : Heap) : callPure (evF tab it m) false 53 [x] H = some (.sl H.length 1 0 (iL l).length, H ++ [some (.data (iL l))]) := by
  have hf : frzL H 40 [x] = some [x] := frzL_free H 40 [x] (by simp) (by simp [idFreeL, hx.free])
  have hr : evF tab it m 53 [x] [] = some (.sl 0 1 0 (iL l).length, [some (.data (iL l))]) := by
    obtain ⟨m, rfl⟩ : ∃ j, m = j + 1 := ⟨m - 1, by omega⟩
    cases hx with
    | nil => exact absurd rfl h0
    | rd l =>
      rcases l with _ | ⟨c, cs⟩
      · exact absurd rfl h0
      · have bl : ∀ call, evE call [] (.bldS true false 1 0 [.int .i64 0] []) [] = some (.sl 0 1 0 0, [some (.data [])]) := fun call => rfl
        refine f_enter rfl rfl ?_
        repeat' first
 | (apply s_mov; (focus ((conv => lhs; whnf); done)))
 | (apply c_nil)
 | (apply s_en; (focus (repeat (first | apply opds_nil | (apply opds_cons; (first | (focus ((conv => lhs; whnf); done)) | exact rfl))))); exact bl _)
 | (apply s_en; (focus (repeat (first | apply opds_nil | (apply opds_cons; (first | (focus ((conv => lhs; whnf); done)) | exact rfl))))); exact e_app_sl rfl rfl (by simp) (by simp at hl ⊢; unfold most; omega))
 | (apply s_pd; (focus ((conv => lhs; whnf); done)))
 | (apply c_seq)
 | (apply c_reg)
 | (apply c_skip)
 | (apply c_ret)
 | (apply c_condF; exact rfl)
 | (with_reducible apply k_c)
        simp [finish, ress, resOf, look, tupOf, iL, gc, subHeap, reach_new, reach_end, rangeL, roots, boxCells, nodupB, posOf, renL, AV.ren, pickO, renH, renO]
  simp only [callPure, hf, hr, Option.bind_some]
  simp [AV.hasRd, HO.hasRd, iL_noRd, shiftH, AV.ren, renH, renO]
theorem fzL_ne {l : List Int} {n : Nat} (h : l.length = n) (hn : 1 ≤ n) : fzL l = .rd 1 n (iL l) := by
  rcases l with _ | ⟨a, r⟩
  · simp at h; omega
  · subst h; simp [fzL]
theorem fzLL_ne {l : List (List Int)} {n : Nat} (h : l.length = n) (hn : 1 ≤ n) : fzLL l = .rd 1 n (l.map fzL) := by
  rcases l with _ | ⟨a, r⟩
  · simp at h; omega
  · subst h; simp [fzLL]
def turnG (g : Gm) : Gm := ⟨g.owner.map (1 - ·), g.rank.map (· + 1), g.next⟩
def oT (a : Gm) (i : Nat) : List AV := iL ((a.owner.take i).map (1 - ·))
def rT (a : Gm) (i : Nat) : List AV := iL ((a.rank.take i).map (· + 1))
def nT (a : Gm) (i : Nat) : List AV := (a.next.take i).map fzL
theorem oT_succ (a : Gm) {i : Nat} (h : i < a.owner.length) : oT a (i + 1) = oT a i ++ [.int .i64 (1 - getI a.owner i)] := by
  simp only [oT, iL, List.take_add_one, List.getElem?_eq_getElem h, Option.toList_some, List.map_append, List.map_cons, List.map_nil, getI_nat, List.getD, Option.getD_some]
theorem rT_succ (a : Gm) {i : Nat} (h : i < a.rank.length) : rT a (i + 1) = rT a i ++ [.int .i64 (getI a.rank i + 1)] := by
  simp only [rT, iL, List.take_add_one, List.getElem?_eq_getElem h, Option.toList_some, List.map_append, List.map_cons, List.map_nil, getI_nat, List.getD, Option.getD_some]
theorem nT_succ (a : Gm) {i : Nat} (h : i < a.next.length) : nT a (i + 1) = nT a i ++ [fzL (getLL a.next i)] := by
  simp only [nT, List.take_add_one, List.getElem?_eq_getElem h, Option.toList_some, List.map_append, List.map_cons, List.map_nil, getLL_nat, List.getD, Option.getD_some]
theorem oT_len (a : Gm) {i : Nat} (h : i ≤ a.owner.length) : (oT a i).length = i := by simp [oT, iL]; omega
theorem rT_len (a : Gm) {i : Nat} (h : i ≤ a.rank.length) : (rT a i).length = i := by simp [rT, iL]; omega
theorem nT_len (a : Gm) {i : Nat} (h : i ≤ a.next.length) : (nT a i).length = i := by simp [nT]; omega
theorem oT_zero (a : Gm) : oT a 0 = [] := by simp [oT, iL]
theorem rT_zero (a : Gm) : rT a 0 = [] := by simp [rT, iL]
theorem nT_zero (a : Gm) : nT a 0 = [] := by simp [nT]
def nR (a : Gm) (i : Nat) : List (List AV) := (a.next.take i).map iL
theorem nR_succ (a : Gm) {i : Nat} (h : i < a.next.length) : nR a (i + 1) = nR a i ++ [iL (getLL a.next i)] := by
  simp only [nR, List.take_add_one, List.getElem?_eq_getElem h, Option.toList_some, List.map_append, List.map_cons, List.map_nil, getLL_nat, List.getD, Option.getD_some]
theorem nR_len (a : Gm) {i : Nat} (h : i ≤ a.next.length) : (nR a i).length = i := by simp [nR]; omega
theorem nR_zero (a : Gm) : nR a 0 = [] := by simp [nR]
def hp33 (b0 b1 : Option HO) (a : Gm) (i : Nat) : Heap := match i with
  | 0 => [b0, b1, some (.box [.nilS, .nilS, .nilS])]
  | j + 1 => b0 :: b1 :: some (.box [.sl 3 1 0 (j + 1), .sl 4 1 0 (j + 1), .sl 5 1 0 (j + 1)]) :: some (.data (oT a (j + 1))) :: some (.data (rT a (j + 1))) :: some (.box (refs (List.range' 6 (j + 1)) (nR a (j + 1)))) :: rowsH (nR a (j + 1))
theorem gcA {H : Heap} {xo xr xn : AV} {io ir ib n : Nat} {o r : List AV} {is : List Nat} {R : List (List AV)} {a b : Int} (fo : xo.idFree = true) (fr : xr.idFree = true) (fn : xn.idFree = true)
    (g0 : H[0]? = some (some (.box [xo, xr, xn]))) (g1 : H[1]? = some (some (.box [.nilS, .nilS, .nilS]))) (g2 : H[2]? = some (some (.box [.sl io 1 0 n, .sl ir 1 0 n, .sl ib 1 0 n])))
    (ho : H[io]? = some (some (.data o))) (hr : H[ir]? = some (some (.data r))) (hb : H[ib]? = some (some (.box (refs is R)))) (hl : is.length = R.length)
    (hR : ∀ (j i : Nat) (l : List AV), is[j]? = some i → R[j]? = some l → H[i]? = some (some (.data l))) (hd : (0 :: 1 :: 2 :: io :: ir :: ib :: is).Nodup) (hk : is.length < 50) :
    gc 0 [.ptr 0 0, .ptr 1 0, .ptr 2 0, xn, .int .i64 a, .int .i64 b] H = some ([.ptr 0 0, .ptr 1 0, .ptr 2 0, xn, .int .i64 a, .int .i64 b],
      some (.box [xo, xr, xn]) :: some (.box [.nilS, .nilS, .nilS]) :: some (.box [.sl 3 1 0 n, .sl 4 1 0 n, .sl 5 1 0 n]) :: some (.data o) :: some (.data r) :: some (.box (refs (List.range' 6 is.length) R)) :: rowsH R) := by
  have hφ : nodupB (0 :: 1 :: 2 :: io :: ir :: ib :: is) = true := nodupB_iff.2 hd
  have p0 : posOf (0 :: 1 :: 2 :: io :: ir :: ib :: is) 0 = some 0 := posOf_of_get hφ (j := 0) rfl
  have p1 : posOf (0 :: 1 :: 2 :: io :: ir :: ib :: is) 1 = some 1 := posOf_of_get hφ (j := 1) rfl
  have p2 : posOf (0 :: 1 :: 2 :: io :: ir :: ib :: is) 2 = some 2 := posOf_of_get hφ (j := 2) rfl
  have p3 : posOf (0 :: 1 :: 2 :: io :: ir :: ib :: is) io = some 3 := posOf_of_get hφ (j := 3) rfl
  have p4 : posOf (0 :: 1 :: 2 :: io :: ir :: ib :: is) ir = some 4 := posOf_of_get hφ (j := 4) rfl
  have p5 : posOf (0 :: 1 :: 2 :: io :: ir :: ib :: is) ib = some 5 := posOf_of_get hφ (j := 5) rfl
  have pr : renL (posOf (0 :: 1 :: 2 :: io :: ir :: ib :: is)) (refs is R) = some (refs (List.range' 6 is.length) R) := renL_refs hφ is R 6 hl fun j i h => by rw [Nat.add_comm]; exact h
  have hpick := pickO_refs is R hl hR
  refine gc_of (φ := 0 :: 1 :: 2 :: io :: ir :: ib :: is) ?_ hφ (vs' := [.ptr 0 0, .ptr 1 0, .ptr 2 0, xn, .int .i64 a, .int .i64 b]) ?_ (Hp := some (.box [xo, xr, xn]) :: some (.box [.nilS, .nilS, .nilS]) :: some (.box [.sl io 1 0 n, .sl ir 1 0 n, .sl ib 1 0 n]) :: some (.data o) :: some (.data r) :: some (.box (refs is R)) :: rowsH R) ?_ ?_
  · have b0 : boxCells H 0 = [xo, xr, xn] := by simp [boxCells, g0]
    have b1 : boxCells H 1 = [.nilS, .nilS, .nilS] := by simp [boxCells, g1]
    have b2 : boxCells H 2 = [.sl io 1 0 n, .sl ir 1 0 n, .sl ib 1 0 n] := by simp [boxCells, g2]
    have e : reach H 400 (rangeL 0 []) (roots H (rangeL 0 []) ++ [.ptr 0 0, .ptr 1 0, .ptr 2 0, xn, .int .i64 a, .int .i64 b]) = reach H 391 [0, 1, 2] (.sl io 1 0 n :: .sl ir 1 0 n :: .sl ib 1 0 n :: [xn, .int .i64 a, .int .i64 b]) := by
      simp [rangeL, roots, reach_newp, b0, b1, b2, reach_skip, fo, fr, fn, reach_nilS]
    rw [e, reach_game ho hr hb hl hR hd (by omega)]
    obtain ⟨q, hq⟩ : ∃ q, 391 - 3 - is.length = q + 3 := ⟨388 - is.length - 3, by omega⟩
    rw [hq, reach_skip fn, reach_int, reach_int, reach_end]
    rfl
  · simp [renL, AV.ren, ren_self fn, p0, p1, p2]
  · simp [pickO, g0, g1, g2, ho, hr, hb, hpick]
  · simp [renH, renO, renL, AV.ren, ren_self fo, ren_self fr, ren_self fn, p3, p4, p5, pr, renH_rows]
theorem gcB {H : Heap} {io ir ib n : Nat} {o r : List AV} {is : List Nat} {R : List (List AV)}
    (g1 : H[1]? = some (some (.box [.nilS, .nilS, .nilS]))) (g2 : H[2]? = some (some (.box [.sl io 1 0 n, .sl ir 1 0 n, .sl ib 1 0 n])))
    (ho : H[io]? = some (some (.data o))) (hr : H[ir]? = some (some (.data r))) (hb : H[ib]? = some (some (.box (refs is R)))) (hl : is.length = R.length)
    (hR : ∀ (j i : Nat) (l : List AV), is[j]? = some i → R[j]? = some l → H[i]? = some (some (.data l))) (hd : (1 :: 2 :: io :: ir :: ib :: is).Nodup) (hk : is.length < 50) :
    gc 0 [.ptr 1 0, .ptr 2 0] H = some ([.ptr 0 0, .ptr 1 0],
      some (.box [.nilS, .nilS, .nilS]) :: some (.box [.sl 2 1 0 n, .sl 3 1 0 n, .sl 4 1 0 n]) :: some (.data o) :: some (.data r) :: some (.box (refs (List.range' 5 is.length) R)) :: rowsH R) := by
  have hφ : nodupB (1 :: 2 :: io :: ir :: ib :: is) = true := nodupB_iff.2 hd
  have p1 : posOf (1 :: 2 :: io :: ir :: ib :: is) 1 = some 0 := posOf_of_get hφ (j := 0) rfl
  have p2 : posOf (1 :: 2 :: io :: ir :: ib :: is) 2 = some 1 := posOf_of_get hφ (j := 1) rfl
  have p3 : posOf (1 :: 2 :: io :: ir :: ib :: is) io = some 2 := posOf_of_get hφ (j := 2) rfl
  have p4 : posOf (1 :: 2 :: io :: ir :: ib :: is) ir = some 3 := posOf_of_get hφ (j := 3) rfl
  have p5 : posOf (1 :: 2 :: io :: ir :: ib :: is) ib = some 4 := posOf_of_get hφ (j := 4) rfl
  have pr : renL (posOf (1 :: 2 :: io :: ir :: ib :: is)) (refs is R) = some (refs (List.range' 5 is.length) R) := renL_refs hφ is R 5 hl fun j i h => by rw [Nat.add_comm]; exact h
  have hpick := pickO_refs is R hl hR
  refine gc_of (φ := 1 :: 2 :: io :: ir :: ib :: is) ?_ hφ (vs' := [.ptr 0 0, .ptr 1 0]) ?_ (Hp := some (.box [.nilS, .nilS, .nilS]) :: some (.box [.sl io 1 0 n, .sl ir 1 0 n, .sl ib 1 0 n]) :: some (.data o) :: some (.data r) :: some (.box (refs is R)) :: rowsH R) ?_ ?_
  · have b1 : boxCells H 1 = [.nilS, .nilS, .nilS] := by simp [boxCells, g1]
    have b2 : boxCells H 2 = [.sl io 1 0 n, .sl ir 1 0 n, .sl ib 1 0 n] := by simp [boxCells, g2]
    have e : reach H 400 (rangeL 0 []) (roots H (rangeL 0 []) ++ [.ptr 1 0, .ptr 2 0]) = reach H 395 [1, 2] (.sl io 1 0 n :: .sl ir 1 0 n :: .sl ib 1 0 n :: []) := by
      simp [rangeL, roots, reach_newp, b1, b2, reach_nilS]
    rw [e, reach_game ho hr hb hl hR hd (by omega), reach_end]
    rfl
  · simp [renL, AV.ren, p1, p2]
  · simp [pickO, g1, g2, ho, hr, hb, hpick]
  · simp [renH, renO, renL, AV.ren, p3, p4, p5, pr, renH_rows]
theorem gcC {H : Heap} {io ir ib n : Nat} {o r : List AV} {is : List Nat} {R : List (List AV)} {e : Int}
    (ho : H[io]? = some (some (.data o))) (hr : H[ir]? = some (some (.data r))) (hb : H[ib]? = some (some (.box (refs is R)))) (hl : is.length = R.length)
    (hR : ∀ (j i : Nat) (l : List AV), is[j]? = some i → R[j]? = some l → H[i]? = some (some (.data l))) (hd : (io :: ir :: ib :: is).Nodup) (hk : is.length < 50) :
    gc 0 [.tup [.agg [.sl io 1 0 n, .sl ir 1 0 n, .sl ib 1 0 n], .int .i64 e]] H = some ([.tup [.agg [.sl 0 1 0 n, .sl 1 1 0 n, .sl 2 1 0 n], .int .i64 e]],
      some (.data o) :: some (.data r) :: some (.box (refs (List.range' 3 is.length) R)) :: rowsH R) := by
  have hφ : nodupB (io :: ir :: ib :: is) = true := nodupB_iff.2 hd
  have p3 : posOf (io :: ir :: ib :: is) io = some 0 := posOf_of_get hφ (j := 0) rfl
  have p4 : posOf (io :: ir :: ib :: is) ir = some 1 := posOf_of_get hφ (j := 1) rfl
  have p5 : posOf (io :: ir :: ib :: is) ib = some 2 := posOf_of_get hφ (j := 2) rfl
  have pr : renL (posOf (io :: ir :: ib :: is)) (refs is R) = some (refs (List.range' 3 is.length) R) := renL_refs hφ is R 3 hl fun j i h => by rw [Nat.add_comm]; exact h
  have hpick := pickO_refs is R hl hR
  refine gc_of (φ := io :: ir :: ib :: is) ?_ hφ (vs' := [.tup [.agg [.sl 0 1 0 n, .sl 1 1 0 n, .sl 2 1 0 n], .int .i64 e]]) ?_ (Hp := some (.data o) :: some (.data r) :: some (.box (refs is R)) :: rowsH R) ?_ ?_
  · have e1 : reach H 400 (rangeL 0 []) (roots H (rangeL 0 []) ++ [.tup [.agg [.sl io 1 0 n, .sl ir 1 0 n, .sl ib 1 0 n], .int .i64 e]]) = reach H 398 [] (.sl io 1 0 n :: .sl ir 1 0 n :: .sl ib 1 0 n :: [.int .i64 e]) := by
      simp [rangeL, roots, reach_tup, reach_agg, idFreeL, AV.idFree]
    rw [e1, reach_game ho hr hb hl hR hd (by omega)]
    obtain ⟨q, hq⟩ : ∃ q, 398 - 3 - is.length = q + 1 := ⟨395 - is.length - 1, by omega⟩
    rw [hq, reach_int, reach_end]
    rfl
  · simp [renL, AV.ren, idFreeL, AV.idFree, p3, p4, p5]
  · simp [pickO, ho, hr, hb, hpick]
  · simp [renH, renO, pr, renH_rows]
set_option maxHeartbeats 2000000
theorem e33 {x : AV} {a : Gm} (hx : IsG x a) (ha : a.next.length < 50 ∧ a.rank.length < 50 ∧ ∀ l ∈ a.next, l.length < 50) (hc : Good a ∧ ¬ (9 : Int) ∈ a.rank) (m : Nat) (hm : 105 ≤ m) :
    evF tab it m 33 [x] [] = some (.tup [.agg [.sl 0 1 0 a.next.length, .sl 1 1 0 a.next.length, .sl 2 1 0 a.next.length], .int .i64 0],
      some (.data (iL (a.owner.map (1 - ·)))) :: some (.data (iL (a.rank.map (· + 1)))) :: some (.box (refs (List.range' 3 a.next.length) (a.next.map iL))) :: rowsH (a.next.map iL)) := by
  obtain ⟨m, rfl⟩ : ∃ j, m = j + 1 := ⟨m - 1, by omega⟩
  have hx' := hx
  obtain ⟨xo, xr, xn, rfl, ho, hr, hn⟩ := hx
  have fo := ho.free; have fr := hr.free; have fn := hn.free
  have ob : ∀ call, evE call [] (.box false) [.agg [xo, xr, xn]] = some (.ptr 0 0, [some (.box [xo, xr, xn])]) := fun call => by simp [evE, AV.cells, oneL, ho.one, hr.one, hn.one, mkHO]
  have hrow := getLL_lt ha.2.2 (by omega)
  obtain ⟨hg, h9⟩ := hc
  have hg1 := hg.1; have hg2 := hg.2.1; have hg3 := hg.2.2.1
  refine f_enter rfl rfl ?_
  repeat' first
 | (apply s_mov; (focus ((conv => lhs; whnf); done)))
 | (apply s_gT; exact rfl)
 | (apply s_gF; exact rfl)
 | (apply s_gFD; exact rfl)
 | (apply c_nil)
 | (apply s_pickT; exact rfl; (focus ((conv => lhs; whnf); done)))
 | (apply s_pickF; exact rfl; (focus ((conv => lhs; whnf); done)))
 | (apply s_notT; exact rfl)
 | (apply s_notF; exact rfl)
 | (apply s_en; (focus (repeat (first | apply opds_nil | (apply opds_cons; (first | (focus ((conv => lhs; whnf); done)) | exact rfl))))); exact ob _)
 | (apply isE; refine s_cB (by (focus (repeat (first | apply opds_nil | (apply opds_cons; (first | (focus ((conv => lhs; whnf); done)) | exact rfl)))))) (c39 hx' ⟨by omega, fun l hl => by have := ha.2.2 l hl; omega⟩ (by omega) _) (fun _ => ?_) (fun _ => ?_))
 | (apply isE; refine s_cB (by (focus (repeat (first | apply opds_nil | (apply opds_cons; (first | (focus ((conv => lhs; whnf); done)) | exact rfl)))))) (c51 hr (by omega) (by omega) _) (fun _ => ?_) (fun _ => ?_))
 | (apply isE; apply s_ed; (focus ((conv => lhs; whnf); done)))
 | (apply s_lenLL; (focus ((conv => lhs; whnf); done)); assumption)
 | (apply s_pd; (focus ((conv => lhs; whnf); done)))
 | (apply c_seq)
 | (apply c_reg)
 | (apply c_block)
 | (apply c_skip)
 | (apply c_condT; exact rfl)
 | (apply c_condF; exact rfl)
 | (with_reducible apply k_c)
  any_goals contradiction
  refine c_loop ?_
  refine loop_gc (σ := Nat) (fun i => [.ptr 0 0, .ptr 1 0, .ptr 2 0, xn, .int .i64 a.next.length, .int .i64 i]) (fun i => hp33 (some (.box [xo, xr, xn])) (some (.box [.nilS, .nilS, .nilS])) a i) (fun i => i ≤ a.next.length) (fun i => a.next.length - i) ?_ _ 0 _ _ (by omega) (by omega) (by simp [go_sem, fo, fr, fn, hp33]; done)
  intro i hi K hK
  have hok : i < a.next.length → (0 ≤ getI a.owner i ∧ getI a.owner i ≤ 1) ∧ (0 ≤ getI a.rank i ∧ getI a.rank i ≤ 9) := fun h => ⟨(hg.2.2.2 i h).1, (hg.2.2.2 i h).2.1⟩
  have hne : i < a.next.length → getLL a.next i ≠ [] := fun h => (hg.2.2.2 i h).2.2.1
  rcases i with _ | j
  · simp only [hp33]
    repeat' first
 | (apply s_mov; (focus ((conv => lhs; whnf); done)))
 | (apply c_nil)
 | ((first | apply s_lss | apply s_leq | apply s_gtr | apply s_geq | apply s_eql | apply s_neq); exact rfl; all_goals (intro _; try (exfalso; omega)))
 | ((first | apply s_add | apply s_sub); exact rfl; omega)
 | (apply s_cn; (focus (repeat (first | apply opds_nil | (apply opds_cons; (first | (focus ((conv => lhs; whnf); done)) | exact rfl))))); exact c53w (by first | assumption | exact IsLL.at (by assumption) (by omega)) (hne (by omega)) (by have := hrow ((0 : Nat) : Int); omega) (by omega) _)
 | (apply s_en; (focus (repeat (first | apply opds_nil | (apply opds_cons; (first | (focus ((conv => lhs; whnf); done)) | exact rfl))))); exact e_bld1 rfl rfl rfl rfl)
 | (apply s_en; (focus (repeat (first | apply opds_nil | (apply opds_cons; (first | (focus ((conv => lhs; whnf); done)) | exact rfl))))); exact e_bldB1 rfl rfl rfl)
 | (apply s_en; (focus (repeat (first | apply opds_nil | (apply opds_cons; (first | (focus ((conv => lhs; whnf); done)) | exact rfl))))); exact e_app_nil rfl (by omega) (by decide))
 | (apply s_en; (focus (repeat (first | apply opds_nil | (apply opds_cons; (first | (focus ((conv => lhs; whnf); done)) | exact rfl))))); exact e_appB_nil rfl rfl (by omega) (by decide))
 | (apply isE; apply s_st; (focus (repeat (first | apply opds_nil | (apply opds_cons; (first | (focus ((conv => lhs; whnf); done)) | exact rfl))))); (focus ((conv => lhs; whnf); done)))
 | (apply s_idx; (focus ((conv => lhs; whnf); done)); exact rfl; (first | assumption | (apply IsLL.at; assumption; omega)); omega)
 | (apply s_idxLL; (focus ((conv => lhs; whnf); done)); exact rfl; assumption; omega)
 | (apply s_ldI; exact rfl; omega)
 | (apply s_ldLL; exact rfl; assumption; omega)
 | (apply s_pd; (focus ((conv => lhs; whnf); done)))
 | (apply c_seq)
 | (apply c_reg)
 | (apply c_block)
 | (apply c_skip)
 | (apply c_condT; exact rfl)
 | (with_reducible apply k_c)
    · refine hK 1 _ _ (by omega) (by omega) ?_
      have e1 := oT_succ a (i := 0) (by omega)
      have e2 := rT_succ a (i := 0) (by omega)
      have e3 := nR_succ a (i := 0) (by omega)
      rw [oT_zero] at e1
      rw [rT_zero] at e2
      rw [nR_zero] at e3
      simp only [Nat.zero_add, List.nil_append] at e1 e2 e3
      simp only [hp33, Nat.zero_add, e1, e2, e3]
      exact (by simp [go_sem, fo, fr, fn, refs, rowsH]; done)
  · have lo := oT_len a (i := j + 1) (by omega)
    have lr := rT_len a (i := j + 1) (by omega)
    have ln := nR_len a (i := j + 1) (by omega)
    simp only [hp33]
    repeat' first
 | (apply s_mov; (focus ((conv => lhs; whnf); done)))
 | (apply c_nil)
 | ((first | apply s_lss | apply s_leq | apply s_gtr | apply s_geq | apply s_eql | apply s_neq); exact rfl; all_goals (intro _; try (exfalso; omega)))
 | ((first | apply s_add | apply s_sub); exact rfl; omega)
 | (apply s_cn; (focus (repeat (first | apply opds_nil | (apply opds_cons; (first | (focus ((conv => lhs; whnf); done)) | exact rfl))))); exact c53w (by first | assumption | exact IsLL.at (by assumption) (by omega)) (hne (by omega)) (by have := hrow ((j + 1 : Nat) : Int); omega) (by omega) _)
 | (apply s_en; (focus (repeat (first | apply opds_nil | (apply opds_cons; (first | (focus ((conv => lhs; whnf); done)) | exact rfl))))); exact e_bld1 rfl rfl rfl rfl)
 | (apply s_en; (focus (repeat (first | apply opds_nil | (apply opds_cons; (first | (focus ((conv => lhs; whnf); done)) | exact rfl))))); exact e_bldB1 rfl rfl rfl)
 | (apply s_en; (focus (repeat (first | apply opds_nil | (apply opds_cons; (first | (focus ((conv => lhs; whnf); done)) | exact rfl))))); exact e_app_sl rfl (by assumption) (by omega) (by unfold most; omega))
 | (apply s_en; (focus (repeat (first | apply opds_nil | (apply opds_cons; (first | (focus ((conv => lhs; whnf); done)) | exact rfl))))); exact e_appB_sl rfl (by rw [refs_length (by simp; omega)]; assumption) cells_push_new rfl (by omega) (by unfold most; omega))
 | (apply isE; apply s_st; (focus (repeat (first | apply opds_nil | (apply opds_cons; (first | (focus ((conv => lhs; whnf); done)) | exact rfl))))); (focus ((conv => lhs; whnf); done)))
 | (apply s_idx; (focus ((conv => lhs; whnf); done)); exact rfl; (first | assumption | (apply IsLL.at; assumption; omega)); omega)
 | (apply s_idxLL; (focus ((conv => lhs; whnf); done)); exact rfl; assumption; omega)
 | (apply s_ldI; exact rfl; omega)
 | (apply s_ldLL; exact rfl; assumption; omega)
 | (apply s_pd; (focus ((conv => lhs; whnf); done)))
 | (apply c_seq)
 | (apply c_reg)
 | (apply c_block)
 | (apply c_exitH)
 | (apply c_skip)
 | (apply c_condT; exact rfl)
 | (apply c_condF; exact rfl)
 | (with_reducible apply k_c)
    · refine hK (j + 1 + 1) _ _ (by omega) (by omega) ?_
      obtain ⟨row, hrw⟩ : ∃ row, row = iL (getLL a.next ↑(j + 1)) := ⟨_, rfl⟩
      have eN := nR_succ a (i := j + 1) (by omega)
      rw [← hrw] at eN
      have hn0 : (List.range' 6 (j + 1)).length = (nR a (j + 1)).length := by simp [ln]
      have hl' : (List.range' 6 (j + 1) ++ [j + 1 + 6 + 2]).length = (nR a (j + 1) ++ [row]).length := by simp [ln]
      have hre : refs (List.range' 6 (j + 1) ++ [j + 1 + 6 + 2]) (nR a (j + 1) ++ [row]) = refs (List.range' 6 (j + 1)) (nR a (j + 1)) ++ [.sl (j + 1 + 6 + 2) 1 0 row.length] := by
        rw [refs_append hn0]; rfl
      obtain ⟨o', ho'⟩ : ∃ o', o' = oT a (j + 1) ++ [AV.int .i64 (1 - getI a.owner ↑(j + 1))] := ⟨_, rfl⟩
      obtain ⟨r', hr'⟩ : ∃ r', r' = rT a (j + 1) ++ [AV.int .i64 (getI a.rank ↑(j + 1) + 1)] := ⟨_, rfl⟩
      have hX := fun c => get_after [some (.box [xo, xr, xn]), some (.box [.nilS, .nilS, .nilS]), some (.box [.sl (j + 1 + 6 + 0) 1 0 (j + 1 + 1), .sl (j + 1 + 6 + 1) 1 0 (j + 1 + 1), .sl (j + 1 + 6 + 4) 1 0 (j + 1 + 1)]), none, none, none]
        [some (.data o'), some (.data r'), some (.data row), some (.box [.sl (j + 1 + 6 + 2) 1 0 row.length]), some (.box (refs (List.range' 6 (j + 1) ++ [j + 1 + 6 + 2]) (nR a (j + 1) ++ [row])))] (s := 6) (q := j + 1) (c := c) (R := nR a (j + 1)) rfl ln
      have hY := rng_rows [some (.box [xo, xr, xn]), some (.box [.nilS, .nilS, .nilS]), some (.box [.sl (j + 1 + 6 + 0) 1 0 (j + 1 + 1), .sl (j + 1 + 6 + 1) 1 0 (j + 1 + 1), .sl (j + 1 + 6 + 4) 1 0 (j + 1 + 1)]), none, none, none]
        [some (.data o'), some (.data r'), some (.data row), some (.box [.sl (j + 1 + 6 + 2) 1 0 row.length]), some (.box (refs (List.range' 6 (j + 1) ++ [j + 1 + 6 + 2]) (nR a (j + 1) ++ [row])))] (s := 6) (q := j + 1) (R := nR a (j + 1)) rfl
      refine (gc_eq (show _ = [.ptr 0 0, .ptr 1 0, .ptr 2 0, xn, .int .i64 a.next.length, .int .i64 (((j + 1 : Nat) : Int) + 1)] from rfl)
        (show _ = [some (.box [xo, xr, xn]), some (.box [.nilS, .nilS, .nilS]), some (.box [.sl (j + 1 + 6 + 0) 1 0 (j + 1 + 1), .sl (j + 1 + 6 + 1) 1 0 (j + 1 + 1), .sl (j + 1 + 6 + 4) 1 0 (j + 1 + 1)]), none, none, none] ++ (rowsH (nR a (j + 1)) ++
          [some (.data o'), some (.data r'), some (.data row), some (.box [.sl (j + 1 + 6 + 2) 1 0 row.length]), some (.box (refs (List.range' 6 (j + 1) ++ [j + 1 + 6 + 2]) (nR a (j + 1) ++ [row])))]) from ?_)).trans
        ((gcA fo fr fn rfl rfl rfl (hX 0) (hX 1) (hX 4) hl' ?_ ?_ (by simp; omega)).trans ?_)
      · rw [hre, ho', hr', hrw]
        simp [putRow, rowsH_length, ln, cells_sl]
      · intro k i l h1 h2
        rcases Nat.lt_or_ge k (j + 1) with hk | hk
        · rw [List.getElem?_append_left (by simpa using hk)] at h1
          rw [List.getElem?_append_left (by rw [ln]; exact hk)] at h2
          exact hY k i l h1 h2
        · have : k = j + 1 := by
            have := (List.getElem?_eq_some_iff.1 h2).1
            simp [ln] at this; omega
          subst this
          rw [List.getElem?_append_right (by simp)] at h1
          rw [List.getElem?_append_right (by rw [ln]; exact Nat.le_refl _)] at h2
          simp [ln] at h1 h2
          subst h1; subst h2
          exact hX 2
      · exact nd_grow (j + 1)
      · simp only [hp33, oT_succ a (i := j + 1) (by omega), rT_succ a (i := j + 1) (by omega), eN, ← ho', ← hr']
        simp
    · have hn' : a.next.length = j + 1 := by omega
      have hl0 : (List.range' 6 (j + 1)).length = (nR a (j + 1)).length := by simp [ln]
      have hgB := gcB (H := some (HO.box [xo, xr, xn]) :: some (.box [.nilS, .nilS, .nilS]) :: some (.box [.sl 3 1 0 (j + 1), .sl 4 1 0 (j + 1), .sl 5 1 0 (j + 1)]) :: some (.data (oT a (j + 1))) :: some (.data (rT a (j + 1))) :: some (.box (refs (List.range' 6 (j + 1)) (nR a (j + 1)))) :: rowsH (nR a (j + 1)))
        rfl rfl rfl rfl rfl hl0 (rng_rows0 [some (HO.box [xo, xr, xn]), some (.box [.nilS, .nilS, .nilS]), some (.box [.sl 3 1 0 (j + 1), .sl 4 1 0 (j + 1), .sl 5 1 0 (j + 1)]), some (.data (oT a (j + 1))), some (.data (rT a (j + 1))), some (.box (refs (List.range' 6 (j + 1)) (nR a (j + 1))))] rfl) (by simp [List.mem_range'_1, List.nodup_range']) (by simp; omega)
      refine c_pre hgB ?_
      rw [List.length_range']
      have hgC := gcC (e := 0) (n := j + 1) (H := some (HO.box [.sl 2 1 0 (j + 1), .sl 3 1 0 (j + 1), .sl 4 1 0 (j + 1)]) :: some (.box [.sl 2 1 0 (j + 1), .sl 3 1 0 (j + 1), .sl 4 1 0 (j + 1)]) :: some (.data (oT a (j + 1))) :: some (.data (rT a (j + 1))) :: some (.box (refs (List.range' 5 (j + 1)) (nR a (j + 1)))) :: rowsH (nR a (j + 1)))
        (io := 2) (ir := 3) (ib := 4) rfl rfl rfl (by simp [ln]) (rng_rows0 [some (HO.box [.sl 2 1 0 (j + 1), .sl 3 1 0 (j + 1), .sl 4 1 0 (j + 1)]), some (.box [.sl 2 1 0 (j + 1), .sl 3 1 0 (j + 1), .sl 4 1 0 (j + 1)]), some (.data (oT a (j + 1))), some (.data (rT a (j + 1))), some (.box (refs (List.range' 5 (j + 1)) (nR a (j + 1))))] rfl) (by simp [List.mem_range'_1, List.nodup_range']) (by simp; omega)
      rw [List.length_range'] at hgC
      repeat' first
 | (apply s_mov; (focus ((conv => lhs; whnf); done)))
 | (apply c_nil)
 | (apply isE; apply s_st; (focus (repeat (first | apply opds_nil | (apply opds_cons; (first | (focus ((conv => lhs; whnf); done)) | exact rfl))))); (focus ((conv => lhs; whnf); done)))
 | (apply s_pd; (focus ((conv => lhs; whnf); done)))
 | (apply c_seq)
 | (apply c_reg)
 | (apply c_ret)
 | (with_reducible apply k_c)
      have e1 : oT a (j + 1) = iL (a.owner.map (1 - ·)) := by unfold oT; rw [List.take_of_length_le (by omega)]
      have e2 : rT a (j + 1) = iL (a.rank.map (· + 1)) := by unfold rT; rw [List.take_of_length_le (by omega)]
      have e3 : nR a (j + 1) = a.next.map iL := by unfold nR; rw [List.take_of_length_le (by omega)]
      rw [hn', ← e1, ← e2, ← e3]
      simp [finish, ress, resOf, ldc, getRow, Heap.cells?, HO.cells?, wholeOf, look, tupOf, bindEnv, putRow, cells_agg, hgC]
theorem f33 {x : AV} {a : Gm} (hx : IsG x a) (ha : a.next.length < 50 ∧ a.rank.length < 50 ∧ ∀ l ∈ a.next, l.length < 50) (m : Nat) (hm : 105 ≤ m) (H : Heap) :
    callPure (evF tab it m) true 33 [x] H = some (if Good a ∧ ¬ 9 ∈ a.rank then .tup [fzG (turnG a), .int .i64 0] else .tup [.agg [.nilS, .nilS, .nilS], .int .i64 2], H) := by
  by_cases hc : Good a ∧ ¬ (9 : Int) ∈ a.rank
  · rw [if_pos hc]
    refine callPure_frz (by simp [idFreeL, hx.free]) (by simp) (e33 hx ha hc m hm) ?_
    have hg1 := hc.1.1
    have e1 : a.owner.map (1 - ·) = (turnG a).owner := rfl
    have e2 : a.rank.map (· + 1) = (turnG a).rank := rfl
    have l1 : (turnG a).owner.length = a.next.length := by simp [turnG, hc.1.2.1]
    have l2 : (turnG a).rank.length = a.next.length := by simp [turnG, hc.1.2.2.1]
    have k1 : fzL (turnG a).owner = .rd 1 a.next.length (iL (turnG a).owner) := fzL_ne l1 (by omega)
    have k2 : fzL (turnG a).rank = .rd 1 a.next.length (iL (turnG a).rank) := fzL_ne l2 (by omega)
    have k3 : fzLL (turnG a).next = .rd 1 a.next.length (a.next.map fzL) := fzLL_ne rfl (by omega)
    have kr : (a.next.map iL).map (fun l => AV.rd 1 l.length l) = a.next.map fzL := by
      rw [List.map_map]
      refine List.map_congr_left fun l hl => ?_
      obtain ⟨i, hi, rfl⟩ := List.mem_iff_getElem.1 hl
      have h0 := (hc.1.2.2.2 i hi).2.2.1
      rw [getLL_nat] at h0
      simp only [List.getD, List.getElem?_eq_getElem hi, Option.getD_some] at h0
      have h1 := fzL_ne (l := a.next[i]) rfl (by rcases h2 : a.next[i] with _ | _ <;> simp_all)
      rw [h1]
      simp [iL_len]
    simp only [fzG, k1, k2, k3]
    rw [e1, e2]
    obtain ⟨H1, hH1⟩ : ∃ H1 : Heap, H1 = some (HO.data (iL (turnG a).owner)) :: some (.data (iL (turnG a).rank)) :: some (.box (refs (List.range' 3 a.next.length) (a.next.map iL))) :: rowsH (a.next.map iL) := ⟨_, rfl⟩
    rw [← hH1]
    have hfr : ∀ k, 30 < k → frzL H1 (k + 1) (refs (List.range' 3 a.next.length) (a.next.map iL)) = some (a.next.map fzL) := fun k hk => by
      rw [frzL_refs _ _ k (by simp) (by simp; omega), kr]
      rw [hH1]
      exact rng_rows0 [some (HO.data (iL (turnG a).owner)), some (.data (iL (turnG a).rank)), some (.box (refs (List.range' 3 a.next.length) (a.next.map iL)))] rfl
    have d0 : H1.data? 0 = some (iL (turnG a).owner) := by rw [hH1]; rfl
    have d1 : H1.data? 1 = some (iL (turnG a).rank) := by rw [hH1]; rfl
    have d2 : H1.data? 2 = none := by rw [hH1]; rfl
    have d3 : H1.box? 2 = some (refs (List.range' 3 a.next.length) (a.next.map iL)) := by rw [hH1]; rfl
    have f35 := hfr 34 (by omega)
    simp [frzV_tup, frzV_agg, frzL_cons, frzL_nil, frzV_sl, frzV_int, idFreeL, AV.idFree, d0, d1, d2, d3, iL_len, l1, l2, List.take_of_length_le, hfr]
  · rw [if_neg hc]
    have hx' := hx
    obtain ⟨m, rfl⟩ : ∃ j, m = j + 1 := ⟨m - 1, by omega⟩
    obtain ⟨xo, xr, xn, rfl, ho, hr, hn⟩ := hx
    have fo := ho.free; have fr := hr.free; have fn := hn.free
    have ob : ∀ call, evE call [] (.box false) [.agg [xo, xr, xn]] = some (.ptr 0 0, [some (.box [xo, xr, xn])]) := fun call => by simp [evE, AV.cells, oneL, ho.one, hr.one, hn.one, mkHO]
    refine callPure_frz (by simp [idFreeL, hx'.free]) (by simp) (v := .tup [.agg [.nilS, .nilS, .nilS], .int .i64 2]) (H1 := []) ?_ (frzV_free _ _ rfl)
    refine f_enter rfl rfl ?_
    repeat' first
 | (apply s_mov; (focus ((conv => lhs; whnf); done)))
 | (apply s_gT; exact rfl)
 | (apply s_gF; exact rfl)
 | (apply s_gFD; exact rfl)
 | (apply c_nil)
 | (apply s_pickT; exact rfl; (focus ((conv => lhs; whnf); done)))
 | (apply s_pickF; exact rfl; (focus ((conv => lhs; whnf); done)))
 | (apply s_notT; exact rfl)
 | (apply s_notF; exact rfl)
 | (apply s_en; (focus (repeat (first | apply opds_nil | (apply opds_cons; (first | (focus ((conv => lhs; whnf); done)) | exact rfl))))); exact ob _)
 | (apply isE; refine s_cB (by (focus (repeat (first | apply opds_nil | (apply opds_cons; (first | (focus ((conv => lhs; whnf); done)) | exact rfl)))))) (c39 hx' ⟨by omega, fun l hl => by have := ha.2.2 l hl; omega⟩ (by omega) _) (fun _ => ?_) (fun _ => ?_))
 | (apply isE; refine s_cB (by (focus (repeat (first | apply opds_nil | (apply opds_cons; (first | (focus ((conv => lhs; whnf); done)) | exact rfl)))))) (c51 hr (by omega) (by omega) _) (fun _ => ?_) (fun _ => ?_))
 | (apply isE; apply s_st; (focus (repeat (first | apply opds_nil | (apply opds_cons; (first | (focus ((conv => lhs; whnf); done)) | exact rfl))))); (focus ((conv => lhs; whnf); done)))
 | (apply isE; apply s_ed; (focus ((conv => lhs; whnf); done)))
 | (apply s_lenLL; (focus ((conv => lhs; whnf); done)); assumption)
 | (apply s_pd; (focus ((conv => lhs; whnf); done)))
 | (apply c_seq)
 | (apply c_reg)
 | (apply c_block)
 | (apply c_skip)
 | (apply c_ret)
 | (apply c_condT; exact rfl)
 | (apply c_condF; exact rfl)
 | (with_reducible apply k_c)
    any_goals (exfalso; refine hc ⟨?_, ?_⟩ <;> assumption)
    all_goals simp [finish, ress, resOf, ldc, getRow, Heap.cells?, HO.cells?, wholeOf, look, tupOf, putRow, cells_agg, gc_free, idFreeL, AV.idFree]
