/- A part of the proof: Q24. -/
import Derived.Test.YtmeajfgjbebkiaaQ23
set_option linter.unusedSectionVars false
set_option linter.unusedVariables false
set_option linter.unusedSimpArgs false
namespace Go.AM.Pa
attribute [local go_sem] gc subHeap reach_skip ren_free reach_new reach_newp reach_end rangeL roots boxCells nodupB posOf renL AV.ren pickO renH renO looks look bindEnv envOf reach_int reach_bool reach_nilS reach_rd putRow cells_sl cells_int cells_bool cells_nilS cells_rd cells_agg reach_agg reach_tup idFreeL idf_sl idf_ptr idf_int idf_bool idf_nilS idf_rd
theorem fin_cell2 {p id n : Nat} {env : Env} {H : Heap} {b : List Bool} {xo xr xn : AV} {l : Nat} {c : List AV} {res : R} (fo : xo.idFree = true) (fr : xr.idFree = true) (fn : xn.idFree = true) (h : look env p = .ptr id 0) (hH : H.cells? id = some (bL b)) (hl : b.length = n)
    (h0 : H[0]? = some (some (.box [xo, xr, xn, .sl 1 1 0 l]))) (h1 : H[1]? = some (some (.data c))) (e : some (.agg (bL b), [some (.box [xo, xr, xn, .sl 1 1 0 l]), some (.data c)]) = res) : finish 2 [.cell p true n] env H = res := by
  have h2 := p_ldR (n := n) hH hl
  simp only [evP] at h2
  simp [finish, ress, resOf, h, h2, tupOf, gc, subHeap, reach_agg, bL_free, reach_skip, fo, fr, fn, reach_new, reach_end, rangeL, roots, boxCells, h0, h1, nodupB, posOf, renL, AV.ren, pickO, renH, renO, ren_free, ← e]
theorem eqCells_bL : ∀ (x y : List Bool), x.length = y.length → eqCells (List.replicate x.length none) (bL x) (bL y) = some (decide (x = y))
  | [], [], _ => by unfold bL; rfl
  | c :: x, d :: y, h => by
    have ih := eqCells_bL x y (by simpa using h)
    unfold bL at ih ⊢
    simp only [List.map_cons, List.length_cons, List.replicate_succ, eqCells]
    by_cases e : c = d
    · rw [if_pos e, ih]; simp [e]
    · rw [if_neg e]; simp [e]
  | [], _ :: _, h => by simp at h
  | _ :: _, [], h => by simp at h
theorem p_eqZ {H : Heap} {x : List Bool} (hx : x.length = 24) : evP H (.eqagg false [none, none, none, none, none, none, none, none, none, none, none, none, none, none, none, none, none, none, none, none, none, none, none, none]) [.agg (bL x), .agg (bL z24)] = some (.bool (decide (x = z24))) := by
  have h := eqCells_bL x z24 (by rw [hx, z24_len])
  rw [hx] at h
  have e : List.replicate 24 (none : Option IntKind) = [none, none, none, none, none, none, none, none, none, none, none, none, none, none, none, none, none, none, none, none, none, none, none, none] := rfl
  rw [e] at h
  simp only [evP]
  rw [if_pos (by rw [bL_len, hx]; rfl), h]
  simp [negIf]
theorem p_bldZ {H : Heap} : evP H (.bld [.bool false, .bool false, .bool false, .bool false, .bool false, .bool false, .bool false, .bool false, .bool false, .bool false, .bool false, .bool false, .bool false, .bool false, .bool false, .bool false, .bool false, .bool false, .bool false, .bool false, .bool false, .bool false, .bool false, .bool false] []) [] = some (.agg (bL z24)) := by
  unfold bL; rfl
section
variable {xo xr xn : AV} {a : Gm} {n : Nat} (ho : IsL xo a.owner) (hr : IsL xr a.rank) (hn : IsLL xn a.next)
include ho hr hn
/-- won, where solve is known -/
theorem f71 {inn z : List Bool} {mv mv' : List Int} {p : Int} (hinn : inn.length = 24) (hz : z.length = 24) (hmv' : mv'.length = n) {m : Nat} (hm : 107 ≤ m)
    (h64 : evF tab it m 64 [.ptr 0 0, .agg (bL inn)] [some (.box [xo, xr, xn, .sl 1 1 0 n]), some (.data (iL mv))] = some (.agg (bL z), [some (.box [xo, xr, xn, .sl 1 1 0 n]), some (.data (iL mv'))])) :
    evF tab it (m + 1) 71 [.ptr 0 0, .agg (bL inn), .int .i64 p] [some (.box [xo, xr, xn, .sl 1 1 0 n]), some (.data (iL mv))] = some (.agg (bL (asB inn p z)), [some (.box [xo, xr, xn, .sl 1 1 0 n]), some (.data (iL mv'))]) := by
  have fo := ho.free; have fr := hr.free; have fn := hn.free
  have hz24 := z24_len
  have hal := as_len (p := p) hinn hz
  have hmut : ∀ frz R, evE (evF tab it m) (some (.box [xo, xr, xn, .sl 1 1 0 n]) :: some (.data (iL mv)) :: R) (.call false frz 64) [.ptr 0 0, .agg (bL inn)] = some (.agg (bL z), some (.box [xo, xr, xn, .sl 1 1 0 n]) :: some (.data (iL mv')) :: R) := fun frz R =>
    mutG fo fr fn (by simp [idFreeL, aggB_free]) h64 (aggB_free _)
  have h75 : ∀ R, callPure (evF tab it m) true 75 [.ptr 0 0, .agg (bL inn), .int .i64 p, .agg (bL z)] (some (.box [xo, xr, xn, .sl 1 1 0 n]) :: some (.data (iL mv')) :: R) = some (.agg (bL (asB inn p z)), some (.box [xo, xr, xn, .sl 1 1 0 n]) :: some (.data (iL mv')) :: R) := fun R =>
    callG fo fr fn rfl rfl hmv' (by simp [idFreeL, aggB_free, idf_int]) (by simp) (f75 hinn hz (by omega)) (aggB_free _) (aggB_noRd _)
  refine f_enterH rfl rfl ?_
  show RC (evF tab it m) it m _ 2 (finish 2 _) _ (finish 2 _) _ _ _
  repeat' first
 | (apply s_mov; (focus ((conv => lhs; whnf); done)))
 | (apply c_nil)
 | (apply s_en; (focus (repeat (first | apply opds_nil | (apply opds_cons; (first | (focus ((conv => lhs; whnf); done)) | exact rfl))))); exact e_boxR)
 | (apply s_en; (focus (repeat (first | apply opds_nil | (apply opds_cons; (first | (focus ((conv => lhs; whnf); done)) | exact rfl))))); exact e_alR)
 | (apply s_pn; (focus (repeat (first | apply opds_nil | (apply opds_cons; (first | (focus ((conv => lhs; whnf); done)) | exact rfl))))); exact p_ldR rfl hinn)
 | (apply s_enK; (focus (repeat (first | apply opds_nil | (apply opds_cons; (first | (focus ((conv => lhs; whnf); done)) | exact rfl))))); exact hmut _ _; (focus (simp [keptOk, keptV, opds, opd, look, bindEnv, envOf, Heap.cells?, HO.cells?, flatSame, flatSame_bL]; done)))
 | (apply s_cn; (focus (repeat (first | apply opds_nil | (apply opds_cons; (first | (focus ((conv => lhs; whnf); done)) | exact rfl))))); exact h75 _)
 | (apply s_st; (focus (repeat (first | apply opds_nil | (apply opds_cons; (first | (focus ((conv => lhs; whnf); done)) | exact rfl))))); exact e_stR rfl hal hz24)
 | (apply c_seq)
 | (apply c_reg)
 | (apply c_ret)
 | (with_reducible apply k_c)
  exact fin_cell2 fo fr fn rfl rfl hal rfl rfl rfl
set_option maxHeartbeats 4000000
theorem f64 (hg : Good a) (hnn : a.next.length = n) (hrow : ∀ i : Int, (getLL a.next i).length < 50) : ∀ (k : Nat) (inn : List Bool) (mv : List Int), Area a inn → mv.length = n → ct inn < k → ∀ m, 110 + 3 * k ≤ m →
    evF tab it m 64 [.ptr 0 0, .agg (bL inn)] [some (.box [xo, xr, xn, .sl 1 1 0 n]), some (.data (iL mv))] = some (.agg (bL (zsol a k inn mv).1), [some (.box [xo, xr, xn, .sl 1 1 0 n]), some (.data (iL (zsol a k inn mv).2))])
  | 0, _, _, _, _, h, _, _ => by omega
  | k + 1, inn, mv, har, hmv, hct, m, hm => by
    obtain ⟨m, rfl⟩ : ∃ j, m = j + 1 := ⟨m - 1, by omega⟩
    have fo := ho.free; have fr := hr.free; have fn := hn.free
    have hz24 := z24_len
    have hinn := har.len
    have hg1 := hg.1; have hg2 := hg.2.1; have hg3 := hg.2.2.1
    have hin : ∀ i : Nat, getB inn i = true → i < n := fun i h => by have := har.lt i h; omega
    have ob1 : ∀ call H, evE call H (.box false) [.ptr 0 0] = some (.ptr H.length 0, H ++ [some (.box [.ptr 0 0])]) := fun call H => rfl
    have al1 : ∀ call H, evE call H (.alloc true [.int .i64 0]) [] = some (.ptr H.length 0, H ++ [some (.data [.int .i64 0])]) := fun call H => rfl
    by_cases hne : inn = z24
    · simp only [zsol, if_pos hne]
      refine f_enterH rfl rfl ?_
      show RC (evF tab it m) it m _ 2 (finish 2 _) _ (finish 2 _) _ _ _
      have heq : ∀ H, evP H (.eqagg false [none, none, none, none, none, none, none, none, none, none, none, none, none, none, none, none, none, none, none, none, none, none, none, none]) [.agg (bL inn), .agg (bL z24)] = some (.bool true) := fun H => by rw [p_eqZ hinn, hne]; simp
      repeat' first
 | (apply c_nil)
 | (apply s_en; (focus (repeat (first | apply opds_nil | (apply opds_cons; (first | (focus ((conv => lhs; whnf); done)) | exact rfl))))); exact ob1 _ _)
 | (apply s_en; (focus (repeat (first | apply opds_nil | (apply opds_cons; (first | (focus ((conv => lhs; whnf); done)) | exact rfl))))); exact e_boxR)
 | (apply s_en; (focus (repeat (first | apply opds_nil | (apply opds_cons; (first | (focus ((conv => lhs; whnf); done)) | exact rfl))))); exact e_alR)
 | (apply s_pn; (focus (repeat (first | apply opds_nil | (apply opds_cons; (first | (focus ((conv => lhs; whnf); done)) | exact rfl))))); exact p_ldR rfl hinn)
 | (apply s_pn; (focus (repeat (first | apply opds_nil | (apply opds_cons; (first | (focus ((conv => lhs; whnf); done)) | exact rfl))))); exact p_bldZ)
 | (apply s_pn; (focus (repeat (first | apply opds_nil | (apply opds_cons; (first | (focus ((conv => lhs; whnf); done)) | exact rfl))))); exact heq _)
 | (apply s_st; (focus (repeat (first | apply opds_nil | (apply opds_cons; (first | (focus ((conv => lhs; whnf); done)) | exact rfl))))); exact e_stR rfl hinn hz24)
 | (apply c_seq)
 | (apply c_reg)
 | (apply c_ret)
 | (apply c_condT; exact rfl)
 | (with_reducible apply k_c)
      exact fin_cell2 fo fr fn rfl rfl hinn rfl rfl rfl
    · have heq : ∀ H, evP H (.eqagg false [none, none, none, none, none, none, none, none, none, none, none, none, none, none, none, none, none, none, none, none, none, none, none, none]) [.agg (bL inn), .agg (bL z24)] = some (.bool false) := fun H => by rw [p_eqZ hinn]; simp [hne]
      obtain ⟨⟨hd, hd1, hd2⟩, hr0, hr9, -⟩ := top_head hg har hne
      have hhl : (heads a inn (topRank a inn)).length = 24 := by rw [heads, heads_len, z24_len]
      simp only [zsol, if_neg hne]
      have h70 : ∀ mv R, mv.length = n → callPure (evF tab it m) true 70 [.ptr 0 0, .agg (bL inn)] (some (.box [xo, xr, xn, .sl 1 1 0 n]) :: some (.data (iL mv)) :: R) = some (.tup [.agg (bL (heads a inn (topRank a inn))), .int .i64 (topRank a inn)], some (.box [xo, xr, xn, .sl 1 1 0 n]) :: some (.data (iL mv)) :: R) := fun mv R hmv =>
        callG fo fr fn rfl rfl hmv (by simp [idFreeL, aggB_free]) (by simp) (f70 ho hr hn rfl hg hinn (by rw [hnn]; exact hin) (by omega)) (by simp [AV.idFree, idFreeL, bL_free]) (by simp [AV.hasRd, hasRdL, bL_noRd])
      have hp : (topRank a inn).tmod 2 = 0 ∨ (topRank a inn).tmod 2 = 1 := by
        rw [Int.tmod_eq_emod_of_nonneg hr0]; omega
      generalize hH : heads a inn (topRank a inn) = hds at *
      have a1 := runN_attr (g := a) (p := (topRank a inn).tmod 2) (n := n) hinn 26 hds mv hhl hmv (by have := cf_le hds; omega)
      have w1 := f44 ho hr hn hinn (p := (topRank a inn).tmod 2) hg hnn hin hrow hhl hmv m (by omega)
      have hrem : ∀ H, evP H (.bin .rem) [.int .i64 (topRank a inn), .int .i64 2] = some (.int .i64 ((topRank a inn).tmod 2)) := fun H => by simp [evP, binV, isShift, binInt]
      generalize (topRank a inn).tmod 2 = p at *
      obtain ⟨at1, m1⟩ := a1
      have ar2 := area_wo har at1
      have c2 : ct (woB inn (runN a inn p 26 hds mv).1) < ct inn := ct_wo hinn at1.len hd1 (at1.sub hd hd2)
      generalize runN a inn p 26 hds mv = N1 at *
      have h44a : ∀ frz R, evE (evF tab it m) (some (.box [xo, xr, xn, .sl 1 1 0 n]) :: some (.data (iL mv)) :: R) (.call false frz 44) [.ptr 0 0, .agg (bL inn), .int .i64 p, .agg (bL hds)] = some (.agg (bL N1.1), some (.box [xo, xr, xn, .sl 1 1 0 n]) :: some (.data (iL N1.2)) :: R) := fun frz R =>
        mutG fo fr fn (by simp [idFreeL, aggB_free, idf_int]) w1 (aggB_free _)
      obtain ⟨m, rfl⟩ : ∃ j, m = j + 1 := ⟨m - 1, by omega⟩
      obtain ⟨z2l, z2m, z2s⟩ := zsol_sub hg (n := n) k _ _ ar2 m1
      have ih2 := f64 hg hnn hrow k _ _ ar2 m1 (by omega) m (by omega)
      have w2 := f71 ho hr hn (p := 1 - p) ar2.len z2l z2m (by omega) ih2
      have hN1l := at1.len
      have hin2 := ar2.len
      generalize zsol a k (woB inn N1.1) N1.2 = Z2 at *
      have h71a : ∀ frz R, evE (evF tab it (m + 1)) (some (.box [xo, xr, xn, .sl 1 1 0 n]) :: some (.data (iL N1.2)) :: R) (.call false frz 71) [.ptr 0 0, .agg (bL (woB inn N1.1)), .int .i64 (1 - p)] = some (.agg (bL (asB (woB inn N1.1) (1 - p) Z2.1)), some (.box [xo, xr, xn, .sl 1 1 0 n]) :: some (.data (iL Z2.2)) :: R) := fun frz R =>
        mutG fo fr fn (by simp [idFreeL, aggB_free, idf_int]) w2 (aggB_free _)
      have hlost := as_len (p := 1 - p) hin2 z2l
      have hlsub : ∀ i : Nat, getB (asB (woB inn N1.1) (1 - p) Z2.1) i = true → getB inn i = true := fun i h => by
        have := as_sub hin2 z2l z2s i h
        rw [getB_wo hinn hN1l] at this
        simp at this; exact this.1
      generalize hL : asB (woB inn N1.1) (1 - p) Z2.1 = lost at *
      have h72a := fun H => c72 hinn hN1l (m := m + 1) (by omega) H
      refine f_enterH rfl rfl ?_
      show RC (evF tab it (m + 1)) it (m + 1) _ 2 (finish 2 _) _ (finish 2 _) _ _ _
      by_cases hle : lost = z24
      · have heq2 : ∀ H, evP H (.eqagg false [none, none, none, none, none, none, none, none, none, none, none, none, none, none, none, none, none, none, none, none, none, none, none, none]) [.agg (bL lost), .agg (bL z24)] = some (.bool true) := fun H => by rw [p_eqZ hlost, hle]; simp
        rw [if_pos hle]
        repeat' first
 | (apply s_mov; (focus ((conv => lhs; whnf); done)))
 | (apply c_nil)
 | ((first | apply s_add | apply s_sub); exact rfl; omega)
 | (apply s_en; (focus (repeat (first | apply opds_nil | (apply opds_cons; (first | (focus ((conv => lhs; whnf); done)) | exact rfl))))); exact ob1 _ _)
 | (apply s_en; (focus (repeat (first | apply opds_nil | (apply opds_cons; (first | (focus ((conv => lhs; whnf); done)) | exact rfl))))); exact e_boxR)
 | (apply s_en; (focus (repeat (first | apply opds_nil | (apply opds_cons; (first | (focus ((conv => lhs; whnf); done)) | exact rfl))))); exact e_alR)
 | (apply s_en; (focus (repeat (first | apply opds_nil | (apply opds_cons; (first | (focus ((conv => lhs; whnf); done)) | exact rfl))))); exact al1 _ _)
 | (apply s_pn; (focus (repeat (first | apply opds_nil | (apply opds_cons; (first | (focus ((conv => lhs; whnf); done)) | exact rfl))))); exact p_ldR rfl hinn)
 | (apply s_pn; (focus (repeat (first | apply opds_nil | (apply opds_cons; (first | (focus ((conv => lhs; whnf); done)) | exact rfl))))); exact p_ldR rfl hhl)
 | (apply s_pn; (focus (repeat (first | apply opds_nil | (apply opds_cons; (first | (focus ((conv => lhs; whnf); done)) | exact rfl))))); exact p_ldR rfl hN1l)
 | (apply s_pn; (focus (repeat (first | apply opds_nil | (apply opds_cons; (first | (focus ((conv => lhs; whnf); done)) | exact rfl))))); exact p_ldR rfl hlost)
 | (apply s_pn; (focus (repeat (first | apply opds_nil | (apply opds_cons; (first | (focus ((conv => lhs; whnf); done)) | exact rfl))))); exact p_bldZ)
 | (apply s_pn; (focus (repeat (first | apply opds_nil | (apply opds_cons; (first | (focus ((conv => lhs; whnf); done)) | exact rfl))))); exact heq _)
 | (apply s_pn; (focus (repeat (first | apply opds_nil | (apply opds_cons; (first | (focus ((conv => lhs; whnf); done)) | exact rfl))))); exact heq2 _)
 | (apply s_cn; (focus (repeat (first | apply opds_nil | (apply opds_cons; (first | (focus ((conv => lhs; whnf); done)) | exact rfl))))); exact h70 _ _ hmv)
 | (apply s_pn; (focus (repeat (first | apply opds_nil | (apply opds_cons; (first | (focus ((conv => lhs; whnf); done)) | exact rfl))))); exact hrem _)
 | (apply s_en; (focus (repeat (first | apply opds_nil | (apply opds_cons; (first | (focus ((conv => lhs; whnf); done)) | exact rfl))))); exact h44a _ _)
 | (apply s_cn; (focus (repeat (first | apply opds_nil | (apply opds_cons; (first | (focus ((conv => lhs; whnf); done)) | exact rfl))))); exact h72a _)
 | (apply s_en; (focus (repeat (first | apply opds_nil | (apply opds_cons; (first | (focus ((conv => lhs; whnf); done)) | exact rfl))))); exact h71a _ _)
 | (apply s_st; (focus (repeat (first | apply opds_nil | (apply opds_cons; (first | (focus ((conv => lhs; whnf); done)) | exact rfl))))); exact e_stR rfl hhl hz24)
 | (apply s_st; (focus (repeat (first | apply opds_nil | (apply opds_cons; (first | (focus ((conv => lhs; whnf); done)) | exact rfl))))); exact e_stR rfl hN1l hz24)
 | (apply s_st; (focus (repeat (first | apply opds_nil | (apply opds_cons; (first | (focus ((conv => lhs; whnf); done)) | exact rfl))))); exact e_stR rfl hlost hz24)
 | (apply s_cn; (focus (repeat (first | apply opds_nil | (apply opds_cons; (first | (focus ((conv => lhs; whnf); done)) | exact rfl))))); exact c46 (by omega) _)
 | (apply isE; apply s_st; (focus (repeat (first | apply opds_nil | (apply opds_cons; (first | (focus ((conv => lhs; whnf); done)) | exact rfl))))); (focus ((conv => lhs; whnf); done)))
 | (apply s_pd; (focus ((conv => lhs; whnf); done)))
 | (apply c_seq)
 | (apply c_reg)
 | (apply c_block)
 | (apply c_skip)
 | (apply c_condT; exact rfl)
 | (apply c_condF; exact rfl)
 | (with_reducible apply k_c)
        generalize hS : setMv a inn p (trues hds) Z2.2 = S
        refine c_range (it63 hhl _) (fun xs H' => ∃ vs mvx, xs = nL vs ∧ (∀ v ∈ vs, getB inn (v : Nat) = true) ∧ mvx.length = n ∧ setMv a inn p vs mvx = S ∧ H' = [some (.box [xo, xr, xn, .sl 1 1 0 n]), some (.data (iL mvx)), some (.box [.ptr 0 0]), some (.data (bL inn)), some (.data (bL z24)), some (.data (bL hds)), some (.data [.int .i64 p]), some (.data (bL N1.1)), some (.data (bL lost))]) ?_ ?_ ?_
        · refine ⟨trues hds, Z2.2, rfl, fun v hv => ?_, z2m, hS, ?_⟩
          · have h := (trues_mem hv).2
            rw [← hH, getB_heads a inn _ hinn] at h
            simp at h; exact h.1
          · simp [putRow, cells_int]
        · intro H' ⟨vs, mvx, e1, e2, e3, e4, e5⟩
          obtain rfl : vs = [] := by cases vs with
            | nil => rfl
            | cons x y => simp [nL] at e1
          simp only [setMv, List.foldl_nil] at e4
          subst e4
          subst e5
          have hal := as_len (p := p) hinn hinn
          have h75 : ∀ R, callPure (evF tab it (m + 1)) true 75 [.ptr 0 0, .agg (bL inn), .int .i64 p, .agg (bL inn)] (some (.box [xo, xr, xn, .sl 1 1 0 n]) :: some (.data (iL mvx)) :: R) = some (.agg (bL (asB inn p inn)), some (.box [xo, xr, xn, .sl 1 1 0 n]) :: some (.data (iL mvx)) :: R) := fun R =>
            callG fo fr fn rfl rfl e3 (by simp [idFreeL, aggB_free, idf_int]) (by simp) (f75 hinn hinn (by omega)) (aggB_free _) (aggB_noRd _)
          refine k_c (c_pre (vs := [.ptr 2 0, .ptr 3 0, .ptr 4 0, .ptr 5 0]) (H' := [some (.box [xo, xr, xn, .sl 1 1 0 n]), some (.data (iL mvx)), some (.box [.ptr 0 0]), some (.data (bL inn)), some (.data (bL z24)), some (.data [.int .i64 p])]) (by simp [go_sem, fo, fr, fn]; done) ?_)
          repeat' first
 | (apply c_nil)
 | (apply s_pn; (focus (repeat (first | apply opds_nil | (apply opds_cons; (first | (focus ((conv => lhs; whnf); done)) | exact rfl))))); exact p_ldR rfl hinn)
 | (apply s_cn; (focus (repeat (first | apply opds_nil | (apply opds_cons; (first | (focus ((conv => lhs; whnf); done)) | exact rfl))))); exact h75 _)
 | (apply s_st; (focus (repeat (first | apply opds_nil | (apply opds_cons; (first | (focus ((conv => lhs; whnf); done)) | exact rfl))))); exact e_stR rfl hal hz24)
 | (apply s_pd; (focus ((conv => lhs; whnf); done)))
 | (apply c_seq)
 | (apply c_reg)
 | (apply c_ret)
 | (with_reducible apply k_c)
          exact fin_cell2 fo fr fn rfl rfl hal rfl rfl rfl
        · intro x ys H' K' ⟨vs, mvx, e1, e2, e3, e4, e5⟩ hh
          obtain ⟨v, vs, rfl⟩ : ∃ v r, vs = v :: r := by cases vs with
            | nil => simp [nL] at e1
            | cons x y => exact ⟨x, y, rfl⟩
          simp only [nL, List.map_cons, List.cons.injEq] at e1
          obtain ⟨rfl, rfl⟩ := e1
          subst e5
          have hv := e2 v List.mem_cons_self
          have hvn := hin v hv
          have hol : a.owner.length = n := by omega
          have hrv := hrow v
          have hrr := row_ok hg hnn v hvn
          obtain ⟨u, hu1, hu2⟩ := har.go v hv
          have hfi : ∃ j, (getLL a.next v).findIdx? (fun u => getB inn u) = some j ∧ j < (getLL a.next v).length := by
            rcases hf : (getLL a.next v).findIdx? (fun u => getB inn u) with _ | j
            · rw [List.findIdx?_eq_none_iff] at hf
              exact absurd (hf u hu1) (by rw [hu2]; simp)
            · obtain ⟨h, -⟩ := List.findIdx?_eq_some_iff_getElem.1 hf
              exact ⟨j, rfl, h⟩
          obtain ⟨j, hfj, hjl⟩ := hfi
          have hfirst : firstIn a inn v = getI (getLL a.next v) j := by unfold firstIn; rw [hfj]
          have h73 := fun (H : Heap) (hH : H[3]? = some (some (.data (bL inn)))) => c73 (m := m + 1) (IsLL.at (i := v) hn (by omega)) hinn hrv (fun q hq => by have := hrr q hq; omega) (by omega) hH
          simp only [hfj] at h73
          have hstep : setMv a inn p vs (setStep a inn p mvx v) = S := e4
          refine c_reg (s_mov (v := .int .i64 v) rfl (c_nil (k_c (c_pre (vs := [.ptr 2 0, .ptr 3 0, .ptr 6 0, .int .i64 v]) (H' := [some (.box [xo, xr, xn, .sl 1 1 0 n]), some (.data (iL mvx)), some (.box [.ptr 0 0]), some (.data (bL inn)), some (.data (bL z24)), some (.data (bL hds)), some (.data [.int .i64 p]), some (.data (bL N1.1)), some (.data (bL lost))]) (by simp [go_sem, fo, fr, fn]; done) ?_))))
          repeat' first
 | (apply s_mov; (focus ((conv => lhs; whnf); done)))
 | (apply c_nil)
 | ((first | apply s_lss | apply s_leq | apply s_gtr | apply s_geq | apply s_eql | apply s_neq); exact rfl; all_goals (intro _; try (exfalso; omega)))
 | (apply s_cn; (focus (repeat (first | apply opds_nil | (apply opds_cons; (first | (focus ((conv => lhs; whnf); done)) | exact rfl))))); exact h73 _ rfl)
 | (apply s_st; (focus (repeat (first | apply opds_nil | (apply opds_cons; (first | (focus ((conv => lhs; whnf); done)) | exact rfl))))); exact e_stI rfl (by omega))
 | (apply s_idx; (focus ((conv => lhs; whnf); done)); exact rfl; (first | assumption | (apply IsLL.at; assumption; omega)); omega)
 | (apply s_idxLL; (focus ((conv => lhs; whnf); done)); exact rfl; assumption; omega)
 | (apply s_idxS; exact rfl; exact rfl; omega)
 | (apply s_ldI; exact rfl; omega)
 | (apply s_ldLL; exact rfl; assumption; omega)
 | (apply s_pd; (focus ((conv => lhs; whnf); done)))
 | (apply c_seq)
 | (apply c_reg)
 | (apply c_block)
 | (apply c_skip)
 | (apply c_condT; exact rfl)
 | (apply c_condF; exact rfl)
 | (with_reducible apply k_c)
          · refine hh _ ⟨vs, setStep a inn p mvx v, rfl, fun w hw => e2 w (List.mem_cons_of_mem _ hw), by unfold setStep; split <;> simp [e3], hstep, ?_⟩
            have : setStep a inn p mvx v = mvx.set v (getI (getLL a.next v) j) := by unfold setStep; rw [if_pos (by assumption), hfirst]
            rw [this]
            simp
          · refine hh _ ⟨vs, setStep a inn p mvx v, rfl, fun w hw => e2 w (List.mem_cons_of_mem _ hw), by unfold setStep; split <;> simp [e3], hstep, ?_⟩
            have : setStep a inn p mvx v = mvx := by unfold setStep; rw [if_neg (by assumption)]
            rw [this]
      · have heq2 : ∀ H, evP H (.eqagg false [none, none, none, none, none, none, none, none, none, none, none, none, none, none, none, none, none, none, none, none, none, none, none, none]) [.agg (bL lost), .agg (bL z24)] = some (.bool false) := fun H => by rw [p_eqZ hlost]; simp [hle]
        rw [if_neg hle]
        repeat' first
 | (apply s_mov; (focus ((conv => lhs; whnf); done)))
 | (apply c_nil)
 | ((first | apply s_add | apply s_sub); exact rfl; omega)
 | (apply s_en; (focus (repeat (first | apply opds_nil | (apply opds_cons; (first | (focus ((conv => lhs; whnf); done)) | exact rfl))))); exact ob1 _ _)
 | (apply s_en; (focus (repeat (first | apply opds_nil | (apply opds_cons; (first | (focus ((conv => lhs; whnf); done)) | exact rfl))))); exact e_boxR)
 | (apply s_en; (focus (repeat (first | apply opds_nil | (apply opds_cons; (first | (focus ((conv => lhs; whnf); done)) | exact rfl))))); exact e_alR)
 | (apply s_en; (focus (repeat (first | apply opds_nil | (apply opds_cons; (first | (focus ((conv => lhs; whnf); done)) | exact rfl))))); exact al1 _ _)
 | (apply s_pn; (focus (repeat (first | apply opds_nil | (apply opds_cons; (first | (focus ((conv => lhs; whnf); done)) | exact rfl))))); exact p_ldR rfl hinn)
 | (apply s_pn; (focus (repeat (first | apply opds_nil | (apply opds_cons; (first | (focus ((conv => lhs; whnf); done)) | exact rfl))))); exact p_ldR rfl hhl)
 | (apply s_pn; (focus (repeat (first | apply opds_nil | (apply opds_cons; (first | (focus ((conv => lhs; whnf); done)) | exact rfl))))); exact p_ldR rfl hN1l)
 | (apply s_pn; (focus (repeat (first | apply opds_nil | (apply opds_cons; (first | (focus ((conv => lhs; whnf); done)) | exact rfl))))); exact p_ldR rfl hlost)
 | (apply s_pn; (focus (repeat (first | apply opds_nil | (apply opds_cons; (first | (focus ((conv => lhs; whnf); done)) | exact rfl))))); exact p_bldZ)
 | (apply s_pn; (focus (repeat (first | apply opds_nil | (apply opds_cons; (first | (focus ((conv => lhs; whnf); done)) | exact rfl))))); exact heq _)
 | (apply s_pn; (focus (repeat (first | apply opds_nil | (apply opds_cons; (first | (focus ((conv => lhs; whnf); done)) | exact rfl))))); exact heq2 _)
 | (apply s_cn; (focus (repeat (first | apply opds_nil | (apply opds_cons; (first | (focus ((conv => lhs; whnf); done)) | exact rfl))))); exact h70 _ _ hmv)
 | (apply s_pn; (focus (repeat (first | apply opds_nil | (apply opds_cons; (first | (focus ((conv => lhs; whnf); done)) | exact rfl))))); exact hrem _)
 | (apply s_en; (focus (repeat (first | apply opds_nil | (apply opds_cons; (first | (focus ((conv => lhs; whnf); done)) | exact rfl))))); exact h44a _ _)
 | (apply s_cn; (focus (repeat (first | apply opds_nil | (apply opds_cons; (first | (focus ((conv => lhs; whnf); done)) | exact rfl))))); exact h72a _)
 | (apply s_en; (focus (repeat (first | apply opds_nil | (apply opds_cons; (first | (focus ((conv => lhs; whnf); done)) | exact rfl))))); exact h71a _ _)
 | (apply s_st; (focus (repeat (first | apply opds_nil | (apply opds_cons; (first | (focus ((conv => lhs; whnf); done)) | exact rfl))))); exact e_stR rfl hhl hz24)
 | (apply s_st; (focus (repeat (first | apply opds_nil | (apply opds_cons; (first | (focus ((conv => lhs; whnf); done)) | exact rfl))))); exact e_stR rfl hN1l hz24)
 | (apply s_st; (focus (repeat (first | apply opds_nil | (apply opds_cons; (first | (focus ((conv => lhs; whnf); done)) | exact rfl))))); exact e_stR rfl hlost hz24)
 | (apply isE; apply s_st; (focus (repeat (first | apply opds_nil | (apply opds_cons; (first | (focus ((conv => lhs; whnf); done)) | exact rfl))))); (focus ((conv => lhs; whnf); done)))
 | (apply s_pd; (focus ((conv => lhs; whnf); done)))
 | (apply c_seq)
 | (apply c_reg)
 | (apply c_skip)
 | (apply c_condF; exact rfl)
 | (with_reducible apply k_c)
        have a3 := runN_attr (g := a) (p := 1 - p) (n := n) hinn 26 lost Z2.2 hlost z2m (by have := cf_le lost; omega)
        have w3 := f44 ho hr hn hinn (p := 1 - p) hg hnn hin hrow hlost z2m (m + 1) (by omega)
        obtain ⟨hq, hq1⟩ := ne_z hlost hle
        obtain ⟨at3, m3⟩ := a3
        have ar3 := area_wo har at3
        have c3 : ct (woB inn (runN a inn (1 - p) 26 lost Z2.2).1) < ct inn := ct_wo hinn at3.len (hlsub hq hq1) (at3.sub hq hq1)
        generalize runN a inn (1 - p) 26 lost Z2.2 = N3 at *
        have h44b : ∀ frz R, evE (evF tab it (m + 1)) (some (.box [xo, xr, xn, .sl 1 1 0 n]) :: some (.data (iL Z2.2)) :: R) (.call false frz 44) [.ptr 0 0, .agg (bL inn), .int .i64 (1 - p), .agg (bL lost)] = some (.agg (bL N3.1), some (.box [xo, xr, xn, .sl 1 1 0 n]) :: some (.data (iL N3.2)) :: R) := fun frz R =>
          mutG fo fr fn (by simp [idFreeL, aggB_free, idf_int]) w3 (aggB_free _)
        obtain ⟨z3l, z3m, z3s⟩ := zsol_sub hg (n := n) k _ _ ar3 m3
        have ih3 := f64 hg hnn hrow k _ _ ar3 m3 (by omega) m (by omega)
        have w4 := f71 ho hr hn (p := p) ar3.len z3l z3m (by omega) ih3
        have hN3l := at3.len
        have hin3 := ar3.len
        generalize zsol a k (woB inn N3.1) N3.2 = Z3 at *
        have h71b : ∀ frz R, evE (evF tab it (m + 1)) (some (.box [xo, xr, xn, .sl 1 1 0 n]) :: some (.data (iL N3.2)) :: R) (.call false frz 71) [.ptr 0 0, .agg (bL (woB inn N3.1)), .int .i64 p] = some (.agg (bL (asB (woB inn N3.1) p Z3.1)), some (.box [xo, xr, xn, .sl 1 1 0 n]) :: some (.data (iL Z3.2)) :: R) := fun frz R =>
          mutG fo fr fn (by simp [idFreeL, aggB_free, idf_int]) w4 (aggB_free _)
        have hrest := as_len (p := p) hin3 z3l
        have hres := as_len (p := p) hinn hrest
        generalize asB (woB inn N3.1) p Z3.1 = rest at *
        have h72b := fun H => c72 hinn hN3l (m := m + 1) (by omega) H
        have h75 : ∀ R, callPure (evF tab it (m + 1)) true 75 [.ptr 0 0, .agg (bL inn), .int .i64 p, .agg (bL rest)] (some (.box [xo, xr, xn, .sl 1 1 0 n]) :: some (.data (iL Z3.2)) :: R) = some (.agg (bL (asB inn p rest)), some (.box [xo, xr, xn, .sl 1 1 0 n]) :: some (.data (iL Z3.2)) :: R) := fun R =>
          callG fo fr fn rfl rfl z3m (by simp [idFreeL, aggB_free, idf_int]) (by simp) (f75 hinn hrest (by omega)) (aggB_free _) (aggB_noRd _)
        refine c_pre (vs := [.ptr 2 0, .ptr 3 0, .ptr 4 0, .ptr 5 0, .ptr 6 0]) (H' := [some (.box [xo, xr, xn, .sl 1 1 0 n]), some (.data (iL Z2.2)), some (.box [.ptr 0 0]), some (.data (bL inn)), some (.data (bL z24)), some (.data [.int .i64 p]), some (.data (bL lost))]) (by simp [go_sem, fo, fr, fn]; done) ?_
        repeat' first
 | (apply c_nil)
 | ((first | apply s_add | apply s_sub); exact rfl; omega)
 | (apply s_en; (focus (repeat (first | apply opds_nil | (apply opds_cons; (first | (focus ((conv => lhs; whnf); done)) | exact rfl))))); exact e_alR)
 | (apply s_pn; (focus (repeat (first | apply opds_nil | (apply opds_cons; (first | (focus ((conv => lhs; whnf); done)) | exact rfl))))); exact p_ldR rfl hinn)
 | (apply s_pn; (focus (repeat (first | apply opds_nil | (apply opds_cons; (first | (focus ((conv => lhs; whnf); done)) | exact rfl))))); exact p_ldR rfl hlost)
 | (apply s_pn; (focus (repeat (first | apply opds_nil | (apply opds_cons; (first | (focus ((conv => lhs; whnf); done)) | exact rfl))))); exact p_ldR rfl hN3l)
 | (apply s_pn; (focus (repeat (first | apply opds_nil | (apply opds_cons; (first | (focus ((conv => lhs; whnf); done)) | exact rfl))))); exact p_ldR rfl hrest)
 | (apply s_en; (focus (repeat (first | apply opds_nil | (apply opds_cons; (first | (focus ((conv => lhs; whnf); done)) | exact rfl))))); exact h44b _ _)
 | (apply s_cn; (focus (repeat (first | apply opds_nil | (apply opds_cons; (first | (focus ((conv => lhs; whnf); done)) | exact rfl))))); exact h72b _)
 | (apply s_en; (focus (repeat (first | apply opds_nil | (apply opds_cons; (first | (focus ((conv => lhs; whnf); done)) | exact rfl))))); exact h71b _ _)
 | (apply s_cn; (focus (repeat (first | apply opds_nil | (apply opds_cons; (first | (focus ((conv => lhs; whnf); done)) | exact rfl))))); exact h75 _)
 | (apply s_st; (focus (repeat (first | apply opds_nil | (apply opds_cons; (first | (focus ((conv => lhs; whnf); done)) | exact rfl))))); exact e_stR rfl hN3l hz24)
 | (apply s_st; (focus (repeat (first | apply opds_nil | (apply opds_cons; (first | (focus ((conv => lhs; whnf); done)) | exact rfl))))); exact e_stR rfl hrest hz24)
 | (apply s_st; (focus (repeat (first | apply opds_nil | (apply opds_cons; (first | (focus ((conv => lhs; whnf); done)) | exact rfl))))); exact e_stR rfl hres hz24)
 | (apply s_pd; (focus ((conv => lhs; whnf); done)))
 | (apply c_seq)
 | (apply c_reg)
 | (apply c_ret)
 | (with_reducible apply k_c)
        exact fin_cell2 fo fr fn rfl rfl hres rfl rfl rfl
end
end Go.AM.Pa
