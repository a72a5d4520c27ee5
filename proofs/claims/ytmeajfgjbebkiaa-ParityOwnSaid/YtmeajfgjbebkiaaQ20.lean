/- A part of the proof: Q20. -/
import Derived.Test.YtmeajfgjbebkiaaQ8b
set_option linter.unusedSectionVars false
set_option linter.unusedVariables false
set_option linter.unusedSimpArgs false
namespace Go.AM.Pa
attribute [local go_sem] gc subHeap reach_skip ren_free reach_new reach_newp reach_end rangeL roots boxCells nodupB posOf renL AV.ren pickO renH renO looks look bindEnv envOf reach_int reach_bool reach_nilS reach_rd putRow cells_sl cells_int cells_bool cells_nilS cells_rd cells_agg reach_agg reach_tup idFreeL idf_sl idf_ptr idf_int idf_bool idf_nilS idf_rd
def woB (a b : List Bool) : List Bool := (trues b).foldl (fun a v => a.set v false) a
theorem e_boxR {call : CallF} {H : Heap} {b : List Bool} : evE call H (.box true) [.agg (bL b)] = some (.ptr H.length 0, H ++ [some (.data (bL b))]) := by simp [evE, cells_agg, bL_one, mkHO, bL_free]
theorem e_alR {call : CallF} {H : Heap} : evE call H (.alloc true [.bool false, .bool false, .bool false, .bool false, .bool false, .bool false, .bool false, .bool false, .bool false, .bool false, .bool false, .bool false, .bool false, .bool false, .bool false, .bool false, .bool false, .bool false, .bool false, .bool false, .bool false, .bool false, .bool false, .bool false]) [] = some (.ptr H.length 0, H ++ [some (.data (bL z24))]) := by
  unfold bL; rfl
theorem z24_len : z24.length = 24 := rfl
theorem aggB_free (b : List Bool) : (AV.agg (bL b)).idFree = true := by simp [AV.idFree, bL_free]
theorem aggB_noRd (b : List Bool) : (AV.agg (bL b)).hasRd = false := by simp [AV.hasRd, bL_noRd]
theorem f72 {a b : List Bool} (ha : a.length = 24) (hb : b.length = 24) {m : Nat} (hm : 103 ≤ m) : evF tab it m 72 [.agg (bL a), .agg (bL b)] [] = some (.agg (bL (woB a b)), []) := by
  obtain ⟨m, rfl⟩ : ∃ j, m = j + 1 := ⟨m - 1, by omega⟩
  have hz := z24_len
  refine f_enter rfl rfl ?_
  repeat' first
 | (apply c_nil)
 | (apply s_en; (focus (repeat (first | apply opds_nil | (apply opds_cons; (first | (focus ((conv => lhs; whnf); done)) | exact rfl))))); exact e_boxR)
 | (apply s_en; (focus (repeat (first | apply opds_nil | (apply opds_cons; (first | (focus ((conv => lhs; whnf); done)) | exact rfl))))); exact e_alR)
 | (apply s_pn; (focus (repeat (first | apply opds_nil | (apply opds_cons; (first | (focus ((conv => lhs; whnf); done)) | exact rfl))))); exact p_ldR rfl hb)
 | (apply s_cn; (focus (repeat (first | apply opds_nil | (apply opds_cons; (first | (focus ((conv => lhs; whnf); done)) | exact rfl))))); exact c46 (by omega) _)
 | (apply c_seq)
 | (apply c_reg)
 | (apply c_block)
 | (with_reducible apply k_c)
  generalize hS : woB a b = S
  refine c_range (it63 hb _) (fun xs H' => ∃ vs a', xs = nL vs ∧ (∀ v ∈ vs, v < 24) ∧ a'.length = 24 ∧ vs.foldl (fun a v => a.set v false) a' = S ∧ H' = [some (.data (bL a')), some (.data (bL b)), some (.data (bL z24))]) ?_ ?_ ?_
  · exact ⟨trues b, a, rfl, fun v hv => (trues_mem hv).1, ha, hS, rfl⟩
  · intro H' ⟨vs, a', e1, e2, e3, e4, e5⟩
    obtain rfl : vs = [] := by cases vs with
      | nil => rfl
      | cons x y => simp [nL] at e1
    simp only [List.foldl_nil] at e4
    subst e4
    subst e5
    refine k_c (c_pre (vs := [.ptr 0 0, .ptr 1 0]) (H' := [some (.data (bL a')), some (.data (bL z24))]) (by simp [go_sem]; done) ?_)
    repeat' first
 | (apply c_nil)
 | (apply s_pn; (focus (repeat (first | apply opds_nil | (apply opds_cons; (first | (focus ((conv => lhs; whnf); done)) | exact rfl))))); exact p_ldR rfl e3)
 | (apply s_st; (focus (repeat (first | apply opds_nil | (apply opds_cons; (first | (focus ((conv => lhs; whnf); done)) | exact rfl))))); exact e_stR rfl e3 hz)
 | (apply c_seq)
 | (apply c_reg)
 | (apply c_ret)
 | (with_reducible apply k_c)
    exact fin_cellR rfl rfl e3 rfl
  · intro x ys H' K' ⟨vs, a', e1, e2, e3, e4, e5⟩ hh
    obtain ⟨v, vs, rfl⟩ : ∃ v r, vs = v :: r := by cases vs with
      | nil => simp [nL] at e1
      | cons x y => exact ⟨x, y, rfl⟩
    simp only [nL, List.map_cons, List.cons.injEq] at e1
    obtain ⟨rfl, rfl⟩ := e1
    subst e5
    have hv := e2 v List.mem_cons_self
    refine c_reg (s_mov (v := .int .i64 v) rfl (c_nil (k_c (c_pre (vs := [.ptr 0 0, .int .i64 v]) (H' := [some (.data (bL a')), some (.data (bL b)), some (.data (bL z24))]) (by simp [go_sem]; done) ?_))))
    repeat' first
 | (apply s_mov; (focus ((conv => lhs; whnf); done)))
 | (apply c_nil)
 | (apply s_st; (focus (repeat (first | apply opds_nil | (apply opds_cons; (first | (focus ((conv => lhs; whnf); done)) | exact rfl))))); exact e_stB rfl (by omega))
 | (apply s_idxP; exact rfl; exact rfl; omega)
 | (apply c_reg)
 | (apply c_block)
    refine hh _ ⟨vs, a'.set v false, rfl, fun w hw => e2 w (List.mem_cons_of_mem _ hw), by simpa using e3, e4, ?_⟩
    simp
theorem c72 {a b : List Bool} (ha : a.length = 24) (hb : b.length = 24) {m : Nat} (hm : 103 ≤ m) (H : Heap) : callPure (evF tab it m) true 72 [.agg (bL a), .agg (bL b)] H = some (.agg (bL (woB a b)), H) :=
  callPure_free (by simp [idFreeL, aggB_free]) (by simp) (f72 ha hb hm) (aggB_free _)
theorem woB_len : ∀ (l : List Nat) (a : List Bool), (l.foldl (fun a v => a.set v false) a).length = a.length
  | [], a => rfl
  | v :: l, a => by rw [List.foldl_cons, woB_len l]; simp
/-- as -/
theorem f75 {x : AV} {i w : List Bool} (hi : i.length = 24) (hw : w.length = 24) {p : Int} {m : Nat} (hm : 105 ≤ m) : evF tab it m 75 [x, .agg (bL i), .int .i64 p, .agg (bL w)] [] = some (.agg (bL (if p = 0 then w else woB i w)), []) := by
  obtain ⟨m, rfl⟩ : ∃ j, m = j + 1 := ⟨m - 1, by omega⟩
  have hz := z24_len
  have hwl : (woB i w).length = 24 := by rw [woB, woB_len, hi]
  refine f_enter rfl rfl ?_
  repeat' first
 | (apply s_mov; (focus ((conv => lhs; whnf); done)))
 | (apply c_nil)
 | ((first | apply s_lss | apply s_leq | apply s_gtr | apply s_geq | apply s_eql | apply s_neq); exact rfl; all_goals (intro _; try (exfalso; omega)))
 | (apply s_en; (focus (repeat (first | apply opds_nil | (apply opds_cons; (first | (focus ((conv => lhs; whnf); done)) | exact rfl))))); exact e_boxR)
 | (apply s_en; (focus (repeat (first | apply opds_nil | (apply opds_cons; (first | (focus ((conv => lhs; whnf); done)) | exact rfl))))); exact e_alR)
 | (apply s_pn; (focus (repeat (first | apply opds_nil | (apply opds_cons; (first | (focus ((conv => lhs; whnf); done)) | exact rfl))))); exact p_ldR rfl hw)
 | (apply s_pn; (focus (repeat (first | apply opds_nil | (apply opds_cons; (first | (focus ((conv => lhs; whnf); done)) | exact rfl))))); exact p_ldR rfl hi)
 | (apply s_st; (focus (repeat (first | apply opds_nil | (apply opds_cons; (first | (focus ((conv => lhs; whnf); done)) | exact rfl))))); exact e_stR rfl hw hz)
 | (apply s_st; (focus (repeat (first | apply opds_nil | (apply opds_cons; (first | (focus ((conv => lhs; whnf); done)) | exact rfl))))); exact e_stR rfl hwl hz)
 | (apply s_cn; (focus (repeat (first | apply opds_nil | (apply opds_cons; (first | (focus ((conv => lhs; whnf); done)) | exact rfl))))); exact c72 hi hw (by omega) _)
 | (apply c_seq)
 | (apply c_reg)
 | (apply c_skip)
 | (apply c_ret)
 | (apply c_condT; exact rfl)
 | (apply c_condF; exact rfl)
 | (with_reducible apply k_c)
  · rw [if_pos (by assumption)]
    exact fin_cellR rfl rfl hw rfl
  · rw [if_neg (by assumption)]
    exact fin_cellR rfl rfl hwl rfl
theorem s_stK {call : CallF} {K : KT} {env : Env} {H : Heap} {res : R} {e : EO} {xs kp : List Opd} {r : List AI} {v : AV} {vs : List AV} {H' : Heap} (ho : opds env xs = vs) (h : evE call H e vs = some (v, H')) (hk : keptOk H H' (opds env kp) = true) (g : RR call r K env H' res) :
    RR call (⟨.inr e, xs, none, none, kp⟩ :: r) K env H res := ⟨by
  have := g.eq
  rw [← ho] at h
  simpa only [evR, evI, h, Option.bind_some, hk, if_true, putE] using this⟩
theorem s_enK {call : CallF} {K : KT} {env : Env} {H : Heap} {res : R} {e : EO} {xs kp : List Opd} {d : Nat} {r : List AI} {v : AV} {vs : List AV} {H' : Heap} (ho : opds env xs = vs) (h : evE call H e vs = some (v, H')) (hk : keptOk H H' (opds env kp) = true) (g : RR call r K ((d, v) :: env) H' res) :
    RR call (⟨.inr e, xs, some d, none, kp⟩ :: r) K env H res := ⟨by
  have := g.eq
  rw [← ho] at h
  simpa only [evR, evI, h, Option.bind_some, hk, if_true, putE] using this⟩
theorem flatSame_bL : ∀ b : List Bool, flatSame (bL b) (bL b) = true
  | [] => by unfold bL; rfl
  | x :: b => by
    have := flatSame_bL b
    unfold bL at this ⊢
    simp [flatSame, this]
/-- a call with the game's address that looks only -/
theorem callG {call : CallF} {f : Nat} {H : Heap} {xo xr xn w : AV} {n : Nat} {mv : List Int} {rest : List AV} (fo : xo.idFree = true) (fr : xr.idFree = true) (fn : xn.idFree = true) (h0 : H[0]? = some (some (.box [xo, xr, xn, .sl 1 1 0 n]))) (h1 : H.data? 1 = some (iL mv)) (hn : mv.length = n)
    (hr : idFreeL rest = true) (hrl : rest.length < 30) (hc : call f (.rp [xo, xr, xn, .rd 1 n (iL mv)] :: rest) [] = some (w, [])) (hw : w.idFree = true) (hw2 : w.hasRd = false) : callPure call true f (.ptr 0 0 :: rest) H = some (w, H) := by
  have e0 : ∀ k, frzL H (k + 10) [xo, xr, xn, .sl 1 1 0 n] = some [xo, xr, xn, .rd 1 n (iL mv)] := fun k => by
    subst hn
    simp [frzL_cons, frzL_nil, frzV_free, fo, fr, fn, frzV_sl, h1, iL_len, List.take_of_length_le]
  have e2 := e0 28
  have e3 : frzV H 39 (.ptr 0 0) = some (.rp [xo, xr, xn, .rd 1 n (iL mv)]) := by
    simp only [frzV, h0, e2]
    rfl
  have e1 : frzL H 40 (.ptr 0 0 :: rest) = some (.rp [xo, xr, xn, .rd 1 n (iL mv)] :: rest) := by
    rw [frzL_cons, e3, frzL_free H 39 rest (by omega) hr]
    rfl
  simp [callPure, e1, hc, hw2, frzV_free, hw]
/-- a call with the game's address that changes the moves -/
theorem mutG {call : CallF} {f : Nat} {R : Heap} {xo xr xn w : AV} {n : Nat} {mv mv' : List Int} {rest : List AV} (fo : xo.idFree = true) (fr : xr.idFree = true) (fn : xn.idFree = true) (hr : idFreeL rest = true)
    (hc : call f (.ptr 0 0 :: rest) [some (.box [xo, xr, xn, .sl 1 1 0 n]), some (.data (iL mv))] = some (w, [some (.box [xo, xr, xn, .sl 1 1 0 n]), some (.data (iL mv'))])) (hw : w.idFree = true) :
    callMut call f (.ptr 0 0 :: rest) (some (.box [xo, xr, xn, .sl 1 1 0 n]) :: some (.data (iL mv)) :: R) = some (w, some (.box [xo, xr, xn, .sl 1 1 0 n]) :: some (.data (iL mv')) :: R) := by
  have e1 : reach (some (.box [xo, xr, xn, .sl 1 1 0 n]) :: some (.data (iL mv)) :: R) 400 [] (.ptr 0 0 :: rest) = [0, 1] := by
    simp [reach_newp, reach_new, reach_skip, boxCells, fo, fr, fn, reach_free _ _ _ _ hr]
  have e2 : subHeap [0, 1] (.ptr 0 0 :: rest) (some (.box [xo, xr, xn, .sl 1 1 0 n]) :: some (.data (iL mv)) :: R) = some (.ptr 0 0 :: rest, [some (.box [xo, xr, xn, .sl 1 1 0 n]), some (.data (iL mv))]) := by
    simp [subHeap, nodupB, renL, AV.ren, posOf, pickO, renH, renO, ren_free, fo, fr, fn, renL_free _ hr]
  simp only [callMut, e1, e2, Option.bind_some, hc]
  simp [ren_free, hw, AV.ren, renH, renO, renL, fo, fr, fn, backOf, writeBack]
/-- the closure: is a place in the region -/
theorem c74 {b : List Bool} (hb : b.length = 24) {u : Int} (hu : 0 ≤ u ∧ u < 24) {m : Nat} (hm : 2 ≤ m) (H : Heap) : callPure (evF tab it m) true 74 [.int .i64 u, .rp (bL b)] H = some (.bool (getB b u), H) := by
  refine callPure_free (by simp [idFreeL, idf_int, AV.idFree]) (by simp) (H1 := []) ?_ rfl
  obtain ⟨m, rfl⟩ : ∃ j, m = j + 1 := ⟨m - 1, by omega⟩
  have e1 : ∀ H, evP H (.idxP 24 1) [.rp (bL b), .int .i64 u] = some (.rp (bL (b.drop u.toNat))) := fun H => by
    simp [evP, idxPt, hu, bL_drop]
  have e2 : evP [] (.ld false 1) [.rp (bL (b.drop u.toNat))] = some (.bool (getB b u)) := by
    have hi : u.toNat < b.length := by omega
    rw [List.drop_eq_getElem_cons hi]
    simp only [evP, ldc, bL, List.map_cons, List.length_cons, Nat.le_add_left, if_true, List.take_succ_cons, List.take_zero, Option.bind_some, wholeOf, getB, List.getD, List.getElem?_eq_getElem hi, Option.getD_some, Bool.false_eq_true, if_false]
  refine f_enter rfl rfl ?_
  refine c_seq (c_reg ?_)
  refine s_mov rfl (c_nil (k_c (c_seq (c_reg ?_))))
  refine s_mov rfl (s_pn (by (focus (repeat (first | apply opds_nil | (apply opds_cons; (first | (focus ((conv => lhs; whnf); done)) | exact rfl)))))) (e1 _) (s_pn (by (focus (repeat (first | apply opds_nil | (apply opds_cons; (first | (focus ((conv => lhs; whnf); done)) | exact rfl)))))) e2 (s_mov rfl (c_nil (k_c (c_ret ?_))))))
  exact fin_t rfl rfl rfl
/-- IndexFunc: the first successor in the region -/
theorem f73 {x : AV} {l : List Int} {b : List Bool} (hx : IsL x l) (hb : b.length = 24) (hl : l.length < 50) (hu : ∀ j : Nat, j < l.length → 0 ≤ getI l j ∧ getI l j < 24) {m : Nat} (hm : 103 ≤ m) :
    evF tab it m 73 [x, .fn 74 [.rp (bL b)]] [] = some (.int .i64 (match l.findIdx? (fun u => getB b u) with | some j => (j : Int) | none => -1), []) := by
  obtain ⟨m, rfl⟩ : ∃ j, m = j + 1 := ⟨m - 1, by omega⟩
  have fx := hx.free
  have ff : AV.idFree (.fn 74 [.rp (bL b)]) = true := rfl
  have cv : ∀ H (u : Int), 0 ≤ u ∧ u < 24 → evE (evF tab it m) H (.callv true true) [.fn 74 [.rp (bL b)], .int .i64 u] = some (.bool (getB b u), H) := fun H u h => c74 hb h (by omega) H
  refine f_enter rfl rfl ?_
  repeat' first
 | (apply s_mov; (focus ((conv => lhs; whnf); done)))
 | (apply c_nil)
 | (apply s_len; (focus ((conv => lhs; whnf); done)); (first | assumption | (apply IsLL.at; assumption; omega)))
 | (apply c_seq)
 | (apply c_reg)
 | (apply c_block)
 | (with_reducible apply k_c)
  refine c_loop ?_
  refine loop_gc (σ := Nat) (fun i => [x, .fn 74 [.rp (bL b)], .int .i64 l.length, .int .i64 i]) (fun _ => []) (fun i => i ≤ l.length ∧ ∀ j : Nat, j < i → getB b (getI l j) = false) (fun i => l.length - i) ?_ _ 0 _ _ ⟨by omega, by omega⟩ (by omega) (gc_to rfl (by simp [idFreeL, AV.idFree, *]; done))
  intro i ⟨hi, hbb⟩ K hK
  have hui := hu i
  have key : ∀ c, getB b (getI l i) = c → i < l.length → ∀ H, evE (evF tab it m) H (.callv true true) [.fn 74 [.rp (bL b)], .int .i64 (getI l i)] = some (.bool c, H) := fun c hc h H => by rw [← hc]; exact cv H _ (by omega)
  cases hgb : getB b (getI l i)
  · have k2 := key _ hgb
    repeat' first
 | (apply s_mov; (focus ((conv => lhs; whnf); done)))
 | (apply c_nil)
 | ((first | apply s_lss | apply s_leq | apply s_gtr | apply s_geq | apply s_eql | apply s_neq); exact rfl; all_goals (intro _; try (exfalso; omega)))
 | ((first | apply s_add | apply s_sub); exact rfl; omega)
 | (apply s_en; (focus (repeat (first | apply opds_nil | (apply opds_cons; (first | (focus ((conv => lhs; whnf); done)) | exact rfl))))); exact k2 (by omega) _)
 | (apply s_idx; (focus ((conv => lhs; whnf); done)); exact rfl; (first | assumption | (apply IsLL.at; assumption; omega)); omega)
 | (apply s_ldI; exact rfl; omega)
 | (apply c_seq)
 | (apply c_reg)
 | (apply c_block)
 | (apply c_exitH)
 | (apply c_skip)
 | (apply c_ret)
 | (apply c_condT; exact rfl)
 | (apply c_condF; exact rfl)
 | (apply c_preF; (focus (repeat (first | apply looks_nil | (apply looks_cons; (focus ((conv => lhs; whnf); done)))))); (focus (simp [idFreeL, AV.idFree, *]; done)))
 | (with_reducible apply k_c)
    · refine hK (i + 1) _ _ ⟨by omega, fun j hj => ?_⟩ (by omega) (gc_to rfl (by simp [idFreeL, AV.idFree, *]; done))
      rcases (by omega : j < i ∨ j = i) with h | rfl
      · exact hbb j h
      · exact hgb
    · have : l.findIdx? (fun u => getB b u) = none := by
        rw [List.findIdx?_eq_none_iff]
        intro u hu
        obtain ⟨j, hj, rfl⟩ := List.getElem_of_mem hu
        have := hbb j (by omega)
        rw [getI_nat] at this
        simpa [List.getD, hj] using this
      rw [this]
      exact fin_t rfl rfl rfl
  · have k2 := key _ hgb
    repeat' first
 | (apply s_mov; (focus ((conv => lhs; whnf); done)))
 | (apply c_nil)
 | ((first | apply s_lss | apply s_leq | apply s_gtr | apply s_geq | apply s_eql | apply s_neq); exact rfl; all_goals (intro _; try (exfalso; omega)))
 | (apply s_en; (focus (repeat (first | apply opds_nil | (apply opds_cons; (first | (focus ((conv => lhs; whnf); done)) | exact rfl))))); exact k2 (by omega) _)
 | (apply s_idx; (focus ((conv => lhs; whnf); done)); exact rfl; (first | assumption | (apply IsLL.at; assumption; omega)); omega)
 | (apply s_ldI; exact rfl; omega)
 | (apply c_seq)
 | (apply c_reg)
 | (apply c_block)
 | (apply c_exitH)
 | (apply c_skip)
 | (apply c_ret)
 | (apply c_condT; exact rfl)
 | (apply c_condF; exact rfl)
 | (apply c_preF; (focus (repeat (first | apply looks_nil | (apply looks_cons; (focus ((conv => lhs; whnf); done)))))); (focus (simp [idFreeL, AV.idFree, *]; done)))
 | (with_reducible apply k_c)
    · have hil : i < l.length := by omega
      have : l.findIdx? (fun u => getB b u) = some i := by
        rw [List.findIdx?_eq_some_iff_getElem]
        refine ⟨hil, ?_, fun j hj => ?_⟩
        · rw [getI_nat] at hgb; simpa [List.getD, hil] using hgb
        · have := hbb j hj
          rw [getI_nat] at this
          simpa [List.getD, show j < l.length by omega] using this
      rw [this]
      exact fin_t rfl rfl rfl
    · have : l.findIdx? (fun u => getB b u) = none := by
        rw [List.findIdx?_eq_none_iff]
        intro u hu
        obtain ⟨j, hj, rfl⟩ := List.getElem_of_mem hu
        have := hbb j (by omega)
        rw [getI_nat] at this
        simpa [List.getD, hj] using this
      rw [this]
      exact fin_t rfl rfl rfl
theorem c73 {x : AV} {l : List Int} {b : List Bool} {id : Nat} (hx : IsL x l) (hb : b.length = 24) (hl : l.length < 50) (hu : ∀ j : Nat, j < l.length → 0 ≤ getI l j ∧ getI l j < 24) {m : Nat} (hm : 103 ≤ m) {H : Heap} (hH : H[id]? = some (some (.data (bL b)))) :
    callPure (evF tab it m) true 73 [x, .fn 74 [.ptr id 0]] H = some (.int .i64 (match l.findIdx? (fun u => getB b u) with | some j => (j : Int) | none => -1), H) := by
  have e : frzL H 40 [x, .fn 74 [.ptr id 0]] = some [x, .fn 74 [.rp (bL b)]] := by
    have e2 : frzV H 38 (.fn 74 [.ptr id 0]) = some (.fn 74 [.rp (bL b)]) := by
      simp [frzV, frzL, idFreeL, idf_ptr, hH]
    simp [frzL_cons, frzL_nil, frzV_free, hx.free, e2]
  simp [callPure, e, f73 hx hb hl hu hm, frzV_int, AV.hasRd]
end Go.AM.Pa
