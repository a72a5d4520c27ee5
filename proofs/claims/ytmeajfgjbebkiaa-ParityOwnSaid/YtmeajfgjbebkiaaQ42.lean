/- A part of the proof: Q42. -/
import Derived.Test.YtmeajfgjbebkiaaQ41
import Derived.Test.YtmeajfgjbebkiaaQF
import Derived.Test.YtmeajfgjbebkiaaQ16
set_option linter.unusedSectionVars false
set_option linter.unusedVariables false
set_option linter.unusedSimpArgs false
namespace Go.AM.Pa
attribute [local go_sem] gc subHeap reach_skip ren_free reach_new reach_newp reach_end rangeL roots boxCells nodupB posOf renL AV.ren pickO renH renO looks look bindEnv envOf reach_int reach_bool reach_nilS reach_rd putRow cells_sl cells_int cells_bool cells_nilS cells_rd cells_agg reach_agg reach_tup idFreeL idf_sl idf_ptr idf_int idf_bool idf_nilS idf_rd
theorem isL_ne {x : AV} {l : List Int} (h : IsL x l) (hn : l ≠ []) : x = fzL l := by
  cases h with
  | nil => exact absurd rfl hn
  | rd l =>
    rcases l with _ | ⟨a, r⟩
    · exact absurd rfl hn
    · unfold fzL; rfl
theorem getLL_rngI {n : Nat} {f : Nat → Int} {i : Nat} (h : i < n) : getI ((List.range n).map f) i = f i := by
  rw [getI_nat]; simp [h]
/-! bound -/
def brs (g : Gm) (p : Int) (pl : List Int) (i : Nat) : List AV := (List.range i).map fun v => fzL (bRow g p pl v)
theorem brs_succ (g : Gm) (p : Int) (pl : List Int) (i : Nat) : brs g p pl (i + 1) = brs g p pl i ++ [fzL (bRow g p pl i)] := by simp [brs, List.range_succ]
theorem brs_len (g : Gm) (p : Int) (pl : List Int) (i : Nat) : (brs g p pl i).length = i := by simp [brs]
theorem brs_all (g : Gm) (p : Int) (pl : List Int) : brs g p pl g.next.length = (bndG g p pl).next.map fzL := by simp [brs, bndG]
theorem fzL_one (v : Int) : fzL [v] = .rd 1 1 [.int .i64 v] := by unfold fzL; rfl
set_option maxHeartbeats 4000000
theorem c66 {x t : AV} {g : Gm} {p : Int} {pl : List Int} (hx : IsG x g) (ht : IsL t pl) (hg : Good g) (hl : g.next.length ≤ pl.length) {m : Nat} (hm : 40 ≤ m) (H : Heap) :
    ∃ y, IsG y (bndG g p pl) ∧ callPure (evF tab it m) true 66 [x, .int .i64 p, t] H = some (y, H) := by
  obtain ⟨xo, xr, xn, rfl, ho, hr, hn⟩ := id hx
  have fo := ho.free; have fr := hr.free; have fn := hn.free; have ft := ht.free
  have hg1 := hg.1; have hg2 := hg.2.1
  have hbl := bnd_len g p pl
  refine ⟨.agg [xo, xr, fzLL (bndG g p pl).next], ⟨_, _, _, rfl, ho, hr, isLL_fz _⟩, ?_⟩
  refine callPure_frz (by simp [idFreeL, AV.idFree, fo, fr, fn, ft]) (by simp) (v := .agg [xo, xr, .sl 0 1 0 g.next.length]) (H1 := [some (.data (brs g p pl g.next.length))]) ?_ ?_
  · obtain ⟨m, rfl⟩ : ∃ j, m = j + 1 := ⟨m - 1, by omega⟩
    have ob : ∀ call, evE call [] (.box false) [.agg [xo, xr, xn]] = some (.ptr 0 0, [some (.box [xo, xr, xn])]) := fun call => by simp [evE, AV.cells, oneL, ho.one, hr.one, hn.one, mkHO]
    have al3 : ∀ call H, evE call H (.alloc false [.nilS, .nilS, .nilS]) [] = some (.ptr H.length 0, H ++ [some (.box [.nilS, .nilS, .nilS])]) := fun call H => rfl
    have bl2 : ∀ H, evP H (.bld [.nilS, .nilS, .nilS] [(0, 1), (1, 1)]) [xo, xr] = some (.agg [xo, xr, .nilS]) := fun H => by
      simp [evP, fillParts, ho.cellsV, hr.cellsV, ho.solid, hr.solid, putPart]
    have stG : ∀ call H id, H[id]? = some (some (.box [.nilS, .nilS, .nilS])) → evE call H (.st 3) [.ptr id 0, .agg [xo, xr, .nilS]] = some (.undef, H.set id (some (.box [xo, xr, .nilS]))) := fun call H id h => e_st3 ho.one hr.one rfl h
    have stO : ∀ call H id k b, H[id]? = some (some (.box [.nilS, .nilS, .nilS])) → evE call H (.st 3) [.ptr id 0, .agg [xo, xr, .sl k 1 0 b]] = some (.undef, H.set id (some (.box [xo, xr, .sl k 1 0 b]))) := fun call H id k b h => e_st3 ho.one hr.one rfl h
    have hrow : ∀ v : Nat, v < g.next.length → IsL (llAt xn v) (getLL g.next v) ∧ llAt xn v = fzL (getLL g.next v) := fun v hv => by
      have := hn.at (i := (v : Int)) (by omega)
      exact ⟨this, isL_ne this (row_ne hg rfl hv)⟩
    refine f_enter rfl rfl ?_
    generalize evF tab it m = call
    repeat' first
 | (apply s_mov; (focus ((conv => lhs; whnf); done)))
 | (apply c_nil)
 | (apply s_en; (focus (repeat (first | apply opds_nil | (apply opds_cons; (first | (focus ((conv => lhs; whnf); done)) | exact rfl))))); exact ob _)
 | (apply s_en; (focus (repeat (first | apply opds_nil | (apply opds_cons; (first | (focus ((conv => lhs; whnf); done)) | exact rfl))))); exact al3 _ _)
 | (apply s_pn; (focus (repeat (first | apply opds_nil | (apply opds_cons; (first | (focus ((conv => lhs; whnf); done)) | exact rfl))))); exact bl2 _)
 | (apply s_st; (focus (repeat (first | apply opds_nil | (apply opds_cons; (first | (focus ((conv => lhs; whnf); done)) | exact rfl))))); exact stG _ _ _ rfl)
 | (apply s_lenLL; (focus ((conv => lhs; whnf); done)); assumption)
 | (apply s_pd; (focus ((conv => lhs; whnf); done)))
 | (apply c_seq)
 | (apply c_reg)
 | (apply c_block)
 | (with_reducible apply k_c)
    refine c_loop ?_
    refine loop_gc (σ := Nat) (fun v => [.int .i64 p, t, .ptr 0 0, .ptr 1 0, .ptr 2 0, xn, .int .i64 g.next.length, .int .i64 v]) (fun v => [some (.box [xo, xr, xn]), some (.box [.nilS, .nilS, .nilS]), some (.box [xo, xr, ownV 3 (brs g p pl v)])] ++ owH (brs g p pl v)) (fun v => v ≤ g.next.length) (fun v => g.next.length - v) ?_ _ 0 _ _ (by omega) (by omega) (by simp [go_sem, fo, fr, fn, ft, brs, ownV, owH]; done)
    intro v hv K hK
    have hsi := brs_succ g p pl v
    have hsl := brs_len g p pl v
    have hsn : v = g.next.length → brs g p pl v = brs g p pl g.next.length := fun e => by rw [e]
    have hrv := hrow v
    generalize brs g p pl v = l at *
    have hap : ∀ call y, evE call ([some (.box [xo, xr, xn]), some (.box [.nilS, .nilS, .nilS]), some (.box [xo, xr, ownV 3 l])] ++ owH l) (.app false 1 24) [ownV 3 l, .rd 1 1 [y]] = _ := fun call y => e_app_own rfl (by omega)
    have stR : ∀ call D a b, evE call ([some (.box [xo, xr, xn]), some (.box [.nilS, .nilS, .nilS]), some (.box [xo, xr, ownV 3 l])] ++ owK l ++ [some (.data D)]) (.st 1) [.ptr 2 (0 + 2), .sl a 1 0 b] = some (.undef, [some (.box [xo, xr, xn]), some (.box [.nilS, .nilS, .nilS]), some (.box [xo, xr, .sl a 1 0 b])] ++ owK l ++ [some (.data D)]) := fun call D a b => by
      simp [evE, stAt, cells_sl, oneL, AV.one, putRow]
    repeat' first
 | (apply s_mov; (focus ((conv => lhs; whnf); done)))
 | (apply c_nil)
 | ((first | apply s_lss | apply s_leq | apply s_gtr | apply s_geq | apply s_eql | apply s_neq); exact rfl; all_goals (intro _; try (exfalso; omega)))
 | ((first | apply s_add | apply s_sub); exact rfl; omega)
 | (apply s_en; (focus (repeat (first | apply opds_nil | (apply opds_cons; (first | (focus ((conv => lhs; whnf); done)) | exact rfl))))); exact e_bld1 rfl rfl rfl rfl)
 | (apply s_en; (focus (repeat (first | apply opds_nil | (apply opds_cons; (first | (focus ((conv => lhs; whnf); done)) | exact rfl))))); exact e_bld1 (hrv (by omega)).1.cellsV (hrv (by omega)).1.solid (hrv (by omega)).1.one (hrv (by omega)).1.free)
 | (apply s_en; (focus (repeat (first | apply opds_nil | (apply opds_cons; (first | (focus ((conv => lhs; whnf); done)) | exact rfl))))); exact hap _ _)
 | (apply s_st; (focus (repeat (first | apply opds_nil | (apply opds_cons; (first | (focus ((conv => lhs; whnf); done)) | exact rfl))))); exact stR _ _ _ _)
 | (apply s_idx; (focus ((conv => lhs; whnf); done)); exact rfl; (first | assumption | (apply IsLL.at; assumption; omega)); omega)
 | (apply s_idxLL; (focus ((conv => lhs; whnf); done)); exact rfl; assumption; omega)
 | (apply s_ldI; exact rfl; omega)
 | (apply s_ldLL; exact rfl; assumption; omega)
 | (apply s_pd; (focus ((conv => lhs; whnf); done)))
 | (apply c_seq)
 | (apply c_reg)
 | (apply c_block)
 | (apply c_exitH)
 | (apply c_skip)
 | (apply c_condT; exact rfl)
 | (apply c_condF; exact rfl)
 | (with_reducible apply k_c)
    · rename_i q1 q2
      refine hK (v + 1) _ _ (by omega) (by omega) ?_
      rw [hsi, bRow, if_pos q2, fzL_one]
      rcases l with _ | ⟨c, cs⟩ <;> exact (by simp [go_sem, fo, fr, fn, ft, ownV, owH, owK]; done)
    · rename_i q1 q2
      refine hK (v + 1) _ _ (by omega) (by omega) ?_
      rw [hsi, bRow, if_neg q2, ← (hrv (by omega)).2]
      rcases l with _ | ⟨c, cs⟩ <;> exact (by simp [go_sem, fo, fr, fn, ft, ownV, owH, owK]; done)
    have hin : v = g.next.length := by omega
    rw [← hsn hin]
    rw [hin] at hsl
    rcases l with _ | ⟨c, cs⟩
    · simp at hsl; omega
    · simp only [List.length_cons] at hsl
      refine c_pre (vs := [.ptr 0 0, .ptr 1 0]) (H' := [some (.box [.nilS, .nilS, .nilS]), some (.box [xo, xr, .sl 2 1 0 (cs.length + 1)]), some (.data (c :: cs))]) (by simp [go_sem, fo, fr, fn, ft, ownV, owH]; done) ?_
      repeat' first
 | (apply c_nil)
 | (apply s_st; (focus (repeat (first | apply opds_nil | (apply opds_cons; (first | (focus ((conv => lhs; whnf); done)) | exact rfl))))); exact stO _ _ _ _ _ rfl)
 | (apply s_pd; (focus ((conv => lhs; whnf); done)))
 | (apply c_seq)
 | (apply c_reg)
 | (apply c_ret)
 | (with_reducible apply k_c)
      rw [← hsl]
      simp [finish, ress, resOf, ldc, getRow, Heap.cells?, HO.cells?, wholeOf, look, tupOf, bindEnv, putRow, cells_agg, idFreeL, AV.idFree, fo, fr, idf_sl, gc, subHeap, reach_agg, reach_new, reach_end, reach_skip, rangeL, roots, boxCells, nodupB, posOf, renL, AV.ren, ren_free, pickO, renH, renO]
  · have h1 := brs_len g p pl g.next.length
    have h2 : (brs g p pl g.next.length).take g.next.length = brs g p pl g.next.length := List.take_of_length_le (by omega)
    rw [fzLL_ne hbl hg1.1, ← brs_all]
    simp [frzV_agg, frzL_cons, frzL_nil, frzV_sl, idFreeL, idf_sl, Heap.data?, h1, h2, fo, fr, frzV_free]
/-! beats -/
def beatsL (g : Gm) (p : Int) (pl : List Int) : List Int := fil g.next.length fun v => decide (winA (zAll (bndG g p pl)).1 v = p)
theorem beatsL_len (g : Gm) (p : Int) (pl : List Int) : (beatsL g p pl).length ≤ g.next.length := fil_len _ _
theorem f58 {x t : AV} {g : Gm} {p : Int} {pl : List Int} (hx : IsG x g) (ht : IsL t pl) (hg : Good g) (hrow : ∀ l ∈ g.next, l.length < 50) (hl : g.next.length ≤ pl.length) (hp : OkB g p pl) {m : Nat} (hm : 192 ≤ m) :
    evF tab it m 58 [x, .int .i64 p, t] [] = some (ownV 0 (iL (beatsL g p pl)), owH (iL (beatsL g p pl))) := by
  obtain ⟨m, rfl⟩ : ∃ j, m = j + 1 := ⟨m - 1, by omega⟩
  obtain ⟨y, hy, h66⟩ : ∃ y, IsG y (bndG g p pl) ∧ ∀ H, callPure (evF tab it m) true 66 [x, .int .i64 p, t] H = some (y, H) := by
    obtain ⟨y, h1, h2⟩ := c66 (p := p) hx ht hg hl (m := m) (by omega) []
    refine ⟨y, h1, fun H => ?_⟩
    have e : callPure (evF tab it m) true 66 [x, .int .i64 p, t] H = (callPure (evF tab it m) true 66 [x, .int .i64 p, t] []).map fun r => (r.1, H) := by
      have ff : idFreeL [x, .int .i64 p, t] = true := by simp [idFreeL, AV.idFree, hx.free, ht.free]
      simp only [callPure, frzL_free H 40 [x, .int .i64 p, t] (by simp) ff, frzL_free [] 40 [x, .int .i64 p, t] (by simp) ff, Option.bind_some, ff, Bool.true_or, if_true]
      cases evF tab it m 66 [x, .int .i64 p, t] [] with
      | none => rfl
      | some r =>
        simp only [Option.bind_some]
        cases frzV r.2 40 r.1 <;> rfl
    rw [e, h2]; rfl
  have hb := bnd_good hg hp
  have hbl := bnd_len g p pl
  have h55 := fun H => c55 hy hb (getLL_lt (bnd_rows hrow p pl) (by omega)) (m := m) (by omega) H
  obtain ⟨xo, xr, xn, rfl, ho, hr, hn⟩ := id hx
  have fo := ho.free; have fr := hr.free; have fn := hn.free; have ft := ht.free
  have ob : ∀ call, evE call [] (.box false) [.agg [xo, xr, xn]] = some (.ptr 0 0, [some (.box [xo, xr, xn])]) := fun call => by simp [evE, AV.cells, oneL, ho.one, hr.one, hn.one, mkHO]
  have hg1 := hg.1
  have hw := isL_fz (winL (zAll (bndG g p pl)).1 (bndG g p pl).next.length)
  have hwl : (winL (zAll (bndG g p pl)).1 (bndG g p pl).next.length).length = g.next.length := by simp [winL, hbl]
  have hwa : ∀ j : Nat, j < g.next.length → getI (winL (zAll (bndG g p pl)).1 (bndG g p pl).next.length) (j : Nat) = winA (zAll (bndG g p pl)).1 j := fun j hj => by rw [hbl, winL, getLL_rngI hj]
  have hmo := isL_fz (movL (bndG g p pl) (zAll (bndG g p pl)).1 (zAll (bndG g p pl)).2 (bndG g p pl).next.length)
  generalize fzL (movL (bndG g p pl) (zAll (bndG g p pl)).1 (zAll (bndG g p pl)).2 (bndG g p pl).next.length) = mo at *
  generalize winL (zAll (bndG g p pl)).1 (bndG g p pl).next.length = W at *
  generalize fzL W = w at *
  have fw := hw.free
  refine f_enter rfl rfl ?_
  generalize evF tab it m = call at *
  repeat' first
 | (apply s_mov; (focus ((conv => lhs; whnf); done)))
 | (apply c_nil)
 | (apply s_en; (focus (repeat (first | apply opds_nil | (apply opds_cons; (first | (focus ((conv => lhs; whnf); done)) | exact rfl))))); exact ob _)
 | (apply s_cn; (focus (repeat (first | apply opds_nil | (apply opds_cons; (first | (focus ((conv => lhs; whnf); done)) | exact rfl))))); exact h66 _)
 | (apply s_cn; (focus (repeat (first | apply opds_nil | (apply opds_cons; (first | (focus ((conv => lhs; whnf); done)) | exact rfl))))); exact h55 _)
 | (apply s_len; (focus ((conv => lhs; whnf); done)); (first | assumption | (apply IsLL.at; assumption; omega)))
 | (apply s_pd; (focus ((conv => lhs; whnf); done)))
 | (apply c_seq)
 | (apply c_reg)
 | (apply c_block)
 | (with_reducible apply k_c)
  refine c_loop ?_
  refine loop_gc (σ := Nat) (fun v => [.int .i64 p, ownV 0 (iL (fil v fun v => decide (winA (zAll (bndG g p pl)).1 v = p))), w, .int .i64 W.length, .int .i64 v]) (fun v => owH (iL (fil v fun v => decide (winA (zAll (bndG g p pl)).1 v = p)))) (fun v => v ≤ g.next.length) (fun v => g.next.length - v) ?_ _ 0 _ _ (by omega) (by omega) (by simp [go_sem, fw, fil, ownV, owH, iL]; done)
  intro v hv K hK
  have hsi := fil_succ v fun v => decide (winA (zAll (bndG g p pl)).1 v = p)
  have hsl := fil_len v fun v => decide (winA (zAll (bndG g p pl)).1 v = p)
  have hsn : v = g.next.length → fil v (fun v => decide (winA (zAll (bndG g p pl)).1 v = p)) = beatsL g p pl := fun e => by rw [e]; rfl
  have hwv := hwa v
  generalize fil v (fun v => decide (winA (zAll (bndG g p pl)).1 v = p)) = l at *
  have hap : ∀ call y, evE call (owH (iL l)) (.app false 1 8) [ownV 0 (iL l), .rd 1 1 [y]] = some (.sl (0 + (owK (iL l)).length) 1 0 ((iL l).length + 1), owK (iL l) ++ [some (.data (iL l ++ [y]))]) := fun call y => by
    have := e_app_own (call := call) (Pr := []) (l := iL l) (v := y) (q := 8) (id := 0) rfl (by rw [iL_len]; omega)
    simpa using this
  repeat' first
 | (apply s_mov; (focus ((conv => lhs; whnf); done)))
 | (apply c_nil)
 | ((first | apply s_lss | apply s_leq | apply s_gtr | apply s_geq | apply s_eql | apply s_neq); exact rfl; all_goals (intro _; try (exfalso; omega)))
 | ((first | apply s_add | apply s_sub); exact rfl; omega)
 | (apply s_en; (focus (repeat (first | apply opds_nil | (apply opds_cons; (first | (focus ((conv => lhs; whnf); done)) | exact rfl))))); exact e_bld1 rfl rfl rfl rfl)
 | (apply s_en; (focus (repeat (first | apply opds_nil | (apply opds_cons; (first | (focus ((conv => lhs; whnf); done)) | exact rfl))))); exact hap _ _)
 | (apply s_idx; (focus ((conv => lhs; whnf); done)); exact rfl; (first | assumption | (apply IsLL.at; assumption; omega)); omega)
 | (apply s_ldI; exact rfl; omega)
 | (apply c_seq)
 | (apply c_reg)
 | (apply c_block)
 | (apply c_exitH)
 | (apply c_skip)
 | (apply c_condT; exact rfl)
 | (apply c_condF; exact rfl)
 | (with_reducible apply k_c)
  · rename_i q1 q2
    refine hK (v + 1) _ _ (by omega) (by omega) ?_
    rw [hsi, if_pos (by rw [← hwv (by omega)]; exact decide_eq_true q2)]
    rcases l with _ | ⟨c, cs⟩ <;> exact (by simp [go_sem, fw, ownV, owH, owK, iL]; done)
  · rename_i q1 q2
    refine hK (v + 1) _ _ (by omega) (by omega) ?_
    rw [hsi, if_neg (by rw [← hwv (by omega)]; simpa using q2)]
    rcases l with _ | ⟨c, cs⟩ <;> exact (by simp [go_sem, fw, ownV, owH, owK, iL]; done)
  rw [← hsn (by omega)]
  refine c_pre (vs := [ownV 0 (iL l)]) (H' := owH (iL l)) (by rcases l with _ | ⟨c, cs⟩ <;> exact (by simp [go_sem, fw, ownV, owH, owK, iL]; done)) ?_
  repeat' first
 | (apply s_mov; (focus ((conv => lhs; whnf); done)))
 | (apply c_nil)
 | (apply c_seq)
 | (apply c_reg)
 | (apply c_ret)
 | (with_reducible apply k_c)
  rcases l with _ | ⟨c, cs⟩ <;> simp [finish, ress, resOf, look, tupOf, gc, subHeap, reach_new, reach_nilS, reach_end, rangeL, roots, boxCells, nodupB, posOf, renL, AV.ren, pickO, renH, renO, bindEnv, ownV, owH, iL]
theorem c58 {x t : AV} {g : Gm} {p : Int} {pl : List Int} (hx : IsG x g) (ht : IsL t pl) (hg : Good g) (hrow : ∀ l ∈ g.next, l.length < 50) (hl : g.next.length ≤ pl.length) (hp : OkB g p pl) {m : Nat} (hm : 192 ≤ m) (H : Heap) :
    callPure (evF tab it m) true 58 [x, .int .i64 p, t] H = some (fzL (beatsL g p pl), H) :=
  callPure_frz (by simp [idFreeL, AV.idFree, hx.free, ht.free]) (by simp) (f58 hx ht hg hrow hl hp hm) (frz_own _)
/-- beats, with a plan that is its caller's own -/
theorem c58s {x : AV} {g : Gm} {p : Int} {pl : List Int} {id n : Nat} (hx : IsG x g) (hg : Good g) (hrow : ∀ l ∈ g.next, l.length < 50) (hn : pl.length = n) (hl : g.next.length ≤ n) (hp : OkB g p pl) {m : Nat} (hm : 192 ≤ m) {H : Heap} (hH : H.data? id = some (iL pl)) :
    callPure (evF tab it m) true 58 [x, .int .i64 p, .sl id 1 0 n] H = some (fzL (beatsL g p pl), H) := by
  have e : frzL H 40 [x, .int .i64 p, .sl id 1 0 n] = some [x, .int .i64 p, .rd 1 n (iL pl)] := by
    have h1 : (iL pl).length = n := by rw [iL_len, hn]
    have h2 : (iL pl).take n = iL pl := List.take_of_length_le (by omega)
    simp [frzL_cons, frzL_nil, frzV_free, frzV_int, frzV_sl, hx.free, hH, h1, h2]
  have hno : (ownV 0 (iL (beatsL g p pl))).hasRd = false ∧ (owH (iL (beatsL g p pl))).all (fun o => !HO.hasRd o) = true := by
    have h := iL_noRd (beatsL g p pl)
    rcases hb : iL (beatsL g p pl) with _ | ⟨c, cs⟩
    · exact ⟨rfl, rfl⟩
    · rw [hb] at h
      simp [ownV, owH, AV.hasRd, HO.hasRd, h]
  simp only [callPure, e, Option.bind_some, f58 hx (isL_rd hn) hg hrow (by omega) hp hm, hno.1, hno.2, frz_own]
  simp
end Go.AM.Pa
