/- A part of the proof: Q8. -/
import Derived.Test.YtmeajfgjbebkiaaQ7
set_option linter.unusedSectionVars false
set_option linter.unusedVariables false
set_option linter.unusedSimpArgs false
namespace Go.AM.Pa
attribute [local go_sem] gc subHeap reach_skip ren_free reach_new reach_newp reach_end rangeL roots boxCells nodupB posOf renL AV.ren pickO renH renO looks look bindEnv envOf reach_int reach_bool reach_nilS reach_rd putRow cells_sl cells_int cells_bool cells_nilS cells_rd cells_agg reach_agg reach_tup idFreeL idf_sl idf_ptr idf_int idf_bool idf_nilS idf_rd
def mark (b : List Bool) (l : List Int) : List Bool := l.foldl (fun b v => b.set v.toNat true) b
theorem mark_len (l : List Int) : ∀ b, (mark b l).length = b.length := by
  induction l with
  | nil => intro b; rfl
  | cons v l ih => intro b; rw [mark, List.foldl_cons]; exact (ih _).trans (by simp)
theorem mark_succ (b : List Bool) {l : List Int} {i : Nat} (h : i < l.length) : mark b (l.take (i + 1)) = (mark b (l.take i)).set (getI l i).toNat true := by
  simp only [mark, List.take_add_one, List.getElem?_eq_getElem h, Option.toList_some, List.foldl_append, List.foldl_cons, List.foldl_nil, getI_nat, List.getD, Option.getD_some]
theorem fl_getB {n : Nat} (h : n ≤ 24) (i : Nat) : getB (fl n) i = decide (i < n) := by
  rw [getB_nat, fl]
  by_cases hi : i < n
  · simp [List.getD, List.getElem?_append, hi]
  · by_cases h2 : i - n < 24 - n
    · simp [List.getD, List.getElem?_append, hi, h2]
    · simp [List.getD, List.getElem?_append, hi, h2]
def attrL (g : Gm) (p : Int) (set : List Int) : List Int := (trues (runN g (fl g.next.length) p 26 (mark z24 set) (List.replicate g.next.length (-1))).1).map fun (i : Nat) => (i : Int)
theorem runN_len {g : Gm} {inn : List Bool} {p : Int} {n : Nat} : ∀ (k : Nat) (out : List Bool) {mv : List Int}, out.length = 24 → mv.length = n → (runN g inn p k out mv).1.length = 24
  | 0, out, mv, h, _ => h
  | k + 1, out, mv, h, h2 => by
    have ha := along_sweep (g := g) (inn := inn) (p := p) h h2
    simp only [runN]
    split
    · exact runN_len k _ ha.1 ha.2.1
    · exact ha.1
set_option maxHeartbeats 1000000
section
variable {xo xr xn : AV} {a : Gm} (ho : IsL xo a.owner) (hr : IsL xr a.rank) (hn : IsLL xn a.next) {o0 o1 : Option HO}
include ho hr hn
theorem c42 (hl : a.next.length ≤ 24) {m : Nat} (hm : 103 ≤ m) : callPure (evF tab it m) false 42 [.agg [xo, xr, xn]] [o0, o1] = some (.ptr 2 0, [o0, o1, some (.box [xo, xr, xn, .sl 3 1 0 a.next.length]), some (.data (iL (List.replicate a.next.length (-1))))]) := by
  have fo := ho.free; have fr := hr.free; have fn := hn.free
  have ff : idFreeL [.agg [xo, xr, xn]] = true := by simp [idFreeL, AV.idFree, fo, fr, fn]
  simp [callPure, frzL_free [o0, o1] 40 [.agg [xo, xr, xn]] (by simp) ff, f42 ho hr hn hl m hm, ff, shiftH, AV.ren, renH, renO, renL, ren_free, fo, fr, fn]
theorem c45 {mv : List Int} (hmv : mv.length = a.next.length) (hl : a.next.length ≤ 24) {m : Nat} (hm : 103 ≤ m) : callPure (evF tab it m) true 45 [.ptr 2 0] [o0, o1, some (.box [xo, xr, xn, .sl 3 1 0 a.next.length]), some (.data (iL mv))] = some (.agg (bL (fl a.next.length)), [o0, o1, some (.box [xo, xr, xn, .sl 3 1 0 a.next.length]), some (.data (iL mv))]) := by
  have fo := ho.free; have fr := hr.free; have fn := hn.free
  have hf : AV.idFree (.agg (bL (fl a.next.length))) = true := by simp [AV.idFree, bL_free]
  have e1 : frzL [o0, o1, some (.box [xo, xr, xn, .sl 3 1 0 a.next.length]), some (.data (iL mv))] 40 [.ptr 2 0] = some [.rp [xo, xr, xn, .rd 1 a.next.length (iL mv)]] := by
    have e0 : ∀ k, frzL [o0, o1, some (.box [xo, xr, xn, .sl 3 1 0 a.next.length]), some (.data (iL mv))] (k + 10) [xo, xr, xn, .sl 3 1 0 a.next.length] = some [xo, xr, xn, .rd 1 a.next.length (iL mv)] := fun k => by
      simp [frzL_cons, frzL_nil, frzV_free, fo, fr, fn, frzV_sl, Heap.data?, iL_len, hmv, List.take_of_length_le]
    have e2 := e0 28
    simp only [frzL_cons, frzL_nil, frzV, List.getElem?_cons_succ, List.getElem?_cons_zero, e2]
    rfl
  simp [callPure, e1, f45 hn hl m hm, hf, frzV_free, AV.hasRd, bL_noRd]
theorem c44 (hg : Good a) (hrow : ∀ i : Int, (getLL a.next i).length < 50) {inn : List Bool} (hinn : inn.length = 24) {p : Int} (hin : ∀ i : Nat, getB inn i = true → i < a.next.length) {mv : List Int} {to : List Bool} (hto : to.length = 24) (hmv : mv.length = a.next.length) {m : Nat} (hm : 103 ≤ m) :
    callMut (evF tab it m) 44 [.ptr 2 0, .agg (bL inn), .int .i64 p, .agg (bL to)] [o0, o1, some (.box [xo, xr, xn, .sl 3 1 0 a.next.length]), some (.data (iL mv))] =
      some (.agg (bL (runN a inn p 26 to mv).1), [o0, o1, some (.box [xo, xr, xn, .sl 3 1 0 a.next.length]), some (.data (iL (runN a inn p 26 to mv).2))]) := by
  have fo := ho.free; have fr := hr.free; have fn := hn.free
  have e1 : reach [o0, o1, some (.box [xo, xr, xn, .sl 3 1 0 a.next.length]), some (.data (iL mv))] 400 [] [.ptr 2 0, .agg (bL inn), .int .i64 p, .agg (bL to)] = [2, 3] := by
    simp [reach_newp, reach_new, reach_skip, reach_agg, reach_int, reach_end, bL_free, boxCells, fo, fr, fn]
  have e2 : subHeap [2, 3] [.ptr 2 0, .agg (bL inn), .int .i64 p, .agg (bL to)] [o0, o1, some (.box [xo, xr, xn, .sl 3 1 0 a.next.length]), some (.data (iL mv))] = some ([.ptr 0 0, .agg (bL inn), .int .i64 p, .agg (bL to)], [some (.box [xo, xr, xn, .sl 1 1 0 a.next.length]), some (.data (iL mv))]) := by
    simp [subHeap, nodupB, renL, AV.ren, bL_free, posOf, pickO, renH, renO, ren_free, fo, fr, fn]
  simp only [callMut, e1, e2, Option.bind_some, f44 ho hr hn hinn hg rfl hin hrow hto hmv m hm]
  simp [AV.ren, bL_free, renH, renO, renL, ren_free, fo, fr, fn, backOf, writeBack]
end
theorem gc_tup (a b c d : Option HO) (l : List Int) (e : Int) : gc 0 [.tup [ownV 4 (iL l), .int .i64 e]] (a :: b :: c :: d :: owH (iL l)) = some ([.tup [ownV 0 (iL l), .int .i64 e]], owH (iL l)) := by
  rcases l with _ | ⟨x, r⟩
  · simp [ownV, owH, iL, gc, subHeap, reach_tup, idFreeL, AV.idFree, reach_end, rangeL, roots, nodupB, posOf, renL, AV.ren, pickO, renH, renO]
  · simp [ownV, owH, iL, gc, subHeap, reach_tup, reach_int, idFreeL, AV.idFree, reach_new, reach_end, rangeL, roots, boxCells, nodupB, posOf, renL, AV.ren, pickO, renH, renO]
theorem fin_ownT {n n' : Nat} {env : Env} {a b c d : Option HO} {H : Heap} {res : R} {l : List Int} {e : Int} (hr : look env n = ownV 4 (iL l)) (hr' : look env n' = .int .i64 e) (hH : H = a :: b :: c :: d :: owH (iL l)) (h : some (.tup [ownV 0 (iL l), .int .i64 e], owH (iL l)) = res) : finish 0 [.t n, .t n'] env H = res := by
  have := gc_tup a b c d l e
  subst hH
  simp [finish, ress, resOf, hr, hr', tupOf, this, ← h]
theorem frz_ownk (k : Nat) (l : List Int) : frzV (owH (iL l)) (k + 1) (ownV 0 (iL l)) = some (fzL l) := by
  rcases l with _ | ⟨a, r⟩
  · simp [ownV, iL, frzV_nilS, fzL]
  · simp [ownV, owH, iL, frzV_sl, Heap.data?, fzL, List.take_of_length_le]
theorem e18 {x t : AV} {a : Gm} {set : List Int} {p : Int} (hx : IsG x a) (ht : IsL t set) (ha : a.next.length < 100 ∧ ∀ l ∈ a.next, l.length < 50) (hs : set.length < 50) (m : Nat) (hm : 105 ≤ m) :
    evF tab it m 18 [x, .int .i64 p, t] [] = some (if Good a ∧ (0 ≤ p ∧ p ≤ 1) ∧ Asc set a.next.length then (.tup [ownV 0 (iL (attrL a p set)), .int .i64 0], owH (iL (attrL a p set))) else (.tup [.nilS, .int .i64 2], [])) := by
  obtain ⟨m, rfl⟩ : ∃ j, m = j + 1 := ⟨m - 1, by omega⟩
  have hx' := hx
  obtain ⟨xo, xr, xn, rfl, ho, hr, hn⟩ := hx
  have fo := ho.free; have fr := hr.free; have fn := hn.free; have ft := ht.free
  have ob : ∀ call, evE call [] (.box false) [.agg [xo, xr, xn]] = some (.ptr 0 0, [some (.box [xo, xr, xn])]) := fun call => by simp [evE, AV.cells, oneL, ho.one, hr.one, hn.one, mkHO]
  have al : ∀ call H, evE call H (.alloc true [.bool false, .bool false, .bool false, .bool false, .bool false, .bool false, .bool false, .bool false, .bool false, .bool false, .bool false, .bool false, .bool false, .bool false, .bool false, .bool false, .bool false, .bool false, .bool false, .bool false, .bool false, .bool false, .bool false, .bool false]) [] = some (.ptr H.length 0, H ++ [some (.data (bL z24))]) := by
    intro call H; unfold bL; rfl
  refine f_enter rfl rfl ?_
  repeat' first
 | (apply s_mov; (focus ((conv => lhs; whnf); done)))
 | (apply s_gT; exact rfl)
 | (apply s_gF; exact rfl)
 | (apply s_gFD; exact rfl)
 | (apply c_nil)
 | (apply s_pickT; exact rfl; (focus ((conv => lhs; whnf); done)))
 | (apply s_pickF; exact rfl; (focus ((conv => lhs; whnf); done)))
 | (apply s_notT; exact rfl)
 | (apply s_notF; exact rfl)
 | (apply s_en; (focus (repeat (first | apply opds_nil | (apply opds_cons; (first | (focus ((conv => lhs; whnf); done)) | exact rfl))))); exact ob _)
 | (apply s_en; (focus (repeat (first | apply opds_nil | (apply opds_cons; (first | (focus ((conv => lhs; whnf); done)) | exact rfl))))); exact al _ _)
 | (apply isE; refine s_cB (by (focus (repeat (first | apply opds_nil | (apply opds_cons; (first | (focus ((conv => lhs; whnf); done)) | exact rfl)))))) (c39 hx' ⟨ha.1, fun l hl => by have := ha.2 l hl; omega⟩ (by omega) _) (fun _ => ?_) (fun _ => ?_))
 | (apply isE; refine s_cB (by (focus (repeat (first | apply opds_nil | (apply opds_cons; (first | (focus ((conv => lhs; whnf); done)) | exact rfl)))))) (c40 (by omega) _ _ _ _) (fun _ => ?_) (fun _ => ?_))
 | (apply isE; refine s_cB (by (focus (repeat (first | apply opds_nil | (apply opds_cons; (first | (focus ((conv => lhs; whnf); done)) | exact rfl)))))) (c41 ht (by omega) (by omega) (by omega) _) (fun _ => ?_) (fun _ => ?_))
 | (apply s_len; (focus ((conv => lhs; whnf); done)); (first | assumption | (apply IsLL.at; assumption; omega)))
 | (apply s_lenLL; (focus ((conv => lhs; whnf); done)); assumption)
 | (apply s_pd; (focus ((conv => lhs; whnf); done)))
 | (apply c_seq)
 | (apply c_reg)
 | (apply c_block)
 | (apply c_skip)
 | (apply c_ret)
 | (apply c_condT; exact rfl)
 | (apply c_condF; exact rfl)
 | (with_reducible apply k_c)
  any_goals (refine fin_tt (by (conv => lhs; whnf)) (by (conv => lhs; whnf)) (by rfl) (by rfl) ?_; rw [if_neg]; rintro ⟨h1, h2, h3⟩; contradiction)
  rw [if_pos ⟨by assumption, by assumption, by assumption⟩]
  have hg : Good a := by assumption
  have hp : 0 ≤ p ∧ p ≤ 1 := by assumption
  have hsa : Asc set a.next.length := by assumption
  have hn24 := hg.1
  refine c_loop ?_
  refine loop_gc (σ := Nat) (fun i => [.int .i64 p, .ptr 0 0, .ptr 1 0, t, .int .i64 set.length, .int .i64 i]) (fun i => [some (.box [xo, xr, xn]), some (.data (bL (mark z24 (set.take i))))]) (fun i => i ≤ set.length) (fun i => set.length - i) ?_ _ 0 _ _ (by omega) (by omega) (by simp [go_sem, fo, fr, fn, ft, mark]; done)
  intro i hi K hK
  have hml : (mark z24 (set.take i)).length = 24 := mark_len _ _
  have hsi := hsa i
  unfold badAt at hsi
  repeat' first
 | (apply s_mov; (focus ((conv => lhs; whnf); done)))
 | (apply c_nil)
 | ((first | apply s_lss | apply s_leq | apply s_gtr | apply s_geq | apply s_eql | apply s_neq); exact rfl; all_goals (intro _; try (exfalso; omega)))
 | ((first | apply s_add | apply s_sub); exact rfl; omega)
 | (apply s_st; (focus (repeat (first | apply opds_nil | (apply opds_cons; (first | (focus ((conv => lhs; whnf); done)) | exact rfl))))); exact e_stB rfl (by omega))
 | (apply s_idx; (focus ((conv => lhs; whnf); done)); exact rfl; (first | assumption | (apply IsLL.at; assumption; omega)); omega)
 | (apply s_idxP; exact rfl; exact rfl; omega)
 | (apply s_ldI; exact rfl; omega)
 | (apply c_seq)
 | (apply c_reg)
 | (apply c_block)
 | (apply c_exitH)
 | (apply c_skip)
 | (apply c_condT; exact rfl)
 | (apply c_condF; exact rfl)
 | (with_reducible apply k_c)
  · refine hK (i + 1) _ _ (by omega) (by omega) ?_
    rw [mark_succ z24 (by omega)]
    exact (by simp [go_sem, fo, fr, fn, ft]; done)
  · have hi' : i = set.length := by omega
    subst hi'
    rw [List.take_length] at hml ⊢
    refine c_pre (vs := [.int .i64 p, .ptr 0 0, .ptr 1 0]) (H' := [some (.box [xo, xr, xn]), some (.data (bL (mark z24 set)))]) (by simp [go_sem, fo, fr, fn]; done) ?_
    have hin : ∀ i : Nat, getB (fl a.next.length) i = true → i < a.next.length := fun i h => by
      rw [fl_getB hn24.2] at h
      simpa using h
    have h1 := c42 (o0 := some (.box [xo, xr, xn])) (o1 := some (.data (bL (mark z24 set)))) ho hr hn hn24.2 (m := m) (by omega)
    have h2 := c45 (o0 := some (.box [xo, xr, xn])) (o1 := some (.data (bL (mark z24 set)))) (mv := List.replicate a.next.length (-1)) ho hr hn (by simp) hn24.2 (m := m) (by omega)
    have h3 := c44 (o0 := some (.box [xo, xr, xn])) (o1 := some (.data (bL (mark z24 set)))) (p := p) (mv := List.replicate a.next.length (-1)) ho hr hn hg (getLL_lt ha.2 (by omega)) (fl_len hn24.2) hin hml (by simp) (m := m) (by omega)
    have h3' : evE (evF tab it m) _ (.call false true 44) _ = _ := h3
    have hrl : (runN a (fl a.next.length) p 26 (mark z24 set) (List.replicate a.next.length (-1))).1.length = 24 := runN_len (n := a.next.length) _ _ hml (by simp)
    repeat' first
 | (apply s_mov; (focus ((conv => lhs; whnf); done)))
 | (apply c_nil)
 | (apply s_cn; (focus (repeat (first | apply opds_nil | (apply opds_cons; (first | (focus ((conv => lhs; whnf); done)) | exact rfl))))); exact h1)
 | (apply s_cn; (focus (repeat (first | apply opds_nil | (apply opds_cons; (first | (focus ((conv => lhs; whnf); done)) | exact rfl))))); exact h2)
 | (apply s_pn; (focus (repeat (first | apply opds_nil | (apply opds_cons; (first | (focus ((conv => lhs; whnf); done)) | exact rfl))))); exact p_ldR rfl hml)
 | (apply s_en; (focus (repeat (first | apply opds_nil | (apply opds_cons; (first | (focus ((conv => lhs; whnf); done)) | exact rfl))))); exact h3')
 | (apply s_cn; (focus (repeat (first | apply opds_nil | (apply opds_cons; (first | (focus ((conv => lhs; whnf); done)) | exact rfl))))); exact c46 (by omega) _)
 | (apply s_cn; (focus (repeat (first | apply opds_nil | (apply opds_cons; (first | (focus ((conv => lhs; whnf); done)) | exact rfl))))); exact c43o hrl (by omega) _)
 | (apply s_pd; (focus ((conv => lhs; whnf); done)))
 | (apply c_seq)
 | (apply c_reg)
 | (apply c_ret)
 | (with_reducible apply k_c)
    exact fin_ownT (l := attrL a p set) rfl rfl rfl rfl
theorem c18 {x t : AV} {a : Gm} {set : List Int} {p : Int} (hx : IsG x a) (ht : IsL t set) (ha : a.next.length < 100 ∧ ∀ l ∈ a.next, l.length < 50) (hs : set.length < 50) {m : Nat} (hm : 105 ≤ m) (H : Heap) :
    callPure (evF tab it m) true 18 [x, .int .i64 p, t] H = some (if Good a ∧ (0 ≤ p ∧ p ≤ 1) ∧ Asc set a.next.length then .tup [fzL (attrL a p set), .int .i64 0] else .tup [.nilS, .int .i64 2], H) := by
  have h := e18 hx ht ha hs m hm (p := p)
  by_cases hc : Good a ∧ (0 ≤ p ∧ p ≤ 1) ∧ Asc set a.next.length
  · rw [if_pos hc] at h ⊢
    refine callPure_frz (by simp [idFreeL, hx.free, ht.free, idf_int]) (by simp) h ?_
    have := frz_ownk 37 (attrL a p set)
    have hf := fzL_free (attrL a p set)
    generalize attrL a p set = l at *
    rcases l with _ | ⟨c, r⟩
    · rw [show fzL [] = .nilS from by simp [fzL]]; rfl
    · simp [frzV_tup, frzL_cons, frzL_nil, frzV_int, idFreeL, idf_sl, ownV, owH, iL] at this ⊢
      simp [idFreeL, idf_sl, this]
  · rw [if_neg hc] at h ⊢
    exact callPure_free (by simp [idFreeL, hx.free, ht.free, idf_int]) (by simp) h rfl
end Go.AM.Pa
