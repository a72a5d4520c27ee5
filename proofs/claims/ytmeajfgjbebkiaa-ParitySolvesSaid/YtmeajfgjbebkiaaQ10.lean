/- A part of the proof: Q10. -/
import Derived.Test.YtmeajfgjbebkiaaQ9
set_option linter.unusedSectionVars false
set_option linter.unusedVariables false
set_option linter.unusedSimpArgs false
namespace Go.AM.Pa
attribute [local go_sem] gc subHeap reach_skip ren_free reach_new reach_newp reach_end rangeL roots boxCells nodupB posOf renL AV.ren pickO renH renO looks look bindEnv envOf reach_int reach_bool reach_nilS reach_rd putRow cells_sl cells_int cells_bool cells_nilS cells_rd cells_agg reach_agg reach_tup idFreeL idf_sl idf_ptr idf_int idf_bool idf_nilS idf_rd
def prB (f : Nat → Bool) (n i : Nat) : List Bool := (List.range n).map fun j => decide (j < i) && f j
theorem prB_len (f : Nat → Bool) (n i : Nat) : (prB f n i).length = n := by simp [prB]
theorem prB_zero (f : Nat → Bool) (n : Nat) : prB f n 0 = List.replicate n false := by
  refine List.ext_getElem (by simp [prB]) fun j h1 h2 => ?_
  simp [prB]
theorem prB_set (f : Nat → Bool) {n i : Nat} (h : i < n) {v : Bool} (hv : f i = v) : (prB f n i).set i v = prB f n (i + 1) := by
  refine List.ext_getElem (by simp [prB]) fun j h1 h2 => ?_
  rw [List.getElem_set]
  split
  · rename_i e; subst e; simp [prB, hv]
  · rename_i e
    simp only [prB, List.getElem_map, List.getElem_range]
    by_cases hj : j < i
    · simp [hj, show j < i + 1 by omega]
    · simp [hj, show ¬ j < i + 1 by omega]
def coll (b : List Bool) (i : Nat) : List Int := ((List.range i).filter fun (j : Nat) => getB b j).map fun (j : Nat) => (j : Int)
theorem coll_succ (b : List Bool) (i : Nat) : coll b (i + 1) = if getB b i then coll b i ++ [(i : Int)] else coll b i := by
  simp only [coll, List.range_succ, List.filter_append]
  cases h : getB b i <;> simp [h]
theorem coll_len (b : List Bool) (i : Nat) : (coll b i).length ≤ i := by
  simp only [coll, List.length_map]
  exact Nat.le_trans (List.length_filter_le _ _) (by simp)
def fM (l : List Int) (j : Nat) : Bool := decide ((j : Int) ∈ l)
def attrR (g : Gm) (p : Int) (l : List Int) : List Int :=
  let n := g.next.length
  coll (runR g (prB (fun _ => true) n n) p 26 (ini (prB (fM l) n n) (prB (fun _ => true) n n) n n)) n
set_option maxHeartbeats 2000000
theorem runR_len {g : Gm} {reg : List Bool} {p : Int} {n : Nat} : ∀ (k : Nat) (out : List Bool), out.length = n → (runR g reg p k out).length = n
  | 0, out, h => h
  | k + 1, out, h => by
    have ha := along_swR (g := g) (reg := reg) (p := p) (out := out) (n := n) out.length 0 (by omega) (st := (out, false)) ⟨h, fun _ => rfl, fun h => by simp at h⟩
    simp only [runR]
    split
    · exact runR_len k _ ha.1
    · exact ha.1
theorem c48 {x : AV} {a : Gm} {set reg : List Bool} {p : Int} {n : Nat} (hx : IsG x a) (hg : Good a) (hnn : a.next.length = n) (hs : set.length = n) (hrg : reg.length = n) (hrow : ∀ i : Int, (getLL a.next i).length < 50) {m : Nat} (hm : 103 ≤ m) {o0 : Option HO} :
    callPure (evF tab it m) true 48 [x, .int .i64 p, .sl 1 1 0 n, .sl 2 1 0 n] [o0, some (.data (bL set)), some (.data (bL reg))] = some (.rd 1 n (bL (runR a reg p 26 (ini set reg n n))), [o0, some (.data (bL set)), some (.data (bL reg))]) := by
  have hl := runR_len (g := a) (reg := reg) (p := p) 26 (ini set reg n n) (ini_len set reg n n)
  have e1 : frzL [o0, some (.data (bL set)), some (.data (bL reg))] 40 [x, .int .i64 p, .sl 1 1 0 n, .sl 2 1 0 n] = some [x, .int .i64 p, .rd 1 n (bL set), .rd 1 n (bL reg)] := by
    simp [frzL_cons, frzL_nil, frzV_free, hx.free, frzV_int, frzV_sl, Heap.data?, bL_len, hs, hrg, List.take_of_length_le]
  simp [callPure, e1, f48 hx hg hnn hs hrg hrow m hm, AV.hasRd, HO.hasRd, bL_noRd, frzV_sl, Heap.data?, bL_len, hl, List.take_of_length_le]
theorem f24 {x t : AV} {a : Gm} {l : List Int} {p : Int} (hx : IsG x a) (ht : IsL t l) (hg : Good a) (hl : l.length < 50) (hrow : ∀ i : Int, (getLL a.next i).length < 50) (m : Nat) (hm : 105 ≤ m) :
    evF tab it m 24 [x, .int .i64 p, t] [] = some (ownV 0 (iL (attrR a p l)), owH (iL (attrR a p l))) := by
  obtain ⟨m, rfl⟩ : ∃ j, m = j + 1 := ⟨m - 1, by omega⟩
  have hx' := hx
  obtain ⟨xo, xr, xn, rfl, ho, hr, hn⟩ := hx
  have fo := ho.free; have fr := hr.free; have fn := hn.free; have ft := ht.free
  have ob : ∀ call, evE call [] (.box false) [.agg [xo, xr, xn]] = some (.ptr 0 0, [some (.box [xo, xr, xn])]) := fun call => by simp [evE, AV.cells, oneL, ho.one, hr.one, hn.one, mkHO]
  generalize hnn : a.next.length = n
  have hn24 : n ≤ 24 := by have := hg.1; omega
  have hol : a.owner.length = n := by have := hg.2.1; omega
  have hm1 : (a.owner.length : Int) = n := by omega
  unfold attrR
  simp only [hnn]
  refine f_enter rfl rfl ?_
  repeat' first
 | (apply s_mov; (focus ((conv => lhs; whnf); done)))
 | (apply c_nil)
 | (apply s_en; (focus (repeat (first | apply opds_nil | (apply opds_cons; (first | (focus ((conv => lhs; whnf); done)) | exact rfl))))); exact ob _)
 | (rw [hm1])
 | (apply s_en; (focus (repeat (first | apply opds_nil | (apply opds_cons; (first | (focus ((conv => lhs; whnf); done)) | exact rfl))))); exact e_mkB (by unfold most; omega))
 | (apply s_len; (focus ((conv => lhs; whnf); done)); (first | assumption | (apply IsLL.at; assumption; omega)))
 | (apply s_pd; (focus ((conv => lhs; whnf); done)))
 | (apply c_seq)
 | (apply c_reg)
 | (apply c_block)
 | (with_reducible apply k_c)
  refine c_loop ?_
  refine loop_gc (σ := Nat) (fun i => [.int .i64 p, t, .ptr 0 0, .int .i64 n, .sl 1 1 0 n, .sl 2 1 0 n, .int .i64 i]) (fun i => [some (.box [xo, xr, xn]), some (.data (bL (prB (fM l) n i))), some (.data (bL (prB (fun _ => true) n i)))]) (fun i => i ≤ n) (fun i => n - i) ?_ _ 0 _ _ (by omega) (by omega) ?_
  · intro i hi K hK
    have hil := prB_len (fM l) n i
    have hil2 := prB_len (fun _ => true) n i
    repeat' first
 | (apply s_mov; (focus ((conv => lhs; whnf); done)))
 | (apply c_nil)
 | ((first | apply s_lss | apply s_leq | apply s_gtr | apply s_geq | apply s_eql | apply s_neq); exact rfl; all_goals (intro _; try (exfalso; omega)))
 | ((first | apply s_add | apply s_sub); exact rfl; omega)
 | (apply isE; refine s_cB (by (focus (repeat (first | apply opds_nil | (apply opds_cons; (first | (focus ((conv => lhs; whnf); done)) | exact rfl)))))) (c47 ht (by omega) (by omega) _) (fun _ => ?_) (fun _ => ?_))
 | (apply s_st; (focus (repeat (first | apply opds_nil | (apply opds_cons; (first | (focus ((conv => lhs; whnf); done)) | exact rfl))))); exact e_stB rfl (by omega))
 | (apply s_idxS; exact rfl; exact rfl; omega)
 | (apply c_seq)
 | (apply c_reg)
 | (apply c_block)
 | (apply c_exitH)
 | (apply c_skip)
 | (apply c_condT; exact rfl)
 | (apply c_condF; exact rfl)
 | (with_reducible apply k_c)
    · rename_i h1
      refine hK (i + 1) _ _ (by omega) (by omega) ?_
      rw [← prB_set (fM l) (i := i) (v := true) (by omega) (by simp [fM, h1]), ← prB_set (fun _ => true) (i := i) (v := true) (by omega) rfl]
      exact (by simp [go_sem, fo, fr, fn, ft]; done)
    · rename_i h1
      refine hK (i + 1) _ _ (by omega) (by omega) ?_
      rw [← prB_set (fM l) (i := i) (v := false) (by omega) (by simp [fM, h1]), ← prB_set (fun _ => true) (i := i) (v := true) (by omega) rfl]
      exact (by simp [go_sem, fo, fr, fn, ft]; done)
    · obtain rfl : i = n := by omega
      clear hK hi
      have hcl := runR_len (g := a) (reg := prB (fun _ => true) i i) (p := p) 26 (ini (prB (fM l) i i) (prB (fun _ => true) i i) i i) (ini_len _ _ i i)
      have h48 := c48 (o0 := some (.box [xo, xr, xn])) (p := p) hx' hg hnn hil hil2 hrow (m := m) (by omega)
      generalize prB (fM l) i i = s1 at *
      generalize prB (fun _ => true) i i = s2 at *
      generalize runR a s2 p 26 (ini s1 s2 i i) = R at *
      refine c_pre (vs := [.int .i64 p, .ptr 0 0, .int .i64 i, .sl 1 1 0 i, .sl 2 1 0 i]) (H' := [some (.box [xo, xr, xn]), some (.data (bL s1)), some (.data (bL s2))]) (by simp [go_sem, fo, fr, fn]; done) ?_
      repeat' first
 | (apply s_mov; (focus ((conv => lhs; whnf); done)))
 | (apply c_nil)
 | (apply s_cn; (focus (repeat (first | apply opds_nil | (apply opds_cons; (first | (focus ((conv => lhs; whnf); done)) | exact rfl))))); exact h48)
 | (apply s_pd; (focus ((conv => lhs; whnf); done)))
 | (apply c_seq)
 | (apply c_reg)
 | (apply c_block)
 | (with_reducible apply k_c)
      refine c_loop ?_
      refine loop_gc (σ := Nat) (fun j => [.int .i64 i, .rd 1 i (bL R), ownV 0 (iL (coll R j)), .int .i64 j]) (fun j => owH (iL (coll R j))) (fun j => j ≤ i) (fun j => i - j) ?_ _ 0 _ _ (by omega) (by omega) ?_
      · intro j hj K hK
        have hs := coll_succ R j
        have hcl2 := coll_len R j
        generalize hc : coll R j = C at *
        rcases C with _ | ⟨c, cs⟩
        · simp only [iL, List.map_nil, ownV, owH]
          repeat' first
 | (apply s_mov; (focus ((conv => lhs; whnf); done)))
 | (apply c_nil)
 | ((first | apply s_lss | apply s_leq | apply s_gtr | apply s_geq | apply s_eql | apply s_neq); exact rfl; all_goals (intro _; try (exfalso; omega)))
 | ((first | apply s_add | apply s_sub); exact rfl; omega)
 | (apply s_en; (focus (repeat (first | apply opds_nil | (apply opds_cons; (first | (focus ((conv => lhs; whnf); done)) | exact rfl))))); exact e_bld1 rfl rfl rfl rfl)
 | (apply s_en; (focus (repeat (first | apply opds_nil | (apply opds_cons; (first | (focus ((conv => lhs; whnf); done)) | exact rfl))))); exact e_app_nil rfl (by omega) (by decide))
 | (apply s_ldRB; exact rfl; omega; all_goals intro _)
 | (apply s_idxRB; exact rfl; exact rfl; omega)
 | (apply c_seq)
 | (apply c_reg)
 | (apply c_block)
 | (apply c_exitH)
 | (apply c_skip)
 | (apply c_ret)
 | (apply c_condT; exact rfl)
 | (apply c_condF; exact rfl)
 | (apply c_preF; (focus (repeat (first | apply looks_nil | (apply looks_cons; (focus ((conv => lhs; whnf); done)))))); (focus (simp [idFreeL, AV.idFree, *]; done)))
 | (with_reducible apply k_c)
          · rename_i h1
            refine hK (j + 1) _ _ (by omega) (by omega) ?_
            rw [hs, if_pos h1]
            exact (by simp [go_sem, iL, ownV, owH]; done)
          · rename_i h1
            refine hK (j + 1) _ _ (by omega) (by omega) ?_
            rw [hs, if_neg (by simp [h1])]
            exact (by simp [go_sem, iL, ownV, owH]; done)
          · obtain rfl : j = i := by omega
            rw [hc]
            skip
            exact fin_t rfl rfl rfl
        · simp only [iL, List.map_cons, ownV, owH]
          repeat' first
 | (apply s_mov; (focus ((conv => lhs; whnf); done)))
 | (apply c_nil)
 | ((first | apply s_lss | apply s_leq | apply s_gtr | apply s_geq | apply s_eql | apply s_neq); exact rfl; all_goals (intro _; try (exfalso; omega)))
 | ((first | apply s_add | apply s_sub); exact rfl; omega)
 | (apply s_en; (focus (repeat (first | apply opds_nil | (apply opds_cons; (first | (focus ((conv => lhs; whnf); done)) | exact rfl))))); exact e_bld1 rfl rfl rfl rfl)
 | (apply s_en; (focus (repeat (first | apply opds_nil | (apply opds_cons; (first | (focus ((conv => lhs; whnf); done)) | exact rfl))))); exact e_app_sl rfl rfl (by omega) (by simp at hcl2 ⊢; unfold most; omega))
 | (apply s_ldRB; exact rfl; omega; all_goals intro _)
 | (apply s_idxRB; exact rfl; exact rfl; omega)
 | (apply c_seq)
 | (apply c_reg)
 | (apply c_block)
 | (apply c_exitH)
 | (apply c_skip)
 | (apply c_condT; exact rfl)
 | (apply c_condF; exact rfl)
 | (with_reducible apply k_c)
          · rename_i h1
            refine hK (j + 1) _ _ (by omega) (by omega) ?_
            rw [hs, if_pos h1]
            exact (by simp [go_sem, iL, ownV, owH]; done)
          · rename_i h1
            refine hK (j + 1) _ _ (by omega) (by omega) ?_
            rw [hs, if_neg (by simp [h1])]
            exact (by simp [go_sem, iL, ownV, owH]; done)
          · obtain rfl : j = i := by omega
            rw [hc]
            refine c_pre (vs := [ownV 0 (iL (c :: cs))]) (H' := owH (iL (c :: cs))) (by simp [go_sem, iL, ownV, owH]; done) ?_
            repeat' first
 | (apply s_mov; (focus ((conv => lhs; whnf); done)))
 | (apply c_nil)
 | (apply c_seq)
 | (apply c_reg)
 | (apply c_ret)
 | (with_reducible apply k_c)
            simp [finish, ress, resOf, look, tupOf, bindEnv, iL, ownV, owH, gc, subHeap, reach_new, reach_end, rangeL, roots, boxCells, nodupB, posOf, renL, AV.ren, pickO, renH, renO]
      · exact (by simp [go_sem, iL, ownV, owH, coll]; done)
  · rw [prB_zero, prB_zero]
    exact (by simp [go_sem, fo, fr, fn, ft]; done)
theorem c24 {x t : AV} {a : Gm} {l : List Int} {p : Int} (hx : IsG x a) (ht : IsL t l) (hg : Good a) (hl : l.length < 50) (hrow : ∀ i : Int, (getLL a.next i).length < 50) {m : Nat} (hm : 105 ≤ m) (H : Heap) :
    callPure (evF tab it m) true 24 [x, .int .i64 p, t] H = some (fzL (attrR a p l), H) :=
  callPure_frz (by simp [idFreeL, hx.free, ht.free, idf_int]) (by simp) (f24 hx ht hg hl hrow m hm) (frz_own _)
end Go.AM.Pa
