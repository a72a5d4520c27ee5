/- A part of the proof: Q40. -/
import Derived.Test.YtmeajfgjbebkiaaQ39
set_option linter.unusedSectionVars false
set_option linter.unusedVariables false
set_option linter.unusedSimpArgs false
namespace Go.AM.Pa
attribute [local go_sem] gc subHeap reach_skip ren_free reach_new reach_newp reach_end rangeL roots boxCells nodupB posOf renL AV.ren pickO renH renO looks look bindEnv envOf reach_int reach_bool reach_nilS reach_rd putRow cells_sl cells_int cells_bool cells_nilS cells_rd cells_agg reach_agg reach_tup idFreeL idf_sl idf_ptr idf_int idf_bool idf_nilS idf_rd
/-! ref.Bad -/
def upto (n : Nat) (f : Nat → Bool) (i : Nat) : List Bool := (List.range n).map fun j => decide (j < i) && f j
theorem upto_len (n : Nat) (f : Nat → Bool) (i : Nat) : (upto n f i).length = n := by simp [upto]
theorem upto_zero (n : Nat) (f : Nat → Bool) : upto n f 0 = List.replicate n false := by
  refine List.ext_getElem (by simp [upto]) fun i h1 h2 => ?_
  simp [upto]
theorem upto_all (n : Nat) (f : Nat → Bool) : upto n f n = (List.range n).map f := by
  refine List.ext_getElem (by simp [upto]) fun i h1 h2 => ?_
  simp [upto] at h1 ⊢
  simp [h1]
theorem upto_set {n : Nat} {f : Nat → Bool} {i : Nat} {b : Bool} (h : f i = b) : (upto n f i).set i b = upto n f (i + 1) := by
  refine List.ext_getElem (by simp [upto]) fun j h1 h2 => ?_
  rw [List.getElem_set]
  simp only [upto, List.getElem_map, List.getElem_range]
  by_cases e : i = j
  · subst e; simp [h]
  · rw [if_neg e]
    have : decide (j < i) = decide (j < i + 1) := by
      by_cases h : j < i <;> simp [h] <;> omega
    rw [this]
section
variable (nx : List (List Int)) (rk : List Int) (p : Int)
noncomputable def cirB (i : Nat) : Bool := decide (¬ (getI rk i).tmod 2 = p) && getB (rchL nx rk i (getI rk i)) i
noncomputable def accB (i : Nat) (k : Nat) : Bool := cirB nx rk p i || (List.range k).any fun j => getB (rchL nx rk i 9) j && cirB nx rk p j
noncomputable def badB (i : Nat) : Bool := accB nx rk p i nx.length
noncomputable def badL : List Bool := (List.range nx.length).map (badB nx rk p)
end
theorem accB_succ (nx : List (List Int)) (rk : List Int) (p : Int) (i k : Nat) : accB nx rk p i (k + 1) = (accB nx rk p i k || (getB (rchL nx rk i 9) k && cirB nx rk p k)) := by
  simp only [accB, List.range_succ, List.any_append, List.any_cons, List.any_nil, Bool.or_false, Bool.or_assoc]
set_option maxHeartbeats 4000000
theorem f56 {x y : AV} {nx : List (List Int)} {rk : List Int} {p : Int} (hx : IsLL x nx) (hy : IsL y rk) (hg : Gra nx rk) {m : Nat} (hm : 70 ≤ m) :
    evF tab it m 56 [x, y, .int .i64 p] [] = some (.sl 0 1 0 nx.length, [some (.data (bL (badL nx rk p)))]) := by
  obtain ⟨m, rfl⟩ : ∃ j, m = j + 1 := ⟨m - 1, by omega⟩
  have fx := hx.free; have fy := hy.free
  obtain ⟨⟨hn24, hrk⟩, hrow, hrl⟩ := id hg
  have h65 : ∀ (i : Nat) (mx : Int), i < nx.length → ∀ H, callPure (evF tab it m) true 65 [x, y, .int .i64 i, .int .i64 mx] H = some (.rd 1 nx.length (bL (rchL nx rk i mx)), H) := fun i mx hi H => c65 hx hy hg hi (by omega) H
  have hcl : ∀ i mx, (rchL nx rk i mx).length = nx.length := fun i mx => rchL_len _ _ _ _
  refine f_enter rfl rfl ?_
  generalize evF tab it m = call at *
  repeat' first
 | (apply s_mov; (focus ((conv => lhs; whnf); done)))
 | (apply c_nil)
 | (apply s_en; (focus (repeat (first | apply opds_nil | (apply opds_cons; (first | (focus ((conv => lhs; whnf); done)) | exact rfl))))); exact e_mkB (by unfold most; omega))
 | (apply s_lenLL; (focus ((conv => lhs; whnf); done)); assumption)
 | (apply c_seq)
 | (apply c_reg)
 | (apply c_block)
 | (with_reducible apply k_c)
  refine c_loop ?_
  refine loop_gc (σ := Nat) (fun i => [x, y, .int .i64 p, .int .i64 nx.length, .sl 0 1 0 nx.length, .int .i64 i]) (fun i => [some (.data (bL (upto nx.length (cirB nx rk p) i)))]) (fun i => i ≤ nx.length) (fun i => nx.length - i) ?_ _ 0 _ _ (by omega) (by omega) (by simp [go_sem, fx, fy, upto_zero]; done)
  intro i hi K hK
  have hul := upto_len nx.length (cirB nx rk p) i
  have hri := hcl i (getI rk i)
  repeat' first
 | (apply s_mov; (focus ((conv => lhs; whnf); done)))
 | (apply s_gT; exact rfl)
 | (apply s_gF; exact rfl)
 | (apply s_gFD; exact rfl)
 | (apply c_nil)
 | (apply s_pickT; exact rfl; (focus ((conv => lhs; whnf); done)))
 | (apply s_pickF; exact rfl; (focus ((conv => lhs; whnf); done)))
 | ((first | apply s_lss | apply s_leq | apply s_gtr | apply s_geq | apply s_eql | apply s_neq); exact rfl; all_goals (intro _; try (exfalso; omega)))
 | ((first | apply s_add | apply s_sub); exact rfl; omega)
 | (apply s_cn; (focus (repeat (first | apply opds_nil | (apply opds_cons; (first | (focus ((conv => lhs; whnf); done)) | exact rfl))))); exact h65 _ _ (by omega) _)
 | (apply s_st; (focus (repeat (first | apply opds_nil | (apply opds_cons; (first | (focus ((conv => lhs; whnf); done)) | exact rfl))))); exact e_stB rfl (by omega))
 | (apply s_idx; (focus ((conv => lhs; whnf); done)); exact rfl; (first | assumption | (apply IsLL.at; assumption; omega)); omega)
 | (apply s_ldRB; exact rfl; omega; all_goals intro _)
 | (apply s_idxRB; exact rfl; exact rfl; omega)
 | (apply s_idxS; exact rfl; exact rfl; omega)
 | (apply s_rem2; exact rfl)
 | (apply s_ldI; exact rfl; omega)
 | (apply c_seq)
 | (apply c_reg)
 | (apply c_block)
 | (apply c_exitH)
 | (apply c_skip)
 | (apply c_condT; exact rfl)
 | (apply c_condF; exact rfl)
 | (with_reducible apply k_c)
  · rename_i q1 q2
    refine hK (i + 1) _ _ (by omega) (by omega) ?_
    rw [← upto_set (b := false) (by simp [cirB, q2])]
    exact (by simp [go_sem, fx, fy]; done)
  · rename_i q1 q2 q3
    refine hK (i + 1) _ _ (by omega) (by omega) ?_
    rw [← upto_set (b := true) (by simp [cirB, q2, q3])]
    exact (by simp [go_sem, fx, fy]; done)
  · rename_i q1 q2 q3
    refine hK (i + 1) _ _ (by omega) (by omega) ?_
    rw [← upto_set (b := false) (by simp [cirB, q3])]
    exact (by simp [go_sem, fx, fy]; done)
  clear hK hul hri
  have hin : i = nx.length := by omega
  rw [hin, upto_all]
  generalize hC : (List.range nx.length).map (cirB nx rk p) = C
  have hCl : C.length = nx.length := by rw [← hC]; simp
  have hCg : ∀ k : Nat, k < nx.length → getB C k = cirB nx rk p k := fun k hk => by rw [← hC, getB_map hk]
  refine c_pre (vs := [x, y, .int .i64 nx.length, .sl 0 1 0 nx.length]) (H' := [some (.data (bL C))]) (by simp [go_sem, fx, fy]; done) ?_
  repeat' first
 | (apply s_mov; (focus ((conv => lhs; whnf); done)))
 | (apply c_nil)
 | (apply s_en; (focus (repeat (first | apply opds_nil | (apply opds_cons; (first | (focus ((conv => lhs; whnf); done)) | exact rfl))))); exact e_mkB (by unfold most; omega))
 | (apply c_seq)
 | (apply c_reg)
 | (apply c_block)
 | (with_reducible apply k_c)
  refine c_loop ?_
  refine loop_gc (σ := Nat) (fun i => [x, y, .int .i64 nx.length, .sl 0 1 0 nx.length, .sl 1 1 0 nx.length, .int .i64 i]) (fun i => [some (.data (bL C)), some (.data (bL (upto nx.length (badB nx rk p) i)))]) (fun i => i ≤ nx.length) (fun i => nx.length - i) ?_ _ 0 _ _ (by omega) (by omega) (by simp [go_sem, fx, fy, upto_zero]; done)
  clear hin hi
  intro i hi K hK
  have hul := upto_len nx.length (badB nx rk p) i
  have hri := hcl i 9
  have hci := hCg i
  repeat' first
 | (apply s_mov; (focus ((conv => lhs; whnf); done)))
 | (apply c_nil)
 | ((first | apply s_lss | apply s_leq | apply s_gtr | apply s_geq | apply s_eql | apply s_neq); exact rfl; all_goals (intro _; try (exfalso; omega)))
 | (apply s_cn; (focus (repeat (first | apply opds_nil | (apply opds_cons; (first | (focus ((conv => lhs; whnf); done)) | exact rfl))))); exact h65 _ _ (by omega) _)
 | (apply s_st; (focus (repeat (first | apply opds_nil | (apply opds_cons; (first | (focus ((conv => lhs; whnf); done)) | exact rfl))))); exact e_stB rfl (by omega))
 | (apply s_ldB; exact rfl; exact rfl; omega; all_goals intro _)
 | (apply s_idxS; exact rfl; exact rfl; omega)
 | (apply c_seq)
 | (apply c_reg)
 | (apply c_block)
 | (apply c_exitH)
 | (apply c_skip)
 | (apply c_condT; exact rfl)
 | (apply c_condF; exact rfl)
 | (with_reducible apply k_c)
  · rename_i q1 q2
    have hi' : i < nx.length := by omega
    have ha0 : accB nx rk p i 0 = true := by simp [accB, ← hci hi', q2]
    rw [← ha0]
    refine c_loop ?_
    refine loop_gc (σ := Nat) (fun k => [x, y, .int .i64 nx.length, .sl 0 1 0 nx.length, .sl 1 1 0 nx.length, .int .i64 i, .rd 1 nx.length (bL (rchL nx rk i 9)), .int .i64 k]) (fun k => [some (.data (bL C)), some (.data (bL ((upto nx.length (badB nx rk p) i).set i (accB nx rk p i k))))]) (fun k => k ≤ nx.length) (fun k => nx.length - k) ?_ _ 0 _ _ (by omega) (by omega) (by simp [go_sem, fx, fy]; done)
    clear q1 q2 ha0
    intro k hk K2 hK2
    have hck := hCg k
    have hul2 : ((upto nx.length (badB nx rk p) i).set i (accB nx rk p i k)).length = nx.length := by simp [upto_len]
    have hgi : getB ((upto nx.length (badB nx rk p) i).set i (accB nx rk p i k)) i = accB nx rk p i k := by rw [getB_set]; simp [hul, hi']
    have hac := accB_succ nx rk p i k
    repeat' first
 | (apply s_mov; (focus ((conv => lhs; whnf); done)))
 | (apply s_gT; exact rfl)
 | (apply s_gF; exact rfl)
 | (apply c_nil)
 | (apply s_pickT; exact rfl; (focus ((conv => lhs; whnf); done)))
 | (apply s_pickF; exact rfl; (focus ((conv => lhs; whnf); done)))
 | ((first | apply s_lss | apply s_leq | apply s_gtr | apply s_geq | apply s_eql | apply s_neq); exact rfl; all_goals (intro _; try (exfalso; omega)))
 | ((first | apply s_add | apply s_sub); exact rfl; omega)
 | (apply s_st; (focus (repeat (first | apply opds_nil | (apply opds_cons; (first | (focus ((conv => lhs; whnf); done)) | exact rfl))))); exact e_stB rfl (by omega))
 | (apply s_ldB; exact rfl; exact rfl; omega; all_goals intro _)
 | (apply s_ldRB; exact rfl; omega; all_goals intro _)
 | (apply s_idxRB; exact rfl; exact rfl; omega)
 | (apply s_idxS; exact rfl; exact rfl; omega)
 | (apply c_seq)
 | (apply c_reg)
 | (apply c_block)
 | (apply c_exitH)
 | (apply c_skip)
 | (apply c_condT; exact rfl)
 | (apply c_condF; exact rfl)
 | (with_reducible apply k_c)
    all_goals first
      | (refine hK2 (k + 1) _ _ (by omega) (by omega) ?_
         rw [Int.toNat_natCast, List.set_set]
         have hb : accB nx rk p i (k + 1) = true := by rw [hac]; simp_all
         rw [hb]
         exact (by simp [go_sem, fx, fy]; done))
      | (refine hK2 (k + 1) _ _ (by omega) (by omega) ?_
         rw [Int.toNat_natCast, List.set_set]
         have hb : accB nx rk p i (k + 1) = false := by rw [hac]; simp_all
         rw [hb]
         exact (by simp [go_sem, fx, fy]; done))
      | skip
    have hke : k = nx.length := by omega
    rw [hke, upto_set (f := badB nx rk p) (b := accB nx rk p i nx.length) rfl]
    refine c_pre (vs := [x, y, .int .i64 nx.length, .sl 0 1 0 nx.length, .sl 1 1 0 nx.length, .int .i64 i]) (H' := [some (.data (bL C)), some (.data (bL (upto nx.length (badB nx rk p) (i + 1))))]) (by simp [go_sem, fx, fy]; done) ?_
    repeat' first
 | (apply s_mov; (focus ((conv => lhs; whnf); done)))
 | (apply c_nil)
 | ((first | apply s_add | apply s_sub); exact rfl; omega)
 | (apply c_reg)
    refine hK (i + 1) _ _ (by omega) (by omega) (by simp [go_sem, fx, fy]; done)
  · rename_i q1 q2
    have hi' : i < nx.length := by omega
    have ha0 : accB nx rk p i 0 = false := by simp [accB, ← hci hi', q2]
    rw [← ha0]
    refine c_loop ?_
    refine loop_gc (σ := Nat) (fun k => [x, y, .int .i64 nx.length, .sl 0 1 0 nx.length, .sl 1 1 0 nx.length, .int .i64 i, .rd 1 nx.length (bL (rchL nx rk i 9)), .int .i64 k]) (fun k => [some (.data (bL C)), some (.data (bL ((upto nx.length (badB nx rk p) i).set i (accB nx rk p i k))))]) (fun k => k ≤ nx.length) (fun k => nx.length - k) ?_ _ 0 _ _ (by omega) (by omega) (by simp [go_sem, fx, fy]; done)
    clear q1 q2 ha0
    intro k hk K2 hK2
    have hck := hCg k
    have hul2 : ((upto nx.length (badB nx rk p) i).set i (accB nx rk p i k)).length = nx.length := by simp [upto_len]
    have hgi : getB ((upto nx.length (badB nx rk p) i).set i (accB nx rk p i k)) i = accB nx rk p i k := by rw [getB_set]; simp [hul, hi']
    have hac := accB_succ nx rk p i k
    repeat' first
 | (apply s_mov; (focus ((conv => lhs; whnf); done)))
 | (apply s_gT; exact rfl)
 | (apply s_gF; exact rfl)
 | (apply c_nil)
 | (apply s_pickT; exact rfl; (focus ((conv => lhs; whnf); done)))
 | (apply s_pickF; exact rfl; (focus ((conv => lhs; whnf); done)))
 | ((first | apply s_lss | apply s_leq | apply s_gtr | apply s_geq | apply s_eql | apply s_neq); exact rfl; all_goals (intro _; try (exfalso; omega)))
 | ((first | apply s_add | apply s_sub); exact rfl; omega)
 | (apply s_st; (focus (repeat (first | apply opds_nil | (apply opds_cons; (first | (focus ((conv => lhs; whnf); done)) | exact rfl))))); exact e_stB rfl (by omega))
 | (apply s_ldB; exact rfl; exact rfl; omega; all_goals intro _)
 | (apply s_ldRB; exact rfl; omega; all_goals intro _)
 | (apply s_idxRB; exact rfl; exact rfl; omega)
 | (apply s_idxS; exact rfl; exact rfl; omega)
 | (apply c_seq)
 | (apply c_reg)
 | (apply c_block)
 | (apply c_exitH)
 | (apply c_skip)
 | (apply c_condT; exact rfl)
 | (apply c_condF; exact rfl)
 | (with_reducible apply k_c)
    all_goals first
      | (refine hK2 (k + 1) _ _ (by omega) (by omega) ?_
         rw [Int.toNat_natCast, List.set_set]
         have hb : accB nx rk p i (k + 1) = true := by rw [hac]; simp_all
         rw [hb]
         exact (by simp [go_sem, fx, fy]; done))
      | (refine hK2 (k + 1) _ _ (by omega) (by omega) ?_
         rw [Int.toNat_natCast, List.set_set]
         have hb : accB nx rk p i (k + 1) = false := by rw [hac]; simp_all
         rw [hb]
         exact (by simp [go_sem, fx, fy]; done))
      | skip
    have hke : k = nx.length := by omega
    rw [hke, upto_set (f := badB nx rk p) (b := accB nx rk p i nx.length) rfl]
    refine c_pre (vs := [x, y, .int .i64 nx.length, .sl 0 1 0 nx.length, .sl 1 1 0 nx.length, .int .i64 i]) (H' := [some (.data (bL C)), some (.data (bL (upto nx.length (badB nx rk p) (i + 1))))]) (by simp [go_sem, fx, fy]; done) ?_
    repeat' first
 | (apply s_mov; (focus ((conv => lhs; whnf); done)))
 | (apply c_nil)
 | ((first | apply s_add | apply s_sub); exact rfl; omega)
 | (apply c_reg)
    refine hK (i + 1) _ _ (by omega) (by omega) (by simp [go_sem, fx, fy]; done)
  · have hin : i = nx.length := by omega
    rw [hin, upto_all]
    refine c_pre (vs := [.sl 0 1 0 nx.length]) (H' := [some (.data (bL (badL nx rk p)))]) (by
      have : (List.range nx.length).map (badB nx rk p) = badL nx rk p := rfl
      rw [this]
      exact (by simp [go_sem, fx, fy]; done)) ?_
    repeat' first
 | (apply s_mov; (focus ((conv => lhs; whnf); done)))
 | (apply c_nil)
 | (apply c_seq)
 | (apply c_reg)
 | (apply c_ret)
 | (with_reducible apply k_c)
    simp [finish, ress, resOf, look, tupOf, gc, subHeap, reach_new, reach_end, rangeL, roots, boxCells, nodupB, posOf, renL, AV.ren, pickO, renH, renO, bindEnv]
theorem c56 {x y : AV} {nx : List (List Int)} {rk : List Int} {p : Int} (hx : IsLL x nx) (hy : IsL y rk) (hg : Gra nx rk) {m : Nat} (hm : 70 ≤ m) (H : Heap) :
    callPure (evF tab it m) true 56 [x, y, .int .i64 p] H = some (.rd 1 nx.length (bL (badL nx rk p)), H) := by
  refine callPure_frz (by simp [idFreeL, hx.free, hy.free, idf_int]) (by simp) (f56 hx hy hg hm) ?_
  have h2 : (bL (badL nx rk p)).length = nx.length := by rw [bL_len]; simp [badL]
  have h3 : (bL (badL nx rk p)).take nx.length = bL (badL nx rk p) := List.take_of_length_le (by omega)
  simp [frzV, Heap.data?, h2, h3]
end Go.AM.Pa
