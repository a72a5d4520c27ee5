/- A part of the proof: Q5. -/
import Derived.Test.YtmeajfgjbebkiaaQ4
set_option linter.unusedSectionVars false
set_option linter.unusedVariables false
set_option linter.unusedSimpArgs false
namespace Go.AM.Pa
attribute [local go_sem] gc subHeap reach_skip ren_free reach_new reach_newp reach_end rangeL roots boxCells nodupB posOf renL AV.ren pickO renH renO looks look bindEnv envOf reach_int reach_bool reach_nilS reach_rd putRow cells_sl cells_int cells_bool cells_nilS cells_rd cells_agg reach_agg reach_tup idFreeL idf_sl idf_ptr idf_int idf_bool idf_nilS idf_rd
def fl (i : Nat) : List Bool := List.replicate i true ++ List.replicate (24 - i) false
theorem fl_len {i : Nat} (h : i ≤ 24) : (fl i).length = 24 := by simp [fl]; omega
theorem fl_set {i : Nat} (h : i < 24) : (fl i).set i true = fl (i + 1) := by
  unfold fl
  rw [List.set_append, if_neg (by simp)]
  simp only [List.length_replicate, Nat.sub_self]
  obtain ⟨k, hk⟩ : ∃ k, 24 - i = k + 1 := ⟨23 - i, by omega⟩
  rw [hk, show 24 - (i + 1) = k by omega, List.replicate_succ, List.set_cons_zero, List.replicate_succ']
  simp
def z24 : List Bool := List.replicate 24 false
/-- whole -/
theorem f45 {xo xr xn mv : AV} {ll : List (List Int)} (hn : IsLL xn ll) (hl : ll.length ≤ 24) (m : Nat) (hm : 103 ≤ m) : evF tab it m 45 [.rp [xo, xr, xn, mv]] [] = some (.agg (bL (fl ll.length)), []) := by
  obtain ⟨m, rfl⟩ : ∃ j, m = j + 1 := ⟨m - 1, by omega⟩
  have al : ∀ call H, evE call H (.alloc true [.bool false, .bool false, .bool false, .bool false, .bool false, .bool false, .bool false, .bool false, .bool false, .bool false, .bool false, .bool false, .bool false, .bool false, .bool false, .bool false, .bool false, .bool false, .bool false, .bool false, .bool false, .bool false, .bool false, .bool false]) [] = some (.ptr H.length 0, H ++ [some (.data (bL z24))]) := by
    intro call H; unfold bL; rfl
  refine f_enter rfl rfl ?_
  repeat' first
 | (apply s_mov; (focus ((conv => lhs; whnf); done)))
 | (apply c_nil)
 | (apply s_en; (focus (repeat (first | apply opds_nil | (apply opds_cons; (first | (focus ((conv => lhs; whnf); done)) | exact rfl))))); exact al _ _)
 | (apply s_lenLL; (focus ((conv => lhs; whnf); done)); assumption)
 | (apply s_pd; (focus ((conv => lhs; whnf); done)))
 | (apply c_seq)
 | (apply c_reg)
 | (apply c_block)
 | (with_reducible apply k_c)
  refine c_loop ?_
  have h0 : fl 0 = z24 := rfl
  refine loop_gc (σ := Nat) (fun i => [.ptr 0 0, .ptr 1 0, .int .i64 ll.length, .int .i64 i]) (fun i => [some (.data (bL z24)), some (.data (bL (fl i)))]) (fun i => i ≤ ll.length) (fun i => ll.length - i) ?_ _ 0 _ _ (by omega) (by omega) (by simp [go_sem, h0]; done)
  intro i hi K hK
  have hfl := fl_len (i := i) (by omega)
  repeat' first
 | (apply s_mov; (focus ((conv => lhs; whnf); done)))
 | (apply c_nil)
 | ((first | apply s_lss | apply s_leq | apply s_gtr | apply s_geq | apply s_eql | apply s_neq); exact rfl; all_goals (intro _; try (exfalso; omega)))
 | ((first | apply s_add | apply s_sub); exact rfl; omega)
 | (apply s_st; (focus (repeat (first | apply opds_nil | (apply opds_cons; (first | (focus ((conv => lhs; whnf); done)) | exact rfl))))); exact e_stB rfl (by omega))
 | (apply s_idxP; exact rfl; exact rfl; omega)
 | (apply c_seq)
 | (apply c_reg)
 | (apply c_block)
 | (apply c_exitH)
 | (apply c_skip)
 | (apply c_condT; exact rfl)
 | (apply c_condF; exact rfl)
 | (with_reducible apply k_c)
  · exact hK (i + 1) _ _ (by omega) (by omega) (by simp [go_sem, fl_set (i := i) (by omega)]; done)
  · have hi' : i = ll.length := by omega
    subst hi'
    have hz : z24.length = 24 := rfl
    refine c_pre (vs := [.ptr 0 0, .ptr 1 0]) (H' := [some (.data (bL z24)), some (.data (bL (fl ll.length)))]) (by simp [go_sem]; done) ?_
    repeat' first
 | (apply c_nil)
 | (apply s_pn; (focus (repeat (first | apply opds_nil | (apply opds_cons; (first | (focus ((conv => lhs; whnf); done)) | exact rfl))))); exact p_ldR rfl hfl)
 | (apply s_st; (focus (repeat (first | apply opds_nil | (apply opds_cons; (first | (focus ((conv => lhs; whnf); done)) | exact rfl))))); exact e_stR rfl hfl hz)
 | (apply c_seq)
 | (apply c_reg)
 | (apply c_ret)
 | (with_reducible apply k_c)
    exact fin_cellR rfl rfl hfl rfl

/-- newGame -/
def neg1 (n i : Nat) : List Int := List.replicate i (-1) ++ List.replicate (n - i) 0
theorem neg1_len {n i : Nat} (h : i ≤ n) : (neg1 n i).length = n := by simp [neg1]; omega
theorem neg1_set {n i : Nat} (h : i < n) : (neg1 n i).set i (-1) = neg1 n (i + 1) := by
  unfold neg1
  rw [List.set_append, if_neg (by simp)]
  simp only [List.length_replicate, Nat.sub_self]
  obtain ⟨k, hk⟩ : ∃ k, n - i = k + 1 := ⟨n - 1 - i, by omega⟩
  rw [hk, show n - (i + 1) = k by omega, List.replicate_succ, List.set_cons_zero, List.replicate_succ']
  simp
theorem repl_int : ∀ n : Nat, repl n [.int .i64 0] = iL (List.replicate n 0)
  | 0 => rfl
  | n + 1 => by simp [repl, repl_int n, iL, List.replicate_succ]
theorem f42 {xo xr xn : AV} {a : Gm} (ho : IsL xo a.owner) (hr : IsL xr a.rank) (hn : IsLL xn a.next) (hl : a.next.length ≤ 24) (m : Nat) (hm : 103 ≤ m) : evF tab it m 42 [.agg [xo, xr, xn]] [] = some (.ptr 0 0, [some (.box [xo, xr, xn, .sl 1 1 0 a.next.length]), some (.data (iL (List.replicate a.next.length (-1))))]) := by
  obtain ⟨m, rfl⟩ : ∃ j, m = j + 1 := ⟨m - 1, by omega⟩
  have fo := ho.free; have fr := hr.free; have fn := hn.free
  have ob : ∀ call, evE call [] (.box false) [.agg [xo, xr, xn]] = some (.ptr 0 0, [some (.box [xo, xr, xn])]) := fun call => by simp [evE, AV.cells, oneL, ho.one, hr.one, hn.one, mkHO]
  have mk : ∀ call H, evE call H (.mkS 1 8 [.int .i64 0]) [.int .i64 a.next.length, .int .i64 a.next.length] = some (.sl H.length 1 0 a.next.length, H ++ [some (.data (iL (neg1 a.next.length 0)))]) := fun call H => by
    have : (a.next.length : Int) ≤ most := by unfold most; omega
    simp [evE, this, repl_int, neg1]
  refine f_enter rfl rfl ?_
  repeat' first
 | (apply s_mov; (focus ((conv => lhs; whnf); done)))
 | (apply c_nil)
 | (apply s_en; (focus (repeat (first | apply opds_nil | (apply opds_cons; (first | (focus ((conv => lhs; whnf); done)) | exact rfl))))); exact ob _)
 | (apply s_en; (focus (repeat (first | apply opds_nil | (apply opds_cons; (first | (focus ((conv => lhs; whnf); done)) | exact rfl))))); exact mk _ _)
 | (apply s_lenLL; (focus ((conv => lhs; whnf); done)); assumption)
 | (apply s_lenSl; exact rfl)
 | (apply s_pd; (focus ((conv => lhs; whnf); done)))
 | (apply c_seq)
 | (apply c_reg)
 | (apply c_block)
 | (with_reducible apply k_c)
  refine c_loop ?_
  refine loop_gc (σ := Nat) (fun i => [.ptr 0 0, .sl 1 1 0 a.next.length, .int .i64 a.next.length, .int .i64 i]) (fun i => [some (.box [xo, xr, xn]), some (.data (iL (neg1 a.next.length i)))]) (fun i => i ≤ a.next.length) (fun i => a.next.length - i) ?_ _ 0 _ _ (by omega) (by omega) (by simp [go_sem, fo, fr, fn]; done)
  intro i hi K hK
  have hfl := neg1_len (n := a.next.length) (i := i) (by omega)
  repeat' first
 | (apply s_mov; (focus ((conv => lhs; whnf); done)))
 | (apply c_nil)
 | ((first | apply s_lss | apply s_leq | apply s_gtr | apply s_geq | apply s_eql | apply s_neq); exact rfl; all_goals (intro _; try (exfalso; omega)))
 | ((first | apply s_add | apply s_sub); exact rfl; omega)
 | (apply s_idxS; exact rfl; exact rfl; omega)
 | (apply s_st; (focus (repeat (first | apply opds_nil | (apply opds_cons; (first | (focus ((conv => lhs; whnf); done)) | exact rfl))))); exact e_stI rfl (by omega))
 | (apply c_seq)
 | (apply c_reg)
 | (apply c_block)
 | (apply c_exitH)
 | (apply c_skip)
 | (apply c_condT; exact rfl)
 | (apply c_condF; exact rfl)
 | (with_reducible apply k_c)
  · exact hK (i + 1) _ _ (by omega) (by omega) (by simp [go_sem, neg1_set (n := a.next.length) (i := i) (by omega), fo, fr, fn]; done)
  · have hi' : i = a.next.length := by omega
    subst hi'
    refine c_pre (vs := [.ptr 0 0, .sl 1 1 0 a.next.length]) (H' := [some (.box [xo, xr, xn]), some (.data (iL (neg1 a.next.length a.next.length)))]) (by simp [go_sem, fo, fr, fn]; done) ?_
    have bld : ∀ H, evP H (.bld [.nilS, .nilS, .nilS, .nilS] [(0, 3), (3, 1)]) [.agg [xo, xr, xn], .sl 1 1 0 a.next.length] = some (.agg [xo, xr, xn, .sl 1 1 0 a.next.length]) := fun H => by simp [evP, fillParts, cells_agg, cells_sl, AV.solid, putPart]
    have ob2 : ∀ call H, evE call H (.box false) [.agg [xo, xr, xn, .sl 1 1 0 a.next.length]] = some (.ptr H.length 0, H ++ [some (.box [xo, xr, xn, .sl 1 1 0 a.next.length])]) := fun call H => by simp [evE, AV.cells, oneL, ho.one, hr.one, hn.one, mkHO, one_sl]
    repeat' first
 | (apply s_mov; (focus ((conv => lhs; whnf); done)))
 | (apply c_nil)
 | (apply s_pn; (focus (repeat (first | apply opds_nil | (apply opds_cons; (first | (focus ((conv => lhs; whnf); done)) | exact rfl))))); exact bld _)
 | (apply s_en; (focus (repeat (first | apply opds_nil | (apply opds_cons; (first | (focus ((conv => lhs; whnf); done)) | exact rfl))))); exact ob2 _ _)
 | (apply s_pd; (focus ((conv => lhs; whnf); done)))
 | (apply c_seq)
 | (apply c_reg)
 | (apply c_ret)
 | (with_reducible apply k_c)
    have e : neg1 a.next.length a.next.length = List.replicate a.next.length (-1) := by simp [neg1]
    rw [← e]
    simp [finish, ress, resOf, tupOf, look, gc, subHeap, reach_skip, reach_new, reach_newp, reach_end, rangeL, roots, boxCells, nodupB, posOf, renL, AV.ren, pickO, renH, renO, fo, fr, fn, ren_free]
end Go.AM.Pa
