/- A part of the proof: Q21. -/
import Derived.Test.YtmeajfgjbebkiaaQ20
set_option linter.unusedSectionVars false
set_option linter.unusedVariables false
set_option linter.unusedSimpArgs false
namespace Go.AM.Pa
attribute [local go_sem] gc subHeap reach_skip ren_free reach_new reach_newp reach_end rangeL roots boxCells nodupB posOf renL AV.ren pickO renH renO looks look bindEnv envOf reach_int reach_bool reach_nilS reach_rd putRow cells_sl cells_int cells_bool cells_nilS cells_rd cells_agg reach_agg reach_tup idFreeL idf_sl idf_ptr idf_int idf_bool idf_nilS idf_rd
def mxStep (g : Gm) (r : Int) (v : Nat) : Int := if getI g.rank v > r then getI g.rank v else r
def topRank (g : Gm) (inn : List Bool) : Int := (trues inn).foldl (mxStep g) (-1)
def heads (g : Gm) (inn : List Bool) (r : Int) : List Bool := (trues inn).foldl (fun (b : List Bool) (v : Nat) => b.set v (decide (getI g.rank v = r))) z24
theorem heads_len (g : Gm) (r : Int) : ∀ (l : List Nat) (b : List Bool), (l.foldl (fun (b : List Bool) (v : Nat) => b.set v (decide (getI g.rank v = r))) b).length = b.length
  | [], b => rfl
  | v :: l, b => by rw [List.foldl_cons, heads_len g r l]; simp
/-- top -/
theorem f70 {xo xr xn mvv : AV} {a : Gm} {inn : List Bool} (ho : IsL xo a.owner) (hr : IsL xr a.rank) (hn : IsLL xn a.next) (fm : mvv.idFree = true) (hg : Good a) (hinn : inn.length = 24) (hin : ∀ i : Nat, getB inn i = true → i < a.next.length) {m : Nat} (hm : 103 ≤ m) :
    evF tab it m 70 [.rp [xo, xr, xn, mvv], .agg (bL inn)] [] = some (.tup [.agg (bL (heads a inn (topRank a inn))), .int .i64 (topRank a inn)], []) := by
  obtain ⟨m, rfl⟩ : ∃ j, m = j + 1 := ⟨m - 1, by omega⟩
  have hz := z24_len
  have fo := ho.free; have fr := hr.free; have fn := hn.free
  have hg3 := hg.2.2.1
  have fp : AV.idFree (.rp [xo, xr, xn, mvv]) = true := rfl
  have ob : ∀ call, evE call [] (.box false) [.rp [xo, xr, xn, mvv]] = some (.ptr 0 0, [some (.box [.rp [xo, xr, xn, mvv]])]) := fun call => rfl
  have al1 : ∀ call H, evE call H (.alloc true [.int .i64 0]) [] = some (.ptr H.length 0, H ++ [some (.data [.int .i64 0])]) := fun call H => rfl
  generalize hT : topRank a inn = T
  refine f_enter rfl rfl ?_
  repeat' first
 | (apply s_mov; (focus ((conv => lhs; whnf); done)))
 | (apply c_nil)
 | (apply s_en; (focus (repeat (first | apply opds_nil | (apply opds_cons; (first | (focus ((conv => lhs; whnf); done)) | exact rfl))))); exact ob _)
 | (apply s_en; (focus (repeat (first | apply opds_nil | (apply opds_cons; (first | (focus ((conv => lhs; whnf); done)) | exact rfl))))); exact al1 _ _)
 | (apply s_en; (focus (repeat (first | apply opds_nil | (apply opds_cons; (first | (focus ((conv => lhs; whnf); done)) | exact rfl))))); exact e_boxR)
 | (apply s_en; (focus (repeat (first | apply opds_nil | (apply opds_cons; (first | (focus ((conv => lhs; whnf); done)) | exact rfl))))); exact e_alR)
 | (apply s_pn; (focus (repeat (first | apply opds_nil | (apply opds_cons; (first | (focus ((conv => lhs; whnf); done)) | exact rfl))))); exact p_ldR rfl hinn)
 | (apply s_cn; (focus (repeat (first | apply opds_nil | (apply opds_cons; (first | (focus ((conv => lhs; whnf); done)) | exact rfl))))); exact c46 (by omega) _)
 | (apply isE; apply s_st; (focus (repeat (first | apply opds_nil | (apply opds_cons; (first | (focus ((conv => lhs; whnf); done)) | exact rfl))))); (focus ((conv => lhs; whnf); done)))
 | (apply c_seq)
 | (apply c_reg)
 | (apply c_block)
 | (with_reducible apply k_c)
  refine c_range (it63 hinn _) (fun xs H' => ∃ vs r, xs = nL vs ∧ (∀ v ∈ vs, v < a.next.length) ∧ vs.foldl (mxStep a) r = T ∧ H' = [some (.box [.rp [xo, xr, xn, mvv]]), some (.data (bL inn)), some (.data (bL z24)), some (.data [.int .i64 r])]) ?_ ?_ ?_
  · refine ⟨trues inn, -1, rfl, fun v hv => hin v (trues_mem hv).2, hT, ?_⟩
    simp [putRow, cells_int]
  · intro H' ⟨vs, r, e1, e2, e4, e5⟩
    obtain rfl : vs = [] := by cases vs with
      | nil => rfl
      | cons x y => simp [nL] at e1
    simp only [List.foldl_nil] at e4
    subst e4
    subst e5
    generalize hS : heads a inn r = S
    refine k_c (c_pre (vs := [.ptr 0 0, .ptr 1 0, .ptr 2 0, .ptr 3 0]) (H' := [some (.box [.rp [xo, xr, xn, mvv]]), some (.data (bL inn)), some (.data (bL z24)), some (.data [.int .i64 r])]) (by simp [go_sem, fp]; done) ?_)
    repeat' first
 | (apply c_nil)
 | (apply s_en; (focus (repeat (first | apply opds_nil | (apply opds_cons; (first | (focus ((conv => lhs; whnf); done)) | exact rfl))))); exact e_alR)
 | (apply s_pn; (focus (repeat (first | apply opds_nil | (apply opds_cons; (first | (focus ((conv => lhs; whnf); done)) | exact rfl))))); exact p_ldR rfl hinn)
 | (apply s_cn; (focus (repeat (first | apply opds_nil | (apply opds_cons; (first | (focus ((conv => lhs; whnf); done)) | exact rfl))))); exact c46 (by omega) _)
 | (apply c_seq)
 | (apply c_reg)
 | (apply c_block)
 | (with_reducible apply k_c)
    refine c_range (it63 hinn _) (fun xs H' => ∃ vs b, xs = nL vs ∧ (∀ v ∈ vs, v < a.next.length) ∧ b.length = 24 ∧ vs.foldl (fun (b : List Bool) (v : Nat) => b.set v (decide (getI a.rank v = r))) b = S ∧ H' = [some (.box [.rp [xo, xr, xn, mvv]]), some (.data (bL inn)), some (.data (bL z24)), some (.data [.int .i64 r]), some (.data (bL b))]) ?_ ?_ ?_
    · exact ⟨trues inn, z24, rfl, fun v hv => hin v (trues_mem hv).2, hz, hS, rfl⟩
    · intro H' ⟨vs, b, e1, e2, e3, e4, e5⟩
      obtain rfl : vs = [] := by cases vs with
        | nil => rfl
        | cons x y => simp [nL] at e1
      simp only [List.foldl_nil] at e4
      subst e4
      subst e5
      refine k_c (c_pre (vs := [.ptr 0 0, .ptr 1 0, .ptr 2 0]) (H' := [some (.data (bL z24)), some (.data [.int .i64 r]), some (.data (bL b))]) (by simp [go_sem]; done) ?_)
      repeat' first
 | (apply s_mov; (focus ((conv => lhs; whnf); done)))
 | (apply c_nil)
 | (apply s_pn; (focus (repeat (first | apply opds_nil | (apply opds_cons; (first | (focus ((conv => lhs; whnf); done)) | exact rfl))))); exact p_ldR rfl e3)
 | (apply s_stK; (focus (repeat (first | apply opds_nil | (apply opds_cons; (first | (focus ((conv => lhs; whnf); done)) | exact rfl))))); exact e_stR rfl e3 hz; (focus (simp [keptOk, keptV, opds, opd, look, bindEnv, envOf, Heap.cells?, HO.cells?, flatSame, flatSame_bL]; done)))
 | (apply s_pd; (focus ((conv => lhs; whnf); done)))
 | (apply c_seq)
 | (apply c_reg)
 | (apply c_ret)
 | (with_reducible apply k_c)
      have h1 := p_ldR (H := [some (.data (bL b)), some (.data [.int .i64 r]), some (.data (bL b))]) (id := 0) (n := 24) rfl e3
      simp only [evP] at h1
      simp [finish, ress, resOf, look, bindEnv, h1, tupOf, gc_free (vs := [.tup [.agg (bL b), .int .i64 r]]) (by simp [idFreeL, AV.idFree, bL_free])]
    · intro x ys H' K' ⟨vs, b, e1, e2, e3, e4, e5⟩ hh
      obtain ⟨v, vs, rfl⟩ : ∃ v r, vs = v :: r := by cases vs with
        | nil => simp [nL] at e1
        | cons x y => exact ⟨x, y, rfl⟩
      simp only [nL, List.map_cons, List.cons.injEq] at e1
      obtain ⟨rfl, rfl⟩ := e1
      subst e5
      have hv := e2 v List.mem_cons_self
      have hg1 := hg.1
      refine c_reg (s_mov (v := .int .i64 v) rfl (c_nil (k_c (c_pre (vs := [.ptr 0 0, .ptr 3 0, .ptr 4 0, .int .i64 v]) (H' := [some (.box [.rp [xo, xr, xn, mvv]]), some (.data (bL inn)), some (.data (bL z24)), some (.data [.int .i64 r]), some (.data (bL b))]) (by simp [go_sem, fp]; done) ?_))))
      repeat' first
 | (apply s_mov; (focus ((conv => lhs; whnf); done)))
 | (apply c_nil)
 | ((first | apply s_lss | apply s_leq | apply s_gtr | apply s_geq | apply s_eql | apply s_neq); exact rfl; all_goals (intro _; try (exfalso; omega)))
 | (apply s_st; (focus (repeat (first | apply opds_nil | (apply opds_cons; (first | (focus ((conv => lhs; whnf); done)) | exact rfl))))); exact e_stB rfl (by omega))
 | (apply s_idx; (focus ((conv => lhs; whnf); done)); exact rfl; (first | assumption | (apply IsLL.at; assumption; omega)); omega)
 | (apply s_idxP; exact rfl; exact rfl; omega)
 | (apply s_ldI; exact rfl; omega)
 | (apply s_pd; (focus ((conv => lhs; whnf); done)))
 | (apply c_reg)
 | (apply c_block)
      all_goals
        refine hh _ ⟨vs, b.set v (decide (getI a.rank v = r)), rfl, fun w hw => e2 w (List.mem_cons_of_mem _ hw), by simpa using e3, e4, ?_⟩
        simp [*]
  · intro x ys H' K' ⟨vs, r, e1, e2, e4, e5⟩ hh
    obtain ⟨v, vs, rfl⟩ : ∃ v r, vs = v :: r := by cases vs with
      | nil => simp [nL] at e1
      | cons x y => exact ⟨x, y, rfl⟩
    simp only [nL, List.map_cons, List.cons.injEq] at e1
    obtain ⟨rfl, rfl⟩ := e1
    subst e5
    have hv := e2 v List.mem_cons_self
    refine c_reg (s_mov (v := .int .i64 v) rfl (c_nil (k_c (c_pre (vs := [.ptr 0 0, .ptr 3 0, .int .i64 v]) (H' := [some (.box [.rp [xo, xr, xn, mvv]]), some (.data (bL inn)), some (.data (bL z24)), some (.data [.int .i64 r])]) (by simp [go_sem, fp]; done) ?_))))
    repeat' first
 | (apply s_mov; (focus ((conv => lhs; whnf); done)))
 | (apply c_nil)
 | (apply isE; apply s_st; (focus (repeat (first | apply opds_nil | (apply opds_cons; (first | (focus ((conv => lhs; whnf); done)) | exact rfl))))); (focus ((conv => lhs; whnf); done)))
 | (apply s_idx; (focus ((conv => lhs; whnf); done)); exact rfl; (first | assumption | (apply IsLL.at; assumption; omega)); omega)
 | (apply s_mx; exact rfl; exact rfl)
 | (apply s_ldI; exact rfl; omega)
 | (apply s_pd; (focus ((conv => lhs; whnf); done)))
 | (apply c_reg)
 | (apply c_block)
    refine hh _ ⟨vs, mxStep a r v, rfl, fun w hw => e2 w (List.mem_cons_of_mem _ hw), e4, ?_⟩
    simp [putRow, cells_int, mxStep]
end Go.AM.Pa
