/- A part of the proof: Q7. -/
import Derived.Test.YtmeajfgjbebkiaaQ6
set_option linter.unusedSectionVars false
set_option linter.unusedVariables false
set_option linter.unusedSimpArgs false
namespace Go.AM.Pa
attribute [local go_sem] gc subHeap reach_skip ren_free reach_new reach_newp reach_end rangeL roots boxCells nodupB posOf renL AV.ren pickO renH renO looks look bindEnv envOf reach_int reach_bool reach_nilS reach_rd putRow cells_sl cells_int cells_bool cells_nilS cells_rd cells_agg reach_agg reach_tup idFreeL idf_sl idf_ptr idf_int idf_bool idf_nilS idf_rd
def scan (inn out : List Bool) : List Int → Bool → Bool → Int → Bool × Bool × Int
  | [], s, e, m => (s, e, m)
  | u :: r, s, e, m => if getB inn u then (if getB out u then scan inn out r true e u else scan inn out r s false m) else scan inn out r s e m
def visit (g : Gm) (inn : List Bool) (p : Int) (st : List Bool × List Int × Bool) (v : Nat) : List Bool × List Int × Bool :=
  if getB st.1 v then st else
  let q := scan inn st.1 (getLL g.next v) false true (-1)
  if (getI g.owner v = p ∧ q.1 = true) ∨ (getI g.owner v ≠ p ∧ q.1 = true ∧ q.2.1 = true) then
    (st.1.set v true, if getI g.owner v = p then st.2.1.set v q.2.2 else st.2.1, true)
  else st
def sweep (g : Gm) (inn : List Bool) (p : Int) (out : List Bool) (mv : List Int) : List Bool × List Int × Bool := (trues inn).foldl (visit g inn p) (out, mv, false)
def runN (g : Gm) (inn : List Bool) (p : Int) : Nat → List Bool → List Int → List Bool × List Int
  | 0, out, mv => (out, mv)
  | k + 1, out, mv => let r := sweep g inn p out mv; if r.2.2 then runN g inn p k r.1 r.2.1 else (r.1, r.2.1)
def h44 (xo xr xn : AV) (n : Nat) (mv : List Int) (inn : List Bool) (p : Int) (out : List Bool) (gr : Bool) : Heap :=
  [some (.box [xo, xr, xn, .sl 1 1 0 n]), some (.data (iL mv)), some (.box [.ptr 0 0]), some (.data (bL inn)), some (.data [.int .i64 p]), some (.data (bL z24)), some (.data (bL out)), some (.data [.bool gr])]

theorem drop_getI {l : List Int} {i : Nat} (h : i < l.length) : l.drop i = getI l i :: l.drop (i + 1) := by
  rw [List.drop_eq_getElem_cons h]
  simp [getI_nat, h]
section
variable {xo xr xn : AV} {g : Gm} {n : Nat} (ho : IsL xo g.owner) (hr : IsL xr g.rank) (hn : IsLL xn g.next) {inn : List Bool} (hinn : inn.length = 24) {p : Int}
  (hg : Good g) (hnn : g.next.length = n) (hin : ∀ i : Nat, getB inn i = true → i < n)
include ho hr hn hinn hg hnn hin

theorem good_row (v : Nat) (hv : v < n) (i : Nat) (hi : i < (getLL g.next v).length) : 0 ≤ getI (getLL g.next v) i ∧ getI (getLL g.next v) i < n := by
  have h := (hg.2.2.2 v (by omega)).2.2.2 i hi
  unfold badAt at h
  rw [hnn] at h
  omega

set_option maxHeartbeats 1000000 in
theorem body44 {mv : List Int} {out : List Bool} {gr : Bool} (hout : out.length = 24) (hmv : mv.length = n) {m : Nat} (hm : 60 ≤ m) (call : CallF) {K' : Heap → R} {res : R} (v : Nat) (hv : v < n) (hrow : (getLL g.next v).length < 50) {env : Env} (e4 : look env 4 = .ptr 2 0) (e5 : look env 5 = .ptr 3 0) (e6 : look env 6 = .ptr 4 0) (e9 : look env 9 = .ptr 6 0) (e10 : look env 10 = .ptr 7 0) (e11 : look env 11 = .int .i64 v)
    (hh : K' (h44 xo xr xn n (visit g inn p (out, mv, gr) v).2.1 inn p (visit g inn p (out, mv, gr) v).1 (visit g inn p (out, mv, gr) v).2.2) = res) :
    RC call it m rb44_13 8 (fun _ H2 => K' H2) (fun _ _ _ => none) (fun _ _ => none) env (h44 xo xr xn n mv inn p out gr) res := by
  have fo := ho.free; have fr := hr.free; have fn := hn.free
  have hn24 : n ≤ 24 := by have := hg.1; omega
  have hol : g.owner.length = n := by have := hg.2.1; omega
  have hlk : looks env [4, 5, 6, 9, 10, 11] = [.ptr 2 0, .ptr 3 0, .ptr 4 0, .ptr 6 0, .ptr 7 0, .int .i64 v] := by simp [looks, e4, e5, e6, e9, e10, e11]
  refine c_pre (vs := [.ptr 2 0, .ptr 3 0, .ptr 4 0, .ptr 6 0, .ptr 7 0, .int .i64 v]) (H' := h44 xo xr xn n mv inn p out gr) (by rw [hlk]; exact (by simp [go_sem, h44, fo, fr, fn]; done)) ?_
  unfold h44
  repeat' first
 | (apply s_mov; (focus ((conv => lhs; whnf); done)))
 | (apply c_nil)
 | (apply s_len; (focus ((conv => lhs; whnf); done)); (first | assumption | (apply IsLL.at; assumption; omega)))
 | (apply s_idxLL; (focus ((conv => lhs; whnf); done)); exact rfl; assumption; omega)
 | (apply s_idxP; exact rfl; exact rfl; omega)
 | (apply s_ldB; exact rfl; exact rfl; omega; all_goals intro _)
 | (apply s_ldLL; exact rfl; assumption; omega)
 | (apply s_pd; (focus ((conv => lhs; whnf); done)))
 | (apply c_seq)
 | (apply c_reg)
 | (apply c_block)
 | (apply c_exitH)
 | (apply c_skip)
 | (apply c_condT; exact rfl)
 | (apply c_condF; exact rfl)
 | (with_reducible apply k_c)
  · have e : visit g inn p (out, mv, gr) v = (out, mv, gr) := by unfold visit; rw [if_pos (by assumption)]
    rw [e] at hh
    exact hh
  · have hgo : getB out v = false := by assumption
    have hrr := good_row ho hr hn hinn hg hnn hin v hv
    have hH : ∀ (a : List Int) (b : List Bool) (c : Bool), gc 8 (looks [(14, AV.undef)] []) (h44 xo xr xn n a inn p b c) = some ([], h44 xo xr xn n a inn p b c) := fun a b c => (by simp [go_sem, h44, fo, fr, fn]; done)
    refine c_loop ?_
    refine loop_gc (σ := Nat × Bool × Bool × Int) (fun s => [.ptr 2 0, .ptr 3 0, .ptr 4 0, .ptr 6 0, .ptr 7 0, .int .i64 v, .bool s.2.1, .bool s.2.2.1, .int .i64 s.2.2.2, llAt xn v, .int .i64 (getLL g.next v).length, .int .i64 s.1])
      (fun _ => h44 xo xr xn n mv inn p out gr) (fun s => s.1 ≤ (getLL g.next v).length ∧ scan inn out ((getLL g.next v).drop s.1) s.2.1 s.2.2.1 s.2.2.2 = scan inn out (getLL g.next v) false true (-1)) (fun s => (getLL g.next v).length - s.1) ?_ _ (0, false, true, -1) _ _ ⟨by simp, rfl⟩ (by simp; omega) ?_
    · intro ⟨i, s, e, mm⟩ ⟨hi, hsc⟩ K hK
      simp only at hi hsc hK ⊢
      have hui := hrr i
      have hfl := IsLL.at (i := v) hn (by omega)
      have ff := hfl.free
      unfold h44
      repeat' first
 | (apply s_mov; (focus ((conv => lhs; whnf); done)))
 | (apply c_nil)
 | (apply s_notT; exact rfl)
 | (apply s_notF; exact rfl)
 | ((first | apply s_lss | apply s_leq | apply s_gtr | apply s_geq | apply s_eql | apply s_neq); exact rfl; all_goals (intro _; try (exfalso; omega)))
 | ((first | apply s_add | apply s_sub); exact rfl; omega)
 | (apply s_idx; (focus ((conv => lhs; whnf); done)); exact rfl; (first | assumption | (apply IsLL.at; assumption; omega)); omega)
 | (apply s_idxP; exact rfl; exact rfl; omega)
 | (apply s_ldB; exact rfl; exact rfl; omega; all_goals intro _)
 | (apply s_ldI; exact rfl; omega)
 | (apply c_seq)
 | (apply c_reg)
 | (apply c_block)
 | (apply c_exitH)
 | (apply c_skip)
 | (apply c_condT; exact rfl)
 | (apply c_condF; exact rfl)
 | (with_reducible apply k_c)
      · -- in and out: some, move
        refine hK (i + 1, true, e, getI (getLL g.next v) i) _ _ ⟨by omega, ?_⟩ (by simp; omega) ?_
        · rw [← hsc, drop_getI (i := i) (by omega)]
          simp only [scan]
          rw [if_pos (by assumption), if_pos (by assumption)]
        · exact (by simp [go_sem, h44, fo, fr, fn, ff]; done)
      · refine hK (i + 1, s, false, mm) _ _ ⟨by omega, ?_⟩ (by simp; omega) ?_
        · rw [← hsc, drop_getI (i := i) (by omega)]
          simp only [scan]
          rw [if_pos (by assumption), if_neg (by simp [*])]
        · exact (by simp [go_sem, h44, fo, fr, fn, ff]; done)
      · refine hK (i + 1, s, e, mm) _ _ ⟨by omega, ?_⟩ (by simp; omega) ?_
        · rw [← hsc, drop_getI (i := i) (by omega)]
          simp only [scan]
          rw [if_neg (by simp [*])]
        · exact (by simp [go_sem, h44, fo, fr, fn, ff]; done)
      · have hi' : i = (getLL g.next v).length := by omega
        subst hi'
        rw [List.drop_length] at hsc
        simp only [scan] at hsc
        refine c_pre (vs := [.ptr 2 0, .ptr 4 0, .ptr 6 0, .ptr 7 0, .int .i64 v, .bool s, .bool e, .int .i64 mm]) (H' := h44 xo xr xn n mv inn p out gr) (by simp [go_sem, h44, fo, fr, fn, ff]; done) ?_
        unfold h44
        unfold visit at hh
        simp only [hgo, Bool.false_eq_true, if_false, ← hsc] at hh
        cases s <;> cases e
        all_goals
          repeat' first
 | (apply s_mov; (focus ((conv => lhs; whnf); done)))
 | (apply s_gT; exact rfl)
 | (apply s_gF; exact rfl)
 | (apply c_nil)
 | (apply s_pickT; exact rfl; (focus ((conv => lhs; whnf); done)))
 | (apply s_pickF; exact rfl; (focus ((conv => lhs; whnf); done)))
 | ((first | apply s_lss | apply s_leq | apply s_gtr | apply s_geq | apply s_eql | apply s_neq); exact rfl; all_goals (intro _; try (exfalso; omega)))
 | (apply s_idxS; exact rfl; exact rfl; omega)
 | (apply s_st; (focus (repeat (first | apply opds_nil | (apply opds_cons; (first | (focus ((conv => lhs; whnf); done)) | exact rfl))))); exact e_stB rfl (by omega))
 | (apply s_st; (focus (repeat (first | apply opds_nil | (apply opds_cons; (first | (focus ((conv => lhs; whnf); done)) | exact rfl))))); exact e_stI rfl (by omega))
 | (apply isE; apply s_st; (focus (repeat (first | apply opds_nil | (apply opds_cons; (focus ((conv => lhs; whnf); done)))))); focus ((conv => lhs; whnf); done))
 | (apply s_idx; (focus ((conv => lhs; whnf); done)); exact rfl; (first | assumption | (apply IsLL.at; assumption; omega)); omega)
 | (apply s_idxP; exact rfl; exact rfl; omega)
 | (apply s_ldI; exact rfl; omega)
 | (apply s_pd; (focus ((conv => lhs; whnf); done)))
 | (apply c_seq)
 | (apply c_reg)
 | (apply c_skip)
 | (apply c_condT; exact rfl)
 | (apply c_condF; exact rfl)
 | (with_reducible apply k_c)
        all_goals
          clear hK hH hrr hui hsc
          first
          | (rw [if_neg (by simp [*])] at hh; exact hh)
          | (rw [if_pos (by simp [*])] at hh; simpa [h44, *, putRow, cells_bool] using hh)
    · have hfl := IsLL.at (i := v) hn (by omega)
      have ff := hfl.free
      exact (by simp [go_sem, h44, fo, fr, fn, ff]; done)
end
def cf (l : List Bool) : Nat := l.count false
theorem cf_set : ∀ {l : List Bool} {v : Nat}, l.getD v false = false → v < l.length → cf (l.set v true) < cf l
  | [], v, _, h => by simp at h
  | b :: l, 0, h, _ => by simp at h; subst h; simp [cf]
  | b :: l, v + 1, h, h2 => by
    have := cf_set (l := l) (v := v) (by simpa using h) (by simpa using h2)
    simp only [cf, List.set_cons_succ, List.count_cons] at this ⊢
    omega
theorem cf_le (l : List Bool) : cf l ≤ l.length := List.count_le_length
theorem trues_mem {b : List Bool} {v : Nat} (h : v ∈ trues b) : v < 24 ∧ getB b v = true := by
  have key : ∀ d i, v ∈ truesFrom b d i → (i ≤ v ∧ v < i + d) ∧ getB b v = true := by
    intro d
    induction d with
    | zero => intro i h; simp [truesFrom] at h
    | succ d ih =>
      intro i h
      simp only [truesFrom] at h
      split at h
      · rename_i hb
        rcases List.mem_cons.1 h with rfl | h
        · exact ⟨by omega, hb⟩
        · have := ih (i + 1) h
          exact ⟨by omega, this.2⟩
      · have := ih (i + 1) h
        exact ⟨by omega, this.2⟩
  have := key 24 0 h
  exact ⟨by omega, this.2⟩
/-- what holds along a sweep -/
def Along (out : List Bool) (n : Nat) (st : List Bool × List Int × Bool) : Prop := st.1.length = 24 ∧ st.2.1.length = n ∧ (st.2.2 = false → st.1 = out) ∧ (st.2.2 = true → cf st.1 < cf out)
theorem along_visit {g : Gm} {inn : List Bool} {p : Int} {out : List Bool} {n : Nat} {st : List Bool × List Int × Bool} (h : Along out n st) {v : Nat} (hv : v < 24) : Along out n (visit g inn p st v) := by
  obtain ⟨h1, h2, h3, h4⟩ := h
  unfold visit
  split
  · exact ⟨h1, h2, h3, h4⟩
  · rename_i hb
    simp only
    split
    · have hb' : getB st.1 v = false := by simpa using hb
      rw [getB_nat] at hb'
      have := cf_set (l := st.1) hb' (by omega)
      refine ⟨by simp [h1], ?_, fun h => by simp at h, fun _ => ?_⟩
      · show (if _ then _ else _ : List Int).length = n
        split <;> simp [h2]
      · show cf (st.1.set v true) < cf out
        rcases hgr : st.2.2 with _ | _
        · rw [h3 hgr] at this ⊢; exact this
        · have := h4 hgr; omega
    · exact ⟨h1, h2, h3, h4⟩
theorem along_fold {g : Gm} {inn : List Bool} {p : Int} {out : List Bool} {n : Nat} : ∀ (l : List Nat), (∀ v ∈ l, v < 24) → ∀ {st}, Along out n st → Along out n (l.foldl (visit g inn p) st)
  | [], _, _, h => h
  | v :: l, hl, st, h => along_fold l (fun w hw => hl w (List.mem_cons_of_mem _ hw)) (along_visit h (hl v List.mem_cons_self))
theorem along_sweep {g : Gm} {inn : List Bool} {p : Int} {out : List Bool} {mv : List Int} {n : Nat} (h1 : out.length = 24) (h2 : mv.length = n) : Along out n (sweep g inn p out mv) :=
  along_fold _ (fun v hv => (trues_mem hv).1) ⟨h1, h2, fun _ => rfl, fun h => by simp at h⟩

section
variable {xo xr xn : AV} {g : Gm} {n : Nat} (ho : IsL xo g.owner) (hr : IsL xr g.rank) (hn : IsLL xn g.next) {inn : List Bool} (hinn : inn.length = 24) {p : Int}
  (hg : Good g) (hnn : g.next.length = n) (hin : ∀ i : Nat, getB inn i = true → i < n) (hrow : ∀ i : Int, (getLL g.next i).length < 50)
include ho hr hn hinn hg hnn hin hrow
set_option maxHeartbeats 1000000 in
/-- attract -/
theorem f44 {mv : List Int} {to : List Bool} (hto : to.length = 24) (hmv : mv.length = n) (m : Nat) (hm : 103 ≤ m) :
    evF tab it m 44 [.ptr 0 0, .agg (bL inn), .int .i64 p, .agg (bL to)] [some (.box [xo, xr, xn, .sl 1 1 0 n]), some (.data (iL mv))] =
      some (.agg (bL (runN g inn p 26 to mv).1), [some (.box [xo, xr, xn, .sl 1 1 0 n]), some (.data (iL (runN g inn p 26 to mv).2))]) := by
  obtain ⟨m, rfl⟩ : ∃ j, m = j + 1 := ⟨m - 1, by omega⟩
  have fo := ho.free; have fr := hr.free; have fn := hn.free
  have hn24 : n ≤ 24 := by have := hg.1; omega
  have ob1 : ∀ call H, evE call H (.box false) [.ptr 0 0] = some (.ptr H.length 0, H ++ [some (.box [.ptr 0 0])]) := fun call H => rfl
  have ob2 : ∀ call H b, evE call H (.box true) [.agg (bL b)] = some (.ptr H.length 0, H ++ [some (.data (bL b))]) := fun call H b => by simp [evE, cells_agg, bL_one, mkHO, bL_free]
  have ob3 : ∀ call H, evE call H (.box true) [.int .i64 p] = some (.ptr H.length 0, H ++ [some (.data [.int .i64 p])]) := fun call H => rfl
  have al : ∀ call H, evE call H (.alloc true [.bool false, .bool false, .bool false, .bool false, .bool false, .bool false, .bool false, .bool false, .bool false, .bool false, .bool false, .bool false, .bool false, .bool false, .bool false, .bool false, .bool false, .bool false, .bool false, .bool false, .bool false, .bool false, .bool false, .bool false]) [] = some (.ptr H.length 0, H ++ [some (.data (bL z24))]) := by
    intro call H; unfold bL; rfl
  have al1 : ∀ call H, evE call H (.alloc true [.bool false]) [] = some (.ptr H.length 0, H ++ [some (.data [.bool false])]) := fun call H => rfl
  have hz : z24.length = 24 := rfl
  generalize hF : runN g inn p 26 to mv = FIN
  refine f_enterH rfl rfl ?_
  show RC (evF tab it m) it m _ 2 (finish 2 _) _ (finish 2 _) _ _ _
  repeat' first
 | (apply c_nil)
 | (apply s_en; (focus (repeat (first | apply opds_nil | (apply opds_cons; (first | (focus ((conv => lhs; whnf); done)) | exact rfl))))); exact ob1 _ _)
 | (apply s_en; (focus (repeat (first | apply opds_nil | (apply opds_cons; (first | (focus ((conv => lhs; whnf); done)) | exact rfl))))); exact ob2 _ _ _)
 | (apply s_en; (focus (repeat (first | apply opds_nil | (apply opds_cons; (first | (focus ((conv => lhs; whnf); done)) | exact rfl))))); exact ob3 _ _)
 | (apply s_en; (focus (repeat (first | apply opds_nil | (apply opds_cons; (first | (focus ((conv => lhs; whnf); done)) | exact rfl))))); exact al _ _)
 | (apply s_en; (focus (repeat (first | apply opds_nil | (apply opds_cons; (first | (focus ((conv => lhs; whnf); done)) | exact rfl))))); exact al1 _ _)
 | (apply s_pn; (focus (repeat (first | apply opds_nil | (apply opds_cons; (first | (focus ((conv => lhs; whnf); done)) | exact rfl))))); exact p_ldR rfl hto)
 | (apply s_st; (focus (repeat (first | apply opds_nil | (apply opds_cons; (first | (focus ((conv => lhs; whnf); done)) | exact rfl))))); exact e_stR rfl hto hz)
 | (apply isE; apply s_st; (focus (repeat (first | apply opds_nil | (apply opds_cons; (focus ((conv => lhs; whnf); done)))))); focus ((conv => lhs; whnf); done))
 | (apply c_seq)
 | (apply c_reg)
 | (apply c_block)
 | (with_reducible apply k_c)
  refine c_loop ?_
  refine loop_gc (σ := Nat × List Bool × List Int × Bool) (fun _ => [.ptr 2 0, .ptr 3 0, .ptr 4 0, .ptr 5 0, .ptr 6 0, .ptr 7 0]) (fun s => h44 xo xr xn n s.2.2.1 inn p s.2.1 s.2.2.2)
    (fun s => s.2.1.length = 24 ∧ s.2.2.1.length = n ∧ (if s.2.2.2 then runN g inn p s.1 s.2.1 s.2.2.1 = FIN ∧ cf s.2.1 < s.1 else (s.2.1, s.2.2.1) = FIN)) (fun s => s.1) ?_ _ (26, to, mv, true) _ _ ⟨hto, hmv, ?_⟩ (by simp; omega) (by simp [go_sem, h44, fo, fr, fn]; done)
  · intro ⟨k, out, mv, gr⟩ ⟨hout, hmv, hP⟩ K hK
    simp only at hout hmv hP hK ⊢
    cases gr
    · simp only [Bool.false_eq_true, if_false] at hP
      subst hP
      unfold h44
      repeat' first
 | (apply c_nil)
 | (apply s_pd; (focus ((conv => lhs; whnf); done)))
 | (apply c_seq)
 | (apply c_reg)
 | (apply c_exitH)
 | (apply c_condF; exact rfl)
 | (with_reducible apply k_c)
      refine c_pre (vs := [.ptr 2 0, .ptr 3 0]) (H' := [some (.box [xo, xr, xn, .sl 1 1 0 n]), some (.data (iL mv)), some (.data (bL z24)), some (.data (bL out))]) (by simp [go_sem, fo, fr, fn]; done) ?_
      repeat' first
 | (apply c_nil)
 | (apply s_pn; (focus (repeat (first | apply opds_nil | (apply opds_cons; (first | (focus ((conv => lhs; whnf); done)) | exact rfl))))); exact p_ldR rfl hout)
 | (apply s_st; (focus (repeat (first | apply opds_nil | (apply opds_cons; (first | (focus ((conv => lhs; whnf); done)) | exact rfl))))); exact e_stR rfl hout hz)
 | (apply c_seq)
 | (apply c_reg)
 | (apply c_ret)
 | (with_reducible apply k_c)
      have h1 := p_ldR (H := [some (.box [xo, xr, xn, .sl 1 1 0 n]), some (.data (iL mv)), some (.data (bL out)), some (.data (bL out))]) (id := 2) (n := 24) rfl hout
      simp only [evP] at h1
      simp [finish, ress, resOf, look, h1, tupOf, bindEnv, gc, subHeap, reach_agg, reach_int, idFreeL, AV.idFree, bL_free, reach_skip, reach_new, reach_end, rangeL, roots, boxCells, nodupB, posOf, renL, AV.ren, pickO, renH, renO, fo, fr, fn, ren_free]
    · simp only [if_true] at hP
      unfold h44
      repeat' first
 | (apply c_nil)
 | (apply s_pn; (focus (repeat (first | apply opds_nil | (apply opds_cons; (first | (focus ((conv => lhs; whnf); done)) | exact rfl))))); exact p_ldR rfl hinn)
 | (apply s_cn; (focus (repeat (first | apply opds_nil | (apply opds_cons; (first | (focus ((conv => lhs; whnf); done)) | exact rfl))))); exact c46 (by omega) _)
 | (apply isE; apply s_st; (focus (repeat (first | apply opds_nil | (apply opds_cons; (focus ((conv => lhs; whnf); done)))))); focus ((conv => lhs; whnf); done))
 | (apply s_pd; (focus ((conv => lhs; whnf); done)))
 | (apply c_seq)
 | (apply c_reg)
 | (apply c_block)
 | (apply c_skip)
 | (apply c_condT; exact rfl)
 | (with_reducible apply k_c)
      obtain ⟨hP1, hP2⟩ := hP
      obtain ⟨k, rfl⟩ : ∃ j, k = j + 1 := ⟨k - 1, by omega⟩
      simp only [runN] at hP1
      have hal := along_sweep (g := g) (inn := inn) (p := p) (mv := mv) hout hmv
      generalize hS : sweep g inn p out mv = S at *
      refine c_range (it63 hinn _) (fun xs H' => ∃ vs st, xs = nL vs ∧ (∀ v ∈ vs, v < n) ∧ st.1.length = 24 ∧ st.2.1.length = n ∧ vs.foldl (visit g inn p) st = S ∧ H' = h44 xo xr xn n st.2.1 inn p st.1 st.2.2) ?_ ?_ ?_
      · refine ⟨trues inn, (out, mv, false), rfl, fun v hv => hin v (trues_mem hv).2, hout, hmv, hS, ?_⟩
        simp [h44, putRow, cells_bool]
      · intro H' ⟨vs, st, e1, e2, e3, e3', e4, e5⟩
        obtain rfl : vs = [] := by cases vs with
          | nil => rfl
          | cons a b => simp [nL] at e1
        simp only [List.foldl_nil] at e4
        subst e4
        subst e5
        refine k_c (c_pre (vs := [.ptr 2 0, .ptr 3 0, .ptr 4 0, .ptr 5 0, .ptr 6 0, .ptr 7 0]) (H' := h44 xo xr xn n st.2.1 inn p st.1 st.2.2) (by simp [go_sem, h44, fo, fr, fn]; done) ?_)
        unfold h44
        repeat' first
 | (apply c_nil)
 | (apply s_en; (focus (repeat (first | apply opds_nil | (apply opds_cons; (first | (focus ((conv => lhs; whnf); done)) | exact rfl))))); exact al1 _ _)
 | (apply isE; apply s_st; (focus (repeat (first | apply opds_nil | (apply opds_cons; (focus ((conv => lhs; whnf); done)))))); focus ((conv => lhs; whnf); done))
 | (apply s_pd; (focus ((conv => lhs; whnf); done)))
 | (apply c_seq)
 | (apply c_reg)
 | (with_reducible apply k_c)
        refine hK (k, st.1, st.2.1, st.2.2) _ _ ⟨hal.1, hal.2.1, ?_⟩ (by simp) (by simp [go_sem, h44, fo, fr, fn]; done)
        rcases hgr : st.2.2 with _ | _
        · rw [hgr] at hP1
          simpa using hP1
        · rw [hgr] at hP1
          have := hal.2.2.2 hgr
          simp only [if_true] at hP1 ⊢
          exact ⟨hP1, by omega⟩
      · intro x ys H' K' ⟨vs, st, e1, e2, e3, e3', e4, e5⟩ hh
        obtain ⟨v, vs, rfl⟩ : ∃ v r, vs = v :: r := by cases vs with
          | nil => simp [nL] at e1
          | cons a b => exact ⟨a, b, rfl⟩
        simp only [nL, List.map_cons, List.cons.injEq] at e1
        obtain ⟨rfl, rfl⟩ := e1
        subst e5
        have hv := e2 v List.mem_cons_self
        obtain ⟨o', m', g'⟩ := st
        refine c_reg (s_mov rfl (c_nil (k_c (body44 ho hr hn hinn hg hnn hin e3 e3' (by omega) _ v hv (hrow _) rfl rfl rfl rfl rfl rfl ?_))))
        have hvis : (visit g inn p (o', m', g') v).1.length = 24 ∧ (visit g inn p (o', m', g') v).2.1.length = n := by
          unfold visit
          split
          · exact ⟨e3, e3'⟩
          · simp only
            split
            · refine ⟨by simpa using e3, ?_⟩
              show (if _ then _ else _ : List Int).length = n
              split <;> simpa using e3'
            · exact ⟨e3, e3'⟩
        exact hh _ ⟨vs, visit g inn p (o', m', g') v, rfl, fun w hw => e2 w (List.mem_cons_of_mem _ hw), hvis.1, hvis.2, e4, rfl⟩
  · simp only [if_true]
    exact ⟨hF, by have := cf_le to; omega⟩
end
end Go.AM.Pa
