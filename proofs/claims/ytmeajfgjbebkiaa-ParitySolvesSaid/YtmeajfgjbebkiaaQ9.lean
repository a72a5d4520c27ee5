/- A part of the proof: Q9. -/
import Derived.Test.YtmeajfgjbebkiaaQ8b
set_option linter.unusedSectionVars false
set_option linter.unusedVariables false
set_option linter.unusedSimpArgs false
namespace Go.AM.Pa
attribute [local go_sem] gc subHeap reach_skip ren_free reach_new reach_newp reach_end rangeL roots boxCells nodupB posOf renL AV.ren pickO renH renO looks look bindEnv envOf reach_int reach_bool reach_nilS reach_rd putRow cells_sl cells_int cells_bool cells_nilS cells_rd cells_agg reach_agg reach_tup idFreeL idf_sl idf_ptr idf_int idf_bool idf_nilS idf_rd
def scanR (reg out : List Bool) : List Int → Bool → Bool → Bool × Bool
  | [], o, a => (o, a)
  | u :: r, o, a => if getB reg u then scanR reg out r (o || getB out u) (a && getB out u) else scanR reg out r o a
def visitR (g : Gm) (reg : List Bool) (p : Int) (st : List Bool × Bool) (v : Nat) : List Bool × Bool :=
  if getB st.1 v = true ∨ getB reg v = false then st else
  let q := scanR reg st.1 (getLL g.next v) false true
  if (getI g.owner v = p ∧ q.1 = true) ∨ (getI g.owner v ≠ p ∧ q.2 = true) then (st.1.set v true, true) else st
def swR (g : Gm) (reg : List Bool) (p : Int) : Nat → Nat → List Bool × Bool → List Bool × Bool
  | 0, _, st => st
  | d + 1, i, st => swR g reg p d (i + 1) (visitR g reg p st i)
def runR (g : Gm) (reg : List Bool) (p : Int) : Nat → List Bool → List Bool
  | 0, out => out
  | k + 1, out => let r := swR g reg p out.length 0 (out, false); if r.2 then runR g reg p k r.1 else r.1
def AlongR (out : List Bool) (n : Nat) (st : List Bool × Bool) : Prop := st.1.length = n ∧ (st.2 = false → st.1 = out) ∧ (st.2 = true → cf st.1 < cf out)
theorem along_visitR {g : Gm} {reg : List Bool} {p : Int} {out : List Bool} {n : Nat} {st : List Bool × Bool} (h : AlongR out n st) {v : Nat} (hv : v < n) : AlongR out n (visitR g reg p st v) := by
  obtain ⟨h1, h3, h4⟩ := h
  unfold visitR
  split
  · exact ⟨h1, h3, h4⟩
  · rename_i hb
    simp only
    split
    · have hb' : getB st.1 v = false := by
        cases hx : getB st.1 v
        · rfl
        · exact absurd (Or.inl hx) hb
      rw [getB_nat] at hb'
      have := cf_set (l := st.1) hb' (by omega)
      refine ⟨by simp [h1], fun h => by simp at h, fun _ => ?_⟩
      show cf (st.1.set v true) < cf out
      rcases hgr : st.2 with _ | _
      · rw [h3 hgr] at this ⊢; exact this
      · have := h4 hgr; omega
    · exact ⟨h1, h3, h4⟩
theorem along_swR {g : Gm} {reg : List Bool} {p : Int} {out : List Bool} {n : Nat} : ∀ (d i : Nat), i + d ≤ n → ∀ {st}, AlongR out n st → AlongR out n (swR g reg p d i st)
  | 0, _, _, _, h => h
  | d + 1, i, hi, st, h => along_swR d (i + 1) (by omega) (along_visitR h (by omega))
def ini (set reg : List Bool) (n i : Nat) : List Bool := (List.range n).map fun j => decide (j < i) && (getB set j && getB reg j)
theorem ini_len (set reg : List Bool) (n i : Nat) : (ini set reg n i).length = n := by simp [ini]
theorem ini_zero (set reg : List Bool) (n : Nat) : ini set reg n 0 = List.replicate n false := by
  refine List.ext_getElem (by simp [ini]) fun j h1 h2 => ?_
  simp [ini]
theorem ini_set (set reg : List Bool) {n i : Nat} (h : i < n) {v : Bool} (hv : (getB set i && getB reg i) = v) : (ini set reg n i).set i v = ini set reg n (i + 1) := by
  refine List.ext_getElem (by simp [ini]) fun j h1 h2 => ?_
  rw [List.getElem_set]
  split
  · rename_i e; subst e; simp [ini, hv]
  · rename_i e
    simp only [ini, List.getElem_map, List.getElem_range]
    by_cases hj : j < i
    · simp [hj, show j < i + 1 by omega]
    · simp [hj, show ¬ j < i + 1 by omega]
set_option maxHeartbeats 2000000
theorem f48 {x : AV} {a : Gm} {set reg : List Bool} {p : Int} {n : Nat} (hx : IsG x a) (hg : Good a) (hnn : a.next.length = n) (hs : set.length = n) (hrg : reg.length = n) (hrow : ∀ i : Int, (getLL a.next i).length < 50) (m : Nat) (hm : 103 ≤ m) :
    evF tab it m 48 [x, .int .i64 p, .rd 1 n (bL set), .rd 1 n (bL reg)] [] = some (.sl 0 1 0 n, [some (.data (bL (runR a reg p 26 (ini set reg n n))))]) := by
  obtain ⟨m, rfl⟩ : ∃ j, m = j + 1 := ⟨m - 1, by omega⟩
  obtain ⟨xo, xr, xn, rfl, ho, hr, hn⟩ := hx
  have fo := ho.free; have fr := hr.free; have fn := hn.free
  have hn24 : n ≤ 24 := by have := hg.1; omega
  have hol : a.owner.length = n := by have := hg.2.1; omega
  have hrr := row_ok hg hnn
  have ob : ∀ call, evE call [] (.box false) [.agg [xo, xr, xn]] = some (.ptr 0 0, [some (.box [xo, xr, xn])]) := fun call => by simp [evE, AV.cells, oneL, ho.one, hr.one, hn.one, mkHO]
  generalize hF : runR a reg p 26 (ini set reg n n) = FIN
  have hset : (set.length : Int) = n := by omega
  refine f_enter rfl rfl ?_
  repeat' first
 | (apply s_mov; (focus ((conv => lhs; whnf); done)))
 | (apply c_nil)
 | (apply s_en; (focus (repeat (first | apply opds_nil | (apply opds_cons; (first | (focus ((conv => lhs; whnf); done)) | exact rfl))))); exact ob _)
 | (apply s_en; (focus (repeat (first | apply opds_nil | (apply opds_cons; (first | (focus ((conv => lhs; whnf); done)) | exact rfl))))); exact e_mkB (by unfold most; omega))
 | (apply s_lenRd; exact rfl)
 | (apply c_seq)
 | (apply c_reg)
 | (apply c_block)
 | (with_reducible apply k_c)
  refine c_loop ?_
  refine loop_gc (σ := Nat) (fun i => [.int .i64 p, .rd 1 n (bL set), .rd 1 n (bL reg), .ptr 0 0, .int .i64 n, .sl 1 1 0 n, .int .i64 i]) (fun i => [some (.box [xo, xr, xn]), some (.data (bL (ini set reg n i)))]) (fun i => i ≤ n) (fun i => n - i) ?_ _ 0 _ _ (by omega) (by omega) ?_
  · intro i hi K hK
    have hil := ini_len set reg n i
    repeat' first
 | (apply s_mov; (focus ((conv => lhs; whnf); done)))
 | (apply s_gT; exact rfl)
 | (apply s_gF; exact rfl)
 | (apply c_nil)
 | (apply s_pickT; exact rfl; (focus ((conv => lhs; whnf); done)))
 | (apply s_pickF; exact rfl; (focus ((conv => lhs; whnf); done)))
 | ((first | apply s_lss | apply s_leq | apply s_gtr | apply s_geq | apply s_eql | apply s_neq); exact rfl; all_goals (intro _; try (exfalso; omega)))
 | ((first | apply s_add | apply s_sub); exact rfl; omega)
 | (apply s_st; (focus (repeat (first | apply opds_nil | (apply opds_cons; (first | (focus ((conv => lhs; whnf); done)) | exact rfl))))); exact e_stB rfl (by omega))
 | (apply s_ldRB; exact rfl; omega; all_goals intro _)
 | (apply s_idxRB; exact rfl; exact rfl; omega)
 | (apply s_idxS; exact rfl; exact rfl; omega)
 | (apply c_seq)
 | (apply c_reg)
 | (apply c_block)
 | (apply c_exitH)
 | (apply c_skip)
 | (apply c_condT; exact rfl)
 | (apply c_condF; exact rfl)
 | (with_reducible apply k_c)
    · rename_i h1 h2
      refine hK (i + 1) _ _ (by omega) (by omega) ?_
      rw [← ini_set set reg (i := i) (v := true) (by omega) (by rw [h1, h2]; rfl)]
      exact (by simp [go_sem, fo, fr, fn]; done)
    · rename_i h1 h2
      refine hK (i + 1) _ _ (by omega) (by omega) ?_
      rw [← ini_set set reg (i := i) (v := false) (by omega) (by rw [h1, h2]; rfl)]
      exact (by simp [go_sem, fo, fr, fn]; done)
    · rename_i h1
      refine hK (i + 1) _ _ (by omega) (by omega) ?_
      rw [← ini_set set reg (i := i) (v := false) (by omega) (by rw [h1]; rfl)]
      exact (by simp [go_sem, fo, fr, fn]; done)
    · obtain rfl : i = n := by omega
      clear hK hi
      generalize ini set reg i i = out0 at *
      refine c_pre (vs := [.int .i64 p, .rd 1 i (bL reg), .ptr 0 0, .int .i64 i, .sl 1 1 0 i]) (H' := [some (.box [xo, xr, xn]), some (.data (bL out0))]) (by simp [go_sem, fo, fr, fn]; done) ?_
      repeat' first
 | (apply s_mov; (focus ((conv => lhs; whnf); done)))
 | (apply c_nil)
 | (apply c_seq)
 | (apply c_reg)
 | (apply c_block)
 | (with_reducible apply k_c)
      refine c_loop ?_
      refine loop_gc (σ := Nat × List Bool × Bool) (fun s => [.int .i64 p, .rd 1 i (bL reg), .ptr 0 0, .int .i64 i, .sl 1 1 0 i, .bool s.2.2]) (fun s => [some (.box [xo, xr, xn]), some (.data (bL s.2.1))])
        (fun s => s.2.1.length = i ∧ (if s.2.2 then runR a reg p s.1 s.2.1 = FIN ∧ cf s.2.1 < s.1 else s.2.1 = FIN)) (fun s => s.1) ?_ _ (26, out0, true) _ _ ⟨hil, ?_⟩ (by simp; omega) (by simp [go_sem, fo, fr, fn]; done)
      · intro ⟨k, out, ag⟩ ⟨hout, hP⟩ K hK
        simp only at hout hP hK ⊢
        cases ag
        · simp only [Bool.false_eq_true, if_false] at hP
          subst hP
          repeat' first
 | (apply s_mov; (focus ((conv => lhs; whnf); done)))
 | (apply c_nil)
 | (apply c_seq)
 | (apply c_reg)
 | (apply c_exitH)
 | (apply c_condF; exact rfl)
 | (with_reducible apply k_c)
          refine c_pre (vs := [.sl 0 1 0 i]) (H' := [some (.data (bL out))]) (by simp [go_sem, fo, fr, fn]; done) ?_
          repeat' first
 | (apply s_mov; (focus ((conv => lhs; whnf); done)))
 | (apply c_nil)
 | (apply c_seq)
 | (apply c_reg)
 | (apply c_ret)
 | (with_reducible apply k_c)
          simp [finish, ress, resOf, look, tupOf, bindEnv, gc, subHeap, reach_new, reach_end, rangeL, roots, boxCells, nodupB, posOf, renL, AV.ren, pickO, renH, renO]
        · simp only [if_true] at hP
          obtain ⟨hP1, hP2⟩ := hP
          obtain ⟨k, rfl⟩ : ∃ j, k = j + 1 := ⟨k - 1, by omega⟩
          simp only [runR, hout] at hP1
          have hal := along_swR (g := a) (reg := reg) (p := p) (out := out) i 0 (by omega) (st := (out, false)) ⟨hout, fun _ => rfl, fun h => by simp at h⟩
          generalize hS : swR a reg p i 0 (out, false) = S at *
          repeat' first
 | (apply s_mov; (focus ((conv => lhs; whnf); done)))
 | (apply c_nil)
 | (apply c_seq)
 | (apply c_reg)
 | (apply c_block)
 | (apply c_skip)
 | (apply c_condT; exact rfl)
 | (with_reducible apply k_c)
          refine c_loop ?_
          refine loop_gc (σ := Nat × List Bool × Bool) (fun s => [.int .i64 p, .rd 1 i (bL reg), .ptr 0 0, .int .i64 i, .sl 1 1 0 i, .bool s.2.2, .int .i64 s.1]) (fun s => [some (.box [xo, xr, xn]), some (.data (bL s.2.1))])
            (fun s => s.1 ≤ i ∧ s.2.1.length = i ∧ swR a reg p (i - s.1) s.1 s.2 = S) (fun s => i - s.1) ?_ _ (0, out, false) _ _ ⟨by simp, hout, hS⟩ (by simp; omega) (by simp [go_sem, fo, fr, fn]; done)
          intro ⟨v, o, g⟩ ⟨hv, ho', hsw⟩ K2 hK2
          simp only at hv ho' hsw hK2 ⊢
          have cont : ∀ (X : Nat → KT) (Rt : KT) (env : Env) (o' : List Bool) (g' : Bool), v < i → o'.length = i → swR a reg p (i - (v + 1)) (v + 1) (o', g') = S → looks env [1, 3, 4, 9, 10, 12, 13] = [.int .i64 p, .rd 1 i (bL reg), .ptr 0 0, .int .i64 i, .sl 1 1 0 i, .bool g', .int .i64 v] →
              RC (evF tab it m) it m sq48_15 0 K2 X Rt env [some (.box [xo, xr, xn]), some (.data (bL o'))] (some (.sl 0 1 0 i, [some (.data (bL FIN))])) := by
            intro X Rt env o' g' h1 h2 h3 h4
            refine c_pre (vs := [.int .i64 p, .rd 1 i (bL reg), .ptr 0 0, .int .i64 i, .sl 1 1 0 i, .bool g', .int .i64 v]) (H' := [some (.box [xo, xr, xn]), some (.data (bL o'))]) (by rw [h4]; exact (by simp [go_sem, fo, fr, fn]; done)) ?_
            repeat' first
 | (apply s_mov; (focus ((conv => lhs; whnf); done)))
 | (apply c_nil)
 | ((first | apply s_add | apply s_sub); exact rfl; omega)
 | (apply c_reg)
            exact hK2 (v + 1, o', g') _ _ ⟨by omega, h2, h3⟩ (by simp; omega) (by simp [go_sem, fo, fr, fn]; done)
          have hsw' : v < i → swR a reg p (i - (v + 1)) (v + 1) (visitR a reg p (o, g) v) = S := fun h => by
            rw [← hsw, show i - v = i - (v + 1) + 1 by omega]
            rfl
          repeat' first
 | (apply s_mov; (focus ((conv => lhs; whnf); done)))
 | (apply s_gT; exact rfl)
 | (apply s_gF; exact rfl)
 | (apply c_nil)
 | (apply s_pickT; exact rfl; (focus ((conv => lhs; whnf); done)))
 | (apply s_pickF; exact rfl; (focus ((conv => lhs; whnf); done)))
 | (apply s_notT; exact rfl)
 | (apply s_notF; exact rfl)
 | ((first | apply s_lss | apply s_leq | apply s_gtr | apply s_geq | apply s_eql | apply s_neq); exact rfl; all_goals (intro _; try (exfalso; omega)))
 | (apply s_ldB; exact rfl; exact rfl; omega; all_goals intro _)
 | (apply s_ldRB; exact rfl; omega; all_goals intro _)
 | (apply s_idxRB; exact rfl; exact rfl; omega)
 | (apply s_idxS; exact rfl; exact rfl; omega)
 | (apply c_seq)
 | (apply c_reg)
 | (apply c_block)
 | (apply c_exitH)
 | (apply c_skip)
 | (apply c_condT; exact rfl)
 | (apply c_condF; exact rfl)
 | (with_reducible apply k_c)
          · rename_i h1
            refine cont _ _ _ o g (by omega) ho' ?_ rfl
            rw [← hsw' (by omega)]
            unfold visitR
            rw [if_pos (Or.inl h1)]
          · rename_i hvi h1 h2
            have hrv := hrr v (by omega)
            have hfl := IsLL.at (i := v) hn (by omega)
            have hrowv := hrow v
            refine c_loop ?_
            refine loop_gc (σ := Nat × Bool × Bool) (fun s => [.int .i64 p, .rd 1 i (bL reg), .ptr 0 0, .int .i64 i, .sl 1 1 0 i, .bool g, .int .i64 v, .bool s.2.1, .bool s.2.2, .int .i64 s.1]) (fun _ => [some (.box [xo, xr, xn]), some (.data (bL o))])
              (fun s => s.1 ≤ (getLL a.next v).length ∧ scanR reg o ((getLL a.next v).drop s.1) s.2.1 s.2.2 = scanR reg o (getLL a.next v) false true) (fun s => (getLL a.next v).length - s.1) ?_ _ (0, false, true) _ _ ⟨by simp, rfl⟩ (by simp; omega) (by simp [go_sem, fo, fr, fn]; done)
            intro ⟨q, one, al⟩ ⟨hq, hsc⟩ K3 hK3
            simp only at hq hsc hK3 ⊢
            have hui := hrv q
            have hK' : ∀ one' al' env', q < (getLL a.next v).length → looks env' [1, 3, 4, 9, 10, 12, 13, 14, 15, 16] = [.int .i64 p, .rd 1 i (bL reg), .ptr 0 0, .int .i64 i, .sl 1 1 0 i, .bool g, .int .i64 v, .bool one', .bool al', .int .i64 ((q + 1 : Nat) : Int)] → scanR reg o ((getLL a.next v).drop (q + 1)) one' al' = scanR reg o (getLL a.next v) false true → K3 env' [some (.box [xo, xr, xn]), some (.data (bL o))] = some (.sl 0 1 0 i, [some (.data (bL FIN))]) := fun one' al' env' h0 h1 h2 =>
              hK3 (q + 1, one', al') env' _ ⟨by omega, h2⟩ (by simp; omega) (by rw [h1]; exact (by simp [go_sem, fo, fr, fn]; done))
            clear hK3
            have hnv : ¬ (getB o v = true ∨ getB reg v = false) := by rw [h1, h2]; simp
            cases one <;> cases al
            · skip
              repeat' first
 | (apply s_mov; (focus ((conv => lhs; whnf); done)))
 | (apply s_gT; exact rfl)
 | (apply s_gF; exact rfl)
 | (apply c_nil)
 | (apply s_pickF; exact rfl; (focus ((conv => lhs; whnf); done)))
 | ((first | apply s_lss | apply s_leq | apply s_gtr | apply s_geq | apply s_eql | apply s_neq); exact rfl; all_goals (intro _; try (exfalso; omega)))
 | ((first | apply s_add | apply s_sub); exact rfl; omega)
 | (apply s_len; (focus ((conv => lhs; whnf); done)); (first | assumption | (apply IsLL.at; assumption; omega)))
 | (apply s_idx; (focus ((conv => lhs; whnf); done)); exact rfl; (first | assumption | (apply IsLL.at; assumption; omega)); omega)
 | (apply s_idxLL; (focus ((conv => lhs; whnf); done)); exact rfl; assumption; omega)
 | (apply s_ldB; exact rfl; exact rfl; omega; all_goals intro _)
 | (apply s_ldRB; exact rfl; omega; all_goals intro _)
 | (apply s_idxRB; exact rfl; exact rfl; omega)
 | (apply s_idxS; exact rfl; exact rfl; omega)
 | (apply s_ldI; exact rfl; omega)
 | (apply s_ldLL; exact rfl; assumption; omega)
 | (apply s_pd; (focus ((conv => lhs; whnf); done)))
 | (apply c_seq)
 | (apply c_reg)
 | (apply c_block)
 | (apply c_exitH)
 | (apply c_skip)
 | (apply c_condT; exact rfl)
 | (apply c_condF; exact rfl)
 | (with_reducible apply k_c)
              try any_goals (exfalso; rename_i e1 e2; rw [e1] at e2; exact Bool.noConfusion e2)
              any_goals (refine hK' _ _ _ (by omega) rfl ?_; clear hK'; rw [← hsc, drop_getI (i := q) (by omega)]; simp only [scanR]; simp [*]; done)
              have hq' : q = (getLL a.next v).length := by omega
              rw [hq', List.drop_length] at hsc
              simp only [scanR] at hsc
              clear hK'
              have hvis : visitR a reg p (o, g) v = if (getI a.owner v = p ∧ false = true) ∨ (getI a.owner v ≠ p ∧ false = true) then (o.set v true, true) else (o, g) := by
                unfold visitR
                rw [if_neg hnv]
                simp only [← hsc]
              refine c_pre (vs := [.int .i64 p, .rd 1 i (bL reg), .ptr 0 0, .int .i64 i, .sl 1 1 0 i, .bool g, .int .i64 v, .bool false, .bool false]) (H' := [some (.box [xo, xr, xn]), some (.data (bL o))]) (by simp [go_sem, fo, fr, fn]; done) ?_
              repeat' first
 | (apply s_mov; (focus ((conv => lhs; whnf); done)))
 | (apply s_gT; exact rfl)
 | (apply s_gF; exact rfl)
 | (apply c_nil)
 | (apply s_pickT; exact rfl; (focus ((conv => lhs; whnf); done)))
 | (apply s_pickF; exact rfl; (focus ((conv => lhs; whnf); done)))
 | ((first | apply s_lss | apply s_leq | apply s_gtr | apply s_geq | apply s_eql | apply s_neq); exact rfl; all_goals (intro _; try (exfalso; omega)))
 | (apply s_idx; (focus ((conv => lhs; whnf); done)); exact rfl; (first | assumption | (apply IsLL.at; assumption; omega)); omega)
 | (apply s_ldI; exact rfl; omega)
 | (apply s_pd; (focus ((conv => lhs; whnf); done)))
 | (apply c_seq)
 | (apply c_reg)
 | (apply c_skip)
 | (apply c_condF; exact rfl)
 | (with_reducible apply k_c)
              all_goals
                refine cont _ _ _ _ _ (by omega) ?_ ?_ rfl
                · simp [ho']
                · rw [← hsw' (by omega), hvis]
                  clear cont hsw' hK hK2
                  simp [*]
            · skip
              repeat' first
 | (apply s_mov; (focus ((conv => lhs; whnf); done)))
 | (apply s_gT; exact rfl)
 | (apply c_nil)
 | (apply s_pickT; exact rfl; (focus ((conv => lhs; whnf); done)))
 | (apply s_pickF; exact rfl; (focus ((conv => lhs; whnf); done)))
 | ((first | apply s_lss | apply s_leq | apply s_gtr | apply s_geq | apply s_eql | apply s_neq); exact rfl; all_goals (intro _; try (exfalso; omega)))
 | ((first | apply s_add | apply s_sub); exact rfl; omega)
 | (apply s_len; (focus ((conv => lhs; whnf); done)); (first | assumption | (apply IsLL.at; assumption; omega)))
 | (apply s_idx; (focus ((conv => lhs; whnf); done)); exact rfl; (first | assumption | (apply IsLL.at; assumption; omega)); omega)
 | (apply s_idxLL; (focus ((conv => lhs; whnf); done)); exact rfl; assumption; omega)
 | (apply s_ldB; exact rfl; exact rfl; omega; all_goals intro _)
 | (apply s_ldRB; exact rfl; omega; all_goals intro _)
 | (apply s_idxRB; exact rfl; exact rfl; omega)
 | (apply s_idxS; exact rfl; exact rfl; omega)
 | (apply s_ldI; exact rfl; omega)
 | (apply s_ldLL; exact rfl; assumption; omega)
 | (apply s_pd; (focus ((conv => lhs; whnf); done)))
 | (apply c_seq)
 | (apply c_reg)
 | (apply c_block)
 | (apply c_exitH)
 | (apply c_skip)
 | (apply c_condT; exact rfl)
 | (apply c_condF; exact rfl)
 | (with_reducible apply k_c)
              try any_goals (exfalso; rename_i e1 e2; rw [e1] at e2; exact Bool.noConfusion e2)
              any_goals (refine hK' _ _ _ (by omega) rfl ?_; clear hK'; rw [← hsc, drop_getI (i := q) (by omega)]; simp only [scanR]; simp [*]; done)
              have hq' : q = (getLL a.next v).length := by omega
              rw [hq', List.drop_length] at hsc
              simp only [scanR] at hsc
              clear hK'
              have hvis : visitR a reg p (o, g) v = if (getI a.owner v = p ∧ false = true) ∨ (getI a.owner v ≠ p ∧ true = true) then (o.set v true, true) else (o, g) := by
                unfold visitR
                rw [if_neg hnv]
                simp only [← hsc]
              refine c_pre (vs := [.int .i64 p, .rd 1 i (bL reg), .ptr 0 0, .int .i64 i, .sl 1 1 0 i, .bool g, .int .i64 v, .bool false, .bool true]) (H' := [some (.box [xo, xr, xn]), some (.data (bL o))]) (by simp [go_sem, fo, fr, fn]; done) ?_
              repeat' first
 | (apply s_mov; (focus ((conv => lhs; whnf); done)))
 | (apply s_gT; exact rfl)
 | (apply s_gF; exact rfl)
 | (apply c_nil)
 | (apply s_pickT; exact rfl; (focus ((conv => lhs; whnf); done)))
 | (apply s_pickF; exact rfl; (focus ((conv => lhs; whnf); done)))
 | ((first | apply s_lss | apply s_leq | apply s_gtr | apply s_geq | apply s_eql | apply s_neq); exact rfl; all_goals (intro _; try (exfalso; omega)))
 | (apply s_st; (focus (repeat (first | apply opds_nil | (apply opds_cons; (first | (focus ((conv => lhs; whnf); done)) | exact rfl))))); exact e_stB rfl (by omega))
 | (apply s_idx; (focus ((conv => lhs; whnf); done)); exact rfl; (first | assumption | (apply IsLL.at; assumption; omega)); omega)
 | (apply s_idxS; exact rfl; exact rfl; omega)
 | (apply s_ldI; exact rfl; omega)
 | (apply s_pd; (focus ((conv => lhs; whnf); done)))
 | (apply c_seq)
 | (apply c_reg)
 | (apply c_skip)
 | (apply c_condT; exact rfl)
 | (apply c_condF; exact rfl)
 | (with_reducible apply k_c)
              all_goals
                refine cont _ _ _ _ _ (by omega) ?_ ?_ rfl
                · simp [ho']
                · rw [← hsw' (by omega), hvis]
                  clear cont hsw' hK hK2
                  simp [*]
            · skip
              repeat' first
 | (apply s_mov; (focus ((conv => lhs; whnf); done)))
 | (apply s_gF; exact rfl)
 | (apply c_nil)
 | (apply s_pickT; exact rfl; (focus ((conv => lhs; whnf); done)))
 | (apply s_pickF; exact rfl; (focus ((conv => lhs; whnf); done)))
 | ((first | apply s_lss | apply s_leq | apply s_gtr | apply s_geq | apply s_eql | apply s_neq); exact rfl; all_goals (intro _; try (exfalso; omega)))
 | ((first | apply s_add | apply s_sub); exact rfl; omega)
 | (apply s_len; (focus ((conv => lhs; whnf); done)); (first | assumption | (apply IsLL.at; assumption; omega)))
 | (apply s_idx; (focus ((conv => lhs; whnf); done)); exact rfl; (first | assumption | (apply IsLL.at; assumption; omega)); omega)
 | (apply s_idxLL; (focus ((conv => lhs; whnf); done)); exact rfl; assumption; omega)
 | (apply s_ldRB; exact rfl; omega; all_goals intro _)
 | (apply s_idxRB; exact rfl; exact rfl; omega)
 | (apply s_ldI; exact rfl; omega)
 | (apply s_ldLL; exact rfl; assumption; omega)
 | (apply s_pd; (focus ((conv => lhs; whnf); done)))
 | (apply c_seq)
 | (apply c_reg)
 | (apply c_block)
 | (apply c_exitH)
 | (apply c_skip)
 | (apply c_condT; exact rfl)
 | (apply c_condF; exact rfl)
 | (with_reducible apply k_c)
              try any_goals (exfalso; rename_i e1 e2; rw [e1] at e2; exact Bool.noConfusion e2)
              any_goals (refine hK' _ _ _ (by omega) rfl ?_; clear hK'; rw [← hsc, drop_getI (i := q) (by omega)]; simp only [scanR]; simp [*]; done)
              have hq' : q = (getLL a.next v).length := by omega
              rw [hq', List.drop_length] at hsc
              simp only [scanR] at hsc
              clear hK'
              have hvis : visitR a reg p (o, g) v = if (getI a.owner v = p ∧ true = true) ∨ (getI a.owner v ≠ p ∧ false = true) then (o.set v true, true) else (o, g) := by
                unfold visitR
                rw [if_neg hnv]
                simp only [← hsc]
              refine c_pre (vs := [.int .i64 p, .rd 1 i (bL reg), .ptr 0 0, .int .i64 i, .sl 1 1 0 i, .bool g, .int .i64 v, .bool true, .bool false]) (H' := [some (.box [xo, xr, xn]), some (.data (bL o))]) (by simp [go_sem, fo, fr, fn]; done) ?_
              repeat' first
 | (apply s_mov; (focus ((conv => lhs; whnf); done)))
 | (apply s_gT; exact rfl)
 | (apply s_gF; exact rfl)
 | (apply c_nil)
 | (apply s_pickT; exact rfl; (focus ((conv => lhs; whnf); done)))
 | (apply s_pickF; exact rfl; (focus ((conv => lhs; whnf); done)))
 | ((first | apply s_lss | apply s_leq | apply s_gtr | apply s_geq | apply s_eql | apply s_neq); exact rfl; all_goals (intro _; try (exfalso; omega)))
 | (apply s_st; (focus (repeat (first | apply opds_nil | (apply opds_cons; (first | (focus ((conv => lhs; whnf); done)) | exact rfl))))); exact e_stB rfl (by omega))
 | (apply s_idx; (focus ((conv => lhs; whnf); done)); exact rfl; (first | assumption | (apply IsLL.at; assumption; omega)); omega)
 | (apply s_idxS; exact rfl; exact rfl; omega)
 | (apply s_ldI; exact rfl; omega)
 | (apply s_pd; (focus ((conv => lhs; whnf); done)))
 | (apply c_seq)
 | (apply c_reg)
 | (apply c_skip)
 | (apply c_condT; exact rfl)
 | (apply c_condF; exact rfl)
 | (with_reducible apply k_c)
              all_goals
                refine cont _ _ _ _ _ (by omega) ?_ ?_ rfl
                · simp [ho']
                · rw [← hsw' (by omega), hvis]
                  clear cont hsw' hK hK2
                  simp [*]
            · skip
              repeat' first
 | (apply s_mov; (focus ((conv => lhs; whnf); done)))
 | (apply s_gT; exact rfl)
 | (apply s_gF; exact rfl)
 | (apply c_nil)
 | (apply s_pickT; exact rfl; (focus ((conv => lhs; whnf); done)))
 | ((first | apply s_lss | apply s_leq | apply s_gtr | apply s_geq | apply s_eql | apply s_neq); exact rfl; all_goals (intro _; try (exfalso; omega)))
 | ((first | apply s_add | apply s_sub); exact rfl; omega)
 | (apply s_len; (focus ((conv => lhs; whnf); done)); (first | assumption | (apply IsLL.at; assumption; omega)))
 | (apply s_idx; (focus ((conv => lhs; whnf); done)); exact rfl; (first | assumption | (apply IsLL.at; assumption; omega)); omega)
 | (apply s_idxLL; (focus ((conv => lhs; whnf); done)); exact rfl; assumption; omega)
 | (apply s_ldB; exact rfl; exact rfl; omega; all_goals intro _)
 | (apply s_ldRB; exact rfl; omega; all_goals intro _)
 | (apply s_idxRB; exact rfl; exact rfl; omega)
 | (apply s_idxS; exact rfl; exact rfl; omega)
 | (apply s_ldI; exact rfl; omega)
 | (apply s_ldLL; exact rfl; assumption; omega)
 | (apply s_pd; (focus ((conv => lhs; whnf); done)))
 | (apply c_seq)
 | (apply c_reg)
 | (apply c_block)
 | (apply c_exitH)
 | (apply c_skip)
 | (apply c_condT; exact rfl)
 | (apply c_condF; exact rfl)
 | (with_reducible apply k_c)
              try any_goals (exfalso; rename_i e1 e2; rw [e1] at e2; exact Bool.noConfusion e2)
              any_goals (refine hK' _ _ _ (by omega) rfl ?_; clear hK'; rw [← hsc, drop_getI (i := q) (by omega)]; simp only [scanR]; simp [*]; done)
              have hq' : q = (getLL a.next v).length := by omega
              rw [hq', List.drop_length] at hsc
              simp only [scanR] at hsc
              clear hK'
              have hvis : visitR a reg p (o, g) v = if (getI a.owner v = p ∧ true = true) ∨ (getI a.owner v ≠ p ∧ true = true) then (o.set v true, true) else (o, g) := by
                unfold visitR
                rw [if_neg hnv]
                simp only [← hsc]
              refine c_pre (vs := [.int .i64 p, .rd 1 i (bL reg), .ptr 0 0, .int .i64 i, .sl 1 1 0 i, .bool g, .int .i64 v, .bool true, .bool true]) (H' := [some (.box [xo, xr, xn]), some (.data (bL o))]) (by simp [go_sem, fo, fr, fn]; done) ?_
              repeat' first
 | (apply s_mov; (focus ((conv => lhs; whnf); done)))
 | (apply s_gT; exact rfl)
 | (apply s_gF; exact rfl)
 | (apply c_nil)
 | (apply s_pickT; exact rfl; (focus ((conv => lhs; whnf); done)))
 | (apply s_pickF; exact rfl; (focus ((conv => lhs; whnf); done)))
 | ((first | apply s_lss | apply s_leq | apply s_gtr | apply s_geq | apply s_eql | apply s_neq); exact rfl; all_goals (intro _; try (exfalso; omega)))
 | (apply s_st; (focus (repeat (first | apply opds_nil | (apply opds_cons; (first | (focus ((conv => lhs; whnf); done)) | exact rfl))))); exact e_stB rfl (by omega))
 | (apply s_idx; (focus ((conv => lhs; whnf); done)); exact rfl; (first | assumption | (apply IsLL.at; assumption; omega)); omega)
 | (apply s_idxS; exact rfl; exact rfl; omega)
 | (apply s_ldI; exact rfl; omega)
 | (apply s_pd; (focus ((conv => lhs; whnf); done)))
 | (apply c_seq)
 | (apply c_reg)
 | (apply c_condT; exact rfl)
 | (with_reducible apply k_c)
              all_goals
                refine cont _ _ _ _ _ (by omega) ?_ ?_ rfl
                · simp [ho']
                · rw [← hsw' (by omega), hvis]
                  clear cont hsw' hK hK2
                  simp [*]
          · rename_i h1 h2
            refine cont _ _ _ o g (by omega) ho' ?_ rfl
            rw [← hsw' (by omega)]
            unfold visitR
            rw [if_pos (Or.inr h2)]
          · obtain rfl : v = i := by omega
            rw [Nat.sub_self] at hsw
            simp only [swR] at hsw
            subst hsw
            refine hK (k, o, g) _ _ ⟨ho', ?_⟩ (by simp) (by simp [go_sem, fo, fr, fn]; done)
            rcases g with _ | _
            · simpa using hP1
            · have := hal.2.2 rfl
              simp only [if_true] at hP1 ⊢
              exact ⟨hP1, by simp only at this; omega⟩
      · simp only [if_true]
        exact ⟨hF, by have := cf_le out0; omega⟩
  · rw [ini_zero]
    exact (by simp [go_sem, fo, fr, fn]; done)
end Go.AM.Pa
