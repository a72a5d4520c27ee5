/- A part of the proof: Q6. -/
import Derived.Test.YtmeajfgjbebkiaaQ5
import Derived.Test.YtmeajfgjbebkiaaM3
set_option linter.unusedSectionVars false
set_option linter.unusedVariables false
set_option linter.unusedSimpArgs false
namespace Go.AM.Pa
attribute [local go_sem] gc subHeap reach_skip ren_free reach_new reach_newp reach_end rangeL roots boxCells nodupB posOf renL AV.ren pickO renH renO looks look bindEnv envOf reach_int reach_bool reach_nilS reach_rd putRow cells_sl cells_int cells_bool cells_nilS cells_rd cells_agg reach_agg reach_tup idFreeL idf_sl idf_ptr idf_int idf_bool idf_nilS idf_rd
/-- the places of a row from i on that hold true -/
def truesFrom (b : List Bool) (d : Nat) (i : Nat) : List Nat := match d with
  | 0 => []
  | d + 1 => if getB b i then i :: truesFrom b d (i + 1) else truesFrom b d (i + 1)
def trues (b : List Bool) : List Nat := truesFrom b 24 0
def nL (l : List Nat) : List AV := l.map fun (i : Nat) => .int .i64 (i : Int)
theorem it63 {b : List Bool} (hb : b.length = 24) (H : Heap) : it (.fn 63 [.rp (bL b)]) H = some (nL (trues b)) := by
  have key : evCY 60 af63.body finY (fun _ _ _ => none) finY (envOf 0 [.yl 0, .rp (bL b)]) [none] = some (.tup (nL (trues b)), [none]) := by
    refine y_k ?_
    refine y_seq (y_reg ?_)
    have hld : evP [none] (.ld true 24) [.rp (bL b)] = some (.agg (bL b)) := by
      simp only [evP, ldc, bL_len, hb, Nat.le_refl, if_true, Option.bind_some, wholeOf]
      rw [List.take_of_length_le (by rw [bL_len]; omega)]
    refine y_p (v := .agg (bL b)) hld ?_
    repeat' first
 | (apply y_mov; (focus ((conv => lhs; whnf); done)))
 | (apply y_nil)
 | (apply y_block)
 | (with_reducible apply y_k)
    refine y_loop ?_
    refine loop_y (σ := Nat) (fun i => [.yl 0, .agg (bL b), .int .i64 i]) (fun i => i ≤ 24) (fun i => 24 - i) (fun i => some (.tup (nL (truesFrom b (24 - i) i)), [none])) ?_ 60 0 _ (by omega) (by omega) rfl
    intro i hi K hK
    by_cases hlt : i = 24
    · subst hlt
      repeat' first
 | (apply y_nil)
 | (apply y_lss; exact rfl; all_goals (intro _; try (exfalso; omega)))
 | (apply y_seq)
 | (apply y_reg)
 | (apply y_exitH)
 | (apply y_condF; exact rfl)
 | (with_reducible apply y_k)
      rfl
    · obtain ⟨d, hd⟩ : ∃ d, 24 - i = d + 1 := ⟨23 - i, by omega⟩
      rw [hd]
      simp only [truesFrom]
      have hd' : 24 - (i + 1) = d := by omega
      repeat' first
 | (apply y_mov; (focus ((conv => lhs; whnf); done)))
 | (apply y_gT; exact rfl)
 | (apply y_gF; exact rfl)
 | (apply y_gFY; exact rfl)
 | (apply y_nil)
 | (apply y_pickF; exact rfl; (focus ((conv => lhs; whnf); done)))
 | (apply y_lss; exact rfl; all_goals (intro _; try (exfalso; omega)))
 | (apply y_add; exact rfl; omega)
 | (apply y_idxB; exact rfl; exact rfl; assumption; omega; all_goals intro _)
 | (apply y_seq)
 | (apply y_reg)
 | (apply y_block)
 | (apply y_skip)
 | (apply y_condT; exact rfl)
 | (apply y_condF; exact rfl)
 | (with_reducible apply y_k)
      · rename_i h
        rw [if_pos h]
        refine y_yld (x := .int .i64 i) (ys := nL (truesFrom b d (i + 1))) rfl rfl rfl ?_ ?_
        · simp [envNoRd, AV.hasRd, bL_noRd, bindEnv]
        · skip
          repeat' first
 | (apply y_mov; (focus ((conv => lhs; whnf); done)))
 | (apply y_gT; exact rfl)
 | (apply y_nil)
 | (apply y_pickT; exact rfl; (focus ((conv => lhs; whnf); done)))
 | (apply y_notT; exact rfl)
 | (apply y_add; exact rfl; omega)
 | (apply y_reg)
 | (apply y_skip)
 | (apply y_condF; exact rfl)
 | (with_reducible apply y_k)
          rw [← hd']
          exact hK (i + 1) _ (by omega) (by omega) rfl
      · rename_i h
        rw [if_neg (by rw [h]; simp), ← hd']
        exact hK (i + 1) _ (by omega) (by omega) rfl
  have hf : frzL H 40 [.rp (bL b)] = some [.rp (bL b)] := frzL_free H 40 _ (by simp) rfl
  have ht : tabI 63 = some af63 := rfl
  show itF tabI 60 (.fn 63 [.rp (bL b)]) H = _
  simp only [itF, ht, Option.bind_some, hf]
  rw [if_pos (show af63.np = [AV.rp (bL b)].length + 1 from rfl), key]
  rfl

/-- region.all -/
theorem c46 {b : List Bool} {m : Nat} (hm : 1 ≤ m) (H : Heap) : callPure (evF tab it m) true 46 [.agg (bL b)] H = some (.fn 63 [.rp (bL b)], H) := by
  have hb := bL_free b
  have hf : AV.idFree (.agg (bL b)) = true := by simp [AV.idFree, hb]
  have ob : ∀ call, evE call [] (.box true) [.agg (bL b)] = some (.ptr 0 0, [some (.data (bL b))]) := fun call => by simp [evE, cells_agg, bL_one, mkHO, hb]
  refine callPure_frz (by simp [idFreeL, hf]) (by simp) (v := .fn 63 [.ptr 0 0]) (H1 := [some (.data (bL b))]) ?_ ?_
  · obtain ⟨m, rfl⟩ : ∃ j, m = j + 1 := ⟨m - 1, by omega⟩
    refine f_enter rfl rfl ?_
    repeat' first
 | (apply s_mov; (focus ((conv => lhs; whnf); done)))
 | (apply c_nil)
 | (apply s_en; (focus (repeat (first | apply opds_nil | (apply opds_cons; (first | (focus ((conv => lhs; whnf); done)) | exact rfl))))); exact ob _)
 | (apply s_pd; (focus ((conv => lhs; whnf); done)))
 | (apply c_seq)
 | (apply c_reg)
 | (apply c_ret)
 | (with_reducible apply k_c)
    rfl
  · simp [frzV, frzL, idFreeL, idf_ptr]

theorem truesFrom_len (b : List Bool) : ∀ d i, (truesFrom b d i).length ≤ d
  | 0, _ => by simp [truesFrom]
  | d + 1, i => by
    have := truesFrom_len b d (i + 1)
    simp only [truesFrom]
    split <;> simp <;> omega
theorem trues_len (b : List Bool) : (trues b).length ≤ 24 := truesFrom_len b 24 0
def hp62 (l : List AV) : Heap := match l with
  | [] => [some (.box [.nilS])]
  | c :: cs => [some (.box [.sl 1 1 0 (cs.length + 1)]), some (.data (c :: cs))]
theorem callPure_own {call : CallF} {f : Nat} {args : List AV} {H : Heap} {l : List Int} (ha : idFreeL args = true) (hl : args.length < 40) (hc : call f args [] = some (ownV 0 (iL l), owH (iL l))) : callPure call false f args H = some (ownV H.length (iL l), H ++ owH (iL l)) := by
  simp only [callPure, frzL_free H 40 args hl ha, hc, ha, Option.bind_some, Bool.true_or, if_true, Bool.false_eq_true, if_false]
  rcases l with _ | ⟨c, cs⟩ <;> simp [ownV, owH, iL, shiftH, AV.ren, renH, renO]
theorem gc_own (l : List Int) (R : Heap) : gc 0 [ownV 0 (iL l)] (owH (iL l) ++ R) = some ([ownV 0 (iL l)], owH (iL l)) := by
  rcases l with _ | ⟨c, cs⟩
  · simp [ownV, owH, iL, gc, subHeap, reach_nilS, reach_end, rangeL, roots, nodupB, posOf, renL, AV.ren, pickO, renH, renO]
  · simp [ownV, owH, iL, gc, subHeap, reach_new, reach_end, rangeL, roots, boxCells, nodupB, posOf, renL, AV.ren, pickO, renH, renO]
theorem fin_own {n : Nat} {env : Env} {H : Heap} {res : R} {l : List Int} (hr : look env n = ownV 0 (iL l)) (hH : H = owH (iL l)) (e : some (ownV 0 (iL l), owH (iL l)) = res) : finish 0 [.t n] env H = res := by
  have := gc_own l []
  simp only [List.append_nil] at this
  subst hH
  simp [finish, ress, resOf, hr, tupOf, this, ← e]
/-- Collect of a list of places -/
theorem e43 {b : List Bool} (hb : b.length = 24) {m : Nat} (hm : 2 ≤ m) : evF tab it m 43 [.fn 63 [.rp (bL b)]] [] = some (ownV 0 (iL ((trues b).map fun (i : Nat) => (i : Int))), owH (iL ((trues b).map fun (i : Nat) => (i : Int)))) := by
  have e62 : ∀ m, 1 ≤ m → ∀ H, callPure (evF tab it m) false 62 [.nilS, .fn 63 [.rp (bL b)]] H = some (ownV H.length (iL ((trues b).map fun (i : Nat) => (i : Int))), H ++ owH (iL ((trues b).map fun (i : Nat) => (i : Int)))) := by
    intro m hm H
    have e : nL (trues b) = iL ((trues b).map fun (i : Nat) => (i : Int)) := by simp [nL, iL]
    refine callPure_own rfl (by simp) ?_
    rw [← e]
    · obtain ⟨m, rfl⟩ : ∃ j, m = j + 1 := ⟨m - 1, by omega⟩
      have ob : ∀ call, evE call [] (.box false) [.nilS] = some (.ptr 0 0, [some (.box [.nilS])]) := fun call => rfl
      refine f_enter rfl rfl ?_
      repeat' first
 | (apply s_mov; (focus ((conv => lhs; whnf); done)))
 | (apply c_nil)
 | (apply s_en; (focus (repeat (first | apply opds_nil | (apply opds_cons; (first | (focus ((conv => lhs; whnf); done)) | exact rfl))))); exact ob _)
 | (apply c_seq)
 | (apply c_reg)
 | (apply c_block)
 | (with_reducible apply k_c)
      have fin : ∀ dn H', nL (trues b) = dn → gc 0 [.ptr 0 0] H' = some ([.ptr 0 0], hp62 dn) → evC (evF tab it m) it m sq62_1 0 (finish 0 [.t 4]) (fun _ _ _ => none) (finish 0 [.t 4]) [(6, .fn 63 [.rp (bL b)]), (4, .nilS), (2, .ptr 0 0), (0, .nilS), (1, .fn 63 [.rp (bL b)])] H' = some (ownV 0 (nL (trues b)), owH (nL (trues b))) := by
        intro dn H' h1 h2
        rw [h1]
        refine k_c (c_pre h2 ?_)
        rcases dn with _ | ⟨c, cs⟩
        · simp only [hp62]
          repeat' first
 | (apply s_mov; (focus ((conv => lhs; whnf); done)))
 | (apply c_nil)
 | (apply s_pd; (focus ((conv => lhs; whnf); done)))
 | (apply c_seq)
 | (apply c_reg)
 | (apply c_ret)
 | (with_reducible apply k_c)
          exact fin_t rfl rfl rfl
        · simp only [hp62]
          repeat' first
 | (apply s_mov; (focus ((conv => lhs; whnf); done)))
 | (apply c_nil)
 | (apply s_pd; (focus ((conv => lhs; whnf); done)))
 | (apply c_seq)
 | (apply c_reg)
 | (apply c_ret)
 | (with_reducible apply k_c)
          simp [finish, ress, resOf, look, tupOf, ownV, owH, gc, subHeap, reach_new, reach_end, rangeL, roots, boxCells, nodupB, posOf, renL, AV.ren, pickO, renH, renO]
      refine c_range (it63 hb _) (fun xs H' => ∃ dn, dn ++ xs = nL (trues b) ∧ (∀ q n, gc 1 [.ptr 0 0, .int q n] H' = some ([.ptr 0 0, .int q n], hp62 dn)) ∧ gc 0 [.ptr 0 0] H' = some ([.ptr 0 0], hp62 dn)) ?_ ?_ ?_
      · exact ⟨[], rfl, fun q n => (by simp [go_sem, hp62]; done), (by simp [go_sem, hp62]; done)⟩
      · intro H' ⟨dn, h1, h2, h3⟩
        exact fin dn H' (by simpa using h1.symm) h3
      · intro x ys H' K' ⟨dn, h1, h2, h3⟩ hh
        obtain ⟨q, hq⟩ : ∃ q : Nat, x = .int .i64 (q : Int) := by
          have : x ∈ nL (trues b) := by rw [← h1]; simp
          simp only [nL, List.mem_map] at this
          obtain ⟨q, -, e⟩ := this
          exact ⟨q, e.symm⟩
        subst hq
        have hlen : dn.length ≤ 24 := by
          have e := congrArg List.length h1
          have e2 := trues_len b
          simp [nL] at e
          omega
        refine c_reg (s_mov rfl (c_nil (k_c (c_pre (h2 .i64 q) ?_))))
        rcases dn with _ | ⟨c, cs⟩
        · simp only [hp62]
          repeat' first
 | (apply s_mov; (focus ((conv => lhs; whnf); done)))
 | (apply c_nil)
 | (apply s_en; (focus (repeat (first | apply opds_nil | (apply opds_cons; (first | (focus ((conv => lhs; whnf); done)) | exact rfl))))); exact e_bld1 rfl rfl rfl rfl)
 | (apply s_en; (focus (repeat (first | apply opds_nil | (apply opds_cons; (first | (focus ((conv => lhs; whnf); done)) | exact rfl))))); exact e_app_nil rfl (by omega) (by decide))
 | (apply isE; apply s_st; (focus (repeat (first | apply opds_nil | (apply opds_cons; (focus ((conv => lhs; whnf); done)))))); focus ((conv => lhs; whnf); done))
 | (apply s_pd; (focus ((conv => lhs; whnf); done)))
 | (apply c_reg)
 | (apply c_block)
          exact hh _ ⟨[.int .i64 q], by simpa using h1, fun q n => (by simp [go_sem, hp62]; done), (by simp [go_sem, hp62]; done)⟩
        · simp only [hp62]
          repeat' first
 | (apply s_mov; (focus ((conv => lhs; whnf); done)))
 | (apply c_nil)
 | (apply s_en; (focus (repeat (first | apply opds_nil | (apply opds_cons; (first | (focus ((conv => lhs; whnf); done)) | exact rfl))))); exact e_bld1 rfl rfl rfl rfl)
 | (apply s_en; (focus (repeat (first | apply opds_nil | (apply opds_cons; (first | (focus ((conv => lhs; whnf); done)) | exact rfl))))); exact e_app_sl rfl rfl (by omega) (by simp at hlen; unfold most; omega))
 | (apply isE; apply s_st; (focus (repeat (first | apply opds_nil | (apply opds_cons; (focus ((conv => lhs; whnf); done)))))); focus ((conv => lhs; whnf); done))
 | (apply s_pd; (focus ((conv => lhs; whnf); done)))
 | (apply c_reg)
 | (apply c_block)
          exact hh _ ⟨c :: cs ++ [.int .i64 q], by simpa using h1, fun q n => (by simp [go_sem, hp62]; done), (by simp [go_sem, hp62]; done)⟩
  obtain ⟨m, rfl⟩ : ∃ j, m = j + 1 := ⟨m - 1, by omega⟩
  refine f_enter rfl rfl ?_
  repeat' first
 | (apply s_mov; (focus ((conv => lhs; whnf); done)))
 | (apply c_nil)
 | (apply s_cn; (focus (repeat (first | apply opds_nil | (apply opds_cons; (first | (focus ((conv => lhs; whnf); done)) | exact rfl))))); exact e62 _ (by omega) _)
 | (apply c_seq)
 | (apply c_reg)
 | (apply c_ret)
 | (with_reducible apply k_c)
  exact fin_own (l := (trues b).map fun (i : Nat) => (i : Int)) rfl rfl rfl
theorem c43 {b : List Bool} (hb : b.length = 24) {m : Nat} (hm : 2 ≤ m) (H : Heap) : callPure (evF tab it m) true 43 [.fn 63 [.rp (bL b)]] H = some (fzL ((trues b).map fun (i : Nat) => (i : Int)), H) :=
  callPure_frz rfl (by simp) (e43 hb hm) (frz_own _)
theorem c43o {b : List Bool} (hb : b.length = 24) {m : Nat} (hm : 2 ≤ m) (H : Heap) : callPure (evF tab it m) false 43 [.fn 63 [.rp (bL b)]] H = some (ownV H.length (iL ((trues b).map fun (i : Nat) => (i : Int))), H ++ owH (iL ((trues b).map fun (i : Nat) => (i : Int)))) :=
  callPure_own rfl (by simp) (e43 hb hm)
end Go.AM.Pa
