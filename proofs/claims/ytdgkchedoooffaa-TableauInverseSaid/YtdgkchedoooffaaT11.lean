/- A part of the proof: T11. -/
import Derived.Test.YtdgkchedoooffaaT10
set_option linter.unusedVariables false
set_option linter.unusedSimpArgs false
set_option linter.unusedSectionVars false
namespace Go.AM.Tb
set_option maxHeartbeats 4000000
theorem f75n {x0 : Int} {m : Nat} (hm : 2 ≤ m) : evF tab it m 75 [.nilS, .int .i64 x0] [] = some (.tup [.sl 0 1 0 1, .int .i64 0], [some (.box [.sl 1 1 0 1]), some (.data [.int .i64 x0])]) := by
  obtain ⟨m, rfl⟩ : ∃ j, m = j + 1 := ⟨m - 1, by omega⟩
  generalize hR : some (AV.tup [.sl 0 1 0 1, .int .i64 0], [some (HO.box [.sl 1 1 0 1]), some (HO.data [AV.int .i64 x0])]) = res
  refine f_enterH rfl rfl ?_
  have b0 : ∀ call, evE call [] (.box true) [.int .i64 x0] = some (.ptr 0 0, [some (.data [.int .i64 x0])]) := fun call => by
    simp [evE, mkHO, idFreeL, AV.idFree, AV.cells, oneL, AV.one]
  have p3 : evP [some (HO.data [.int .i64 x0])] (.ld false 1) [.ptr 0 0] = some (.int .i64 x0) := by
    have := p_ldD (H := [some (HO.data [.int .i64 x0])]) (i := 0) (l := [x0]) (k := 0) rfl (by simp)
    rwa [show getI [x0] ((0 : Nat) : Int) = x0 from by rw [getI_nat]; rfl] at this
  have b1 : ∀ call, evE call [some (HO.data [.int .i64 x0])] (.bldS true false 1 1 [.int .i64 0] [(0, 1)]) [.int .i64 x0] = some (.sl 1 1 0 1, [some (.data [.int .i64 x0]), some (.data [.int .i64 x0])]) := fun call => by
    simp [evE, repl, fillParts, AV.cells, AV.solid, putPart, oneL, AV.one, idFreeL, AV.idFree, newRow]
  have b2 : ∀ call, evE call [some (HO.data [.int .i64 x0]), some (.data [.int .i64 x0])] (.bldB 1 1 [.nilS] [(0, 1)]) [.sl 1 1 0 1] = some (.sl 2 1 0 1, [some (HO.data [.int .i64 x0]), some (.data [.int .i64 x0]), some (.box [.sl 1 1 0 1])]) := fun call => e_bldB1 rfl rfl rfl
  have b3 : ∀ call q, evE call [some (HO.data [.int .i64 x0]), some (.data [.int .i64 x0]), some (.box [.sl 1 1 0 1])] (.appB 1 q) [.nilS, .sl 2 1 0 1] = some (.sl 3 1 0 1, [some (HO.data [.int .i64 x0]), some (.data [.int .i64 x0]), some (.box [.sl 1 1 0 1]), some (.box [.sl 1 1 0 1])]) := fun call q =>
    e_appB_nil (n := 1) (cs := [.sl 1 1 0 1]) rfl rfl (by decide) (by decide)
  repeat' first
 | (apply s_mov; exact aW)
 | (apply c_nil)
 | (apply s_en; exact aO; exact b0 _)
 | (apply s_pd; exact aW)
 | (apply c_seq)
 | (apply c_reg)
 | (apply c_block)
 | (with_reducible apply k_c)
  refine c_loop ?_
  refine loop_gc (σ := Unit) (fun _ => [.nilS, .ptr 0 0, .nilS, .int .i64 0, .int .i64 0]) (fun _ => [some (.data [.int .i64 x0])]) (fun _ => True) (fun _ => 0) ?_ _ () _ _ trivial (by omega) (by rfl)
  intro _ _ K hK
  have g2 : gc 0 [.nilS, .ptr 0 0] [some (HO.data [.int .i64 x0])] = some ([.nilS, .ptr 0 0], [some (.data [.int .i64 x0])]) := by rfl
  repeat' first
 | (apply s_mov; exact aW)
 | (apply c_nil)
 | (apply s_lss; exact rfl; all_goals (intro _; try (exfalso; omega)))
 | (apply c_pre; exact g2)
 | (apply s_pn; exact aO; exact p3)
 | (apply s_en; exact aO; exact b1 _)
 | (apply s_en; exact aO; exact b2 _)
 | (apply s_en; exact aO; exact b3 _ _)
 | (apply s_pd; exact aW)
 | (apply c_seq)
 | (apply c_reg)
 | (apply c_exitH)
 | (apply c_ret)
 | (apply c_condF; exact rfl)
 | (with_reducible apply k_c)
  rw [← hR]
  rfl
theorem callMut_n {x0 : Int} {m : Nat} (hm : 2 ≤ m) : callMut (evF tab it m) 75 [.nilS, .int .i64 x0] [] = some (.tup [.sl 0 1 0 1, .int .i64 0], [some (.box [.sl 1 1 0 1]), some (.data [.int .i64 x0])]) := by
  simp only [callMut, show reach [] 400 [] [AV.nilS, .int .i64 x0] = [] from rfl, show subHeap [] [AV.nilS, .int .i64 x0] [] = some ([.nilS, .int .i64 x0], []) from rfl, Option.bind_some, f75n hm]
  rfl
def G53 (P Q : List (List Int)) (r : R) : Prop := ∃ v R, r = some (v, R) ∧ frzV R 140 v = some (.tup [fzLL P, fzLL Q])
theorem fin53 {P Q : List (List Int)} {env : Env} {H R : Heap} {s1 s2 : Nat} {v1 v2 v1' v2' : AV} (h1 : look env s1 = v1) (h2 : look env s2 = v2) (hg : gc 0 [.tup [v1, v2]] H = some ([.tup [v1', v2']], R)) (hf : idFreeL [v1', v2'] = false) (f1 : frzV R 138 v1' = some (fzLL P)) (f2 : frzV R 137 v2' = some (fzLL Q)) : G53 P Q (finish 0 [.t s1, .t s2] env H) := by
  refine ⟨.tup [v1', v2'], R, ?_, ?_⟩
  · simp only [finish, ress, resOf, h1, h2, tupOf, Option.bind_some, Option.map_some, hg]
    rfl
  · rw [show (140 : Nat) = 139 + 1 from rfl, frzV_tup, hf]
    simp only [Bool.false_eq_true, if_false]
    rw [show (139 : Nat) = 138 + 1 from rfl, frzL_cons, show (138 : Nat) = 137 + 1 from rfl, frzL_cons, show (137 : Nat) = 136 + 1 from rfl, frzL_nil, f1, f2]
    rfl
def v53 (x : AV) (w : List Int) (i : Nat) : List AV := if i = 0 then [.nilS, .nilS, x, .int .i64 w.length, .int .i64 (i : Int)] else [.sl 0 1 0 (pq w i).1.length, .sl ((pq w i).1.length + 1) 1 0 (pq w i).2.length, x, .int .i64 w.length, .int .i64 (i : Int)]
def h53 (w : List Int) (i : Nat) : Heap := if i = 0 then [] else HB (pq w i).1 ++ HBs ((pq w i).1.length + 1) (pq w i).2
theorem f53 {x : AV} {w : List Int} (hx : IsL x w) (hw : w.length ≤ 61) {m : Nat} (hm : 2100 ≤ m) : G53 (pq w w.length).1 (pq w w.length).2 (evF tab it m 53 [x] []) := by
  obtain ⟨m, rfl⟩ : ∃ j, m = j + 1 := ⟨m - 1, by omega⟩
  have fx := hx.free
  have e75 := fun {P0 : List (List Int)} {x0 : Int} h1 h2 => f75 (P0 := P0) (x0 := x0) h1 h2 (m := m) (by omega)
  have en := fun {x0 : Int} => callMut_n (x0 := x0) (m := m) (by omega)
  refine via_enter rfl rfl ?_
  generalize evF tab it m = call at *
  refine via (res := ?r0) ?w0 ?g0
  case w0 =>
    repeat' first
 | (apply s_mov; exact aW)
 | (apply c_nil)
 | (apply s_len; exact aW; exact aI)
 | (apply c_seq)
 | (apply c_reg)
 | (apply c_block)
 | (with_reducible apply k_c)
    exact c_end
  have hfr : ∀ b n : Int, idFreeL [x, .int .i64 b, .int .i64 n] = true := fun b n => by simp [idFreeL, AV.idFree, fx]
  refine loop_P (σ := Nat) (v53 x w) (h53 w) (fun i => i ≤ w.length) (fun i => w.length - i) ?_ _ 0 _ _ (by omega) (by omega) ?_
  rotate_left
  · exact gc_to (vs := [.nilS, .nilS, x, .int .i64 w.length, .int .i64 0]) rfl (by simp [idFreeL, AV.idFree, fx])
  intro i hi K hK
  rcases Nat.eq_zero_or_pos i with rfl | hip
  · show G53 _ _ (evC _ _ _ _ _ _ _ _ (bindEnv _ 0 [.nilS, .nilS, x, .int .i64 w.length, .int .i64 ((0 : Nat) : Int)]) [])
    by_cases hw0 : 0 < w.length
    · have e0 : evE call [] (.call false true 75) [.nilS, .int .i64 (getI w ((0 : Nat) : Int))] = some (.tup [.sl 0 1 0 1, .int .i64 0], [some (.box [.sl 1 1 0 1]), some (.data [.int .i64 (getI w ((0 : Nat) : Int))])]) := en
      have b1 : evE call [some (HO.box [.sl 1 1 0 1]), some (.data [.int .i64 (getI w ((0 : Nat) : Int))])] (.bldB 1 1 [.nilS] [(0, 1)]) [.nilS] = some (.sl 2 1 0 1, [some (HO.box [.sl 1 1 0 1]), some (.data [.int .i64 (getI w ((0 : Nat) : Int))]), some (.box [.nilS])]) := e_bldB1 rfl rfl rfl
      have b2 : ∀ q, evE call [some (HO.box [.sl 1 1 0 1]), some (.data [.int .i64 (getI w ((0 : Nat) : Int))]), some (.box [.nilS])] (.appB 1 q) [.nilS, .sl 2 1 0 1] = some (.sl 3 1 0 1, [some (HO.box [.sl 1 1 0 1]), some (.data [.int .i64 (getI w ((0 : Nat) : Int))]), some (.box [.nilS]), some (.box [.nilS])]) := fun q => e_appB_nil (n := 1) (cs := [.nilS]) rfl rfl (by decide) (by decide)
      have p1 : evP [some (HO.box [.sl 1 1 0 1]), some (.data [.int .i64 (getI w ((0 : Nat) : Int))]), some (.box [.nilS]), some (.box [.nilS])] (.ld false 1) [.ptr 3 (0 + (0 : Int).toNat * 1)] = some .nilS := rfl
      have b3 : ∀ q n, evE call [some (HO.box [.sl 1 1 0 1]), some (.data [.int .i64 (getI w ((0 : Nat) : Int))]), some (.box [.nilS]), some (.box [.nilS])] (.app false 1 q) [.nilS, .rd 1 1 [.int .i64 n]] = some (.sl 4 1 0 1, [some (HO.box [.sl 1 1 0 1]), some (.data [.int .i64 (getI w ((0 : Nat) : Int))]), some (.box [.nilS]), some (.box [.nilS]), some (.data [.int .i64 n])]) := fun q n => e_app_nil rfl (by decide) (by decide)
      have b4 : ∀ n, evE call [some (HO.box [.sl 1 1 0 1]), some (.data [.int .i64 (getI w ((0 : Nat) : Int))]), some (.box [.nilS]), some (.box [.nilS]), some (.data [.int .i64 n])] (.st 1) [.ptr 3 (0 + (0 : Int).toNat * 1), .sl 4 1 0 1] = some (.undef, [some (HO.box [.sl 1 1 0 1]), some (.data [.int .i64 (getI w ((0 : Nat) : Int))]), some (.box [.nilS]), some (.box [.sl 4 1 0 1]), some (.data [.int .i64 n])]) := fun n => rfl
      refine via (res := ?r1) ?w1 ?g1
      case w1 =>
        repeat' first
 | (apply s_mov; exact aW)
 | (apply c_nil)
 | (apply s_lss; exact rfl; all_goals (intro _; try (exfalso; omega)))
 | (apply s_eql; exact rfl; all_goals (intro _; try (exfalso; omega)))
 | (apply s_add; exact rfl; omega)
 | (apply s_en; exact aO; exact e0)
 | (apply s_en; exact aO; exact b1)
 | (apply s_en; exact aO; exact b2 _)
 | (apply s_pn; exact aO; exact p1)
 | (apply s_en; exact aO; exact e_bld1 rfl rfl rfl rfl)
 | (apply s_en; exact aO; exact b3 _ _)
 | (apply s_st; exact aO; exact b4 _)
 | (apply s_idx; exact aW; exact rfl; exact aI; omega)
 | (apply s_idxS; exact rfl; exact rfl; omega)
 | (apply s_ldI; exact rfl; omega)
 | (apply s_pd; exact aW)
 | (apply c_seq)
 | (apply c_reg)
 | (apply c_block)
 | (apply c_skip)
 | (apply c_condT; exact rfl)
 | (with_reducible apply k_c)
        exact rfl
      refine hK 1 _ _ (by omega) (by omega) ?_
      refine gc2 (a := 0) (b := 3) (is := [1]) (js := [4]) (P := [[getI w ((0 : Nat) : Int)]]) (Q := [[((0 : Nat) : Int) + 1]]) ⟨rfl, rfl, fun j i hj => ?_, by decide⟩ ⟨rfl, rfl, fun j i hj => ?_, by decide⟩ (by decide) (by decide) (by decide) (hfr _ _)
      · rcases j with _ | j
        · cases hj; rw [getLL_nat]; rfl
        · simp at hj
      · rcases j with _ | j
        · cases hj; rw [getLL_nat]; rfl
        · simp at hj
    · have hw1 : w.length = 0 := by omega
      refine via (res := ?r2) ?w2 ?g2
      case w2 =>
        repeat' first
 | (apply s_mov; exact aW)
 | (apply c_nil)
 | (apply s_lss; exact rfl; all_goals (intro _; try (exfalso; omega)))
 | (apply c_seq)
 | (apply c_reg)
 | (apply c_exitH)
 | (apply c_ret)
 | (apply c_condF; exact rfl)
 | (apply c_preF; exact aK; exact aF)
 | (with_reducible apply k_c)
        exact rfl
      rw [hw1]
      exact ⟨.tup [.nilS, .nilS], [], rfl, by simp [frzV_tup, idFreeL, AV.idFree, pq, fzLL]⟩
  · obtain ⟨l1, l2, l3, l4⟩ := pq_len w i
    have hpp := pq_pos w hip
    have htab := pq_ok w i
    have hv : v53 x w i = [.sl 0 1 0 (pq w i).1.length, .sl ((pq w i).1.length + 1) 1 0 (pq w i).2.length, x, .int .i64 w.length, .int .i64 (i : Int)] := by unfold v53; rw [if_neg (by omega)]
    have hh : h53 w i = HB (pq w i).1 ++ HBs ((pq w i).1.length + 1) (pq w i).2 := by unfold h53; rw [if_neg (by omega)]
    rw [hv, hh]
    by_cases hiw : i < w.length
    · have hv' : v53 x w (i + 1) = [.sl 0 1 0 (insT (pq w i).1 (getI w (i : Int))).length, .sl ((insT (pq w i).1 (getI w (i : Int))).length + 1) 1 0 (addQ (pq w i).2 (insK (pq w i).1 (getI w (i : Int))) ((i : Int) + 1)).length, x, .int .i64 w.length, .int .i64 ((i : Int) + 1)] := rfl
      have hh' : h53 w (i + 1) = HB (insT (pq w i).1 (getI w (i : Int))) ++ HBs ((insT (pq w i).1 (getI w (i : Int))).length + 1) (addQ (pq w i).2 (insK (pq w i).1 (getI w (i : Int))) ((i : Int) + 1)) := rfl
      have hK' := hK (i + 1)
      rw [hv', hh'] at hK'
      clear hK hv hh hv' hh'
      have l1' := ins_len (pq w i).1 (getI w (i : Int))
      generalize (pq w i).1 = P at *
      generalize (pq w i).2 = Q at *
      obtain ⟨a', is', R, hc, lb', pl, hl⟩ := e75 (P0 := P) (x0 := getI w (i : Int)) (by omega) (fun r hr => ⟨(l3 r hr).1, by have := (l3 r hr).2; omega⟩)
      obtain ⟨H', a2, is2, hm2, lb2, hlen, hkeep, hnew⟩ := callMut_lb (lb_2a P Q) (by simp; omega) (rest := [.int .i64 (getI w (i : Int))]) rfl hc lb' pl hl
      have hl0 : (HB P ++ HBs (P.length + 1) Q).length = P.length + 1 + (Q.length + 1) := by simp [hbs_len]
      have lbQ : LB H' (P.length + 1) (List.range' (P.length + 2) Q.length) Q := (lb_2b P Q).keep fun z hz => hkeep z (by
        have := (lb_2b P Q).lt z hz; exact this) (by
        rcases List.mem_cons.1 hz with rfl | hz
        · simp [List.mem_range'_1]; omega
        · have := List.mem_range'_1.1 hz; simp [List.mem_range'_1]; omega)
      have hdis : ∀ z ∈ a2 :: is2, z ∉ (P.length + 1) :: List.range' (P.length + 2) Q.length := fun z hz hz' => by
        have hzlt := (lb_2b P Q).lt z hz'
        rcases hnew z hz with h | h
        · have h1 : z ≤ P.length := by
            rcases List.mem_cons.1 h with rfl | h
            · omega
            · have := List.mem_range'_1.1 h; omega
          rcases List.mem_cons.1 hz' with rfl | hz'
          · omega
          · have := List.mem_range'_1.1 hz'; omega
        · omega
      have em : evE call (HB P ++ HBs (P.length + 1) Q) (.call false true 75) [.sl 0 1 0 P.length, .int .i64 (getI w (i : Int))] = some (.tup [.sl a2 1 0 (insT P (getI w (i : Int))).length, .int .i64 (insK P (getI w (i : Int)) : Int)], H') := hm2
      by_cases hkQ : insK P (getI w (i : Int)) < Q.length
      · have hidx : (List.range' (P.length + 2) Q.length)[insK P (getI w (i : Int))]? = some (P.length + 2 + insK P (getI w (i : Int))) := rngn hkQ
        obtain ⟨a1, a2x, a3, a4, a5⟩ := lbQ.app hidx (x := (i : Int) + 1) (by have := l4 (getLL Q (insK P (getI w (i : Int)) : Int)) (by rw [getLL_get hkQ]; exact List.getElem_mem _); omega)
        have p1 := lbQ.ld hidx
        generalize hk : insK P (getI w (i : Int)) = k at *
        have p1' : evP H' (.ld false 1) [.ptr (P.length + 1) (0 + ((k : Nat) : Int).toNat * 1)] = some (.sl (P.length + 2 + k) 1 0 (getLL Q (k : Int)).length) := by simpa using p1
        have a2' : evE call (H'.set (P.length + 2 + k) none ++ [some (HO.data (iL (getLL Q (k : Int) ++ [(i : Int) + 1])))]) (.st 1) [.ptr (P.length + 1) (0 + ((k : Nat) : Int).toNat * 1), .sl H'.length 1 0 ((getLL Q (k : Int)).length + 1)] = some (.undef, growH H' (P.length + 1) (List.range' (P.length + 2) Q.length) Q k (P.length + 2 + k) ((i : Int) + 1)) := by simpa using a2x call
        refine via (res := ?r3) ?w3 ?g3
        case w3 =>
          repeat' first
 | (apply s_mov; exact aW)
 | (apply c_nil)
 | (apply s_lss; exact rfl; all_goals (intro _; try (exfalso; omega)))
 | (apply s_eql; exact rfl; all_goals (intro _; try (exfalso; omega)))
 | (apply s_add; exact rfl; omega)
 | (apply s_en; exact aO; exact em)
 | (apply s_pn; exact aO; exact p1')
 | (apply s_en; exact aO; exact e_bld1 rfl rfl rfl rfl)
 | (apply s_en; exact aO; exact a1 _ _)
 | (apply s_st; exact aO; exact a2')
 | (apply s_lenSl; exact rfl)
 | (apply s_idx; exact aW; exact rfl; exact aI; omega)
 | (apply s_idxS; exact rfl; exact rfl; omega)
 | (apply s_ldI; exact rfl; omega)
 | (apply s_pd; exact aW)
 | (apply c_seq)
 | (apply c_reg)
 | (apply c_block)
 | (apply c_skip)
 | (apply c_condT; exact rfl)
 | (apply c_condF; exact rfl)
 | (with_reducible apply k_c)
          exact rfl
        have lbP : LB (growH H' (P.length + 1) (List.range' (P.length + 2) Q.length) Q k (P.length + 2 + k) ((i : Int) + 1)) a2 is2 (insT P (getI w (i : Int))) := lb2.keep fun z hz => a5 z (hdis z hz) (lb2.lt z hz)
        have had : addQ Q k ((i : Int) + 1) = Q.set k (getLL Q (k : Int) ++ [(i : Int) + 1]) := by unfold addQ; rw [if_pos hkQ]
        refine hK' _ _ (by omega) (by omega) ?_
        rw [had]
        have hg := gc2 lbP a3 (fun z hz hz' => ?_) (by rw [lb2.ln, l1'.1]; split <;> omega) (by simp; omega) (hfr (w.length : Int) ((i : Int) + 1))
        · rw [List.length_set] at hg ⊢
          exact hg
        have hzl := lb2.lt z hz'
        rcases List.mem_cons.1 hz with rfl | hz
        · exact hdis _ hz' (by simp)
        · rcases List.mem_or_eq_of_mem_set hz with hz | rfl
          · exact hdis _ hz' (by simp [hz])
          · omega
      · obtain ⟨a1, a2x, p1, a3, a4, a5, a6⟩ := lbQ.push (n := (i : Int) + 1) (by omega)
        have hkQ' : insK P (getI w (i : Int)) = Q.length := by have := l1'.2; omega
        have had : addQ Q (insK P (getI w (i : Int))) ((i : Int) + 1) = Q ++ [[(i : Int) + 1]] := by unfold addQ; rw [if_neg hkQ]
        rw [hkQ'] at em
        rw [had] at hK'
        have p1' : evP (H'.set (P.length + 1) none ++ [some (HO.box [.nilS]), some (.box (refs (List.range' (P.length + 2) Q.length) (Q.map iL) ++ [.nilS]))]) (.ld false 1) [.ptr (H'.length + 1) (0 + ((Q.length : Nat) : Int).toNat * 1)] = some .nilS := by simpa using p1
        have a4' : evE call (H'.set (P.length + 1) none ++ [some (HO.box [.nilS]), some (.box (refs (List.range' (P.length + 2) Q.length) (Q.map iL) ++ [.nilS])), some (.data [.int .i64 ((i : Int) + 1)])]) (.st 1) [.ptr (H'.length + 1) (0 + ((Q.length : Nat) : Int).toNat * 1), .sl (H'.length + 2) 1 0 1] = some (.undef, pushH H' (P.length + 1) (List.range' (P.length + 2) Q.length) Q ((i : Int) + 1)) := by simpa using a4 call
        refine via (res := ?r4) ?w4 ?g4
        case w4 =>
          repeat' first
 | (apply s_mov; exact aW)
 | (apply c_nil)
 | (apply s_lss; exact rfl; all_goals (intro _; try (exfalso; omega)))
 | (apply s_eql; exact rfl; all_goals (intro _; try (exfalso; omega)))
 | (apply s_add; exact rfl; omega)
 | (apply s_en; exact aO; exact em)
 | (apply s_en; exact aO; exact a1 _)
 | (apply s_en; exact aO; exact a2x _ _)
 | (apply s_pn; exact aO; exact p1')
 | (apply s_en; exact aO; exact e_bld1 rfl rfl rfl rfl)
 | (apply s_en; exact aO; exact a3 _ _)
 | (apply s_st; exact aO; exact a4')
 | (apply s_lenSl; exact rfl)
 | (apply s_idx; exact aW; exact rfl; exact aI; omega)
 | (apply s_idxS; exact rfl; exact rfl; omega)
 | (apply s_ldI; exact rfl; omega)
 | (apply s_pd; exact aW)
 | (apply c_seq)
 | (apply c_reg)
 | (apply c_block)
 | (apply c_skip)
 | (apply c_condT; exact rfl)
 | (with_reducible apply k_c)
          exact rfl
        have lbP : LB (pushH H' (P.length + 1) (List.range' (P.length + 2) Q.length) Q ((i : Int) + 1)) a2 is2 (insT P (getI w (i : Int))) := lb2.keep fun z hz => a6 z (hdis z hz) (lb2.lt z hz)
        have hg := gc2 lbP a5 (fun z hz hz' => by
          have hzl := lb2.lt z hz'
          rcases List.mem_cons.1 hz with rfl | hz
          · omega
          · rcases List.mem_append.1 hz with hz | hz
            · exact hdis _ hz' (by simp [hz])
            · simp at hz; omega) (by rw [lb2.ln, l1'.1]; split <;> omega) (by simp; omega) (hfr (w.length : Int) ((i : Int) + 1))
        refine hK' _ _ (by omega) (by omega) ?_
        rw [List.length_append] at hg ⊢
        exact hg
    · obtain rfl : i = w.length := by omega
      have g2 : gc 0 [.sl 0 1 0 (pq w w.length).1.length, .sl ((pq w w.length).1.length + 1) 1 0 (pq w w.length).2.length] (HB (pq w w.length).1 ++ HBs ((pq w w.length).1.length + 1) (pq w w.length).2) = some ([.sl 0 1 0 (pq w w.length).1.length, .sl ((pq w w.length).1.length + 1) 1 0 (pq w w.length).2.length], HB (pq w w.length).1 ++ HBs ((pq w w.length).1.length + 1) (pq w w.length).2) :=
        gc2 (gs := []) (lb_2a _ _) (lb_2b _ _) (fun z hz hz' => by
          have h1 := (lb_2b (pq w w.length).1 (pq w w.length).2).nd
          rcases List.mem_cons.1 hz with rfl | hz
          · rcases List.mem_cons.1 hz' with h | h
            · omega
            · have := List.mem_range'_1.1 h; omega
          · have := List.mem_range'_1.1 hz
            rcases List.mem_cons.1 hz' with h | h
            · omega
            · have := List.mem_range'_1.1 h; omega) (by simp; omega) (by simp; omega) rfl
      have g3 := gc2t (lb_2a (pq w w.length).1 (pq w w.length).2) (lb_2b _ _) (fun z hz hz' => by
          rcases List.mem_cons.1 hz with rfl | hz
          · rcases List.mem_cons.1 hz' with h | h
            · omega
            · have := List.mem_range'_1.1 h; omega
          · have := List.mem_range'_1.1 hz
            rcases List.mem_cons.1 hz' with h | h
            · omega
            · have := List.mem_range'_1.1 h; omega) (by simp; omega) (by simp; omega)
      refine via (res := ?r5) ?w5 ?g5
      case w5 =>
        repeat' first
 | (apply s_mov; exact aW)
 | (apply c_nil)
 | (apply s_lss; exact rfl; all_goals (intro _; try (exfalso; omega)))
 | (apply c_pre; exact g2)
 | (apply c_seq)
 | (apply c_reg)
 | (apply c_exitH)
 | (apply c_ret)
 | (apply c_condF; exact rfl)
 | (with_reducible apply k_c)
        exact rfl
      have hP0 : (pq w w.length).1 ≠ [] := fun e => by rw [e] at hpp; simp at hpp
      have hQ0 : (pq w w.length).2 ≠ [] := fun e => by rw [e] at l2; simp at l2; omega
      refine fin53 rfl rfl g3 rfl (lb_frz (lb_2a _ _) (by omega) (fun r hr => (htab.1.rows r hr).2) hP0 (by omega)) (lb_frz (lb_2b _ _) (by omega) (fun r hr hr0 => ?_) hQ0 (by omega))
      subst hr0
      have h1 : 0 ∈ lens (pq w w.length).2 := List.mem_map.2 ⟨[], hr, rfl⟩
      rw [← htab.2.1] at h1
      obtain ⟨r, hr, e⟩ := List.mem_map.1 h1
      exact (htab.1.rows r hr).2 (List.length_eq_zero_iff.1 e)
end Go.AM.Tb
