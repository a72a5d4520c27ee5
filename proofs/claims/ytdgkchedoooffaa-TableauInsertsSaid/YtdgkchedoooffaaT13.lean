/- A part of the proof: T13. -/
import Derived.Test.YtdgkchedoooffaaT12
set_option linter.unusedVariables false
set_option linter.unusedSimpArgs false
set_option linter.unusedSectionVars false
namespace Go.AM.Tb
set_option maxHeartbeats 4000000
theorem c70 {x : AV} {P : List (List Int)} (hx : IsLL x P) (hn : P.length ≤ 90) (hne : ∀ r ∈ P, r ≠ [] ∧ r.length ≤ 90) {m : Nat} (hm : 100 ≤ m) (H : Heap) : callPure (evF tab it m) false 70 [x] H = some (oV H.length P, H ++ oH H.length P) := by
  have ff : idFreeL [x] = true := by simp [idFreeL, hx.free]
  rcases Nat.eq_zero_or_pos P.length with h0 | h0
  · have e0 : ∀ a, oV a P = .nilS := fun a => if_pos h0
    have e1 : ∀ a, oH a P = [] := fun a => if_pos h0
    simp [callPure, frzL_free H 140 [x] (by simp) ff, f70 hx hn hne hm, ff, shiftH, AV.ren, renH, renO, e0, e1]
  · have hs := renL_shift (n := H.length) P.length 1 (P.map iL)
    rw [oV_pos h0, oH_pos h0]
    simp only [callPure, frzL_free H 140 [x] (by simp) ff, f70 hx hn hne hm, ff, oV_pos h0, oH_pos h0, Option.bind_some, Bool.true_or, if_true, Bool.false_eq_true, if_false, shiftH, AV.ren, Option.map_some, HBs, renH, renO, hs, renH_rows, Nat.add_zero, Nat.zero_add]
theorem e_bldS1 {call : CallF} {H : Heap} {v : Int} : evE call H (.bldS true false 1 1 [.int .i64 0] [(0, 1)]) [.int .i64 v] = some (.sl H.length 1 0 1, H ++ [some (.data (iL [v]))]) := by
  simp [evE, repl, fillParts, AV.cells, AV.solid, putPart, oneL, AV.one, idFreeL, AV.idFree, newRow, iL]
theorem fgt_at {y : Int} {r : List Int} (h : fgt y r < r.length) : y < getI r (fgt y r : Nat) := by
  obtain ⟨L, z, M, e1, e2, e3, e4⟩ := fgt_split y r h
  rw [← e2, getI_nat]
  conv => rhs; rw [e1]
  rw [getD_split]
  exact e4
theorem gc1t {H : Heap} {a : Nat} {is : List Nat} {P : List (List Int)} {c : Int} (h : LB H a is P) (hk : is.length ≤ 100) {n : Nat} (hn : P.length = n) :
    gc 0 [.tup [.sl a 1 0 n, .int .i64 c]] H = some ([.tup [.sl 0 1 0 n, .int .i64 c]], HB P) := by
  subst hn
  have hφ : nodupB (a :: is) = true := nodupB_iff.2 h.nd
  have q1 : posOf (a :: is) a = some 0 := posOf_of_get hφ (j := 0) rfl
  have pr : renL (posOf (a :: is)) (refs is (P.map iL)) = some (refs (List.range' 1 is.length) (P.map iL)) := renL_refs hφ is _ 1 h.lnm fun j i hj => by rw [Nat.add_comm]; exact hj
  refine gc_of (φ := a :: is) ?_ hφ ?_ h.pick ?_
  · have e : reach H 400 (rangeL 0 []) (roots H (rangeL 0 []) ++ [.tup [.sl a 1 0 P.length, .int .i64 c]]) = reach H 399 [] (.sl a 1 0 P.length :: [.int .i64 c]) := by
      rw [show reach H 400 (rangeL 0 []) (roots H (rangeL 0 []) ++ [.tup [.sl a 1 0 P.length, .int .i64 c]]) = reach H 400 [] [.tup [.sl a 1 0 P.length, .int .i64 c]] from rfl, reach_tup]
      simp [idFreeL, AV.idFree]
    rw [e, h.reach 399 (by omega) [] (by simp), reach_free _ _ _ _ rfl]
    rfl
  · simp only [renL, AV.ren, q1, idFreeL, AV.idFree, Bool.false_and, Bool.false_eq_true, if_false, Option.map_some, Option.bind_some]
  · simp [renH, renO, pr, renH_rows, HBs, h.ln]
def G54 (T : List (List Int)) (K : Nat) (r : R) : Prop := ∃ v R, r = some (v, R) ∧ frzV R 140 v = some (.tup [fzLL T, .int .i64 (K : Int)])
theorem fin54 {T : List (List Int)} {K : Nat} {env : Env} {H : Heap} {a n : Nat} {is : List Nat} {s1 s2 : Nat} (h1 : look env s1 = .sl a 1 0 n) (hn : T.length = n) (h2 : look env s2 = .int .i64 (K : Int)) (h : LB H a is T) (hl : T.length ≤ 100) (hne : ∀ r ∈ T, r ≠ []) (h0 : T ≠ []) : G54 T K (finish 0 [.t s1, .t s2] env H) := by
  have g := gc1t (c := (K : Int)) h (by rw [h.ln]; exact hl) hn
  have lb := lb_hb T []
  rw [List.append_nil] at lb
  refine ⟨.tup [.sl 0 1 0 n, .int .i64 (K : Int)], HB T, ?_, ?_⟩
  · simp only [finish, ress, resOf, h1, h2, tupOf, Option.bind_some, Option.map_some, g]
    rfl
  · rw [show (140 : Nat) = 139 + 1 from rfl, frzV_tup]
    simp only [idFreeL, AV.idFree, Bool.false_and, Bool.false_eq_true, if_false]
    rw [show (139 : Nat) = 138 + 1 from rfl, frzL_cons, show (138 : Nat) = 137 + 1 from rfl, frzL_cons, show (137 : Nat) = 136 + 1 from rfl, frzL_nil]
    rw [← hn, lb_frz lb hl hne h0 (by omega), frzV_int]
    rfl
theorem f54 {x : AV} {P0 : List (List Int)} {x0 : Int} (hx : IsLL x P0) (hn : P0.length ≤ 90) (hs : ∀ r ∈ P0, Srt r ∧ r ≠ [] ∧ r.length ≤ 90) {m : Nat} (hm : 200 ≤ m) : G54 (insT P0 x0) (insK P0 x0) (evF tab it m 54 [x, .int .i64 x0] []) := by
  obtain ⟨m, rfl⟩ : ∃ j, m = j + 1 := ⟨m - 1, by omega⟩
  have fx := hx.free
  have e70 := c70 hx hn (fun r hr => (hs r hr).2) (m := m) (by omega) []
  have hne := srt_ins P0 x0 (fun r hr => ⟨(hs r hr).1, (hs r hr).2.1⟩)
  have hl := (ins_len P0 x0).1
  have hl2 := (ins_len P0 x0).2
  have hT0 : insT P0 x0 ≠ [] := fun e => by rw [e] at hl; simp at hl; split at hl <;> omega
  have hTl : (insT P0 x0).length ≤ 100 := by rw [hl]; split <;> omega
  refine via_enter rfl rfl ?_
  generalize evF tab it m = call at *
  rcases Nat.eq_zero_or_pos P0.length with h0 | h0
  · have e0 : ∀ a, oV a P0 = .nilS := fun a => if_pos h0
    have e1 : ∀ a, oH a P0 = [] := fun a => if_pos h0
    rw [e0, e1] at e70
    refine via (res := ?r0) ?w0 ?g0
    case w0 =>
      repeat' first
 | (apply s_mov; exact aW)
 | (apply c_nil)
 | (apply s_cn; exact aO; exact e70)
 | (apply c_seq)
 | (apply c_reg)
 | (apply c_block)
 | (with_reducible apply k_c)
      exact c_end
    refine loop_P (σ := Unit) (fun _ => [.nilS, .int .i64 x0, .int .i64 0]) (fun _ => []) (fun _ => True) (fun _ => 0) ?_ _ () _ _ trivial (by omega) (gc_to rfl rfl)
    intro _ _ K hK
    have b0 : ∀ call, evE call [] (.bldS true false 1 1 [.int .i64 0] [(0, 1)]) [.int .i64 x0] = some (.sl 0 1 0 1, [some (.data (iL [x0]))]) := fun call => by
      simp [evE, repl, fillParts, AV.cells, AV.solid, putPart, oneL, AV.one, idFreeL, AV.idFree, newRow, iL]
    obtain ⟨c1, c2, c3, c4⟩ := lb_growN [] [x0]
    refine via (res := ?r1) ?w1 ?g1
    case w1 =>
      repeat' first
 | (apply s_mov; exact aW)
 | (apply c_nil)
 | (apply s_lss; exact rfl; all_goals (intro _; try (exfalso; omega)))
 | (apply s_en; exact aO; exact b0 _)
 | (apply s_en; exact aO; exact c1 _)
 | (apply s_en; exact aO; exact c2 _ _)
 | (apply s_pd; exact aW)
 | (apply c_seq)
 | (apply c_reg)
 | (apply c_exitH)
 | (apply c_ret)
 | (apply c_condF; exact rfl)
 | (apply c_preF; exact aK; exact aF)
 | (with_reducible apply k_c)
      exact rfl
    have hP : P0 = [] := List.length_eq_zero_iff.1 h0
    subst hP
    exact fin54 rfl rfl rfl c3 hTl (fun r hr => (hne r hr).2) hT0
  · rw [oV_pos h0, oH_pos h0] at e70
    have hP0 : P0 ≠ [] := fun e => by rw [e] at h0; simp at h0
    refine via (res := ?r2) ?w2 ?g2
    case w2 =>
      repeat' first
 | (apply s_mov; exact aW)
 | (apply c_nil)
 | (apply s_cn; exact aO; exact e70)
 | (apply c_seq)
 | (apply c_reg)
 | (apply c_block)
 | (with_reducible apply k_c)
      exact c_end
    generalize hG : G54 (insT P0 x0) (insK P0 x0) = G
    have lb0 := lb_hb P0 []
    rw [List.append_nil] at lb0
    refine loop_P (G := G) (σ := Nat × List (List Int) × Int) (fun s => [.sl 0 1 0 s.2.1.length, .int .i64 s.2.2, .int .i64 (s.1 : Int)]) (fun s => HB s.2.1)
      (fun s => s.1 ≤ s.2.1.length ∧ s.2.1.length = P0.length ∧ (∀ r ∈ s.2.1, Srt r ∧ r ≠ [] ∧ r.length ≤ 90) ∧ s.2.1.take s.1 ++ insT (s.2.1.drop s.1) s.2.2 = insT P0 x0 ∧ s.1 + insK (s.2.1.drop s.1) s.2.2 = insK P0 x0) (fun s => s.2.1.length - s.1) ?_ _ (0, P0, x0) _ _ ⟨by omega, rfl, hs, by simp, by simp⟩ (by dsimp only; omega) ?_
    rotate_left
    · exact gc1p (pre := []) lb0 (by simp; omega) rfl (by simp) rfl rfl
    rintro ⟨k, P, y⟩ ⟨hk, hPl, hrs, hT, hK⟩ K hKK
    dsimp only at hk hPl hrs hT hK hKK ⊢
    have lb := lb_hb P []
    rw [List.append_nil] at lb
    have hgc : ∀ gs : List AV, idFreeL gs = true → gc 0 (.sl 0 1 0 P.length :: gs) (HB P) = some (.sl 0 1 0 P.length :: gs, HB P) := fun gs hg => gc1p (pre := []) lb (by simp; omega) rfl (by simp) hg rfl
    by_cases hkP : k < P.length
    · have hidx : (List.range' 1 P.length)[k]? = some (1 + k) := rngn hkP
      obtain ⟨hsr, hr0, hrl⟩ := hrs (getLL P (k : Int)) (by rw [getLL_get hkP]; exact List.getElem_mem _)
      have p1 : evP (HB P) (.ld false 1) [.ptr 0 (0 + ((k : Nat) : Int).toNat * 1)] = some (.sl (1 + k) 1 0 (getLL P (k : Int)).length) := by
        have := lb.ld hidx
        simpa using this
      refine via (res := ?r3) ?w3 ?g3
      case w3 =>
        repeat' first
 | (apply s_mov; exact aW)
 | (apply c_nil)
 | (apply s_lss; exact rfl; all_goals (intro _; try (exfalso; omega)))
 | (apply s_lenSl; exact rfl)
 | (apply c_seq)
 | (apply c_reg)
 | (apply c_block)
 | (apply c_skip)
 | (apply c_condT; exact rfl)
 | (with_reducible apply k_c)
        exact c_end
      refine loop_P (G := G) (σ := Nat) (fun q => [.sl 0 1 0 P.length, .int .i64 y, .int .i64 (k : Int), .int .i64 (q : Int)]) (fun _ => HB P) (fun q => q ≤ fgt y (getLL P (k : Int))) (fun q => (getLL P (k : Int)).length - q) ?_ _ 0 _ _ (by omega) (by omega) (hgc _ rfl)
      intro q hq K2 hK2
      have hfl := fgt_le y (getLL P (k : Int))
      by_cases hqf : q < fgt y (getLL P (k : Int))
      · have hlo := fgt_lo (x := y) _ _ hqf
        have p2 : evP (HB P) (.ld false 1) [.ptr (1 + k) (0 + ((q : Nat) : Int).toNat * 1)] = some (.int .i64 (getI (getLL P (k : Int)) (q : Int))) := by
          have := lb.get hidx (k := q) (by omega)
          simpa using this
        refine via (res := ?r4) ?w4 ?g4
        case w4 =>
          repeat' first
 | (apply s_mov; exact aW)
 | (apply s_gT; exact rfl)
 | (apply c_nil)
 | (apply s_pickT; exact rfl; exact aW)
 | (apply s_lss; exact rfl; all_goals (intro _; try (exfalso; omega)))
 | (apply s_leq; exact rfl; all_goals (intro _; try (exfalso; omega)))
 | (apply s_add; exact rfl; omega)
 | (apply s_pn; exact aO; exact p1)
 | (apply s_pn; exact aO; exact p2)
 | (apply s_lenSl; exact rfl)
 | (apply s_idxS; exact rfl; exact rfl; omega)
 | (apply c_seq)
 | (apply c_reg)
 | (apply c_block)
 | (apply c_skip)
 | (apply c_condT; exact rfl)
 | (with_reducible apply k_c)
          exact rfl
        exact hK2 (q + 1) _ _ (by omega) (by omega) (hgc _ rfl)
      · obtain rfl : q = fgt y (getLL P (k : Int)) := by omega
        by_cases hqe : fgt y (getLL P (k : Int)) < (getLL P (k : Int)).length
        · obtain ⟨T1, K1⟩ := ins_more hkP hqe
          have s1 := lb.st hidx (k := fgt y (getLL P (k : Int))) (x := y) hqe
          have p5 := lb.get hidx (k := fgt y (getLL P (k : Int))) hqe
          have hgt := fgt_at hqe
          obtain ⟨L, z, M, e1, e2, e3, e4⟩ := fgt_split y (getLL P (k : Int)) hqe
          have hsr' : Srt ((getLL P (k : Int)).set (fgt y (getLL P (k : Int))) y) := by
            rw [← e2]
            conv => arg 1; arg 1; rw [e1]
            rw [set_split]
            rw [e1] at hsr
            exact srt_set hsr e3 e4
          clear e1 e2 e3 e4
          generalize hfg : fgt y (getLL P (k : Int)) = f at *
          have p2 : evP (HB P) (.ld false 1) [.ptr (1 + k) (0 + ((f : Nat) : Int).toNat * 1)] = some (.int .i64 (getI (getLL P (k : Int)) (f : Int))) := by simpa using p5
          have q6 : evE call (HB P) (.st 1) [.ptr (1 + k) (0 + ((f : Nat) : Int).toNat * 1), .int .i64 y] = some (.undef, (HB P).set (1 + k) (some (.data (iL ((getLL P (k : Int)).set f y))))) := by simpa using s1.1 call
          have g6 : ∀ gs, idFreeL gs = true → gc 0 (.sl 0 1 0 P.length :: gs) ((HB P).set (1 + k) (some (.data (iL ((getLL P (k : Int)).set f y))))) = some (.sl 0 1 0 P.length :: gs, HB (P.set k ((getLL P (k : Int)).set f y))) := fun gs hg => gc1p (pre := []) s1.2 (by simp; omega) rfl (by simp) hg (by simp)
          refine via (res := ?r5) ?w5 ?g5
          case w5 =>
            repeat' first
 | (apply s_mov; exact aW)
 | (apply s_gT; exact rfl)
 | (apply c_nil)
 | (apply s_pickT; exact rfl; exact aW)
 | (apply s_lss; exact rfl; all_goals (intro _; try (exfalso; omega)))
 | (apply s_leq; exact rfl; all_goals (intro _; try (exfalso; omega)))
 | (apply s_eql; exact rfl; all_goals (intro _; try (exfalso; omega)))
 | (apply s_add; exact rfl; omega)
 | (apply s_pn; exact aO; exact p1)
 | (apply s_pn; exact aO; exact p2)
 | (apply s_st; exact aO; exact q6)
 | (apply c_pre; exact hgc _ rfl)
 | (apply c_pre; exact g6 _ rfl)
 | (apply s_lenSl; exact rfl)
 | (apply s_idxS; exact rfl; exact rfl; omega)
 | (apply c_seq)
 | (apply c_reg)
 | (apply c_exitH)
 | (apply c_skip)
 | (apply c_condF; exact rfl)
 | (with_reducible apply k_c)
            exact rfl
          have lb' := lb_hb (P.set k ((getLL P (k : Int)).set f y)) []
          rw [List.append_nil] at lb'
          refine hKK (k + 1, P.set k ((getLL P (k : Int)).set f y), getI (getLL P (k : Int)) (f : Int)) _ _ ⟨by dsimp only; simp; omega, by dsimp only; simpa using hPl, fun r hr => ?_, by rw [← hT, T1], by rw [← hK, K1]; dsimp only; omega⟩ (by dsimp only; simp; omega) ?_
          · rcases List.mem_or_eq_of_mem_set hr with hr | rfl
            · exact hrs r hr
            · exact ⟨hsr', by simpa using hr0, by simpa using hrl⟩
          · dsimp only
            rw [List.length_set]
            exact gc1p (pre := []) lb' (by simp; omega) rfl (by simp) rfl (by simp)
        · obtain ⟨T1, K1⟩ := ins_stop hkP hqe
          have hfe : fgt y (getLL P (k : Int)) = (getLL P (k : Int)).length := by omega
          rw [hfe]
          obtain ⟨a1, a2, a3, a4, a5⟩ := lb.app hidx (x := y) (by omega)
          have a2' : evE call ((HB P).set (1 + k) none ++ [some (HO.data (iL (getLL P (k : Int) ++ [y])))]) (.st 1) [.ptr 0 (0 + ((k : Nat) : Int).toNat * 1), .sl (HB P).length 1 0 ((getLL P (k : Int)).length + 1)] = some (.undef, growH (HB P) 0 (List.range' 1 P.length) P k (1 + k) y) := by simpa using a2 call
          refine via (res := ?r6) ?w6 ?g6
          case w6 =>
            repeat' first
 | (apply s_mov; exact aW)
 | (apply s_gF; exact rfl)
 | (apply c_nil)
 | (apply s_pickF; exact rfl; exact aW)
 | (apply s_lss; exact rfl; all_goals (intro _; try (exfalso; omega)))
 | (apply s_eql; exact rfl; all_goals (intro _; try (exfalso; omega)))
 | (apply s_pn; exact aO; exact p1)
 | (apply s_en; exact aO; exact e_bld1 rfl rfl rfl rfl)
 | (apply s_en; exact aO; exact a1 _ _)
 | (apply s_st; exact aO; exact a2')
 | (apply c_pre; exact hgc _ rfl)
 | (apply s_lenSl; exact rfl)
 | (apply s_idxS; exact rfl; exact rfl; omega)
 | (apply c_seq)
 | (apply c_reg)
 | (apply c_exitH)
 | (apply c_ret)
 | (apply c_condT; exact rfl)
 | (apply c_condF; exact rfl)
 | (with_reducible apply k_c)
            exact rfl
          rw [← hT, T1] at hTl hne hT0
          rw [← hG, ← hT, ← hK, T1, K1, Nat.add_zero]
          exact fin54 rfl (by simp) rfl a3 hTl (fun r hr => (hne r hr).2) hT0
    · obtain rfl : k = P.length := by omega
      have hT1 : insT P0 x0 = P ++ [[y]] := by rw [← hT]; simp [insT]
      have hK1 : insK P0 x0 = P.length := by rw [← hK]; simp [insK]
      rw [hT1] at hTl hne hT0
      rw [← hG, hT1, hK1]
      obtain ⟨c1, c2, c3, c4⟩ := lb.grow (r := [y]) (by omega)
      have b0 : evE call (HB P) (.bldS true false 1 1 [.int .i64 0] [(0, 1)]) [.int .i64 y] = some (.sl (HB P).length 1 0 1, HB P ++ [some (.data (iL [y]))]) := e_bldS1
      refine via (res := ?r7) ?w7 ?g7
      case w7 =>
        repeat' first
 | (apply s_mov; exact aW)
 | (apply c_nil)
 | (apply s_lss; exact rfl; all_goals (intro _; try (exfalso; omega)))
 | (apply s_en; exact aO; exact b0)
 | (apply s_en; exact aO; exact c1 _)
 | (apply s_en; exact aO; exact c2 _ _)
 | (apply c_pre; exact hgc _ rfl)
 | (apply s_lenSl; exact rfl)
 | (apply c_seq)
 | (apply c_reg)
 | (apply c_exitH)
 | (apply c_ret)
 | (apply c_condF; exact rfl)
 | (with_reducible apply k_c)
        exact rfl
      exact fin54 rfl (by simp) rfl c3 hTl (fun r hr => (hne r hr).2) hT0
theorem c54 {x : AV} {P0 : List (List Int)} {x0 : Int} (hx : IsLL x P0) (hn : P0.length ≤ 90) (hs : ∀ r ∈ P0, Srt r ∧ r ≠ [] ∧ r.length ≤ 90) {m : Nat} (hm : 200 ≤ m) (H : Heap) : callPure (evF tab it m) true 54 [x, .int .i64 x0] H = some (.tup [fzLL (insT P0 x0), .int .i64 (insK P0 x0 : Int)], H) := by
  obtain ⟨v, R, e1, e2⟩ := f54 (x0 := x0) hx hn hs hm
  exact callPure_frz (by simp [idFreeL, AV.idFree, hx.free]) (by simp) e1 e2
theorem c53 {x : AV} {w : List Int} (hx : IsL x w) (hw : w.length ≤ 61) {m : Nat} (hm : 2100 ≤ m) (H : Heap) : callPure (evF tab it m) true 53 [x] H = some (.tup [fzLL (pq w w.length).1, fzLL (pq w w.length).2], H) := by
  obtain ⟨v, R, e1, e2⟩ := f53 hx hw hm
  exact callPure_frz (by simp [idFreeL, hx.free]) (by simp) e1 e2
end Go.AM.Tb
