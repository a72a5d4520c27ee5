/- A part of the proof: T29. -/
import Derived.Test.YtdgkchedoooffaaT25
import Derived.Test.YtdgkchedoooffaaT28
set_option linter.unusedVariables false
set_option linter.unusedSimpArgs false
set_option linter.unusedSectionVars false
namespace Go.AM.Tb
set_option maxHeartbeats 4000000
theorem gcHB {pre gs : List AV} {T : List (List Int)} {n : Nat} (hT : T.length = n) (hn : n ≤ 90) (hp : idFreeL pre = true) (hpl : pre.length ≤ 20) (hg : idFreeL gs = true) : gc 0 (pre ++ .sl 0 1 0 n :: gs) (HB T) = some (pre ++ .sl 0 1 0 n :: gs, HB T) := by
  have lb := lb_hb T []
  rw [List.append_nil] at lb
  exact gc1p lb (by simp; omega) hp hpl hg hT
theorem hb_set {P : List (List Int)} {i : Nat} {r : List Int} (hi : i < P.length) (hr : r.length = (getLL P (i : Int)).length) : (HB P).set (1 + i) (some (.data (iL r))) = HB (P.set i r) := by
  show (HBs 0 P).set (1 + i) _ = HBs 0 (P.set i r)
  unfold HBs
  rw [Nat.add_comm 1 i, List.set_cons_succ, List.length_set]
  have h1 : refs (List.range' (0 + 1) P.length) ((P.set i r).map iL) = refs (List.range' (0 + 1) P.length) (P.map iL) := by
    refine refs_lens _ ?_
    refine List.ext_getElem (by simp) fun j h1 h2 => ?_
    simp only [List.length_map, List.length_set] at h1 h2
    simp only [List.getElem_map, iL_len]
    by_cases e : j = i
    · subst e
      rw [getLL_nat] at hr
      simp [List.getD, hi] at hr
      simp [hr]
    · rw [List.getElem_set_ne (Ne.symm e)]
  rw [h1]
  congr 1
  simp [rowsH, List.map_set]
def G31 (T : List (List Int)) (r : R) : Prop := ∃ v R w, r = some (v, R) ∧ frzV R 140 v = some w ∧ IsLL w T
theorem fin31 {T : List (List Int)} {env : Env} {n : Nat} {s1 : Nat} (h1 : look env s1 = .sl 0 1 0 n) (hn : T.length = n) (hl : n ≤ 90) : G31 T (finish 0 [.t s1] env (HB T)) := by
  have g := gcHB (pre := []) (gs := []) hn hl rfl (by simp) rfl
  have lb := lb_hb T []
  rw [List.append_nil] at lb
  refine ⟨.sl 0 1 0 n, HB T, rdLL T, ?_, lb_frz' lb (by omega) (by omega) hn, isLL_rdLL T⟩
  rw [List.nil_append] at g
  simp only [finish, ress, resOf, h1, tupOf, Option.bind_some, Option.map_some, g]
  rfl
theorem walk31 {call : CallF} {m : Nat} (hm : 1000 ≤ m) {n : Nat} (hn : n ≤ 60) {TT : List (List Int)}
    (e59 : ∀ {x : AV} {l : List Int} {j : Nat}, IsL x l → IsSh l → l.length ≤ 100 → (∀ i : Nat, i < l.length → getI l (i : Int) ≤ 1000) → j < l.length → ∃ v, IsL v (lessL l j) ∧ ∀ H, callPure call true 59 [x, .int .i64 (j : Int)] H = some (if crn l j then .tup [v, .bool true] else .tup [.nilS, .bool false], H))
    (e30 : ∀ {x : AV} {s : List Int} H, IsL x s → IsSh s → siz s ≤ 30 → callPure call true 30 [x] H = some (.int .i64 (cntS s : Int), H))
    (e29 : ∀ {x : AV} {s : List Int} H, IsL x s → IsSh s → siz s ≤ 30 → callPure call true 29 [x, .int .i64 30] H = some (.int .i64 (siz s : Int), H))
    {x : AV} {l : List Int} {k : Nat} {T : List (List Int)} (hx : IsL x l) (hsh : IsSh l) (h30 : siz l ≤ 30) (hk : k < cntS l) (hT : T.length = n) (hln : l.length ≤ n) (hrow : ∀ i, i < l.length → lam l i ≤ (getLL T (i : Int)).length) (hur : ur (siz l) l k T = TT) :
    G31 TT (evC call it m (.seq sp31_17 (.pre [5] (.seq (.reg [oMv 5 67, oMv 67 4] none) .ret))) 0 (finish 0 [.t 4]) (fun _ _ _ => none) (finish 0 [.t 4]) (bindEnv [0, 1, 5] 0 [x, .int .i64 (k : Int), .sl 0 1 0 n]) (HB T)) := by
  have e29' := fun H => e29 H hx hsh h30
  refine via (res := ?zr0) ?zw0 ?zg0
  case zw0 =>
    repeat' first
 | (apply s_mov; exact aW)
 | (apply c_nil)
 | (apply s_cn; exact aO; exact e29' _)
 | (apply c_seq)
 | (apply c_reg)
 | (apply c_block)
 | (with_reducible apply k_c)
    exact c_end
  clear e29'
  generalize hG : G31 TT = G
  refine loop_P (G := G) (σ := AV × List Int × Nat × List (List Int)) (fun q => [q.1, .int .i64 (q.2.2.1 : Int), .sl 0 1 0 n, .int .i64 (siz q.2.1 : Int)]) (fun q => HB q.2.2.2)
    (fun q => IsL q.1 q.2.1 ∧ IsSh q.2.1 ∧ siz q.2.1 ≤ 30 ∧ q.2.2.1 < cntS q.2.1 ∧ q.2.2.2.length = n ∧ q.2.1.length ≤ n ∧ (∀ i, i < q.2.1.length → lam q.2.1 i ≤ (getLL q.2.2.2 (i : Int)).length) ∧ ur (siz q.2.1) q.2.1 q.2.2.1 q.2.2.2 = TT) (fun q => siz q.2.1) ?_ _ (x, l, k, T) _ _ ⟨hx, hsh, h30, hk, hT, hln, hrow, hur⟩ (by dsimp only; omega) (gcHB (pre := [x, .int .i64 (k : Int)]) hT (by omega) (by simp [idFreeL, AV.idFree, hx.free]) (by simp) rfl)
  clear hx hsh h30 hk hT hln hrow hur x l k T
  rintro ⟨x, l, k, T⟩ ⟨hx, hsh, h30, hk, hT, hln, hrow, hur⟩ K hK
  dsimp only at hx hsh h30 hk hT hln hrow hur hK ⊢
  have fx := hx.free
  by_cases h0 : l = []
  · subst h0
    have e3 : siz [] = 0 := rfl
    rw [e3] at hur ⊢
    simp only [ur] at hur
    have g1 : gc 0 [.sl 0 1 0 n] (HB T) = some ([.sl 0 1 0 n], HB T) := gcHB (pre := []) (gs := []) hT (by omega) rfl (by simp) rfl
    refine via (res := ?zr1) ?zw1 ?zg1
    case zw1 =>
      repeat' first
 | (apply s_mov; exact aW)
 | (apply c_nil)
 | (apply s_geq; exact rfl; all_goals (intro _; try (exfalso; omega)))
 | (apply c_pre; exact g1)
 | (apply c_seq)
 | (apply c_reg)
 | (apply c_exitH)
 | (apply c_ret)
 | (apply c_condF; exact rfl)
 | (with_reducible apply k_c)
      exact rfl
    rw [← hG, ← hur]
    exact fin31 rfl hT (by omega)
  · have hsp := siz_pos hsh h0
    have hl0 : l.length ≠ 0 := fun e => h0 (List.length_eq_zero_iff.1 e)
    refine via (res := ?zr2) ?zw2 ?zg2
    case zw2 =>
      repeat' first
 | (apply s_mov; exact aW)
 | (apply c_nil)
 | (apply s_geq; exact rfl; all_goals (intro _; try (exfalso; omega)))
 | (apply s_sub; exact rfl; omega)
 | (apply s_len; exact aW; exact aI)
 | (apply c_seq)
 | (apply c_reg)
 | (apply c_block)
 | (apply c_skip)
 | (apply c_condT; exact rfl)
 | (with_reducible apply k_c)
      exact c_end
    obtain ⟨q, hq⟩ : ∃ q, siz l = q + 1 := ⟨siz l - 1, by omega⟩
    obtain ⟨pk1, pk2, pk3⟩ := pk_all hsh h0 hk
    rw [hq, ur] at hur
    refine loop_P (G := G) (σ := Nat × Nat) (fun p => [x, .int .i64 (p.2 : Int), .sl 0 1 0 n, .int .i64 (siz l : Int), .int .i64 ((p.1 : Int) - 1)]) (fun p => HB T)
      (fun p => p.1 ≤ l.length ∧ pk l p.1 p.2 = pk l l.length k ∧ p.2 < sN p.1 (fun j => if crn l j then cntS (lessL l j) else 0)) (fun p => p.1) ?_ _ (l.length, k) _ _ ⟨by dsimp only; omega, rfl, by dsimp only; rw [← cntS_eq hsh h0]; exact hk⟩ (by dsimp only; omega) (gcHB (pre := [x, .int .i64 (k : Int)]) hT (by omega) (by simp [idFreeL, AV.idFree, fx]) (by simp) rfl)
    rintro ⟨r, k2⟩ ⟨hr, hpk, hk2⟩ K2 hK2
    dsimp only at hr hpk hk2 hK2 ⊢
    rcases r with _ | r
    · simp [sN] at hk2
    · have e1 : ((r + 1 : Nat) : Int) - 1 = (r : Int) := by omega
      rw [e1]
      obtain ⟨v, hv, ec⟩ := e59 (j := r) hx hsh (by omega) (fun i hi => by have := getI_le hsh h30 i hi; omega) (by omega)
      have fv := hv.free
      have hgc : ∀ (k : Int) gs, idFreeL gs = true → gc 0 ([x, .int .i64 k] ++ .sl 0 1 0 n :: gs) (HB T) = some ([x, .int .i64 k] ++ .sl 0 1 0 n :: gs, HB T) := fun k gs hg => gcHB hT (by omega) (by simp [idFreeL, AV.idFree, fx]) (by simp) hg
      simp only [sN] at hk2
      simp only [pk] at hpk
      by_cases hc : crn l r = true
      · rw [if_pos hc] at hk2 hpk
        simp only [hc, if_true] at ec
        have hls := less_siz hsh (by omega) hc
        have em := fun H => e30 H hv (less_sh hsh (by omega) hc) (by omega)
        have hcl := cnt_le (less_sh hsh (by omega) hc) (by omega)
        by_cases hkm : cntS (lessL l r) ≤ k2
        · rw [if_pos hkm] at hpk
          have hsub : ((k2 - cntS (lessL l r) : Nat) : Int) = (k2 : Int) - cntS (lessL l r) := by omega
          have hcl2 := cnt_le hsh h30
          have hmn := sN_mono (f := fun j => if crn l j then cntS (lessL l j) else 0) (a := r + 1) (b := l.length) (by omega)
          rw [← cntS_eq hsh h0] at hmn
          simp only [sN] at hmn
          rw [if_pos hc] at hmn
          have hK2' := hK2 (r, k2 - cntS (lessL l r))
          dsimp only at hK2'
          rw [hsub] at hK2'
          refine via (res := ?zr3) ?zw3 ?zg3
          case zw3 =>
            repeat' first
 | (apply s_mov; exact aW)
 | (apply c_nil)
 | (apply s_notT; exact rfl)
 | (apply s_lss; exact rfl; all_goals (intro _; try (exfalso; omega)))
 | (apply s_geq; exact rfl; all_goals (intro _; try (exfalso; omega)))
 | (apply s_sub; exact rfl; omega)
 | (apply s_cn; exact aO; exact ec _)
 | (apply s_cn; exact aO; exact em _)
 | (apply s_pd; exact aW)
 | (apply c_seq)
 | (apply c_reg)
 | (apply c_block)
 | (apply c_skip)
 | (apply c_condT; exact rfl)
 | (apply c_condF; exact rfl)
 | (with_reducible apply k_c)
            exact rfl
          exact hK2' _ _ ⟨by omega, hpk, by omega⟩ (by omega) (hgc _ _ rfl)
        · rw [if_neg hkm] at hpk
          rw [← hpk] at hur
          dsimp only at hur
          have hpos := hsh.pos (show r < l.length by omega)
          have hcl2 := getI_le hsh h30 r (by omega)
          have lb := lb_hb T []
          rw [List.append_nil] at lb
          have hidx : (List.range' 1 T.length)[r]? = some (1 + r) := rngn (by omega)
          have hrl := hrow r (by omega)
          have s1 := lb.st hidx (k := lam l r - 1) (x := (q : Int) + 1) (by omega)
          have p1 : evP (HB T) (.ld false 1) [.ptr 0 (0 + ((r : Nat) : Int).toNat * 1)] = some (.sl (1 + r) 1 0 (getLL T (r : Int)).length) := by
            have := lb.ld hidx
            simpa using this
          have hset := hb_set (P := T) (i := r) (r := (getLL T (r : Int)).set (lam l r - 1) ((q : Int) + 1)) (by omega) (by simp)
          have hsz : (siz l : Int) = (q : Int) + 1 := by omega
          have hca : (getI l (r : Int) - 1).toNat = lam l r - 1 := by unfold lam; omega
          have p2 : evE call (HB T) (.st 1) [.ptr (1 + r) (0 + (getI l (r : Int) - 1).toNat * 1), .int .i64 (siz l : Int)] = some (.undef, HB (put2 T r (lam l r - 1) ((q : Int) + 1))) := by
            rw [hca, hsz]
            have := s1.1 call
            rw [hset] at this
            simpa [put2] using this
          have hgc2 : ∀ (k : Nat) T gs, T.length = n → idFreeL gs = true → gc 0 ([v, .int .i64 (k : Int)] ++ .sl 0 1 0 n :: gs) (HB T) = some ([v, .int .i64 (k : Int)] ++ .sl 0 1 0 n :: gs, HB T) := fun k T gs h1 hg => gcHB h1 (by omega) (by simp [idFreeL, AV.idFree, fv]) (by simp) hg
          have hpl := put2_len T r (lam l r - 1) ((q : Int) + 1)
          have hlp : (siz (lessL l r) : Int) = (siz l : Int) - 1 := by omega
          have hK' := hK (v, lessL l r, k2, put2 T r (lam l r - 1) ((q : Int) + 1))
          dsimp only at hK'
          rw [hlp] at hK'
          refine via (res := ?zr4) ?zw4 ?zg4
          case zw4 =>
            repeat' first
 | (apply s_mov; exact aW)
 | (apply c_nil)
 | (apply s_notT; exact rfl)
 | (apply s_lss; exact rfl; all_goals (intro _; try (exfalso; omega)))
 | (apply s_geq; exact rfl; all_goals (intro _; try (exfalso; omega)))
 | (apply s_sub; exact rfl; omega)
 | (apply s_cn; exact aO; exact ec _)
 | (apply s_cn; exact aO; exact em _)
 | (apply s_pn; exact aO; exact p1)
 | (apply s_st; exact aO; exact p2)
 | (apply c_pre; exact hgc2 _ _ _ (by omega) rfl)
 | (apply s_idx; exact aW; exact rfl; exact aI; omega)
 | (apply s_idxS; exact rfl; exact rfl; omega)
 | (apply s_ldI; exact rfl; omega)
 | (apply s_pd; exact aW)
 | (apply c_seq)
 | (apply c_reg)
 | (apply c_block)
 | (apply c_exitH)
 | (apply c_skip)
 | (apply c_condT; exact rfl)
 | (apply c_condF; exact rfl)
 | (apply c_exitM; exact rfl)
 | (with_reducible apply k_c)
            exact rfl
          refine hK' _ _ ⟨hv, less_sh hsh (by omega) hc, by omega, by omega, by omega, ?_, fun i hi => ?_, ?_⟩ (by omega) (hgc2 _ _ _ (by omega) rfl)
          · rcases less_len hsh (show r < l.length by omega) hc with e | ⟨e, _⟩ <;> omega
          · have hlen : (lessL l r).length ≤ l.length := by rcases less_len hsh (show r < l.length by omega) hc with e | ⟨e, _⟩ <;> omega
            rw [put2_row (by omega), less_lam hsh (by omega) hc]
            have := hrow i (by omega)
            split <;> omega
          · rw [show siz (lessL l r) = q by omega]; exact hur
      · rw [if_neg hc] at hk2 hpk
        simp only [hc, Bool.false_eq_true, if_false] at ec
        refine via (res := ?zr5) ?zw5 ?zg5
        case zw5 =>
          repeat' first
 | (apply s_mov; exact aW)
 | (apply c_nil)
 | (apply s_notF; exact rfl)
 | (apply s_geq; exact rfl; all_goals (intro _; try (exfalso; omega)))
 | (apply s_sub; exact rfl; omega)
 | (apply s_cn; exact aO; exact ec _)
 | (apply s_pd; exact aW)
 | (apply c_seq)
 | (apply c_reg)
 | (apply c_block)
 | (apply c_exitH)
 | (apply c_skip)
 | (apply c_condT; exact rfl)
 | (with_reducible apply k_c)
          exact rfl
        exact hK2 (r, k2) _ _ ⟨by dsimp only; omega, hpk, by dsimp only; omega⟩ (by dsimp only; omega) (hgc _ _ rfl)
theorem f31 {x : AV} {s : List Int} (hx : IsL x s) (hsh : IsSh s) (h30 : siz s ≤ 30) {k : Nat} (hk : k < cntS s) {m : Nat} (hm : 1300 ≤ m) : G31 (unrk s k) (evF tab it m 31 [x, .int .i64 (k : Int)] []) := by
  obtain ⟨m, rfl⟩ : ∃ j, m = j + 1 := ⟨m - 1, by omega⟩
  have fx := hx.free
  have hls := len_siz hsh
  have e59 := fun {x : AV} {l : List Int} {j : Nat} (h1 : IsL x l) (h2 : IsSh l) (h3 : l.length ≤ 100) h4 (h5 : j < l.length) => c59 h1 h2 h3 h4 h5 (m := m) (by omega)
  have e30 := fun {x : AV} {s : List Int} H (h1 : IsL x s) (h2 : IsSh s) (h3 : siz s ≤ 30) => c30 h1 h2 h3 (m := m) (by omega) H
  have e29 := fun {x : AV} {s : List Int} H (h1 : IsL x s) (h2 : IsSh s) (h3 : siz s ≤ 30) => (by
    have := c29 h1 h2 (by have := len_siz h2; omega) (b := 30) (by omega) (m := m) (by omega) H
    rwa [if_pos h3] at this : callPure (evF tab it m) true 29 [x, .int .i64 30] H = some (.int .i64 (siz s : Int), H))
  refine via_enter rfl rfl ?_
  generalize evF tab it m = call at *
  refine via (res := ?zr0) ?zw0 ?zg0
  case zw0 =>
    repeat' first
 | (apply s_mov; exact aW)
 | (apply c_nil)
 | (apply c_seq)
 | (apply c_reg)
 | (apply c_block)
 | (with_reducible apply k_c)
    exact c_end
  refine loop_P (σ := Nat) (fun i => [x, .int .i64 (k : Int), oV 0 ((zer s).take i), .int .i64 (i : Int)]) (fun i => oH 0 ((zer s).take i)) (fun i => i ≤ s.length) (fun i => s.length - i) ?_ _ 0 _ _ (by omega) (by omega) (gc_to rfl (by simp [idFreeL, AV.idFree, fx, oV]))
  intro i hi K hK
  have hzl := zer_len s
  have htl : ((zer s).take i).length = i := by rw [List.length_take]; omega
  by_cases his : i < s.length
  · have hp := hsh.pos his
    have hle := getI_le hsh h30 i his
    have htk : (zer s).take (i + 1) = (zer s).take i ++ [List.replicate (lam s i) 0] := by rw [take_snoc (by omega), zer_get his]
    have hmk : ∀ H, evE call H (.mkS 1 8 [.int .i64 0]) [.int .i64 (getI s (i : Int)), .int .i64 (getI s (i : Int))] = some (.sl H.length 1 0 (List.replicate (lam s i) (0 : Int)).length, H ++ [some (.data (iL (List.replicate (lam s i) 0)))]) := fun H => by
      have := e_mkI (call := call) (H := H) (n := lam s i) (b := 8) (by omega)
      rw [hp.2] at this
      rw [List.length_replicate]
      exact this
    have hK' := hK (i + 1)
    rw [htk] at hK'
    have hpos : 0 < ((zer s).take i ++ [List.replicate (lam s i) (0 : Int)]).length := by simp
    rw [oV_pos hpos, oH_pos hpos] at hK'
    have hll : ((zer s).take i ++ [List.replicate (lam s i) (0 : Int)]).length = i + 1 := by simp; omega
    rw [hll] at hK'
    rcases Nat.eq_zero_or_pos i with rfl | hip
    · rw [List.take_zero, List.nil_append] at hK'
      generalize List.replicate (lam s 0) (0 : Int) = rw' at *
      obtain ⟨c1, c2, c3, c4⟩ := lb_growN [] rw'
      have e0 : oV 0 ((zer s).take 0) = .nilS := rfl
      have e1 : oH 0 ((zer s).take 0) = [] := rfl
      rw [e0, e1]
      refine via (res := ?zr1) ?zw1 ?zg1
      case zw1 =>
        repeat' first
 | (apply s_mov; exact aW)
 | (apply c_nil)
 | (apply s_lss; exact rfl; all_goals (intro _; try (exfalso; omega)))
 | (apply s_add; exact rfl; omega)
 | (apply s_en; exact aO; exact hmk _)
 | (apply s_en; exact aO; exact c1 _)
 | (apply s_en; exact aO; exact c2 _ _)
 | (apply s_len; exact aW; exact aI)
 | (apply s_idx; exact aW; exact rfl; exact aI; omega)
 | (apply s_ldI; exact rfl; omega)
 | (apply c_seq)
 | (apply c_reg)
 | (apply c_block)
 | (apply c_skip)
 | (apply c_condT; exact rfl)
 | (with_reducible apply k_c)
        exact rfl
      exact hK' _ _ (by omega) (by omega) (gc1p (pre := [x, .int .i64 (k : Int)]) (gs := [.int .i64 1]) c3 (by simp) (by simp [idFreeL, AV.idFree, fx]) (by simp) rfl rfl)
    · rw [oV_pos (by omega), oH_pos (by omega), htl]
      generalize (zer s).take i = P at *
      generalize List.replicate (lam s i) (0 : Int) = rw' at *
      have lb := lb_hb P []
      rw [List.append_nil] at lb
      obtain ⟨c1, c2, c3, c4⟩ := lb.grow (r := rw') (by omega)
      rw [htl] at c2 c3
      refine via (res := ?zr2) ?zw2 ?zg2
      case zw2 =>
        repeat' first
 | (apply s_mov; exact aW)
 | (apply c_nil)
 | (apply s_lss; exact rfl; all_goals (intro _; try (exfalso; omega)))
 | (apply s_add; exact rfl; omega)
 | (apply s_en; exact aO; exact hmk _)
 | (apply s_en; exact aO; exact c1 _)
 | (apply s_en; exact aO; exact c2 _ _)
 | (apply s_len; exact aW; exact aI)
 | (apply s_idx; exact aW; exact rfl; exact aI; omega)
 | (apply s_ldI; exact rfl; omega)
 | (apply c_seq)
 | (apply c_reg)
 | (apply c_block)
 | (apply c_skip)
 | (apply c_condT; exact rfl)
 | (with_reducible apply k_c)
        exact rfl
      exact hK' _ _ (by omega) (by omega) (gc1p (pre := [x, .int .i64 (k : Int)]) (gs := [.int .i64 ((i : Int) + 1)]) c3 (by simp; omega) (by simp [idFreeL, AV.idFree, fx]) (by simp) rfl (by omega))
  · obtain rfl : i = s.length := by omega
    have hzt : (zer s).take s.length = zer s := by rw [← zer_len, List.take_length]
    rw [hzt]
    by_cases h0 : s = []
    · subst h0
      have hk0 : k = 0 := by rw [cntS_nil] at hk; omega
      subst hk0
      have e29' := fun H => e29 H hx hsh h30
      have e3 : siz [] = 0 := rfl
      rw [e3] at e29'
      have e0 : oV 0 (zer []) = .nilS := rfl
      have e1 : oH 0 (zer []) = [] := rfl
      rw [e0, e1]
      refine via (res := ?zr3) ?zw3 ?zg3
      case zw3 =>
        repeat' first
 | (apply s_mov; exact aW)
 | (apply c_nil)
 | (apply s_lss; exact rfl; all_goals (intro _; try (exfalso; omega)))
 | (apply s_cn; exact aO; exact e29' _)
 | (apply s_len; exact aW; exact aI)
 | (apply c_seq)
 | (apply c_reg)
 | (apply c_block)
 | (apply c_exitH)
 | (apply c_condF; exact rfl)
 | (apply c_preF; exact aK; exact aF)
 | (with_reducible apply k_c)
        exact c_end
      refine loop_P (σ := Unit) (fun _ => [x, .int .i64 0, .nilS, .int .i64 0]) (fun _ => []) (fun _ => True) (fun _ => 0) ?_ _ () _ _ trivial (by omega) (gc_to rfl (by simp [idFreeL, AV.idFree, fx]))
      intro _ _ K4 hK4
      refine via (res := ?zr4) ?zw4 ?zg4
      case zw4 =>
        repeat' first
 | (apply s_mov; exact aW)
 | (apply c_nil)
 | (apply s_geq; exact rfl; all_goals (intro _; try (exfalso; omega)))
 | (apply c_seq)
 | (apply c_reg)
 | (apply c_exitH)
 | (apply c_ret)
 | (apply c_condF; exact rfl)
 | (apply c_preF; exact aK; exact aF)
 | (with_reducible apply k_c)
        exact rfl
      exact ⟨.nilS, [], .nilS, rfl, frzV_nilS, .nil⟩
    · have hl0 : 0 < s.length := Nat.pos_of_ne_zero fun e => h0 (List.length_eq_zero_iff.1 e)
      have w := walk31 (call := call) (m := m) (by omega) (n := s.length) (by omega) (TT := unrk s k) e59 e30 e29 hx hsh h30 hk hzl (Nat.le_refl _) (fun i hi => by rw [zer_get hi, List.length_replicate]; exact Nat.le_refl _) rfl
      rw [oV_pos (by omega), oH_pos (by omega), hzl]
      have g5 := gcHB (pre := [x, .int .i64 (k : Int)]) (gs := []) hzl (by omega) (by simp [idFreeL, AV.idFree, fx]) (by simp) rfl
      refine via (res := ?zr5) ?zw5 ?zg5
      case zw5 =>
        repeat' first
 | (apply s_mov; exact aW)
 | (apply c_nil)
 | (apply s_lss; exact rfl; all_goals (intro _; try (exfalso; omega)))
 | (apply c_pre; exact g5; exact c_end)
 | (apply s_len; exact aW; exact aI)
 | (apply c_seq)
 | (apply c_reg)
 | (apply c_exitH)
 | (apply c_condF; exact rfl)
 | (with_reducible apply k_c)
      exact w
theorem c31 {x : AV} {s : List Int} (hx : IsL x s) (hsh : IsSh s) (h30 : siz s ≤ 30) {k : Nat} (hk : k < cntS s) {m : Nat} (hm : 1300 ≤ m) : ∃ v, IsLL v (unrk s k) ∧ ∀ H, callPure (evF tab it m) true 31 [x, .int .i64 (k : Int)] H = some (v, H) := by
  obtain ⟨v, R, w, e1, e2, e3⟩ := f31 hx hsh h30 hk hm
  exact ⟨w, e3, fun H => callPure_frz (by simp [idFreeL, AV.idFree, hx.free]) (by simp) e1 e2⟩
end Go.AM.Tb
