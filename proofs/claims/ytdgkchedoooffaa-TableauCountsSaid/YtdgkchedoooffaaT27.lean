/- A part of the proof: T27. -/
import Derived.Test.YtdgkchedoooffaaT26
import Derived.Test.YtdgkchedoooffaaT13
set_option linter.unusedVariables false
set_option linter.unusedSimpArgs false
set_option linter.unusedSectionVars false
namespace Go.AM.Tb
set_option maxHeartbeats 4000000
def G27 (T : List (List Int)) (r : R) : Prop := ∃ v R, r = some (v, R) ∧ frzV R 140 v = some (.tup [rdLL T, .int .i64 0])
theorem fin27 {T : List (List Int)} {env : Env} {H : Heap} {a n : Nat} {is : List Nat} {s1 s2 : Nat} (h1 : look env s1 = .sl a 1 0 n) (hn : T.length = n) (h2 : look env s2 = .int .i64 0) (h : LB H a is T) (hl : T.length ≤ 100) : G27 T (finish 0 [.t s1, .t s2] env H) := by
  have g := gc1t (c := 0) h (by rw [h.ln]; exact hl) hn
  have lb := lb_hb T []
  rw [List.append_nil] at lb
  refine ⟨.tup [.sl 0 1 0 n, .int .i64 0], HB T, ?_, ?_⟩
  · simp only [finish, ress, resOf, h1, h2, tupOf, Option.bind_some, Option.map_some, g]
    rfl
  · rw [show (140 : Nat) = 139 + 1 from rfl, frzV_tup]
    simp only [idFreeL, AV.idFree, Bool.false_and, Bool.false_eq_true, if_false]
    rw [show (139 : Nat) = 138 + 1 from rfl, frzL_cons, show (138 : Nat) = 137 + 1 from rfl, frzL_cons, show (137 : Nat) = 136 + 1 from rfl, frzL_nil]
    rw [lb_frz' lb hl (by omega) hn, frzV_int]
    rfl
theorem repl_iL (n : Nat) : repl n [AV.int .i64 0] = iL (List.replicate n 0) := by
  induction n with
  | zero => rfl
  | succ n ih => simp [repl, ih, iL, List.replicate_succ]
theorem repl_nil (n : Nat) : repl n [AV.nilS] = List.replicate n .nilS := by
  induction n with
  | zero => rfl
  | succ n ih => simp [repl, ih, List.replicate_succ]
theorem e_mkI {call : CallF} {H : Heap} {n : Nat} {b : Nat} (hn : n ≤ 1000) : evE call H (.mkS 1 b [.int .i64 0]) [.int .i64 (n : Int), .int .i64 (n : Int)] = some (.sl H.length 1 0 n, H ++ [some (.data (iL (List.replicate n 0)))]) := by
  have h : (n : Int) ≤ 1048576 := by omega
  simp [evE, most, h, repl_iL]
theorem e_mkX {call : CallF} {H : Heap} {n : Nat} {b : Nat} (hn : n ≤ 1000) : evE call H (.mkB 1 b [.nilS]) [.int .i64 (n : Int), .int .i64 (n : Int)] = some (.sl H.length 1 0 n, H ++ [some (.box (List.replicate n .nilS))]) := by
  have h : (n : Int) ≤ 1048576 := by omega
  simp [evE, most, h, repl_nil, newBox]
theorem hmb_len (m P n) : (HMB m P n).length = 2 + P.length := by simp [HMB, rowsH]; omega
theorem zer_len (s : List Int) : (zer s).length = s.length := by simp [zer]
theorem zer_get {s : List Int} {i : Nat} (hi : i < s.length) : getLL (zer s) (i : Int) = List.replicate (lam s i) 0 := by
  rw [getLL_nat]
  unfold lam zer
  rw [getI_nat]
  simp [List.getD, hi]
theorem put2_len (T r c v) : (put2 T r c v).length = T.length := by simp [put2]
theorem put2_row {T : List (List Int)} {r c : Nat} {v : Int} {i : Nat} (hr : r < T.length) : (getLL (put2 T r c v) (i : Int)).length = (getLL T (i : Int)).length := by
  unfold put2
  rw [getLL_set hr]
  split
  · rename_i e; subst e; simp
  · rfl
theorem walk27 {call : CallF} {m : Nat} (hm : 1000 ≤ m) {n : Nat} (hn : n ≤ 60) {TT : List (List Int)}
    (e57 : ∀ {x : AV} {l : List Int} {j : Nat}, IsL x l → IsSh l → l.length ≤ 100 → (∀ i : Nat, i < l.length → getI l (i : Int) ≤ 1000) → j < l.length → ∃ v, IsL v (lessL l j) ∧ ∀ H, callPure call true 57 [x, .int .i64 (j : Int)] H = some (if crn l j then .tup [v, .bool true] else .tup [.nilS, .bool false], H))
    (e56 : ∀ {x : AV} {s : List Int} {es : List (List Int × Int)}, IsL x s → IsSh s → siz s ≤ 30 → Knows es → G56 (cntS s) (call 56 [.mp 0, x] [some (.map (mG es))]))
    {x : AV} {l : List Int} {k : Nat} {T : List (List Int)} {es : List (List Int × Int)} (hx : IsL x l) (hsh : IsSh l) (h30 : siz l ≤ 30) (hk : k < cntS l) (hes : Knows es) (hT : T.length = n) (hln : l.length ≤ n) (hrow : ∀ i, i < l.length → lam l i ≤ (getLL T (i : Int)).length) (hur : ur (siz l) l k T = TT) :
    G27 TT (evC call it m (.seq (.block 2 (.loop lb27_20)) sq27_21) 0 (finish 0 [.t 4, .t 5]) (fun _ _ _ => none) (finish 0 [.t 4, .t 5]) (bindEnv [0, 1, 7, 8, 9] 0 [x, .int .i64 (k : Int), .mp 0, .sl 1 1 0 n, .int .i64 (siz l : Int)]) (HMB (mG es) T n)) := by
  refine via (res := ?r0) ?w0 ?g0
  case w0 =>
    repeat' first
 | (apply c_seq)
 | (apply c_block)
    exact c_end
  generalize hG : G27 TT = G
  refine loop_P (G := G) (σ := AV × List Int × Nat × List (List Int) × List (List Int × Int)) (fun q => [q.1, .int .i64 (q.2.2.1 : Int), .mp 0, .sl 1 1 0 n, .int .i64 (siz q.2.1 : Int)]) (fun q => HMB (mG q.2.2.2.2) q.2.2.2.1 n)
    (fun q => IsL q.1 q.2.1 ∧ IsSh q.2.1 ∧ siz q.2.1 ≤ 30 ∧ q.2.2.1 < cntS q.2.1 ∧ Knows q.2.2.2.2 ∧ q.2.2.2.1.length = n ∧ q.2.1.length ≤ n ∧ (∀ i, i < q.2.1.length → lam q.2.1 i ≤ (getLL q.2.2.2.1 (i : Int)).length) ∧ ur (siz q.2.1) q.2.1 q.2.2.1 q.2.2.2.1 = TT) (fun q => siz q.2.1) ?_ _ (x, l, k, T, es) _ _ ⟨hx, hsh, h30, hk, hes, hT, hln, hrow, hur⟩ (by dsimp only; omega) (gcHMB (pre := [x, .int .i64 (k : Int)]) (by simp [idFreeL, AV.idFree, hx.free]) (by simp) rfl (by omega))
  clear hx hsh h30 hk hes hT hln hrow hur x l k T es
  rintro ⟨x, l, k, T, es⟩ ⟨hx, hsh, h30, hk, hes, hT, hln, hrow, hur⟩ K hK
  dsimp only at hx hsh h30 hk hes hT hln hrow hur hK ⊢
  have fx := hx.free
  by_cases h0 : l = []
  · subst h0
    have e3 : siz [] = 0 := rfl
    rw [e3] at hur ⊢
    simp only [ur] at hur
    have lb := hmb_lb (m := mG es) hT
    have g1 : gc 0 [.sl 1 1 0 n] (HMB (mG es) T n) = some ([.sl 0 1 0 n], HB T) := gc1p (pre := []) (gs := []) lb (by simp; omega) rfl (by simp) rfl hT
    refine via (res := ?r1) ?w1 ?g1
    case w1 =>
      repeat' first
 | (apply s_mov; exact aW)
 | (apply c_nil)
 | (apply s_gtr; exact rfl; all_goals (intro _; try (exfalso; omega)))
 | (apply c_pre; exact g1)
 | (apply c_seq)
 | (apply c_reg)
 | (apply c_exitH)
 | (apply c_ret)
 | (apply c_condF; exact rfl)
 | (with_reducible apply k_c)
      exact rfl
    rw [← hG, ← hur]
    have lb' := lb_hb T []
    rw [List.append_nil] at lb'
    exact fin27 rfl hT rfl lb' (by omega)
  · have hsp := siz_pos hsh h0
    have hl0 : l.length ≠ 0 := fun e => h0 (List.length_eq_zero_iff.1 e)
    refine via (res := ?r2) ?w2 ?g2
    case w2 =>
      repeat' first
 | (apply s_mov; exact aW)
 | (apply c_nil)
 | (apply s_gtr; exact rfl; all_goals (intro _; try (exfalso; omega)))
 | (apply s_sub; exact rfl; omega)
 | (apply s_len; exact aW; exact aI)
 | (apply c_seq)
 | (apply c_reg)
 | (apply c_block)
 | (apply c_skip)
 | (apply c_condT; exact rfl)
 | (with_reducible apply k_c)
      exact c_end
    obtain ⟨q, hq⟩ : ∃ q, siz l = q + 1 := ⟨siz l - 1, by omega⟩
    obtain ⟨pk1, pk2, pk3⟩ := pk_all hsh h0 hk
    rw [hq, ur] at hur
    refine loop_P (G := G) (σ := Nat × Nat × List (List Int × Int)) (fun p => [x, .int .i64 (p.2.1 : Int), .mp 0, .sl 1 1 0 n, .int .i64 (siz l : Int), .int .i64 ((p.1 : Int) - 1)]) (fun p => HMB (mG p.2.2) T n)
      (fun p => p.1 ≤ l.length ∧ pk l p.1 p.2.1 = pk l l.length k ∧ p.2.1 < sN p.1 (fun j => if crn l j then cntS (lessL l j) else 0) ∧ Knows p.2.2) (fun p => p.1) ?_ _ (l.length, k, es) _ _ ⟨by dsimp only; omega, rfl, by dsimp only; rw [← cntS_eq hsh h0]; exact hk, hes⟩ (by dsimp only; omega) (gcHMB (pre := [x, .int .i64 (k : Int)]) (by simp [idFreeL, AV.idFree, fx]) (by simp) rfl (by omega))
    clear hes es
    rintro ⟨r, k2, es⟩ ⟨hr, hpk, hk2, hes⟩ K2 hK2
    dsimp only at hr hpk hk2 hes hK2 ⊢
    rcases r with _ | r
    · simp [sN] at hk2
    · have e1 : ((r + 1 : Nat) : Int) - 1 = (r : Int) := by omega
      rw [e1]
      obtain ⟨v, hv, ec⟩ := e57 (j := r) hx hsh (by omega) (fun i hi => by have := getI_le hsh h30 i hi; omega) (by omega)
      have fv := hv.free
      have hgc : ∀ (k : Nat) es gs, idFreeL gs = true → gc 0 ([x, .int .i64 (k : Int)] ++ .mp 0 :: .sl 1 1 0 n :: gs) (HMB (mG es) T n) = some ([x, .int .i64 (k : Int)] ++ .mp 0 :: .sl 1 1 0 n :: gs, HMB (mG es) T n) := fun k es gs hg => gcHMB (by simp [idFreeL, AV.idFree, fx]) (by simp) hg (by omega)
      simp only [sN] at hk2
      simp only [pk] at hpk
      by_cases hc : crn l r = true
      · rw [if_pos hc] at hk2 hpk
        simp only [hc, if_true] at ec
        have hls := less_siz hsh (by omega) hc
        obtain ⟨es', g1, g2⟩ := e56 hv (less_sh hsh (by omega) hc) (by omega) hes
        have em : evE call (HMB (mG es) T n) (.call false true 56) [.mp 0, v] = some (.int .i64 (cntS (lessL l r) : Int), HMB (mG es') T n) := callMut_mp rfl fv g1
        have hcl := cnt_le (less_sh hsh (by omega) hc) (by omega)
        by_cases hkm : cntS (lessL l r) ≤ k2
        · rw [if_pos hkm] at hpk
          have hsub : ((k2 - cntS (lessL l r) : Nat) : Int) = (k2 : Int) - cntS (lessL l r) := by omega
          have hcl2 := cnt_le hsh h30
          have hmn := sN_mono (f := fun j => if crn l j then cntS (lessL l j) else 0) (a := r + 1) (b := l.length) (by omega)
          rw [← cntS_eq hsh h0] at hmn
          simp only [sN] at hmn
          rw [if_pos hc] at hmn
          have hK2' := hK2 (r, k2 - cntS (lessL l r), es')
          dsimp only at hK2'
          rw [hsub] at hK2'
          refine via (res := ?r3) ?w3 ?g3
          case w3 =>
            repeat' first
 | (apply s_mov; exact aW)
 | (apply c_nil)
 | (apply s_notT; exact rfl)
 | (apply s_geq; exact rfl; all_goals (intro _; try (exfalso; omega)))
 | (apply s_sub; exact rfl; omega)
 | (apply s_cn; exact aO; exact ec _)
 | (apply s_en; exact aO; exact em)
 | (apply s_pd; exact aW)
 | (apply c_seq)
 | (apply c_reg)
 | (apply c_block)
 | (apply c_exitH)
 | (apply c_skip)
 | (apply c_condT; exact rfl)
 | (apply c_condF; exact rfl)
 | (with_reducible apply k_c)
            exact rfl
          refine hK2' _ _ ⟨by omega, hpk, by omega, g2⟩ (by omega) ?_
          rw [← hsub]
          exact hgc _ _ _ rfl
        · rw [if_neg hkm] at hpk
          rw [← hpk] at hur
          dsimp only at hur
          have hpos := hsh.pos (show r < l.length by omega)
          have hcl2 := getI_le hsh h30 r (by omega)
          have lb := hmb_lb (m := mG es') hT
          have hidx : (List.range' 2 T.length)[r]? = some (2 + r) := rngn (by omega)
          have hrl := hrow r (by omega)
          have s1 := lb.st hidx (k := lam l r - 1) (x := (q : Int) + 1) (by omega)
          have p1 : evP (HMB (mG es') T n) (.ld false 1) [.ptr 1 (0 + ((r : Nat) : Int).toNat * 1)] = some (.sl (2 + r) 1 0 (getLL T (r : Int)).length) := by
            have := lb.ld hidx
            simpa using this
          have hset := hmb_set (m := mG es') (P := T) (n := n) (i := r) (r := (getLL T (r : Int)).set (lam l r - 1) ((q : Int) + 1)) (by omega) (by simp)
          have hsz : (siz l : Int) = (q : Int) + 1 := by omega
          have hca : (getI l (r : Int) - 1).toNat = lam l r - 1 := by unfold lam; omega
          have p2 : evE call (HMB (mG es') T n) (.st 1) [.ptr (2 + r) (0 + (getI l (r : Int) - 1).toNat * 1), .int .i64 (siz l : Int)] = some (.undef, HMB (mG es') (put2 T r (lam l r - 1) ((q : Int) + 1)) n) := by
            rw [hca, hsz]
            have := s1.1 call
            rw [hset] at this
            simpa [put2] using this
          have hgc2 : ∀ (k : Nat) es T gs, T.length = n → idFreeL gs = true → gc 0 ([v, .int .i64 (k : Int)] ++ .mp 0 :: .sl 1 1 0 n :: gs) (HMB (mG es) T n) = some ([v, .int .i64 (k : Int)] ++ .mp 0 :: .sl 1 1 0 n :: gs, HMB (mG es) T n) := fun k es T gs h1 hg => gcHMB (by simp [idFreeL, AV.idFree, fv]) (by simp) hg (by omega)
          have hpl := put2_len T r (lam l r - 1) ((q : Int) + 1)
          have hlp : (siz (lessL l r) : Int) = (siz l : Int) - 1 := by omega
          have hK' := hK (v, lessL l r, k2, put2 T r (lam l r - 1) ((q : Int) + 1), es')
          dsimp only at hK'
          rw [hlp] at hK'
          refine via (res := ?r4) ?w4 ?g4
          case w4 =>
            repeat' first
 | (apply s_mov; exact aW)
 | (apply c_nil)
 | (apply s_notT; exact rfl)
 | (apply s_geq; exact rfl; all_goals (intro _; try (exfalso; omega)))
 | (apply s_sub; exact rfl; omega)
 | (apply s_cn; exact aO; exact ec _)
 | (apply s_en; exact aO; exact em)
 | (apply s_pn; exact aO; exact p1)
 | (apply s_st; exact aO; exact p2)
 | (apply c_pre; exact hgc2 _ _ _ _ (by omega) rfl)
 | (apply s_idx; exact aW; exact rfl; exact aI; omega)
 | (apply s_idxS; exact rfl; exact rfl; omega)
 | (apply s_ldI; exact rfl; omega)
 | (apply s_pd; exact aW)
 | (apply c_seq)
 | (apply c_reg)
 | (apply c_block)
 | (apply c_exitH)
 | (apply c_skip)
 | (apply c_condT; exact rfl)
 | (apply c_condF; exact rfl)
 | (apply c_exitM; exact rfl)
 | (with_reducible apply k_c)
            exact rfl
          refine hK' _ _ ⟨hv, less_sh hsh (by omega) hc, by omega, by omega, g2, by omega, ?_, fun i hi => ?_, ?_⟩ (by omega) (hgc2 _ _ _ _ (by omega) rfl)
          · rcases less_len hsh (show r < l.length by omega) hc with e | ⟨e, _⟩ <;> omega
          · have hlen : (lessL l r).length ≤ l.length := by rcases less_len hsh (show r < l.length by omega) hc with e | ⟨e, _⟩ <;> omega
            rw [put2_row (by omega), less_lam hsh (by omega) hc]
            have := hrow i (by omega)
            split <;> omega
          · rw [show siz (lessL l r) = q by omega]; exact hur
      · rw [if_neg hc] at hk2 hpk
        simp only [hc, Bool.false_eq_true, if_false] at ec
        refine via (res := ?r5) ?w5 ?g5
        case w5 =>
          repeat' first
 | (apply s_mov; exact aW)
 | (apply c_nil)
 | (apply s_notF; exact rfl)
 | (apply s_geq; exact rfl; all_goals (intro _; try (exfalso; omega)))
 | (apply s_sub; exact rfl; omega)
 | (apply s_cn; exact aO; exact ec _)
 | (apply s_pd; exact aW)
 | (apply c_seq)
 | (apply c_reg)
 | (apply c_block)
 | (apply c_exitH)
 | (apply c_skip)
 | (apply c_condT; exact rfl)
 | (with_reducible apply k_c)
          exact rfl
        exact hK2 (r, k2, es) _ _ ⟨by dsimp only; omega, hpk, by dsimp only; omega, hes⟩ (by dsimp only; omega) (hgc _ _ _ rfl)
end Go.AM.Tb
