/- A part of the proof: T28. -/
import Derived.Test.YtdgkchedoooffaaT27
set_option linter.unusedVariables false
set_option linter.unusedSimpArgs false
set_option linter.unusedSectionVars false
namespace Go.AM.Tb
set_option maxHeartbeats 4000000
def ans27 (s : List Int) (k : Int) : AV := if IsSh s then (if siz s ≤ 30 then (if k < 0 ∨ (cntS s : Int) ≤ k then .tup [.nilS, .int .i64 2] else .tup [rdLL (unrk s k.toNat), .int .i64 0]) else .tup [.nilS, .int .i64 5]) else .tup [.nilS, .int .i64 2]
theorem fin_bad {e : Int} {env : Env} {H : Heap} {s1 s2 : Nat} (h1 : look env s1 = .nilS) (h2 : look env s2 = .int .i64 e) : finish 0 [.t s1, .t s2] env H = some (.tup [.nilS, .int .i64 e], []) := fin_tt h1 h2 rfl rfl rfl
theorem f27g {x : AV} {s : List Int} (hx : IsL x s) (hsh : IsSh s) (h30 : siz s ≤ 30) {k : Nat} (hk : k < cntS s) {m : Nat} (hm : 1200 ≤ m) : G27 (unrk s k) (evF tab it m 27 [x, .int .i64 (k : Int)] []) := by
  obtain ⟨m, rfl⟩ : ∃ j, m = j + 1 := ⟨m - 1, by omega⟩
  have fx := hx.free
  have hls := len_siz hsh
  have e55 := fun H => c55 hx (by omega) (m := m) (by omega) H
  rw [if_pos hsh, if_pos h30] at e55
  have e57 := fun {x : AV} {l : List Int} {j : Nat} (h1 : IsL x l) (h2 : IsSh l) (h3 : l.length ≤ 100) h4 (h5 : j < l.length) => c57 h1 h2 h3 h4 h5 (m := m) (by omega)
  have e56 := fun {x : AV} {s : List Int} {es : List (List Int × Int)} (h1 : IsL x s) (h2 : IsSh s) (h3 : siz s ≤ 30) (h4 : Knows es) => f56 _ rfl h1 h2 h3 h4 (m := m) (by omega)
  have e1 : ∀ call, evE call [] .mkM [] = some (.mp 0, [some (.map (mG []))]) := fun call => rfl
  refine via_enter rfl rfl ?_
  generalize evF tab it m = call at *
  obtain ⟨es, g1, g2⟩ := e56 hx hsh h30 knows_nil
  have em : evE call [some (HO.map (mG []))] (.call false true 56) [.mp 0, x] = some (.int .i64 (cntS s : Int), [some (.map (mG es))]) := callMut_mp rfl fx g1
  have emb : evE call [some (HO.map (mG es))] (.mkB 1 24 [.nilS]) [.int .i64 (s.length : Int), .int .i64 (s.length : Int)] = some (.sl 1 1 0 s.length, HMB (mG es) [] s.length) := by
    rw [e_mkX (by omega)]
    simp [HMB, refs, rowsH]
  have hgc : ∀ es P gs, P.length ≤ 100 → idFreeL gs = true → gc 0 ([x, .int .i64 (k : Int)] ++ .mp 0 :: .sl 1 1 0 s.length :: gs) (HMB (mG es) P s.length) = some ([x, .int .i64 (k : Int)] ++ .mp 0 :: .sl 1 1 0 s.length :: gs, HMB (mG es) P s.length) := fun es P gs h1 hg => gcHMB (by simp [idFreeL, AV.idFree, fx]) (by simp) hg h1
  refine via (res := ?r0) ?w0 ?g0
  case w0 =>
    repeat' first
 | (apply s_mov; exact aW)
 | (apply s_gT; exact rfl)
 | (apply c_nil)
 | (apply s_pickF; exact rfl; exact aW)
 | (apply s_lss; exact rfl; all_goals (intro _; try (exfalso; omega)))
 | (apply s_geq; exact rfl; all_goals (intro _; try (exfalso; omega)))
 | (apply s_neq; exact rfl; all_goals (intro _; try (exfalso; omega)))
 | (apply s_cn; exact aO; exact e55 _)
 | (apply s_en; exact aO; exact e1 _)
 | (apply s_en; exact aO; exact em)
 | (apply s_en; exact aO; exact emb)
 | (apply s_len; exact aW; exact aI)
 | (apply c_seq)
 | (apply c_reg)
 | (apply c_block)
 | (apply c_skip)
 | (apply c_condF; exact rfl)
 | (with_reducible apply k_c)
    exact c_end
  refine loop_P (σ := Nat) (fun i => [x, .int .i64 (k : Int), .mp 0, .sl 1 1 0 s.length, .int .i64 (sN i (lam s) : Nat), x, .int .i64 s.length, .int .i64 (i : Int)]) (fun i => HMB (mG es) ((zer s).take i) s.length) (fun i => i ≤ s.length) (fun i => s.length - i) ?_ _ 0 _ _ (by omega) (by omega) (hgc es [] [.int .i64 0, x, .int .i64 s.length, .int .i64 0] (by simp) (by simp [idFreeL, AV.idFree, fx]))
  intro i hi K hK
  have hzl := zer_len s
  have hgs : ∀ a b c : Int, idFreeL [.int .i64 a, x, .int .i64 b, .int .i64 c] = true := fun a b c => by simp [idFreeL, AV.idFree, fx]
  by_cases his : i < s.length
  · have hp := hsh.pos his
    have hle := getI_le hsh h30 i his
    have htl : ((zer s).take i).length = i := by rw [List.length_take]; omega
    have htk : (zer s).take (i + 1) = (zer s).take i ++ [List.replicate (lam s i) 0] := by rw [take_snoc (by omega), zer_get his]
    have hmk : evE call (HMB (mG es) ((zer s).take i) s.length) (.mkS 1 8 [.int .i64 0]) [.int .i64 (getI s (i : Int)), .int .i64 (getI s (i : Int))] = some (.sl (2 + ((zer s).take i).length) 1 0 (lam s i), HMB (mG es) ((zer s).take i) s.length ++ [some (.data (iL (List.replicate (lam s i) 0)))]) := by
      have := e_mkI (call := call) (H := HMB (mG es) ((zer s).take i) s.length) (n := lam s i) (b := 8) (by omega)
      rw [hp.2, hmb_len] at this
      exact this
    have hst := hmb_push (m := mG es) (P := (zer s).take i) (n := s.length) (r := List.replicate (lam s i) 0) (by omega) (by omega) call
    rw [htl, List.length_replicate] at hst
    rw [htl] at hmk
    have hK' := hK (i + 1)
    have hss : ((sN (i + 1) (lam s) : Nat) : Int) = (sN i (lam s) : Nat) + getI s (i : Int) := by simp only [sN]; omega
    have hsm := sN_mono (f := lam s) (a := i) (b := s.length) (by omega)
    have hsz : sN s.length (lam s) = siz s := rfl
    rw [htk, hss] at hK'
    have hlast := hgc es ((zer s).take i ++ [List.replicate (lam s i) 0]) [.int .i64 ((sN i (lam s) : Nat) + getI s (i : Int)), x, .int .i64 s.length, .int .i64 ((i : Int) + 1)] (by simp; omega) (hgs _ _ _)
    generalize (zer s).take i = P at *
    generalize List.replicate (lam s i) (0 : Int) = rw' at *
    refine via (res := ?zr1) ?zw1 ?zg1
    case zw1 =>
      repeat' first
 | (apply s_mov; exact aW)
 | (apply c_nil)
 | (apply s_lss; exact rfl; all_goals (intro _; try (exfalso; omega)))
 | (apply s_add; exact rfl; omega)
 | (apply s_en; exact aO; exact hmk)
 | (apply s_st; exact aO; exact hst)
 | (apply s_idx; exact aW; exact rfl; exact aI; omega)
 | (apply s_idxS; exact rfl; exact rfl; omega)
 | (apply s_ldI; exact rfl; omega)
 | (apply c_seq)
 | (apply c_reg)
 | (apply c_block)
 | (apply c_skip)
 | (apply c_condT; exact rfl)
 | (with_reducible apply k_c)
      exact rfl
    exact hK' _ _ (by omega) (by omega) hlast
  · obtain rfl : i = s.length := by omega
    have hzt : (zer s).take s.length = zer s := by rw [← zer_len, List.take_length]
    rw [hzt]
    have hsz : sN s.length (lam s) = siz s := rfl
    rw [hsz]
    have w := walk27 (call := call) (m := m) (by omega) (n := s.length) (by omega) (TT := unrk s k) e57 e56 hx hsh h30 hk g2 hzl (Nat.le_refl _) (fun i hi => by rw [zer_get hi, List.length_replicate]; exact Nat.le_refl _) rfl
    have g5 := hgc es (zer s) [.int .i64 (siz s : Int)] (by omega) rfl
    refine via (res := ?zr2) ?zw2 ?zg2
    case zw2 =>
      repeat' first
 | (apply c_nil)
 | (apply s_lss; exact rfl; all_goals (intro _; try (exfalso; omega)))
 | (apply c_pre; exact g5; exact c_end)
 | (apply c_seq)
 | (apply c_reg)
 | (apply c_exitH)
 | (apply c_condF; exact rfl)
 | (with_reducible apply k_c)
    exact w
theorem c27 {x : AV} {s : List Int} {k : Int} (hx : IsL x s) (hl : s.length ≤ 1000) {m : Nat} (hm : 1200 ≤ m) (H : Heap) : callPure (evF tab it m) true 27 [x, .int .i64 k] H = some (ans27 s k, H) := by
  have fx := hx.free
  unfold ans27
  have e55 := fun m hm H => c55 hx hl (m := m) hm H
  by_cases hsh : IsSh s
  · by_cases h30 : siz s ≤ 30
    · by_cases hk : k < 0 ∨ (cntS s : Int) ≤ k
      · rw [if_pos hsh, if_pos h30, if_pos hk]
        simp only [if_pos hsh, if_pos h30] at e55
        refine callPure_free (H1 := []) (by simp [idFreeL, AV.idFree, fx]) (by simp) ?_ rfl
        obtain ⟨m, rfl⟩ : ∃ j, m = j + 1 := ⟨m - 1, by omega⟩
        have e55 := fun H => e55 m (by omega) H
        have e1 : ∀ call, evE call [] .mkM [] = some (.mp 0, [some (.map (mG []))]) := fun call => rfl
        obtain ⟨es, g1, g2⟩ := f56 _ rfl hx hsh h30 knows_nil (m := m) (by omega)
        have em : evE (evF tab it m) [some (HO.map (mG []))] (.call false true 56) [.mp 0, x] = some (.int .i64 (cntS s : Int), [some (.map (mG es))]) := callMut_mp rfl fx g1
        refine f_enter rfl rfl ?_
        generalize evF tab it m = call at *
        rcases hk with hk | hk
        · skip
          repeat' first
 | (apply s_mov; exact aW)
 | (apply s_gF; exact rfl)
 | (apply s_gFD; exact rfl)
 | (apply c_nil)
 | (apply s_pickT; exact rfl; exact aW)
 | (apply s_lss; exact rfl; all_goals (intro _; try (exfalso; omega)))
 | (apply s_neq; exact rfl; all_goals (intro _; try (exfalso; omega)))
 | (apply s_cn; exact aO; exact e55 _)
 | (apply s_en; exact aO; exact e1 _)
 | (apply c_seq)
 | (apply c_reg)
 | (apply c_skip)
 | (apply c_ret)
 | (apply c_condT; exact rfl)
 | (apply c_condF; exact rfl)
 | (with_reducible apply k_c)
          all_goals first
            | (exfalso; omega)
            | exact fin_bad rfl rfl
        · by_cases hk0 : k < 0
          · skip
            repeat' first
 | (apply s_mov; exact aW)
 | (apply c_nil)
 | (apply s_neq; exact rfl; all_goals (intro _; try (exfalso; omega)))
 | (apply s_cn; exact aO; exact e55 _)
 | (apply c_seq)
 | (apply c_reg)
 | (with_reducible apply k_c)
            all_goals first
              | (exfalso; omega)
              | exact fin_bad rfl rfl
          · skip
            repeat' first
 | (apply s_mov; exact aW)
 | (apply s_gT; exact rfl)
 | (apply c_nil)
 | (apply s_pickF; exact rfl; exact aW)
 | (apply s_lss; exact rfl; all_goals (intro _; try (exfalso; omega)))
 | (apply s_geq; exact rfl; all_goals (intro _; try (exfalso; omega)))
 | (apply s_neq; exact rfl; all_goals (intro _; try (exfalso; omega)))
 | (apply s_cn; exact aO; exact e55 _)
 | (apply s_en; exact aO; exact e1 _)
 | (apply s_en; exact aO; exact em)
 | (apply c_seq)
 | (apply c_reg)
 | (apply c_skip)
 | (apply c_ret)
 | (apply c_condT; exact rfl)
 | (apply c_condF; exact rfl)
 | (with_reducible apply k_c)
            all_goals first
              | (exfalso; omega)
              | exact fin_bad rfl rfl
      · rw [if_pos hsh, if_pos h30, if_neg hk]
        obtain ⟨q, rfl⟩ : ∃ q : Nat, k = (q : Int) := ⟨k.toNat, by omega⟩
        obtain ⟨v, R, e1, e2⟩ := f27g hx hsh h30 (k := q) (by omega) hm
        exact callPure_frz (by simp [idFreeL, AV.idFree, fx]) (by simp) e1 e2
    · rw [if_pos hsh, if_neg h30]
      simp only [if_pos hsh, if_neg h30] at e55
      refine callPure_free (H1 := []) (by simp [idFreeL, AV.idFree, fx]) (by simp) ?_ rfl
      obtain ⟨m, rfl⟩ : ∃ j, m = j + 1 := ⟨m - 1, by omega⟩
      have e55 := fun H => e55 m (by omega) H
      refine f_enter rfl rfl ?_
      generalize evF tab it m = call at *
      repeat' first
 | (apply s_mov; exact aW)
 | (apply c_nil)
 | (apply s_neq; exact rfl; all_goals (intro _; try (exfalso; omega)))
 | (apply s_cn; exact aO; exact e55 _)
 | (apply c_seq)
 | (apply c_reg)
 | (apply c_ret)
 | (apply c_condT; exact rfl)
 | (with_reducible apply k_c)
      exact fin_bad rfl rfl
  · rw [if_neg hsh]
    simp only [if_neg hsh] at e55
    refine callPure_free (H1 := []) (by simp [idFreeL, AV.idFree, fx]) (by simp) ?_ rfl
    obtain ⟨m, rfl⟩ : ∃ j, m = j + 1 := ⟨m - 1, by omega⟩
    have e55 := fun H => e55 m (by omega) H
    refine f_enter rfl rfl ?_
    generalize evF tab it m = call at *
    repeat' first
 | (apply s_mov; exact aW)
 | (apply c_nil)
 | (apply s_neq; exact rfl; all_goals (intro _; try (exfalso; omega)))
 | (apply s_cn; exact aO; exact e55 _)
 | (apply c_seq)
 | (apply c_reg)
 | (apply c_ret)
 | (apply c_condT; exact rfl)
 | (with_reducible apply k_c)
    exact fin_bad rfl rfl
end Go.AM.Tb
