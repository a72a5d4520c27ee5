/- A part of the proof: T34. -/
import Derived.Test.YtdgkchedoooffaaT33
set_option linter.unusedVariables false
set_option linter.unusedSimpArgs false
set_option linter.unusedSectionVars false
namespace Go.AM.Tb
set_option maxHeartbeats 4000000
theorem ans_ok {s : List Int} (h : IsSh s) (h3 : siz s ≤ 30) : ans26 s = .tup [.int .i64 (cntS s : Int), .int .i64 0] := by unfold ans26; rw [if_pos h, if_pos h3]
theorem walk8 {call : CallF} {m : Nat} (hm : 1000 ≤ m) {vs : AV} {s : List Int} (hv : IsL vs s) (hsh : IsSh s) (h30 : siz s ≤ 30) (h0 : s ≠ [])
    (e26 : ∀ {v : AV} {s : List Int} {a : AV} {H : Heap}, IsL v s → s.length ≤ 1000 → frzL H 140 [a] = some [v] → callPure call true 26 [a] H = some (ans26 s, H))
    (e23 : ∀ H, callPure call true 23 [] H = some (.bool true, H)) :
    evC call it m sq8_24 0 (finish 0 [.t 2]) (fun _ _ _ => none) (finish 0 [.t 2]) (bindEnv [3, 4, 6] 0 [vs, .int .i64 (cntS s : Int), .int .i64 (cntS s : Int)]) [] = some (.bool true, []) := by
  have fv := hv.free
  have hl0 : 0 < s.length := Nat.pos_of_ne_zero fun e => h0 (List.length_eq_zero_iff.1 e)
  have hls := len_siz hsh
  have hs0 : (lam s 0 : Int) = getI s 0 := (hsh.pos hl0).2
  have hb0 := lam_siz (l := s) hl0
  have hgs : ∀ t : Nat, t < s.length → (lam s t : Int) = getI s (t : Int) := fun t ht => (hsh.pos ht).2
  have hcl := cnt_le hsh h30
  refine (k_c ?_)
  repeat' first
 | (apply s_mov; exact aW)
 | (apply c_nil)
 | (apply c_seq)
 | (apply c_reg)
 | (apply c_block)
 | (apply c_preF; exact aK; exact aF)
 | (with_reducible apply k_c)
  refine c_loop ?_
  refine loop_gc (σ := Nat) (fun c => [vs, .int .i64 (cntS s : Int), .int .i64 (cntS s : Int), oL 0 (nL ((trS s).take c)), .int .i64 (c : Int)]) (fun c => oLH (nL ((trS s).take c))) (fun c => c ≤ lam s 0) (fun c => lam s 0 - c) ?_ _ 0 _ _ (by omega) (by omega) (gc_to rfl (by simp [idFreeL, AV.idFree, fv, oL, nL]))
  intro c hc K hK
  have htl : (nL ((trS s).take c)).length = c := by rw [nL_len, List.length_take, trS_len]; omega
  have hgc : ∀ gs, idFreeL gs = true → gc 0 ([vs, .int .i64 (cntS s : Int), .int .i64 (cntS s : Int)] ++ oL 0 (nL ((trS s).take c)) :: gs) (oLH (nL ((trS s).take c))) = some ([vs, .int .i64 (cntS s : Int), .int .i64 (cntS s : Int)] ++ oL 0 (nL ((trS s).take c)) :: gs, oLH (nL ((trS s).take c))) := fun gs hg => gcO (by simp [idFreeL, AV.idFree, fv]) (by simp) hg
  by_cases hcl0 : c < lam s 0
  · have happ : ∀ y, evE call (oLH (nL ((trS s).take c))) (.app false 1 8) [oL 0 (nL ((trS s).take c)), .rd 1 1 [.int .i64 y]] = some (.sl (oN (nL ((trS s).take c))) 1 0 (c + 1), oA (nL ((trS s).take c)) y) := fun y => by
      have := e_appO (call := call) (l := nL ((trS s).take c)) (v := y) (q := 8) (by omega)
      rwa [htl] at this
    have htk : nL ((trS s).take (c + 1)) = nL ((trS s).take c) ++ [(cR (lam s) s.length c : Int)] := by
      rw [List.take_succ_eq_append_getElem (by rw [trS_len]; exact hcl0), nL_append]
      have := trS_get hcl0
      simp only [List.getD, List.getElem?_eq_getElem (by rw [trS_len]; exact hcl0 : c < (trS s).length), Option.getD_some] at this
      rw [this]
      rfl
    have hK' := hK (c + 1)
    rw [htk] at hK'
    obtain ⟨o1, o2⟩ := oL_snoc (nL ((trS s).take c)) (cR (lam s) s.length c : Int)
    rw [o1, o2, htl] at hK'
    have g6 : ∀ gs, idFreeL gs = true → gc 0 ([vs, .int .i64 (cntS s : Int), .int .i64 (cntS s : Int)] ++ .sl (oN (nL ((trS s).take c))) 1 0 (c + 1) :: gs) (oA (nL ((trS s).take c)) (cR (lam s) s.length c : Int)) = some ([vs, .int .i64 (cntS s : Int), .int .i64 (cntS s : Int)] ++ .sl 0 1 0 (c + 1) :: gs, [some (.data (iL (nL ((trS s).take c) ++ [(cR (lam s) s.length c : Int)])))]) := fun gs hg => gcD (oA_get _ _) (by simp [idFreeL, AV.idFree, fv]) (by simp) hg
    have g7 : ∀ gs, idFreeL gs = true → gc 0 ([vs, .int .i64 (cntS s : Int), .int .i64 (cntS s : Int)] ++ .sl 0 1 0 (c + 1) :: gs) [some (HO.data (iL (nL ((trS s).take c) ++ [(cR (lam s) s.length c : Int)])))] = some ([vs, .int .i64 (cntS s : Int), .int .i64 (cntS s : Int)] ++ .sl 0 1 0 (c + 1) :: gs, [some (.data (iL (nL ((trS s).take c) ++ [(cR (lam s) s.length c : Int)])))]) := fun gs hg => gcD rfl (by simp [idFreeL, AV.idFree, fv]) (by simp) hg
    have happ' := happ (cR (lam s) s.length c : Int)
    clear happ
    generalize oLH (nL ((trS s).take c)) = H0 at *
    generalize hw : oL 0 (nL ((trS s).take c)) = w at *
    generalize oA (nL ((trS s).take c)) (cR (lam s) s.length c : Int) = H1 at *
    repeat' first
 | (apply s_mov; exact aW)
 | (apply c_nil)
 | (apply s_lss; exact rfl; all_goals (intro _; try (exfalso; omega)))
 | (apply s_idx; exact aW; exact rfl; exact aI; omega)
 | (apply s_ldI; exact rfl; omega)
 | (apply c_seq)
 | (apply c_reg)
 | (apply c_block)
 | (apply c_skip)
 | (apply c_condT; exact rfl)
 | (with_reducible apply k_c)
    refine c_loop ?_
    refine loop_gc (σ := Nat) (fun i => [vs, .int .i64 (cntS s : Int), .int .i64 (cntS s : Int), w, .int .i64 (c : Int), .int .i64 ((sN i (fun i => if c < lam s i then 1 else 0) : Nat) : Int), .int .i64 (i : Int)]) (fun _ => H0) (fun i => i ≤ s.length) (fun i => s.length - i) ?_ _ 0 _ _ (by omega) (by omega) (hgc _ rfl)
    intro i hi K2 hK2
    have hsb : sN i (fun i => if c < lam s i then 1 else 0) ≤ i := by
      have : ∀ q, sN q (fun i => if c < lam s i then 1 else 0) ≤ q := by
        intro q
        induction q with
        | zero => simp [sN]
        | succ q ih => simp only [sN]; split <;> omega
      exact this i
    by_cases hil : i < s.length
    · have hgi := hgs i hil
      have hsucc : sN (i + 1) (fun i => if c < lam s i then 1 else 0) = sN i (fun i => if c < lam s i then 1 else 0) + (if c < lam s i then 1 else 0) := rfl
      have hK2' := hK2 (i + 1)
      rw [hsucc] at hK2'
      generalize sN i (fun i => if c < lam s i then 1 else 0) = S at *
      by_cases hci : c < lam s i
      · rw [if_pos hci] at hK2'
        repeat' first
 | (apply s_mov; exact aW)
 | (apply c_nil)
 | (apply s_lss; exact rfl; all_goals (intro _; try (exfalso; omega)))
 | (apply s_gtr; exact rfl; all_goals (intro _; try (exfalso; omega)))
 | (apply s_add; exact rfl; omega)
 | (apply s_len; exact aW; exact aI)
 | (apply s_idx; exact aW; exact rfl; exact aI; omega)
 | (apply s_ldI; exact rfl; omega)
 | (apply c_seq)
 | (apply c_reg)
 | (apply c_block)
 | (apply c_skip)
 | (apply c_condT; exact rfl)
 | (with_reducible apply k_c)
        exact hK2' _ _ (by omega) (by omega) (hgc _ rfl)
      · rw [if_neg hci] at hK2'
        repeat' first
 | (apply s_mov; exact aW)
 | (apply c_nil)
 | (apply s_lss; exact rfl; all_goals (intro _; try (exfalso; omega)))
 | (apply s_gtr; exact rfl; all_goals (intro _; try (exfalso; omega)))
 | (apply s_add; exact rfl; omega)
 | (apply s_len; exact aW; exact aI)
 | (apply s_idx; exact aW; exact rfl; exact aI; omega)
 | (apply s_ldI; exact rfl; omega)
 | (apply c_seq)
 | (apply c_reg)
 | (apply c_block)
 | (apply c_skip)
 | (apply c_condT; exact rfl)
 | (apply c_condF; exact rfl)
 | (with_reducible apply k_c)
        exact hK2' _ _ (by omega) (by omega) (hgc _ rfl)
    · obtain rfl : i = s.length := by omega
      have hcr : sN s.length (fun i => if c < lam s i then 1 else 0) = cR (lam s) s.length c := rfl
      rw [hcr]
      repeat' first
 | (apply s_mov; exact aW)
 | (apply c_nil)
 | (apply s_lss; exact rfl; all_goals (intro _; try (exfalso; omega)))
 | (apply s_add; exact rfl; omega)
 | (apply c_pre; exact hgc _ rfl)
 | (apply s_en; exact aO; exact e_bld1 rfl rfl rfl rfl)
 | (apply s_en; exact aO; exact happ')
 | (apply c_pre; exact g6 _ rfl)
 | (apply s_len; exact aW; exact aI)
 | (apply c_seq)
 | (apply c_reg)
 | (apply c_exitH)
 | (apply c_condF; exact rfl)
 | (with_reducible apply k_c)
      exact hK' _ _ (by omega) (by omega) (g7 _ rfl)
  · obtain rfl : c = lam s 0 := by omega
    have htk : (trS s).take (lam s 0) = trS s := by rw [← trS_len, List.take_length]
    rw [htk] at htl ⊢
    have hc1 : 0 < lam s 0 := (hsh.pos hl0).1
    have o1 : oL 0 (nL (trS s)) = .sl 0 1 0 (lam s 0) := by unfold oL; rw [htl, if_neg (by omega)]
    have o2 : oLH (nL (trS s)) = [some (.data (iL (nL (trS s))))] := by unfold oLH; rw [htl, if_neg (by omega)]
    rw [o1, o2]
    have g8 : gc 0 ([.int .i64 (cntS s : Int), .int .i64 (cntS s : Int)] ++ .sl 0 1 0 (lam s 0) :: []) [some (HO.data (iL (nL (trS s))))] = some ([.int .i64 (cntS s : Int), .int .i64 (cntS s : Int)] ++ .sl 0 1 0 (lam s 0) :: [], [some (.data (iL (nL (trS s))))]) := gcD rfl rfl (by simp) rfl
    have ec : callPure call true 26 [.sl 0 1 0 (lam s 0)] [some (HO.data (iL (nL (trS s))))] = some (.tup [.int .i64 (cntS s : Int), .int .i64 0], [some (.data (iL (nL (trS s))))]) := by
      have := e26 (v := .rd 1 (lam s 0) (iL (nL (trS s)))) (s := nL (trS s)) (a := .sl 0 1 0 (lam s 0)) (H := [some (HO.data (iL (nL (trS s))))]) (rd_isL htl) (by omega) (by
        rw [show (140 : Nat) = 139 + 1 from rfl, frzL_cons, show (139 : Nat) = 138 + 1 from rfl, frz_row rfl (by omega), frzL_nil, List.take_of_length_le (by omega)]
        rfl)
      rw [this, ans_ok (trS_sh hsh h0) (by rw [trS_siz hsh h0]; exact h30), trS_cnt hsh h0]
    repeat' first
 | (apply s_mov; exact aW)
 | (apply s_gT; exact rfl)
 | (apply c_nil)
 | (apply s_pickT; exact rfl; exact aW)
 | (apply s_lss; exact rfl; all_goals (intro _; try (exfalso; omega)))
 | (apply s_eql; exact rfl; all_goals (intro _; try (exfalso; omega)))
 | (apply c_pre; exact g8)
 | (apply s_cn; exact aO; exact ec)
 | (apply s_cn; exact aO; exact e23 _)
 | (apply s_idx; exact aW; exact rfl; exact aI; omega)
 | (apply s_ldI; exact rfl; omega)
 | (apply s_pd; exact aW)
 | (apply c_seq)
 | (apply c_reg)
 | (apply c_exitH)
 | (apply c_ret)
 | (apply c_condF; exact rfl)
 | (with_reducible apply k_c)
    all_goals first
      | (exfalso; omega)
      | exact fin_t (by (conv => lhs; whnf)) (by rfl) rfl
theorem f8 {x : AV} {l : List Int} (hx : IsL x l) : ∃ m H', evF tab it m 8 [x] [] = some (.bool true, H') := by
  refine ⟨60001, [], ?_⟩
  have fx := hx.free
  obtain ⟨s, hsh, h30, e38⟩ := c38 hx (m := 60000) (by omega)
  have hls := len_siz hsh
  have hv := isL_fz s
  have e26 := fun H => c26 hv (by omega) (m := 60000) (by omega) H
  rw [ans_ok hsh h30] at e26
  have e26o := fun {v : AV} {s : List Int} {a : AV} {H : Heap} (h1 : IsL v s) (h2 : s.length ≤ 1000) (h3 : frzL H 140 [a] = some [v]) => c26o h1 h2 (m := 60000) (by omega) h3
  have e23 := fun H => awakeN (m := 60000) (by omega) H
  have hcl := cnt_le hsh h30
  have fv := fzL_free s
  refine f_enter rfl rfl ?_
  generalize hvs : fzL s = vs at *
  generalize evF tab it 60000 = call at *
  by_cases h0 : s = []
  · subst h0
    rw [cntS_nil] at e26
    have hl : ([] : List Int).length = 0 := rfl
    have hlen : ∀ H, evP H .len [vs] = some (.int .i64 0) := fun H => p_len hv
    repeat' first
 | (apply s_mov; exact aW)
 | (apply s_gT; exact rfl)
 | (apply c_nil)
 | (apply s_pickT; exact rfl; exact aW)
 | (apply s_pickF; exact rfl; exact aW)
 | (apply s_eql; exact rfl; all_goals (intro _; try (exfalso; omega)))
 | (apply s_neq; exact rfl; all_goals (intro _; try (exfalso; omega)))
 | (apply s_cn; exact aO; exact e38 _)
 | (apply s_cn; exact aO; exact e26 _)
 | (apply s_pn; exact aO; exact hlen _)
 | (apply s_cn; exact aO; exact e23 _)
 | (apply s_pd; exact aW)
 | (apply c_seq)
 | (apply c_reg)
 | (apply c_ret)
 | (apply c_condT; exact rfl)
 | (with_reducible apply k_c)
    all_goals first
      | (exfalso; omega)
      | exact fin_t (by (conv => lhs; whnf)) (by rfl) rfl
  · have hl0 : s.length ≠ 0 := fun e => h0 (List.length_eq_zero_iff.1 e)
    have w := walk8 (call := call) (m := 60000) (by omega) hv hsh h30 h0 e26o e23
    repeat' first
 | (apply s_mov; exact aW)
 | (apply s_gT; exact rfl)
 | (apply c_nil)
 | (apply s_pickF; exact rfl; exact aW)
 | (apply s_eql; exact rfl; all_goals (intro _; try (exfalso; omega)))
 | (apply s_neq; exact rfl; all_goals (intro _; try (exfalso; omega)))
 | (apply s_cn; exact aO; exact e38 _)
 | (apply s_cn; exact aO; exact e26 _)
 | (apply s_len; exact aW; exact aI)
 | (apply s_pd; exact aW)
 | (apply c_seq)
 | (apply c_reg)
 | (apply c_block)
 | (apply c_skip)
 | (apply c_condF; exact rfl)
 | (with_reducible apply k_c)
    refine c_loop ?_
    refine loop_gc (σ := Nat) (fun i => [vs, .int .i64 (cntS s : Int), .int .i64 ((sN i (fun j => if crn s j then cntS (lessL s j) else 0) : Nat) : Int), .int .i64 (i : Int)]) (fun _ => []) (fun i => i ≤ s.length) (fun i => s.length - i) ?_ _ 0 _ _ (by omega) (by omega) (gc_to rfl (by simp [idFreeL, AV.idFree, *]; done))
    intro i hi K hK
    have hmono := sN_mono (f := fun j => if crn s j then cntS (lessL s j) else 0) hi
    rw [← cntS_eq hsh h0] at hmono
    by_cases hj : i < s.length
    · have hsucc : sN (i + 1) (fun j => if crn s j then cntS (lessL s j) else 0) = sN i (fun j => if crn s j then cntS (lessL s j) else 0) + (if crn s i then cntS (lessL s i) else 0) := rfl
      have hmono2 := sN_mono (f := fun j => if crn s j then cntS (lessL s j) else 0) (show i + 1 ≤ s.length by omega)
      rw [← cntS_eq hsh h0] at hmono2
      have hK' := hK (i + 1)
      rw [hsucc] at hK' hmono2
      have hj1 := (hsh i hj).1
      have hj2 := getI_le hsh h30 i hj
      by_cases hc : crn s i = true
      · rw [if_pos hc] at hK' hmono2
        have hless := less_siz hsh hj hc
        have hlsh := less_sh hsh hj hc
        have hans := ans_ok hlsh (by omega)
        have hc' : ¬ (i + 1 < s.length ∧ getI s ((i + 1 : Nat) : Int) = getI s (i : Int)) := by unfold crn at hc; rw [Bool.not_eq_true', decide_eq_false_iff_not] at hc; exact hc
        have hadd : ((sN i (fun j => if crn s j then cntS (lessL s j) else 0) + cntS (lessL s i) : Nat) : Int) = (sN i (fun j => if crn s j then cntS (lessL s j) else 0) : Nat) + (cntS (lessL s i) : Int) := by omega
        rw [hadd] at hK'
        have a1 : ∀ call q, evE call [] (.app false 1 q) [.nilS, vs] = some (.sl 0 1 0 s.length, [some (.data (iL s))]) := fun call q => e_app_nil (H := []) (isL_rd hv h0) hl0 (by unfold most; omega)
        have hd0 : Heap.data? [some (HO.data (iL s))] 0 = some (iL s) := rfl
        have p1 := p_ldO hd0 hj
        have p2 : ∀ call, evE call [some (HO.data (iL s))] (.st 1) [.ptr 0 (0 + ((i : Nat) : Int).toNat * 1), .int .i64 (getI s (i : Int) - 1)] = some (.undef, [some (.data (iL (s.set i (getI s (i : Int) - 1))))]) := fun call => e_stO' hd0 hj
        have hd1 : Heap.data? [some (HO.data (iL (s.set i (getI s (i : Int) - 1))))] 0 = some (iL (s.set i (getI s (i : Int) - 1))) := rfl
        have p3 := p_ldO hd1 (i := i) (by simpa using hj)
        rw [set_get hj, if_pos rfl] at p3
        have p4 : ∀ H, evP H (.slc 1 false true) [.sl 0 1 0 s.length, .int .i64 (i : Int)] = some (.sl 0 1 0 i) := fun H => by
          simp [evP, natOf, slcOf, show i ≤ s.length by omega]
        have hlen : (lessL s i).length ≤ 1000 := by rcases less_len hsh hj hc with e | ⟨e, _⟩ <;> omega
        have ecA : getI s (i : Int) = 1 → callPure call true 26 [.sl 0 1 0 i] [some (HO.data (iL (s.set i (getI s (i : Int) - 1))))] = some (.tup [.int .i64 (cntS (lessL s i) : Int), .int .i64 0], [some (HO.data (iL (s.set i (getI s (i : Int) - 1))))]) := fun h1 => by
          rw [← hans]
          refine e26o (v := .rd 1 i (iL (lessL s i))) (rd_isL (by unfold lessL; rw [if_pos h1, List.length_take]; omega)) hlen ?_
          rw [show (140 : Nat) = 139 + 1 from rfl, frzL_cons, show (139 : Nat) = 138 + 1 from rfl, frz_row rfl (by simp; omega), frzL_nil, List.take_set_of_le (Nat.le_refl _)]
          unfold lessL
          rw [if_pos h1]
          rfl
        have ecB : getI s (i : Int) ≠ 1 → callPure call true 26 [.sl 0 1 0 s.length] [some (HO.data (iL (s.set i (getI s (i : Int) - 1))))] = some (.tup [.int .i64 (cntS (lessL s i) : Int), .int .i64 0], [some (HO.data (iL (s.set i (getI s (i : Int) - 1))))]) := fun h1 => by
          rw [← hans]
          refine e26o (v := .rd 1 s.length (iL (lessL s i))) (rd_isL (by unfold lessL; rw [if_neg h1, List.length_set])) hlen ?_
          rw [show (140 : Nat) = 139 + 1 from rfl, frzL_cons, show (139 : Nat) = 138 + 1 from rfl, frz_row rfl (by simp), frzL_nil, List.take_of_length_le (by simp)]
          unfold lessL
          rw [if_neg h1]
          rfl
        generalize sN i (fun j => if crn s j then cntS (lessL s j) else 0) = S at *
        generalize cntS (lessL s i) = c at *
        by_cases h1 : getI s (i : Int) = 1
        · have ec := ecA h1
          by_cases hl2 : i + 1 < s.length
          · have hne : getI s ((i : Int) + 1) ≠ getI s (i : Int) := fun e => hc' ⟨hl2, by rw [Int.natCast_add]; exact e⟩
            repeat' first
 | (apply s_mov; exact aW)
 | (apply s_gT; exact rfl)
 | (apply c_nil)
 | (apply s_pickT; exact rfl; exact aW)
 | (apply s_lss; exact rfl; all_goals (intro _; try (exfalso; omega)))
 | (apply s_eql; exact rfl; all_goals (intro _; try (exfalso; omega)))
 | (apply s_neq; exact rfl; all_goals (intro _; try (exfalso; omega)))
 | (apply s_add; exact rfl; omega)
 | (apply s_sub; exact rfl; omega)
 | (apply s_en; exact aO; exact a1 _ _)
 | (apply s_pn; exact aO; exact p1)
 | (apply s_st; exact aO; exact p2 _)
 | (apply s_pn; exact aO; exact p3)
 | (apply s_pn; exact aO; exact p4 _)
 | (apply s_cn; exact aO; exact ec)
 | (apply s_len; exact aW; exact aI)
 | (apply s_idx; exact aW; exact rfl; exact aI; omega)
 | (apply s_idxS; exact rfl; exact rfl; omega)
 | (apply s_ldI; exact rfl; omega)
 | (apply s_pd; exact aW)
 | (apply c_seq)
 | (apply c_reg)
 | (apply c_block)
 | (apply c_skip)
 | (apply c_condT; exact rfl)
 | (apply c_condF; exact rfl)
 | (with_reducible apply k_c)
            all_goals first
              | (exfalso; omega)
              | exact hK' _ _ (by omega) (by omega) (gc_to rfl (by simp [idFreeL, AV.idFree, *]; done))
          · skip
            repeat' first
 | (apply s_mov; exact aW)
 | (apply s_gF; exact rfl)
 | (apply c_nil)
 | (apply s_pickF; exact rfl; exact aW)
 | (apply s_lss; exact rfl; all_goals (intro _; try (exfalso; omega)))
 | (apply s_eql; exact rfl; all_goals (intro _; try (exfalso; omega)))
 | (apply s_neq; exact rfl; all_goals (intro _; try (exfalso; omega)))
 | (apply s_add; exact rfl; omega)
 | (apply s_sub; exact rfl; omega)
 | (apply s_en; exact aO; exact a1 _ _)
 | (apply s_pn; exact aO; exact p1)
 | (apply s_st; exact aO; exact p2 _)
 | (apply s_pn; exact aO; exact p3)
 | (apply s_pn; exact aO; exact p4 _)
 | (apply s_cn; exact aO; exact ec)
 | (apply s_len; exact aW; exact aI)
 | (apply s_idxS; exact rfl; exact rfl; omega)
 | (apply s_pd; exact aW)
 | (apply c_seq)
 | (apply c_reg)
 | (apply c_block)
 | (apply c_skip)
 | (apply c_condT; exact rfl)
 | (apply c_condF; exact rfl)
 | (with_reducible apply k_c)
            all_goals first
              | (exfalso; omega)
              | exact hK' _ _ (by omega) (by omega) (gc_to rfl (by simp [idFreeL, AV.idFree, *]; done))
        · have ec := ecB h1
          by_cases hl2 : i + 1 < s.length
          · have hne : getI s ((i : Int) + 1) ≠ getI s (i : Int) := fun e => hc' ⟨hl2, by rw [Int.natCast_add]; exact e⟩
            repeat' first
 | (apply s_mov; exact aW)
 | (apply s_gT; exact rfl)
 | (apply c_nil)
 | (apply s_pickT; exact rfl; exact aW)
 | (apply s_lss; exact rfl; all_goals (intro _; try (exfalso; omega)))
 | (apply s_eql; exact rfl; all_goals (intro _; try (exfalso; omega)))
 | (apply s_neq; exact rfl; all_goals (intro _; try (exfalso; omega)))
 | (apply s_add; exact rfl; omega)
 | (apply s_sub; exact rfl; omega)
 | (apply s_en; exact aO; exact a1 _ _)
 | (apply s_pn; exact aO; exact p1)
 | (apply s_st; exact aO; exact p2 _)
 | (apply s_pn; exact aO; exact p3)
 | (apply s_cn; exact aO; exact ec)
 | (apply s_len; exact aW; exact aI)
 | (apply s_idx; exact aW; exact rfl; exact aI; omega)
 | (apply s_idxS; exact rfl; exact rfl; omega)
 | (apply s_ldI; exact rfl; omega)
 | (apply s_pd; exact aW)
 | (apply c_seq)
 | (apply c_reg)
 | (apply c_block)
 | (apply c_skip)
 | (apply c_condT; exact rfl)
 | (apply c_condF; exact rfl)
 | (with_reducible apply k_c)
            all_goals first
              | (exfalso; omega)
              | exact hK' _ _ (by omega) (by omega) (gc_to rfl (by simp [idFreeL, AV.idFree, *]; done))
          · skip
            repeat' first
 | (apply s_mov; exact aW)
 | (apply s_gF; exact rfl)
 | (apply c_nil)
 | (apply s_pickF; exact rfl; exact aW)
 | (apply s_lss; exact rfl; all_goals (intro _; try (exfalso; omega)))
 | (apply s_eql; exact rfl; all_goals (intro _; try (exfalso; omega)))
 | (apply s_neq; exact rfl; all_goals (intro _; try (exfalso; omega)))
 | (apply s_add; exact rfl; omega)
 | (apply s_sub; exact rfl; omega)
 | (apply s_en; exact aO; exact a1 _ _)
 | (apply s_pn; exact aO; exact p1)
 | (apply s_st; exact aO; exact p2 _)
 | (apply s_pn; exact aO; exact p3)
 | (apply s_cn; exact aO; exact ec)
 | (apply s_len; exact aW; exact aI)
 | (apply s_idxS; exact rfl; exact rfl; omega)
 | (apply s_pd; exact aW)
 | (apply c_seq)
 | (apply c_reg)
 | (apply c_block)
 | (apply c_skip)
 | (apply c_condT; exact rfl)
 | (apply c_condF; exact rfl)
 | (with_reducible apply k_c)
            all_goals first
              | (exfalso; omega)
              | exact hK' _ _ (by omega) (by omega) (gc_to rfl (by simp [idFreeL, AV.idFree, *]; done))
      · rw [if_neg hc, Nat.add_zero] at hK' hmono2
        have hc2 : i + 1 < s.length ∧ getI s ((i + 1 : Nat) : Int) = getI s (i : Int) := by
          unfold crn at hc
          rw [Bool.not_eq_true', decide_eq_false_iff_not, Classical.not_not] at hc
          exact hc
        have he : getI s ((i : Int) + 1) = getI s (i : Int) := by rw [← hc2.2, Int.natCast_add]; rfl
        have hc1 := hc2.1
        generalize sN i (fun j => if crn s j then cntS (lessL s j) else 0) = S at *
        repeat' first
 | (apply s_mov; exact aW)
 | (apply s_gT; exact rfl)
 | (apply c_nil)
 | (apply s_pickT; exact rfl; exact aW)
 | (apply s_lss; exact rfl; all_goals (intro _; try (exfalso; omega)))
 | (apply s_eql; exact rfl; all_goals (intro _; try (exfalso; omega)))
 | (apply s_add; exact rfl; omega)
 | (apply s_len; exact aW; exact aI)
 | (apply s_idx; exact aW; exact rfl; exact aI; omega)
 | (apply s_ldI; exact rfl; omega)
 | (apply c_seq)
 | (apply c_reg)
 | (apply c_block)
 | (apply c_exitH)
 | (apply c_skip)
 | (apply c_condT; exact rfl)
 | (with_reducible apply k_c)
        all_goals first
          | (exfalso; omega)
          | exact hK' _ _ (by omega) (by omega) (gc_to rfl (by simp [idFreeL, AV.idFree, *]; done))
    · obtain rfl : i = s.length := by omega
      rw [← cntS_eq hsh h0]
      have g5 : gc 0 [vs, .int .i64 (cntS s : Int), .int .i64 (cntS s : Int)] [] = some ([vs, .int .i64 (cntS s : Int), .int .i64 (cntS s : Int)], []) := gc_free (by simp [idFreeL, AV.idFree, fv]) []
      repeat' first
 | (apply s_mov; exact aW)
 | (apply c_nil)
 | (apply s_lss; exact rfl; all_goals (intro _; try (exfalso; omega)))
 | (exact ⟨w⟩)
 | (apply s_len; exact aW; exact aI)
 | (apply c_seq)
 | (apply c_reg)
 | (with_reducible apply k_c)
end Go.AM.Tb
