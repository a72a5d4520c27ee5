/- A part of the proof: T25. -/
import Derived.Test.YtdgkchedoooffaaT24
import Derived.Test.YtdgkchedoooffaaTC6
set_option linter.unusedVariables false
set_option linter.unusedSimpArgs false
set_option linter.unusedSectionVars false
namespace Go.AM.Tb
set_option maxHeartbeats 4000000
theorem p_ldN {ns : List Nat} {i : Nat} (hi : i < ns.length) : evP [some (HO.data (iL (nL ns)))] (.ld false 1) [.ptr 0 (0 + ((i : Nat) : Int).toNat * 1)] = some (.int .i64 ((ns.getD i 0 : Nat) : Int)) := by
  have hd : Heap.data? [some (HO.data (iL (nL ns)))] 0 = some (iL (nL ns)) := rfl
  have := p_ldO hd (i := i) (by rw [nL_len]; exact hi)
  rwa [nL_get] at this
theorem e_stN {call : CallF} {ns : List Nat} {i v : Nat} (hi : i < ns.length) : evE call [some (HO.data (iL (nL ns)))] (.st 1) [.ptr 0 (0 + ((i : Nat) : Int).toNat * 1), .int .i64 (v : Int)] = some (.undef, [some (.data (iL (nL (ns.set i v))))]) := by
  have hd : Heap.data? [some (HO.data (iL (nL ns)))] 0 = some (iL (nL ns)) := rfl
  have := e_stO' (call := call) (v := (v : Int)) hd (i := i) (by rw [nL_len]; exact hi)
  rw [nL_set] at this
  exact this
theorem walk30 {call : CallF} {s : List Int} (hsh : IsSh s) (h30 : siz s ≤ 30) (h1 : 1 ≤ siz s) {m : Nat} (hm : 1100 ≤ m)
    (e58 : ∀ {a b : Nat} H, a < 1000000 → b ≤ 1000 → callPure call true 58 [.int .i64 (a : Int), .int .i64 (b : Int)] H = some (.int .i64 (Nat.gcd a b : Int), H)) :
    evC call it m sq30_25 0 (finish 0 [.t 2]) (fun _ _ _ => none) (finish 0 [.t 2]) ((9, .int .i64 1) :: bindEnv [3, 4] 0 [.int .i64 (siz s : Int), .sl 0 1 0 (hkA s s.length).length]) [some (HO.data (iL (nL (hkA s s.length))))] = some (.int .i64 (cntS s : Int), []) := by
  have hls := len_siz hsh
  have hL : (hkA s s.length).length = siz s := hkA_len s s.length
  have hP : pL (hkA s s.length) = hN (lam s) s.length := hkA_pL s s.length
  have hbd : ∀ h ∈ hkA s s.length, 1 ≤ h ∧ h ≤ 100 := fun h hh => by
    obtain ⟨i, k, h1, h2, rfl⟩ := hkA_mem hh
    have := lam_siz (l := s) h1
    have := cN_le (lam s) i k s.length
    omega
  have hc := cnt_hook _ s hsh rfl
  rw [← hP] at hc
  have hP0 := pL_pos _ fun h hh => (hbd h hh).1
  have hcl := cnt_le hsh h30
  have hstart : HO' (pL (hkA s s.length)) 2 1 (hkA s s.length) := ⟨by simp [facN], by omega, fun h _ => Nat.coprime_one_left h, hbd⟩
  have hgc : ∀ (pre gs : List AV) n c, idFreeL pre = true → pre.length ≤ 20 → idFreeL gs = true → gc 0 (pre ++ .sl 0 1 0 n :: gs) [some (HO.data c)] = some (pre ++ .sl 0 1 0 n :: gs, [some (.data c)]) := fun pre gs n c h1 h2 h3 => gcD rfl h1 h2 h3
  generalize pL (hkA s s.length) = P0 at *
  generalize hkA s s.length = n0 at *
  refine (k_c ?_)
  repeat' first
 | (apply s_mov; exact aW)
 | (apply c_nil)
 | (apply c_seq)
 | (apply c_reg)
 | (apply c_block)
 | (with_reducible apply k_c)
  refine c_loop ?_
  refine loop_gc (σ := Nat × Nat × List Nat) (fun q => [.int .i64 (siz s : Int), .sl 0 1 0 n0.length, .int .i64 (q.2.1 : Int), .int .i64 (q.1 : Int)]) (fun q => [some (HO.data (iL (nL q.2.2)))]) (fun q => HO' P0 q.1 q.2.1 q.2.2 ∧ q.2.2.length = n0.length ∧ 2 ≤ q.1 ∧ q.1 ≤ siz s + 1) (fun q => siz s + 1 - q.1) ?_ _ (2, 1, n0) _ _ ⟨hstart, rfl, by dsimp only; omega, by dsimp only; omega⟩ (by dsimp only; omega) (hgc [.int .i64 (siz s : Int)] _ _ _ rfl (by simp) rfl)
  rintro ⟨x, out, ns⟩ ⟨hO, hl, hx2, hxn⟩ K hK
  dsimp only at hO hl hx2 hxn hK ⊢
  by_cases hxs : x ≤ siz s
  · skip
    repeat' first
 | (apply s_mov; exact aW)
 | (apply c_nil)
 | (apply s_leq; exact rfl; all_goals (intro _; try (exfalso; omega)))
 | (apply c_seq)
 | (apply c_reg)
 | (apply c_block)
 | (apply c_skip)
 | (apply c_condT; exact rfl)
 | (with_reducible apply k_c)
    refine c_loop ?_
    refine loop_gc (σ := Nat × Nat × List Nat) (fun q => [.int .i64 (siz s : Int), .sl 0 1 0 n0.length, .int .i64 (out : Int), .int .i64 (x : Int), .int .i64 (q.2.1 : Int), .int .i64 (q.1 : Int)]) (fun q => [some (HO.data (iL (nL q.2.2)))]) (fun q => HI x out ns q.1 q.2.1 q.2.2 ∧ q.1 ≤ n0.length) (fun q => n0.length - q.1) ?_ _ (0, x, ns) _ _ ⟨hO.start (by omega), by dsimp only; omega⟩ (by dsimp only; omega) (hgc [.int .i64 (siz s : Int)] _ _ _ rfl (by simp) rfl)
    rintro ⟨i, y, ms⟩ ⟨hI, hi⟩ K2 hK2
    dsimp only at hI hi hK2 ⊢
    have hml : ms.length = n0.length := by rw [hI.len, hl]
    by_cases hin : i < n0.length
    · have hst := hI.step (by omega : i < ms.length)
      have hmem := hI.bd _ (getD_mem (ns := ms) (i := i) (d := 0) (by omega))
      have hyl := hI.le
      have hyp := hI.pos
      have p1 := p_ldN (ns := ms) (i := i) (by omega)
      have g0 : 0 < Nat.gcd y (ms.getD i 0) := Nat.gcd_pos_of_pos_left _ hyp
      have ec := fun H => e58 (a := y) (b := ms.getD i 0) H (by omega) (by omega)
      have hst2 := fun v => e_stN (call := call) (ns := ms) (i := i) (v := v) (by omega)
      generalize ms.getD i 0 = h at *
      generalize Nat.gcd y h = g at *
      repeat' first
 | (apply s_mov; exact aW)
 | (apply c_nil)
 | (apply s_lss; exact rfl; all_goals (intro _; try (exfalso; omega)))
 | (apply s_pn; exact aO; exact p1)
 | (apply s_cn; exact aO; exact ec _)
 | (apply s_st; exact aO; exact hst2 _)
 | (apply s_add; exact rfl; omega)
 | (apply s_quoN; exact rfl; omega; omega)
 | (apply s_lenSl; exact rfl)
 | (apply s_idxS; exact rfl; exact rfl; omega)
 | (apply c_seq)
 | (apply c_reg)
 | (apply c_block)
 | (apply c_skip)
 | (apply c_condT; exact rfl)
 | (with_reducible apply k_c)
      exact hK2 (i + 1, y / g, ms.set i (h / g)) _ _ ⟨hst, hin⟩ (by dsimp only; omega) (hgc [.int .i64 (siz s : Int)] _ _ _ rfl (by simp) rfl)
    · obtain rfl : i = n0.length := by omega
      have hnx := hO.next (by omega) (by rw [← hl] at hI; exact hI)
      have hle := hnx.le hP0 hc (by omega)
      have g1 := hgc [.int .i64 (siz s : Int)] [.int .i64 (out : Int), .int .i64 (x : Int), .int .i64 (y : Int)] n0.length (iL (nL ms)) rfl (by simp) rfl
      have g2 := hgc [.int .i64 (siz s : Int)] [.int .i64 ((out * y : Nat) : Int), .int .i64 (x : Int)] n0.length (iL (nL ms)) rfl (by simp) rfl
      repeat' first
 | (apply s_mov; exact aW)
 | (apply c_nil)
 | (apply s_lss; exact rfl; all_goals (intro _; try (exfalso; omega)))
 | (apply c_pre; exact g1)
 | (apply c_pre; exact g2)
 | (apply s_add; exact rfl; omega)
 | (apply s_mulN; exact rfl; omega)
 | (apply s_lenSl; exact rfl)
 | (apply c_seq)
 | (apply c_reg)
 | (apply c_exitH)
 | (apply c_condF; exact rfl)
 | (with_reducible apply k_c)
      exact hK (x + 1, out * y, ms) _ _ ⟨hnx, by dsimp only; omega, by dsimp only; omega, by dsimp only; omega⟩ (by dsimp only; omega) (hgc [.int .i64 (siz s : Int)] _ _ _ rfl (by simp) rfl)
  · have hfin : out = cntS s := by
      obtain rfl : x = siz s + 1 := by omega
      exact hO.fin hP0 hc
    rw [← hfin]
    repeat' first
 | (apply s_mov; exact aW)
 | (apply c_nil)
 | (apply s_leq; exact rfl; all_goals (intro _; try (exfalso; omega)))
 | (apply c_seq)
 | (apply c_reg)
 | (apply c_exitH)
 | (apply c_ret)
 | (apply c_condF; exact rfl)
 | (apply c_preF; exact aK; exact aF)
 | (with_reducible apply k_c)
    exact fin_t (by (conv => lhs; whnf)) (by rfl) rfl
theorem f30 {x : AV} {s : List Int} (hx : IsL x s) (hsh : IsSh s) (h30 : siz s ≤ 30) {m : Nat} (hm : 1200 ≤ m) : evF tab it m 30 [x] [] = some (.int .i64 (cntS s : Int), []) := by
  obtain ⟨m, rfl⟩ : ∃ j, m = j + 1 := ⟨m - 1, by omega⟩
  have fx := hx.free
  have hls := len_siz hsh
  have e29 := fun H => c29 hx hsh (by omega) (b := 30) (by omega) (m := m) (by omega) H
  rw [if_pos h30] at e29
  have e58 := fun {a b : Nat} H (h1 : a < 1000000) (h2 : b ≤ 1000) => c58 h1 h2 (m := m) (by omega) H
  refine f_enter rfl rfl ?_
  generalize evF tab it m = call at *
  repeat' first
 | (apply s_mov; exact aW)
 | (apply c_nil)
 | (apply s_cn; exact aO; exact e29 _)
 | (apply c_seq)
 | (apply c_reg)
 | (apply c_block)
 | (with_reducible apply k_c)
  refine c_loop ?_
  refine loop_gc (σ := Nat) (fun i => [x, .int .i64 (siz s : Int), oL 0 (nL (hkA s i)), .int .i64 (i : Int)]) (fun i => oLH (nL (hkA s i))) (fun i => i ≤ s.length) (fun i => s.length - i) ?_ _ 0 _ _ (by omega) (by omega) (gc_to rfl (by simp [idFreeL, AV.idFree, fx, oL, hkA, nL]))
  intro i hi K hK
  by_cases his : i < s.length
  · have hpi := hsh.pos his
    have hli := getI_le hsh h30 i his
    repeat' first
 | (apply s_mov; exact aW)
 | (apply c_nil)
 | (apply s_lss; exact rfl; all_goals (intro _; try (exfalso; omega)))
 | (apply s_len; exact aW; exact aI)
 | (apply c_seq)
 | (apply c_reg)
 | (apply c_block)
 | (apply c_skip)
 | (apply c_condT; exact rfl)
 | (with_reducible apply k_c)
    refine c_loop ?_
    refine loop_gc (σ := Nat) (fun k => [x, .int .i64 (siz s : Int), oL 0 (nL (hkA s i ++ hkR s i k)), .int .i64 (i : Int), .int .i64 (k : Int)]) (fun k => oLH (nL (hkA s i ++ hkR s i k))) (fun k => k ≤ lam s i) (fun k => lam s i - k) ?_ _ 0 _ _ (by omega) (by omega) ?_
    rotate_left
    · have : hkR s i 0 = [] := rfl
      rw [this, List.append_nil]
      exact gcO (pre := [x, .int .i64 (siz s : Int)]) (gs := [.int .i64 (i : Int), .int .i64 0]) (by simp [idFreeL, AV.idFree, fx]) (by simp) rfl
    intro k hk K2 hK2
    have hkl : (hkA s i ++ hkR s i k).length = sN i (lam s) + k := by rw [List.length_append, hkA_len, hkR_len]
    have hsm := sN_mono (f := lam s) (a := i + 1) (b := s.length) (by omega)
    have hss : sN (i + 1) (lam s) = sN i (lam s) + lam s i := rfl
    have hsz : sN s.length (lam s) = siz s := rfl
    generalize hhs : hkA s i ++ hkR s i k = hs at *
    by_cases hki : k < lam s i
    · have hgc : ∀ gs, idFreeL gs = true → gc 0 ([x, .int .i64 (siz s : Int)] ++ oL 0 (nL hs) :: gs) (oLH (nL hs)) = some ([x, .int .i64 (siz s : Int)] ++ oL 0 (nL hs) :: gs, oLH (nL hs)) := fun gs hg => gcO (by simp [idFreeL, AV.idFree, fx]) (by simp) hg
      have happ : ∀ call v, evE call (oLH (nL hs)) (.app false 1 8) [oL 0 (nL hs), .rd 1 1 [.int .i64 v]] = some (.sl (oN (nL hs)) 1 0 (hs.length + 1), oA (nL hs) v) := fun call v => by
        rw [← nL_len hs]; exact e_appO (by rw [nL_len]; omega)
      have hnx : hkA s i ++ hkR s i (k + 1) = hs ++ [lam s i - k + cN (lam s) i s.length k] := by rw [hkR_succ, ← List.append_assoc, hhs]
      have hK2' := hK2 (k + 1)
      rw [hnx] at hK2'
      clear hK2
      generalize hv : oL 0 (nL hs) = v at *
      generalize oLH (nL hs) = H0 at *
      repeat' first
 | (apply s_mov; exact aW)
 | (apply c_nil)
 | (apply s_lss; exact rfl; all_goals (intro _; try (exfalso; omega)))
 | (apply s_add; exact rfl; omega)
 | (apply s_idx; exact aW; exact rfl; exact aI; omega)
 | (apply s_ldI; exact rfl; omega)
 | (apply c_seq)
 | (apply c_reg)
 | (apply c_block)
 | (apply c_skip)
 | (apply c_condT; exact rfl)
 | (with_reducible apply k_c)
      refine c_loop ?_
      refine loop_gc (σ := Nat) (fun d => [x, .int .i64 (siz s : Int), v, .int .i64 (i : Int), .int .i64 (k : Int), .int .i64 (d : Int), .int .i64 ((i + 1 + d : Nat) : Int)]) (fun _ => H0) (fun d => i + 1 + d ≤ s.length ∧ ∀ t, i < t → t < i + 1 + d → k < lam s t) (fun d => s.length - d) ?_ _ 0 _ _ ⟨by omega, fun t h1 h2 => by omega⟩ (by omega) (hgc _ rfl)
      rintro d ⟨hd, hbd⟩ K3 hK3
      by_cases hmore : i + 1 + d < s.length ∧ k < lam s (i + 1 + d)
      · obtain ⟨m1, m2⟩ := hmore
        have hp := (hsh.pos m1).2
        repeat' first
 | (apply s_mov; exact aW)
 | (apply s_gT; exact rfl)
 | (apply c_nil)
 | (apply s_pickT; exact rfl; exact aW)
 | (apply s_lss; exact rfl; all_goals (intro _; try (exfalso; omega)))
 | (apply s_gtr; exact rfl; all_goals (intro _; try (exfalso; omega)))
 | (apply s_add; exact rfl; omega)
 | (apply s_len; exact aW; exact aI)
 | (apply s_idx; exact aW; exact rfl; exact aI; omega)
 | (apply s_ldI; exact rfl; omega)
 | (apply c_seq)
 | (apply c_reg)
 | (apply c_block)
 | (apply c_skip)
 | (apply c_condT; exact rfl)
 | (with_reducible apply k_c)
        refine hK3 (d + 1) _ _ ⟨by omega, fun t h1 h2 => ?_⟩ (by omega) (hgc _ rfl)
        rcases Nat.lt_or_ge t (i + 1 + d) with h3 | h3
        · exact hbd t h1 h3
        · obtain rfl : t = i + 1 + d := by omega
          exact m2
      · have hcut : cN (lam s) i s.length k = d := by
          have := cN_cut (l := lam s) (i := i) (j := i + 1 + d) (k := k) (by omega) hbd (fun t ht => by
            rcases Nat.lt_or_ge t s.length with h3 | h3
            · have := hsh.mono s.length (i + 1 + d) t ht h3
              have : ¬ k < lam s (i + 1 + d) := fun h => hmore ⟨by omega, h⟩
              omega
            · rw [lam_out h3]; omega) (s.length - (i + 1 + d))
          rw [show i + 1 + d + (s.length - (i + 1 + d)) = s.length by omega] at this
          rw [this]; omega
        have hval : getI s (i : Int) - (k : Int) + (d : Int) = ((lam s i - k + cN (lam s) i s.length k : Nat) : Int) := by rw [hcut]; omega
        have hsnoc : nL (hs ++ [lam s i - k + cN (lam s) i s.length k]) = nL hs ++ [getI s (i : Int) - (k : Int) + (d : Int)] := by rw [hval]; simp [nL]
        rw [hsnoc] at hK2'
        obtain ⟨o1, o2⟩ := oL_snoc (nL hs) (getI s (i : Int) - (k : Int) + (d : Int))
        rw [o1, o2, nL_len] at hK2'
        have g6 : ∀ gs, idFreeL gs = true → gc 0 ([x, .int .i64 (siz s : Int)] ++ .sl (oN (nL hs)) 1 0 (hs.length + 1) :: gs) (oA (nL hs) (getI s (i : Int) - (k : Int) + (d : Int))) = some ([x, .int .i64 (siz s : Int)] ++ .sl 0 1 0 (hs.length + 1) :: gs, [some (.data (iL (nL hs ++ [getI s (i : Int) - (k : Int) + (d : Int)])))]) := fun gs hg => gcD (oA_get _ _) (by simp [idFreeL, AV.idFree, fx]) (by simp) hg
        have g7 : ∀ gs, idFreeL gs = true → gc 0 ([x, .int .i64 (siz s : Int)] ++ .sl 0 1 0 (hs.length + 1) :: gs) [some (HO.data (iL (nL hs ++ [getI s (i : Int) - (k : Int) + (d : Int)])))] = some ([x, .int .i64 (siz s : Int)] ++ .sl 0 1 0 (hs.length + 1) :: gs, [some (.data (iL (nL hs ++ [getI s (i : Int) - (k : Int) + (d : Int)])))]) := fun gs hg => gcD rfl (by simp [idFreeL, AV.idFree, fx]) (by simp) hg
        have hpos : ∀ t, i < t → t < s.length → (lam s t : Int) = getI s (t : Int) := fun t _ h => (hsh.pos h).2
        by_cases hlt : i + 1 + d < s.length
        · have hp := (hsh.pos hlt).2
          have hng : ¬ k < lam s (i + 1 + d) := fun h => hmore ⟨hlt, h⟩
          repeat' first
 | (apply s_mov; exact aW)
 | (apply s_gT; exact rfl)
 | (apply c_nil)
 | (apply s_pickT; exact rfl; exact aW)
 | (apply s_lss; exact rfl; all_goals (intro _; try (exfalso; omega)))
 | (apply s_gtr; exact rfl; all_goals (intro _; try (exfalso; omega)))
 | (apply s_add; exact rfl; omega)
 | (apply s_sub; exact rfl; omega)
 | (apply c_pre; exact hgc _ rfl)
 | (apply s_en; exact aO; exact e_bld1 rfl rfl rfl rfl)
 | (apply s_en; exact aO; exact happ _ _)
 | (apply c_pre; exact g6 _ rfl)
 | (apply s_len; exact aW; exact aI)
 | (apply s_idx; exact aW; exact rfl; exact aI; omega)
 | (apply s_ldI; exact rfl; omega)
 | (apply c_seq)
 | (apply c_reg)
 | (apply c_exitH)
 | (apply c_condF; exact rfl)
 | (with_reducible apply k_c)
          exact hK2' _ _ (by omega) (by omega) (g7 _ rfl)
        · skip
          repeat' first
 | (apply s_mov; exact aW)
 | (apply s_gF; exact rfl)
 | (apply c_nil)
 | (apply s_pickF; exact rfl; exact aW)
 | (apply s_lss; exact rfl; all_goals (intro _; try (exfalso; omega)))
 | (apply s_add; exact rfl; omega)
 | (apply s_sub; exact rfl; omega)
 | (apply c_pre; exact hgc _ rfl)
 | (apply s_en; exact aO; exact e_bld1 rfl rfl rfl rfl)
 | (apply s_en; exact aO; exact happ _ _)
 | (apply c_pre; exact g6 _ rfl)
 | (apply s_len; exact aW; exact aI)
 | (apply s_idx; exact aW; exact rfl; exact aI; omega)
 | (apply s_ldI; exact rfl; omega)
 | (apply c_seq)
 | (apply c_reg)
 | (apply c_exitH)
 | (apply c_condF; exact rfl)
 | (with_reducible apply k_c)
          exact hK2' _ _ (by omega) (by omega) (g7 _ rfl)
    · obtain rfl : k = lam s i := by omega
      have hnx : hkA s (i + 1) = hs := by rw [hkA_succ, hhs]
      have hK' := hK (i + 1)
      rw [hnx] at hK'
      have g4 := fun gs hg => gcO (pre := [x, .int .i64 (siz s : Int)]) (gs := gs) (l := nL hs) (by simp [idFreeL, AV.idFree, fx]) (by simp) hg
      generalize hv : oL 0 (nL hs) = v at *
      generalize oLH (nL hs) = H0 at *
      repeat' first
 | (apply s_mov; exact aW)
 | (apply c_nil)
 | (apply s_lss; exact rfl; all_goals (intro _; try (exfalso; omega)))
 | (apply s_add; exact rfl; omega)
 | (apply c_pre; exact g4 _ rfl)
 | (apply s_idx; exact aW; exact rfl; exact aI; omega)
 | (apply s_ldI; exact rfl; omega)
 | (apply c_seq)
 | (apply c_reg)
 | (apply c_exitH)
 | (apply c_condF; exact rfl)
 | (with_reducible apply k_c)
      exact hK' _ _ (by omega) (by omega) (g4 _ rfl)
  · obtain rfl : i = s.length := by omega
    by_cases h0 : s = []
    · subst h0
      have e1 : oL 0 (nL (hkA [] ([] : List Int).length)) = .nilS := rfl
      have e2 : oLH (nL (hkA [] ([] : List Int).length)) = [] := rfl
      have e3 : siz [] = 0 := rfl
      rw [e1, e2, e3]
      repeat' first
 | (apply s_mov; exact aW)
 | (apply c_nil)
 | (apply s_lss; exact rfl; all_goals (intro _; try (exfalso; omega)))
 | (apply s_len; exact aW; exact aI)
 | (apply c_seq)
 | (apply c_reg)
 | (apply c_block)
 | (apply c_exitH)
 | (apply c_condF; exact rfl)
 | (apply c_preF; exact aK; exact aF)
 | (with_reducible apply k_c)
      refine c_loop ?_
      refine loop_gc (σ := Unit) (fun _ => [.int .i64 0, .nilS, .int .i64 1, .int .i64 2]) (fun _ => []) (fun _ => True) (fun _ => 0) ?_ _ () _ _ trivial (by omega) (gc_to rfl rfl)
      intro _ _ K4 hK4
      repeat' first
 | (apply s_mov; exact aW)
 | (apply c_nil)
 | (apply s_leq; exact rfl; all_goals (intro _; try (exfalso; omega)))
 | (apply c_seq)
 | (apply c_reg)
 | (apply c_exitH)
 | (apply c_ret)
 | (apply c_condF; exact rfl)
 | (apply c_preF; exact aK; exact aF)
 | (with_reducible apply k_c)
      exact fin_t (by (conv => lhs; whnf)) (by rfl) (by rw [cntS_nil]; rfl)
    · have h1 := siz_pos hsh h0
      have hL : (hkA s s.length).length = siz s := hkA_len s s.length
      have w := walk30 (call := call) hsh h30 h1 (m := m) (by omega) e58
      have g4 : gc 0 [.int .i64 (siz s : Int), .sl 0 1 0 (hkA s s.length).length] [some (HO.data (iL (nL (hkA s s.length))))] = some ([.int .i64 (siz s : Int), .sl 0 1 0 (hkA s s.length).length], [some (.data (iL (nL (hkA s s.length))))]) := gcD (pre := [.int .i64 (siz s : Int)]) (gs := []) rfl rfl (by simp) rfl
      have e1 : oL 0 (nL (hkA s s.length)) = .sl 0 1 0 (hkA s s.length).length := by unfold oL; rw [nL_len, if_neg (by omega)]
      have e2 : oLH (nL (hkA s s.length)) = [some (.data (iL (nL (hkA s s.length))))] := by unfold oLH; rw [nL_len, if_neg (by omega)]
      rw [e1, e2]
      repeat' first
 | (apply s_mov; exact aW)
 | (apply c_nil)
 | (apply s_lss; exact rfl; all_goals (intro _; try (exfalso; omega)))
 | (exact ⟨w⟩)
 | (apply s_len; exact aW; exact aI)
 | (apply c_seq)
 | (apply c_reg)
 | (with_reducible apply k_c)
theorem c30 {x : AV} {s : List Int} (hx : IsL x s) (hsh : IsSh s) (h30 : siz s ≤ 30) {m : Nat} (hm : 1200 ≤ m) (H : Heap) : callPure (evF tab it m) true 30 [x] H = some (.int .i64 (cntS s : Int), H) :=
  callPure_free (by simp [idFreeL, hx.free]) (by simp) (f30 hx hsh h30 hm) rfl
end Go.AM.Tb
