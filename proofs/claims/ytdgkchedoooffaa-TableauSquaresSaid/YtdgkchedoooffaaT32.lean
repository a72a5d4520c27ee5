/- A part of the proof: T32. -/
import Derived.Test.YtdgkchedoooffaaT31
import Derived.Test.YtdgkchedoooffaaT15
import Derived.Test.YtdgkchedoooffaaTC8
set_option linter.unusedVariables false
set_option linter.unusedSimpArgs false
set_option linter.unusedSectionVars false
namespace Go.AM.Tb
set_option maxHeartbeats 4000000
theorem sN_mono' {f : Nat → Nat} : ∀ {a b : Nat}, a ≤ b → sN a f ≤ sN b f := sN_mono
theorem f37 {tot : Nat} (ht : tot ≤ 12) : ∀ (f : Nat) {v : AV} {ns : List Nat} {left most : Nat}, left ≤ f → IsL v (nL ns) → IsSh (nL ns) → siz (nL ns) + left = tot → (∀ a ∈ ns, most ≤ a) → most ≤ 12 → sqF tot f ns left most ≤ 479001600 → ∀ {m : Nat}, 1200 + f ≤ m →
    evF tab it m 37 [v, .int .i64 (left : Int), .int .i64 (most : Int)] [] = some (.tup [.int .i64 (sqF tot f ns left most : Int), .bool true], []) := by
  have leaf : ∀ (f : Nat) {v : AV} {ns : List Nat} {most : Nat}, IsL v (nL ns) → IsSh (nL ns) → siz (nL ns) = tot → cntS (nL ns) * cntS (nL ns) ≤ 479001600 → ∀ {m : Nat}, 1200 ≤ m →
      evF tab it m 37 [v, .int .i64 ((0 : Nat) : Int), .int .i64 (most : Int)] [] = some (.tup [.int .i64 ((cntS (nL ns) * cntS (nL ns) : Nat) : Int), .bool true], []) := by
    intro f v ns most hv hsh hsz hb m hm
    obtain ⟨m, rfl⟩ : ∃ j, m = j + 1 := ⟨m - 1, by omega⟩
    have fv := hv.free
    have hls := len_siz hsh
    have e26 := fun H => c26 hv (by omega) (m := m) (by omega) H
    unfold ans26 at e26
    rw [if_pos hsh, if_pos (by omega)] at e26
    refine f_enter rfl rfl ?_
    generalize evF tab it m = call at *
    generalize cntS (nL ns) = c at *
    repeat' first
 | (apply s_mov; exact aW)
 | (apply c_nil)
 | (apply s_eql; exact rfl; all_goals (intro _; try (exfalso; omega)))
 | (apply s_cn; exact aO; exact e26 _)
 | (apply s_mulN; exact rfl; omega)
 | (apply s_pd; exact aW)
 | (apply c_seq)
 | (apply c_reg)
 | (apply c_ret)
 | (apply c_condT; exact rfl)
 | (with_reducible apply k_c)
    exact fin_tt (by (conv => lhs; whnf)) (by (conv => lhs; whnf)) (by rfl) (by rfl) rfl
  intro f
  induction f with
  | zero =>
    intro v ns left most hl hv hsh hsz hmost hm12 hb m hm
    obtain rfl : left = 0 := by omega
    have hc := cnt_div hsh
    rw [show siz (nL ns) = tot by omega] at hc
    simp only [sqF] at hb ⊢
    rw [← hc] at hb ⊢
    exact leaf 0 hv hsh (by omega) hb (by omega)
  | succ f ih =>
    intro v ns left most hl hv hsh hsz hmost hm12 hb m hm
    simp only [sqF] at hb ⊢
    by_cases h0 : left = 0
    · subst h0
      have hc := cnt_div hsh
      rw [show siz (nL ns) = tot by omega] at hc
      rw [if_pos rfl] at hb ⊢
      rw [← hc] at hb ⊢
      exact leaf 0 hv hsh (by omega) hb (by omega)
    · rw [if_neg h0] at hb ⊢
      obtain ⟨m, rfl⟩ : ∃ j, m = j + 1 := ⟨m - 1, by omega⟩
      have fv := hv.free
      have hls := len_siz hsh
      have eih := fun {v : AV} {ns : List Nat} {left most : Nat} (h1 : left ≤ f) (h2 : IsL v (nL ns)) (h3 : IsSh (nL ns)) (h4 : siz (nL ns) + left = tot) (h5 : ∀ a ∈ ns, most ≤ a) (h6 : most ≤ 12) (h7 : sqF tot f ns left most ≤ 479001600) => ih h1 h2 h3 h4 h5 h6 h7 (m := m) (by omega)
      have a1 : ∀ call q, evE call [] (.app false 1 q) [.nilS, v] = some (oL 0 (nL ns), oLH (nL ns)) := fun call q => by
        unfold oL oLH
        by_cases hn : (nL ns).length = 0
        · rw [if_pos hn, if_pos hn]
          have hn' : nL ns = [] := List.length_eq_zero_iff.1 hn
          rw [hn'] at hv
          refine e_app_none ?_ ?_
          · exact hv.len
          · cases hv <;> rfl
        · rw [if_neg hn, if_neg hn]
          have := e_app_nil (call := call) (q := q) (H := []) (isL_rd hv (fun e => hn (by rw [e]; rfl))) hn (by unfold Go.AM.most; omega)
          simpa using this
      refine f_enter rfl rfl ?_
      generalize evF tab it m = call at *
      repeat' first
 | (apply s_mov; exact aW)
 | (apply c_nil)
 | (apply s_eql; exact rfl; all_goals (intro _; try (exfalso; omega)))
 | (apply c_seq)
 | (apply c_reg)
 | (apply c_block)
 | (apply c_skip)
 | (apply c_condF; exact rfl)
 | (with_reducible apply k_c)
      refine c_loop ?_
      refine loop_gc (σ := Nat) (fun j => [v, .int .i64 (left : Int), .int .i64 (most : Int), .int .i64 ((sN j (fun x => sqF tot f (ns ++ [x + 1]) (left - (x + 1)) (x + 1)) : Nat) : Int), .int .i64 ((j + 1 : Nat) : Int)]) (fun _ => []) (fun j => j ≤ min left most) (fun j => 20 - j) ?_ _ 0 _ _ (by omega) (by omega) (gc_to rfl (by simp [idFreeL, AV.idFree, *]; done))
      intro j hj K hK
      have pm : ∀ H, evP H .mn [.int .i64 (left : Int), .int .i64 (most : Int)] = some (.int .i64 ((min left most : Nat) : Int)) := fun H => by
        rw [p_mn]; congr 2; omega
      have hmono := sN_mono' (f := fun x => sqF tot f (ns ++ [x + 1]) (left - (x + 1)) (x + 1)) hj
      by_cases hjm : j < min left most
      · have hle := sN_le (f := fun x => sqF tot f (ns ++ [x + 1]) (left - (x + 1)) (x + 1)) hjm
        have hsucc : ((sN (j + 1) (fun x => sqF tot f (ns ++ [x + 1]) (left - (x + 1)) (x + 1)) : Nat) : Int) = (sN j (fun x => sqF tot f (ns ++ [x + 1]) (left - (x + 1)) (x + 1)) : Nat) + (sqF tot f (ns ++ [j + 1]) (left - (j + 1)) (j + 1) : Int) := by rw [sN]; omega
        have hmono2 := sN_mono' (f := fun x => sqF tot f (ns ++ [x + 1]) (left - (x + 1)) (x + 1)) (show j + 1 ≤ min left most by omega)
        rw [sN] at hmono2
        have hK' := hK (j + 1)
        rw [hsucc] at hK'
        have hnl : nL (ns ++ [j + 1]) = nL ns ++ [((j + 1 : Nat) : Int)] := by simp [nL]
        have hll : (nL ns).length = ns.length := nL_len ns
        have ec := eih (v := .rd 1 (ns.length + 1) (iL (nL ns ++ [((j + 1 : Nat) : Int)]))) (ns := ns ++ [j + 1]) (left := left - (j + 1)) (most := j + 1) (by omega) (by rw [hnl]; exact rd_isL (by simp [hll])) (sh_snoc hsh hmost (by omega) (by omega)) (by rw [siz_snoc]; omega) (fun a ha => by
          rcases List.mem_append.1 ha with ha | ha
          · have := hmost a ha; omega
          · simp at ha; omega) (by omega) (by omega)
        have a2 := e_appO (call := call) (l := nL ns) (v := ((j + 1 : Nat) : Int)) (q := 8) (by omega)
        rw [hll] at a2
        have hsub : ((left - (j + 1) : Nat) : Int) = (left : Int) - ((j + 1 : Nat) : Int) := by omega
        rw [hsub] at ec
        have ec2 : callPure call true 37 [.sl (oN (nL ns)) 1 0 (ns.length + 1), .int .i64 ((left : Int) - ((j + 1 : Nat) : Int)), .int .i64 ((j + 1 : Nat) : Int)] (oA (nL ns) ((j + 1 : Nat) : Int)) = some (.tup [.int .i64 (sqF tot f (ns ++ [j + 1]) (left - (j + 1)) (j + 1) : Int), .bool true], oA (nL ns) ((j + 1 : Nat) : Int)) := by
          refine callPure_own ?_ ec rfl rfl (by simp [frzV_tup, idFreeL, AV.idFree])
          rw [show (140 : Nat) = 139 + 1 from rfl, frzL_cons, show (139 : Nat) = 138 + 1 from rfl, frz_row (oA_get _ _) (by simp [hll]), frzL_cons, show (138 : Nat) = 137 + 1 from rfl, frzL_cons, show (137 : Nat) = 136 + 1 from rfl, frzL_nil, frzV_int, frzV_int]
          rw [List.take_of_length_le (by simp [hll])]
          rfl
        generalize sN j (fun x => sqF tot f (ns ++ [x + 1]) (left - (x + 1)) (x + 1)) = S at *
        generalize sqF tot f (ns ++ [j + 1]) (left - (j + 1)) (j + 1) = S2 at *
        generalize oLH (nL ns) = H0 at *
        generalize oA (nL ns) ((j + 1 : Nat) : Int) = H1 at *
        generalize oL 0 (nL ns) = v0 at *
        repeat' first
 | (apply s_mov; exact aW)
 | (apply c_nil)
 | (apply s_notT; exact rfl)
 | (apply s_leq; exact rfl; all_goals (intro _; try (exfalso; omega)))
 | (apply s_add; exact rfl; omega)
 | (apply s_sub; exact rfl; omega)
 | (apply s_pn; exact aO; exact pm _)
 | (apply s_en; exact aO; exact a1 _ _)
 | (apply s_en; exact aO; exact e_bld1 rfl rfl rfl rfl)
 | (apply s_en; exact aO; exact a2)
 | (apply s_cn; exact aO; exact ec2)
 | (apply s_pd; exact aW)
 | (apply c_seq)
 | (apply c_reg)
 | (apply c_block)
 | (apply c_skip)
 | (apply c_condT; exact rfl)
 | (apply c_condF; exact rfl)
 | (with_reducible apply k_c)
        exact hK' _ _ (by omega) (by omega) (gc_to rfl (by simp [idFreeL, AV.idFree, *]; done))
      · obtain rfl : j = min left most := by omega
        repeat' first
 | (apply s_mov; exact aW)
 | (apply c_nil)
 | (apply s_leq; exact rfl; all_goals (intro _; try (exfalso; omega)))
 | (apply s_pn; exact aO; exact pm _)
 | (apply c_seq)
 | (apply c_reg)
 | (apply c_exitH)
 | (apply c_ret)
 | (apply c_condF; exact rfl)
 | (apply c_preF; exact aK; exact aF)
 | (with_reducible apply k_c)
        exact fin_tt (by (conv => lhs; whnf)) (by (conv => lhs; whnf)) (by rfl) (by rfl) rfl
theorem f7 {x : Int} : ∃ m H', evF tab it m 7 [.int .i64 x] [] = some (.bool true, H') := by
  refine ⟨60001, [], ?_⟩
  have e33 := fun H => c33 (x := x) (n := 13) (by omega) (m := 60000) (by omega) H
  obtain ⟨h1, h2⟩ := mdF_range (x := x) (n := 13) (by omega)
  obtain ⟨n, hn⟩ : ∃ n : Nat, mdF x 13 = (n : Int) := ⟨(mdF x 13).toNat, by omega⟩
  rw [hn] at e33 h1 h2
  have hsq := sq_all ⟨n, by omega⟩
  dsimp only at hsq
  have hfm : ∀ k, k ≤ 12 → facN k ≤ 479001600 := fun k hk => by
    have : facN 12 = 479001600 := by decide +kernel
    exact this ▸ Nat.le_of_dvd (facN_pos 12) (facN_dvd hk)
  have e37 := fun H => callPure_free (H := H) rfl (by simp) (f37 (tot := n) (by omega) n (v := .nilS) (ns := []) (left := n) (most := n) (Nat.le_refl _) .nil (fun j hj => by simp [nL] at hj) (by simp [siz, nL, sN]) (by simp) (by omega) (by rw [hsq]; exact hfm n (by omega)) (m := 60000) (by omega)) rfl
  rw [hsq] at e37
  have e23 := fun H => awakeN (m := 60000) (by omega) H
  refine f_enter rfl rfl ?_
  generalize evF tab it 60000 = call at *
  have hb0 := hfm n (by omega)
  repeat' first
 | (apply s_mov; exact aW)
 | (apply c_nil)
 | (apply s_cn; exact aO; exact e33 _)
 | (apply c_seq)
 | (apply c_reg)
 | (apply c_block)
 | (with_reducible apply k_c)
  refine c_loop ?_
  refine loop_gc (σ := Nat) (fun i => [.int .i64 (n : Int), .int .i64 (facN (i + 1) : Int), .int .i64 ((i + 2 : Nat) : Int)]) (fun _ => []) (fun i => i = 0 ∨ i + 1 ≤ n) (fun i => 20 - i) ?_ _ 0 _ _ (.inl rfl) (by omega) (gc_to rfl rfl)
  intro i hi K hK
  by_cases hin : i + 2 ≤ n
  · have hs : ((facN (i + 1 + 1) : Nat) : Int) = ((facN (i + 1) * (i + 2) : Nat) : Int) := by
      have e : facN (i + 1 + 1) = facN (i + 1) * (i + 2) := Nat.mul_comm _ _
      rw [e]
    have hb : facN (i + 1) * (i + 2) ≤ 479001600 := by
      have h := hfm (i + 2) (by omega)
      have e : facN (i + 2) = facN (i + 1) * (i + 2) := by
        show (i + 2) * facN (i + 1) = _
        exact Nat.mul_comm _ _
      rwa [e] at h
    have hK' := hK (i + 1)
    rw [hs] at hK'
    repeat' first
 | (apply s_mov; exact aW)
 | (apply c_nil)
 | (apply s_leq; exact rfl; all_goals (intro _; try (exfalso; omega)))
 | (apply s_add; exact rfl; omega)
 | (apply s_mulN; exact rfl; omega)
 | (apply c_seq)
 | (apply c_reg)
 | (apply c_block)
 | (apply c_skip)
 | (apply c_condT; exact rfl)
 | (with_reducible apply k_c)
    exact hK' _ _ (by omega) (by omega) (gc_to rfl rfl)
  · have he : facN (i + 1) = facN n := by
      have : n ≤ 1 ∧ i = 0 ∨ i + 1 = n := by omega
      rcases this with ⟨h, rfl⟩ | h
      · have : n = 0 ∨ n = 1 := by omega
        rcases this with rfl | rfl <;> rfl
      · rw [h]
    rw [he]
    repeat' first
 | (apply s_mov; exact aW)
 | (apply s_gT; exact rfl)
 | (apply c_nil)
 | (apply s_pickT; exact rfl; exact aW)
 | (apply s_leq; exact rfl; all_goals (intro _; try (exfalso; omega)))
 | (apply s_eql; exact rfl; all_goals (intro _; try (exfalso; omega)))
 | (apply s_cn; exact aO; exact e37 _)
 | (apply s_cn; exact aO; exact e23 _)
 | (apply s_pd; exact aW)
 | (apply c_seq)
 | (apply c_reg)
 | (apply c_exitH)
 | (apply c_ret)
 | (apply c_condF; exact rfl)
 | (apply c_preF; exact aK; exact aF)
 | (with_reducible apply k_c)
    all_goals first
      | (exfalso; omega)
      | exact fin_t (by (conv => lhs; whnf)) (by rfl) rfl
end Go.AM.Tb
