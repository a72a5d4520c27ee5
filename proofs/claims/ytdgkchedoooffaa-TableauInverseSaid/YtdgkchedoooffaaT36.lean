/- A part of the proof: T36. -/
import Derived.Test.YtdgkchedoooffaaT35
set_option linter.unusedVariables false
set_option linter.unusedSimpArgs false
set_option linter.unusedSectionVars false
namespace Go.AM.Tb
set_option maxHeartbeats 4000000
theorem f36 {x : AV} {l : List Int} (hx : IsL x l) {m : Nat} (hm : 200 ≤ m) : evF tab it m 36 [x, .int .i64 60] [] = some (oL 0 (prm (tmL l 60)), oLH (prm (tmL l 60))) := by
  obtain ⟨m, rfl⟩ : ∃ j, m = j + 1 := ⟨m - 1, by omega⟩
  have fx := hx.free
  have e32 := fun H => c32 hx (k := 60) (by omega) (m := m) (by omega) H
  have hwl := tmL_len l 60
  generalize tmL l 60 = w at *
  have hv := isL_fz w
  have fv := fzL_free w
  have hpl := prm_len w
  generalize hR : some (oL 0 (prm w), oLH (prm w)) = res
  refine f_enter rfl rfl ?_
  generalize fzL w = vw at *
  generalize evF tab it m = call at *
  repeat' first
 | (apply s_mov; exact aW)
 | (apply c_nil)
 | (apply s_cn; exact aO; exact e32 _)
 | (apply c_seq)
 | (apply c_reg)
 | (apply c_block)
 | (with_reducible apply k_c)
  refine c_loop ?_
  refine loop_gc (σ := Nat) (fun i => [vw, oL 0 ((prm w).take i), .int .i64 (i : Int)]) (fun i => oLH ((prm w).take i)) (fun i => i ≤ w.length) (fun i => w.length - i) ?_ _ 0 _ _ (by omega) (by omega) (gc_to rfl (by simp [idFreeL, AV.idFree, fv, oL]))
  intro i hi K hK
  have htl : ((prm w).take i).length = i := by rw [List.length_take]; omega
  have hgc : ∀ gs, idFreeL gs = true → gc 0 ([vw] ++ oL 0 ((prm w).take i) :: gs) (oLH ((prm w).take i)) = some ([vw] ++ oL 0 ((prm w).take i) :: gs, oLH ((prm w).take i)) := fun gs hg => gcO (by simp [idFreeL, fv]) (by simp) hg
  by_cases his : i < w.length
  · have hK' := hK (i + 1)
    rw [take_snocI (by omega), prm_get his] at hK'
    obtain ⟨o1, o2⟩ := oL_snoc ((prm w).take i) (rank w i : Int)
    rw [o1, o2, htl] at hK'
    have happ := e_appO (call := call) (l := (prm w).take i) (v := (rank w i : Int)) (q := 8) (by omega)
    rw [htl] at happ
    have g6 : ∀ gs, idFreeL gs = true → gc 0 ([vw] ++ .sl (oN ((prm w).take i)) 1 0 (i + 1) :: gs) (oA ((prm w).take i) (rank w i : Int)) = some ([vw] ++ .sl 0 1 0 (i + 1) :: gs, [some (.data (iL ((prm w).take i ++ [(rank w i : Int)])))]) := fun gs hg => gcD (oA_get _ _) (by simp [idFreeL, fv]) (by simp) hg
    have g7 : ∀ gs, idFreeL gs = true → gc 0 ([vw] ++ .sl 0 1 0 (i + 1) :: gs) [some (HO.data (iL ((prm w).take i ++ [(rank w i : Int)])))] = some ([vw] ++ .sl 0 1 0 (i + 1) :: gs, [some (.data (iL ((prm w).take i ++ [(rank w i : Int)])))]) := fun gs hg => gcD rfl (by simp [idFreeL, fv]) (by simp) hg
    generalize (prm w).take i = t at *
    generalize oL 0 t = v at *
    generalize oLH t = H0 at *
    repeat' first
 | (apply s_mov; exact aW)
 | (apply c_nil)
 | (apply s_lss; exact rfl; all_goals (intro _; try (exfalso; omega)))
 | (apply s_len; exact aW; exact aI)
 | (apply c_seq)
 | (apply c_reg)
 | (apply c_block)
 | (apply c_skip)
 | (apply c_condT; exact rfl)
 | (with_reducible apply k_c)
    refine c_loop ?_
    refine loop_gc (σ := Nat) (fun k => [vw, v, .int .i64 (i : Int), .int .i64 ((1 + sN k (fun k => if before w k i then 1 else 0) : Nat) : Int), .int .i64 (k : Int)]) (fun _ => H0) (fun k => k ≤ w.length) (fun k => w.length - k) ?_ _ 0 _ _ (by omega) (by omega) (hgc _ rfl)
    intro k hk K2 hK2
    have hone := sN_one (m := k) (f := fun k => if before w k i then 1 else 0) (fun k => by show (if before w k i then 1 else 0) ≤ 1; split <;> omega)
    by_cases hkl : k < w.length
    · have hK2' := hK2 (k + 1)
      have hsucc : sN (k + 1) (fun k => if before w k i then 1 else 0) = sN k (fun k => if before w k i then 1 else 0) + (if before w k i then 1 else 0) := rfl
      rw [hsucc] at hK2'
      generalize sN k (fun k => if before w k i then 1 else 0) = S at *
      by_cases hb : before w k i = true
      · have hb' : getI w (k : Int) < getI w (i : Int) ∨ getI w (k : Int) = getI w (i : Int) ∧ k < i := by simpa [before] using hb
        rw [if_pos hb] at hK2'
        rcases hb' with hb' | ⟨hb1, hb2⟩
        · skip
          repeat' first
 | (apply s_mov; exact aW)
 | (apply s_gF; exact rfl)
 | (apply c_nil)
 | (apply s_pickT; exact rfl; exact aW)
 | (apply s_lss; exact rfl; all_goals (intro _; try (exfalso; omega)))
 | (apply s_add; exact rfl; omega)
 | (apply s_len; exact aW; exact aI)
 | (apply s_idx; exact aW; exact rfl; exact aI; omega)
 | (apply s_ldI; exact rfl; omega)
 | (apply c_seq)
 | (apply c_reg)
 | (apply c_block)
 | (apply c_skip)
 | (apply c_condT; exact rfl)
 | (with_reducible apply k_c)
          all_goals first
            | (exfalso; omega)
            | exact hK2' _ _ (by omega) (by omega) (hgc _ rfl)
        · skip
          repeat' first
 | (apply s_mov; exact aW)
 | (apply s_gT; exact rfl)
 | (apply c_nil)
 | (apply s_pickT; exact rfl; exact aW)
 | (apply s_pickF; exact rfl; exact aW)
 | (apply s_lss; exact rfl; all_goals (intro _; try (exfalso; omega)))
 | (apply s_eql; exact rfl; all_goals (intro _; try (exfalso; omega)))
 | (apply s_add; exact rfl; omega)
 | (apply s_len; exact aW; exact aI)
 | (apply s_idx; exact aW; exact rfl; exact aI; omega)
 | (apply s_ldI; exact rfl; omega)
 | (apply c_seq)
 | (apply c_reg)
 | (apply c_block)
 | (apply c_skip)
 | (apply c_condT; exact rfl)
 | (with_reducible apply k_c)
          all_goals first
            | (exfalso; omega)
            | exact hK2' _ _ (by omega) (by omega) (hgc _ rfl)
      · have hb' : ¬ (getI w (k : Int) < getI w (i : Int) ∨ getI w (k : Int) = getI w (i : Int) ∧ k < i) := by simpa [before] using hb
        rw [if_neg hb] at hK2'
        by_cases he : getI w (k : Int) = getI w (i : Int)
        · have hki : ¬ k < i := fun h => hb' (.inr ⟨he, h⟩)
          have hlt : ¬ getI w (k : Int) < getI w (i : Int) := by omega
          repeat' first
 | (apply s_mov; exact aW)
 | (apply s_gT; exact rfl)
 | (apply c_nil)
 | (apply s_pickT; exact rfl; exact aW)
 | (apply s_pickF; exact rfl; exact aW)
 | (apply s_lss; exact rfl; all_goals (intro _; try (exfalso; omega)))
 | (apply s_eql; exact rfl; all_goals (intro _; try (exfalso; omega)))
 | (apply s_add; exact rfl; omega)
 | (apply s_len; exact aW; exact aI)
 | (apply s_idx; exact aW; exact rfl; exact aI; omega)
 | (apply s_ldI; exact rfl; omega)
 | (apply c_seq)
 | (apply c_reg)
 | (apply c_block)
 | (apply c_skip)
 | (apply c_condT; exact rfl)
 | (apply c_condF; exact rfl)
 | (with_reducible apply k_c)
          all_goals first
            | (exfalso; omega)
            | exact hK2' _ _ (by omega) (by omega) (hgc _ rfl)
        · have hlt : ¬ getI w (k : Int) < getI w (i : Int) := fun h => hb' (.inl h)
          repeat' first
 | (apply s_mov; exact aW)
 | (apply s_gT; exact rfl)
 | (apply s_gF; exact rfl)
 | (apply c_nil)
 | (apply s_pickF; exact rfl; exact aW)
 | (apply s_lss; exact rfl; all_goals (intro _; try (exfalso; omega)))
 | (apply s_eql; exact rfl; all_goals (intro _; try (exfalso; omega)))
 | (apply s_add; exact rfl; omega)
 | (apply s_len; exact aW; exact aI)
 | (apply s_idx; exact aW; exact rfl; exact aI; omega)
 | (apply s_ldI; exact rfl; omega)
 | (apply c_seq)
 | (apply c_reg)
 | (apply c_block)
 | (apply c_skip)
 | (apply c_condT; exact rfl)
 | (apply c_condF; exact rfl)
 | (with_reducible apply k_c)
          all_goals first
            | (exfalso; omega)
            | exact hK2' _ _ (by omega) (by omega) (hgc _ rfl)
    · obtain rfl : k = w.length := by omega
      have hr : 1 + sN w.length (fun k => if before w k i then 1 else 0) = rank w i := rfl
      rw [hr]
      repeat' first
 | (apply s_mov; exact aW)
 | (apply c_nil)
 | (apply s_lss; exact rfl; all_goals (intro _; try (exfalso; omega)))
 | (apply s_add; exact rfl; omega)
 | (apply c_pre; exact hgc _ rfl)
 | (apply s_en; exact aO; exact e_bld1 rfl rfl rfl rfl)
 | (apply s_en; exact aO; exact happ)
 | (apply c_pre; exact g6 _ rfl)
 | (apply s_len; exact aW; exact aI)
 | (apply c_seq)
 | (apply c_reg)
 | (apply c_exitH)
 | (apply c_condF; exact rfl)
 | (with_reducible apply k_c)
      exact hK' _ _ (by omega) (by omega) (g7 _ rfl)
  · obtain rfl : i = w.length := by omega
    have htk : (prm w).take w.length = prm w := by rw [← hpl, List.take_length]
    rw [htk] at *
    have g0 : gc 0 [oL 0 (prm w)] (oLH (prm w)) = some ([oL 0 (prm w)], oLH (prm w)) := gcO (pre := []) (gs := []) rfl (by simp) rfl
    have hfin : ∀ env s1, look env s1 = oL 0 (prm w) → finish 0 [.t s1] env (oLH (prm w)) = res := fun env s1 h1 => by
      rw [← hR]
      simp only [finish, ress, resOf, h1, tupOf, Option.bind_some, Option.map_some, g0]
      rfl
    generalize oL 0 (prm w) = v at *
    generalize oLH (prm w) = H0 at *
    repeat' first
 | (apply s_mov; exact aW)
 | (apply c_nil)
 | (apply s_lss; exact rfl; all_goals (intro _; try (exfalso; omega)))
 | (apply c_pre; exact g0)
 | (apply s_len; exact aW; exact aI)
 | (apply c_seq)
 | (apply c_reg)
 | (apply c_exitH)
 | (apply c_ret)
 | (apply c_condF; exact rfl)
 | (with_reducible apply k_c)
    exact hfin _ _ rfl
theorem c36 {x : AV} {l : List Int} (hx : IsL x l) {m : Nat} (hm : 200 ≤ m) (H : Heap) : callPure (evF tab it m) true 36 [x, .int .i64 60] H = some (fzL (prm (tmL l 60)), H) :=
  callPure_frz (by simp [idFreeL, AV.idFree, hx.free]) (by simp) (f36 hx hm) frzO
theorem set_getI {t : List Int} {a : Int} {v : Int} {b : Int} (h0 : 0 ≤ a) (h1 : a < t.length) (hb : 0 ≤ b) : getI (t.set a.toNat v) b = if b = a then v else getI t b := by
  obtain ⟨q, rfl⟩ : ∃ q : Nat, b = (q : Int) := ⟨b.toNat, by omega⟩
  rw [set_get (by omega)]
  by_cases h : q = a.toNat
  · rw [if_pos h, if_pos (by omega)]
  · rw [if_neg h, if_neg (by omega)]
theorem f6 {x : AV} {l : List Int} (hx : IsL x l) : ∃ m H', evF tab it m 6 [x] [] = some (.bool true, H') := by
  refine ⟨60001, [], ?_⟩
  have fx := hx.free
  have e36 := fun H => c36 hx (m := 60000) (by omega) H
  have hw0l : (tmL l 60).length ≤ 60 := by rw [tmL_len]; omega
  generalize tmL l 60 = w0 at *
  have hpl := prm_len w0
  have hpg := fun i (hi : i < w0.length) => prm_get hi
  have hpb := fun i (hi : i < w0.length) => rank_bd hi
  have hinj := fun i j (hi : i < w0.length) (hj : j < w0.length) => rank_inj hi hj
  have hinv := fun t (h1 : t.length = w0.length) h2 => prm_inv (w := w0) (t := t) h1 h2
  have hW : IsW (prm w0) := by
    refine ⟨by omega, fun v hv => ?_⟩
    obtain ⟨i, hi, rfl⟩ := List.mem_iff_getElem.1 hv
    have h1 := hpg i (by omega)
    have h2 := hpb i (by omega)
    rw [getI_nat] at h1
    simp [List.getD, hi] at h1
    omega
  have e20 := fun {v : AV} {w : List Int} (hv : IsL v w) (h : w.length ≤ 61) H => c20 hv h (m := 60000) (by omega) H
  have e25 := fun {v : AV} {w : AV} {a : List (List Int)} (hv : IsLL v a) (hw : IsLL w a) h H => c25 hv hw h (m := 60000) (by omega) H
  have e23 := fun H => awakeN (m := 60000) (by omega) H
  have hv := isL_fz (prm w0)
  have fv := fzL_free (prm w0)
  have e20a := fun H => e20 hv (by omega) H
  rw [if_pos hW] at e20a
  have hlens : ∀ w : List Int, w.length ≤ 60 → ((pq w w.length).1.length < 100 ∧ ∀ r ∈ (pq w w.length).1, r.length < 100) ∧ ((pq w w.length).2.length < 100 ∧ ∀ r ∈ (pq w w.length).2, r.length < 100) := fun w hw => by
    obtain ⟨l1, l2, l3, l4⟩ := pq_len w w.length
    exact ⟨⟨by omega, fun r hr => by have := (l3 r hr).2; omega⟩, ⟨by omega, fun r hr => by have := l4 r hr; omega⟩⟩
  refine f_enter rfl rfl ?_
  generalize hσ : prm w0 = σ at *
  generalize fzL σ = vσ at *
  generalize evF tab it 60000 = call at *
  have hmk : evE call [] (.mkS 1 8 [.int .i64 0]) [.int .i64 (σ.length : Int), .int .i64 (σ.length : Int)] = some (.sl 0 1 0 σ.length, [some (.data (iL (List.replicate σ.length 0)))]) := by
    have h : (σ.length : Int) ≤ 1048576 := by omega
    have hr : ∀ n, repl n [AV.int .i64 0] = iL (List.replicate n 0) := by
      intro n
      induction n with
      | zero => rfl
      | succ n ih => simp [repl, ih, iL, List.replicate_succ]
    simp [evE, most, h, hr]
  repeat' first
 | (apply s_mov; exact aW)
 | (apply c_nil)
 | (apply s_cn; exact aO; exact e36 _)
 | (apply s_en; exact aO; exact hmk)
 | (apply s_len; exact aW; exact aI)
 | (apply c_seq)
 | (apply c_reg)
 | (apply c_block)
 | (with_reducible apply k_c)
  refine c_loop ?_
  have hgc : ∀ n c gs, idFreeL gs = true → gc 0 ([vσ] ++ .sl 0 1 0 n :: gs) [some (HO.data c)] = some ([vσ] ++ .sl 0 1 0 n :: gs, [some (.data c)]) := fun n c gs hg => gcD rfl (by simp [idFreeL, fv]) (by simp) hg
  refine loop_gc (σ := Nat × List Int) (fun p => [vσ, .sl 0 1 0 σ.length, .int .i64 (p.1 : Int)]) (fun p => [some (.data (iL p.2))]) (fun p => p.1 ≤ σ.length ∧ p.2.length = σ.length ∧ ∀ i, i < p.1 → getI p.2 (getI σ (i : Int) - 1) = (i : Int) + 1) (fun p => σ.length - p.1) ?_ _ (0, List.replicate σ.length 0) _ _ ⟨by dsimp only; omega, by simp, fun i hi => by omega⟩ (by dsimp only; omega) (hgc _ _ _ rfl)
  rintro ⟨i, t⟩ ⟨hi, htl, ht⟩ K hK
  dsimp only at hi htl ht hK ⊢
  by_cases his : i < σ.length
  · have h1 := hpg i (by omega)
    have h2 := hpb i (by omega)
    have hst : evE call [some (HO.data (iL t))] (.st 1) [.ptr 0 (0 + (getI σ (i : Int) - 1).toNat * 1), .int .i64 ((i : Int) + 1)] = some (.undef, [some (.data (iL (t.set (getI σ (i : Int) - 1).toNat ((i : Int) + 1))))]) := e_stI rfl (by omega)
    have hidx : 0 ≤ getI σ (i : Int) - 1 ∧ getI σ (i : Int) - 1 < σ.length := by omega
    repeat' first
 | (apply s_mov; exact aW)
 | (apply c_nil)
 | (apply s_lss; exact rfl; all_goals (intro _; try (exfalso; omega)))
 | (apply s_add; exact rfl; omega)
 | (apply s_sub; exact rfl; omega)
 | (apply s_st; exact aO; exact hst)
 | (apply s_len; exact aW; exact aI)
 | (apply s_idx; exact aW; exact rfl; exact aI; omega)
 | (apply s_idxS; exact rfl; exact rfl; omega)
 | (apply s_ldI; exact rfl; omega)
 | (apply c_seq)
 | (apply c_reg)
 | (apply c_block)
 | (apply c_skip)
 | (apply c_condT; exact rfl)
 | (with_reducible apply k_c)
    refine hK (i + 1, t.set (getI σ (i : Int) - 1).toNat ((i : Int) + 1)) _ _ ⟨by dsimp only; omega, by simpa using htl, fun j hj => ?_⟩ (by dsimp only; omega) (hgc _ _ _ rfl)
    dsimp only
    have h3 := hpg j (by omega)
    have h4 := hpb j (by omega)
    rw [set_getI (by omega) (by omega) (by omega)]
    by_cases e : j = i
    · subst e; rw [if_pos rfl]
    · have := hinj j i (by omega) (by omega)
      rw [if_neg (by omega)]
      exact ht j (by omega)
  · obtain rfl : i = σ.length := by omega
    have hI := hinv t (by omega) (fun i hi => ht i (by omega))
    obtain ⟨tb1, tb2⟩ := hI.tabs
    have htW : IsW t := by
      refine ⟨by omega, fun v hv => ?_⟩
      obtain ⟨i, hi, rfl⟩ := List.mem_iff_getElem.1 hv
      have h1 := hI.b i (by omega)
      rw [getI_nat] at h1
      simp [List.getD, hi] at h1
      omega
    have hvt : IsL (.rd 1 σ.length (iL t)) t := rd_isL htl
    have e20b := fun H => e20 hvt (by omega) H
    rw [if_pos htW, tb1, tb2] at e20b
    obtain ⟨b1, b2⟩ := hlens σ (by omega)
    have ea := fun H => e25 (isLL_fz (pq σ σ.length).2) (isLL_fz (pq σ σ.length).2) b2 H
    have eb := fun H => e25 (isLL_fz (pq σ σ.length).1) (isLL_fz (pq σ σ.length).1) b1 H
    simp only [decide_true] at ea eb
    have f1 := fzLL_free (pq σ σ.length).1
    have f2 := fzLL_free (pq σ σ.length).2
    generalize fzLL (pq σ σ.length).1 = vp at *
    generalize fzLL (pq σ σ.length).2 = vq at *
    have hfz : evE call [some (HO.data (iL t))] .frz [.sl 0 1 0 σ.length] = some (.rd 1 σ.length (iL t), [none]) := by
      have hd : Heap.data? [some (HO.data (iL t))] 0 = some (iL t) := rfl
      simp [evE, hd, iL_len, htl]
      rw [List.take_of_length_le (by rw [iL_len]; omega)]
    have g8 := hgc σ.length (iL t) [] rfl
    repeat' first
 | (apply s_mov; exact aW)
 | (apply s_gT; exact rfl)
 | (apply c_nil)
 | (apply s_pickT; exact rfl; exact aW)
 | (apply s_lss; exact rfl; all_goals (intro _; try (exfalso; omega)))
 | (apply s_eql; exact rfl; all_goals (intro _; try (exfalso; omega)))
 | (apply c_pre; exact g8)
 | (apply s_cn; exact aO; exact e20a _)
 | (apply s_en; exact aO; exact hfz)
 | (apply s_cn; exact aO; exact e20b _)
 | (apply s_cn; exact aO; exact ea _)
 | (apply s_cn; exact aO; exact eb _)
 | (apply s_cn; exact aO; exact e23 _)
 | (apply s_len; exact aW; exact aI)
 | (apply s_pd; exact aW)
 | (apply c_seq)
 | (apply c_reg)
 | (apply c_exitH)
 | (apply c_ret)
 | (apply c_condF; exact rfl)
 | (with_reducible apply k_c)
    all_goals first
      | (exfalso; omega)
      | exact fin_t (by (conv => lhs; whnf)) (by rfl) rfl
end Go.AM.Tb
