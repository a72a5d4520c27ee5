/- A part of the proof: Q52. -/
import Derived.Test.YtmeajfgjbebkiaaQ51
set_option linter.unusedSectionVars false
set_option linter.unusedVariables false
set_option linter.unusedSimpArgs false
namespace Go.AM.Pa
theorem c34 {x w mo : AV} {g : Gm} {W M : List Int} (hx : IsG x g) (hw : IsL w W) (hm : IsL mo M) (hg : Good g) (hr : ∀ l ∈ g.next, l.length < 50) (hl : W.length < 50 ∧ M.length < 50) {m : Nat} (hmm : 196 ≤ m) (H : Heap) :
    callPure (evF tab it m) true 34 [x, .agg [w, mo]] H = some (.bool (rightB g W M), H) :=
  callPure_free (by simp [idFreeL, AV.idFree, hx.free, hw.free, hm.free]) (by simp) (f34 hx hw hm hg hr hl hmm) rfl
set_option maxHeartbeats 4000000
theorem f13 {x wx mx : AV} {a : Gm} {W0 M0 : List Int} (hx : IsG x a) (hwx : IsL wx W0) (hmx : IsL mx M0) : ∃ m H', evF tab it m 13 [x, .agg [wx, mx]] [] = some (.bool true, H') := by
  refine ⟨301, [], ?_⟩
  obtain ⟨xo, xr, xn, rfl, ho, hr, hn⟩ := id hx
  have fo := ho.free; have fr := hr.free; have fn := hn.free; have fw := hwx.free; have fm := hmx.free
  have ob : ∀ call, evE call [] (.box false) [.agg [xo, xr, xn]] = some (.ptr 0 0, [some (.box [xo, xr, xn])]) := fun call => by simp [evE, AV.cells, oneL, ho.one, hr.one, hn.one, mkHO]
  have ob2 : ∀ call H, evE call H (.box false) [.agg [wx, mx]] = some (.ptr H.length 0, H ++ [some (.box [wx, mx])]) := fun call H => by simp [evE, AV.cells, oneL, hwx.one, hmx.one, mkHO]
  have h16 := fun H => c16 hx (m := 300) (by omega) H
  have h16' := fun H => c16 (isG_fz (g30 a)) (m := 300) (by omega) H
  rw [g30_g30] at h16'
  have h17a := fun H => c17 hwx (m := 300) (by omega) H
  have h17b := fun H => c17 hmx (m := 300) (by omega) H
  have h17c := fun H => c17 (isL_fz (W0.take 30)) (m := 300) (by omega) H
  have h17d := fun H => c17 (isL_fz (M0.take 30)) (m := 300) (by omega) H
  rw [List.take_take, Nat.min_self] at h17c h17d
  have hw := isL_fz (W0.take 30)
  have hm := isL_fz (M0.take 30)
  have hwl : (W0.take 30).length < 50 := by rw [List.length_take]; omega
  have hml : (M0.take 30).length < 50 := by rw [List.length_take]; omega
  have hzo := isL_fz (g30 a).owner
  have hzr := isL_fz (g30 a).rank
  have hzn := isLL_fz (g30 a).next
  have hgl := g30_len a
  have hgr := g30_row (a := a)
  have hG := isG_fz (g30 a)
  unfold fzG at h16 h16' hG
  generalize g30 a = g at *
  generalize W0.take 30 = W at *
  generalize M0.take 30 = M at *
  generalize fzL g.owner = zo at *
  generalize fzL g.rank = zr at *
  generalize fzLL g.next = zn at *
  generalize fzL W = w at *
  generalize fzL M = mo at *
  have go := hzo.free; have gr := hzr.free; have gn := hzn.free
  have stG : ∀ call H id, H[id]? = some (some (.box [.nilS, .nilS, .nilS])) → evE call H (.st 3) [.ptr id 0, .agg [zo, zr, zn]] = some (.undef, H.set id (some (.box [zo, zr, zn]))) := fun call H id h => e_st3 hzo.one hzr.one hzn.one h
  have st2 : ∀ call H id, H[id]? = some (some (.box [.nilS, .nilS])) → evE call H (.st 2) [.ptr id 0, .agg [w, mo]] = some (.undef, H.set id (some (.box [w, mo]))) := fun call H id h => by
    simp [evE, stAt, cells_agg, oneL, hw.one, hm.one, h, putRow]
  have bl2 : ∀ H, evP H (.bld [.nilS, .nilS] [(0, 1), (1, 1)]) [w, mo] = some (.agg [w, mo]) := fun H => by
    simp [evP, fillParts, hw.cellsV, hm.cellsV, hw.solid, hm.solid, putPart]
  have al2 : ∀ call H, evE call H (.alloc false [.nilS, .nilS]) [] = some (.ptr H.length 0, H ++ [some (.box [.nilS, .nilS])]) := fun call H => rfl
  have al3 : ∀ call H, evE call H (.alloc false [.nilS, .nilS, .nilS]) [] = some (.ptr H.length 0, H ++ [some (.box [.nilS, .nilS, .nilS])]) := fun call H => rfl
  have h19 := fun H => c19 hG hG ⟨by omega, by omega, by omega, fun l hl => by have := hgr l hl; omega⟩ (m := 300) (by omega) H
  simp only [and_self, decide_true] at h19
  have h20a := fun H => c20 hw hw (by omega) (m := 300) (by omega) H
  have h20b := fun H => c20 hm hm (by omega) (m := 300) (by omega) H
  simp only [decide_true] at h20a h20b
  have h37 := fun H => c37 hG hw hm ⟨by omega, hgr⟩ ⟨hwl, hml⟩ (m := 300) (by omega) H
  have h21 := fun H => c21 hG ⟨by omega, fun l hl => by have := hgr l hl; omega⟩ (m := 300) (by omega) H
  have h23 := fun H => c23m (m := 300) (by omega) H
  unfold chkV at h37
  by_cases hc : Good g
  · simp only [if_pos hc] at h37
    simp only [decide_eq_true hc] at h21
    have h34 := fun H => c34 hG hw hm hc hgr ⟨hwl, hml⟩ (m := 300) (by omega) H
    cases hb : rightB g W M
    · rw [hb] at h34
      simp only [hb, if_false, Bool.false_eq_true] at h37
      refine f_enter rfl rfl ?_
      generalize evF tab it 300 = call at *
      repeat' first
 | (apply s_mov; (focus ((conv => lhs; whnf); done)))
 | (apply s_gT; exact rfl)
 | (apply c_nil)
 | (apply s_pickT; exact rfl; (focus ((conv => lhs; whnf); done)))
 | (apply s_pickF; exact rfl; (focus ((conv => lhs; whnf); done)))
 | (apply s_notT; exact rfl)
 | (apply s_notF; exact rfl)
 | ((first | apply s_lss | apply s_leq | apply s_gtr | apply s_geq | apply s_eql | apply s_neq); exact rfl; all_goals (intro _; try (exfalso; omega)))
 | (apply s_en; (focus (repeat (first | apply opds_nil | (apply opds_cons; (first | (focus ((conv => lhs; whnf); done)) | exact rfl))))); exact ob _)
 | (apply s_en; (focus (repeat (first | apply opds_nil | (apply opds_cons; (first | (focus ((conv => lhs; whnf); done)) | exact rfl))))); exact ob2 _ _)
 | (apply s_en; (focus (repeat (first | apply opds_nil | (apply opds_cons; (first | (focus ((conv => lhs; whnf); done)) | exact rfl))))); exact al2 _ _)
 | (apply s_en; (focus (repeat (first | apply opds_nil | (apply opds_cons; (first | (focus ((conv => lhs; whnf); done)) | exact rfl))))); exact al3 _ _)
 | (apply s_pn; (focus (repeat (first | apply opds_nil | (apply opds_cons; (first | (focus ((conv => lhs; whnf); done)) | exact rfl))))); exact bl2 _)
 | (apply s_cn; (focus (repeat (first | apply opds_nil | (apply opds_cons; (first | (focus ((conv => lhs; whnf); done)) | exact rfl))))); exact h16 _)
 | (apply s_cn; (focus (repeat (first | apply opds_nil | (apply opds_cons; (first | (focus ((conv => lhs; whnf); done)) | exact rfl))))); exact h16' _)
 | (apply s_cn; (focus (repeat (first | apply opds_nil | (apply opds_cons; (first | (focus ((conv => lhs; whnf); done)) | exact rfl))))); exact h17a _)
 | (apply s_cn; (focus (repeat (first | apply opds_nil | (apply opds_cons; (first | (focus ((conv => lhs; whnf); done)) | exact rfl))))); exact h17b _)
 | (apply s_cn; (focus (repeat (first | apply opds_nil | (apply opds_cons; (first | (focus ((conv => lhs; whnf); done)) | exact rfl))))); exact h17c _)
 | (apply s_cn; (focus (repeat (first | apply opds_nil | (apply opds_cons; (first | (focus ((conv => lhs; whnf); done)) | exact rfl))))); exact h17d _)
 | (apply s_cn; (focus (repeat (first | apply opds_nil | (apply opds_cons; (first | (focus ((conv => lhs; whnf); done)) | exact rfl))))); exact h37 _)
 | (apply s_cn; (focus (repeat (first | apply opds_nil | (apply opds_cons; (first | (focus ((conv => lhs; whnf); done)) | exact rfl))))); exact h19 _)
 | (apply s_cn; (focus (repeat (first | apply opds_nil | (apply opds_cons; (first | (focus ((conv => lhs; whnf); done)) | exact rfl))))); exact h20a _)
 | (apply s_cn; (focus (repeat (first | apply opds_nil | (apply opds_cons; (first | (focus ((conv => lhs; whnf); done)) | exact rfl))))); exact h20b _)
 | (apply s_cn; (focus (repeat (first | apply opds_nil | (apply opds_cons; (first | (focus ((conv => lhs; whnf); done)) | exact rfl))))); exact h21 _)
 | (apply s_cn; (focus (repeat (first | apply opds_nil | (apply opds_cons; (first | (focus ((conv => lhs; whnf); done)) | exact rfl))))); exact h34 _)
 | (apply s_cn; (focus (repeat (first | apply opds_nil | (apply opds_cons; (first | (focus ((conv => lhs; whnf); done)) | exact rfl))))); exact h23 _)
 | (apply s_st; (focus (repeat (first | apply opds_nil | (apply opds_cons; (first | (focus ((conv => lhs; whnf); done)) | exact rfl))))); exact stG _ _ _ rfl)
 | (apply s_st; (focus (repeat (first | apply opds_nil | (apply opds_cons; (first | (focus ((conv => lhs; whnf); done)) | exact rfl))))); exact st2 _ _ _ rfl)
 | (apply s_pd; (focus ((conv => lhs; whnf); done)))
 | (apply c_seq)
 | (apply c_reg)
 | (apply c_skip)
 | (apply c_ret)
 | (apply c_condT; exact rfl)
 | (apply c_condF; exact rfl)
 | (with_reducible apply k_c)
      all_goals (refine fin_t (v := .bool true) ?_ ?_ ?_ <;> exact rfl)
    · rw [hb] at h34
      simp only [hb, if_true] at h37
      refine f_enter rfl rfl ?_
      generalize evF tab it 300 = call at *
      repeat' first
 | (apply s_mov; (focus ((conv => lhs; whnf); done)))
 | (apply s_gT; exact rfl)
 | (apply c_nil)
 | (apply s_pickT; exact rfl; (focus ((conv => lhs; whnf); done)))
 | (apply s_pickF; exact rfl; (focus ((conv => lhs; whnf); done)))
 | (apply s_notT; exact rfl)
 | ((first | apply s_lss | apply s_leq | apply s_gtr | apply s_geq | apply s_eql | apply s_neq); exact rfl; all_goals (intro _; try (exfalso; omega)))
 | (apply s_en; (focus (repeat (first | apply opds_nil | (apply opds_cons; (first | (focus ((conv => lhs; whnf); done)) | exact rfl))))); exact ob _)
 | (apply s_en; (focus (repeat (first | apply opds_nil | (apply opds_cons; (first | (focus ((conv => lhs; whnf); done)) | exact rfl))))); exact ob2 _ _)
 | (apply s_en; (focus (repeat (first | apply opds_nil | (apply opds_cons; (first | (focus ((conv => lhs; whnf); done)) | exact rfl))))); exact al2 _ _)
 | (apply s_en; (focus (repeat (first | apply opds_nil | (apply opds_cons; (first | (focus ((conv => lhs; whnf); done)) | exact rfl))))); exact al3 _ _)
 | (apply s_pn; (focus (repeat (first | apply opds_nil | (apply opds_cons; (first | (focus ((conv => lhs; whnf); done)) | exact rfl))))); exact bl2 _)
 | (apply s_cn; (focus (repeat (first | apply opds_nil | (apply opds_cons; (first | (focus ((conv => lhs; whnf); done)) | exact rfl))))); exact h16 _)
 | (apply s_cn; (focus (repeat (first | apply opds_nil | (apply opds_cons; (first | (focus ((conv => lhs; whnf); done)) | exact rfl))))); exact h16' _)
 | (apply s_cn; (focus (repeat (first | apply opds_nil | (apply opds_cons; (first | (focus ((conv => lhs; whnf); done)) | exact rfl))))); exact h17a _)
 | (apply s_cn; (focus (repeat (first | apply opds_nil | (apply opds_cons; (first | (focus ((conv => lhs; whnf); done)) | exact rfl))))); exact h17b _)
 | (apply s_cn; (focus (repeat (first | apply opds_nil | (apply opds_cons; (first | (focus ((conv => lhs; whnf); done)) | exact rfl))))); exact h17c _)
 | (apply s_cn; (focus (repeat (first | apply opds_nil | (apply opds_cons; (first | (focus ((conv => lhs; whnf); done)) | exact rfl))))); exact h17d _)
 | (apply s_cn; (focus (repeat (first | apply opds_nil | (apply opds_cons; (first | (focus ((conv => lhs; whnf); done)) | exact rfl))))); exact h37 _)
 | (apply s_cn; (focus (repeat (first | apply opds_nil | (apply opds_cons; (first | (focus ((conv => lhs; whnf); done)) | exact rfl))))); exact h19 _)
 | (apply s_cn; (focus (repeat (first | apply opds_nil | (apply opds_cons; (first | (focus ((conv => lhs; whnf); done)) | exact rfl))))); exact h20a _)
 | (apply s_cn; (focus (repeat (first | apply opds_nil | (apply opds_cons; (first | (focus ((conv => lhs; whnf); done)) | exact rfl))))); exact h20b _)
 | (apply s_cn; (focus (repeat (first | apply opds_nil | (apply opds_cons; (first | (focus ((conv => lhs; whnf); done)) | exact rfl))))); exact h21 _)
 | (apply s_cn; (focus (repeat (first | apply opds_nil | (apply opds_cons; (first | (focus ((conv => lhs; whnf); done)) | exact rfl))))); exact h34 _)
 | (apply s_cn; (focus (repeat (first | apply opds_nil | (apply opds_cons; (first | (focus ((conv => lhs; whnf); done)) | exact rfl))))); exact h23 _)
 | (apply s_st; (focus (repeat (first | apply opds_nil | (apply opds_cons; (first | (focus ((conv => lhs; whnf); done)) | exact rfl))))); exact stG _ _ _ rfl)
 | (apply s_st; (focus (repeat (first | apply opds_nil | (apply opds_cons; (first | (focus ((conv => lhs; whnf); done)) | exact rfl))))); exact st2 _ _ _ rfl)
 | (apply s_pd; (focus ((conv => lhs; whnf); done)))
 | (apply c_seq)
 | (apply c_reg)
 | (apply c_skip)
 | (apply c_ret)
 | (apply c_condF; exact rfl)
 | (with_reducible apply k_c)
      all_goals (refine fin_t (v := .bool true) ?_ ?_ ?_ <;> exact rfl)
  · simp only [if_neg hc] at h37
    simp only [decide_eq_false hc] at h21
    refine f_enter rfl rfl ?_
    generalize evF tab it 300 = call at *
    repeat' first
 | (apply s_mov; (focus ((conv => lhs; whnf); done)))
 | (apply s_gT; exact rfl)
 | (apply c_nil)
 | (apply s_pickT; exact rfl; (focus ((conv => lhs; whnf); done)))
 | (apply s_pickF; exact rfl; (focus ((conv => lhs; whnf); done)))
 | (apply s_notT; exact rfl)
 | (apply s_notF; exact rfl)
 | ((first | apply s_lss | apply s_leq | apply s_gtr | apply s_geq | apply s_eql | apply s_neq); exact rfl; all_goals (intro _; try (exfalso; omega)))
 | (apply s_en; (focus (repeat (first | apply opds_nil | (apply opds_cons; (first | (focus ((conv => lhs; whnf); done)) | exact rfl))))); exact ob _)
 | (apply s_en; (focus (repeat (first | apply opds_nil | (apply opds_cons; (first | (focus ((conv => lhs; whnf); done)) | exact rfl))))); exact ob2 _ _)
 | (apply s_en; (focus (repeat (first | apply opds_nil | (apply opds_cons; (first | (focus ((conv => lhs; whnf); done)) | exact rfl))))); exact al2 _ _)
 | (apply s_en; (focus (repeat (first | apply opds_nil | (apply opds_cons; (first | (focus ((conv => lhs; whnf); done)) | exact rfl))))); exact al3 _ _)
 | (apply s_pn; (focus (repeat (first | apply opds_nil | (apply opds_cons; (first | (focus ((conv => lhs; whnf); done)) | exact rfl))))); exact bl2 _)
 | (apply s_cn; (focus (repeat (first | apply opds_nil | (apply opds_cons; (first | (focus ((conv => lhs; whnf); done)) | exact rfl))))); exact h16 _)
 | (apply s_cn; (focus (repeat (first | apply opds_nil | (apply opds_cons; (first | (focus ((conv => lhs; whnf); done)) | exact rfl))))); exact h16' _)
 | (apply s_cn; (focus (repeat (first | apply opds_nil | (apply opds_cons; (first | (focus ((conv => lhs; whnf); done)) | exact rfl))))); exact h17a _)
 | (apply s_cn; (focus (repeat (first | apply opds_nil | (apply opds_cons; (first | (focus ((conv => lhs; whnf); done)) | exact rfl))))); exact h17b _)
 | (apply s_cn; (focus (repeat (first | apply opds_nil | (apply opds_cons; (first | (focus ((conv => lhs; whnf); done)) | exact rfl))))); exact h17c _)
 | (apply s_cn; (focus (repeat (first | apply opds_nil | (apply opds_cons; (first | (focus ((conv => lhs; whnf); done)) | exact rfl))))); exact h17d _)
 | (apply s_cn; (focus (repeat (first | apply opds_nil | (apply opds_cons; (first | (focus ((conv => lhs; whnf); done)) | exact rfl))))); exact h37 _)
 | (apply s_cn; (focus (repeat (first | apply opds_nil | (apply opds_cons; (first | (focus ((conv => lhs; whnf); done)) | exact rfl))))); exact h19 _)
 | (apply s_cn; (focus (repeat (first | apply opds_nil | (apply opds_cons; (first | (focus ((conv => lhs; whnf); done)) | exact rfl))))); exact h20a _)
 | (apply s_cn; (focus (repeat (first | apply opds_nil | (apply opds_cons; (first | (focus ((conv => lhs; whnf); done)) | exact rfl))))); exact h20b _)
 | (apply s_cn; (focus (repeat (first | apply opds_nil | (apply opds_cons; (first | (focus ((conv => lhs; whnf); done)) | exact rfl))))); exact h21 _)
 | (apply s_cn; (focus (repeat (first | apply opds_nil | (apply opds_cons; (first | (focus ((conv => lhs; whnf); done)) | exact rfl))))); exact h23 _)
 | (apply s_st; (focus (repeat (first | apply opds_nil | (apply opds_cons; (first | (focus ((conv => lhs; whnf); done)) | exact rfl))))); exact stG _ _ _ rfl)
 | (apply s_st; (focus (repeat (first | apply opds_nil | (apply opds_cons; (first | (focus ((conv => lhs; whnf); done)) | exact rfl))))); exact st2 _ _ _ rfl)
 | (apply s_pd; (focus ((conv => lhs; whnf); done)))
 | (apply c_seq)
 | (apply c_reg)
 | (apply c_skip)
 | (apply c_ret)
 | (apply c_condT; exact rfl)
 | (apply c_condF; exact rfl)
 | (with_reducible apply k_c)
    all_goals (refine fin_t (v := .bool true) ?_ ?_ ?_ <;> exact rfl)
end Go.AM.Pa
