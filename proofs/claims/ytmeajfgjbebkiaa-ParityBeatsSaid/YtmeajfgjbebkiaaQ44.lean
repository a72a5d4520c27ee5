/- A part of the proof: Q44. -/
import Derived.Test.YtmeajfgjbebkiaaQ43
set_option linter.unusedSectionVars false
set_option linter.unusedVariables false
set_option linter.unusedSimpArgs false
namespace Go.AM.Pa
theorem okB_pl {g : Gm} (hg : Good g) (p : Int) (pl : List Int) : (pl.length = g.next.length ∧ OkB g p pl) ↔ OkPl g p pl := by
  have h2 := hg.2.1
  constructor
  · rintro ⟨h1, h⟩
    exact ⟨by omega, fun v hv => h v (by omega)⟩
  · rintro ⟨h1, h⟩
    exact ⟨by omega, fun v hv => h v (by omega)⟩
set_option maxHeartbeats 4000000
theorem f10 {x t : AV} {a : Gm} {l : List Int} {p : Int} (hx : IsG x a) (ht : IsL t l) : ∃ m H', evF tab it m 10 [x, .int .i64 p, t] [] = some (.bool true, H') := by
  refine ⟨301, [], ?_⟩
  obtain ⟨xo, xr, xn, rfl, ho, hr, hn⟩ := id hx
  have fo := ho.free; have fr := hr.free; have fn := hn.free; have ft := ht.free
  have ob : ∀ call, evE call [] (.box false) [.agg [xo, xr, xn]] = some (.ptr 0 0, [some (.box [xo, xr, xn])]) := fun call => by simp [evE, AV.cells, oneL, ho.one, hr.one, hn.one, mkHO]
  have h16 := fun H => c16 hx (m := 300) (by omega) H
  have h16' := fun H => c16 (isG_fz (g30 a)) (m := 300) (by omega) H
  rw [g30_g30] at h16'
  have h17 := fun H => c17 ht (m := 300) (by omega) H
  have h17' := fun H => c17 (isL_fz (l.take 30)) (m := 300) (by omega) H
  rw [List.take_take, Nat.min_self] at h17'
  have hs := isL_fz (l.take 30)
  have hsl : (l.take 30).length < 50 := by rw [List.length_take]; omega
  have hzo := isL_fz (g30 a).owner
  have hzr := isL_fz (g30 a).rank
  have hzn := isLL_fz (g30 a).next
  have hgl := g30_len a
  have hgr := g30_row (a := a)
  have hG := isG_fz (g30 a)
  unfold fzG at h16 h16' hG
  generalize g30 a = g at *
  generalize l.take 30 = s at *
  generalize fzL g.owner = zo at *
  generalize fzL g.rank = zr at *
  generalize fzLL g.next = zn at *
  generalize fzL s = zs at *
  have go := hzo.free; have gr := hzr.free; have gn := hzn.free
  have stG : ∀ call H id, H[id]? = some (some (.box [.nilS, .nilS, .nilS])) → evE call H (.st 3) [.ptr id 0, .agg [zo, zr, zn]] = some (.undef, H.set id (some (.box [zo, zr, zn]))) := fun call H id h => e_st3 hzo.one hzr.one hzn.one h
  have h19 := fun H => c19 hG hG ⟨by omega, by omega, by omega, fun l hl => by have := hgr l hl; omega⟩ (m := 300) (by omega) H
  simp only [and_self, decide_true] at h19
  have h20 := fun H => c20 hs hs (by omega) (m := 300) (by omega) H
  simp only [decide_true] at h20
  have h35 := fun H => c35 (p := p) hG hs ⟨by omega, hgr⟩ hsl (m := 300) (by omega) H
  have h21 := fun H => c21 hG ⟨by omega, fun l hl => by have := hgr l hl; omega⟩ (m := 300) (by omega) H
  have h26 := fun (hg : Good g) (q : Int) H => c26 (p := q) hG hs hg hgr hsl (m := 300) (by omega) H
  have h23 := fun H => c23m (m := 300) (by omega) H
  by_cases hc : Good g ∧ (0 ≤ p ∧ p ≤ 1) ∧ s.length = g.next.length ∧ OkB g p s
  · simp only [if_pos hc] at h35
    have hpp := (okB_pl hc.1 p s).1 hc.2.2
    have hp01 : p = 0 ∨ p = 1 := by have := hc.2.1; omega
    have hp0 := hc.2.1
    have h36 := fun H => c36 (p := p) hG hs hc.1 hp01 hgr hc.2.2.1 hc.2.2.2 (m := 300) (by omega) H
    have hb := isL_fz (beatsL g p s)
    have hbl := beatsL_len g p s
    have h20b := fun H => c20 hb hb (by have := hc.1.1; omega) (m := 300) (by omega) H
    simp only [decide_true] at h20b
    have h26a := fun H => h26 hc.1 p H
    simp only [decide_eq_true hpp] at h26a
    simp only [decide_eq_true hc.1] at h21
    generalize fzL (beatsL g p s) = zb at *
    refine f_enter rfl rfl ?_
    generalize evF tab it 300 = call at *
    repeat' first
 | (apply s_mov; (focus ((conv => lhs; whnf); done)))
 | (apply s_gT; exact rfl)
 | (apply c_nil)
 | (apply s_pickT; exact rfl; (focus ((conv => lhs; whnf); done)))
 | (apply s_pickF; exact rfl; (focus ((conv => lhs; whnf); done)))
 | (apply s_notT; exact rfl)
 | ((first | apply s_lss | apply s_leq | apply s_gtr | apply s_geq | apply s_eql | apply s_neq); exact rfl; all_goals (intro _; try (exfalso; omega)))
 | (apply s_en; (focus (repeat (first | apply opds_nil | (apply opds_cons; (first | (focus ((conv => lhs; whnf); done)) | exact rfl))))); exact ob _)
 | (apply s_cn; (focus (repeat (first | apply opds_nil | (apply opds_cons; (first | (focus ((conv => lhs; whnf); done)) | exact rfl))))); exact h16 _)
 | (apply s_cn; (focus (repeat (first | apply opds_nil | (apply opds_cons; (first | (focus ((conv => lhs; whnf); done)) | exact rfl))))); exact h16' _)
 | (apply s_cn; (focus (repeat (first | apply opds_nil | (apply opds_cons; (first | (focus ((conv => lhs; whnf); done)) | exact rfl))))); exact h17 _)
 | (apply s_cn; (focus (repeat (first | apply opds_nil | (apply opds_cons; (first | (focus ((conv => lhs; whnf); done)) | exact rfl))))); exact h17' _)
 | (apply s_cn; (focus (repeat (first | apply opds_nil | (apply opds_cons; (first | (focus ((conv => lhs; whnf); done)) | exact rfl))))); exact h35 _)
 | (apply s_cn; (focus (repeat (first | apply opds_nil | (apply opds_cons; (first | (focus ((conv => lhs; whnf); done)) | exact rfl))))); exact h36 _)
 | (apply s_cn; (focus (repeat (first | apply opds_nil | (apply opds_cons; (first | (focus ((conv => lhs; whnf); done)) | exact rfl))))); exact h19 _)
 | (apply s_cn; (focus (repeat (first | apply opds_nil | (apply opds_cons; (first | (focus ((conv => lhs; whnf); done)) | exact rfl))))); exact h20 _)
 | (apply s_cn; (focus (repeat (first | apply opds_nil | (apply opds_cons; (first | (focus ((conv => lhs; whnf); done)) | exact rfl))))); exact h20b _)
 | (apply s_cn; (focus (repeat (first | apply opds_nil | (apply opds_cons; (first | (focus ((conv => lhs; whnf); done)) | exact rfl))))); exact h21 _)
 | (apply s_cn; (focus (repeat (first | apply opds_nil | (apply opds_cons; (first | (focus ((conv => lhs; whnf); done)) | exact rfl))))); exact h26a _)
 | (apply s_cn; (focus (repeat (first | apply opds_nil | (apply opds_cons; (first | (focus ((conv => lhs; whnf); done)) | exact rfl))))); exact h23 _)
 | (apply s_st; (focus (repeat (first | apply opds_nil | (apply opds_cons; (first | (focus ((conv => lhs; whnf); done)) | exact rfl))))); exact stG _ _ _ rfl)
 | (apply isE; apply s_ed; (focus ((conv => lhs; whnf); done)))
 | (apply s_pd; (focus ((conv => lhs; whnf); done)))
 | (apply c_seq)
 | (apply c_reg)
 | (apply c_skip)
 | (apply c_ret)
 | (apply c_condF; exact rfl)
 | (with_reducible apply k_c)
    all_goals first
      | (refine fin_t (v := .bool true) ?_ ?_ ?_ <;> exact rfl)
      | (exfalso; exact absurd rfl (by assumption))
  · simp only [if_neg hc] at h35
    refine f_enter rfl rfl ?_
    generalize evF tab it 300 = call at *
    repeat' first
 | (apply s_mov; (focus ((conv => lhs; whnf); done)))
 | (apply s_gT; exact rfl)
 | (apply s_gF; exact rfl)
 | (apply s_gFD; exact rfl)
 | (apply c_nil)
 | (apply s_pickT; exact rfl; (focus ((conv => lhs; whnf); done)))
 | (apply s_pickF; exact rfl; (focus ((conv => lhs; whnf); done)))
 | (apply s_notT; exact rfl)
 | (apply s_notF; exact rfl)
 | ((first | apply s_lss | apply s_leq | apply s_gtr | apply s_geq | apply s_eql | apply s_neq); exact rfl; all_goals (intro _; try (exfalso; omega)))
 | (apply s_en; (focus (repeat (first | apply opds_nil | (apply opds_cons; (first | (focus ((conv => lhs; whnf); done)) | exact rfl))))); exact ob _)
 | (apply s_cn; (focus (repeat (first | apply opds_nil | (apply opds_cons; (first | (focus ((conv => lhs; whnf); done)) | exact rfl))))); exact h16 _)
 | (apply s_cn; (focus (repeat (first | apply opds_nil | (apply opds_cons; (first | (focus ((conv => lhs; whnf); done)) | exact rfl))))); exact h16' _)
 | (apply s_cn; (focus (repeat (first | apply opds_nil | (apply opds_cons; (first | (focus ((conv => lhs; whnf); done)) | exact rfl))))); exact h17 _)
 | (apply s_cn; (focus (repeat (first | apply opds_nil | (apply opds_cons; (first | (focus ((conv => lhs; whnf); done)) | exact rfl))))); exact h17' _)
 | (apply s_cn; (focus (repeat (first | apply opds_nil | (apply opds_cons; (first | (focus ((conv => lhs; whnf); done)) | exact rfl))))); exact h35 _)
 | (apply s_cn; (focus (repeat (first | apply opds_nil | (apply opds_cons; (first | (focus ((conv => lhs; whnf); done)) | exact rfl))))); exact h19 _)
 | (apply s_cn; (focus (repeat (first | apply opds_nil | (apply opds_cons; (first | (focus ((conv => lhs; whnf); done)) | exact rfl))))); exact h20 _)
 | (apply isE; refine s_cB (by (focus (repeat (first | apply opds_nil | (apply opds_cons; (first | (focus ((conv => lhs; whnf); done)) | exact rfl)))))) (h21 _) (fun _ => ?_) (fun _ => ?_))
 | (apply isE; refine s_cB (by (focus (repeat (first | apply opds_nil | (apply opds_cons; (first | (focus ((conv => lhs; whnf); done)) | exact rfl)))))) (h26 (by assumption) _ _) (fun _ => ?_) (fun _ => ?_))
 | (apply s_cn; (focus (repeat (first | apply opds_nil | (apply opds_cons; (first | (focus ((conv => lhs; whnf); done)) | exact rfl))))); exact h23 _)
 | (apply s_st; (focus (repeat (first | apply opds_nil | (apply opds_cons; (first | (focus ((conv => lhs; whnf); done)) | exact rfl))))); exact stG _ _ _ rfl)
 | (apply isE; apply s_ed; (focus ((conv => lhs; whnf); done)))
 | (apply s_pd; (focus ((conv => lhs; whnf); done)))
 | (apply c_seq)
 | (apply c_reg)
 | (apply c_skip)
 | (apply c_ret)
 | (apply c_condT; exact rfl)
 | (apply c_condF; exact rfl)
 | (with_reducible apply k_c)
    all_goals first
      | (refine fin_t (v := .bool true) ?_ ?_ ?_ <;> exact rfl)
      | (exfalso
         have hgg : Good g := by assumption
         have h0 : OkPl g p s := by assumption
         exact hc ⟨hgg, ⟨by omega, by omega⟩, (okB_pl hgg p s).2 h0⟩)
end Go.AM.Pa
