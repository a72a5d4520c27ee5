/- A part of the proof: Q11. -/
import Derived.Test.YtmeajfgjbebkiaaQ10
import Derived.Test.YtmeajfgjbebkiaaQ8b
set_option linter.unusedSectionVars false
set_option linter.unusedVariables false
set_option linter.unusedSimpArgs false
namespace Go.AM.Pa
set_option maxHeartbeats 2000000
theorem f3 {x t : AV} {a : Gm} {l : List Int} {p : Int} (hx : IsG x a) (ht : IsL t l) (heq : Good (g30 a) → Asc (l.take 30) (g30 a).next.length → (0 ≤ p ∧ p ≤ 1) → attrL (g30 a) p (l.take 30) = attrR (g30 a) p (l.take 30)) :
    ∃ m H', evF tab it m 3 [x, .int .i64 p, t] [] = some (.bool true, H') := by
  refine ⟨201, [], ?_⟩
  obtain ⟨xo, xr, xn, rfl, ho, hr, hn⟩ := id hx
  have fo := ho.free; have fr := hr.free; have fn := hn.free; have ft := ht.free
  have ob : ∀ call, evE call [] (.box false) [.agg [xo, xr, xn]] = some (.ptr 0 0, [some (.box [xo, xr, xn])]) := fun call => by simp [evE, AV.cells, oneL, ho.one, hr.one, hn.one, mkHO]
  have h16 := fun H => c16 hx (m := 200) (by omega) H
  have h16' := fun H => c16 (isG_fz (g30 a)) (m := 200) (by omega) H
  rw [g30_g30] at h16'
  have h17 := fun H => c17 ht (m := 200) (by omega) H
  have h17' := fun H => c17 (isL_fz (l.take 30)) (m := 200) (by omega) H
  rw [List.take_take, Nat.min_self] at h17'
  have hs := isL_fz (l.take 30)
  have hsl : (l.take 30).length < 50 := by rw [List.length_take]; omega
  have hzo := isL_fz (g30 a).owner
  have hzr := isL_fz (g30 a).rank
  have hzn := isLL_fz (g30 a).next
  have hgl := g30_len a
  have hgr := g30_row (a := a)
  have hG := isG_fz (g30 a)
  unfold fzG at h16 h16' hG
  generalize g30 a = g at *
  generalize l.take 30 = s at *
  generalize fzL g.owner = zo at *
  generalize fzL g.rank = zr at *
  generalize fzLL g.next = zn at *
  generalize fzL s = zs at *
  have go := hzo.free; have gr := hzr.free; have gn := hzn.free
  have stG : ∀ call H id, H[id]? = some (some (.box [.nilS, .nilS, .nilS])) → evE call H (.st 3) [.ptr id 0, .agg [zo, zr, zn]] = some (.undef, H.set id (some (.box [zo, zr, zn]))) := fun call H id h => by
    simp [evE, stAt, cells_agg, oneL, hzo.one, hzr.one, hzn.one, h, putRow]
  have h19 := fun H => c19 hG hG ⟨by omega, by omega, by omega, fun l hl => by have := hgr l hl; omega⟩ (m := 200) (by omega) H
  simp only [and_self, decide_true] at h19
  have h20 := fun H => c20 hs hs (by omega) (m := 200) (by omega) H
  simp only [decide_true] at h20
  have h18 := fun H => c18 (p := p) hG hs ⟨by omega, hgr⟩ hsl (m := 200) (by omega) H
  have h21 := fun H => c21 hG ⟨by omega, fun l hl => by have := hgr l hl; omega⟩ (m := 200) (by omega) H
  have h22 := fun (N : Int) (hN : -1000 < N ∧ N < 1000) H => c22 hs hN (by omega) (m := 200) (by omega) H
  have h23 := c23
  by_cases hc : Good g ∧ (0 ≤ p ∧ p ≤ 1) ∧ Asc s g.next.length
  · simp only [if_pos hc] at h18
    have hol : (g.owner.length : Int) = g.next.length := by have := hc.1.2.1; omega
    have h24 := fun H => c24 (p := p) hG hs hc.1 hsl (getLL_lt hgr (by omega)) (m := 200) (by omega) H
    have e := heq hc.1 hc.2.2 hc.2.1
    rw [← e] at h24
    have hal := isL_fz (attrL g p s)
    have hall : (attrL g p s).length < 50 := by
      have := trues_len (runN g (fl g.next.length) p 26 (mark z24 s) (List.replicate g.next.length (-1))).1
      simp only [attrL, List.length_map]
      omega
    have h20' := fun H => c20 hal hal (by omega) (m := 200) (by omega) H
    simp only [decide_true] at h20'
    generalize fzL (attrL g p s) = za at *
    refine f_enter rfl rfl ?_
    generalize evF tab it 200 = call at *
    repeat' first
 | (apply s_mov; (focus ((conv => lhs; whnf); done)))
 | (apply s_gT; exact rfl)
 | (apply s_gF; exact rfl)
 | (apply s_gFD; exact rfl)
 | (apply c_nil)
 | (apply s_pickT; exact rfl; (focus ((conv => lhs; whnf); done)))
 | (apply s_pickF; exact rfl; (focus ((conv => lhs; whnf); done)))
 | (apply s_notT; exact rfl)
 | (apply s_notF; exact rfl)
 | ((first | apply s_lss | apply s_leq | apply s_gtr | apply s_geq | apply s_eql | apply s_neq); exact rfl; all_goals (intro _; try (exfalso; omega)))
 | (apply s_en; (focus (repeat (first | apply opds_nil | (apply opds_cons; (first | (focus ((conv => lhs; whnf); done)) | exact rfl))))); exact ob _)
 | (apply s_cn; (focus (repeat (first | apply opds_nil | (apply opds_cons; (first | (focus ((conv => lhs; whnf); done)) | exact rfl))))); exact h16 _)
 | (apply s_cn; (focus (repeat (first | apply opds_nil | (apply opds_cons; (first | (focus ((conv => lhs; whnf); done)) | exact rfl))))); exact h16' _)
 | (apply s_cn; (focus (repeat (first | apply opds_nil | (apply opds_cons; (first | (focus ((conv => lhs; whnf); done)) | exact rfl))))); exact h17 _)
 | (apply s_cn; (focus (repeat (first | apply opds_nil | (apply opds_cons; (first | (focus ((conv => lhs; whnf); done)) | exact rfl))))); exact h17' _)
 | (apply s_cn; (focus (repeat (first | apply opds_nil | (apply opds_cons; (first | (focus ((conv => lhs; whnf); done)) | exact rfl))))); exact h18 _)
 | (apply s_cn; (focus (repeat (first | apply opds_nil | (apply opds_cons; (first | (focus ((conv => lhs; whnf); done)) | exact rfl))))); exact h19 _)
 | (apply s_cn; (focus (repeat (first | apply opds_nil | (apply opds_cons; (first | (focus ((conv => lhs; whnf); done)) | exact rfl))))); exact h20 _)
 | (apply s_cn; (focus (repeat (first | apply opds_nil | (apply opds_cons; (first | (focus ((conv => lhs; whnf); done)) | exact rfl))))); exact h20' _)
 | (apply s_cn; (focus (repeat (first | apply opds_nil | (apply opds_cons; (first | (focus ((conv => lhs; whnf); done)) | exact rfl))))); exact h24 _)
 | (apply isE; refine s_cB (by (focus (repeat (first | apply opds_nil | (apply opds_cons; (first | (focus ((conv => lhs; whnf); done)) | exact rfl)))))) (h21 _) (fun _ => ?_) (fun _ => ?_))
 | (apply isE; refine s_cB (by (focus (repeat (first | apply opds_nil | (apply opds_cons; (first | (focus ((conv => lhs; whnf); done)) | exact rfl)))))) (h22 _ (by omega) _) (fun _ => ?_) (fun _ => ?_))
 | (apply s_cn; (focus (repeat (first | apply opds_nil | (apply opds_cons; (first | (focus ((conv => lhs; whnf); done)) | exact rfl))))); exact h23 _)
 | (apply s_st; (focus (repeat (first | apply opds_nil | (apply opds_cons; (first | (focus ((conv => lhs; whnf); done)) | exact rfl))))); exact stG _ _ _ rfl)
 | (apply isE; apply s_ed; (focus ((conv => lhs; whnf); done)))
 | (apply s_len; (focus ((conv => lhs; whnf); done)); (first | assumption | (apply IsLL.at; assumption; omega)))
 | (apply s_pd; (focus ((conv => lhs; whnf); done)))
 | (apply c_seq)
 | (apply c_reg)
 | (apply c_skip)
 | (apply c_ret)
 | (apply c_condT; exact rfl)
 | (apply c_condF; exact rfl)
 | (with_reducible apply k_c)
    all_goals first
      | (refine fin_t (v := .bool true) ?_ ?_ ?_ <;> exact rfl)
      | (exfalso; refine absurd hc.2.2 ?_; rw [← hol]; assumption)
      | (exfalso; exact absurd hc.1 (by assumption))
  · simp only [if_neg hc] at h18
    refine f_enter rfl rfl ?_
    generalize evF tab it 200 = call at *
    repeat' first
 | (apply s_mov; (focus ((conv => lhs; whnf); done)))
 | (apply s_gT; exact rfl)
 | (apply s_gF; exact rfl)
 | (apply s_gFD; exact rfl)
 | (apply c_nil)
 | (apply s_pickT; exact rfl; (focus ((conv => lhs; whnf); done)))
 | (apply s_pickF; exact rfl; (focus ((conv => lhs; whnf); done)))
 | (apply s_notT; exact rfl)
 | (apply s_notF; exact rfl)
 | ((first | apply s_lss | apply s_leq | apply s_gtr | apply s_geq | apply s_eql | apply s_neq); exact rfl; all_goals (intro _; try (exfalso; omega)))
 | (apply s_en; (focus (repeat (first | apply opds_nil | (apply opds_cons; (first | (focus ((conv => lhs; whnf); done)) | exact rfl))))); exact ob _)
 | (apply s_cn; (focus (repeat (first | apply opds_nil | (apply opds_cons; (first | (focus ((conv => lhs; whnf); done)) | exact rfl))))); exact h16 _)
 | (apply s_cn; (focus (repeat (first | apply opds_nil | (apply opds_cons; (first | (focus ((conv => lhs; whnf); done)) | exact rfl))))); exact h16' _)
 | (apply s_cn; (focus (repeat (first | apply opds_nil | (apply opds_cons; (first | (focus ((conv => lhs; whnf); done)) | exact rfl))))); exact h17 _)
 | (apply s_cn; (focus (repeat (first | apply opds_nil | (apply opds_cons; (first | (focus ((conv => lhs; whnf); done)) | exact rfl))))); exact h17' _)
 | (apply s_cn; (focus (repeat (first | apply opds_nil | (apply opds_cons; (first | (focus ((conv => lhs; whnf); done)) | exact rfl))))); exact h18 _)
 | (apply s_cn; (focus (repeat (first | apply opds_nil | (apply opds_cons; (first | (focus ((conv => lhs; whnf); done)) | exact rfl))))); exact h19 _)
 | (apply s_cn; (focus (repeat (first | apply opds_nil | (apply opds_cons; (first | (focus ((conv => lhs; whnf); done)) | exact rfl))))); exact h20 _)
 | (apply isE; refine s_cB (by (focus (repeat (first | apply opds_nil | (apply opds_cons; (first | (focus ((conv => lhs; whnf); done)) | exact rfl)))))) (h21 _) (fun _ => ?_) (fun _ => ?_))
 | (apply isE; refine s_cB (by (focus (repeat (first | apply opds_nil | (apply opds_cons; (first | (focus ((conv => lhs; whnf); done)) | exact rfl)))))) (h22 _ (by omega) _) (fun _ => ?_) (fun _ => ?_))
 | (apply s_cn; (focus (repeat (first | apply opds_nil | (apply opds_cons; (first | (focus ((conv => lhs; whnf); done)) | exact rfl))))); exact h23 _)
 | (apply s_st; (focus (repeat (first | apply opds_nil | (apply opds_cons; (first | (focus ((conv => lhs; whnf); done)) | exact rfl))))); exact stG _ _ _ rfl)
 | (apply isE; apply s_ed; (focus ((conv => lhs; whnf); done)))
 | (apply s_len; (focus ((conv => lhs; whnf); done)); (first | assumption | (apply IsLL.at; assumption; omega)))
 | (apply s_pd; (focus ((conv => lhs; whnf); done)))
 | (apply c_seq)
 | (apply c_reg)
 | (apply c_skip)
 | (apply c_ret)
 | (apply c_condT; exact rfl)
 | (apply c_condF; exact rfl)
 | (with_reducible apply k_c)
    all_goals first
      | (refine fin_t (v := .bool true) ?_ ?_ ?_ <;> exact rfl)
      | (exfalso
         have hgg : Good g := by assumption
         have hol : (g.owner.length : Int) = g.next.length := by have := hgg.2.1; omega
         refine hc ⟨hgg, ⟨by omega, by omega⟩, ?_⟩
         rw [← hol]
         assumption)
end Go.AM.Pa
