/- A part of the proof: U17. -/
import Derived.Test.YtmegimhfoedcdaaU16
set_option linter.unusedSectionVars false
set_option linter.unusedVariables false
set_option linter.unusedSimpArgs false
namespace Go.AM.Ch
set_option maxHeartbeats 8000000
theorem c23 {x : AV} {b : List (List Int)} (hx : IsLL x b) (hl : b.length < 100) {m : Nat} (hm : 2100 ≤ m) (H : Heap) : callPure (evF tab it m) true 23 [x] H = some (.bool (decide (IsB b)), H) :=
  callPure_free (by simp [idFreeL, hx.free]) (by simp) (f23 hx hl hm) rfl
theorem b12_idem (b : List (List Int)) : b12 (b12 b) = b12 b := by
  unfold b12
  rw [← List.map_take, List.take_take, List.map_map]
  simp only [Nat.min_self]
  congr 1
  funext l
  simp [List.take_take]
theorem c25 (H : Heap) : callPure (evF tab it 60000) true 25 [] H = some (.bool true, H) := callPure_free rfl (by simp) awake rfl
/-- law 7 -/
theorem f7 {x y z : AV} {b : List (List Int)} {s t : List Int} (hx : IsLL x b) (hy : IsL y s) (hz : IsL z t) : ∃ m H', evF tab it m 7 [x, y, z] [] = some (.bool true, H') := by
  refine ⟨60001, [], ?_⟩
  have h25 := c25
  have fx := hx.free; have fy := hy.free; have fz := hz.free
  have a1 := fun H => c18 hx (m := 60000) (by omega) H
  have a2 := fun H => c19 hy (m := 60000) (by omega) H
  have a3 := fun H => c19 hz (m := 60000) (by omega) H
  have b1 := fun H => c18 (isLL_fz (b12 b)) (m := 60000) (by omega) H
  have b2 := fun H => c19 (isL_fz (s.take 12)) (m := 60000) (by omega) H
  have b3 := fun H => c19 (isL_fz (t.take 12)) (m := 60000) (by omega) H
  rw [b12_idem] at b1
  simp only [List.take_take, Nat.min_self] at b2 b3
  have lb : (b12 b).length ≤ 12 := by simp [b12]; omega
  have lb2 : ∀ l ∈ b12 b, l.length < 100 := fun l hl => by
    obtain ⟨r, _, rfl⟩ := List.mem_map.1 hl
    simp; omega
  have ls : (s.take 12).length ≤ 12 := by simp; omega
  have lt : (t.take 12).length ≤ 12 := by simp; omega
  generalize b12 b = B at *
  generalize s.take 12 = S at *
  generalize t.take 12 = T at *
  have iB := isLL_fz B; have iS := isL_fz S; have iT := isL_fz T
  have e37 := fun H => c37 iB iS iT (by omega) (by omega) (by omega) (m := 60000) (by omega) H
  have e21 := fun H => c21 iB iB ⟨by omega, lb2⟩ (m := 60000) (by omega) H
  have e22s := fun H => c22 iS iS (by omega) (m := 60000) (by omega) H
  have e22t := fun H => c22 iT iT (by omega) (m := 60000) (by omega) H
  have e23 := fun H => c23 iB (by omega) (m := 60000) (by omega) H
  have e24 := fun H => c24 iB iS (by omega) (m := 60000) (by omega) H
  have e38 := fun H => c38 iB iT (by omega) (m := 60000) (by omega) H
  have e26 := fun (h : ApOk B S T) H => c26 iB iS iT h.1.bd h.1.sym h.1.n1 h.2.1.1 h.2.2.1 (fun v hv => by have := inR_get h.2.2 v hv; omega) (fun v hv => by have := inR_get h.2.1 v hv; omega) (m := 60000) (by omega) H
  have e22r := fun (h : ApOk B S T) H => c22 (isL_apl B S T) (isL_fz (apl B S T)) (by rw [apl_len]; omega) (m := 60000) (by omega) H
  simp only [decide_true] at e21 e22s e22t e22r
  refine f_enter rfl rfl ?_
  generalize evF tab it 60000 = call at *
  by_cases hA : ApOk B S T
  · have e26' := e26 hA
    have e22r' := e22r hA
    simp only [if_pos hA, hA.1, hA.2.1, hA.2.2, decide_true] at e37 e23 e24 e38
    generalize fzLL B = vB at *
    generalize fzL S = vS at *
    generalize fzL T = vT at *
    repeat' first
 | (apply s_mov; (focus ((conv => lhs; whnf); done)))
 | (apply s_gT; exact rfl)
 | (apply c_nil)
 | (apply s_pickT; exact rfl; (focus ((conv => lhs; whnf); done)))
 | (apply s_pickF; exact rfl; (focus ((conv => lhs; whnf); done)))
 | (apply s_notT; exact rfl)
 | ((first | apply s_lss | apply s_leq | apply s_gtr | apply s_geq | apply s_eql | apply s_neq); exact rfl; all_goals (intro _; try (exfalso; omega)))
 | (apply s_cn; (focus (repeat (first | apply opds_nil | (apply opds_cons; (first | (focus ((conv => lhs; whnf); done)) | exact rfl))))); exact a1 _)
 | (apply s_cn; (focus (repeat (first | apply opds_nil | (apply opds_cons; (first | (focus ((conv => lhs; whnf); done)) | exact rfl))))); exact a2 _)
 | (apply s_cn; (focus (repeat (first | apply opds_nil | (apply opds_cons; (first | (focus ((conv => lhs; whnf); done)) | exact rfl))))); exact a3 _)
 | (apply s_cn; (focus (repeat (first | apply opds_nil | (apply opds_cons; (first | (focus ((conv => lhs; whnf); done)) | exact rfl))))); exact b1 _)
 | (apply s_cn; (focus (repeat (first | apply opds_nil | (apply opds_cons; (first | (focus ((conv => lhs; whnf); done)) | exact rfl))))); exact b2 _)
 | (apply s_cn; (focus (repeat (first | apply opds_nil | (apply opds_cons; (first | (focus ((conv => lhs; whnf); done)) | exact rfl))))); exact b3 _)
 | (apply s_cn; (focus (repeat (first | apply opds_nil | (apply opds_cons; (first | (focus ((conv => lhs; whnf); done)) | exact rfl))))); exact e37 _)
 | (apply s_cn; (focus (repeat (first | apply opds_nil | (apply opds_cons; (first | (focus ((conv => lhs; whnf); done)) | exact rfl))))); exact e21 _)
 | (apply s_cn; (focus (repeat (first | apply opds_nil | (apply opds_cons; (first | (focus ((conv => lhs; whnf); done)) | exact rfl))))); exact e22s _)
 | (apply s_cn; (focus (repeat (first | apply opds_nil | (apply opds_cons; (first | (focus ((conv => lhs; whnf); done)) | exact rfl))))); exact e22t _)
 | (apply s_cn; (focus (repeat (first | apply opds_nil | (apply opds_cons; (first | (focus ((conv => lhs; whnf); done)) | exact rfl))))); exact e23 _)
 | (apply s_cn; (focus (repeat (first | apply opds_nil | (apply opds_cons; (first | (focus ((conv => lhs; whnf); done)) | exact rfl))))); exact e24 _)
 | (apply s_cn; (focus (repeat (first | apply opds_nil | (apply opds_cons; (first | (focus ((conv => lhs; whnf); done)) | exact rfl))))); exact e38 _)
 | (apply s_cn; (focus (repeat (first | apply opds_nil | (apply opds_cons; (first | (focus ((conv => lhs; whnf); done)) | exact rfl))))); exact e26' _)
 | (apply s_cn; (focus (repeat (first | apply opds_nil | (apply opds_cons; (first | (focus ((conv => lhs; whnf); done)) | exact rfl))))); exact e22r' _)
 | (apply s_cn; (focus (repeat (first | apply opds_nil | (apply opds_cons; (first | (focus ((conv => lhs; whnf); done)) | exact rfl))))); exact h25 _)
 | (apply s_pd; (focus ((conv => lhs; whnf); done)))
 | (apply c_seq)
 | (apply c_reg)
 | (apply c_skip)
 | (apply c_ret)
 | (apply c_condF; exact rfl)
 | (with_reducible apply k_c)
    all_goals exact fin_t (by (conv => lhs; whnf)) (by rfl) rfl
  · simp only [if_neg hA] at e37
    generalize fzLL B = vB at *
    generalize fzL S = vS at *
    generalize fzL T = vT at *
    repeat' first
 | (apply s_mov; (focus ((conv => lhs; whnf); done)))
 | (apply s_gT; exact rfl)
 | (apply s_gF; exact rfl)
 | (apply s_gFD; exact rfl)
 | (apply c_nil)
 | (apply s_pickT; exact rfl; (focus ((conv => lhs; whnf); done)))
 | (apply s_pickF; exact rfl; (focus ((conv => lhs; whnf); done)))
 | (apply s_notT; exact rfl)
 | (apply s_notF; exact rfl)
 | ((first | apply s_lss | apply s_leq | apply s_gtr | apply s_geq | apply s_eql | apply s_neq); exact rfl; all_goals (intro _; try (exfalso; omega)))
 | (apply s_cn; (focus (repeat (first | apply opds_nil | (apply opds_cons; (first | (focus ((conv => lhs; whnf); done)) | exact rfl))))); exact a1 _)
 | (apply s_cn; (focus (repeat (first | apply opds_nil | (apply opds_cons; (first | (focus ((conv => lhs; whnf); done)) | exact rfl))))); exact a2 _)
 | (apply s_cn; (focus (repeat (first | apply opds_nil | (apply opds_cons; (first | (focus ((conv => lhs; whnf); done)) | exact rfl))))); exact a3 _)
 | (apply s_cn; (focus (repeat (first | apply opds_nil | (apply opds_cons; (first | (focus ((conv => lhs; whnf); done)) | exact rfl))))); exact b1 _)
 | (apply s_cn; (focus (repeat (first | apply opds_nil | (apply opds_cons; (first | (focus ((conv => lhs; whnf); done)) | exact rfl))))); exact b2 _)
 | (apply s_cn; (focus (repeat (first | apply opds_nil | (apply opds_cons; (first | (focus ((conv => lhs; whnf); done)) | exact rfl))))); exact b3 _)
 | (apply s_cn; (focus (repeat (first | apply opds_nil | (apply opds_cons; (first | (focus ((conv => lhs; whnf); done)) | exact rfl))))); exact e37 _)
 | (apply s_cn; (focus (repeat (first | apply opds_nil | (apply opds_cons; (first | (focus ((conv => lhs; whnf); done)) | exact rfl))))); exact e21 _)
 | (apply s_cn; (focus (repeat (first | apply opds_nil | (apply opds_cons; (first | (focus ((conv => lhs; whnf); done)) | exact rfl))))); exact e22s _)
 | (apply s_cn; (focus (repeat (first | apply opds_nil | (apply opds_cons; (first | (focus ((conv => lhs; whnf); done)) | exact rfl))))); exact e22t _)
 | (apply isE; refine s_cB (by (focus (repeat (first | apply opds_nil | (apply opds_cons; (first | (focus ((conv => lhs; whnf); done)) | exact rfl)))))) (e23 _) (fun _ => ?_) (fun _ => ?_))
 | (apply isE; refine s_cB (by (focus (repeat (first | apply opds_nil | (apply opds_cons; (first | (focus ((conv => lhs; whnf); done)) | exact rfl)))))) (e24 _) (fun _ => ?_) (fun _ => ?_))
 | (apply isE; refine s_cB (by (focus (repeat (first | apply opds_nil | (apply opds_cons; (first | (focus ((conv => lhs; whnf); done)) | exact rfl)))))) (e38 _) (fun _ => ?_) (fun _ => ?_))
 | (apply s_cn; (focus (repeat (first | apply opds_nil | (apply opds_cons; (first | (focus ((conv => lhs; whnf); done)) | exact rfl))))); exact h25 _)
 | (apply s_pd; (focus ((conv => lhs; whnf); done)))
 | (apply c_seq)
 | (apply c_reg)
 | (apply c_skip)
 | (apply c_ret)
 | (apply c_condT; exact rfl)
 | (apply c_condF; exact rfl)
 | (with_reducible apply k_c)
    all_goals first | exact fin_t (by (conv => lhs; whnf)) (by rfl) rfl | (exfalso; exact hA ⟨by assumption, by assumption, by assumption⟩)
end Go.AM.Ch
