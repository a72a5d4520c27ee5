/- A part of the proof: U48. -/
import Derived.Test.YtmegimhfoedcdaaU47
import Derived.Test.YtmegimhfoedcdaaU18
import Derived.Test.YtmegimhfoedcdaaM3
set_option linter.unusedSectionVars false
set_option linter.unusedVariables false
set_option linter.unusedSimpArgs false
namespace Go.AM.Ch
set_option maxHeartbeats 8000000
theorem awakeN {m : Nat} (hm : 60000 ≤ m) (H : Heap) : callPure (evF tab it m) true 25 [] H = some (.bool true, H) :=
  callPure_free rfl (by simp) (evF_mono hm _ _ _ _ awake) rfl
/-- law 3 -/
theorem f3 {x y : AV} {b : List (List Int)} {s : List Int} {q : Int} (hx : IsLL x b) (hy : IsL y s) : ∃ m H', evF tab it m 3 [x, y, .int .i64 q] [] = some (.bool true, H') := by
  obtain ⟨M, hM⟩ : ∃ M, M = smK + 30 := ⟨_, rfl⟩
  have hM1 : 100000 ≤ M := by have := smK_big; omega
  refine ⟨M + 1, [], ?_⟩
  have h25 := fun H => awakeN (m := M) (by omega) H
  have fx := hx.free; have fy := hy.free
  have a1 := fun H => c18 hx (m := M) (by omega) H
  have a2 := fun H => c19 hy (m := M) (by omega) H
  have b1 := fun H => c18 (isLL_fz (b12 b)) (m := M) (by omega) H
  have b2 := fun H => c19 (isL_fz (s.take 12)) (m := M) (by omega) H
  rw [b12_idem] at b1
  simp only [List.take_take, Nat.min_self] at b2
  have lb : (b12 b).length ≤ 12 := by simp [b12]; omega
  have lb2 : ∀ l ∈ b12 b, l.length < 100 := fun l hl => by
    obtain ⟨r, _, rfl⟩ := List.mem_map.1 hl
    simp; omega
  have ls : (s.take 12).length ≤ 12 := by simp; omega
  generalize b12 b = B at *
  generalize s.take 12 = S at *
  have iB := isLL_fz B; have iS := isL_fz S
  have e21 := fun H => c21 iB iB ⟨by omega, lb2⟩ (m := M) (by omega) H
  have e22s := fun H => c22 iS iS (by omega) (m := M) (by omega) H
  have e22 := fun {x y : AV} {l l' : List Int} (hx : IsL x l) (hy : IsL y l') (hl : l.length < 100) H => c22 hx hy hl (m := M) (by omega) H
  have e23 := fun H => c23 iB (by omega) (m := M) (by omega) H
  have e24 := fun H => c24 iB iS (by omega) (m := M) (by omega) H
  have lB := fun H => p_lenLL (H := H) iB
  simp only [decide_true] at e21 e22s
  have fB := iB.free; have fS := iS.free
  by_cases hin : RedIn B S q
  · obtain ⟨⟨h1, h2⟩, h3⟩ := hin
    obtain ⟨qn, rfl⟩ : ∃ k : Nat, q = (k : Int) := ⟨q.toNat, by omega⟩
    have hqn : qn < B.length := by omega
    have e20 := fun H => c20 iB iS h1 h2 hqn (m := M) (by omega) H
    have e28 := fun H => c28 iB iS h1 h2 hqn (m := M) (by omega) H
    simp only [h1, h2, decide_true] at e23 e24
    obtain ⟨hRl, hRq, hRr⟩ := redT_ok h1 S hqn
    have hRb := redT_st h1 h2 hqn
    have hAl : (redL B S qn).length = B.length := redL_len B S qn
    have hAr := redL_red h1 S hqn
    have e26 := fun H => c26 iB iS (rd_isL hRl) h1.bd h1.sym h1.n1 h2.1 hRl (fun v hv => by have := hRb v hv; omega) (fun v hv => by have := inR_get h2 v hv; omega) (m := M) (by omega) H
    rw [show apl B S (redT B S qn) = redL B S qn from rfl] at e20 e26
    have i1 := rd_isL hAl
    have i2 := rd_isL hRl
    have i3 := isL_fz (redL B S qn)
    have e27 := fun H => c27 iB i1 h1 hqn hAl hAr (m := M) (by omega) H
    have e22a := fun H => e22 i1 i3 (by omega) H
    simp only [decide_true] at e22a
    clear e22
    unfold gf at hRq
    generalize redL B S qn = A at *
    generalize redT B S qn = T at *
    have lT : ∀ H, evP H .len [AV.rd 1 B.length (iL T)] = some (.int .i64 ((B.length : Nat) : Int)) := fun H => rfl
    refine f_enter rfl rfl ?_
    clear hM
    generalize evF tab it M = call at *
    generalize hvl : AV.rd 1 B.length (iL A) = vl at *
    generalize hvt : AV.rd 1 B.length (iL T) = vt at *
    have fl := i1.free; have ft := i2.free
    generalize fzL A = vz at *
    generalize fzLL B = vB at *
    generalize fzL S = vS at *
    repeat' first
 | (apply s_mov; (focus ((conv => lhs; whnf); done)))
 | (apply s_gT; exact rfl)
 | (apply c_nil)
 | (apply s_pickF; exact rfl; (focus ((conv => lhs; whnf); done)))
 | (apply s_notT; exact rfl)
 | ((first | apply s_lss | apply s_leq | apply s_gtr | apply s_geq | apply s_eql | apply s_neq); exact rfl; all_goals (intro _; try (exfalso; omega)))
 | (apply s_cn; (focus (repeat (first | apply opds_nil | (apply opds_cons; (first | (focus ((conv => lhs; whnf); done)) | exact rfl))))); exact a1 _)
 | (apply s_cn; (focus (repeat (first | apply opds_nil | (apply opds_cons; (first | (focus ((conv => lhs; whnf); done)) | exact rfl))))); exact a2 _)
 | (apply s_cn; (focus (repeat (first | apply opds_nil | (apply opds_cons; (first | (focus ((conv => lhs; whnf); done)) | exact rfl))))); exact b1 _)
 | (apply s_cn; (focus (repeat (first | apply opds_nil | (apply opds_cons; (first | (focus ((conv => lhs; whnf); done)) | exact rfl))))); exact b2 _)
 | (apply s_cn; (focus (repeat (first | apply opds_nil | (apply opds_cons; (first | (focus ((conv => lhs; whnf); done)) | exact rfl))))); exact e20 _)
 | (apply s_cn; (focus (repeat (first | apply opds_nil | (apply opds_cons; (first | (focus ((conv => lhs; whnf); done)) | exact rfl))))); exact e21 _)
 | (apply s_cn; (focus (repeat (first | apply opds_nil | (apply opds_cons; (first | (focus ((conv => lhs; whnf); done)) | exact rfl))))); exact e22s _)
 | (apply s_cn; (focus (repeat (first | apply opds_nil | (apply opds_cons; (first | (focus ((conv => lhs; whnf); done)) | exact rfl))))); exact e23 _)
 | (apply s_cn; (focus (repeat (first | apply opds_nil | (apply opds_cons; (first | (focus ((conv => lhs; whnf); done)) | exact rfl))))); exact e24 _)
 | (apply s_pn; (focus (repeat (first | apply opds_nil | (apply opds_cons; (first | (focus ((conv => lhs; whnf); done)) | exact rfl))))); exact lB _)
 | (apply s_pn; (focus (repeat (first | apply opds_nil | (apply opds_cons; (first | (focus ((conv => lhs; whnf); done)) | exact rfl))))); exact lT _)
 | (apply s_idx; (focus ((conv => lhs; whnf); done)); exact rfl; (first | assumption | (apply IsLL.at; assumption; omega)); omega)
 | (apply s_ldI; exact rfl; omega)
 | (apply s_pd; (focus ((conv => lhs; whnf); done)))
 | (apply c_seq)
 | (apply c_reg)
 | (apply c_block)
 | (apply c_skip)
 | (apply c_condF; exact rfl)
 | (with_reducible apply k_c)
    all_goals try (exfalso; omega)
    refine c_loop ?_
    refine loop_gc (σ := Nat) (fun i => [.int .i64 (qn : Int), vB, vS, vl, vt, .int .i64 (i : Int)]) (fun _ => []) (fun i => i ≤ B.length) (fun i => B.length - i) ?_ _ 0 _ _ (by omega) (by omega) (gc_to rfl (by simp [idFreeL, AV.idFree, *]; done))
    intro i hi K hK
    by_cases hin : i < B.length
    · have h1 := hRb i hin
      repeat' first
 | (apply s_mov; (focus ((conv => lhs; whnf); done)))
 | (apply s_gT; exact rfl)
 | (apply c_nil)
 | (apply s_pickF; exact rfl; (focus ((conv => lhs; whnf); done)))
 | ((first | apply s_lss | apply s_leq | apply s_gtr | apply s_geq | apply s_eql | apply s_neq); exact rfl; all_goals (intro _; try (exfalso; omega)))
 | ((first | apply s_add | apply s_sub); exact rfl; omega)
 | (apply s_pn; (focus (repeat (first | apply opds_nil | (apply opds_cons; (first | (focus ((conv => lhs; whnf); done)) | exact rfl))))); exact lT _)
 | (apply s_idx; (focus ((conv => lhs; whnf); done)); exact rfl; (first | assumption | (apply IsLL.at; assumption; omega)); omega)
 | (apply s_ldI; exact rfl; omega)
 | (apply c_seq)
 | (apply c_reg)
 | (apply c_block)
 | (apply c_skip)
 | (apply c_condT; exact rfl)
 | (apply c_condF; exact rfl)
 | (with_reducible apply k_c)
      all_goals first | exact hK (i + 1) _ _ (by omega) (by omega) (gc_to rfl (by simp [idFreeL, AV.idFree, *]; done)) | (exfalso; omega)
    · obtain rfl : i = B.length := by omega
      repeat' first
 | (apply s_mov; (focus ((conv => lhs; whnf); done)))
 | (apply s_gT; exact rfl)
 | (apply c_nil)
 | (apply s_pickT; exact rfl; (focus ((conv => lhs; whnf); done)))
 | ((first | apply s_lss | apply s_leq | apply s_gtr | apply s_geq | apply s_eql | apply s_neq); exact rfl; all_goals (intro _; try (exfalso; omega)))
 | (apply s_pn; (focus (repeat (first | apply opds_nil | (apply opds_cons; (first | (focus ((conv => lhs; whnf); done)) | exact rfl))))); exact lT _)
 | (apply s_cn; (focus (repeat (first | apply opds_nil | (apply opds_cons; (first | (focus ((conv => lhs; whnf); done)) | exact rfl))))); exact e26 _)
 | (apply s_cn; (focus (repeat (first | apply opds_nil | (apply opds_cons; (first | (focus ((conv => lhs; whnf); done)) | exact rfl))))); exact e22a _)
 | (apply s_cn; (focus (repeat (first | apply opds_nil | (apply opds_cons; (first | (focus ((conv => lhs; whnf); done)) | exact rfl))))); exact e27 _)
 | (apply s_cn; (focus (repeat (first | apply opds_nil | (apply opds_cons; (first | (focus ((conv => lhs; whnf); done)) | exact rfl))))); exact e28 _)
 | (apply s_cn; (focus (repeat (first | apply opds_nil | (apply opds_cons; (first | (focus ((conv => lhs; whnf); done)) | exact rfl))))); exact h25 _)
 | (apply c_seq)
 | (apply c_reg)
 | (apply c_exitH)
 | (apply c_ret)
 | (apply c_condF; exact rfl)
 | (apply c_preF; (focus (repeat (first | apply looks_nil | (apply looks_cons; (focus ((conv => lhs; whnf); done)))))); (focus (simp [idFreeL, AV.idFree, *]; done)))
 | (with_reducible apply k_c)
      all_goals first | (exfalso; omega) | exact fin_t (by (conv => lhs; whnf)) (by rfl) rfl
  · have e20 : ∀ H, callPure (evF tab it M) true 20 [fzLL B, fzL S, .int .i64 q] H = some (.tup [.nilS, .nilS, .int .i64 2], H) := fun H => callPure_free (by simp [idFreeL, AV.idFree, fB, fS]) (by simp) (f20e iB iS (by omega) (by omega) hin (m := M) (by omega)) rfl
    clear e22 hM
    refine f_enter rfl rfl ?_
    generalize evF tab it M = call at *
    generalize fzLL B = vB at *
    generalize fzL S = vS at *
    by_cases h1 : IsB B <;> by_cases h2 : InR B.length 1048576 S <;> simp only [h1, h2, decide_true, decide_false] at e23 e24
    all_goals
      repeat' first
 | (apply s_mov; (focus ((conv => lhs; whnf); done)))
 | (apply s_gT; exact rfl)
 | (apply s_gF; exact rfl)
 | (apply s_gFD; exact rfl)
 | (apply c_nil)
 | (apply s_pickT; exact rfl; (focus ((conv => lhs; whnf); done)))
 | (apply s_pickF; exact rfl; (focus ((conv => lhs; whnf); done)))
 | (apply s_notT; exact rfl)
 | (apply s_notF; exact rfl)
 | ((first | apply s_lss | apply s_leq | apply s_gtr | apply s_geq | apply s_eql | apply s_neq); exact rfl; all_goals (intro _; try (exfalso; omega)))
 | (apply s_cn; (focus (repeat (first | apply opds_nil | (apply opds_cons; (first | (focus ((conv => lhs; whnf); done)) | exact rfl))))); exact a1 _)
 | (apply s_cn; (focus (repeat (first | apply opds_nil | (apply opds_cons; (first | (focus ((conv => lhs; whnf); done)) | exact rfl))))); exact a2 _)
 | (apply s_cn; (focus (repeat (first | apply opds_nil | (apply opds_cons; (first | (focus ((conv => lhs; whnf); done)) | exact rfl))))); exact b1 _)
 | (apply s_cn; (focus (repeat (first | apply opds_nil | (apply opds_cons; (first | (focus ((conv => lhs; whnf); done)) | exact rfl))))); exact b2 _)
 | (apply s_cn; (focus (repeat (first | apply opds_nil | (apply opds_cons; (first | (focus ((conv => lhs; whnf); done)) | exact rfl))))); exact e20 _)
 | (apply s_cn; (focus (repeat (first | apply opds_nil | (apply opds_cons; (first | (focus ((conv => lhs; whnf); done)) | exact rfl))))); exact e21 _)
 | (apply s_cn; (focus (repeat (first | apply opds_nil | (apply opds_cons; (first | (focus ((conv => lhs; whnf); done)) | exact rfl))))); exact e22s _)
 | (apply s_cn; (focus (repeat (first | apply opds_nil | (apply opds_cons; (first | (focus ((conv => lhs; whnf); done)) | exact rfl))))); exact e23 _)
 | (apply s_cn; (focus (repeat (first | apply opds_nil | (apply opds_cons; (first | (focus ((conv => lhs; whnf); done)) | exact rfl))))); exact e24 _)
 | (apply s_pn; (focus (repeat (first | apply opds_nil | (apply opds_cons; (first | (focus ((conv => lhs; whnf); done)) | exact rfl))))); exact lB _)
 | (apply s_cn; (focus (repeat (first | apply opds_nil | (apply opds_cons; (first | (focus ((conv => lhs; whnf); done)) | exact rfl))))); exact h25 _)
 | (apply s_pd; (focus ((conv => lhs; whnf); done)))
 | (apply c_seq)
 | (apply c_reg)
 | (apply c_skip)
 | (apply c_ret)
 | (apply c_condT; exact rfl)
 | (apply c_condF; exact rfl)
 | (with_reducible apply k_c)
    all_goals first
      | (exfalso; omega)
      | (exfalso; exact hin ⟨⟨h1, h2⟩, by omega⟩)
      | exact fin_t (by (conv => lhs; whnf)) (by rfl) rfl
end Go.AM.Ch
