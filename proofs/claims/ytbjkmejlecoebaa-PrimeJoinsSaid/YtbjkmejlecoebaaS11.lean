/- A part of the proof: S11. -/
import Derived.Test.YtbjkmejlecoebaaS10
set_option linter.unusedSectionVars false
set_option linter.unusedVariables false
set_option linter.unusedSimpArgs false
namespace Go.AM.Pr
open Go.AM.Num
theorem expo_le {p : Nat} : ∀ {l : List (Nat × Nat)}, (∀ x ∈ l, x.2 ≤ 30) → expo p l ≤ 30 * l.length
  | [], _ => by simp [expo]
  | x :: l, h => by
    have h1 := h x List.mem_cons_self
    have h2 := expo_le (p := p) (l := l) fun y hy => h y (List.mem_cons_of_mem _ hy)
    simp only [expo, List.length_cons]
    split <;> omega
theorem expo_take_le {p N : Nat} {l : List (Nat × Nat)} (h : Fac l N) (hN : N ≤ 2147483647) (k : Nat) : expo p (l.take k) ≤ 900 := by
  have h1 := expo_le (p := p) (l := l.take k) fun x hx => by
    obtain ⟨j, hj, e⟩ := List.getElem_of_mem (List.mem_of_mem_take hx)
    have := exp_lt h hN hj
    rw [gp_lt hj, e] at this
    omega
  have h2 := fac_len31 h hN
  have h3 : (l.take k).length ≤ l.length := by simp; omega
  omega
set_option maxHeartbeats 4000000
theorem f7 {x y : Int} : ∃ m H', evF tab it m 7 [.int .i64 x, .int .i64 y] [] = some (.bool true, H') := by
  refine ⟨60001, [], ?_⟩
  have h18 := c18
  have hna := numN_le (x := x) (most := 40000) (by omega)
  have hnb := numN_le (x := y) (most := 40000) (by omega)
  have n1 := c28 (x := x) (n := 40000) (by omega) (by omega) (m := 60000) (by omega) []
  have n2 := c28 (x := y) (n := 40000) (by omega) (by omega) (m := 60000) (by omega) []
  generalize numN x 40000 = a at *
  generalize numN y 40000 = b at *
  have hab := Nat.mul_le_mul hna.2 hnb.2
  have hab1 : 1 ≤ a * b := Nat.mul_le_mul hna.1 hnb.1
  obtain ⟨LA, hA⟩ := fac_ex (n := a) (by omega)
  obtain ⟨LB, hB⟩ := fac_ex (n := b) (by omega)
  obtain ⟨LC, hC⟩ := fac_ex (n := a * b) (by omega)
  have k1 := c16 (by omega) (by omega) hA (m := 60000) (by omega) []
  have k2 := c16 (by omega) (by omega) hB (m := 60000) (by omega) []
  have k3 := c16 (by omega) (by omega) hC (m := 60000) (by omega) []
  have la := fun H => p_lenP (H := H) LA
  have lb := fun H => p_lenP (H := H) LB
  have lc := fun H => p_lenP (H := H) LC
  have ia := fun H i h => p_idxG (H := H) (l := LA) (i := i) h
  have ib := fun H i h => p_idxG (H := H) (l := LB) (i := i) h
  have ic := fun H i h => p_idxG (H := H) (l := LC) (i := i) h
  have fa := fzP_free LA; have fb := fzP_free LB; have fc := fzP_free LC
  have za := fac_len31 hA (by omega); have zb := fac_len31 hB (by omega); have zc := fac_len31 hC (by omega)
  have FREE : ∀ (p q : List AV), idFreeL p = true → idFreeL q = true → idFreeL (p ++ q) = true := fun p q h1 h2 => by
    induction p with
    | nil => exact h2
    | cons x p ih => simp only [idFreeL, Bool.and_eq_true, List.cons_append] at h1 ⊢; exact ⟨h1.1, ih h1.2⟩
  refine f_enter rfl rfl ?_
  generalize evF tab it 60000 = call at *
  generalize hFA : fzP LA = X at *
  generalize hFB : fzP LB = Y at *
  generalize hFC : fzP LC = Z at *
  repeat' first
 | (apply s_mov; (focus ((conv => lhs; whnf); done)))
 | (apply s_gT; exact rfl)
 | (apply s_gF; exact rfl)
 | (apply s_gFD; exact rfl)
 | (apply s_gFE; exact rfl)
 | apply c_nil
 | (apply s_pickT; exact rfl; (focus ((conv => lhs; whnf); done)))
 | (apply s_pickF; exact rfl; (focus ((conv => lhs; whnf); done)))
 | (apply s_notT; exact rfl)
 | (apply s_notF; exact rfl)
 | ((first | apply s_lss | apply s_leq | apply s_gtr | apply s_geq | apply s_eql | apply s_neq); exact rfl; all_goals (intro _; try (exfalso; omega)))
 | (apply s_cn; (focus (repeat (first | apply opds_nil | (apply opds_cons; (first | (focus ((conv => lhs; whnf); done)) | exact rfl))))); exact n1)
 | (apply s_cn; (focus (repeat (first | apply opds_nil | (apply opds_cons; (first | (focus ((conv => lhs; whnf); done)) | exact rfl))))); exact n2)
 | (apply s_cn; (focus (repeat (first | apply opds_nil | (apply opds_cons; (first | (focus ((conv => lhs; whnf); done)) | exact rfl))))); exact k1)
 | (apply s_cn; (focus (repeat (first | apply opds_nil | (apply opds_cons; (first | (focus ((conv => lhs; whnf); done)) | exact rfl))))); exact k2)
 | (apply s_cn; (focus (repeat (first | apply opds_nil | (apply opds_cons; (first | (focus ((conv => lhs; whnf); done)) | exact rfl))))); exact k3)
 | ((first | apply s_add | apply s_sub); exact rfl; omega)
 | (apply s_mulN; exact rfl; omega)
 | (apply s_quoN; exact rfl; omega; omega)
 | (apply s_remN; exact rfl; omega)
 | (apply s_and1; exact rfl; omega)
 | (apply s_shr1; exact rfl)
 | (apply s_len; (focus ((conv => lhs; whnf); done)); (first | assumption | (apply IsLL.at; assumption; omega)))
 | (apply s_lenLL; (focus ((conv => lhs; whnf); done)); assumption)
 | (apply s_lenRd; exact rfl)
 | (apply s_lenSl; exact rfl)
 | (apply s_idx; (focus ((conv => lhs; whnf); done)); exact rfl; (first | assumption | (apply IsLL.at; assumption; omega)); omega)
 | (apply s_idxLL; (focus ((conv => lhs; whnf); done)); exact rfl; assumption; omega)
 | (apply s_idxP; exact rfl; exact rfl; omega)
 | (apply s_ldB; exact rfl; exact rfl; omega; all_goals intro _)
 | (apply s_ldRB; exact rfl; omega; all_goals intro _)
 | (apply s_idxRB; exact rfl; exact rfl; omega)
 | (apply s_idxS; exact rfl; exact rfl; omega)
 | (apply s_slcT; exact rfl; exact rfl; omega)
 | (apply s_slcF; exact rfl; exact rfl; omega)
 | (apply s_mx; exact rfl; exact rfl)
 | (apply s_rem2; exact rfl)
 | (apply s_ldI; exact rfl; omega)
 | (apply s_ldLL; exact rfl; assumption; omega)
 | (apply s_pd; (focus ((conv => lhs; whnf); done)))
 | apply c_seq
 | apply c_reg
 | apply c_block
 | apply c_exitH
 | apply c_skip
 | apply c_ret
 | (apply c_condT; exact rfl)
 | (apply c_condF; exact rfl)
 | (apply c_exitM; exact rfl)
 | (apply c_preF; (focus (repeat (first | apply looks_nil | (apply looks_cons; (focus ((conv => lhs; whnf); done)))))); (focus (simp [idFreeL, AV.idFree, *]; done)))
 | (with_reducible apply k_c)
  refine c_loop ?_
  refine loop_gc (σ := Nat) (fun i => [.int .i64 (a : Int), .int .i64 (b : Int), X, Y, Z, .int .i64 ((prodL (LC.take i) : Nat) : Int), .int .i64 (i : Int)]) (fun _ => []) (fun i => i ≤ LC.length) (fun i => LC.length - i) ?_ _ 0 _ _ (by omega) (by omega) (gc_to rfl (by simp [idFreeL, AV.idFree, fa, fb, fc]))
  intro i hi K hK
  have hfin : ¬ i < LC.length → prodL (LC.take i) = a * b := fun h => by rw [List.take_of_length_le (by omega), hC.prod]
  repeat' first
 | (apply s_mov; (focus ((conv => lhs; whnf); done)))
 | (apply s_gT; exact rfl)
 | (apply s_gF; exact rfl)
 | (apply s_gFD; exact rfl)
 | (apply s_gFE; exact rfl)
 | apply c_nil
 | (apply s_pickT; exact rfl; (focus ((conv => lhs; whnf); done)))
 | (apply s_pickF; exact rfl; (focus ((conv => lhs; whnf); done)))
 | (apply s_notT; exact rfl)
 | (apply s_notF; exact rfl)
 | ((first | apply s_lss | apply s_leq | apply s_gtr | apply s_geq | apply s_eql | apply s_neq); exact rfl; all_goals (intro _; try (exfalso; omega)))
 | (apply s_pn; (focus (repeat (first | apply opds_nil | (apply opds_cons; (first | (focus ((conv => lhs; whnf); done)) | exact rfl))))); exact lc _)
 | (apply s_cn; (focus (repeat (first | apply opds_nil | (apply opds_cons; (first | (focus ((conv => lhs; whnf); done)) | exact rfl))))); exact h18 _)
 | ((first | apply s_add | apply s_sub); exact rfl; omega)
 | (apply s_mulN; exact rfl; omega)
 | (apply s_quoN; exact rfl; omega; omega)
 | (apply s_remN; exact rfl; omega)
 | (apply s_and1; exact rfl; omega)
 | (apply s_shr1; exact rfl)
 | (apply s_len; (focus ((conv => lhs; whnf); done)); (first | assumption | (apply IsLL.at; assumption; omega)))
 | (apply s_lenLL; (focus ((conv => lhs; whnf); done)); assumption)
 | (apply s_lenRd; exact rfl)
 | (apply s_lenSl; exact rfl)
 | (apply s_idx; (focus ((conv => lhs; whnf); done)); exact rfl; (first | assumption | (apply IsLL.at; assumption; omega)); omega)
 | (apply s_idxLL; (focus ((conv => lhs; whnf); done)); exact rfl; assumption; omega)
 | (apply s_idxP; exact rfl; exact rfl; omega)
 | (apply s_ldB; exact rfl; exact rfl; omega; all_goals intro _)
 | (apply s_ldRB; exact rfl; omega; all_goals intro _)
 | (apply s_idxRB; exact rfl; exact rfl; omega)
 | (apply s_idxS; exact rfl; exact rfl; omega)
 | (apply s_slcT; exact rfl; exact rfl; omega)
 | (apply s_slcF; exact rfl; exact rfl; omega)
 | (apply s_mx; exact rfl; exact rfl)
 | (apply s_rem2; exact rfl)
 | (apply s_ldI; exact rfl; omega)
 | (apply s_ldLL; exact rfl; assumption; omega)
 | (apply s_pd; (focus ((conv => lhs; whnf); done)))
 | apply c_seq
 | apply c_reg
 | apply c_block
 | apply c_exitH
 | apply c_skip
 | apply c_ret
 | (apply c_condT; exact rfl)
 | (apply c_condF; exact rfl)
 | (apply c_exitM; exact rfl)
 | (apply c_preF; (focus (repeat (first | apply looks_nil | (apply looks_cons; (focus ((conv => lhs; whnf); done)))))); (focus (simp [idFreeL, AV.idFree, *]; done)))
 | (with_reducible apply k_c)
  · have hiC : i < LC.length := by omega
    have gC := ic [] i hiC
    have d0 := p_ld0 (H := []) hiC
    have d1 := p_ld1 (H := []) hiC
    have hj := expo_join hA hB hC hiC
    have he := exp_lt hC (by omega) hiC
    have hasc := fun h0 => gp_asc hC.toFacR h0 hiC
    have hpr := fun k => prod_take_le hC.toFacR hiC (k := k)
    have hps := prod_take_succ hiC
    have hcA := fun k => expo_take_le (p := (gp LC i).1) hA (by omega) k
    have hcB := fun k => expo_take_le (p := (gp LC i).1) hB (by omega) k
    generalize hp : (gp LC i).1 = p at *
    generalize he' : (gp LC i).2 = e at *
    rw [hC.prod] at hpr
    refine c_loop ?_
    refine loop_gc (σ := Nat) (fun k => [.int .i64 (a : Int), .int .i64 (b : Int), X, Y, Z, .int .i64 ((prodL (LC.take i) : Nat) : Int), .int .i64 (i : Int), .int .i64 ((expo p (LA.take k) : Nat) : Int), .int .i64 (k : Int)]) (fun _ => []) (fun k => k ≤ LA.length) (fun k => LA.length - k) ?_ _ 0 _ _ (by omega) (by omega) (gc_to rfl (by simp [idFreeL, AV.idFree, fa, fb, fc]))
    intro k hk K1 hK1
    repeat' first
 | (apply s_mov; (focus ((conv => lhs; whnf); done)))
 | (apply s_gT; exact rfl)
 | (apply s_gF; exact rfl)
 | (apply s_gFD; exact rfl)
 | (apply s_gFE; exact rfl)
 | apply c_nil
 | (apply s_pickT; exact rfl; (focus ((conv => lhs; whnf); done)))
 | (apply s_pickF; exact rfl; (focus ((conv => lhs; whnf); done)))
 | (apply s_notT; exact rfl)
 | (apply s_notF; exact rfl)
 | ((first | apply s_lss | apply s_leq | apply s_gtr | apply s_geq | apply s_eql | apply s_neq); exact rfl; all_goals (intro _; try (exfalso; omega)))
 | (apply s_pn; (focus (repeat (first | apply opds_nil | (apply opds_cons; (first | (focus ((conv => lhs; whnf); done)) | exact rfl))))); exact la _)
 | ((first | apply s_add | apply s_sub); exact rfl; omega)
 | (apply s_mulN; exact rfl; omega)
 | (apply s_quoN; exact rfl; omega; omega)
 | (apply s_remN; exact rfl; omega)
 | (apply s_and1; exact rfl; omega)
 | (apply s_shr1; exact rfl)
 | (apply s_len; (focus ((conv => lhs; whnf); done)); (first | assumption | (apply IsLL.at; assumption; omega)))
 | (apply s_lenLL; (focus ((conv => lhs; whnf); done)); assumption)
 | (apply s_lenRd; exact rfl)
 | (apply s_lenSl; exact rfl)
 | (apply s_idx; (focus ((conv => lhs; whnf); done)); exact rfl; (first | assumption | (apply IsLL.at; assumption; omega)); omega)
 | (apply s_idxLL; (focus ((conv => lhs; whnf); done)); exact rfl; assumption; omega)
 | (apply s_idxP; exact rfl; exact rfl; omega)
 | (apply s_ldB; exact rfl; exact rfl; omega; all_goals intro _)
 | (apply s_ldRB; exact rfl; omega; all_goals intro _)
 | (apply s_idxRB; exact rfl; exact rfl; omega)
 | (apply s_idxS; exact rfl; exact rfl; omega)
 | (apply s_slcT; exact rfl; exact rfl; omega)
 | (apply s_slcF; exact rfl; exact rfl; omega)
 | (apply s_mx; exact rfl; exact rfl)
 | (apply s_rem2; exact rfl)
 | (apply s_ldI; exact rfl; omega)
 | (apply s_ldLL; exact rfl; assumption; omega)
 | (apply s_pd; (focus ((conv => lhs; whnf); done)))
 | apply c_seq
 | apply c_reg
 | apply c_block
 | apply c_exitH
 | apply c_skip
 | apply c_ret
 | (apply c_condT; exact rfl)
 | (apply c_condF; exact rfl)
 | (apply c_exitM; exact rfl)
 | (apply c_preF; (focus (repeat (first | apply looks_nil | (apply looks_cons; (focus ((conv => lhs; whnf); done)))))); (focus (simp [idFreeL, AV.idFree, *]; done)))
 | (with_reducible apply k_c)
    · have hkA : k < LA.length := by omega
      have gA := ia [] k hkA
      have a0 := p_ld0 (H := []) hkA
      have a1 := p_ld1 (H := []) hkA
      have hct := expo_take p hkA
      have hcb := hcA (k + 1)
      have hea := exp_lt hA (by omega) hkA
      repeat' first
 | (apply s_mov; (focus ((conv => lhs; whnf); done)))
 | (apply s_gT; exact rfl)
 | (apply s_gF; exact rfl)
 | (apply s_gFD; exact rfl)
 | (apply s_gFE; exact rfl)
 | apply c_nil
 | (apply s_pickT; exact rfl; (focus ((conv => lhs; whnf); done)))
 | (apply s_pickF; exact rfl; (focus ((conv => lhs; whnf); done)))
 | (apply s_notT; exact rfl)
 | (apply s_notF; exact rfl)
 | ((first | apply s_lss | apply s_leq | apply s_gtr | apply s_geq | apply s_eql | apply s_neq); exact rfl; all_goals (intro _; try (exfalso; omega)))
 | (apply s_pn; (focus (repeat (first | apply opds_nil | (apply opds_cons; (first | (focus ((conv => lhs; whnf); done)) | exact rfl))))); exact gA)
 | (apply s_pn; (focus (repeat (first | apply opds_nil | (apply opds_cons; (first | (focus ((conv => lhs; whnf); done)) | exact rfl))))); exact gC)
 | (apply s_pn; (focus (repeat (first | apply opds_nil | (apply opds_cons; (first | (focus ((conv => lhs; whnf); done)) | exact rfl))))); exact p_fld0)
 | (apply s_pn; (focus (repeat (first | apply opds_nil | (apply opds_cons; (first | (focus ((conv => lhs; whnf); done)) | exact rfl))))); exact p_fld1)
 | (apply s_pn; (focus (repeat (first | apply opds_nil | (apply opds_cons; (first | (focus ((conv => lhs; whnf); done)) | exact rfl))))); exact a0)
 | (apply s_pn; (focus (repeat (first | apply opds_nil | (apply opds_cons; (first | (focus ((conv => lhs; whnf); done)) | exact rfl))))); exact a1)
 | (apply s_pn; (focus (repeat (first | apply opds_nil | (apply opds_cons; (first | (focus ((conv => lhs; whnf); done)) | exact rfl))))); exact d0)
 | (apply s_addN; exact rfl; omega)
 | ((first | apply s_add | apply s_sub); exact rfl; omega)
 | (apply s_mulN; exact rfl; omega)
 | (apply s_quoN; exact rfl; omega; omega)
 | (apply s_remN; exact rfl; omega)
 | (apply s_and1; exact rfl; omega)
 | (apply s_shr1; exact rfl)
 | (apply s_len; (focus ((conv => lhs; whnf); done)); (first | assumption | (apply IsLL.at; assumption; omega)))
 | (apply s_lenLL; (focus ((conv => lhs; whnf); done)); assumption)
 | (apply s_lenRd; exact rfl)
 | (apply s_lenSl; exact rfl)
 | (apply s_idx; (focus ((conv => lhs; whnf); done)); exact rfl; (first | assumption | (apply IsLL.at; assumption; omega)); omega)
 | (apply s_idxLL; (focus ((conv => lhs; whnf); done)); exact rfl; assumption; omega)
 | (apply s_idxP; exact rfl; exact rfl; omega)
 | (apply s_ldB; exact rfl; exact rfl; omega; all_goals intro _)
 | (apply s_ldRB; exact rfl; omega; all_goals intro _)
 | (apply s_idxRB; exact rfl; exact rfl; omega)
 | (apply s_idxS; exact rfl; exact rfl; omega)
 | (apply s_slcT; exact rfl; exact rfl; omega)
 | (apply s_slcF; exact rfl; exact rfl; omega)
 | (apply s_mx; exact rfl; exact rfl)
 | (apply s_rem2; exact rfl)
 | (apply s_ldI; exact rfl; omega)
 | (apply s_ldLL; exact rfl; assumption; omega)
 | (apply s_pd; (focus ((conv => lhs; whnf); done)))
 | apply c_seq
 | apply c_reg
 | apply c_block
 | apply c_exitH
 | apply c_skip
 | apply c_ret
 | (apply c_condT; exact rfl)
 | (apply c_condF; exact rfl)
 | (apply c_exitM; exact rfl)
 | (apply c_preF; (focus (repeat (first | apply looks_nil | (apply looks_cons; (focus ((conv => lhs; whnf); done)))))); (focus (simp [idFreeL, AV.idFree, *]; done)))
 | (with_reducible apply k_c)
      · rw [if_pos (by omega)] at hct
        rw [← hct]
        exact hK1 (k + 1) _ _ (by omega) (by omega) (gc_to rfl (by simp [idFreeL, AV.idFree, fa, fb, fc]))
      · have hct' : expo p (LA.take (k + 1)) = expo p (LA.take k) := by rw [hct, if_neg (by omega)]; rfl
        rw [← hct']
        exact hK1 (k + 1) _ _ (by omega) (by omega) (gc_to rfl (by simp [idFreeL, AV.idFree, fa, fb, fc]))
    · obtain rfl : LA.length = k := by omega
      rw [List.take_length] at *
      have hzA := hcA LA.length
      rw [List.take_length] at hzA
      refine c_loop ?_
      refine loop_gc (σ := Nat) (fun k => [.int .i64 (a : Int), .int .i64 (b : Int), X, Y, Z, .int .i64 ((prodL (LC.take i) : Nat) : Int), .int .i64 (i : Int), .int .i64 ((expo p LA + expo p (LB.take k) : Nat) : Int), .int .i64 (k : Int)]) (fun _ => []) (fun k => k ≤ LB.length) (fun k => LB.length - k) ?_ _ 0 _ _ (by omega) (by omega) (gc_to rfl (by simp [idFreeL, AV.idFree, fa, fb, fc]))
      intro k hk K2 hK2
      repeat' first
 | (apply s_mov; (focus ((conv => lhs; whnf); done)))
 | (apply s_gT; exact rfl)
 | (apply s_gF; exact rfl)
 | (apply s_gFD; exact rfl)
 | (apply s_gFE; exact rfl)
 | apply c_nil
 | (apply s_pickT; exact rfl; (focus ((conv => lhs; whnf); done)))
 | (apply s_pickF; exact rfl; (focus ((conv => lhs; whnf); done)))
 | (apply s_notT; exact rfl)
 | (apply s_notF; exact rfl)
 | ((first | apply s_lss | apply s_leq | apply s_gtr | apply s_geq | apply s_eql | apply s_neq); exact rfl; all_goals (intro _; try (exfalso; omega)))
 | (apply s_pn; (focus (repeat (first | apply opds_nil | (apply opds_cons; (first | (focus ((conv => lhs; whnf); done)) | exact rfl))))); exact lb _)
 | ((first | apply s_add | apply s_sub); exact rfl; omega)
 | (apply s_mulN; exact rfl; omega)
 | (apply s_quoN; exact rfl; omega; omega)
 | (apply s_remN; exact rfl; omega)
 | (apply s_and1; exact rfl; omega)
 | (apply s_shr1; exact rfl)
 | (apply s_len; (focus ((conv => lhs; whnf); done)); (first | assumption | (apply IsLL.at; assumption; omega)))
 | (apply s_lenLL; (focus ((conv => lhs; whnf); done)); assumption)
 | (apply s_lenRd; exact rfl)
 | (apply s_lenSl; exact rfl)
 | (apply s_idx; (focus ((conv => lhs; whnf); done)); exact rfl; (first | assumption | (apply IsLL.at; assumption; omega)); omega)
 | (apply s_idxLL; (focus ((conv => lhs; whnf); done)); exact rfl; assumption; omega)
 | (apply s_idxP; exact rfl; exact rfl; omega)
 | (apply s_ldB; exact rfl; exact rfl; omega; all_goals intro _)
 | (apply s_ldRB; exact rfl; omega; all_goals intro _)
 | (apply s_idxRB; exact rfl; exact rfl; omega)
 | (apply s_idxS; exact rfl; exact rfl; omega)
 | (apply s_slcT; exact rfl; exact rfl; omega)
 | (apply s_slcF; exact rfl; exact rfl; omega)
 | (apply s_mx; exact rfl; exact rfl)
 | (apply s_rem2; exact rfl)
 | (apply s_ldI; exact rfl; omega)
 | (apply s_ldLL; exact rfl; assumption; omega)
 | (apply s_pd; (focus ((conv => lhs; whnf); done)))
 | apply c_seq
 | apply c_reg
 | apply c_block
 | apply c_exitH
 | apply c_skip
 | apply c_ret
 | (apply c_condT; exact rfl)
 | (apply c_condF; exact rfl)
 | (apply c_exitM; exact rfl)
 | (apply c_preF; (focus (repeat (first | apply looks_nil | (apply looks_cons; (focus ((conv => lhs; whnf); done)))))); (focus (simp [idFreeL, AV.idFree, *]; done)))
 | (with_reducible apply k_c)
      · have hkB : k < LB.length := by omega
        have gB := ib [] k hkB
        have b0 := p_ld0 (H := []) hkB
        have b1 := p_ld1 (H := []) hkB
        have hct := expo_take p hkB
        have hcb := hcB (k + 1)
        have heb := exp_lt hB (by omega) hkB
        repeat' first
 | (apply s_mov; (focus ((conv => lhs; whnf); done)))
 | (apply s_gT; exact rfl)
 | (apply s_gF; exact rfl)
 | (apply s_gFD; exact rfl)
 | (apply s_gFE; exact rfl)
 | apply c_nil
 | (apply s_pickT; exact rfl; (focus ((conv => lhs; whnf); done)))
 | (apply s_pickF; exact rfl; (focus ((conv => lhs; whnf); done)))
 | (apply s_notT; exact rfl)
 | (apply s_notF; exact rfl)
 | ((first | apply s_lss | apply s_leq | apply s_gtr | apply s_geq | apply s_eql | apply s_neq); exact rfl; all_goals (intro _; try (exfalso; omega)))
 | (apply s_pn; (focus (repeat (first | apply opds_nil | (apply opds_cons; (first | (focus ((conv => lhs; whnf); done)) | exact rfl))))); exact gB)
 | (apply s_pn; (focus (repeat (first | apply opds_nil | (apply opds_cons; (first | (focus ((conv => lhs; whnf); done)) | exact rfl))))); exact gC)
 | (apply s_pn; (focus (repeat (first | apply opds_nil | (apply opds_cons; (first | (focus ((conv => lhs; whnf); done)) | exact rfl))))); exact p_fld0)
 | (apply s_pn; (focus (repeat (first | apply opds_nil | (apply opds_cons; (first | (focus ((conv => lhs; whnf); done)) | exact rfl))))); exact p_fld1)
 | (apply s_pn; (focus (repeat (first | apply opds_nil | (apply opds_cons; (first | (focus ((conv => lhs; whnf); done)) | exact rfl))))); exact b0)
 | (apply s_pn; (focus (repeat (first | apply opds_nil | (apply opds_cons; (first | (focus ((conv => lhs; whnf); done)) | exact rfl))))); exact b1)
 | (apply s_pn; (focus (repeat (first | apply opds_nil | (apply opds_cons; (first | (focus ((conv => lhs; whnf); done)) | exact rfl))))); exact d0)
 | (apply s_addN; exact rfl; omega)
 | ((first | apply s_add | apply s_sub); exact rfl; omega)
 | (apply s_mulN; exact rfl; omega)
 | (apply s_quoN; exact rfl; omega; omega)
 | (apply s_remN; exact rfl; omega)
 | (apply s_and1; exact rfl; omega)
 | (apply s_shr1; exact rfl)
 | (apply s_len; (focus ((conv => lhs; whnf); done)); (first | assumption | (apply IsLL.at; assumption; omega)))
 | (apply s_lenLL; (focus ((conv => lhs; whnf); done)); assumption)
 | (apply s_lenRd; exact rfl)
 | (apply s_lenSl; exact rfl)
 | (apply s_idx; (focus ((conv => lhs; whnf); done)); exact rfl; (first | assumption | (apply IsLL.at; assumption; omega)); omega)
 | (apply s_idxLL; (focus ((conv => lhs; whnf); done)); exact rfl; assumption; omega)
 | (apply s_idxP; exact rfl; exact rfl; omega)
 | (apply s_ldB; exact rfl; exact rfl; omega; all_goals intro _)
 | (apply s_ldRB; exact rfl; omega; all_goals intro _)
 | (apply s_idxRB; exact rfl; exact rfl; omega)
 | (apply s_idxS; exact rfl; exact rfl; omega)
 | (apply s_slcT; exact rfl; exact rfl; omega)
 | (apply s_slcF; exact rfl; exact rfl; omega)
 | (apply s_mx; exact rfl; exact rfl)
 | (apply s_rem2; exact rfl)
 | (apply s_ldI; exact rfl; omega)
 | (apply s_ldLL; exact rfl; assumption; omega)
 | (apply s_pd; (focus ((conv => lhs; whnf); done)))
 | apply c_seq
 | apply c_reg
 | apply c_block
 | apply c_exitH
 | apply c_skip
 | apply c_ret
 | (apply c_condT; exact rfl)
 | (apply c_condF; exact rfl)
 | (apply c_exitM; exact rfl)
 | (apply c_preF; (focus (repeat (first | apply looks_nil | (apply looks_cons; (focus ((conv => lhs; whnf); done)))))); (focus (simp [idFreeL, AV.idFree, *]; done)))
 | (with_reducible apply k_c)
        · rw [if_pos (by omega)] at hct
          rw [Nat.add_assoc, ← hct]
          exact hK2 (k + 1) _ _ (by omega) (by omega) (gc_to rfl (by simp [idFreeL, AV.idFree, fa, fb, fc]))
        · have hct' : expo p (LB.take (k + 1)) = expo p (LB.take k) := by rw [hct, if_neg (by omega)]; rfl
          rw [← hct']
          exact hK2 (k + 1) _ _ (by omega) (by omega) (gc_to rfl (by simp [idFreeL, AV.idFree, fa, fb, fc]))
      · obtain rfl : LB.length = k := by omega
        rw [List.take_length] at *
        rw [hj] at *
        have gC' := fun (h0 : 0 < i) => ic [] (i - 1) (by omega)
        have d0' := fun (h0 : 0 < i) => p_ld0 (H := []) (l := LC) (i := i - 1) (by omega)
        repeat' first
 | (apply s_mov; (focus ((conv => lhs; whnf); done)))
 | (apply s_gT; exact rfl)
 | (apply s_gF; exact rfl)
 | (apply s_gFD; exact rfl)
 | (apply s_gFE; exact rfl)
 | apply c_nil
 | (apply s_pickT; exact rfl; (focus ((conv => lhs; whnf); done)))
 | (apply s_pickF; exact rfl; (focus ((conv => lhs; whnf); done)))
 | (apply s_notT; exact rfl)
 | (apply s_notF; exact rfl)
 | ((first | apply s_lss | apply s_leq | apply s_gtr | apply s_geq | apply s_eql | apply s_neq); exact rfl; all_goals (intro _; try (exfalso; omega)))
 | (apply s_pn; (focus (repeat (first | apply opds_nil | (apply opds_cons; (first | (focus ((conv => lhs; whnf); done)) | exact rfl))))); exact gC)
 | (apply s_pn; (focus (repeat (first | apply opds_nil | (apply opds_cons; (first | (focus ((conv => lhs; whnf); done)) | exact rfl))))); exact (gC' (by omega)))
 | (apply s_pn; (focus (repeat (first | apply opds_nil | (apply opds_cons; (first | (focus ((conv => lhs; whnf); done)) | exact rfl))))); exact p_fld0)
 | (apply s_pn; (focus (repeat (first | apply opds_nil | (apply opds_cons; (first | (focus ((conv => lhs; whnf); done)) | exact rfl))))); exact p_fld1)
 | (apply s_pn; (focus (repeat (first | apply opds_nil | (apply opds_cons; (first | (focus ((conv => lhs; whnf); done)) | exact rfl))))); exact d0)
 | (apply s_pn; (focus (repeat (first | apply opds_nil | (apply opds_cons; (first | (focus ((conv => lhs; whnf); done)) | exact rfl))))); exact (d0' (by omega)))
 | (apply s_pn; (focus (repeat (first | apply opds_nil | (apply opds_cons; (first | (focus ((conv => lhs; whnf); done)) | exact rfl))))); exact d1)
 | (apply s_subN (b := 1); exact rfl; omega; omega)
 | ((first | apply s_add | apply s_sub); exact rfl; omega)
 | (apply s_mulN; exact rfl; omega)
 | (apply s_quoN; exact rfl; omega; omega)
 | (apply s_remN; exact rfl; omega)
 | (apply s_and1; exact rfl; omega)
 | (apply s_shr1; exact rfl)
 | (apply s_len; (focus ((conv => lhs; whnf); done)); (first | assumption | (apply IsLL.at; assumption; omega)))
 | (apply s_lenLL; (focus ((conv => lhs; whnf); done)); assumption)
 | (apply s_lenRd; exact rfl)
 | (apply s_lenSl; exact rfl)
 | (apply s_idx; (focus ((conv => lhs; whnf); done)); exact rfl; (first | assumption | (apply IsLL.at; assumption; omega)); omega)
 | (apply s_idxLL; (focus ((conv => lhs; whnf); done)); exact rfl; assumption; omega)
 | (apply s_idxP; exact rfl; exact rfl; omega)
 | (apply s_ldB; exact rfl; exact rfl; omega; all_goals intro _)
 | (apply s_ldRB; exact rfl; omega; all_goals intro _)
 | (apply s_idxRB; exact rfl; exact rfl; omega)
 | (apply s_idxS; exact rfl; exact rfl; omega)
 | (apply s_slcT; exact rfl; exact rfl; omega)
 | (apply s_slcF; exact rfl; exact rfl; omega)
 | (apply s_mx; exact rfl; exact rfl)
 | (apply s_rem2; exact rfl)
 | (apply s_ldI; exact rfl; omega)
 | (apply s_ldLL; exact rfl; assumption; omega)
 | (apply s_pd; (focus ((conv => lhs; whnf); done)))
 | apply c_seq
 | apply c_reg
 | apply c_block
 | apply c_exitH
 | apply c_skip
 | apply c_ret
 | (apply c_condT; exact rfl)
 | (apply c_condF; exact rfl)
 | (apply c_exitM; exact rfl)
 | (apply c_preF; (focus (repeat (first | apply looks_nil | (apply looks_cons; (focus ((conv => lhs; whnf); done)))))); (focus (simp [idFreeL, AV.idFree, *]; done)))
 | (with_reducible apply k_c)
        all_goals try (exfalso; have hasc' := hasc (by omega); omega)
        all_goals
          refine c_loop ?_
          refine loop_gc (σ := Nat) (fun k => [.int .i64 (a : Int), .int .i64 (b : Int), X, Y, Z, .int .i64 ((prodL (LC.take i) * p ^ k : Nat) : Int), .int .i64 (i : Int), .int .i64 (e : Int), .int .i64 (k : Int)]) (fun _ => []) (fun k => k ≤ e) (fun k => e - k) ?_ _ 0 _ _ (by omega) (by omega) (by rw [Nat.pow_zero, Nat.mul_one]; exact gc_to rfl (by simp [idFreeL, AV.idFree, fa, fb, fc]))
          intro k hk K3 hK3
          have hpk := hpr k hk
          have hpk1 : k < e → prodL (LC.take i) * p ^ k * p ≤ a * b := fun h => by
            have := hpr (k + 1) h
            rwa [Nat.pow_succ, ← Nat.mul_assoc] at this
          repeat' first
 | (apply s_mov; (focus ((conv => lhs; whnf); done)))
 | (apply s_gT; exact rfl)
 | (apply s_gF; exact rfl)
 | (apply s_gFD; exact rfl)
 | (apply s_gFE; exact rfl)
 | apply c_nil
 | (apply s_pickT; exact rfl; (focus ((conv => lhs; whnf); done)))
 | (apply s_pickF; exact rfl; (focus ((conv => lhs; whnf); done)))
 | (apply s_notT; exact rfl)
 | (apply s_notF; exact rfl)
 | ((first | apply s_lss | apply s_leq | apply s_gtr | apply s_geq | apply s_eql | apply s_neq); exact rfl; all_goals (intro _; try (exfalso; omega)))
 | (apply s_pn; (focus (repeat (first | apply opds_nil | (apply opds_cons; (first | (focus ((conv => lhs; whnf); done)) | exact rfl))))); exact gC)
 | (apply s_pn; (focus (repeat (first | apply opds_nil | (apply opds_cons; (first | (focus ((conv => lhs; whnf); done)) | exact rfl))))); exact p_fld0)
 | (apply s_pn; (focus (repeat (first | apply opds_nil | (apply opds_cons; (first | (focus ((conv => lhs; whnf); done)) | exact rfl))))); exact d0)
 | (apply s_mulN; exact rfl; have := hpk1 (by omega); omega)
 | ((first | apply s_add | apply s_sub); exact rfl; omega)
 | (apply s_mulN; exact rfl; omega)
 | (apply s_quoN; exact rfl; omega; omega)
 | (apply s_remN; exact rfl; omega)
 | (apply s_and1; exact rfl; omega)
 | (apply s_shr1; exact rfl)
 | (apply s_len; (focus ((conv => lhs; whnf); done)); (first | assumption | (apply IsLL.at; assumption; omega)))
 | (apply s_lenLL; (focus ((conv => lhs; whnf); done)); assumption)
 | (apply s_lenRd; exact rfl)
 | (apply s_lenSl; exact rfl)
 | (apply s_idx; (focus ((conv => lhs; whnf); done)); exact rfl; (first | assumption | (apply IsLL.at; assumption; omega)); omega)
 | (apply s_idxLL; (focus ((conv => lhs; whnf); done)); exact rfl; assumption; omega)
 | (apply s_idxP; exact rfl; exact rfl; omega)
 | (apply s_ldB; exact rfl; exact rfl; omega; all_goals intro _)
 | (apply s_ldRB; exact rfl; omega; all_goals intro _)
 | (apply s_idxRB; exact rfl; exact rfl; omega)
 | (apply s_idxS; exact rfl; exact rfl; omega)
 | (apply s_slcT; exact rfl; exact rfl; omega)
 | (apply s_slcF; exact rfl; exact rfl; omega)
 | (apply s_mx; exact rfl; exact rfl)
 | (apply s_rem2; exact rfl)
 | (apply s_ldI; exact rfl; omega)
 | (apply s_ldLL; exact rfl; assumption; omega)
 | (apply s_pd; (focus ((conv => lhs; whnf); done)))
 | apply c_seq
 | apply c_reg
 | apply c_block
 | apply c_exitH
 | apply c_skip
 | apply c_ret
 | (apply c_condT; exact rfl)
 | (apply c_condF; exact rfl)
 | (apply c_exitM; exact rfl)
 | (apply c_preF; (focus (repeat (first | apply looks_nil | (apply looks_cons; (focus ((conv => lhs; whnf); done)))))); (focus (simp [idFreeL, AV.idFree, *]; done)))
 | (with_reducible apply k_c)
          · have := hpk1 (by omega)
            rw [Nat.mul_assoc, ← Nat.pow_succ]
            exact hK3 (k + 1) _ _ (by omega) (by omega) (gc_to rfl (by simp [idFreeL, AV.idFree, fa, fb, fc]))
          · obtain rfl : e = k := by omega
            rw [← hps]
            exact hK (i + 1) _ _ (by omega) (by omega) (gc_to rfl (by simp [idFreeL, AV.idFree, fa, fb, fc]))
  · first | exact fin_t (by (conv => lhs; whnf)) (by rfl) rfl | exact absurd (hfin (by omega)) (by omega)
end Go.AM.Pr
