/- A part of the proof: S8. -/
import Derived.Test.YtbjkmejlecoebaaS7
set_option linter.unusedSectionVars false
set_option linter.unusedVariables false
set_option linter.unusedSimpArgs false
namespace Go.AM.Pr
attribute [local go_sem] gc subHeap reach_skip ren_free reach_new reach_newp reach_end rangeL roots boxCells nodupB posOf renL AV.ren pickO renH renO looks look bindEnv envOf reach_int reach_bool reach_nilS reach_rd putRow cells_sl cells_int cells_bool cells_nilS cells_rd cells_agg reach_agg reach_tup idFreeL idf_sl idf_ptr idf_int idf_bool idf_nilS idf_rd reach_fn reach_mp cells_fn cells_ptr cells_mp idf_mp idf_fn idf_agg idf_tup
open Go.AM.Num
theorem f16 {N : Nat} {L : List (Nat × Nat)} (h1 : 1 ≤ N) (hN : N ≤ 2147483647) (hL : Fac L N) {m : Nat} (hm : 46403 ≤ m) : evF tab it m 16 [.int .i64 (N : Int)] [] = some (.tup [fzP L, .int .i64 0], []) := by
  obtain ⟨m, rfl⟩ : ∃ j, m = j + 1 := ⟨m - 1, by omega⟩
  have hp : IsNum (N : Int) := ⟨by omega, by omega⟩
  have ff := fzP_free L
  have hc := c42 h1 hN hL (m := m) (by omega) []
  generalize fzP L = F at *
  refine f_enter rfl rfl ?_
  repeat' first
 | (apply s_mov; (focus ((conv => lhs; whnf); done)))
 | (apply c_nil)
 | (apply s_notT; exact rfl)
 | (apply s_notF; exact rfl)
 | (apply isE; refine s_cB (by (focus (repeat (first | apply opds_nil | (apply opds_cons; (first | (focus ((conv => lhs; whnf); done)) | exact rfl)))))) (c41 (by omega) _ _) (fun _ => ?_) (fun _ => ?_))
 | (apply s_cn; (focus (repeat (first | apply opds_nil | (apply opds_cons; (first | (focus ((conv => lhs; whnf); done)) | exact rfl))))); exact hc)
 | (apply c_seq)
 | (apply c_reg)
 | (apply c_skip)
 | (apply c_ret)
 | (apply c_condT; exact rfl)
 | (apply c_condF; exact rfl)
 | (with_reducible apply k_c)
  · exact fin_tt (by (conv => lhs; whnf)) (by (conv => lhs; whnf)) ff (by rfl) rfl
  · exact absurd hp (by assumption)
theorem f16e {a : Int} (ha : ¬ IsNum a) {m : Nat} (hm : 46403 ≤ m) : evF tab it m 16 [.int .i64 a] [] = some (.tup [.nilS, .int .i64 2], []) := by
  obtain ⟨m, rfl⟩ : ∃ j, m = j + 1 := ⟨m - 1, by omega⟩
  refine f_enter rfl rfl ?_
  repeat' first
 | (apply s_mov; (focus ((conv => lhs; whnf); done)))
 | (apply c_nil)
 | (apply s_notT; exact rfl)
 | (apply s_notF; exact rfl)
 | (apply isE; refine s_cB (by (focus (repeat (first | apply opds_nil | (apply opds_cons; (first | (focus ((conv => lhs; whnf); done)) | exact rfl)))))) (c41 (by omega) _ _) (fun _ => ?_) (fun _ => ?_))
 | (apply c_seq)
 | (apply c_reg)
 | (apply c_skip)
 | (apply c_ret)
 | (apply c_condT; exact rfl)
 | (apply c_condF; exact rfl)
 | (with_reducible apply k_c)
  · exact absurd (by assumption) ha
  · exact fin_tt (by (conv => lhs; whnf)) (by (conv => lhs; whnf)) (by rfl) (by rfl) rfl
theorem c16 {N : Nat} {L : List (Nat × Nat)} (h1 : 1 ≤ N) (hN : N ≤ 2147483647) (hL : Fac L N) {m : Nat} (hm : 46403 ≤ m) (H : Heap) : callPure (evF tab it m) true 16 [.int .i64 (N : Int)] H = some (.tup [fzP L, .int .i64 0], H) :=
  callPure_free rfl (by simp) (f16 h1 hN hL hm) (by simp [AV.idFree, idFreeL, fzP_free])
theorem c16e {a : Int} (ha : ¬ IsNum a) {m : Nat} (hm : 46403 ≤ m) (H : Heap) : callPure (evF tab it m) true 16 [.int .i64 a] H = some (.tup [.nilS, .int .i64 2], H) :=
  callPure_free rfl (by simp) (f16e ha hm) rfl
theorem c18 (H : Heap) : callPure (evF tab it 60000) true 18 [] H = some (.bool true, H) := callPure_free rfl (by simp) awake rfl
theorem owP_gc (l : List (Nat × Nat)) (n : Nat) : gc 0 [.int .i64 (n : Int), owP l] (owPH l) = some ([.int .i64 (n : Int), owP l], owPH l) := by
  cases l <;> simp [owP, owPH, go_sem]
theorem owP_gc3 (l : List (Nat × Nat)) (n d e : Int) : gc 0 [.int .i64 n, owP l, .int .i64 d, .int .i64 e] (owPH l) = some ([.int .i64 n, owP l, .int .i64 d, .int .i64 e], owPH l) := by
  cases l <;> simp [owP, owPH, go_sem]
theorem owP_gc1 (l : List (Nat × Nat)) : gc 0 [owP l] (owPH l) = some ([owP l], owPH l) := by
  cases l <;> simp [owP, owPH, go_sem]
theorem e_bldP' {call : CallF} {H : Heap} {a b : Int} : evE call H (.bldS true true 2 1 [.int .i64 0, .int .i64 0] [(0, 2)]) [.agg [.int .i64 a, .int .i64 b]] = some (.rd 2 1 [.int .i64 a, .int .i64 b], H) := rfl
/-- the reference's factorization -/
theorem f19 {N : Nat} {L : List (Nat × Nat)} (h1 : 1 ≤ N) (hN : N ≤ 2147483647) (hL : Fac L N) {m : Nat} (hm : 46403 ≤ m) : evF tab it m 19 [.int .i64 (N : Int)] [] = some (owP L, owPH L) := by
  obtain ⟨m, rfl⟩ : ∃ j, m = j + 1 := ⟨m - 1, by omega⟩
  have h43 := fun {n : Nat} (h1 : 1 ≤ n) (h2 : n ≤ 2147483647) H => c43 h1 h2 (m := m) (by omega) H
  have hL31 := fac_len31 hL hN
  refine f_enter rfl rfl ?_
  generalize evF tab it m = call at *
  repeat' first
 | (apply s_mov; (focus ((conv => lhs; whnf); done)))
 | (apply c_nil)
 | (apply c_seq)
 | (apply c_reg)
 | (apply c_block)
 | (with_reducible apply k_c)
  refine c_loop ?_
  refine loop_gc (σ := Nat × List (Nat × Nat)) (fun s => [.int .i64 (s.1 : Int), owP s.2]) (fun s => owPH s.2) (fun s => ∃ r, L = s.2 ++ r ∧ prodL r = s.1) (fun s => L.length - s.2.length) ?_ _ (N, []) _ _ ⟨L, rfl, hL.prod⟩ (by show L.length - _ < _; omega) (owP_gc [] N)
  intro ⟨n, l⟩ ⟨r, hr, hp⟩ K hK
  dsimp only at hr hp hK ⊢
  have hrf : FacR r := (FacR.append (hr ▸ hL.toFacR)).2.1
  have hnN : n ≤ N := by
    have := hL.prod
    rw [hr, prodL_append, hp] at this
    have hl := (FacR.append (hr ▸ hL.toFacR)).1.pos
    rw [← this]
    exact Nat.le_mul_of_pos_left _ hl
  have hn1 : 1 ≤ n := hp ▸ hrf.pos
  obtain ⟨d, hd, hc⟩ := h43 hn1 (by omega) (owPH l)
  by_cases h1n : 1 < n
  · obtain ⟨hdp, hdd, hdr⟩ := hd.1 h1n
    have hge : ∀ x ∈ r, d ≤ x.1 := fun x hx => hdr x.1 (hrf.all x hx).1.1 (by rw [← hp]; exact Nat.dvd_trans (Nat.dvd_of_pow_dvd (hrf.all x hx).2 (Nat.dvd_refl _)) (mem_dvd_prod hx))
    obtain ⟨e, t, rfl⟩ := head_eq hrf hge hdp (hp ▸ hdd)
    have he1 := (hrf.all _ List.mem_cons_self).2
    have e1 : prodL ((d, e) :: t) = d ^ e * prodL t := rfl
    have e2 : ¬ d ∣ prodL t := FacR.not_dvd (fun y hy => hrf.all y (List.mem_cons_of_mem _ hy)) hdp hrf.head_lt
    have hq := hdp.1
    have he31 : e < 100 := by
      rcases Nat.lt_or_ge e 100 with h | h
      · exact h
      · have a1 := Nat.pow_le_pow_right (show 0 < 2 by omega) h
        have a2 := Nat.pow_le_pow_left hq e
        have a3 := Nat.le_mul_of_pos_right (d ^ e) hrf.tail.pos
        have a4 : 2 ^ 100 ≤ n := by rw [← hp, e1]; omega
        have : 2 ^ 100 ≤ 2147483647 := by omega
        exact absurd this (by decide)
    have hle : ∀ j, j ≤ e → d ^ (e - j) * prodL t ≤ n := fun j hj => by
      rw [← hp, e1]
      exact Nat.mul_le_mul_right _ (Nat.pow_le_pow_right (by omega) (by omega))
    have hz : ∀ j, j < e → d ^ (e - j) * prodL t % d = 0 ∧ d ^ (e - j) * prodL t / d = d ^ (e - (j + 1)) * prodL t := fun j hj => by
      have : d ^ (e - j) * prodL t = d * (d ^ (e - (j + 1)) * prodL t) := by
        rw [show e - j = (e - (j + 1)) + 1 by omega, Nat.pow_succ]
        simp only [Nat.mul_comm, Nat.mul_left_comm, Nat.mul_assoc]
      rw [this]
      exact ⟨Nat.mul_mod_right _ _, Nat.mul_div_cancel_left _ (by omega)⟩
    have hnz : prodL t % d ≠ 0 := fun h => e2 (Nat.dvd_of_mod_eq_zero h)
    have e0 : d ^ (e - e) * prodL t = prodL t := by rw [Nat.sub_self, Nat.pow_zero, Nat.one_mul]
    have g3 := owP_gc3 l
    have hlen : L.length = l.length + (t.length + 1) := by rw [hr]; simp
    have happ : ∃ H', (∀ z, evE call (owPH l) (.app false 2 16) [owP l, .rd 2 1 [.int .i64 (d : Int), .int .i64 (e : Int)]] = some (z, H') → True) ∧ ∃ v, evE call (owPH l) (.app false 2 16) [owP l, .rd 2 1 [.int .i64 (d : Int), .int .i64 (e : Int)]] = some (v, H') ∧ ∀ a : Nat, gc 0 [.int .i64 (a : Int), v] H' = some ([.int .i64 (a : Int), owP (l ++ [(d, e)])], owPH (l ++ [(d, e)])) := by
      have hp1 : pcs [(d, e)] = [.int .i64 (d : Int), .int .i64 (e : Int)] := rfl
      rcases l with _ | ⟨x, l'⟩
      · refine ⟨_, fun _ _ => trivial, _, e_appz_nil (by omega) (by decide), fun a => ?_⟩
        have := hp1
        simp [owP, owPH, go_sem, this]
      · have hl2 := pcs_len (x :: l')
        have hl3 : (x :: l').length = l'.length + 1 := rfl
        rw [hl3] at hl2 hlen
        refine ⟨_, fun _ _ => trivial, _, e_appz_sl (k := l'.length + 1) rfl hl2 (by omega) (by unfold most; omega), fun a => ?_⟩
        have := pcs_app (x :: l') [(d, e)]
        rw [hp1] at this
        simp only [List.cons_append] at this
        simp [owP, owPH, go_sem, this]
    obtain ⟨HA, _, va, ha, hag⟩ := happ
    generalize hOV : owP l = ov at *
    generalize hOH : owPH l = oh at *
    repeat' first
 | (apply s_mov; (focus ((conv => lhs; whnf); done)))
 | (apply c_nil)
 | ((first | apply s_lss | apply s_leq | apply s_gtr | apply s_geq | apply s_eql | apply s_neq); exact rfl; all_goals (intro _; try (exfalso; omega)))
 | (apply s_cn; (focus (repeat (first | apply opds_nil | (apply opds_cons; (first | (focus ((conv => lhs; whnf); done)) | exact rfl))))); exact hc)
 | (apply c_seq)
 | (apply c_reg)
 | (apply c_block)
 | (apply c_skip)
 | (apply c_condT; exact rfl)
 | (with_reducible apply k_c)
    · refine c_loop ?_
      refine loop_gc (σ := Nat) (fun j => [.int .i64 ((d ^ (e - j) * prodL t : Nat) : Int), ov, .int .i64 (d : Int), .int .i64 (j : Int)]) (fun _ => oh) (fun j => j ≤ e) (fun j => e - j) ?_ _ 0 _ _ (by omega) (by omega) (by
        rw [Nat.sub_zero, ← e1, hp]
        exact g3 _ _ _)
      intro j hj K' hK'
      have hj2 := hle j hj
      have hj3 := hz j
      repeat' first
 | (apply s_mov; (focus ((conv => lhs; whnf); done)))
 | (apply c_nil)
 | ((first | apply s_lss | apply s_leq | apply s_gtr | apply s_geq | apply s_eql | apply s_neq); exact rfl; all_goals (intro _; try (exfalso; omega)))
 | ((first | apply s_add | apply s_sub); exact rfl; omega)
 | (apply s_quoN; exact rfl; omega; omega)
 | (apply s_remN; exact rfl; omega)
 | (apply c_seq)
 | (apply c_reg)
 | (apply c_block)
 | (apply c_exitH)
 | (apply c_skip)
 | (apply c_condT; exact rfl)
 | (apply c_condF; exact rfl)
 | (with_reducible apply k_c)
      · have hje : j < e := by
          rcases (by omega : j = e ∨ j < e) with rfl | h
          · rw [e0] at *; omega
          · exact h
        obtain ⟨z1, z2⟩ := hj3 hje
        rw [z2]
        exact hK' (j + 1) _ _ (by omega) (by omega) (g3 _ _ _)
      · obtain rfl : e = j := by
          rcases (by omega : e = j ∨ j < e) with rfl | h
          · rfl
          · have := (hj3 h).1; omega
        rw [e0] at *
        try apply k_c
        apply c_pre
        · exact g3 _ _ _
        repeat' first
 | (apply s_mov; (focus ((conv => lhs; whnf); done)))
 | (apply c_nil)
 | (apply s_pn; (focus (repeat (first | apply opds_nil | (apply opds_cons; (first | (focus ((conv => lhs; whnf); done)) | exact rfl))))); exact p_bldP)
 | (apply s_en; (focus (repeat (first | apply opds_nil | (apply opds_cons; (first | (focus ((conv => lhs; whnf); done)) | exact rfl))))); exact e_bldP)
 | (apply s_en; (focus (repeat (first | apply opds_nil | (apply opds_cons; (first | (focus ((conv => lhs; whnf); done)) | exact rfl))))); exact ha)
 | (apply c_reg)
        exact hK (prodL t, l ++ [(d, e)]) _ _ ⟨t, by simp [hr], rfl⟩ (by show L.length - (l ++ [(d, e)]).length < L.length - l.length; simp; omega) (hag _)
  · obtain rfl : r = [] := fac_one ⟨hrf, by omega⟩
    have g1 := owP_gc1 l
    rw [List.append_nil] at hr
    subst hr
    generalize hOV : owP L = ov at *
    generalize hOH : owPH L = oh at *
    repeat' first
 | (apply s_mov; (focus ((conv => lhs; whnf); done)))
 | (apply c_nil)
 | ((first | apply s_lss | apply s_leq | apply s_gtr | apply s_geq | apply s_eql | apply s_neq); exact rfl; all_goals (intro _; try (exfalso; omega)))
 | (apply c_seq)
 | (apply c_reg)
 | (apply c_exitH)
 | (apply c_condF; exact rfl)
 | (with_reducible apply k_c)
    apply c_pre
    · exact g1
    repeat' first
 | (apply s_mov; (focus ((conv => lhs; whnf); done)))
 | (apply c_nil)
 | (apply c_seq)
 | (apply c_reg)
 | (apply c_ret)
 | (with_reducible apply k_c)
    simp [finish, ress, resOf, look, tupOf, g1]
end Go.AM.Pr
