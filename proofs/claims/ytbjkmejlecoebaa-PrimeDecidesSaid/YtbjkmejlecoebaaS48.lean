/- A part of the proof: S48. -/
import Derived.Test.YtbjkmejlecoebaaS47
set_option linter.unusedSectionVars false
set_option linter.unusedVariables false
set_option linter.unusedSimpArgs false
namespace Go.AM.Pr
open Go.AM.Num
set_option maxHeartbeats 4000000
theorem c30e {n : Int} (hn : ¬ IsNum n) {m : Nat} (hm : 50000 ≤ m) (H : Heap) : callPure (evZ m) true 30 [.int .i64 n] H = some (.tup [.agg [.int .i64 0, .nilS], .int .i64 2], H) :=
  callPure_of rfl (f30e hn hm) rfl rfl
theorem c30 {n : Int} (hn : IsNum n) {m : Nat} (hm : 50010 + 3 * n.toNat ≤ m) : ∃ (d : Int) (pv : AV) (l : List En), IsP pv l ∧ Small l ∧ RV n d l ∧ (d = 0 ↔ IsPN n) ∧
    ∀ H, callPure (evZ m) true 30 [.int .i64 n] H = some (.tup [.agg [.int .i64 d, pv], .int .i64 0], H) := by
  obtain ⟨N, rfl⟩ : ∃ N : Nat, n = N := ⟨n.toNat, by have := hn.1; omega⟩
  rw [Int.toNat_natCast] at hm
  have hN1 := hn.1
  have hN2 := hn.2
  have sn : Small [] := ⟨by simp, by simp⟩
  have gn : IsP .nilS [] := ⟨(by intro e he; cases he), .inl ⟨rfl, rfl⟩⟩
  rcases (by omega : N = 1 ∨ 2 ≤ N) with rfl | h2
  · refine ⟨1, .nilS, [], gn, sn, .inr ⟨by omega, rfl, .inl ⟨rfl, rfl⟩⟩, ⟨fun h => by omega, fun h => ?_⟩, fun H => callPure_of rfl (f30o (by omega)) rfl rfl⟩
    have := h.2.1
    exact absurd this (by decide)
  · have hL := facOf_fac (n := N) (by omega)
    obtain ⟨⟨q, e⟩, r, hr⟩ : ∃ x r, facOf N = x :: r := by
      refine List.exists_cons_of_ne_nil fun e' => ?_
      have := hL.prod
      rw [e'] at this
      simp [prodL] at this
      omega
    have hmem : (q, e) ∈ facOf N := by rw [hr]; exact List.mem_cons_self
    obtain ⟨hq, he⟩ := hL.all _ hmem
    simp only at hq he
    have hd : q ∣ N := by
      have := mem_dvd_prod hmem
      rw [hL.prod] at this
      exact Nat.dvd_trans (Nat.dvd_of_pow_dvd he (Nat.dvd_refl _)) this
    have hqN := Nat.le_of_dvd (by omega) hd
    have hq1 := hq.1
    rcases (by omega : q < N ∨ q = N) with h | h
    · refine ⟨(q : Int), .nilS, [], gn, sn, .inr ⟨by omega, rfl, .inr ⟨by omega, by omega, ?_⟩⟩, ⟨fun h => by omega, fun hp => ?_⟩, fun H => callPure_of rfl (f30c h2 (by omega) hL hr h (by omega)) rfl rfl⟩
      · obtain ⟨c, hc⟩ := hd
        rw [hc]
        push_cast
        exact Int.mul_tmod_right _ _
      · have := hp.2
        rw [Int.toNat_natCast] at this
        rcases this.2 q hd with e | e <;> omega
    · have hpr : IsPr N := h ▸ hq
      have hp2 : N ≤ 2147483647 := by omega
      obtain ⟨k, hk, hf⟩ := f30p hpr hp2 (m := m) (by omega)
      obtain ⟨hg, hmem, _⟩ := pvF_good N N [] (Nat.le_refl _) hpr Gd.nil
      have hsm := prf_small (pv_len hpr hp2) fun y hy => ⟨hg.pr y hy, by
        rcases pvF_le N N [] y hy with h | h
        · cases h
        · omega⟩
      have hgp := prf_GP hpr hp2
      have hge := prf_goodE (pvF N N [])
      have hcl := pcE_len (prf (pvF N N []))
      generalize prf (pvF N N []) = l at *
      refine ⟨0, .rd 3 l.length (pcE l), l, ⟨hge, .inr rfl⟩, hsm, .inl ⟨rfl, hgp⟩, ⟨fun _ => ⟨hn, by rw [Int.toNat_natCast]; exact hpr⟩, fun _ => rfl⟩, fun H => ?_⟩
      refine callPure_of rfl hf rfl ?_
      rw [hk] at hcl ⊢
      simp [frzV, frzL, idFreeL, AV.idFree, Heap.data?, hcl, List.take_of_length_le]
/-- law 13 -/
theorem f13 {n : Int} : ∃ m H', evZ m 13 [.int .i64 n] [] = some (.bool true, H') := by
  refine ⟨60001 + 3 * n.toNat, [], ?_⟩
  have h18 := fun H => callPure_up (sp := spS) (Nat.le_refl _) (awakeM (m := 60000 + 3 * n.toNat) (by omega) H)
  have h17 := fun H => callPure_up (sp := spS) (Nat.le_refl _) (c17 (m := 60000 + 3 * n.toNat) (by omega) n H)
  have h21 := fun H => callPure_up (sp := spS) (Nat.le_refl _) (c21 (m := 60000 + 3 * n.toNat) (by omega) n H)
  rw [show 60001 + 3 * n.toNat = 60000 + 3 * n.toNat + 1 by omega]
  by_cases hn : IsNum n
  · obtain ⟨d, pv, l, hv, hs, hR, hd, h30⟩ := c30 hn (m := 60000 + 3 * n.toNat) (by omega)
    have ha : idFreeL [AV.int .i64 n, .agg [.int .i64 d, pv]] = true := by simp [AV.idFree, idFreeL, hv.free]
    have h38 := fun H => callPure_up (sp := spS) (Nat.le_refl _) (callPure_free (H := H) ha (by simp) (f38 (d := d) hn hv hs (m := 60000 + 3 * n.toNat) (by omega)) rfl)
    have h31 := fun H => callPure_up (sp := spS) (Nat.le_refl _) (callPure_free (H := H) ha (by simp) (f31 (d := d) hn hv hs (m := 60000 + 3 * n.toNat) (by omega)) rfl)
    simp only [hR, hn, if_true, decide_true] at h38 h31 h17
    simp only [evZ] at h30
    have fo : pv.one = true := by obtain ⟨_, ⟨rfl, _⟩ | rfl⟩ := hv <;> rfl
    have fc : pv.cells = [pv] := by obtain ⟨_, ⟨rfl, _⟩ | rfl⟩ := hv <;> rfl
    refine s_enter rfl rfl ?_
    generalize evS spS tab it (60000 + 3 * n.toNat) = call at *
    by_cases hp : IsPN n
    · obtain rfl := hd.2 hp
      simp only [hp, decide_true] at h21
      repeat' first
 | (apply s_mov; (focus ((conv => lhs; whnf); done)))
 | (apply s_gT; exact rfl)
 | (apply c_nil)
 | (apply s_pickT; exact rfl; (focus ((conv => lhs; whnf); done)))
 | (apply s_notT; exact rfl)
 | ((first | apply s_lss | apply s_leq | apply s_gtr | apply s_geq | apply s_eql | apply s_neq); exact rfl; all_goals (intro _; try (exfalso; omega)))
 | (apply s_cn; (focus (repeat (first | apply opds_nil | (apply opds_cons; (first | (focus ((conv => lhs; whnf); done)) | exact rfl))))); exact h30 _)
 | (apply s_cn; (focus (repeat (first | apply opds_nil | (apply opds_cons; (first | (focus ((conv => lhs; whnf); done)) | exact rfl))))); exact h17 _)
 | (apply s_cn; (focus (repeat (first | apply opds_nil | (apply opds_cons; (first | (focus ((conv => lhs; whnf); done)) | exact rfl))))); exact h21 _)
 | (apply s_cn; (focus (repeat (first | apply opds_nil | (apply opds_cons; (first | (focus ((conv => lhs; whnf); done)) | exact rfl))))); exact h38 _)
 | (apply s_cn; (focus (repeat (first | apply opds_nil | (apply opds_cons; (first | (focus ((conv => lhs; whnf); done)) | exact rfl))))); exact h31 _)
 | (apply s_cn; (focus (repeat (first | apply opds_nil | (apply opds_cons; (first | (focus ((conv => lhs; whnf); done)) | exact rfl))))); exact h18 _)
 | (apply s_st; (focus (repeat (first | apply opds_nil | (apply opds_cons; (first | (focus ((conv => lhs; whnf); done)) | exact rfl))))); exact e_st2 rfl fo fc)
 | (apply isE; apply s_ed; (focus ((conv => lhs; whnf); done)))
 | (apply s_pd; (focus ((conv => lhs; whnf); done)))
 | (apply c_seq)
 | (apply c_reg)
 | (apply c_skip)
 | (apply c_ret)
 | (apply c_condF; exact rfl)
 | (with_reducible apply k_c)
      all_goals first | exact fin_t (by (conv => lhs; whnf)) (by rfl) rfl | (exfalso; omega)
    · have hd0 : d ≠ 0 := fun h => hp (hd.1 h)
      simp only [hp, decide_false] at h21
      repeat' first
 | (apply s_mov; (focus ((conv => lhs; whnf); done)))
 | (apply s_gT; exact rfl)
 | (apply c_nil)
 | (apply s_pickT; exact rfl; (focus ((conv => lhs; whnf); done)))
 | (apply s_notT; exact rfl)
 | ((first | apply s_lss | apply s_leq | apply s_gtr | apply s_geq | apply s_eql | apply s_neq); exact rfl; all_goals (intro _; try (exfalso; omega)))
 | (apply s_cn; (focus (repeat (first | apply opds_nil | (apply opds_cons; (first | (focus ((conv => lhs; whnf); done)) | exact rfl))))); exact h30 _)
 | (apply s_cn; (focus (repeat (first | apply opds_nil | (apply opds_cons; (first | (focus ((conv => lhs; whnf); done)) | exact rfl))))); exact h17 _)
 | (apply s_cn; (focus (repeat (first | apply opds_nil | (apply opds_cons; (first | (focus ((conv => lhs; whnf); done)) | exact rfl))))); exact h21 _)
 | (apply s_cn; (focus (repeat (first | apply opds_nil | (apply opds_cons; (first | (focus ((conv => lhs; whnf); done)) | exact rfl))))); exact h38 _)
 | (apply s_cn; (focus (repeat (first | apply opds_nil | (apply opds_cons; (first | (focus ((conv => lhs; whnf); done)) | exact rfl))))); exact h31 _)
 | (apply s_cn; (focus (repeat (first | apply opds_nil | (apply opds_cons; (first | (focus ((conv => lhs; whnf); done)) | exact rfl))))); exact h18 _)
 | (apply s_st; (focus (repeat (first | apply opds_nil | (apply opds_cons; (first | (focus ((conv => lhs; whnf); done)) | exact rfl))))); exact e_st2 rfl fo fc)
 | (apply isE; apply s_ed; (focus ((conv => lhs; whnf); done)))
 | (apply s_pd; (focus ((conv => lhs; whnf); done)))
 | (apply c_seq)
 | (apply c_reg)
 | (apply c_skip)
 | (apply c_ret)
 | (apply c_condF; exact rfl)
 | (with_reducible apply k_c)
      all_goals first | exact fin_t (by (conv => lhs; whnf)) (by rfl) rfl | (exfalso; omega)
  · have h30 := fun H => c30e hn (m := 60000 + 3 * n.toNat) (by omega) H
    have ha : idFreeL [AV.int .i64 n, .agg [.int .i64 0, .nilS]] = true := rfl
    have gn : IsP .nilS [] := ⟨(by intro e he; cases he), .inl ⟨rfl, rfl⟩⟩
    have h38 := fun H => callPure_up (sp := spS) (Nat.le_refl _) (callPure_free (H := H) ha (by simp) (f38e (d := 0) hn gn (m := 60000 + 3 * n.toNat) (by omega)) rfl)
    simp only [hn, decide_false] at h17
    simp only [evZ] at h30
    refine s_enter rfl rfl ?_
    generalize evS spS tab it (60000 + 3 * n.toNat) = call at *
    repeat' first
 | (apply s_mov; (focus ((conv => lhs; whnf); done)))
 | (apply s_gT; exact rfl)
 | (apply c_nil)
 | (apply s_pickT; exact rfl; (focus ((conv => lhs; whnf); done)))
 | (apply s_notF; exact rfl)
 | ((first | apply s_lss | apply s_leq | apply s_gtr | apply s_geq | apply s_eql | apply s_neq); exact rfl; all_goals (intro _; try (exfalso; omega)))
 | (apply s_cn; (focus (repeat (first | apply opds_nil | (apply opds_cons; (first | (focus ((conv => lhs; whnf); done)) | exact rfl))))); exact h30 _)
 | (apply s_cn; (focus (repeat (first | apply opds_nil | (apply opds_cons; (first | (focus ((conv => lhs; whnf); done)) | exact rfl))))); exact h17 _)
 | (apply s_cn; (focus (repeat (first | apply opds_nil | (apply opds_cons; (first | (focus ((conv => lhs; whnf); done)) | exact rfl))))); exact h38 _)
 | (apply s_cn; (focus (repeat (first | apply opds_nil | (apply opds_cons; (first | (focus ((conv => lhs; whnf); done)) | exact rfl))))); exact h18 _)
 | (apply s_st; (focus (repeat (first | apply opds_nil | (apply opds_cons; (first | (focus ((conv => lhs; whnf); done)) | exact rfl))))); exact e_st2 rfl rfl rfl)
 | (apply isE; apply s_ed; (focus ((conv => lhs; whnf); done)))
 | (apply s_pd; (focus ((conv => lhs; whnf); done)))
 | (apply c_seq)
 | (apply c_reg)
 | (apply c_ret)
 | (apply c_condT; exact rfl)
 | (with_reducible apply k_c)
    all_goals first | exact fin_t (by (conv => lhs; whnf)) (by rfl) rfl | (exfalso; omega)
end Go.AM.Pr
