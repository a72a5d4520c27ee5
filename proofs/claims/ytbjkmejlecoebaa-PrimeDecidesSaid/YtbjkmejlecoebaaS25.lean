/- A part of the proof: S25. -/
import Derived.Test.YtbjkmejlecoebaaS24
set_option linter.unusedSectionVars false
set_option linter.unusedVariables false
set_option linter.unusedSimpArgs false
namespace Go.AM.Pr
open Go.AM.Num
/-- the reference's order -/
theorem f24 {a p : Nat} (hp : IsPr p) (hp2 : p ≤ 2147483647) (h1 : 1 ≤ a) (h2 : a < p) {m : Nat} (hm : 46500 ≤ m) : evF tab it m 24 [.int .i64 (a : Int), .int .i64 (p : Int)] [] = some (.int .i64 ((ordP a p : Nat) : Int), []) := by
  obtain ⟨m, rfl⟩ : ∃ j, m = j + 1 := ⟨m - 1, by omega⟩
  have hpp := hp.1
  have hL := fac_pm hp
  have h1p : 1 % p = 1 := Nat.mod_eq_of_lt hpp
  unfold ordP
  have hsp := ordF_spec hL (fermat1 hp h1 h2)
  have hle := fun l => ordF_le a p l (p - 1)
  generalize facOf (p - 1) = L at *
  have h19 := fun H => c19 (N := p - 1) (by omega) (by omega) hL (m := m) (by omega) H
  have h22 := fun {E : Nat} (hE : E ≤ 2147483647) H => c22 (A := a) (E := E) (n := p) (by omega) hp2 (by omega) (m := m) (by omega) H
  have ll := fun H => p_lenP (H := H) L
  have il := fun H i h => p_idxG (H := H) (l := L) (i := i) h
  have fl := fzP_free L
  have zl := fac_len31 hL (by omega)
  refine f_enter rfl rfl ?_
  generalize evF tab it m = call at *
  generalize fzP L = X at *
  repeat' first
 | (apply s_mov; (focus ((conv => lhs; whnf); done)))
 | (apply c_nil)
 | (apply s_subN (b := 1); exact rfl; omega; omega)
 | (apply s_cn; (focus (repeat (first | apply opds_nil | (apply opds_cons; (first | (focus ((conv => lhs; whnf); done)) | exact rfl))))); exact h19 _)
 | (apply c_seq)
 | (apply c_reg)
 | (apply c_block)
 | (with_reducible apply k_c)
  refine c_loop ?_
  refine loop_gc (σ := Nat) (fun i => [.int .i64 (a : Int), .int .i64 (p : Int), .int .i64 ((ordF a p (p - 1) (L.take i) : Nat) : Int), X, .int .i64 (i : Int)]) (fun _ => []) (fun i => i ≤ L.length) (fun i => L.length - i) ?_ _ 0 _ _ (by omega) (by omega) (gc_to rfl (by simp [idFreeL, AV.idFree, fl]))
  intro i hi K hK
  by_cases hiL : i < L.length
  · have g1 := il [] i hiL
    have g2 := p_ld0 (H := []) hiL
    have g3 := exp_lt hL (by omega) hiL
    have hdrop : L = L.take i ++ (gp L i) :: L.drop (i + 1) := by
      conv => lhs; rw [← List.take_append_drop i L, List.drop_eq_getElem_cons hiL]
      rw [gp_lt hiL]
    obtain ⟨one, pos, least, u, hu, hpu⟩ := hsp (L.take i) (gp L i :: L.drop (i + 1)) hdrop
    have hN := hle (L.take i)
    have hord : ordF a p (p - 1) (L.take (i + 1)) = ordS a p (gp L i).1 (gp L i).2 (ordF a p (p - 1) (L.take i)) := by
      rw [take_succ hiL, ordF_app]
    obtain ⟨f1, f2, f3⟩ := FacR.append (hdrop ▸ hL.toFacR)
    have hq := (f2.all _ List.mem_cons_self).1
    have hqr : ¬ (gp L i).1 ∣ prodL (L.drop (i + 1)) := FacR.not_dvd (fun y hy => f2.all y (List.mem_cons_of_mem _ hy)) hq f2.head_lt
    have hqu : ¬ (gp L i).1 ∣ u := fun hd => by
      obtain ⟨x, hx, e⟩ := hpu _ hq hd
      have := f3 x hx _ List.mem_cons_self
      omega
    have hqR : ¬ (gp L i).1 ∣ u * prodL (L.drop (i + 1)) := fun hd => (pr_dvd_mul hq hd).elim hqu hqr
    have hNe : ordF a p (p - 1) (L.take i) = u * (gp L i).1 ^ (gp L i).2 * prodL (L.drop (i + 1)) := by rw [hu, prodL_cons, Nat.mul_assoc]
    generalize prodL (L.drop (i + 1)) = R at *
    generalize (gp L i).1 = q at *
    generalize (gp L i).2 = t at *
    generalize hN'e : ordF a p (p - 1) (L.take (i + 1)) = N' at *
    generalize ordF a p (p - 1) (L.take i) = N at *
    repeat' first
 | (apply s_mov; (focus ((conv => lhs; whnf); done)))
 | (apply c_nil)
 | ((first | apply s_lss | apply s_leq | apply s_gtr | apply s_geq | apply s_eql | apply s_neq); exact rfl; all_goals (intro _; try (exfalso; omega)))
 | (apply s_pn; (focus (repeat (first | apply opds_nil | (apply opds_cons; (first | (focus ((conv => lhs; whnf); done)) | exact rfl))))); exact ll _)
 | (apply c_seq)
 | (apply c_reg)
 | (apply c_block)
 | (apply c_skip)
 | (apply c_condT; exact rfl)
 | (with_reducible apply k_c)
    refine c_loop ?_
    refine loop_gc (σ := Nat × Nat) (fun s => [.int .i64 (a : Int), .int .i64 (p : Int), .int .i64 (s.1 : Int), X, .int .i64 (i : Int)]) (fun _ => []) (fun s => s.2 ≤ 1000 ∧ s.1 = u * q ^ s.2 * R ∧ ordS a p q s.2 s.1 = N' ∧ s.1 ≤ 2147483647) (fun s => s.2) ?_ _ (N, t) _ _ ⟨by show t ≤ _; omega, hNe, hord.symm, by show N ≤ _; omega⟩ (by show t < _; omega) (gc_to rfl (by simp [idFreeL, AV.idFree, fl]))
    intro ⟨v, j⟩ ⟨s1, s2, s3, s4⟩ K2 hK2
    dsimp only at s1 s2 s3 s4 hK2 ⊢
    have hq2 := hq.1
    cases j with
    | zero =>
      rw [Nat.pow_zero, Nat.mul_one] at s2
      have hm0 : v % q ≠ 0 := fun h => hqR (s2 ▸ Nat.dvd_of_mod_eq_zero h)
      simp only [ordS] at s3
      repeat' first
 | (apply s_mov; (focus ((conv => lhs; whnf); done)))
 | (apply s_gF; exact rfl)
 | (apply s_gFD; exact rfl)
 | (apply c_nil)
 | (apply s_pickF; exact rfl; (focus ((conv => lhs; whnf); done)))
 | ((first | apply s_lss | apply s_leq | apply s_gtr | apply s_geq | apply s_eql | apply s_neq); exact rfl; all_goals (intro _; try (exfalso; omega)))
 | (apply s_pn; (focus (repeat (first | apply opds_nil | (apply opds_cons; (first | (focus ((conv => lhs; whnf); done)) | exact rfl))))); exact g1)
 | (apply s_pn; (focus (repeat (first | apply opds_nil | (apply opds_cons; (first | (focus ((conv => lhs; whnf); done)) | exact rfl))))); exact p_fld0)
 | (apply s_pn; (focus (repeat (first | apply opds_nil | (apply opds_cons; (first | (focus ((conv => lhs; whnf); done)) | exact rfl))))); exact g2)
 | ((first | apply s_add | apply s_sub); exact rfl; omega)
 | (apply s_remN; exact rfl; omega)
 | (apply c_seq)
 | (apply c_reg)
 | (apply c_exitH)
 | (apply c_condF; exact rfl)
 | (apply c_preF; (focus (repeat (first | apply looks_nil | (apply looks_cons; (focus ((conv => lhs; whnf); done)))))); (focus (simp [idFreeL, AV.idFree, *]; done)))
 | (with_reducible apply k_c)
      rw [s3]
      exact hK (i + 1) _ _ (by omega) (by omega) (by rw [hN'e]; exact gc_to rfl (by simp [idFreeL, AV.idFree, fl]))
    | succ j =>
      have hdq : v = q * (u * q ^ j * R) := by rw [s2, Nat.pow_succ]; simp only [Nat.mul_comm, Nat.mul_left_comm, Nat.mul_assoc]
      have hm0 : v % q = 0 := by rw [hdq]; exact Nat.mul_mod_right _ _
      have hd0 : v / q = u * q ^ j * R := by rw [hdq, Nat.mul_div_cancel_left _ (by omega)]
      have hle2 := Nat.div_le_self v q
      have e22 := h22 (E := v / q) (by omega) []
      by_cases ho : Pow1 a p (v / q)
      · simp only [ordS, if_pos ho] at s3
        unfold Pow1 at ho
        repeat' first
 | (apply s_mov; (focus ((conv => lhs; whnf); done)))
 | (apply s_gT; exact rfl)
 | (apply c_nil)
 | (apply s_pickT; exact rfl; (focus ((conv => lhs; whnf); done)))
 | ((first | apply s_lss | apply s_leq | apply s_gtr | apply s_geq | apply s_eql | apply s_neq); exact rfl; all_goals (intro _; try (exfalso; omega)))
 | (apply s_pn; (focus (repeat (first | apply opds_nil | (apply opds_cons; (first | (focus ((conv => lhs; whnf); done)) | exact rfl))))); exact g1)
 | (apply s_pn; (focus (repeat (first | apply opds_nil | (apply opds_cons; (first | (focus ((conv => lhs; whnf); done)) | exact rfl))))); exact p_fld0)
 | (apply s_pn; (focus (repeat (first | apply opds_nil | (apply opds_cons; (first | (focus ((conv => lhs; whnf); done)) | exact rfl))))); exact g2)
 | (apply s_cn; (focus (repeat (first | apply opds_nil | (apply opds_cons; (first | (focus ((conv => lhs; whnf); done)) | exact rfl))))); exact e22)
 | (apply s_remN (a := 1); exact rfl; omega)
 | (apply s_quoN; exact rfl; omega; omega)
 | (apply s_remN; exact rfl; omega)
 | (apply c_seq)
 | (apply c_reg)
 | (apply c_block)
 | (apply c_skip)
 | (apply c_condT; exact rfl)
 | (with_reducible apply k_c)
        exact hK2 (v / q, j) _ _ ⟨by show j ≤ _; omega, hd0, s3, by show v / q ≤ _; omega⟩ (by show j < j + 1; omega) (gc_to rfl (by simp [idFreeL, AV.idFree, fl]))
      · simp only [ordS, if_neg ho] at s3
        unfold Pow1 at ho
        repeat' first
 | (apply s_mov; (focus ((conv => lhs; whnf); done)))
 | (apply s_gT; exact rfl)
 | (apply c_nil)
 | (apply s_pickT; exact rfl; (focus ((conv => lhs; whnf); done)))
 | ((first | apply s_lss | apply s_leq | apply s_gtr | apply s_geq | apply s_eql | apply s_neq); exact rfl; all_goals (intro _; try (exfalso; omega)))
 | (apply s_pn; (focus (repeat (first | apply opds_nil | (apply opds_cons; (first | (focus ((conv => lhs; whnf); done)) | exact rfl))))); exact g1)
 | (apply s_pn; (focus (repeat (first | apply opds_nil | (apply opds_cons; (first | (focus ((conv => lhs; whnf); done)) | exact rfl))))); exact p_fld0)
 | (apply s_pn; (focus (repeat (first | apply opds_nil | (apply opds_cons; (first | (focus ((conv => lhs; whnf); done)) | exact rfl))))); exact g2)
 | (apply s_cn; (focus (repeat (first | apply opds_nil | (apply opds_cons; (first | (focus ((conv => lhs; whnf); done)) | exact rfl))))); exact e22)
 | (apply s_remN (a := 1); exact rfl; omega)
 | ((first | apply s_add | apply s_sub); exact rfl; omega)
 | (apply s_quoN; exact rfl; omega; omega)
 | (apply s_remN; exact rfl; omega)
 | (apply c_seq)
 | (apply c_reg)
 | (apply c_exitH)
 | (apply c_condF; exact rfl)
 | (apply c_preF; (focus (repeat (first | apply looks_nil | (apply looks_cons; (focus ((conv => lhs; whnf); done)))))); (focus (simp [idFreeL, AV.idFree, *]; done)))
 | (with_reducible apply k_c)
        rw [s3]
        exact hK (i + 1) _ _ (by omega) (by omega) (by rw [hN'e]; exact gc_to rfl (by simp [idFreeL, AV.idFree, fl]))
  · obtain rfl : L.length = i := by omega
    rw [List.take_length] at *
    repeat' first
 | (apply s_mov; (focus ((conv => lhs; whnf); done)))
 | (apply c_nil)
 | ((first | apply s_lss | apply s_leq | apply s_gtr | apply s_geq | apply s_eql | apply s_neq); exact rfl; all_goals (intro _; try (exfalso; omega)))
 | (apply s_pn; (focus (repeat (first | apply opds_nil | (apply opds_cons; (first | (focus ((conv => lhs; whnf); done)) | exact rfl))))); exact ll _)
 | (apply c_seq)
 | (apply c_reg)
 | (apply c_exitH)
 | (apply c_ret)
 | (apply c_condF; exact rfl)
 | (apply c_preF; (focus (repeat (first | apply looks_nil | (apply looks_cons; (focus ((conv => lhs; whnf); done)))))); (focus (simp [idFreeL, AV.idFree, *]; done)))
 | (with_reducible apply k_c)
    exact fin_t (by (conv => lhs; whnf)) (by rfl) rfl
theorem c24 {a p : Nat} (hp : IsPr p) (hp2 : p ≤ 2147483647) (h1 : 1 ≤ a) (h2 : a < p) {m : Nat} (hm : 46500 ≤ m) (H : Heap) : callPure (evF tab it m) true 24 [.int .i64 (a : Int), .int .i64 (p : Int)] H = some (.int .i64 ((ordP a p : Nat) : Int), H) :=
  callPure_free rfl (by simp) (f24 hp hp2 h1 h2 hm) rfl
theorem awakeM {m : Nat} (hm : 60000 ≤ m) (H : Heap) : callPure (evF tab it m) true 18 [] H = some (.bool true, H) := callPure_free rfl (by simp) (evF_mono hm _ _ _ _ awake) rfl
theorem c32 {p : Nat} (hp : IsPr p) (hp2 : p ≤ 2147483647) {G : Nat} (hG : 1 ≤ G ∧ G < p ∧ Wit G p (ps (facOf (p - 1))) ∧ ∀ k, 1 ≤ k → k < G → ¬ Wit k p (ps (facOf (p - 1)))) {m : Nat} (hm : 46500 + p ≤ m) (H : Heap) :
    callPure (evF tab it m) true 32 [.int .i64 (p : Int)] H = some (.tup [.int .i64 (G : Int), .int .i64 0], H) :=
  callPure_free rfl (by simp) (f32 hp hp2 hG hm) rfl
theorem c32e {p : Int} (hp : ¬ IsPN p) {m : Nat} (hm : 46500 ≤ m) (H : Heap) : callPure (evF tab it m) true 32 [.int .i64 p] H = some (.tup [.int .i64 0, .int .i64 2], H) :=
  callPure_free rfl (by simp) (f32e hp hm) rfl
theorem f10 {p : Int} : ∃ m H', evF tab it m 10 [.int .i64 p] [] = some (.bool true, H') := by
  refine ⟨60001 + p.toNat, [], ?_⟩
  have h18 := fun H => awakeM (m := 60000 + p.toNat) (by omega) H
  have h21 := fun H => c21 (m := 60000 + p.toNat) (by omega) p H
  rw [show 60001 + p.toNat = 60000 + p.toNat + 1 by omega]
  by_cases hpn : IsPN p
  · obtain ⟨P, rfl⟩ : ∃ P : Nat, p = P := ⟨p.toNat, by have := hpn.1.1; omega⟩
    have hP : IsPr P := by simpa using hpn.2
    have hP2 : P ≤ 2147483647 := by have := hpn.1.2; omega
    simp only [hpn, decide_true] at h21
    obtain ⟨G, hG⟩ := least_wit hP
    have h32 := fun H => c32 hP hP2 hG (m := 60000 + (P : Int).toNat) (by rw [Int.toNat_natCast]; omega) H
    have h24 := fun {a : Nat} (h1 : 1 ≤ a) (h2 : a < P) H => c24 hP hP2 h1 h2 (m := 60000 + (P : Int).toNat) (by omega) H
    obtain ⟨G1, G2, G3, G4⟩ := hG
    have hpp := hP.1
    have hGo := (ordP_wit hP G1 G2).2 G3
    have hGn := fun k k1 k2 h => G4 k k1 k2 ((ordP_wit hP k1 (by omega)).1 h)
    have e24 := h24 G1 G2
    rw [hGo] at e24
    refine f_enter rfl rfl ?_
    have hb : 1000 ≤ 60000 + (P : Int).toNat := by omega
    generalize evF tab it (60000 + (P : Int).toNat) = call at *
    generalize 60000 + (P : Int).toNat = mm at *
    repeat' first
 | (apply s_mov; (focus ((conv => lhs; whnf); done)))
 | (apply s_gT; exact rfl)
 | (apply c_nil)
 | (apply s_pickF; exact rfl; (focus ((conv => lhs; whnf); done)))
 | (apply s_notT; exact rfl)
 | ((first | apply s_lss | apply s_leq | apply s_gtr | apply s_geq | apply s_eql | apply s_neq); exact rfl; all_goals (intro _; try (exfalso; omega)))
 | (apply s_cn; (focus (repeat (first | apply opds_nil | (apply opds_cons; (first | (focus ((conv => lhs; whnf); done)) | exact rfl))))); exact h21 _)
 | (apply s_cn; (focus (repeat (first | apply opds_nil | (apply opds_cons; (first | (focus ((conv => lhs; whnf); done)) | exact rfl))))); exact h32 _)
 | (apply s_cn; (focus (repeat (first | apply opds_nil | (apply opds_cons; (first | (focus ((conv => lhs; whnf); done)) | exact rfl))))); exact e24 _)
 | (apply s_subN (b := 1); exact rfl; omega; omega)
 | (apply s_pd; (focus ((conv => lhs; whnf); done)))
 | (apply c_seq)
 | (apply c_reg)
 | (apply c_block)
 | (apply c_skip)
 | (apply c_condF; exact rfl)
 | (with_reducible apply k_c)
    refine c_loop ?_
    refine loop_gc (σ := Nat) (fun k => [.int .i64 (P : Int), .int .i64 (G : Int), .int .i64 (k : Int)]) (fun _ => []) (fun k => 1 ≤ k ∧ k ≤ 300) (fun k => 300 - k) ?_ _ 1 _ _ ⟨by omega, by omega⟩ (by omega) (gc_to rfl (by simp [idFreeL, AV.idFree]))
    intro k ⟨k1, k2⟩ K hK
    by_cases hkG : k < G
    · have hne : ordP k P ≠ P - 1 := hGn k k1 hkG
      have e24' := h24 (a := k) k1 (by omega) []
      have hole : ordP k P ≤ 2147483647 := by
        have := ordF_le k P (facOf (P - 1)) (P - 1)
        unfold ordP; omega
      generalize ordP k P = o at *
      repeat' first
 | (apply s_mov; (focus ((conv => lhs; whnf); done)))
 | (apply s_gT; exact rfl)
 | (apply c_nil)
 | (apply s_pickT; exact rfl; (focus ((conv => lhs; whnf); done)))
 | ((first | apply s_lss | apply s_leq | apply s_gtr | apply s_geq | apply s_eql | apply s_neq); exact rfl; all_goals (intro _; try (exfalso; omega)))
 | (apply s_cn; (focus (repeat (first | apply opds_nil | (apply opds_cons; (first | (focus ((conv => lhs; whnf); done)) | exact rfl))))); exact e24')
 | (apply s_cn; (focus (repeat (first | apply opds_nil | (apply opds_cons; (first | (focus ((conv => lhs; whnf); done)) | exact rfl))))); exact h18 _)
 | (apply s_subN (b := 1); exact rfl; omega; omega)
 | ((first | apply s_add | apply s_sub); exact rfl; omega)
 | (apply c_seq)
 | (apply c_reg)
 | (apply c_block)
 | (apply c_exitH)
 | (apply c_skip)
 | (apply c_ret)
 | (apply c_condT; exact rfl)
 | (apply c_condF; exact rfl)
 | (apply c_preF; (focus (repeat (first | apply looks_nil | (apply looks_cons; (focus ((conv => lhs; whnf); done)))))); (focus (simp [idFreeL, AV.idFree, *]; done)))
 | (with_reducible apply k_c)
      all_goals first | exact hK (k + 1) _ _ ⟨by omega, by omega⟩ (by omega) (gc_to rfl (by simp [idFreeL, AV.idFree])) | exact fin_t (by (conv => lhs; whnf)) (by rfl) rfl
    · skip
      repeat' first
 | (apply s_mov; (focus ((conv => lhs; whnf); done)))
 | (apply s_gF; exact rfl)
 | (apply c_nil)
 | (apply s_pickF; exact rfl; (focus ((conv => lhs; whnf); done)))
 | ((first | apply s_lss | apply s_leq | apply s_gtr | apply s_geq | apply s_eql | apply s_neq); exact rfl; all_goals (intro _; try (exfalso; omega)))
 | (apply s_cn; (focus (repeat (first | apply opds_nil | (apply opds_cons; (first | (focus ((conv => lhs; whnf); done)) | exact rfl))))); exact h18 _)
 | (apply c_seq)
 | (apply c_reg)
 | (apply c_exitH)
 | (apply c_ret)
 | (apply c_condF; exact rfl)
 | (apply c_preF; (focus (repeat (first | apply looks_nil | (apply looks_cons; (focus ((conv => lhs; whnf); done)))))); (focus (simp [idFreeL, AV.idFree, *]; done)))
 | (with_reducible apply k_c)
      exact fin_t (by (conv => lhs; whnf)) (by rfl) rfl
  · simp only [hpn, decide_false] at h21
    have h32 := fun H => c32e hpn (m := 60000 + p.toNat) (by omega) H
    refine f_enter rfl rfl ?_
    generalize evF tab it (60000 + p.toNat) = call at *
    repeat' first
 | (apply s_mov; (focus ((conv => lhs; whnf); done)))
 | (apply s_gT; exact rfl)
 | (apply c_nil)
 | (apply s_pickT; exact rfl; (focus ((conv => lhs; whnf); done)))
 | (apply s_notF; exact rfl)
 | ((first | apply s_lss | apply s_leq | apply s_gtr | apply s_geq | apply s_eql | apply s_neq); exact rfl; all_goals (intro _; try (exfalso; omega)))
 | (apply s_cn; (focus (repeat (first | apply opds_nil | (apply opds_cons; (first | (focus ((conv => lhs; whnf); done)) | exact rfl))))); exact h21 _)
 | (apply s_cn; (focus (repeat (first | apply opds_nil | (apply opds_cons; (first | (focus ((conv => lhs; whnf); done)) | exact rfl))))); exact h32 _)
 | (apply s_cn; (focus (repeat (first | apply opds_nil | (apply opds_cons; (first | (focus ((conv => lhs; whnf); done)) | exact rfl))))); exact h18 _)
 | (apply s_pd; (focus ((conv => lhs; whnf); done)))
 | (apply c_seq)
 | (apply c_reg)
 | (apply c_ret)
 | (apply c_condT; exact rfl)
 | (with_reducible apply k_c)
    exact fin_t (by (conv => lhs; whnf)) (by rfl) rfl
end Go.AM.Pr
