/- A part of the proof: S25 SE7 S28 SE8 S31. -/
import Derived.Test.YtbjkmejlecoebaaS24
set_option linter.unusedSectionVars false
set_option linter.unusedVariables false
set_option linter.unusedSimpArgs false
namespace Go.AM.Pr
open Go.AM.Num
/-- the reference's order -/
theorem f24 {a p : Nat} (hp : IsPr p) (hp2 : p ≤ 2147483647) (h1 : 1 ≤ a) (h2 : a < p) {m : Nat} (hm : 46500 ≤ m) : evF tab it m 24 [.int .i64 (a : Int), .int .i64 (p : Int)] [] = some (.int .i64 ((ordP a p : Nat) : Int), []) := by
  obtain ⟨m, rfl⟩ : ∃ j, m = j + 1 := ⟨m - 1, by omega⟩
  have hpp := hp.1
  have hL := fac_pm hp
  have h1p : 1 % p = 1 := Nat.mod_eq_of_lt hpp
  unfold ordP
  have hsp := ordF_spec hL (fermat1 hp h1 h2)
  have hle := fun l => ordF_le a p l (p - 1)
  generalize facOf (p - 1) = L at *
  have h19 := fun H => c19 (N := p - 1) (by omega) (by omega) hL (m := m) (by omega) H
  have h22 := fun {E : Nat} (hE : E ≤ 2147483647) H => c22 (A := a) (E := E) (n := p) (by omega) hp2 (by omega) (m := m) (by omega) H
  have ll := fun H => p_lenP (H := H) L
  have il := fun H i h => p_idxG (H := H) (l := L) (i := i) h
  have fl := fzP_free L
  have zl := fac_len31 hL (by omega)
  refine f_enter rfl rfl ?_
  generalize evF tab it m = call at *
  generalize fzP L = X at *
  repeat' first
 | (apply s_mov; (focus ((conv => lhs; whnf); done)))
 | (apply c_nil)
 | (apply s_subN (b := 1); exact rfl; omega; omega)
 | (apply s_cn; (focus (repeat (first | apply opds_nil | (apply opds_cons; (first | (focus ((conv => lhs; whnf); done)) | exact rfl))))); exact h19 _)
 | (apply c_seq)
 | (apply c_reg)
 | (apply c_block)
 | (with_reducible apply k_c)
  refine c_loop ?_
  refine loop_gc (σ := Nat) (fun i => [.int .i64 (a : Int), .int .i64 (p : Int), .int .i64 ((ordF a p (p - 1) (L.take i) : Nat) : Int), X, .int .i64 (i : Int)]) (fun _ => []) (fun i => i ≤ L.length) (fun i => L.length - i) ?_ _ 0 _ _ (by omega) (by omega) (gc_to rfl (by simp [idFreeL, AV.idFree, fl]))
  intro i hi K hK
  by_cases hiL : i < L.length
  · have g1 := il [] i hiL
    have g2 := p_ld0 (H := []) hiL
    have g3 := exp_lt hL (by omega) hiL
    have hdrop : L = L.take i ++ (gp L i) :: L.drop (i + 1) := by
      conv => lhs; rw [← List.take_append_drop i L, List.drop_eq_getElem_cons hiL]
      rw [gp_lt hiL]
    obtain ⟨one, pos, least, u, hu, hpu⟩ := hsp (L.take i) (gp L i :: L.drop (i + 1)) hdrop
    have hN := hle (L.take i)
    have hord : ordF a p (p - 1) (L.take (i + 1)) = ordS a p (gp L i).1 (gp L i).2 (ordF a p (p - 1) (L.take i)) := by
      rw [take_succ hiL, ordF_app]
    obtain ⟨f1, f2, f3⟩ := FacR.append (hdrop ▸ hL.toFacR)
    have hq := (f2.all _ List.mem_cons_self).1
    have hqr : ¬ (gp L i).1 ∣ prodL (L.drop (i + 1)) := FacR.not_dvd (fun y hy => f2.all y (List.mem_cons_of_mem _ hy)) hq f2.head_lt
    have hqu : ¬ (gp L i).1 ∣ u := fun hd => by
      obtain ⟨x, hx, e⟩ := hpu _ hq hd
      have := f3 x hx _ List.mem_cons_self
      omega
    have hqR : ¬ (gp L i).1 ∣ u * prodL (L.drop (i + 1)) := fun hd => (pr_dvd_mul hq hd).elim hqu hqr
    have hNe : ordF a p (p - 1) (L.take i) = u * (gp L i).1 ^ (gp L i).2 * prodL (L.drop (i + 1)) := by rw [hu, prodL_cons, Nat.mul_assoc]
    generalize prodL (L.drop (i + 1)) = R at *
    generalize (gp L i).1 = q at *
    generalize (gp L i).2 = t at *
    generalize hN'e : ordF a p (p - 1) (L.take (i + 1)) = N' at *
    generalize ordF a p (p - 1) (L.take i) = N at *
    repeat' first
 | (apply s_mov; (focus ((conv => lhs; whnf); done)))
 | (apply c_nil)
 | ((first | apply s_lss | apply s_leq | apply s_gtr | apply s_geq | apply s_eql | apply s_neq); exact rfl; all_goals (intro _; try (exfalso; omega)))
 | (apply s_pn; (focus (repeat (first | apply opds_nil | (apply opds_cons; (first | (focus ((conv => lhs; whnf); done)) | exact rfl))))); exact ll _)
 | (apply c_seq)
 | (apply c_reg)
 | (apply c_block)
 | (apply c_skip)
 | (apply c_condT; exact rfl)
 | (with_reducible apply k_c)
    refine c_loop ?_
    refine loop_gc (σ := Nat × Nat) (fun s => [.int .i64 (a : Int), .int .i64 (p : Int), .int .i64 (s.1 : Int), X, .int .i64 (i : Int)]) (fun _ => []) (fun s => s.2 ≤ 1000 ∧ s.1 = u * q ^ s.2 * R ∧ ordS a p q s.2 s.1 = N' ∧ s.1 ≤ 2147483647) (fun s => s.2) ?_ _ (N, t) _ _ ⟨by show t ≤ _; omega, hNe, hord.symm, by show N ≤ _; omega⟩ (by show t < _; omega) (gc_to rfl (by simp [idFreeL, AV.idFree, fl]))
    intro ⟨v, j⟩ ⟨s1, s2, s3, s4⟩ K2 hK2
    dsimp only at s1 s2 s3 s4 hK2 ⊢
    have hq2 := hq.1
    cases j with
    | zero =>
      rw [Nat.pow_zero, Nat.mul_one] at s2
      have hm0 : v % q ≠ 0 := fun h => hqR (s2 ▸ Nat.dvd_of_mod_eq_zero h)
      simp only [ordS] at s3
      repeat' first
 | (apply s_mov; (focus ((conv => lhs; whnf); done)))
 | (apply s_gF; exact rfl)
 | (apply s_gFD; exact rfl)
 | (apply c_nil)
 | (apply s_pickF; exact rfl; (focus ((conv => lhs; whnf); done)))
 | ((first | apply s_lss | apply s_leq | apply s_gtr | apply s_geq | apply s_eql | apply s_neq); exact rfl; all_goals (intro _; try (exfalso; omega)))
 | (apply s_pn; (focus (repeat (first | apply opds_nil | (apply opds_cons; (first | (focus ((conv => lhs; whnf); done)) | exact rfl))))); exact g1)
 | (apply s_pn; (focus (repeat (first | apply opds_nil | (apply opds_cons; (first | (focus ((conv => lhs; whnf); done)) | exact rfl))))); exact p_fld0)
 | (apply s_pn; (focus (repeat (first | apply opds_nil | (apply opds_cons; (first | (focus ((conv => lhs; whnf); done)) | exact rfl))))); exact g2)
 | ((first | apply s_add | apply s_sub); exact rfl; omega)
 | (apply s_remN; exact rfl; omega)
 | (apply c_seq)
 | (apply c_reg)
 | (apply c_exitH)
 | (apply c_condF; exact rfl)
 | (apply c_preF; (focus (repeat (first | apply looks_nil | (apply looks_cons; (focus ((conv => lhs; whnf); done)))))); (focus (simp [idFreeL, AV.idFree, *]; done)))
 | (with_reducible apply k_c)
      rw [s3]
      exact hK (i + 1) _ _ (by omega) (by omega) (by rw [hN'e]; exact gc_to rfl (by simp [idFreeL, AV.idFree, fl]))
    | succ j =>
      have hdq : v = q * (u * q ^ j * R) := by rw [s2, Nat.pow_succ]; simp only [Nat.mul_comm, Nat.mul_left_comm, Nat.mul_assoc]
      have hm0 : v % q = 0 := by rw [hdq]; exact Nat.mul_mod_right _ _
      have hd0 : v / q = u * q ^ j * R := by rw [hdq, Nat.mul_div_cancel_left _ (by omega)]
      have hle2 := Nat.div_le_self v q
      have e22 := h22 (E := v / q) (by omega) []
      by_cases ho : Pow1 a p (v / q)
      · simp only [ordS, if_pos ho] at s3
        unfold Pow1 at ho
        repeat' first
 | (apply s_mov; (focus ((conv => lhs; whnf); done)))
 | (apply s_gT; exact rfl)
 | (apply c_nil)
 | (apply s_pickT; exact rfl; (focus ((conv => lhs; whnf); done)))
 | ((first | apply s_lss | apply s_leq | apply s_gtr | apply s_geq | apply s_eql | apply s_neq); exact rfl; all_goals (intro _; try (exfalso; omega)))
 | (apply s_pn; (focus (repeat (first | apply opds_nil | (apply opds_cons; (first | (focus ((conv => lhs; whnf); done)) | exact rfl))))); exact g1)
 | (apply s_pn; (focus (repeat (first | apply opds_nil | (apply opds_cons; (first | (focus ((conv => lhs; whnf); done)) | exact rfl))))); exact p_fld0)
 | (apply s_pn; (focus (repeat (first | apply opds_nil | (apply opds_cons; (first | (focus ((conv => lhs; whnf); done)) | exact rfl))))); exact g2)
 | (apply s_cn; (focus (repeat (first | apply opds_nil | (apply opds_cons; (first | (focus ((conv => lhs; whnf); done)) | exact rfl))))); exact e22)
 | (apply s_remN (a := 1); exact rfl; omega)
 | (apply s_quoN; exact rfl; omega; omega)
 | (apply s_remN; exact rfl; omega)
 | (apply c_seq)
 | (apply c_reg)
 | (apply c_block)
 | (apply c_skip)
 | (apply c_condT; exact rfl)
 | (with_reducible apply k_c)
        exact hK2 (v / q, j) _ _ ⟨by show j ≤ _; omega, hd0, s3, by show v / q ≤ _; omega⟩ (by show j < j + 1; omega) (gc_to rfl (by simp [idFreeL, AV.idFree, fl]))
      · simp only [ordS, if_neg ho] at s3
        unfold Pow1 at ho
        repeat' first
 | (apply s_mov; (focus ((conv => lhs; whnf); done)))
 | (apply s_gT; exact rfl)
 | (apply c_nil)
 | (apply s_pickT; exact rfl; (focus ((conv => lhs; whnf); done)))
 | ((first | apply s_lss | apply s_leq | apply s_gtr | apply s_geq | apply s_eql | apply s_neq); exact rfl; all_goals (intro _; try (exfalso; omega)))
 | (apply s_pn; (focus (repeat (first | apply opds_nil | (apply opds_cons; (first | (focus ((conv => lhs; whnf); done)) | exact rfl))))); exact g1)
 | (apply s_pn; (focus (repeat (first | apply opds_nil | (apply opds_cons; (first | (focus ((conv => lhs; whnf); done)) | exact rfl))))); exact p_fld0)
 | (apply s_pn; (focus (repeat (first | apply opds_nil | (apply opds_cons; (first | (focus ((conv => lhs; whnf); done)) | exact rfl))))); exact g2)
 | (apply s_cn; (focus (repeat (first | apply opds_nil | (apply opds_cons; (first | (focus ((conv => lhs; whnf); done)) | exact rfl))))); exact e22)
 | (apply s_remN (a := 1); exact rfl; omega)
 | ((first | apply s_add | apply s_sub); exact rfl; omega)
 | (apply s_quoN; exact rfl; omega; omega)
 | (apply s_remN; exact rfl; omega)
 | (apply c_seq)
 | (apply c_reg)
 | (apply c_exitH)
 | (apply c_condF; exact rfl)
 | (apply c_preF; (focus (repeat (first | apply looks_nil | (apply looks_cons; (focus ((conv => lhs; whnf); done)))))); (focus (simp [idFreeL, AV.idFree, *]; done)))
 | (with_reducible apply k_c)
        rw [s3]
        exact hK (i + 1) _ _ (by omega) (by omega) (by rw [hN'e]; exact gc_to rfl (by simp [idFreeL, AV.idFree, fl]))
  · obtain rfl : L.length = i := by omega
    rw [List.take_length] at *
    repeat' first
 | (apply s_mov; (focus ((conv => lhs; whnf); done)))
 | (apply c_nil)
 | ((first | apply s_lss | apply s_leq | apply s_gtr | apply s_geq | apply s_eql | apply s_neq); exact rfl; all_goals (intro _; try (exfalso; omega)))
 | (apply s_pn; (focus (repeat (first | apply opds_nil | (apply opds_cons; (first | (focus ((conv => lhs; whnf); done)) | exact rfl))))); exact ll _)
 | (apply c_seq)
 | (apply c_reg)
 | (apply c_exitH)
 | (apply c_ret)
 | (apply c_condF; exact rfl)
 | (apply c_preF; (focus (repeat (first | apply looks_nil | (apply looks_cons; (focus ((conv => lhs; whnf); done)))))); (focus (simp [idFreeL, AV.idFree, *]; done)))
 | (with_reducible apply k_c)
    exact fin_t (by (conv => lhs; whnf)) (by rfl) rfl
theorem c24 {a p : Nat} (hp : IsPr p) (hp2 : p ≤ 2147483647) (h1 : 1 ≤ a) (h2 : a < p) {m : Nat} (hm : 46500 ≤ m) (H : Heap) : callPure (evF tab it m) true 24 [.int .i64 (a : Int), .int .i64 (p : Int)] H = some (.int .i64 ((ordP a p : Nat) : Int), H) :=
  callPure_free rfl (by simp) (f24 hp hp2 h1 h2 hm) rfl
theorem awakeM {m : Nat} (hm : 60000 ≤ m) (H : Heap) : callPure (evF tab it m) true 18 [] H = some (.bool true, H) := callPure_free rfl (by simp) (evF_mono hm _ _ _ _ awake) rfl
theorem c32 {p : Nat} (hp : IsPr p) (hp2 : p ≤ 2147483647) {G : Nat} (hG : 1 ≤ G ∧ G < p ∧ Wit G p (ps (facOf (p - 1))) ∧ ∀ k, 1 ≤ k → k < G → ¬ Wit k p (ps (facOf (p - 1)))) {m : Nat} (hm : 46500 + p ≤ m) (H : Heap) :
    callPure (evF tab it m) true 32 [.int .i64 (p : Int)] H = some (.tup [.int .i64 (G : Int), .int .i64 0], H) :=
  callPure_free rfl (by simp) (f32 hp hp2 hG hm) rfl
theorem c32e {p : Int} (hp : ¬ IsPN p) {m : Nat} (hm : 46500 ≤ m) (H : Heap) : callPure (evF tab it m) true 32 [.int .i64 p] H = some (.tup [.int .i64 0, .int .i64 2], H) :=
  callPure_free rfl (by simp) (f32e hp hm) rfl
theorem f10 {p : Int} : ∃ m H', evF tab it m 10 [.int .i64 p] [] = some (.bool true, H') := by
  refine ⟨60001 + p.toNat, [], ?_⟩
  have h18 := fun H => awakeM (m := 60000 + p.toNat) (by omega) H
  have h21 := fun H => c21 (m := 60000 + p.toNat) (by omega) p H
  rw [show 60001 + p.toNat = 60000 + p.toNat + 1 by omega]
  by_cases hpn : IsPN p
  · obtain ⟨P, rfl⟩ : ∃ P : Nat, p = P := ⟨p.toNat, by have := hpn.1.1; omega⟩
    have hP : IsPr P := by simpa using hpn.2
    have hP2 : P ≤ 2147483647 := by have := hpn.1.2; omega
    simp only [hpn, decide_true] at h21
    obtain ⟨G, hG⟩ := least_wit hP
    have h32 := fun H => c32 hP hP2 hG (m := 60000 + (P : Int).toNat) (by rw [Int.toNat_natCast]; omega) H
    have h24 := fun {a : Nat} (h1 : 1 ≤ a) (h2 : a < P) H => c24 hP hP2 h1 h2 (m := 60000 + (P : Int).toNat) (by omega) H
    obtain ⟨G1, G2, G3, G4⟩ := hG
    have hpp := hP.1
    have hGo := (ordP_wit hP G1 G2).2 G3
    have hGn := fun k k1 k2 h => G4 k k1 k2 ((ordP_wit hP k1 (by omega)).1 h)
    have e24 := h24 G1 G2
    rw [hGo] at e24
    refine f_enter rfl rfl ?_
    have hb : 1000 ≤ 60000 + (P : Int).toNat := by omega
    generalize evF tab it (60000 + (P : Int).toNat) = call at *
    generalize 60000 + (P : Int).toNat = mm at *
    repeat' first
 | (apply s_mov; (focus ((conv => lhs; whnf); done)))
 | (apply s_gT; exact rfl)
 | (apply c_nil)
 | (apply s_pickF; exact rfl; (focus ((conv => lhs; whnf); done)))
 | (apply s_notT; exact rfl)
 | ((first | apply s_lss | apply s_leq | apply s_gtr | apply s_geq | apply s_eql | apply s_neq); exact rfl; all_goals (intro _; try (exfalso; omega)))
 | (apply s_cn; (focus (repeat (first | apply opds_nil | (apply opds_cons; (first | (focus ((conv => lhs; whnf); done)) | exact rfl))))); exact h21 _)
 | (apply s_cn; (focus (repeat (first | apply opds_nil | (apply opds_cons; (first | (focus ((conv => lhs; whnf); done)) | exact rfl))))); exact h32 _)
 | (apply s_cn; (focus (repeat (first | apply opds_nil | (apply opds_cons; (first | (focus ((conv => lhs; whnf); done)) | exact rfl))))); exact e24 _)
 | (apply s_subN (b := 1); exact rfl; omega; omega)
 | (apply s_pd; (focus ((conv => lhs; whnf); done)))
 | (apply c_seq)
 | (apply c_reg)
 | (apply c_block)
 | (apply c_skip)
 | (apply c_condF; exact rfl)
 | (with_reducible apply k_c)
    refine c_loop ?_
    refine loop_gc (σ := Nat) (fun k => [.int .i64 (P : Int), .int .i64 (G : Int), .int .i64 (k : Int)]) (fun _ => []) (fun k => 1 ≤ k ∧ k ≤ 300) (fun k => 300 - k) ?_ _ 1 _ _ ⟨by omega, by omega⟩ (by omega) (gc_to rfl (by simp [idFreeL, AV.idFree]))
    intro k ⟨k1, k2⟩ K hK
    by_cases hkG : k < G
    · have hne : ordP k P ≠ P - 1 := hGn k k1 hkG
      have e24' := h24 (a := k) k1 (by omega) []
      have hole : ordP k P ≤ 2147483647 := by
        have := ordF_le k P (facOf (P - 1)) (P - 1)
        unfold ordP; omega
      generalize ordP k P = o at *
      repeat' first
 | (apply s_mov; (focus ((conv => lhs; whnf); done)))
 | (apply s_gT; exact rfl)
 | (apply c_nil)
 | (apply s_pickT; exact rfl; (focus ((conv => lhs; whnf); done)))
 | ((first | apply s_lss | apply s_leq | apply s_gtr | apply s_geq | apply s_eql | apply s_neq); exact rfl; all_goals (intro _; try (exfalso; omega)))
 | (apply s_cn; (focus (repeat (first | apply opds_nil | (apply opds_cons; (first | (focus ((conv => lhs; whnf); done)) | exact rfl))))); exact e24')
 | (apply s_cn; (focus (repeat (first | apply opds_nil | (apply opds_cons; (first | (focus ((conv => lhs; whnf); done)) | exact rfl))))); exact h18 _)
 | (apply s_subN (b := 1); exact rfl; omega; omega)
 | ((first | apply s_add | apply s_sub); exact rfl; omega)
 | (apply c_seq)
 | (apply c_reg)
 | (apply c_block)
 | (apply c_exitH)
 | (apply c_skip)
 | (apply c_ret)
 | (apply c_condT; exact rfl)
 | (apply c_condF; exact rfl)
 | (apply c_preF; (focus (repeat (first | apply looks_nil | (apply looks_cons; (focus ((conv => lhs; whnf); done)))))); (focus (simp [idFreeL, AV.idFree, *]; done)))
 | (with_reducible apply k_c)
      all_goals first | exact hK (k + 1) _ _ ⟨by omega, by omega⟩ (by omega) (gc_to rfl (by simp [idFreeL, AV.idFree])) | exact fin_t (by (conv => lhs; whnf)) (by rfl) rfl
    · skip
      repeat' first
 | (apply s_mov; (focus ((conv => lhs; whnf); done)))
 | (apply s_gF; exact rfl)
 | (apply c_nil)
 | (apply s_pickF; exact rfl; (focus ((conv => lhs; whnf); done)))
 | ((first | apply s_lss | apply s_leq | apply s_gtr | apply s_geq | apply s_eql | apply s_neq); exact rfl; all_goals (intro _; try (exfalso; omega)))
 | (apply s_cn; (focus (repeat (first | apply opds_nil | (apply opds_cons; (first | (focus ((conv => lhs; whnf); done)) | exact rfl))))); exact h18 _)
 | (apply c_seq)
 | (apply c_reg)
 | (apply c_exitH)
 | (apply c_ret)
 | (apply c_condF; exact rfl)
 | (apply c_preF; (focus (repeat (first | apply looks_nil | (apply looks_cons; (focus ((conv => lhs; whnf); done)))))); (focus (simp [idFreeL, AV.idFree, *]; done)))
 | (with_reducible apply k_c)
      exact fin_t (by (conv => lhs; whnf)) (by rfl) rfl
  · simp only [hpn, decide_false] at h21
    have h32 := fun H => c32e hpn (m := 60000 + p.toNat) (by omega) H
    refine f_enter rfl rfl ?_
    generalize evF tab it (60000 + p.toNat) = call at *
    repeat' first
 | (apply s_mov; (focus ((conv => lhs; whnf); done)))
 | (apply s_gT; exact rfl)
 | (apply c_nil)
 | (apply s_pickT; exact rfl; (focus ((conv => lhs; whnf); done)))
 | (apply s_notF; exact rfl)
 | ((first | apply s_lss | apply s_leq | apply s_gtr | apply s_geq | apply s_eql | apply s_neq); exact rfl; all_goals (intro _; try (exfalso; omega)))
 | (apply s_cn; (focus (repeat (first | apply opds_nil | (apply opds_cons; (first | (focus ((conv => lhs; whnf); done)) | exact rfl))))); exact h21 _)
 | (apply s_cn; (focus (repeat (first | apply opds_nil | (apply opds_cons; (first | (focus ((conv => lhs; whnf); done)) | exact rfl))))); exact h32 _)
 | (apply s_cn; (focus (repeat (first | apply opds_nil | (apply opds_cons; (first | (focus ((conv => lhs; whnf); done)) | exact rfl))))); exact h18 _)
 | (apply s_pd; (focus ((conv => lhs; whnf); done)))
 | (apply c_seq)
 | (apply c_reg)
 | (apply c_ret)
 | (apply c_condT; exact rfl)
 | (with_reducible apply k_c)
    exact fin_t (by (conv => lhs; whnf)) (by rfl) rfl
end Go.AM.Pr

set_option linter.unusedSectionVars false
set_option linter.unusedVariables false
set_option linter.unusedSimpArgs false
namespace Go.AM.Num
/-- a true order -/
structure Ord (a p o : Nat) : Prop where
  one : Pow1 a p o
  pos : 1 ≤ o
  least : ∀ q, IsPr q → q ∣ o → ¬ Pow1 a p (o / q)
theorem pr_div' {n N : Nat} (hd : n ∣ N) (hN : 1 ≤ N) (hne : n ≠ N) : ∃ q, IsPr q ∧ q ∣ N ∧ n ∣ N / q := by
  obtain ⟨c, rfl⟩ := hd
  have hc : 1 < c := by
    rcases (by omega : c = 0 ∨ c = 1 ∨ 1 < c) with rfl | rfl | h
    · simp at hN
    · simp at hne
    · exact h
  obtain ⟨q, hq, d, rfl⟩ := pr_ex hc
  refine ⟨q, hq, ⟨n * d, by simp only [Nat.mul_comm, Nat.mul_left_comm, Nat.mul_assoc]⟩, ?_⟩
  have : n * (q * d) = q * (n * d) := by simp only [Nat.mul_comm, Nat.mul_left_comm, Nat.mul_assoc]
  rw [this, Nat.mul_div_cancel_left _ (by have := hq.1; omega)]
  exact ⟨d, rfl⟩
theorem Ord.dvd {a p o n : Nat} (h : Ord a p o) (hn : Pow1 a p n) : o ∣ n := by
  have hg := h.one.gcd hn
  have hd := Nat.gcd_dvd_left o n
  by_cases e : Nat.gcd o n = o
  · rw [← e]; exact Nat.gcd_dvd_right o n
  · obtain ⟨q, q1, q2, q3⟩ := pr_div' hd h.pos e
    exact absurd (hg.dvd q3) (h.least q q1 q2)
theorem Ord.uniq {a p o o' : Nat} (h : Ord a p o) (h' : Ord a p o') : o = o' := Nat.dvd_antisymm (h.dvd h'.one) (h'.dvd h.one)
theorem unit_pow {p g : Nat} (hp : IsPr p) (h1 : 1 ≤ g) (h2 : g < p) (k : Nat) : Nat.Coprime (g ^ k) p := Nat.Coprime.pow_left k (pr_cop_of_lt hp h1 h2)
theorem cancel_mod {p u x y : Nat} (hp0 : 0 < p) (hu : Nat.Coprime u p) (h : u * x % p = u * y % p) : x % p = y % p := by
  refine cancel hu (Nat.mod_lt _ hp0) (Nat.mod_lt _ hp0) ?_
  rw [Nat.mul_mod_mod, Nat.mul_mod_mod, h]
/-- equal powers differ by the order -/
theorem Ord.inj {p g o i j : Nat} (hp : IsPr p) (h1 : 1 ≤ g) (h2 : g < p) (ho : Ord g p o) (hij : i ≤ j) (h : g ^ i % p = g ^ j % p) : o ∣ j - i := by
  refine ho.dvd ?_
  have e : g ^ j = g ^ i * g ^ (j - i) := by rw [← Nat.pow_add]; congr 1; omega
  have h3 : g ^ i * 1 % p = g ^ i * g ^ (j - i) % p := by rw [Nat.mul_one, ← e, h]
  exact (cancel_mod (by have := hp.1; omega) (unit_pow hp h1 h2 i) h3).symm
theorem Ord.inj' {p g o i j : Nat} (hp : IsPr p) (h1 : 1 ≤ g) (h2 : g < p) (ho : Ord g p o) (hi : i < o) (hj : j < o) (h : g ^ i % p = g ^ j % p) : i = j := by
  rcases Nat.le_total i j with hij | hij
  · obtain ⟨c, hc⟩ := ho.inj hp h1 h2 hij h
    rcases Nat.eq_zero_or_pos c with rfl | hc'
    · simp at hc; omega
    · have := Nat.mul_le_mul_left o hc'; omega
  · obtain ⟨c, hc⟩ := ho.inj hp h1 h2 hij h.symm
    rcases Nat.eq_zero_or_pos c with rfl | hc'
    · simp at hc; omega
    · have := Nat.mul_le_mul_left o hc'; omega
theorem Ord.mod {p g o e : Nat} (ho : Ord g p o) : g ^ (e % o) % p = g ^ e % p := by
  conv => rhs; rw [← Nat.div_add_mod e o, Nat.pow_add, Nat.mul_mod]
  have := ho.one.mul (e / o)
  unfold Pow1 at this
  rw [this, ← Nat.mul_mod, Nat.one_mul]
/-- what has the order's power one is a power -/
theorem Ord.log {p g o a : Nat} (hp : IsPr p) (h1 : 1 ≤ g) (h2 : g < p) (ho : Ord g p o) (ha2 : a < p) (h : Pow1 a p o) : ∃ r, r < o ∧ g ^ r % p = a := by
  refine Classical.byContradiction fun hne => ?_
  have hall : ∀ r, r < o → g ^ r % p ≠ a := fun r hr e => hne ⟨r, hr, e⟩
  have := roots_le hp ho.pos (l := a :: (List.range o).map fun r => g ^ r % p) (by
    rw [List.pairwise_cons]
    refine ⟨fun b hb => ?_, ?_⟩
    · obtain ⟨r, hr, rfl⟩ := List.mem_map.1 hb
      exact (hall r (List.mem_range.1 hr)).symm
    · rw [List.pairwise_map]
      refine List.Pairwise.imp_of_mem (fun {i j} hi hj hlt e => ?_) List.pairwise_lt_range
      have := ho.inj' hp h1 h2 (List.mem_range.1 hi) (List.mem_range.1 hj) e
      omega) (fun b hb => by
    rcases List.mem_cons.1 hb with rfl | hb
    · exact ⟨ha2, h⟩
    · obtain ⟨r, hr, rfl⟩ := List.mem_map.1 hb
      refine ⟨Nat.mod_lt _ (by omega), Pow1.modL.2 (Pow1.powL.2 ?_)⟩
      rw [Nat.mul_comm]
      exact ho.one.mul r)
  simp at this
  omega
theorem Ord.log' {p g o a r : Nat} (ho : Ord g p o) (h : g ^ r % p = a) : Pow1 a p o := by
  rw [← h]
  refine Pow1.modL.2 (Pow1.powL.2 ?_)
  rw [Nat.mul_comm]
  exact ho.one.mul r
/-- the giant steps meet the small ones -/
theorem meet {p g o a r W : Nat} (hp : IsPr p) (hW : p ≤ W * W) (ho : Ord g p o) (hop : o ≤ p - 1) (hr : r < o) (h : g ^ r % p = a) : ∃ k s, 1 ≤ k ∧ k ≤ W ∧ s < W ∧ a * g ^ s % p = g ^ (W * k) % p := by
  have hp2 := hp.1
  have hW1 : 1 ≤ W := by
    rcases Nat.eq_zero_or_pos W with rfl | h'
    · simp at hW; omega
    · exact h'
  obtain ⟨e, e1, e2, e3⟩ : ∃ e, 1 ≤ e ∧ e ≤ p - 1 ∧ g ^ e % p = a := by
    rcases Nat.eq_zero_or_pos r with rfl | h'
    · refine ⟨o, ho.pos, hop, ?_⟩
      have := ho.one
      unfold Pow1 at this
      rw [Nat.pow_zero] at h
      omega
    · exact ⟨r, h', by omega, h⟩
  have hk := Nat.div_add_mod (e + W - 1) W
  have hm := Nat.mod_lt (e + W - 1) (show W > 0 by omega)
  generalize hkk : (e + W - 1) / W = k at *
  have hkW : W * k ≤ e + W - 1 := by omega
  have hkW2 : e ≤ W * k := by omega
  refine ⟨k, W * k - e, ?_, ?_, by omega, ?_⟩
  · rcases Nat.eq_zero_or_pos k with rfl | h'
    · simp at hkW2; omega
    · exact h'
  · rcases Nat.lt_or_ge W k with h' | h'
    · have := Nat.mul_le_mul_left W h'
      rw [Nat.mul_succ] at this
      omega
    · exact h'
  · rw [← e3, Nat.mod_mul_mod, ← Nat.pow_add]
    congr 2
    omega
theorem unmeet {p g a k s W : Nat} (hp : IsPr p) (h1 : 1 ≤ g) (h2 : g < p) (ha : a < p) (hk : 1 ≤ k) (hs : s < W) (h : a * g ^ s % p = g ^ (W * k) % p) : s ≤ W * k ∧ g ^ (W * k - s) % p = a := by
  have hle : s ≤ W * k := by have := Nat.mul_le_mul_left W hk; omega
  refine ⟨hle, ?_⟩
  have e : g ^ (W * k) = g ^ s * g ^ (W * k - s) := by rw [← Nat.pow_add]; congr 1; omega
  rw [e, Nat.mul_comm a] at h
  have := cancel_mod (by have := hp.1; omega) (unit_pow hp h1 h2 s) h
  rw [Nat.mod_eq_of_lt ha] at this
  exact this.symm
end Go.AM.Num

set_option linter.unusedSectionVars false
set_option linter.unusedVariables false
set_option linter.unusedSimpArgs false
namespace Go.AM.Pr
attribute [local go_sem] gc subHeap reach_skip ren_free reach_new reach_newp reach_end rangeL roots boxCells nodupB posOf renL AV.ren pickO renH renO looks look bindEnv envOf reach_int reach_bool reach_nilS reach_rd putRow cells_sl cells_int cells_bool cells_nilS cells_rd cells_agg reach_agg reach_tup idFreeL idf_sl idf_ptr idf_int idf_bool idf_nilS idf_rd reach_fn reach_mp cells_fn cells_ptr cells_mp idf_mp idf_fn idf_agg idf_tup
open Go.AM.Num
/-! ### maps with whole-number keys -/
def mE (l : List (Int × AV)) : List (AV × AV) := l.map fun x => (.int .i64 x.1, x.2)
def putL (k : Int) (v : AV) : List (Int × AV) → List (Int × AV)
  | [] => [(k, v)]
  | x :: r => if k = x.1 then (k, v) :: r else x :: putL k v r
def findL (k : Int) : List (Int × AV) → Option AV
  | [] => none
  | x :: r => if k = x.1 then some x.2 else findL k r
theorem putM_mE (k : Int) (v : AV) : ∀ l, putM [some .i64] (.int .i64 k) v (mE l) = some (mE (putL k v l))
  | [] => rfl
  | x :: r => by
    simp only [mE, List.map_cons, putM, keyEq, and_self, if_true, Option.bind_some, putL]
    by_cases h : k = x.1
    · simp [h]
    · have := putM_mE k v r
      unfold mE at this
      simp [h, this]
theorem findM_mE (k : Int) : ∀ l, findM [some .i64] (.int .i64 k) (mE l) = some (findL k l)
  | [] => rfl
  | x :: r => by
    simp only [mE, List.map_cons, findM, keyEq, and_self, if_true, Option.bind_some, findL]
    by_cases h : k = x.1
    · simp [h]
    · have := findM_mE k r
      unfold mE at this
      simp [h, this]
theorem findL_put (j k : Int) (v : AV) : ∀ l, findL j (putL k v l) = if j = k then some v else findL j l
  | [] => by simp [putL, findL]
  | x :: r => by
    simp only [putL]
    by_cases h : k = x.1
    · simp only [if_pos h, findL]
      by_cases e : j = k
      · simp [e]
      · rw [if_neg e, if_neg e, if_neg (by omega)]
    · simp only [if_neg h, findL, findL_put j k v r]
      by_cases e : j = x.1
      · rw [if_pos e, if_neg (by omega), if_pos e]
      · rw [if_neg e, if_neg e]
theorem e_mkM {call : CallF} {H : Heap} : evE call H .mkM [] = some (.mp H.length, H ++ [some (.map [])]) := rfl
theorem e_mkM0 {call : CallF} : evE call [] .mkM [] = some (.mp 0, [some (.map (mE []))]) := rfl
theorem e_upM {call : CallF} {H : Heap} {id : Nat} {l : List (Int × AV)} {k : Int} {v : AV} (h : H[id]? = some (some (.map (mE l)))) (hv : v.idFree = true) : evE call H (.upM [some .i64]) [.mp id, .int .i64 k, v] = some (.undef, H.set id (some (.map (mE (putL k v l))))) := by
  simp [evE, keyOk, hv, Heap.map?, h, putM_mE]
theorem e_lkMt {call : CallF} {H : Heap} {id : Nat} {l : List (Int × AV)} {k : Int} {z : AV} (h : H[id]? = some (some (.map (mE l)))) : evE call H (.lkM [some .i64] true z) [.mp id, .int .i64 k] = some (.tup [(findL k l).getD z, .bool (findL k l).isSome], H) := by
  simp [evE, keyOk, Heap.map?, h, findM_mE]
theorem e_lkMf {call : CallF} {H : Heap} {id : Nat} {l : List (Int × AV)} {k : Int} {z : AV} (h : H[id]? = some (some (.map (mE l)))) : evE call H (.lkM [some .i64] false z) [.mp id, .int .i64 k] = some ((findL k l).getD z, H) := by
  simp [evE, keyOk, Heap.map?, h, findM_mE]
/-- the small steps -/
def sm (g a p : Nat) : Nat → List (Int × AV)
  | 0 => []
  | k + 1 => putL ((a * g ^ k % p : Nat) : Int) (.int .i64 (k : Int)) (sm g a p k)
theorem sm_some {g a p : Nat} {y : Int} {v : AV} : ∀ {W : Nat}, findL y (sm g a p W) = some v → ∃ s : Nat, s < W ∧ v = .int .i64 (s : Int) ∧ ((a * g ^ s % p : Nat) : Int) = y
  | 0, h => by simp [sm, findL] at h
  | W + 1, h => by
    simp only [sm, findL_put] at h
    split at h
    · rename_i e
      cases h
      exact ⟨W, by omega, rfl, e.symm⟩
    · obtain ⟨s, h1, h2, h3⟩ := sm_some h
      exact ⟨s, by omega, h2, h3⟩
theorem sm_none {g a p : Nat} {y : Int} : ∀ {W : Nat}, findL y (sm g a p W) = none → ∀ s, s < W → ((a * g ^ s % p : Nat) : Int) ≠ y
  | 0, _, s, hs => by omega
  | W + 1, h, s, hs => by
    simp only [sm, findL_put] at h
    split at h
    · cases h
    · rename_i e
      rcases (by omega : s < W ∨ s = W) with h' | rfl
      · exact sm_none h s h'
      · exact fun e' => e e'.symm
theorem ordN_Ord {a m : Nat} (h1 : 1 ≤ m) (hg : Nat.gcd a m = 1) : Ord a m (ordN a m) := by
  obtain ⟨o1, o2, o3, o4⟩ := ordN_spec h1 hg
  exact ⟨o1, o2, o4⟩
theorem ordP_Ord {a p : Nat} (hp : IsPr p) (h1 : 1 ≤ a) (h2 : a < p) : Ord a p (ordP a p) := by
  obtain ⟨o1, o2, o3, o4⟩ := ordP_spec hp h1 h2
  exact ⟨o1, o2, o4⟩
theorem width_ex (p : Nat) (h1 : 1 ≤ p) : ∃ W, 1 ≤ W ∧ p ≤ W * W ∧ ∀ v, v < W → v * v < p := by
  have key : ∀ n, ∃ W, (p ≤ W * W ∨ n ≤ W) ∧ ∀ v, v < W → v * v < p := by
    intro n
    induction n with
    | zero => exact ⟨0, .inr (Nat.le_refl 0), fun v hv => by omega⟩
    | succ n ih =>
      obtain ⟨W, h, g⟩ := ih
      rcases h with h | h
      · exact ⟨W, .inl h, g⟩
      · by_cases hw : p ≤ W * W
        · exact ⟨W, .inl hw, g⟩
        · refine ⟨W + 1, .inr (by omega), fun v hv => ?_⟩
          rcases (by omega : v < W ∨ v = W) with h' | rfl
          · exact g v h'
          · omega
  obtain ⟨W, h, g⟩ := key (p + 1)
  have hW : p ≤ W * W := by
    rcases h with h | h
    · exact h
    · exact Nat.le_trans (show p ≤ W by omega) (Nat.le_mul_of_pos_right _ (by omega))
  refine ⟨W, ?_, hW, g⟩
  rcases Nat.eq_zero_or_pos W with rfl | h'
  · simp at hW; omega
  · exact h'
set_option maxHeartbeats 4000000
/-- what Log answers -/
def logR (g a p o : Nat) (r : Option Nat) : Prop := match r with
  | some r => r < o ∧ g ^ r % p = a
  | none => ∀ r, r < o → g ^ r % p ≠ a
def logV : Option Nat → List AV
  | some r => [.int .i64 (r : Int), .int .i64 0]
  | none => [.int .i64 0, .int .i64 6]
theorem f23 {g a p : Nat} (hp : IsPr p) (hp2 : p ≤ 2147483647) (g1 : 1 ≤ g) (g2 : g < p) (a1 : 1 ≤ a) (a2 : a < p) {r : Option Nat} (hr : logR g a p (ordN g p) r) {m : Nat} (hm : 47000 ≤ m) :
    evF tab it m 23 [.int .i64 (g : Int), .int .i64 (a : Int), .int .i64 (p : Int)] [] = some (.tup (logV r), []) := by
  obtain ⟨m, rfl⟩ : ∃ j, m = j + 1 := ⟨m - 1, by omega⟩
  have hpp := hp.1
  have hp0 : 0 < p := by omega
  have hcop : Nat.gcd g p = 1 := pr_cop_of_lt hp g1 g2
  have hO := ordN_Ord (by omega) hcop
  have hop : ordN g p ≤ p - 1 := by
    have h1 := hO.dvd (fermat1 hp g1 g2)
    exact Nat.le_of_dvd (by omega) h1
  have h48 := fun H => c48 (a := g) (M := p) (by omega) hp2 g2 (m := m) (by omega) H
  have hO1 := hO.pos
  generalize ordN g p = o at *
  obtain ⟨W, W1, W2, W3⟩ := width_ex p (by omega)
  have hWb : W ≤ 46342 := by
    rcases Nat.lt_or_ge 46342 W with h | h
    · have := W3 46342 h; omega
    · exact h
  have h44 := fun H => c44 (m := m) (by omega) (p : Int) H
  have hPN : IsPN (p : Int) := ⟨⟨by omega, by omega⟩, by simpa using hp⟩
  simp only [hPN, decide_true] at h44
  have h46 := fun {x y : Nat} (hx : x < p) (hy : y < p) H => c46 (a := x) (b := y) (n := p) hp0 (by have := mod_prod_lt hx hy hp2; omega) (m := m) (by omega) H
  have h47 := fun H => c47 (A := g) (E := W) hp0 hp2 g2 (by omega) (m := m) (by omega) H
  refine f_enter rfl rfl ?_
  generalize evF tab it m = call at *
  repeat' first
 | (apply s_mov; (focus ((conv => lhs; whnf); done)))
 | (apply s_gT; exact rfl)
 | (apply c_nil)
 | (apply s_pickF; exact rfl; (focus ((conv => lhs; whnf); done)))
 | (apply s_notT; exact rfl)
 | ((first | apply s_lss | apply s_leq | apply s_gtr | apply s_geq | apply s_eql | apply s_neq); exact rfl; all_goals (intro _; try (exfalso; omega)))
 | (apply s_cn; (focus (repeat (first | apply opds_nil | (apply opds_cons; (first | (focus ((conv => lhs; whnf); done)) | exact rfl))))); exact h44 _)
 | (apply c_seq)
 | (apply c_reg)
 | (apply c_block)
 | (apply c_skip)
 | (apply c_condF; exact rfl)
 | (with_reducible apply k_c)
  -- the width
  refine c_loop ?_
  refine loop_gc (σ := Nat) (fun w => [.int .i64 (g : Int), .int .i64 (a : Int), .int .i64 (p : Int), .int .i64 (w : Int)]) (fun _ => []) (fun w => 1 ≤ w ∧ w ≤ W) (fun w => W - w) ?_ _ 1 _ _ ⟨by omega, by omega⟩ (by omega) (gc_to rfl rfl)
  intro w ⟨w1, w2⟩ K hK
  have hww := sq_mono (show w ≤ 46342 by omega)
  by_cases hwW : w < W
  · have := W3 w hwW
    repeat' first
 | (apply s_mov; (focus ((conv => lhs; whnf); done)))
 | (apply c_nil)
 | ((first | apply s_lss | apply s_leq | apply s_gtr | apply s_geq | apply s_eql | apply s_neq); exact rfl; all_goals (intro _; try (exfalso; omega)))
 | ((first | apply s_add | apply s_sub); exact rfl; omega)
 | (apply s_mulN; exact rfl; omega)
 | (apply c_seq)
 | (apply c_reg)
 | (apply c_block)
 | (apply c_skip)
 | (apply c_condT; exact rfl)
 | (with_reducible apply k_c)
    exact hK (w + 1) _ _ ⟨by omega, by omega⟩ (by omega) (gc_to rfl rfl)
  · obtain rfl : w = W := by omega
    repeat' first
 | (apply s_mov; (focus ((conv => lhs; whnf); done)))
 | (apply c_nil)
 | ((first | apply s_lss | apply s_leq | apply s_gtr | apply s_geq | apply s_eql | apply s_neq); exact rfl; all_goals (intro _; try (exfalso; omega)))
 | (apply s_en; (focus (repeat (first | apply opds_nil | (apply opds_cons; (first | (focus ((conv => lhs; whnf); done)) | exact rfl))))); exact e_mkM0)
 | (apply s_mulN; exact rfl; omega)
 | (apply c_seq)
 | (apply c_reg)
 | (apply c_block)
 | (apply c_exitH)
 | (apply c_condF; exact rfl)
 | (apply c_preF; (focus (repeat (first | apply looks_nil | (apply looks_cons; (focus ((conv => lhs; whnf); done)))))); (focus (simp [idFreeL, AV.idFree, *]; done)))
 | (with_reducible apply k_c)
    -- the small steps
    refine c_loop ?_
    refine loop_gc (σ := Nat) (fun k => [.int .i64 (g : Int), .int .i64 (p : Int), .int .i64 (w : Int), .mp 0, .int .i64 ((a * g ^ k % p : Nat) : Int), .int .i64 (w : Int), .int .i64 (k : Int)]) (fun k => [some (.map (mE (sm g a p k)))]) (fun k => k ≤ w) (fun k => w - k) ?_ _ 0 _ _ (by omega) (by omega) (by rw [Nat.pow_zero, Nat.mul_one, Nat.mod_eq_of_lt a2]; simp [go_sem, sm])
    intro k hk K1 hK1
    have hxl : a * g ^ k % p < p := Nat.mod_lt _ hp0
    by_cases hkw : k < w
    · have e46 := h46 hxl g2 [some (.map (mE (sm g a p (k + 1))))]
      have hx2 : a * g ^ k % p * g % p = a * g ^ (k + 1) % p := by rw [Nat.mod_mul_mod, Nat.mul_assoc, ← Nat.pow_succ]
      rw [hx2] at e46
      have hup : ∀ call, evE call [some (.map (mE (sm g a p k)))] (.upM [some .i64]) [.mp 0, .int .i64 ((a * g ^ k % p : Nat) : Int), .int .i64 (k : Int)] = some (.undef, [some (.map (mE (sm g a p (k + 1))))]) := fun call => e_upM rfl rfl
      repeat' first
 | (apply s_mov; (focus ((conv => lhs; whnf); done)))
 | (apply c_nil)
 | ((first | apply s_lss | apply s_leq | apply s_gtr | apply s_geq | apply s_eql | apply s_neq); exact rfl; all_goals (intro _; try (exfalso; omega)))
 | (apply s_st; (focus (repeat (first | apply opds_nil | (apply opds_cons; (first | (focus ((conv => lhs; whnf); done)) | exact rfl))))); exact hup _)
 | (apply s_cn; (focus (repeat (first | apply opds_nil | (apply opds_cons; (first | (focus ((conv => lhs; whnf); done)) | exact rfl))))); exact e46)
 | ((first | apply s_add | apply s_sub); exact rfl; omega)
 | (apply c_seq)
 | (apply c_reg)
 | (apply c_block)
 | (apply c_skip)
 | (apply c_condT; exact rfl)
 | (with_reducible apply k_c)
      exact hK1 (k + 1) _ _ (by omega) (by omega) (by simp [go_sem])
    · obtain rfl : k = w := by omega
      repeat' first
 | (apply c_nil)
 | ((first | apply s_lss | apply s_leq | apply s_gtr | apply s_geq | apply s_eql | apply s_neq); exact rfl; all_goals (intro _; try (exfalso; omega)))
 | (apply c_seq)
 | (apply c_reg)
 | (apply c_exitH)
 | (apply c_condF; exact rfl)
 | (with_reducible apply k_c)
      try apply k_c
      apply c_pre (vs := [.int .i64 (g : Int), .int .i64 (p : Int), .int .i64 (k : Int), .mp 0]) (H' := [some (.map (mE (sm g a p k)))])
      · simp [go_sem]
      have hlk : ∀ (y : Nat) call, evE call [some (.map (mE (sm g a p k)))] (.lkM [some .i64] true (.int .i64 0)) [.mp 0, .int .i64 (y : Int)] = some (.tup [(findL (y : Int) (sm g a p k)).getD (.int .i64 0), .bool (findL (y : Int) (sm g a p k)).isSome], [some (.map (mE (sm g a p k)))]) := fun y call => e_lkMt rfl
      have hll : g ^ k % p < p := Nat.mod_lt _ hp0
      repeat' first
 | (apply s_mov; (focus ((conv => lhs; whnf); done)))
 | (apply c_nil)
 | (apply s_cn; (focus (repeat (first | apply opds_nil | (apply opds_cons; (first | (focus ((conv => lhs; whnf); done)) | exact rfl))))); exact h47 _)
 | (apply c_seq)
 | (apply c_reg)
 | (apply c_block)
 | (apply c_skip)
 | (with_reducible apply k_c)
      -- the giant steps
      refine c_loop ?_
      refine loop_gc (σ := Nat) (fun i => [.int .i64 (g : Int), .int .i64 (p : Int), .int .i64 (k : Int), .mp 0, .int .i64 ((g ^ k % p : Nat) : Int), .int .i64 ((g ^ (k * (i - 1)) % p : Nat) : Int), .int .i64 (-1), .int .i64 (i : Int)]) (fun _ => [some (.map (mE (sm g a p k)))]) (fun i => 1 ≤ i ∧ i ≤ k + 1 ∧ ∀ j, 1 ≤ j → j < i → findL ((g ^ (k * j) % p : Nat) : Int) (sm g a p k) = none) (fun i => k + 1 - i) ?_ _ 1 _ _ ⟨by omega, by omega, fun j h1 h2 => by omega⟩ (by omega) (by
        have : g ^ (k * (1 - 1)) % p = 1 := by simp; exact Nat.mod_eq_of_lt hpp
        rw [this]; simp [go_sem])
      intro i ⟨i1, i2, i3⟩ K2 hK2
      by_cases hik : i ≤ k
      · have hy1 : g ^ (k * (i - 1)) % p * (g ^ k % p) % p = g ^ (k * i) % p := by
          rw [← Nat.mul_mod, ← Nat.pow_add]
          congr 2
          obtain ⟨j, rfl⟩ : ∃ j, i = j + 1 := ⟨i - 1, by omega⟩
          rw [Nat.add_sub_cancel, Nat.mul_succ]
        have e46 := h46 (x := g ^ (k * (i - 1)) % p) (Nat.mod_lt _ hp0) hll [some (.map (mE (sm g a p k)))]
        rw [hy1] at e46
        have hlk' := hlk (g ^ (k * i) % p)
        cases hfd : findL ((g ^ (k * i) % p : Nat) : Int) (sm g a p k) with
        | none =>
          rw [hfd] at hlk'
          simp only [Option.getD_none, Option.isSome_none] at hlk'
          repeat' first
 | (apply s_mov; (focus ((conv => lhs; whnf); done)))
 | (apply c_nil)
 | ((first | apply s_lss | apply s_leq | apply s_gtr | apply s_geq | apply s_eql | apply s_neq); exact rfl; all_goals (intro _; try (exfalso; omega)))
 | (apply s_cn; (focus (repeat (first | apply opds_nil | (apply opds_cons; (first | (focus ((conv => lhs; whnf); done)) | exact rfl))))); exact e46)
 | (apply s_en; (focus (repeat (first | apply opds_nil | (apply opds_cons; (first | (focus ((conv => lhs; whnf); done)) | exact rfl))))); exact hlk' _)
 | ((first | apply s_add | apply s_sub); exact rfl; omega)
 | (apply s_pd; (focus ((conv => lhs; whnf); done)))
 | (apply c_seq)
 | (apply c_reg)
 | (apply c_block)
 | (apply c_skip)
 | (apply c_condT; exact rfl)
 | (apply c_condF; exact rfl)
 | (with_reducible apply k_c)
          refine hK2 (i + 1) _ _ ⟨by omega, by omega, fun j h1 h2 => ?_⟩ (by omega) (by simp [go_sem])
          rcases (by omega : j < i ∨ j = i) with h | rfl
          · exact i3 j h1 h
          · exact hfd
        | some v =>
          obtain ⟨s, s1, rfl, s3⟩ := sm_some hfd
          rw [hfd] at hlk'
          simp only [Option.getD_some, Option.isSome_some] at hlk'
          have s3' : a * g ^ s % p = g ^ (k * i) % p := by exact_mod_cast s3
          obtain ⟨u1, u2⟩ := unmeet hp g1 g2 a2 i1 s1 s3'
          rw [Nat.mul_comm k i] at u1 u2
          have hki := Nat.mul_le_mul (show i ≤ 46342 by omega) (show k ≤ 46342 by omega)
          have hres : logV r = [.int .i64 (((i * k - s) % o : Nat) : Int), .int .i64 0] := by
            have hb : g ^ ((i * k - s) % o) % p = a := by rw [hO.mod, u2]
            have hlt := Nat.mod_lt (i * k - s) hO1
            cases r with
            | none => exact absurd hb (hr _ hlt)
            | some r =>
              obtain ⟨r1, r2⟩ := hr
              have := hO.inj' hp g1 g2 r1 hlt (by rw [r2, hb])
              rw [this]; rfl
          repeat' first
 | (apply s_mov; (focus ((conv => lhs; whnf); done)))
 | (apply c_nil)
 | ((first | apply s_lss | apply s_leq | apply s_gtr | apply s_geq | apply s_eql | apply s_neq); exact rfl; all_goals (intro _; try (exfalso; omega)))
 | (apply s_cn; (focus (repeat (first | apply opds_nil | (apply opds_cons; (first | (focus ((conv => lhs; whnf); done)) | exact rfl))))); exact e46)
 | (apply s_en; (focus (repeat (first | apply opds_nil | (apply opds_cons; (first | (focus ((conv => lhs; whnf); done)) | exact rfl))))); exact hlk' _)
 | (apply s_cn; (focus (repeat (first | apply opds_nil | (apply opds_cons; (first | (focus ((conv => lhs; whnf); done)) | exact rfl))))); exact h48 _)
 | (apply s_subN; exact rfl; omega; omega)
 | (apply s_mulN; exact rfl; omega)
 | (apply s_remN; exact rfl; omega)
 | (apply s_pd; (focus ((conv => lhs; whnf); done)))
 | (apply c_seq)
 | (apply c_reg)
 | (apply c_block)
 | (apply c_exitH)
 | (apply c_skip)
 | (apply c_ret)
 | (apply c_condT; exact rfl)
 | (apply c_condF; exact rfl)
 | (apply c_exitM; exact rfl)
 | (apply c_preF; (focus (repeat (first | apply looks_nil | (apply looks_cons; (focus ((conv => lhs; whnf); done)))))); (focus (simp [idFreeL, AV.idFree, *]; done)))
 | (with_reducible apply k_c)
          exact fin_tt (by (conv => lhs; whnf)) (by (conv => lhs; whnf)) (by rfl) (by rfl) (by rw [hres])
      · obtain rfl : i = k + 1 := by omega
        have hres : logV r = [.int .i64 0, .int .i64 6] := by
          cases r with
          | none => rfl
          | some r =>
            obtain ⟨r1, r2⟩ := hr
            obtain ⟨j, s, j1, j2, s1, s2⟩ := meet hp W2 hO hop r1 r2
            have h1 := i3 j j1 (by omega)
            exact absurd (by rw [s2] : ((a * g ^ s % p : Nat) : Int) = ((g ^ (k * j) % p : Nat) : Int)) (sm_none h1 s s1)
        repeat' first
 | (apply s_mov; (focus ((conv => lhs; whnf); done)))
 | (apply c_nil)
 | ((first | apply s_lss | apply s_leq | apply s_gtr | apply s_geq | apply s_eql | apply s_neq); exact rfl; all_goals (intro _; try (exfalso; omega)))
 | (apply c_seq)
 | (apply c_reg)
 | (apply c_exitH)
 | (apply c_ret)
 | (apply c_condT; exact rfl)
 | (apply c_condF; exact rfl)
 | (apply c_preF; (focus (repeat (first | apply looks_nil | (apply looks_cons; (focus ((conv => lhs; whnf); done)))))); (focus (simp [idFreeL, AV.idFree, *]; done)))
 | (with_reducible apply k_c)
        exact fin_tt (by (conv => lhs; whnf)) (by (conv => lhs; whnf)) (by rfl) (by rfl) (by rw [hres])
end Go.AM.Pr

set_option linter.unusedSectionVars false
set_option linter.unusedVariables false
set_option linter.unusedSimpArgs false
namespace Go.AM.Num
theorem pow1_cop {w p k : Nat} (hp : 2 ≤ p) (hk : 1 ≤ k) (h : Pow1 w p k) : Nat.Coprime w p := by
  unfold Pow1 at h
  rw [Nat.mod_eq_of_lt (show 1 < p by omega)] at h
  have hd : Nat.gcd w p ∣ 1 := by
    have h1 : Nat.gcd w p ∣ w ^ k := by
      obtain ⟨j, rfl⟩ : ∃ j, k = j + 1 := ⟨k - 1, by omega⟩
      exact Nat.dvd_trans (Nat.gcd_dvd_left w p) ⟨w ^ j, by rw [Nat.pow_succ, Nat.mul_comm]⟩
    have h2 := Nat.gcd_dvd_right w p
    have h3 : Nat.gcd w p ∣ w ^ k % p := (Nat.dvd_mod_iff h2).2 h1
    rwa [h] at h3
  exact Nat.eq_one_of_dvd_one hd
/-- Lucas' test -/
theorem lucas {w p : Nat} (hp : 2 ≤ p) (h : Ord w p (p - 1)) : IsPr p := by
  have hc : Nat.Coprime w p := pow1_cop hp h.pos h.one
  have he : Pow1 w p (units p).length := euler (by omega) hc
  have hd := h.dvd he
  have h0 : (0 : Nat) ∉ units p := fun hm => by
    have := (mem_units.1 hm).2
    rw [Nat.Coprime, Nat.gcd_zero_left] at this
    omega
  have hnd : (units p).Nodup := (List.nodup_range).filter _
  have h1 : 1 ∈ units p := mem_units.2 ⟨by omega, Nat.coprime_one_left p⟩
  have hlen : 1 ≤ (units p).length := List.length_pos_of_mem h1
  have hge := Nat.le_of_dvd hlen hd
  refine ⟨hp, fun d hdp => ?_⟩
  refine Classical.byContradiction fun hne => ?_
  have hd0 : d ≠ 0 := fun e => by subst e; obtain ⟨c, hc⟩ := hdp; omega
  have hdlt : d < p := by
    have := Nat.le_of_dvd (by omega) hdp
    rcases (by omega : d = p ∨ d < p) with e | e
    · exact absurd (.inr e) hne
    · exact e
  have hdn : d ∉ units p := fun hm => by
    have := (mem_units.1 hm).2
    rw [Nat.Coprime, Nat.gcd_eq_left hdp] at this
    exact hne (.inl this)
  -- too few numbers are left
  have hsub : (0 :: d :: units p).length ≤ (List.range p).length := by
    have hnd2 : (0 :: d :: units p).Nodup := by
      rw [List.nodup_cons, List.nodup_cons]
      exact ⟨by simp only [List.mem_cons, not_or]; exact ⟨fun e => hd0 e.symm, h0⟩, hdn, hnd⟩
    refine Classical.byContradiction fun hgt => ?_
    have := (perm_of_sub (l2 := List.range p) hnd2 (fun x hx => List.mem_range.2 ?_) (by omega)).length_eq
    · omega
    · rcases List.mem_cons.1 hx with rfl | hx
      · omega
      · rcases List.mem_cons.1 hx with rfl | hx
        · exact hdlt
        · exact (mem_units.1 hx).1
  simp at hsub
  omega
end Go.AM.Num

set_option linter.unusedSectionVars false
set_option linter.unusedVariables false
set_option linter.unusedSimpArgs false
namespace Go.AM.Pr
open Go.AM.Num
/-! ### proofs -/
structure En where
  p : Int
  w : Int
  fv : AV
  f : List Int
def pcE (l : List En) : List AV := l.flatMap fun e => [.int .i64 e.p, .int .i64 e.w, e.fv]
def GoodE (l : List En) : Prop := ∀ e ∈ l, IsL e.fv e.f
def IsP (v : AV) (l : List En) : Prop := GoodE l ∧ ((v = .nilS ∧ l = []) ∨ v = .rd 3 l.length (pcE l))
theorem pcE_len (l : List En) : (pcE l).length = l.length * 3 := by
  induction l with
  | nil => rfl
  | cons x l ih =>
    have : pcE (x :: l) = .int .i64 x.p :: .int .i64 x.w :: x.fv :: pcE l := rfl
    rw [this]
    simp only [List.length_cons, ih]
    omega
theorem pcE_app (l r : List En) : pcE (l ++ r) = pcE l ++ pcE r := by simp [pcE]
def ge (l : List En) (i : Nat) : En := l.getD i ⟨0, 0, .nilS, []⟩
theorem ge_lt {l : List En} {i : Nat} (h : i < l.length) : ge l i = l[i] := by simp [ge, List.getD, h]
theorem ge_mem {l : List En} {i : Nat} (h : i < l.length) : ge l i ∈ l := by rw [ge_lt h]; exact List.getElem_mem h
theorem pcE_at : ∀ {l : List En} {i : Nat} (h : i < l.length), ∃ r, (pcE l).drop (i * 3) = .int .i64 (ge l i).p :: .int .i64 (ge l i).w :: (ge l i).fv :: r
  | x :: l, 0, h => ⟨pcE l, rfl⟩
  | x :: l, i + 1, h => by
    obtain ⟨r, hr⟩ := pcE_at (l := l) (i := i) (by simpa using h)
    refine ⟨r, ?_⟩
    rw [show (i + 1) * 3 = i * 3 + 1 + 1 + 1 by omega]
    exact hr
theorem pcE_free {l : List En} (h : GoodE l) : idFreeL (pcE l) = true := by
  induction l with
  | nil => rfl
  | cons x l ih =>
    have : pcE (x :: l) = .int .i64 x.p :: .int .i64 x.w :: x.fv :: pcE l := rfl
    rw [this]
    simp [idFreeL, AV.idFree, (h x List.mem_cons_self).free, ih fun e he => h e (List.mem_cons_of_mem _ he)]
theorem IsP.free {v : AV} {l : List En} (h : IsP v l) : v.idFree = true := by
  obtain ⟨hg, ⟨rfl, rfl⟩ | rfl⟩ := h
  · rfl
  · rfl
theorem p_lenE {H : Heap} {v : AV} {l : List En} (h : IsP v l) : evP H .len [v] = some (.int .i64 ((l.length : Nat) : Int)) := by
  obtain ⟨hg, ⟨rfl, rfl⟩ | rfl⟩ := h <;> rfl
theorem p_idxE {H : Heap} {v : AV} {l : List En} (h : IsP v l) {i : Nat} (hi : i < l.length) : evP H (.idxA 3) [v, .int .i64 (i : Int)] = some (.rp ((pcE l).drop (i * 3))) := by
  obtain ⟨hg, ⟨rfl, rfl⟩ | rfl⟩ := h
  · simp at hi
  · simp only [evP, idxSl]
    rw [if_pos ⟨trivial, by omega, by omega⟩]
    simp
theorem p_ldE {H : Heap} {l : List En} {i : Nat} (hi : i < l.length) : evP H (.ld true 3) [.rp ((pcE l).drop (i * 3))] = some (.agg [.int .i64 (ge l i).p, .int .i64 (ge l i).w, (ge l i).fv]) := by
  obtain ⟨r, hr⟩ := pcE_at hi
  rw [hr]
  simp [evP, ldc, wholeOf]
theorem p_fldE0 {H : Heap} {c : List AV} : evP H (.fldA 0) [.rp c] = some (.rp c) := by simp [evP, fldAt]
theorem p_ldE0 {H : Heap} {l : List En} {i : Nat} (hi : i < l.length) : evP H (.ld false 1) [.rp ((pcE l).drop (i * 3))] = some (.int .i64 (ge l i).p) := by
  obtain ⟨r, hr⟩ := pcE_at hi
  rw [hr]
  simp [evP, ldc, wholeOf]
/-- what is asked of an entry behind others -/
def EOk (p w : Int) (f : List Int) (B : List Int) : Prop :=
  (p = 2 ∧ w = 1 ∧ f = []) ∨
  (p ≠ 2 ∧ 3 ≤ p ∧ p.tmod 2 ≠ 0 ∧ IsNum p ∧ 2 ≤ w ∧ w < p ∧
    (∀ k : Nat, k < f.length → getI f k ∈ B ∧ (0 < k → getI f ((k : Int) - 1) < getI f k) ∧ (getI f k).toNat ∣ (p - 1).toNat) ∧
    (∀ q, IsPr q → q ∣ (p - 1).toNat → ((q : Nat) : Int) ∈ f) ∧ Wit w.toNat p.toNat f)
noncomputable instance (p w : Int) (f B : List Int) : Decidable (EOk p w f B) := Classical.propDecidable _
/-- all are primes -/
def AllPr (B : List Int) : Prop := ∀ x ∈ B, 2 ≤ x ∧ IsPr x.toNat
theorem getI_mem {l : List Int} {k : Nat} (h : k < l.length) : getI l k ∈ l := by
  rw [getI_nat]
  simp [List.getD, h]
theorem mem_getI {l : List Int} {x : Int} (h : x ∈ l) : ∃ k : Nat, k < l.length ∧ getI l k = x := by
  obtain ⟨k, hk, e⟩ := List.getElem_of_mem h
  exact ⟨k, hk, by rw [getI_nat]; simp [List.getD, hk, e]⟩
theorem EOk.prime {p w : Int} {f B : List Int} (hB : AllPr B) (h : EOk p w f B) : 2 ≤ p ∧ IsPr p.toNat := by
  rcases h with ⟨rfl, _⟩ | ⟨h2, h3, h4, h5, h6, h7, h8, h9, h10⟩
  · refine ⟨by omega, by show 2 ≤ 2; omega, fun d hd => ?_⟩
    have := Nat.le_of_dvd (by decide) hd
    have e : (2 : Int).toNat = 2 := rfl
    rw [e] at *
    rcases (by omega : d = 0 ∨ d = 1 ∨ d = 2) with rfl | h | h
    · obtain ⟨c, hc⟩ := hd; omega
    · exact .inl h
    · exact .inr h
  · refine ⟨by omega, ?_⟩
    obtain ⟨P, rfl⟩ : ∃ P : Nat, p = P := ⟨p.toNat, by omega⟩
    obtain ⟨W, rfl⟩ : ∃ P : Nat, w = P := ⟨w.toNat, by omega⟩
    simp only [Int.toNat_natCast] at *
    have e1 : ((P : Int) - 1).toNat = P - 1 := by omega
    rw [e1] at h8 h9
    have h1p : 1 % P = 1 := Nat.mod_eq_of_lt (by omega)
    refine lucas (w := W) (by omega) ⟨?_, by omega, fun q hq hd ho => ?_⟩
    · have := h10.1
      unfold Pow1; omega
    · refine h10.2 ⟨_, h9 q hq hd, ?_⟩
      unfold Pow1 at ho
      unfold hit
      rw [Int.toNat_natCast]
      omega
def gE (p w : Int) (fv : AV) : Heap := [some (.box [.int .i64 p, .int .i64 w, fv])]
/-- the state of stripping: what is left has no prime of those seen, what is gone no other -/
def Left (f : List Int) (k N rest : Nat) : Prop := ∃ c, N = c * rest ∧ (∀ q, IsPr q → q ∣ c → ∃ j : Nat, j < k ∧ getI f j = (q : Int)) ∧ ∀ j : Nat, j < k → ¬ (getI f j).toNat ∣ rest
theorem Left.init (f : List Int) (N : Nat) : Left f 0 N N := ⟨1, by simp, fun q hq hd => by
  have := Nat.le_of_dvd (by omega) hd
  have := hq.1
  omega, fun j hj => by omega⟩
theorem Left.step {f : List Int} {k N q e r : Nat} (h : Left f k N (q ^ e * r)) (hq : IsPr q) (hk : getI f k = (q : Int)) (hr : ¬ q ∣ r) : Left f (k + 1) N r := by
  obtain ⟨c, h1, h2, h3⟩ := h
  refine ⟨c * q ^ e, by rw [h1, Nat.mul_assoc], fun p hp hd => ?_, fun j hj hd => ?_⟩
  · rcases pr_dvd_mul hp hd with h | h
    · obtain ⟨j, j1, j2⟩ := h2 p hp h
      exact ⟨j, by omega, j2⟩
    · have := pr_dvd_pr hp hq (pr_dvd_pow hp h)
      exact ⟨k, by omega, by rw [hk, this]⟩
  · rcases (by omega : j < k ∨ j = k) with h | rfl
    · exact h3 j h (Nat.dvd_trans hd ⟨q ^ e, Nat.mul_comm _ _⟩)
    · rw [hk] at hd
      exact hr hd
theorem Left.dvd {f : List Int} {k N rest q : Nat} (h : Left f k N rest) (hq : IsPr q) (hn : ∀ j : Nat, j < k → getI f j ≠ (q : Int)) : q ∣ rest ↔ q ∣ N := by
  obtain ⟨c, h1, h2, h3⟩ := h
  constructor
  · intro hd; rw [h1]; exact Nat.dvd_trans hd ⟨c, Nat.mul_comm _ _⟩
  · intro hd
    rw [h1] at hd
    rcases pr_dvd_mul hq hd with h | h
    · obtain ⟨j, j1, j2⟩ := h2 q hq h
      exact absurd j2 (hn j j1)
    · exact h
theorem Left.done {f : List Int} {N rest : Nat} (hN : 1 ≤ N) (h : Left f f.length N rest) : rest = 1 ↔ ∀ q, IsPr q → q ∣ N → ((q : Nat) : Int) ∈ f := by
  obtain ⟨c, h1, h2, h3⟩ := h
  constructor
  · rintro rfl q hq hd
    rw [h1, Nat.mul_one] at hd
    obtain ⟨j, j1, j2⟩ := h2 q hq hd
    rw [← j2]
    exact getI_mem j1
  · intro h
    refine Classical.byContradiction fun hne => ?_
    have hpos : 1 < rest := by
      rcases (by omega : rest = 0 ∨ rest = 1 ∨ 1 < rest) with rfl | e | e
      · simp at h1; omega
      · exact absurd e hne
      · exact e
    obtain ⟨q, hq, hd⟩ := pr_ex hpos
    obtain ⟨k, k1, k2⟩ := mem_getI (h q hq (by rw [h1]; exact Nat.dvd_trans hd ⟨c, Nat.mul_comm _ _⟩))
    refine h3 k k1 ?_
    rw [k2]
    exact hd
theorem Left.pos {f : List Int} {k N rest : Nat} (hN : 1 ≤ N) (h : Left f k N rest) : 1 ≤ rest ∧ rest ≤ N := by
  obtain ⟨c, h1, _⟩ := h
  rcases Nat.eq_zero_or_pos rest with rfl | e
  · simp at h1; omega
  · refine ⟨e, ?_⟩
    rcases Nat.eq_zero_or_pos c with rfl | e'
    · simp at h1; omega
    · rw [h1]; exact Nat.le_mul_of_pos_left _ e'
/-- a power taken out -/
theorem take_out {q n : Nat} (hq : 2 ≤ q) (hn : 1 ≤ n) : ∃ e r, n = q ^ e * r ∧ ¬ q ∣ r := by
  obtain ⟨g1, g2, g3, g4⟩ := strip_spec hq n n hn (Nat.le_refl _)
  exact ⟨_, _, g1, fun h => g2 (Nat.mod_eq_zero_of_dvd h)⟩
end Go.AM.Pr
