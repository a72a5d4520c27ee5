/- A part of the proof: S30. -/
import Derived.Test.YtbjkmejlecoebaaS29
import Derived.Test.YtbjkmejlecoebaaS27
set_option linter.unusedSectionVars false
set_option linter.unusedVariables false
set_option linter.unusedSimpArgs false
namespace Go.AM.Pr
open Go.AM.Num
theorem pr_100003 : IsPr 100003 := by
  refine rough_pr (q := 317) (fun d h1 hd => ?_) (by omega) (by omega)
  refine Classical.byContradiction fun hlt => ?_
  have hall : ((List.range 317).all fun d => decide (d ≤ 1) || decide (100003 % d ≠ 0)) = true := by decide +kernel
  rw [List.all_eq_true] at hall
  have := hall d (List.mem_range.2 (by omega))
  simp only [Bool.or_eq_true, decide_eq_true_eq] at this
  rcases this with h | h
  · omega
  · exact h (Nat.mod_eq_zero_of_dvd hd)
theorem next_pr {n : Nat} (h1 : n ≤ 100003) : ∃ P, n ≤ P ∧ P ≤ 100003 ∧ IsPr P ∧ ∀ k, n ≤ k → k < P → ¬ IsPr k := by
  have key : ∀ d n, 100003 - n = d → n ≤ 100003 → ∃ P, n ≤ P ∧ P ≤ 100003 ∧ IsPr P ∧ ∀ k, n ≤ k → k < P → ¬ IsPr k := by
    intro d
    induction d with
    | zero => intro n e h; obtain rfl : n = 100003 := by omega
              exact ⟨100003, Nat.le_refl _, Nat.le_refl _, pr_100003, fun k h1 h2 => by omega⟩
    | succ d ih =>
      intro n e h
      by_cases hn : IsPr n
      · exact ⟨n, Nat.le_refl _, h, hn, fun k h1 h2 => by omega⟩
      · obtain ⟨P, p1, p2, p3, p4⟩ := ih (n + 1) (by omega) (by omega)
        refine ⟨P, by omega, p2, p3, fun k h1 h2 => ?_⟩
        rcases (by omega : k = n ∨ n + 1 ≤ k) with rfl | h'
        · exact hn
        · exact p4 k h' h2
  exact key _ n rfl h1
theorem root_two {p r a : Nat} (hp : IsPr p) (hr : r < p) (ha1 : 1 ≤ a) (ha : a < p) (h : r * r % p = a * a % p) : r = a ∨ r = p - a := by
  have hd : (p : Int) ∣ ((r : Int) - a) * ((r : Int) + a) := by
    have e : ((r * r : Nat) : Int) % (p : Int) = ((a * a : Nat) : Int) % (p : Int) := by exact_mod_cast h
    have := Int.dvd_of_emod_eq_zero (Int.emod_eq_emod_iff_emod_sub_eq_zero.1 e)
    push_cast at this
    have e2 : ((r : Int) - a) * ((r : Int) + a) = (r : Int) * r - (a : Int) * a := by
      rw [Int.sub_mul, Int.mul_add, Int.mul_add, Int.mul_comm (a : Int) (r : Int)]; omega
    rw [e2]; exact this
  rcases int_pr hp hd with ⟨c, hc⟩ | ⟨c, hc⟩
  · left
    rcases Int.lt_trichotomy c 0 with h | h | h
    · have : (p : Int) * c ≤ (p : Int) * (-1) := Int.mul_le_mul_of_nonneg_left (by omega) (by omega)
      omega
    · subst h; simp at hc; omega
    · have : (p : Int) * 1 ≤ (p : Int) * c := Int.mul_le_mul_of_nonneg_left (by omega) (by omega)
      omega
  · right
    rcases (by omega : c ≤ 0 ∨ c = 1 ∨ 2 ≤ c) with h | h | h
    · have : (p : Int) * c ≤ (p : Int) * 0 := Int.mul_le_mul_of_nonneg_left h (by omega)
      omega
    · subst h; omega
    · have : (p : Int) * 2 ≤ (p : Int) * c := Int.mul_le_mul_of_nonneg_left h (by omega)
      omega
theorem inv_mod {a p : Nat} (hp : 2 ≤ p) (hg : Nat.gcd a p = 1) : ∃ v : Nat, invOf a p = (v : Int) ∧ v < p ∧ v * a % p = 1 := by
  obtain ⟨i1, i2, i3⟩ := invOf_spec (a := a) (n := p) (by omega) hg
  obtain ⟨v, hv⟩ : ∃ v : Nat, invOf a p = (v : Int) := ⟨(invOf a p).toNat, by omega⟩
  rw [hv] at i2 i3
  refine ⟨v, hv, by omega, ?_⟩
  have e : ((v * a : Nat) : Int) % (p : Int) = ((1 : Nat) : Int) % (p : Int) := Int.emod_eq_emod_iff_emod_sub_eq_zero.2 (Int.emod_eq_zero_of_dvd (by push_cast; exact i3))
  have e2 : v * a % p = 1 % p := by exact_mod_cast e
  rw [e2, Nat.mod_eq_of_lt hp]
theorem IsPN_nat {n : Nat} : IsPN (n : Int) ↔ IsPr n ∧ n ≤ 2147483647 := by
  unfold IsPN IsNum
  rw [Int.toNat_natCast]
  constructor
  · rintro ⟨⟨h1, h2⟩, h3⟩; exact ⟨h3, by omega⟩
  · rintro ⟨h1, h2⟩; have := h1.1; exact ⟨⟨by omega, by omega⟩, h1⟩
set_option maxHeartbeats 4000000
theorem f12 {p0 a0 b0 : Int} : ∃ m H', evF tab it m 12 [.int .i64 p0, .int .i64 a0, .int .i64 b0] [] = some (.bool true, H') := by
  refine ⟨200001, [], ?_⟩
  have h18 := fun H => awakeM (m := 200000) (by omega) H
  have h21 := fun p H => c21 (m := 200000) (by omega) p H
  have h28 := fun H => c28 (x := p0) (n := 100000) (by omega) (by omega) (m := 200000) (by omega) H
  have hn0 := numN_le (x := p0) (most := 100000) (by omega)
  generalize numN p0 100000 = n0 at *
  obtain ⟨P, P1, P2, hP, P4⟩ := next_pr (n := n0) (by omega)
  have hpp := hP.1
  have h29a := fun H => c29 (x := a0) (n := P - 1) (by omega) (by omega) (m := 200000) (by omega) H
  have h29b := fun H => c29 (x := b0) (n := P - 1) (by omega) (by omega) (m := 200000) (by omega) H
  have hal : modN a0 (P - 1) < P - 1 := Nat.mod_lt _ (by omega)
  have hbl : modN b0 (P - 1) < P - 1 := Nat.mod_lt _ (by omega)
  generalize modN a0 (P - 1) = am at *
  generalize modN b0 (P - 1) = bm at *
  obtain ⟨A, hA⟩ : ∃ A, A = 1 + am := ⟨_, rfl⟩
  obtain ⟨B, hB⟩ : ∃ B, B = 1 + bm := ⟨_, rfl⟩
  obtain ⟨G, hG⟩ := least_wit hP
  have h32 := fun H => c32 hP (by omega) hG (m := 200000) (by omega) H
  obtain ⟨G1, G2, G3, G4⟩ := hG
  have hGo : ordN G P = P - 1 := by rw [← ordP_N hP G1 G2]; exact (ordP_wit hP G1 G2).2 G3
  have hO := ordN_Ord (a := G) (m := P) (by omega) (pr_cop_of_lt hP G1 G2)
  rw [hGo] at hO
  have hAB := Nat.mul_le_mul (show A ≤ 100003 by omega) (show B ≤ 100003 by omega)
  have hAA := Nat.mul_le_mul (show A ≤ 100003 by omega) (show A ≤ 100003 by omega)
  have hABl : A * B % P < P := Nat.mod_lt _ (by omega)
  have hAB1 : 1 ≤ A * B % P := by
    rcases Nat.eq_zero_or_pos (A * B % P) with h | h
    · rcases pr_dvd_mul hP (Nat.dvd_of_mod_eq_zero h) with h' | h'
      · have := Nat.le_of_dvd (by omega) h'; omega
      · have := Nat.le_of_dvd (by omega) h'; omega
    · exact h
  have hlog : ∀ a, 1 ≤ a → a < P → ∃ r, r < P - 1 ∧ G ^ r % P = a ∧ ∀ H, callPure (evF tab it 200000) true 23 [.int .i64 (G : Int), .int .i64 (a : Int), .int .i64 (P : Int)] H = some (.tup [.int .i64 (r : Int), .int .i64 0], H) := fun a a1 a2 => by
    obtain ⟨r, r1, r2⟩ := hO.log hP G1 G2 a2 (fermat1 hP a1 a2)
    exact ⟨r, r1, r2, fun H => callPure_free rfl (by simp) (f23 hP (by omega) G1 G2 a1 a2 (r := some r) (by rw [hGo]; exact ⟨r1, r2⟩) (by omega)) rfl⟩
  obtain ⟨x, x1, x2, x3⟩ := hlog A (by omega) (by omega)
  obtain ⟨y, y1, y2, y3⟩ := hlog B (by omega) (by omega)
  obtain ⟨z, z1, z2, z3⟩ := hlog (A * B % P) hAB1 hABl
  have hxyz : (x + y) % (P - 1) = z := by
    refine hO.inj' hP G1 G2 (Nat.mod_lt _ (by omega)) z1 ?_
    rw [hO.mod, z2, Nat.pow_add, Nat.mul_mod, x2, y2]
  have hrest : IsRest (A : Int) (P : Int) := ⟨⟨by omega, by omega⟩, by omega, by omega⟩
  have h33 := fun {E : Nat} (hE : E ≤ 2147483647) H => c33 (A := A) (E := E) (N := P) hrest (by omega) (m := 200000) (by omega) H
  have u3 := h33 (E := B) (by omega)
  have v3 := h33 (E := y) (by omega)
  have w3 := h33 (E := B + y) (by omega)
  have huvw : A ^ B % P * (A ^ y % P) % P = A ^ (B + y) % P := by rw [← Nat.mul_mod, ← Nat.pow_add]
  have hul : A ^ B % P < P := Nat.mod_lt _ (by omega)
  have hvl : A ^ y % P < P := Nat.mod_lt _ (by omega)
  have huv := Nat.mul_le_mul (show A ^ B % P ≤ 100003 by omega) (show A ^ y % P ≤ 100003 by omega)
  generalize A ^ B % P = u at *
  generalize A ^ y % P = v at *
  generalize A ^ (B + y) % P = w at *
  have hgA : Nat.gcd A P = 1 := pr_cop_of_lt hP (by omega) (by omega)
  have h35 := fun H => c35 (a := (A : Int)) (n := (P : Int)) (m := 200000) (by omega) H
  have h34 := fun H => c34 (m := 200000) (by omega) (A : Int) (P : Int) H
  unfold ordR at h35
  simp only [if_pos hrest, Int.toNat_natCast, if_pos hgA] at h35 h34
  have hOA := ordN_Ord (a := A) (m := P) (by omega) hgA
  have hod := hOA.dvd (fermat1 hP (by omega) (by omega))
  have ho1 := hOA.pos
  generalize ordN A P = o at *
  have hod0 := Nat.mod_eq_zero_of_dvd hod
  have hole := Nat.le_of_dvd (by omega) hod
  obtain ⟨iv, i1, i2, i3⟩ := inv_mod (a := A) (p := P) hpp hgA
  rw [i1] at h34
  have hiA := Nat.mul_le_mul (show iv ≤ 100003 by omega) (show A ≤ 100003 by omega)
  have hAAl : A * A % P < P := Nat.mod_lt _ (by omega)
  obtain ⟨r, ⟨r1, r2, r3⟩, r4⟩ := f20 hP (by omega) hAAl (by
    rintro ⟨q1, q2, q3⟩
    refine q3 ?_
    have hodd : (P - 1) / 2 + (P - 1) / 2 = P - 1 := by
      rcases Nat.mod_two_eq_zero_or_one P with h | h
      · have := pr_dvd_pr (p := 2) ⟨by omega, fun d hd => by
          have := Nat.le_of_dvd (by omega) hd
          rcases (by omega : d = 0 ∨ d = 1 ∨ d = 2) with rfl | h' | h'
          · obtain ⟨c, hc⟩ := hd; omega
          · exact .inl h'
          · exact .inr h'⟩ hP (Nat.dvd_of_mod_eq_zero h)
        omega
      · omega
    rw [← Nat.pow_mod, ← Nat.pow_two, ← Nat.pow_mul, show 2 * ((P - 1) / 2) = P - 1 by omega]
    have := fermat1 hP (a := A) (by omega) (by omega)
    unfold Pow1 at this
    rw [this, Nat.mod_eq_of_lt hpp]) (m := 200000) (by omega)
  have e20 : ∀ H, callPure (evF tab it 200000) true 20 [.int .i64 ((A * A % P : Nat) : Int), .int .i64 (P : Int)] H = some (.tup [.int .i64 (r : Int), .int .i64 0], H) := fun H => callPure_free rfl (by simp) r4 rfl
  have hroot := root_two hP r2 (by omega) (show A < P by omega) r1
  have hA1 : ((A : Nat) : Int) = 1 + (am : Int) := by omega
  have hB1 : ((B : Nat) : Int) = 1 + (bm : Int) := by omega
  refine f_enter rfl rfl ?_
  generalize evF tab it 200000 = call at *
  repeat' first
 | (apply s_mov; (focus ((conv => lhs; whnf); done)))
 | (apply s_gT; exact rfl)
 | (apply s_gF; exact rfl)
 | (apply s_gFD; exact rfl)
 | (apply s_gFE; exact rfl)
 | apply c_nil
 | (apply s_pickT; exact rfl; (focus ((conv => lhs; whnf); done)))
 | (apply s_pickF; exact rfl; (focus ((conv => lhs; whnf); done)))
 | (apply s_notT; exact rfl)
 | (apply s_notF; exact rfl)
 | ((first | apply s_lss | apply s_leq | apply s_gtr | apply s_geq | apply s_eql | apply s_neq); exact rfl; all_goals (intro _; try (exfalso; omega)))
 | (apply s_cn; (focus (repeat (first | apply opds_nil | (apply opds_cons; (first | (focus ((conv => lhs; whnf); done)) | exact rfl))))); exact h28 _)
 | ((first | apply s_add | apply s_sub); exact rfl; omega)
 | (apply s_mulN; exact rfl; omega)
 | (apply s_quoN; exact rfl; omega; omega)
 | (apply s_remN; exact rfl; omega)
 | (apply s_and1; exact rfl; omega)
 | (apply s_shr1; exact rfl)
 | (apply s_len; (focus ((conv => lhs; whnf); done)); (first | assumption | (apply IsLL.at; assumption; omega)))
 | (apply s_lenLL; (focus ((conv => lhs; whnf); done)); assumption)
 | (apply s_lenRd; exact rfl)
 | (apply s_lenSl; exact rfl)
 | (apply s_idx; (focus ((conv => lhs; whnf); done)); exact rfl; (first | assumption | (apply IsLL.at; assumption; omega)); omega)
 | (apply s_idxLL; (focus ((conv => lhs; whnf); done)); exact rfl; assumption; omega)
 | (apply s_idxP; exact rfl; exact rfl; omega)
 | (apply s_ldB; exact rfl; exact rfl; omega; all_goals intro _)
 | (apply s_ldRB; exact rfl; omega; all_goals intro _)
 | (apply s_idxRB; exact rfl; exact rfl; omega)
 | (apply s_idxS; exact rfl; exact rfl; omega)
 | (apply s_slcT; exact rfl; exact rfl; omega)
 | (apply s_slcF; exact rfl; exact rfl; omega)
 | (apply s_mx; exact rfl; exact rfl)
 | (apply s_rem2; exact rfl)
 | (apply s_ldI; exact rfl; omega)
 | (apply s_ldLL; exact rfl; assumption; omega)
 | (apply s_pd; (focus ((conv => lhs; whnf); done)))
 | apply c_seq
 | apply c_reg
 | apply c_block
 | apply c_exitH
 | apply c_skip
 | apply c_ret
 | (apply c_condT; exact rfl)
 | (apply c_condF; exact rfl)
 | (apply c_exitM; exact rfl)
 | (apply c_preF; (focus (repeat (first | apply looks_nil | (apply looks_cons; (focus ((conv => lhs; whnf); done)))))); (focus (simp [idFreeL, AV.idFree, *]; done)))
 | (with_reducible apply k_c)
  refine c_loop ?_
  refine loop_gc (σ := Nat) (fun k => [.int .i64 (k : Int), .int .i64 a0, .int .i64 b0]) (fun _ => []) (fun k => n0 ≤ k ∧ k ≤ P) (fun k => P - k) ?_ _ n0 _ _ ⟨by omega, by omega⟩ (by omega) (gc_to rfl rfl)
  intro k ⟨k1, k2⟩ K hK
  by_cases hkP : k < P
  · have hn : ¬ IsPN (k : Int) := fun h => P4 k k1 hkP (IsPN_nat.1 h).1
    have e21 := h21 (k : Int)
    simp only [hn, decide_false] at e21
    repeat' first
 | (apply s_mov; (focus ((conv => lhs; whnf); done)))
 | (apply s_gT; exact rfl)
 | (apply s_gF; exact rfl)
 | (apply s_gFD; exact rfl)
 | (apply s_gFE; exact rfl)
 | apply c_nil
 | (apply s_pickT; exact rfl; (focus ((conv => lhs; whnf); done)))
 | (apply s_pickF; exact rfl; (focus ((conv => lhs; whnf); done)))
 | (apply s_notT; exact rfl)
 | (apply s_notF; exact rfl)
 | ((first | apply s_lss | apply s_leq | apply s_gtr | apply s_geq | apply s_eql | apply s_neq); exact rfl; all_goals (intro _; try (exfalso; omega)))
 | ((first | apply s_add | apply s_sub); exact rfl; omega)
 | (apply s_cn; (focus (repeat (first | apply opds_nil | (apply opds_cons; (first | (focus ((conv => lhs; whnf); done)) | exact rfl))))); exact e21 _)
 | (apply s_len; (focus ((conv => lhs; whnf); done)); (first | assumption | (apply IsLL.at; assumption; omega)))
 | (apply s_lenLL; (focus ((conv => lhs; whnf); done)); assumption)
 | (apply s_lenRd; exact rfl)
 | (apply s_lenSl; exact rfl)
 | (apply s_idx; (focus ((conv => lhs; whnf); done)); exact rfl; (first | assumption | (apply IsLL.at; assumption; omega)); omega)
 | (apply s_idxLL; (focus ((conv => lhs; whnf); done)); exact rfl; assumption; omega)
 | (apply s_idxP; exact rfl; exact rfl; omega)
 | (apply s_ldB; exact rfl; exact rfl; omega; all_goals intro _)
 | (apply s_ldRB; exact rfl; omega; all_goals intro _)
 | (apply s_idxRB; exact rfl; exact rfl; omega)
 | (apply s_idxS; exact rfl; exact rfl; omega)
 | (apply s_slcT; exact rfl; exact rfl; omega)
 | (apply s_slcF; exact rfl; exact rfl; omega)
 | (apply s_mx; exact rfl; exact rfl)
 | (apply s_rem2; exact rfl)
 | (apply s_ldI; exact rfl; omega)
 | (apply s_ldLL; exact rfl; assumption; omega)
 | (apply s_pd; (focus ((conv => lhs; whnf); done)))
 | apply c_seq
 | apply c_reg
 | apply c_block
 | apply c_exitH
 | apply c_skip
 | apply c_ret
 | (apply c_condT; exact rfl)
 | (apply c_condF; exact rfl)
 | (apply c_exitM; exact rfl)
 | (apply c_preF; (focus (repeat (first | apply looks_nil | (apply looks_cons; (focus ((conv => lhs; whnf); done)))))); (focus (simp [idFreeL, AV.idFree, *]; done)))
 | (with_reducible apply k_c)
    exact hK (k + 1) _ _ ⟨by omega, by omega⟩ (by omega) (gc_to rfl rfl)
  · obtain rfl : k = P := by omega
    have hn : IsPN (k : Int) := IsPN_nat.2 ⟨hP, by omega⟩
    have e21 := h21 (k : Int)
    simp only [hn, decide_true] at e21
    have pa : ∀ H, evP H (.bin .add) [.int .i64 1, .int .i64 (am : Int)] = some (.int .i64 (A : Int)) := fun H => by
      rw [hA1]; simp only [evP, binV, isShift, binInt, Bool.false_eq_true, if_false, if_true]; rw [wrapI (by omega)]
    have pb : ∀ H, evP H (.bin .add) [.int .i64 1, .int .i64 (bm : Int)] = some (.int .i64 (B : Int)) := fun H => by
      rw [hB1]; simp only [evP, binV, isShift, binInt, Bool.false_eq_true, if_false, if_true]; rw [wrapI (by omega)]
    repeat' first
 | (apply s_mov; (focus ((conv => lhs; whnf); done)))
 | (apply s_gT; exact rfl)
 | (apply s_gF; exact rfl)
 | (apply s_gFD; exact rfl)
 | (apply s_gFE; exact rfl)
 | apply c_nil
 | (apply s_pickT; exact rfl; (focus ((conv => lhs; whnf); done)))
 | (apply s_pickF; exact rfl; (focus ((conv => lhs; whnf); done)))
 | (apply s_notT; exact rfl)
 | (apply s_notF; exact rfl)
 | ((first | apply s_lss | apply s_leq | apply s_gtr | apply s_geq | apply s_eql | apply s_neq); exact rfl; all_goals (intro _; try (exfalso; omega)))
 | (apply s_cn; (focus (repeat (first | apply opds_nil | (apply opds_cons; (first | (focus ((conv => lhs; whnf); done)) | exact rfl))))); exact e21 _)
 | (apply s_subN (b := 1); exact rfl; omega; omega)
 | (apply s_subN; exact rfl; omega; omega)
 | (apply s_cn; (focus (repeat (first | apply opds_nil | (apply opds_cons; (first | (focus ((conv => lhs; whnf); done)) | exact rfl))))); exact h29a _)
 | (apply s_cn; (focus (repeat (first | apply opds_nil | (apply opds_cons; (first | (focus ((conv => lhs; whnf); done)) | exact rfl))))); exact h29b _)
 | (apply s_pn; (focus (repeat (first | apply opds_nil | (apply opds_cons; (first | (focus ((conv => lhs; whnf); done)) | exact rfl))))); exact pa _)
 | (apply s_pn; (focus (repeat (first | apply opds_nil | (apply opds_cons; (first | (focus ((conv => lhs; whnf); done)) | exact rfl))))); exact pb _)
 | (apply s_addN; exact rfl; omega)
 | (apply s_cn; (focus (repeat (first | apply opds_nil | (apply opds_cons; (first | (focus ((conv => lhs; whnf); done)) | exact rfl))))); exact h32 _)
 | (apply s_cn; (focus (repeat (first | apply opds_nil | (apply opds_cons; (first | (focus ((conv => lhs; whnf); done)) | exact rfl))))); exact x3 _)
 | (apply s_cn; (focus (repeat (first | apply opds_nil | (apply opds_cons; (first | (focus ((conv => lhs; whnf); done)) | exact rfl))))); exact y3 _)
 | (apply s_cn; (focus (repeat (first | apply opds_nil | (apply opds_cons; (first | (focus ((conv => lhs; whnf); done)) | exact rfl))))); exact z3 _)
 | (apply s_cn; (focus (repeat (first | apply opds_nil | (apply opds_cons; (first | (focus ((conv => lhs; whnf); done)) | exact rfl))))); exact u3 _)
 | (apply s_cn; (focus (repeat (first | apply opds_nil | (apply opds_cons; (first | (focus ((conv => lhs; whnf); done)) | exact rfl))))); exact v3 _)
 | (apply s_cn; (focus (repeat (first | apply opds_nil | (apply opds_cons; (first | (focus ((conv => lhs; whnf); done)) | exact rfl))))); exact w3 _)
 | (apply s_cn; (focus (repeat (first | apply opds_nil | (apply opds_cons; (first | (focus ((conv => lhs; whnf); done)) | exact rfl))))); exact h35 _)
 | (apply s_cn; (focus (repeat (first | apply opds_nil | (apply opds_cons; (first | (focus ((conv => lhs; whnf); done)) | exact rfl))))); exact h34 _)
 | (apply s_cn; (focus (repeat (first | apply opds_nil | (apply opds_cons; (first | (focus ((conv => lhs; whnf); done)) | exact rfl))))); exact e20 _)
 | (apply s_cn; (focus (repeat (first | apply opds_nil | (apply opds_cons; (first | (focus ((conv => lhs; whnf); done)) | exact rfl))))); exact h18 _)
 | ((first | apply s_add | apply s_sub); exact rfl; omega)
 | (apply s_mulN; exact rfl; omega)
 | (apply s_quoN; exact rfl; omega; omega)
 | (apply s_remN; exact rfl; omega)
 | (apply s_and1; exact rfl; omega)
 | (apply s_shr1; exact rfl)
 | (apply s_len; (focus ((conv => lhs; whnf); done)); (first | assumption | (apply IsLL.at; assumption; omega)))
 | (apply s_lenLL; (focus ((conv => lhs; whnf); done)); assumption)
 | (apply s_lenRd; exact rfl)
 | (apply s_lenSl; exact rfl)
 | (apply s_idx; (focus ((conv => lhs; whnf); done)); exact rfl; (first | assumption | (apply IsLL.at; assumption; omega)); omega)
 | (apply s_idxLL; (focus ((conv => lhs; whnf); done)); exact rfl; assumption; omega)
 | (apply s_idxP; exact rfl; exact rfl; omega)
 | (apply s_ldB; exact rfl; exact rfl; omega; all_goals intro _)
 | (apply s_ldRB; exact rfl; omega; all_goals intro _)
 | (apply s_idxRB; exact rfl; exact rfl; omega)
 | (apply s_idxS; exact rfl; exact rfl; omega)
 | (apply s_slcT; exact rfl; exact rfl; omega)
 | (apply s_slcF; exact rfl; exact rfl; omega)
 | (apply s_mx; exact rfl; exact rfl)
 | (apply s_rem2; exact rfl)
 | (apply s_ldI; exact rfl; omega)
 | (apply s_ldLL; exact rfl; assumption; omega)
 | (apply s_pd; (focus ((conv => lhs; whnf); done)))
 | apply c_seq
 | apply c_reg
 | apply c_block
 | apply c_exitH
 | apply c_skip
 | apply c_ret
 | (apply c_condT; exact rfl)
 | (apply c_condF; exact rfl)
 | (apply c_exitM; exact rfl)
 | (apply c_preF; (focus (repeat (first | apply looks_nil | (apply looks_cons; (focus ((conv => lhs; whnf); done)))))); (focus (simp [idFreeL, AV.idFree, *]; done)))
 | (with_reducible apply k_c)
    all_goals exact fin_t (by (conv => lhs; whnf)) (by rfl) rfl
end Go.AM.Pr
