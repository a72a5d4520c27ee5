/- A part of the proof: T46 T31 T47 T48 T49 T50. -/
import Derived.Test.YtdgkchedoooffaaT45
import Derived.Test.YtdgkchedoooffaaT9
set_option linter.unusedVariables false
set_option linter.unusedSimpArgs false
set_option linter.unusedSectionVars false
namespace Go.AM.Tb
set_option maxHeartbeats 4000000
theorem ld_arc {H : Heap} {E : List Ed} {R : Nat → Int} {n k : Nat} (hk : k < n) : evP H (.ld true 4) [.rp ((iL (arcs E R n)).drop (4 * k))] = some (.agg [.int .i64 (aS E k : Int), .int .i64 (aD E k : Int), .int .i64 (R k), .int .i64 (aG E k)]) := by
  have h1 : (iL (arcs E R n)).drop (4 * k) = iL ((arcs E R n).drop (4 * k)) := by simp [iL, List.map_drop]
  have h2 : (iL ((arcs E R n).drop (4 * k))).take 4 = [.int .i64 (aS E k : Int), .int .i64 (aD E k : Int), .int .i64 (R k), .int .i64 (aG E k)] := by
    have : (iL ((arcs E R n).drop (4 * k))).take 4 = iL (((arcs E R n).drop (4 * k)).take 4) := by simp [iL, List.map_take]
    rw [this, arcs_at E R n k hk]
    rfl
  have h3 : 4 ≤ (iL ((arcs E R n).drop (4 * k))).length := by
    rw [iL_len, List.length_drop, arcs_len]; omega
  rw [h1]
  simp only [evP, ldc, if_pos h3, h2, Option.bind_some, wholeOf, if_true]
theorem s_stK {call : CallF} {K : KT} {env : Env} {H : Heap} {res : Go.AM.R} {e : EO} {xs kp : List Opd} {r : List AI} {v : AV} {vs : List AV} {H' : Heap} (ho : opds env xs = vs) (h : evE call H e vs = some (v, H')) (hk : keptOk H H' (opds env kp) = true) (g : RR call r K env H' res) :
    RR call (⟨.inr e, xs, none, none, kp⟩ :: r) K env H res := ⟨by
  have := g.eq
  rw [← ho] at h
  simpa only [evR, evI, h, Option.bind_some, hk, if_true, putE] using this⟩
theorem kept_HT (gn gn' by_ by' : List Int) (a b c d : Int) : keptOk (HT gn by_ a b c d) (HT gn' by' a b c d) [.ptr 2 0] = true := by
  simp [HT, keptOk, keptV, Heap.cells?, HO.cells?, flatSame]
theorem f80 {v : AV} (fv : v.idFree = true) {E : List Ed} {R : Nat → Int} {M N : Nat} {p : Nat → Int} (hlen : ∀ H, evP H .len [v] = some (.int .i64 ((2 * M : Nat) : Int))) (hix : ∀ H (k : Nat), k < 2 * M → evP H (.idxA 4) [v, .int .i64 (k : Int)] = some (.rp ((iL (arcs E R (2 * M))).drop (4 * k))))
    (hp : ∀ k, k < 2 * M → 0 < R k → p (aS E k) + aG E k ≤ p (aD E k)) (hp0 : p 0 = 0) (hpb : ∀ v, v < N → -200 ≤ p v ∧ p v ≤ 200) (hNk : ∀ k, k < 2 * M → aS E k < N ∧ aD E k < N ∧ aS E k ≠ aD E k ∧ -1 ≤ aG E k ∧ aG E k ≤ 1)
    (hN : 2 ≤ N ∧ N ≤ 130) (hM : M ≤ 4500) {m : Nat} (hm : 300000000 ≤ m) : G80 E R M N (evF tab it m 80 [.rp [v], .int .i64 (N : Int)] []) := by
  obtain ⟨m, rfl⟩ : ∃ j, m = j + 1 := ⟨m - 1, by omega⟩
  have hgs := fun h1 h2 h3 => gi_start (E := E) (R := R) (M := M) (N := N) (p := p) h1 h2 h3
  obtain ⟨G0, P0⟩ := hgs hN.1 hp0 hpb
  refine via_enter rfl rfl ?_
  show G80 E R M N (evC _ _ _ _ 0 (finish 0 _) _ (finish 0 _) _ _)
  generalize evF tab it m = call at *
  have mk1 : evE call [] (.mkS 1 8 [.int .i64 0]) [.int .i64 (N : Int), .int .i64 (N : Int)] = some (.sl 0 1 0 N, [some (.data (iL (List.replicate N 0)))]) := e_mkI (H := []) (by unfold most; omega)
  have mk2 : evE call [some (.data (iL (List.replicate N 0)))] (.mkS 1 8 [.int .i64 0]) [.int .i64 (N : Int), .int .i64 (N : Int)] = some (.sl 1 1 0 N, HD (List.replicate N 0) (List.replicate N 0)) := e_mkI (H := [some (.data (iL (List.replicate N 0)))]) (by unfold most; omega)
  refine via (res := ?zr1) ?zw1 ?zg1
  case zw1 =>
    repeat' first
 | (apply s_mov; exact aW)
 | (apply c_nil)
 | (apply s_en; exact aO; exact mk1)
 | (apply s_en; exact aO; exact mk2)
 | (apply s_lenSl; exact rfl)
 | (apply c_seq)
 | (apply c_reg)
 | (apply c_block)
 | (with_reducible apply k_c)
    exact c_end
  refine loop_P (σ := Nat) (fun i => [.rp [v], .sl 0 1 0 N, .sl 1 1 0 N, .int .i64 N, .int .i64 i]) (fun i => HD (fl i N far) (fl i N (-1))) (fun i => i ≤ N) (fun i => N - i) ?_ _ 0 _ _ (by omega) (by omega) ?_
  rotate_left
  · exact gc_2d (pre := [.rp [v]]) (gs := [.int .i64 N, .int .i64 0]) rfl (by simp) rfl
  intro i hi K hK
  by_cases hiN : i < N
  · have sa : evE call (HD (fl i N far) (fl i N (-1))) (.st 1) [.ptr 0 (0 + ((i : Nat) : Int).toNat * 1), .int .i64 (-1048576)] = some (.undef, HD (fl (i + 1) N far) (fl i N (-1))) := by
      have := st_a (call := call) (a := fl i N far) (b := fl i N (-1)) (rest := []) (i := i) (v := far) (by rw [fl_len (by omega)]; omega)
      rw [fl_set hiN] at this
      exact this
    have sb : evE call (HD (fl (i + 1) N far) (fl i N (-1))) (.st 1) [.ptr 1 (0 + ((i : Nat) : Int).toNat * 1), .int .i64 (-1)] = some (.undef, HD (fl (i + 1) N far) (fl (i + 1) N (-1))) := by
      have := st_b (call := call) (a := fl (i + 1) N far) (b := fl i N (-1)) (rest := []) (i := i) (v := -1) (by rw [fl_len (by omega)]; omega)
      rw [fl_set hiN] at this
      exact this
    refine via (res := ?zr2) ?zw2 ?zg2
    case zw2 =>
      repeat' first
 | (apply s_mov; exact aW)
 | (apply c_nil)
 | (apply s_lss; exact rfl; all_goals (intro _; try (exfalso; omega)))
 | (apply s_add; exact rfl; omega)
 | (apply s_st; exact aO; exact sa)
 | (apply s_st; exact aO; exact sb)
 | (apply s_idxS; exact rfl; exact rfl; omega)
 | (apply c_seq)
 | (apply c_reg)
 | (apply c_block)
 | (apply c_skip)
 | (apply c_condT; exact rfl)
 | (with_reducible apply k_c)
      exact rfl
    exact hK (i + 1) _ _ (by omega) (by omega) (gc_2d (pre := [.rp [v]]) (gs := [.int .i64 N, .int .i64 ((i : Int) + 1)]) rfl (by simp) rfl)
  obtain rfl : i = N := by omega
  clear hK hi hiN mk1 mk2
  have g1 : gc 0 [.rp [v], .sl 0 1 0 i, .sl 1 1 0 i] (HD (fl i i far) (fl i i (-1))) = _ := gc_2d (pre := [.rp [v]]) (gs := []) rfl (by simp) rfl
  have s0 : evE call (HD (fl i i far) (fl i i (-1))) (.st 1) [.ptr 0 (0 + (0 : Int).toNat * 1), .int .i64 0] = some (.undef, HD ((fl i i far).set 0 0) (fl i i (-1))) := st_a (a := fl i i far) (b := fl i i (-1)) (rest := []) (i := 0) (v := 0) (by rw [fl_len (Nat.le_refl _)]; omega)
  refine via (res := ?zr3) ?zw3 ?zg3
  case zw3 =>
    repeat' first
 | (apply s_mov; exact aW)
 | (apply c_nil)
 | (apply s_lss; exact rfl; all_goals (intro _; try (exfalso; omega)))
 | (apply c_pre; exact g1)
 | (apply s_st; exact aO; exact s0)
 | (apply s_idxS; exact rfl; exact rfl; omega)
 | (apply c_seq)
 | (apply c_reg)
 | (apply c_block)
 | (apply c_exitH)
 | (apply c_condF; exact rfl)
 | (with_reducible apply k_c)
    exact c_end
  clear s0 g1 hgs
  have t1 : ∀ gn by_ a b c d call', evE call' (HT gn by_ 0 0 0 0) (.st 4) [.ptr 2 0, .agg [.int .i64 a, .int .i64 b, .int .i64 c, .int .i64 d]] = some (.undef, HT gn by_ a b c d) := fun gn by_ a b c d call' => rfl
  have t0 : ∀ gn by_ call', evE call' (HD gn by_) (.alloc true [.int .i64 0, .int .i64 0, .int .i64 0, .int .i64 0]) [] = some (.ptr 2 0, HT gn by_ 0 0 0 0) := fun gn by_ call' => rfl
  have l0 : ∀ gn by_ a b c d, evP (HT gn by_ a b c d) (.ld false 1) [.ptr 2 0] = some (.int .i64 a) := fun gn by_ a b c d => rfl
  have l1 : ∀ gn by_ a b c d, evP (HT gn by_ a b c d) (.ld false 1) [.ptr 2 1] = some (.int .i64 b) := fun gn by_ a b c d => rfl
  have l2 : ∀ gn by_ a b c d, evP (HT gn by_ a b c d) (.ld false 1) [.ptr 2 2] = some (.int .i64 c) := fun gn by_ a b c d => rfl
  have l3 : ∀ gn by_ a b c d, evP (HT gn by_ a b c d) (.ld false 1) [.ptr 2 3] = some (.int .i64 d) := fun gn by_ a b c d => rfl
  have q0 : ∀ H, evP H (.fldA 0) [.rp [v]] = some (.rp [v]) := fun H => rfl
  have q1 : ∀ H, evP H (.ld false 1) [.rp [v]] = some v := fun H => rfl
  have gI : ∀ (gn by_ : List Int) (rest : Heap) (b : Bool) (c d : Int), gc 0 [.rp [v], .sl 0 1 0 i, .sl 1 1 0 i, .bool b, v, .int .i64 c, .int .i64 d] (some (.data (iL gn)) :: some (.data (iL by_)) :: rest) = some ([.rp [v], .sl 0 1 0 i, .sl 1 1 0 i, .bool b, v, .int .i64 c, .int .i64 d], HD gn by_) := fun gn by_ rest b c d => gc_2d (pre := [.rp [v]]) (gs := [.bool b, v, .int .i64 c, .int .i64 d]) rfl (by simp) (by simp [idFreeL, AV.idFree, fv])
  have gO : ∀ (gn by_ : List Int) (b : Bool), gc 0 [.rp [v], .sl 0 1 0 i, .sl 1 1 0 i, .bool b] (HD gn by_) = some ([.rp [v], .sl 0 1 0 i, .sl 1 1 0 i, .bool b], HD gn by_) := fun gn by_ b => gc_2d (pre := [.rp [v]]) (gs := [.bool b]) rfl (by simp) rfl
  have hC : i * 1048776 ≤ 130 * 1048776 := Nat.mul_le_mul hN.2 (Nat.le_refl _)
  refine loop_P (G := G80 E R M i) (σ := List Int × List Int × (Nat → Nat) × Nat × Bool) (fun s => [.rp [v], .sl 0 1 0 i, .sl 1 1 0 i, .bool s.2.2.2.2]) (fun s => HD s.1 s.2.1) (fun s => GI E R M i p s.1 s.2.1 s.2.2.1 s.2.2.2.1 ∧ s.2.2.2.1 + Ph i p s.1 ≤ i * 1048776 ∧ (s.2.2.2.2 = false → ∀ k, k < 2 * M → 0 < R k → far < getI s.1 (aS E k : Int) → getI s.1 (aS E k : Int) + aG E k ≤ getI s.1 (aD E k : Int))) (fun s => 2 * Ph i p s.1 + s.2.2.2.2.toNat) ?_ _ ((fl i i far).set 0 0, fl i i (-1), fun _ => 0, 0, true) _ _ ⟨G0, by dsimp only; omega, by simp⟩ (by dsimp only; rw [show Bool.toNat true = 1 from rfl]; omega) ?_
  rotate_left
  · exact gO _ _ _
  clear G0 P0
  rintro ⟨gn, by_, T, t, fg⟩ ⟨hg, ht, hf⟩ K hK
  dsimp only at hg ht hf hK ⊢
  cases fg with
  | false =>
    have g1 : gc 0 [.sl 0 1 0 i, .sl 1 1 0 i] (HD gn by_) = some ([.sl 0 1 0 i, .sl 1 1 0 i], HD gn by_) := gc_2d (pre := []) (gs := []) rfl (by simp) rfl
    have hfin : ∀ env, look env 4 = .sl 0 1 0 i → look env 5 = .sl 1 1 0 i → finish 0 [.t 4, .t 5] env (HD gn by_) = some (.tup [.sl 0 1 0 i, .sl 1 1 0 i], HD gn by_) := fun env h1 h2 => by
      simp only [finish, ress, resOf, h1, h2, tupOf, Option.bind_some, Option.map_some]
      rfl
    refine via (res := ?zr4) ?zw4 ?zg4
    case zw4 =>
      repeat' first
 | (apply s_mov; exact aW)
 | (apply c_nil)
 | (apply c_pre; exact g1)
 | (apply c_seq)
 | (apply c_reg)
 | (apply c_exitH)
 | (apply c_ret)
 | (apply c_condF; exact rfl)
 | (with_reducible apply k_c)
      exact rfl
    exact ⟨gn, by_, T, hfin _ rfl rfl, hg.done (fun v hv => (hpb v hv).2) (by omega) (hf rfl)⟩
  | true =>
    refine via (res := ?zr5) ?zw5 ?zg5
    case zw5 =>
      repeat' first
 | (apply s_mov; exact aW)
 | (apply c_nil)
 | (apply s_pn; exact aO; exact q0 _)
 | (apply s_pn; exact aO; exact q1 _)
 | (apply s_pn; exact aO; exact hlen _)
 | (apply s_pd; exact aW)
 | (apply c_seq)
 | (apply c_reg)
 | (apply c_block)
 | (apply c_skip)
 | (apply c_condT; exact rfl)
 | (with_reducible apply k_c)
      exact c_end
    obtain ⟨P0, hP0⟩ : ∃ P0, Ph i p gn = P0 := ⟨_, rfl⟩
    rw [hP0] at hK ht
    refine loop_P (G := G80 E R M i) (σ := Nat × List Int × List Int × (Nat → Nat) × Nat × Bool) (fun s => [.rp [v], .sl 0 1 0 i, .sl 1 1 0 i, .bool s.2.2.2.2.2, v, .int .i64 ((2 * M : Nat) : Int), .int .i64 (s.1 : Int)]) (fun s => HD s.2.1 s.2.2.1)
      (fun s => s.1 ≤ 2 * M ∧ GI E R M i p s.2.1 s.2.2.1 s.2.2.2.1 s.2.2.2.2.1 ∧ s.2.2.2.2.1 + Ph i p s.2.1 ≤ i * 1048776 ∧ Ph i p s.2.1 ≤ P0 ∧ (s.2.2.2.2.2 = true → Ph i p s.2.1 < P0) ∧ (s.2.2.2.2.2 = false → ∀ k, k < s.1 → 0 < R k → far < getI s.2.1 (aS E k : Int) → getI s.2.1 (aS E k : Int) + aG E k ≤ getI s.2.1 (aD E k : Int))) (fun s => 2 * M - s.1) ?_ _ (0, gn, by_, T, t, false) _ _ ⟨by dsimp only; omega, hg, by dsimp only; omega, by dsimp only; omega, by simp, fun _ k hk => by dsimp only at hk; omega⟩ (by dsimp only; omega) ?_
    rotate_left
    · exact gI _ _ _ _ _ _
    clear hg ht hf hP0 gn by_ T t
    rintro ⟨k, gn, by_, T, t, fg⟩ ⟨hk, hg, ht, hP1, hP2, hf⟩ K2 hK2
    dsimp only at hk hg ht hP1 hP2 hf hK2 ⊢
    by_cases hkM : k < 2 * M
    · obtain ⟨n1, n2, n3, n4⟩ := hNk k hkM
      have hgl := hg.gl
      have hbl := hg.bl
      obtain ⟨lo1, lo2⟩ := hg.lo _ n1
      obtain ⟨lo3, lo4⟩ := hg.lo _ n2
      have pb1 := hpb _ n1
      have pb2 := hpb _ n2
      have ix := hix (HD gn by_) k hkM
      have la := fun H => ld_arc (H := H) (E := E) (R := R) hkM
      have lS : ∀ a b c d, evP (HT gn by_ a b c d) (.ld false 1) [.ptr 0 (0 + ((aS E k : Nat) : Int).toNat * 1)] = some (.int .i64 (getI gn (aS E k : Int))) := fun a b c d => ld_a (by omega)
      have lD : ∀ a b c d, evP (HT gn by_ a b c d) (.ld false 1) [.ptr 0 (0 + ((aD E k : Nat) : Int).toNat * 1)] = some (.int .i64 (getI gn (aD E k : Int))) := fun a b c d => ld_a (by omega)
      have sA : ∀ a b c d x, evE call (HT gn by_ a b c d) (.st 1) [.ptr 0 (0 + ((aD E k : Nat) : Int).toNat * 1), .int .i64 x] = some (.undef, HT (gn.set (aD E k) x) by_ a b c d) := fun a b c d x => st_a (by omega)
      have sB : ∀ gn' a b c d x, evE call (HT gn' by_ a b c d) (.st 1) [.ptr 1 (0 + ((aD E k : Nat) : Int).toNat * 1), .int .i64 x] = some (.undef, HT gn' (by_.set (aD E k) x) a b c d) := fun gn' a b c d x => st_b (by omega)
      have hstep := hg.step hp hp0 (fun v hv => (hpb v hv).1) (fun k hk => ⟨(hNk k hk).1, (hNk k hk).2.1, (hNk k hk).2.2.1⟩) hkM
      unfold far at lo1 lo2 lo3 lo4 hstep
      by_cases h1 : 0 < R k
      · by_cases h2 : -1048576 < getI gn (aS E k : Int)
        · by_cases h3 : getI gn (aD E k : Int) < getI gn (aS E k : Int) + aG E k
          · obtain ⟨s1, s2⟩ := hstep h1 h2 h3
            refine via (res := ?zr6) ?zw6 ?zg6
            case zw6 =>
              repeat' first
 | (apply s_mov; exact aW)
 | (apply s_gT; exact rfl)
 | (apply c_nil)
 | (apply s_pickT; exact rfl; exact aW)
 | (apply s_lss; exact rfl; all_goals (intro _; try (exfalso; omega)))
 | (apply s_gtr; exact rfl; all_goals (intro _; try (exfalso; omega)))
 | (apply s_add; exact rfl; omega)
 | (apply s_en; exact aO; exact t0 _ _ _)
 | (apply s_st; exact aO; exact t1 _ _ _ _ _ _ _)
 | (apply s_pn; exact aO; exact ix)
 | (apply s_pn; exact aO; exact la _)
 | (apply s_pn; exact aO; exact l0 _ _ _ _ _ _)
 | (apply s_pn; exact aO; exact l1 _ _ _ _ _ _)
 | (apply s_pn; exact aO; exact l2 _ _ _ _ _ _)
 | (apply s_pn; exact aO; exact l3 _ _ _ _ _ _)
 | (apply s_pn; exact aO; exact lS _ _ _ _)
 | (apply s_pn; exact aO; exact lD _ _ _ _)
 | (apply s_stK; (focus (repeat (first | apply opds_nil | (apply opds_cons; (first | (focus ((conv => lhs; whnf); done)) | exact rfl))))); exact sA _ _ _ _ _; exact kept_HT _ _ _ _ _ _ _ _)
 | (apply s_st; exact aO; exact sB _ _ _ _ _ _)
 | (apply s_idxS; exact rfl; exact rfl; omega)
 | (apply s_pd; exact aW)
 | (apply c_seq)
 | (apply c_reg)
 | (apply c_block)
 | (apply c_skip)
 | (apply c_condT; exact rfl)
 | (with_reducible apply k_c)
              exact rfl
            exact hK2 (k + 1, _, _, _, t + 1, true) _ _ ⟨by dsimp only; omega, s1, by dsimp only; omega, by dsimp only; omega, fun _ => by dsimp only; omega, by simp⟩ (by dsimp only; omega) (gI _ _ _ _ _ _)
          · refine via (res := ?zr7) ?zw7 ?zg7
            case zw7 =>
              repeat' first
 | (apply s_mov; exact aW)
 | (apply s_gT; exact rfl)
 | (apply c_nil)
 | (apply s_pickT; exact rfl; exact aW)
 | (apply s_lss; exact rfl; all_goals (intro _; try (exfalso; omega)))
 | (apply s_gtr; exact rfl; all_goals (intro _; try (exfalso; omega)))
 | (apply s_add; exact rfl; omega)
 | (apply s_en; exact aO; exact t0 _ _ _)
 | (apply s_st; exact aO; exact t1 _ _ _ _ _ _ _)
 | (apply s_pn; exact aO; exact ix)
 | (apply s_pn; exact aO; exact la _)
 | (apply s_pn; exact aO; exact l0 _ _ _ _ _ _)
 | (apply s_pn; exact aO; exact l1 _ _ _ _ _ _)
 | (apply s_pn; exact aO; exact l2 _ _ _ _ _ _)
 | (apply s_pn; exact aO; exact l3 _ _ _ _ _ _)
 | (apply s_pn; exact aO; exact lS _ _ _ _)
 | (apply s_pn; exact aO; exact lD _ _ _ _)
 | (apply s_idxS; exact rfl; exact rfl; omega)
 | (apply s_pd; exact aW)
 | (apply c_seq)
 | (apply c_reg)
 | (apply c_block)
 | (apply c_skip)
 | (apply c_condT; exact rfl)
 | (apply c_condF; exact rfl)
 | (with_reducible apply k_c)
              exact rfl
            refine hK2 (k + 1, gn, by_, T, t, fg) _ _ ⟨by dsimp only; omega, hg, ht, hP1, hP2, fun hfg j hj hRj hfj => ?_⟩ (by dsimp only; omega) (gI _ _ _ _ _ _)
            dsimp only at hj hfj ⊢
            rcases (by omega : j < k ∨ j = k) with h | rfl
            · exact hf hfg j h hRj hfj
            · omega
        · refine via (res := ?zr8) ?zw8 ?zg8
          case zw8 =>
            repeat' first
 | (apply s_mov; exact aW)
 | (apply s_gT; exact rfl)
 | (apply s_gF; exact rfl)
 | (apply c_nil)
 | (apply s_pickT; exact rfl; exact aW)
 | (apply s_pickF; exact rfl; exact aW)
 | (apply s_lss; exact rfl; all_goals (intro _; try (exfalso; omega)))
 | (apply s_gtr; exact rfl; all_goals (intro _; try (exfalso; omega)))
 | (apply s_add; exact rfl; omega)
 | (apply s_en; exact aO; exact t0 _ _ _)
 | (apply s_st; exact aO; exact t1 _ _ _ _ _ _ _)
 | (apply s_pn; exact aO; exact ix)
 | (apply s_pn; exact aO; exact la _)
 | (apply s_pn; exact aO; exact l0 _ _ _ _ _ _)
 | (apply s_pn; exact aO; exact l2 _ _ _ _ _ _)
 | (apply s_pn; exact aO; exact lS _ _ _ _)
 | (apply s_idxS; exact rfl; exact rfl; omega)
 | (apply s_pd; exact aW)
 | (apply c_seq)
 | (apply c_reg)
 | (apply c_block)
 | (apply c_skip)
 | (apply c_condT; exact rfl)
 | (apply c_condF; exact rfl)
 | (with_reducible apply k_c)
            exact rfl
          refine hK2 (k + 1, gn, by_, T, t, fg) _ _ ⟨by dsimp only; omega, hg, ht, hP1, hP2, fun hfg j hj hRj hfj => ?_⟩ (by dsimp only; omega) (gI _ _ _ _ _ _)
          dsimp only at hj hfj ⊢
          rcases (by omega : j < k ∨ j = k) with h | rfl
          · exact hf hfg j h hRj hfj
          · unfold far at hfj; omega
      · refine via (res := ?zr9) ?zw9 ?zg9
        case zw9 =>
          repeat' first
 | (apply s_mov; exact aW)
 | (apply s_gF; exact rfl)
 | (apply c_nil)
 | (apply s_pickF; exact rfl; exact aW)
 | (apply s_lss; exact rfl; all_goals (intro _; try (exfalso; omega)))
 | (apply s_gtr; exact rfl; all_goals (intro _; try (exfalso; omega)))
 | (apply s_add; exact rfl; omega)
 | (apply s_en; exact aO; exact t0 _ _ _)
 | (apply s_st; exact aO; exact t1 _ _ _ _ _ _ _)
 | (apply s_pn; exact aO; exact ix)
 | (apply s_pn; exact aO; exact la _)
 | (apply s_pn; exact aO; exact l2 _ _ _ _ _ _)
 | (apply s_pd; exact aW)
 | (apply c_seq)
 | (apply c_reg)
 | (apply c_block)
 | (apply c_skip)
 | (apply c_condT; exact rfl)
 | (apply c_condF; exact rfl)
 | (with_reducible apply k_c)
          exact rfl
        refine hK2 (k + 1, gn, by_, T, t, fg) _ _ ⟨by dsimp only; omega, hg, ht, hP1, hP2, fun hfg j hj hRj hfj => ?_⟩ (by dsimp only; omega) (gI _ _ _ _ _ _)
        dsimp only at hj hfj ⊢
        rcases (by omega : j < k ∨ j = k) with h | rfl
        · exact hf hfg j h hRj hfj
        · omega
    · obtain rfl : k = 2 * M := by omega
      refine via (res := ?zr10) ?zw10 ?zg10
      case zw10 =>
        repeat' first
 | (apply c_nil)
 | (apply s_lss; exact rfl; all_goals (intro _; try (exfalso; omega)))
 | (apply c_seq)
 | (apply c_reg)
 | (apply c_exitH)
 | (apply c_condF; exact rfl)
 | (with_reducible apply k_c)
        exact rfl
      refine hK (gn, by_, T, t, fg) _ _ ⟨hg, ht, fun h => hf h⟩ ?_ (gO _ _ _)
      dsimp only
      cases fg with
      | true => have := hP2 rfl; rw [show Bool.toNat true = 1 from rfl]; omega
      | false => rw [show Bool.toNat false = 0 from rfl, show Bool.toNat true = 1 from rfl]; omega
set_option maxHeartbeats 4000000
theorem callPure_own {call : CallF} {f : Nat} {args args' : List AV} {H H1 : Heap} {r v : AV} (ha : frzL H 140 args = some args') (hc : call f args' [] = some (r, H1)) (hr : r.hasRd = false) (hh : (H1.all fun o => !HO.hasRd o) = true) (hf : frzV H1 140 r = some v) :
    callPure call true f args H = some (v, H) := by
  unfold callPure
  rw [ha, Option.bind_some, hc, Option.bind_some]
  dsimp only
  rw [hr, hh, hf]
  simp
set_option maxHeartbeats 4000000
theorem c80 {v : AV} (fv : v.idFree = true) {E : List Ed} {R : Nat → Int} {M N : Nat} {p : Nat → Int} (hlen : ∀ H, evP H .len [v] = some (.int .i64 ((2 * M : Nat) : Int))) (hix : ∀ H (k : Nat), k < 2 * M → evP H (.idxA 4) [v, .int .i64 (k : Int)] = some (.rp ((iL (arcs E R (2 * M))).drop (4 * k))))
    (hp : ∀ k, k < 2 * M → 0 < R k → p (aS E k) + aG E k ≤ p (aD E k)) (hp0 : p 0 = 0) (hpb : ∀ v, v < N → -200 ≤ p v ∧ p v ≤ 200) (hNk : ∀ k, k < 2 * M → aS E k < N ∧ aD E k < N ∧ aS E k ≠ aD E k ∧ -1 ≤ aG E k ∧ aG E k ≤ 1)
    (hN : 2 ≤ N ∧ N ≤ 130) (hM : M ≤ 4500) {m : Nat} (hm : 300000000 ≤ m) {args : List AV} {H : Heap} (ha : frzL H 140 args = some [.rp [v], .int .i64 (N : Int)]) :
    ∃ gn by_ T, callPure (evF tab it m) true 80 args H = some (.tup [.rd 1 N (iL gn), .rd 1 N (iL by_)], H) ∧ GD E R M N gn by_ T := by
  obtain ⟨gn, by_, T, h1, h2⟩ := f80 fv hlen hix hp hp0 hpb hNk hN hM hm
  refine ⟨gn, by_, T, callPure_own ha h1 rfl ?_ ?_, h2⟩
  · simp [HO.hasRd, iL_noRd]
  · have e1 := h2.gl
    have e2 := h2.bl
    have d1 : Heap.data? (HD gn by_) 0 = some (iL gn) := rfl
    have d2 : Heap.data? (HD gn by_) 1 = some (iL by_) := rfl
    have l1 : (iL gn).take N = iL gn := by rw [← e1, ← iL_len, List.take_length]
    have l2 : (iL by_).take N = iL by_ := by rw [← e2, ← iL_len, List.take_length]
    simp [frzV, frzL, idFreeL, AV.idFree, d1, d2, iL_len, e1, e2, l1, l2]
theorem xor1 (k : Nat) : k ^^^ 1 = mate k := by
  have h1 : (k ^^^ 1) / 2 = k / 2 := by rw [Nat.xor_div_two]; simp
  have h2 := Nat.xor_mod_two_eq_one (a := k) (b := 1)
  unfold mate
  split
  · have : (k ^^^ 1) % 2 = 1 := h2.2 (by omega)
    omega
  · have : ¬ (k ^^^ 1) % 2 = 1 := fun e => by have := h2.1 e; omega
    omega
theorem p_xor {k : Nat} (hk : k ≤ 100000) (H : Heap) : evP H (.bin .xor) [.int .i64 (k : Int), .int .i64 1] = some (.int .i64 ((mate k : Nat) : Int)) := by
  have h1 : (BitVec.ofInt 64 (k : Int)) = BitVec.ofNat 64 k := by simp
  have h2 : (BitVec.ofNat 64 k ^^^ BitVec.ofNat 64 1).toNat = mate k := by
    rw [BitVec.toNat_xor, BitVec.toNat_ofNat, BitVec.toNat_ofNat, Nat.mod_eq_of_lt (by omega), Nat.mod_eq_of_lt (by omega), xor1]
  have h3 : mate k ≤ 100001 := by unfold mate; split <;> omega
  have h4 : BitVec.ofInt 64 1 = BitVec.ofNat 64 1 := by decide
  simp only [evP, binV, isShift, Bool.false_eq_true, if_false, if_true, binInt]
  rw [show IntKind.bits .i64 = 64 from rfl, h1, h4, h2, wrapI (a := ((mate k : Nat) : Int)) (by omega)]
def upd (R : Nat → Int) (k : Nat) (x : Int) : Nat → Int := fun j => if j = k then x else R j
theorem nh_ld {E : List Ed} {R : Nat → Int} {n k t : Nat} (hk : k < n) (ht : t < 4) : evP (NH 0 n (iL (arcs E R n))) (.ld false 1) [.ptr 1 (4 * k + t)] = some (.int .i64 ([(aS E k : Int), (aD E k : Int), R k, aG E k].getD t 0)) := by
  have := p_ldD (H := NH 0 n (iL (arcs E R n))) (i := 1) (k := 4 * k + t) (l := arcs E R n) rfl (by rw [arcs_len]; omega)
  rw [this, arcs_get E R hk ht, getI_nat]
theorem nh_st {call : CallF} {E : List Ed} {R : Nat → Int} {n k : Nat} (hk : k < n) (x : Int) : evE call (NH 0 n (iL (arcs E R n))) (.st 1) [.ptr 1 (4 * k + 2), .int .i64 x] = some (.undef, NH 0 n (iL (arcs E (upd R k x) n))) := by
  have := e_stO (call := call) (H := NH 0 n (iL (arcs E R n))) (id := 1) (l := arcs E R n) (i := 4 * k + 2) (v := x) rfl (by rw [arcs_len]; omega)
  rw [this, arcs_set E R n k x hk]
  rfl
theorem psh_eq (R k) : upd (upd R k (R k - 1)) (mate k) (R (mate k) + 1) = psh R k := by
  funext j
  have := mate_ne k
  unfold upd psh
  by_cases h1 : j = k
  · subst h1; rw [if_neg (fun e => this e.symm), if_pos rfl, if_pos rfl]
  · rw [if_neg h1, if_neg h1]
    by_cases h2 : j = mate k
    · subst h2; rw [if_pos rfl]
    · rw [if_neg h2, if_neg h2]
theorem p_idx4 {H : Heap} {id n k : Nat} (hk : k < n) : evP H (.idxA 4) [.sl id 4 0 n, .int .i64 (k : Int)] = some (.ptr id (4 * k)) := by
  simp [evP, idxSl]
  omega
theorem Rm.le {w E R} (hn : Net w E) (h : Rm E R) {k} (hk : k < 2 * E.length) : R k ≤ 1048576 := by
  obtain ⟨i, hi, hf⟩ := hn.form (k / 2) (by omega)
  have hc : (eg E (k / 2)).c ≤ 1048576 := by
    rcases hf with e | e | e | e | ⟨j, _, _, _, e⟩ <;> rw [e] <;> simp [eA, eU, eV, eL, eX, big]
  obtain ⟨h1, h2, h3⟩ := h (k / 2) (by omega)
  by_cases hp : k % 2 = 0
  · rw [show 2 * (k / 2) = k by omega] at h1 h2 h3; omega
  · rw [show 2 * (k / 2) + 1 = k by omega] at h1 h3; omega
def G81 (E : List Ed) (R0 : Nat → Int) (gn : List Int) (T : Nat → Nat) (r : Go.AM.R) : Prop := ∃ R', r = some (.tup [], NH 0 (2 * E.length) (iL (arcs E R' (2 * E.length)))) ∧ PI E R0 gn T 0 R'
theorem f81 {w : List Int} {E : List Ed} {R0 : Nat → Int} {gn by_ : List Int} {T : Nat → Nat} {s : Nat} (h : NI w E R0 s) (hE : E.length ≤ 4500) (hg : GD E R0 E.length (2 + 2 * w.length) gn by_ T) (hre : ∀ v, v < 2 + 2 * w.length → 0 ≤ getI gn (v : Int)) {m : Nat} (hm : 500000010 ≤ m) :
    G81 E R0 gn T (evF tab it m 81 [.ptr 0 0, .rd 1 (2 + 2 * w.length) (iL by_)] (NH 0 (2 * E.length) (iL (arcs E R0 (2 * E.length))))) := by
  obtain ⟨m, rfl⟩ : ∃ j, m = j + 1 := ⟨m - 1, by omega⟩
  have hst := h.start_push hg hre
  have hby : IsL (.rd 1 (2 + 2 * w.length) (iL by_)) by_ := rd_isL hg.bl
  have hbl := hg.bl
  have fby := hby.free
  generalize hb : AV.rd 1 (2 + 2 * w.length) (iL by_) = b at *
  have q0 : ∀ H, evP H (.fldA 0) [.ptr 0 0] = some (.ptr 0 0) := fun H => rfl
  have p0 : ∀ n cs, evP (NH 0 n cs) (.ld false 1) [.ptr 0 0] = some (.sl 1 4 0 n) := fun n cs => p_ldX rfl rfl
  have gI : ∀ n cs (v : Int), gc 2 [.ptr 0 0, b, .int .i64 v] (NH 0 n cs) = some ([.ptr 0 0, b, .int .i64 v], NH 0 n cs) := fun n cs v => by rw [← hb]; rfl
  have gE : ∀ n cs, gc 2 [.tup []] (NH 0 n cs) = some ([.tup []], NH 0 n cs) := fun n cs => rfl
  refine via_enter rfl rfl ?_
  show G81 E R0 gn T (evC _ _ _ _ 2 (finish 2 _) _ (finish 2 _) _ _)
  generalize evF tab it m = call at *
  refine via (res := ?zr1) ?zw1 ?zg1
  case zw1 =>
    repeat' first
 | (apply s_mov; exact aW)
 | (apply c_nil)
 | (apply c_seq)
 | (apply c_reg)
 | (apply c_block)
 | (with_reducible apply k_c)
    exact c_end
  refine loop_P (G := G81 E R0 gn T) (σ := Nat × (Nat → Int)) (fun s => [.ptr 0 0, b, .int .i64 (s.1 : Int)]) (fun s => NH 0 (2 * E.length) (iL (arcs E s.2 (2 * E.length)))) (fun s => s.1 < 2 + 2 * w.length ∧ PI E R0 gn T s.1 s.2) (fun s => T s.1) ?_ _ (1, R0) _ _ ⟨by dsimp only; omega, hst⟩ (by dsimp only; have := hg.tm 1; omega) (gI _ _ _)
  rintro ⟨v, R⟩ ⟨hv, hP⟩ K hK
  dsimp only at hv hP hK ⊢
  by_cases h0 : v = 0
  · subst h0
    have hfin : ∀ env, finish 2 [] env (NH 0 (2 * E.length) (iL (arcs E R (2 * E.length)))) = some (.tup [], NH 0 (2 * E.length) (iL (arcs E R (2 * E.length)))) := fun env => by
      simp [finish, ress, tupOf, gE]
    refine via (res := ?zr2) ?zw2 ?zg2
    case zw2 =>
      repeat' first
 | (apply s_mov; exact aW)
 | (apply c_nil)
 | (apply s_neq; exact rfl; all_goals (intro _; try (exfalso; omega)))
 | (apply c_seq)
 | (apply c_reg)
 | (apply c_exitH)
 | (apply c_condF; exact rfl)
 | (with_reducible apply k_c)
      all_goals first
        | (exfalso; omega)
        | exact rfl
    exact ⟨R, hfin _, hP⟩
  · obtain ⟨k, k1, k2, k3, k4, k5, k6, k7, k8⟩ := hg.bk v (by omega) hv (by have := hre v hv; unfold far; omega)
    have hmk := mate_lt k2
    have hr1 := hP.rm.le h.net k2
    have hr2 := hP.rm.nn k2
    have hr3 := hP.rm.le h.net hmk
    have hr4 := hP.rm.nn hmk
    have hs := hP.step k2 k4 k3 k7 k8
    have i1 : ∀ H, evP H (.idxA 4) [.sl 1 4 0 (2 * E.length), .int .i64 (getI by_ (v : Int))] = some (.ptr 1 (4 * k)) := fun H => by rw [k1]; exact p_idx4 k2
    have i2 : ∀ H, evP H (.idxA 4) [.sl 1 4 0 (2 * E.length), .int .i64 ((mate k : Nat) : Int)] = some (.ptr 1 (4 * mate k)) := fun H => p_idx4 hmk
    have xo : ∀ H, evP H (.bin .xor) [.int .i64 (getI by_ (v : Int)), .int .i64 1] = some (.int .i64 ((mate k : Nat) : Int)) := fun H => by rw [k1]; exact p_xor (by omega) H
    have a1 : evP (NH 0 (2 * E.length) (iL (arcs E R (2 * E.length)))) (.ld false 1) [.ptr 1 (4 * k + 2)] = some (.int .i64 (R k)) := nh_ld k2 (t := 2) (by omega)
    have a2 : evP (NH 0 (2 * E.length) (iL (arcs E (upd R k (R k - 1)) (2 * E.length)))) (.ld false 1) [.ptr 1 (4 * mate k + 2)] = some (.int .i64 (R (mate k))) := by
      have := nh_ld (E := E) (R := upd R k (R k - 1)) hmk (t := 2) (by omega)
      rw [this]
      show some (AV.int .i64 (upd R k (R k - 1) (mate k))) = _
      unfold upd
      rw [if_neg (mate_ne k)]
    have a3 : evP (NH 0 (2 * E.length) (iL (arcs E (psh R k) (2 * E.length)))) (.ld false 1) [.ptr 1 (4 * k + 0)] = some (.int .i64 (aS E k : Int)) := nh_ld k2 (t := 0) (by omega)
    have s1 : evE call (NH 0 (2 * E.length) (iL (arcs E R (2 * E.length)))) (.st 1) [.ptr 1 (4 * k + 2), .int .i64 (R k - 1)] = some (.undef, NH 0 (2 * E.length) (iL (arcs E (upd R k (R k - 1)) (2 * E.length)))) := nh_st k2 _
    have s2 : evE call (NH 0 (2 * E.length) (iL (arcs E (upd R k (R k - 1)) (2 * E.length)))) (.st 1) [.ptr 1 (4 * mate k + 2), .int .i64 (R (mate k) + 1)] = some (.undef, NH 0 (2 * E.length) (iL (arcs E (psh R k) (2 * E.length)))) := by
      rw [← psh_eq]; exact nh_st hmk _
    refine via (res := ?zr3) ?zw3 ?zg3
    case zw3 =>
      repeat' first
 | (apply s_mov; exact aW)
 | (apply c_nil)
 | (apply s_neq; exact rfl; all_goals (intro _; try (exfalso; omega)))
 | (apply s_add; exact rfl; omega)
 | (apply s_sub; exact rfl; omega)
 | (apply s_pn; exact aO; exact q0 _)
 | (apply s_pn; exact aO; exact p0 _ _)
 | (apply s_pn; exact aO; exact i1 _)
 | (apply s_pn; exact aO; exact i2 _)
 | (apply s_pn; exact aO; exact xo _)
 | (apply s_pn; exact aO; exact a1)
 | (apply s_pn; exact aO; exact a2)
 | (apply s_pn; exact aO; exact a3)
 | (apply s_st; exact aO; exact s1)
 | (apply s_st; exact aO; exact s2)
 | (apply s_idx; exact aW; exact rfl; exact aI; omega)
 | (apply s_ldI; exact rfl; omega)
 | (apply s_pd; exact aW)
 | (apply c_seq)
 | (apply c_reg)
 | (apply c_block)
 | (apply c_skip)
 | (apply c_condT; exact rfl)
 | (with_reducible apply k_c)
      all_goals first
        | (exfalso; omega)
        | exact rfl
    exact hK (aS E k, psh R k) _ _ ⟨by dsimp only; omega, hs⟩ (by dsimp only; omega) (gI _ _ _)
set_option maxHeartbeats 4000000
theorem c78n {m : Nat} (hm : 2 ≤ m) (H : Heap) : callPure (evF tab it m) false 78 [.nilS] H = some (.nilS, H) := by
  have hr : evF tab it m 78 [.nilS] [] = some (.nilS, []) := by
    obtain ⟨m, rfl⟩ : ∃ j, m = j + 1 := ⟨m - 1, by omega⟩
    refine f_enter rfl rfl ?_
    repeat' first
 | (apply s_mov; exact aW)
 | (apply c_nil)
 | (apply s_pd; exact aW)
 | (apply c_seq)
 | (apply c_reg)
 | (apply c_ret)
 | (apply c_condT; exact rfl)
 | (with_reducible apply k_c)
    exact fin_t (by (conv => lhs; whnf)) (by rfl) rfl
  have hf : frzL H 140 [.nilS] = some [.nilS] := frzL_free H 140 [.nilS] (by simp) (by simp [idFreeL, AV.idFree])
  simp only [callPure, hf, hr, Option.bind_some]
  simp [idFreeL, AV.idFree, shiftH, AV.ren, renH, renO]
theorem c96 {ch : List Int} {y : Int} (hl : ch.length ≤ 200) {m : Nat} (hm : 5 ≤ m) (H : Heap) : callPure (evF tab it m) true 96 [fzL ch, .rd 1 1 [.int .i64 y]] H = some (fzL (ch ++ [y]), H) := by
  obtain ⟨m, rfl⟩ : ∃ j, m = j + 1 := ⟨m - 1, by omega⟩
  have e78n := fun H => c78n (m := m) (by omega) H
  have e78 := fun {x : AV} {l : List Int} (hx : IsL x l) (h0 : l ≠ []) (hl : l.length ≤ 1000) H => c78 hx h0 hl (m := m) (by omega) H
  have ff := fzL_free ch
  have hd : ∀ cs, Heap.data? [some (HO.data cs)] 0 = some cs := fun cs => rfl
  have hfr : frzV [some (HO.data (iL (ch ++ [y])))] 140 (.sl 0 1 0 (ch.length + 1)) = some (fzL (ch ++ [y])) := by
    rw [fzL_ne (n := ch.length + 1) (by simp) (by omega)]
    have : (iL (ch ++ [y])).take (ch.length + 1) = iL (ch ++ [y]) := by rw [List.take_of_length_le]; rw [iL_len]; simp
    simp [frzV, hd, iL_len, this]
  refine callPure_frz (H1 := [some (.data (iL (ch ++ [y])))]) (by simp [idFreeL, AV.idFree, ff]) (by simp) ?_ hfr
  have hgc : ∀ b, ∀ H : Heap, H[b]? = some (some (.data (iL (ch ++ [y])))) → ∀ env, look env 4 = .sl b 1 0 (ch.length + 1) → finish 0 [.t 4] env H = some (.sl 0 1 0 (ch.length + 1), [some (.data (iL (ch ++ [y])))]) := fun b H h env he => by
    have := gcD (pre := []) (gs := []) (b := b) (n := ch.length + 1) h rfl (by simp) rfl
    simp only [List.nil_append] at this
    simp [finish, ress, resOf, he, tupOf, this]
  refine f_enter rfl rfl ?_
  generalize evF tab it m = call at *
  by_cases h0 : ch = []
  · subst h0
    have ea : evE call [] (.app false 1 8) [.nilS, .rd 1 1 [.int .i64 y]] = some (.sl 0 1 0 1, [some (.data [.int .i64 y])]) := e_app_nil (H := []) rfl (by decide) (by decide)
    have hx : fzL [] = .nilS := by simp [fzL]
    rw [hx]
    repeat' first
 | (apply s_mov; exact aW)
 | (apply c_nil)
 | (apply s_cn; exact aO; exact e78n _)
 | (apply s_en; exact aO; exact ea)
 | (apply c_seq)
 | (apply c_reg)
 | (apply c_ret)
 | (with_reducible apply k_c)
    exact hgc 0 _ rfl _ rfl
  · have hlen : ch.length ≠ 0 := fun e => h0 (List.length_eq_zero_iff.1 e)
    have e8 := fun H => e78 (isL_fz ch) h0 (by omega) H
    have ea : evE call ([] ++ [some (.data (iL ch))]) (.app false 1 8) [.sl ([] : Heap).length 1 0 ch.length, .rd 1 1 [.int .i64 y]] = some (.sl 1 1 0 (ch.length + 1), [none, some (.data (iL (ch ++ [y])))]) := by
      have := e_app_sl (call := call) (q := 8) (id := 0) (H := [some (HO.data (iL ch))]) (bs := [.int .i64 y]) (n := 1) rfl (iL_len _) (by decide) (by unfold most; omega)
      simp at this ⊢
      rw [this]
      simp [iL]
    repeat' first
 | (apply s_mov; exact aW)
 | (apply c_nil)
 | (apply s_cn; exact aO; exact e8 _)
 | (apply s_en; exact aO; exact ea)
 | (apply c_seq)
 | (apply c_reg)
 | (apply c_ret)
 | (with_reducible apply k_c)
    exact hgc 1 _ rfl _ rfl
theorem gc_k2 {b : Bool} {gs : List AV} {n : Nat} {cs : List AV} {rest : Heap} (hg : idFreeL gs = true) : gc 2 ((if b then [.ptr 0 0] else []) ++ gs) (NH 0 n cs ++ rest) = some ((if b then [.ptr 0 0] else []) ++ gs, NH 0 n cs) := by
  have hb0 : boxCells (NH 0 n cs ++ rest) 0 = [.sl 1 4 0 n] := rfl
  have hb1 : boxCells (NH 0 n cs ++ rest) 1 = [] := rfl
  refine gc_of (φ := [0, 1]) ?_ rfl ?_ (Hp := NH 0 n cs) rfl rfl
  · rw [show rangeL 2 [] = [0, 1] from rfl]
    simp only [roots, hb0, hb1, List.append_nil, List.cons_append, List.nil_append]
    rw [reach_new, if_pos (by simp)]
    cases b with
    | true =>
      simp only [if_true, List.cons_append, List.nil_append]
      rw [reach_newp, if_pos (by simp), reach_free _ _ _ _ hg]
    | false => 
      simp only [Bool.false_eq_true, if_false, List.nil_append]
      rw [reach_free _ _ _ _ hg]
  · rw [renL_append, renL_free _ hg]
    cases b <;> simp [renL, AV.ren, posOf]
def G84 (w : List Int) (E : List Ed) (R0 : Nat → Int) (s : Nat) (r : Go.AM.R) : Prop := ∃ ch R', r = some (fzL ch, NH 0 (2 * E.length) (iL (arcs E R' (2 * E.length)))) ∧ FI w E R0 s 1 ch R'
abbrev HQ (n : Nat) (cs : List AV) (a b c d : Int) : Heap := NH 0 n cs ++ [some (.data [.int .i64 a, .int .i64 b, .int .i64 c, .int .i64 d])]
theorem hq_ld {E : List Ed} {R : Nat → Int} {n k t : Nat} {rest : Heap} (hk : k < n) (ht : t < 4) : evP (NH 0 n (iL (arcs E R n)) ++ rest) (.ld false 1) [.ptr 1 (4 * k + t)] = some (.int .i64 ([(aS E k : Int), (aD E k : Int), R k, aG E k].getD t 0)) := by
  have := p_ldD (H := NH 0 n (iL (arcs E R n)) ++ rest) (i := 1) (k := 4 * k + t) (l := arcs E R n) rfl (by rw [arcs_len]; omega)
  rw [this, arcs_get E R hk ht, getI_nat]
theorem hq_st {call : CallF} {E : List Ed} {R : Nat → Int} {n k : Nat} {rest : Heap} (hk : k < n) (x : Int) : evE call (NH 0 n (iL (arcs E R n)) ++ rest) (.st 1) [.ptr 1 (4 * k + 2), .int .i64 x] = some (.undef, NH 0 n (iL (arcs E (upd R k x) n)) ++ rest) := by
  have := e_stO (call := call) (H := NH 0 n (iL (arcs E R n)) ++ rest) (id := 1) (l := arcs E R n) (i := 4 * k + 2) (v := x) rfl (by rw [arcs_len]; omega)
  rw [this, arcs_set E R n k x hk]
  rfl
theorem ld_arcO {H : Heap} {E : List Ed} {R : Nat → Int} {n k : Nat} (hk : k < n) : evP (NH 0 n (iL (arcs E R n))) (.ld true 4) [.ptr 1 (4 * k)] = some (.agg [.int .i64 (aS E k : Int), .int .i64 (aD E k : Int), .int .i64 (R k), .int .i64 (aG E k)]) := by
  have h1 : (iL (arcs E R n)).drop (4 * k) = iL ((arcs E R n).drop (4 * k)) := by simp [iL, List.map_drop]
  have h2 : (iL ((arcs E R n).drop (4 * k))).take 4 = [.int .i64 (aS E k : Int), .int .i64 (aD E k : Int), .int .i64 (R k), .int .i64 (aG E k)] := by
    have : (iL ((arcs E R n).drop (4 * k))).take 4 = iL (((arcs E R n).drop (4 * k)).take 4) := by simp [iL, List.map_take]
    rw [this, arcs_at E R n k hk]
    rfl
  have h3 : 4 * k + 4 ≤ (iL (arcs E R n)).length := by rw [iL_len, arcs_len]; omega
  have hc : Heap.cells? (NH 0 n (iL (arcs E R n))) 1 = some (iL (arcs E R n)) := rfl
  simp only [evP, ldc, getRow, hc, Option.bind_some, if_pos h3, h1, h2, wholeOf, if_true]
theorem tak_eq (R e) : upd R (2 * e + 1) (R (2 * e + 1) - 1) = tak R e := by
  funext j
  unfold upd tak
  by_cases h : j = 2 * e + 1
  · subst h; rw [if_pos rfl]
  · rw [if_neg h, if_neg h]
set_option maxHeartbeats 4000000
theorem f84 {w : List Int} {E : List Ed} {R0 : Nat → Int} {s : Nat} (hn : Net w E) (hwl : w.length ≤ 60) (hE : E.length ≤ 4500) (hst : FI w E R0 s 0 [] R0) (hc1 : ∀ e i, e < E.length → eg E e = eU i → R0 (2 * e + 1) ≤ 1) (hb : ∀ e, e < E.length → R0 (2 * e + 1) ≤ 1048576) {m : Nat} (hm : 10000 ≤ m) :
    G84 w E R0 s (evF tab it m 84 [.ptr 0 0] (NH 0 (2 * E.length) (iL (arcs E R0 (2 * E.length))))) := by
  obtain ⟨m, rfl⟩ : ∃ j, m = j + 1 := ⟨m - 1, by omega⟩
  have e96 := fun {ch : List Int} {y : Int} (hl : ch.length ≤ 200) H => c96 (y := y) hl (m := m) (by omega) H
  have q0 : ∀ H, evP H (.fldA 0) [.ptr 0 0] = some (.ptr 0 0) := fun H => rfl
  have p0 : ∀ n cs rest, evP (NH 0 n cs ++ rest) (.ld false 1) [.ptr 0 0] = some (.sl 1 4 0 n) := fun n cs rest => p_ldX rfl rfl
  have p1 : ∀ n cs, evP (NH 0 n cs) (.ld false 1) [.ptr 0 0] = some (.sl 1 4 0 n) := fun n cs => p_ldX rfl rfl
  have gO : ∀ n cs (ch : List Int) (v : Int) rest, gc 2 [.ptr 0 0, fzL ch, .int .i64 v] (NH 0 n cs ++ rest) = some ([.ptr 0 0, fzL ch, .int .i64 v], NH 0 n cs) := fun n cs ch v rest => gc_k2 (b := true) (gs := [fzL ch, .int .i64 v]) (by simp [idFreeL, AV.idFree, fzL_free])
  have gI : ∀ n cs (ch : List Int) (v k : Int) rest, gc 2 [.ptr 0 0, fzL ch, .int .i64 v, .int .i64 k] (NH 0 n cs ++ rest) = some ([.ptr 0 0, fzL ch, .int .i64 v, .int .i64 k], NH 0 n cs) := fun n cs ch v k rest => gc_k2 (b := true) (gs := [fzL ch, .int .i64 v, .int .i64 k]) (by simp [idFreeL, AV.idFree, fzL_free])
  have gF : ∀ n cs (ch : List Int), gc 2 [fzL ch] (NH 0 n cs) = some ([fzL ch], NH 0 n cs) := fun n cs ch => by
    have := gc_k2 (b := false) (gs := [fzL ch]) (n := n) (cs := cs) (rest := []) (by simp [idFreeL, fzL_free])
    simpa using this
  have t1 : ∀ n cs a b c d call', evE call' (HQ n cs 0 0 0 0) (.st 4) [.ptr 2 0, .agg [.int .i64 a, .int .i64 b, .int .i64 c, .int .i64 d]] = some (.undef, HQ n cs a b c d) := fun n cs a b c d call' => rfl
  have t0 : ∀ n cs call', evE call' (NH 0 n cs) (.alloc true [.int .i64 0, .int .i64 0, .int .i64 0, .int .i64 0]) [] = some (.ptr 2 0, HQ n cs 0 0 0 0) := fun n cs call' => rfl
  have l0 : ∀ n cs a b c d, evP (HQ n cs a b c d) (.ld false 1) [.ptr 2 0] = some (.int .i64 a) := fun n cs a b c d => rfl
  have l1 : ∀ n cs a b c d, evP (HQ n cs a b c d) (.ld false 1) [.ptr 2 1] = some (.int .i64 b) := fun n cs a b c d => rfl
  have l3 : ∀ n cs a b c d, evP (HQ n cs a b c d) (.ld false 1) [.ptr 2 3] = some (.int .i64 d) := fun n cs a b c d => rfl
  have hf0 : fzL [] = .nilS := by simp [fzL]
  refine via_enter rfl rfl ?_
  show G84 w E R0 s (evC _ _ _ _ 2 (finish 2 _) _ (finish 2 _) _ _)
  generalize evF tab it m = call at *
  refine via (res := ?zr1) ?zw1 ?zg1
  case zw1 =>
    repeat' first
 | (apply s_mov; exact aW)
 | (apply c_nil)
 | (apply c_seq)
 | (apply c_reg)
 | (apply c_block)
 | (with_reducible apply k_c)
    exact c_end
  refine loop_P (G := G84 w E R0 s) (σ := Nat × List Int × (Nat → Int)) (fun s => [.ptr 0 0, fzL s.2.1, .int .i64 (s.1 : Int)]) (fun s => NH 0 (2 * E.length) (iL (arcs E s.2.2 (2 * E.length)))) (fun t => FI w E R0 s t.1 t.2.1 t.2.2 ∧ t.1 < 2 + 2 * w.length ∧ t.2.1.length ≤ pos t.1 w.length) (fun s => 2 * w.length + 2 - pos s.1 w.length) ?_ _ (0, [], R0) _ _ ⟨hst, by dsimp only; omega, by simp⟩ (by dsimp only; omega) ?_
  rotate_left
  · have := gO (2 * E.length) (iL (arcs E R0 (2 * E.length))) [] 0 []
    rw [hf0, List.append_nil] at this
    dsimp only
    rw [hf0]
    exact this
  rintro ⟨v, ch, R⟩ ⟨hF, hv, hcl⟩ K hK
  dsimp only at hF hv hcl hK ⊢
  by_cases h1 : v = 1
  · subst h1
    have hfin : ∀ env, look env 2 = fzL ch → finish 2 [.t 2] env (NH 0 (2 * E.length) (iL (arcs E R (2 * E.length)))) = some (fzL ch, NH 0 (2 * E.length) (iL (arcs E R (2 * E.length)))) := fun env h => by
      simp [finish, ress, resOf, h, tupOf, gF]
    have g1 := gF (2 * E.length) (iL (arcs E R (2 * E.length))) ch
    refine via (res := ?zr2) ?zw2 ?zg2
    case zw2 =>
      repeat' first
 | (apply s_mov; exact aW)
 | (apply c_nil)
 | (apply s_neq; exact rfl; all_goals (intro _; try (exfalso; omega)))
 | (apply c_pre; exact g1)
 | (apply c_seq)
 | (apply c_reg)
 | (apply c_exitH)
 | (apply c_ret)
 | (apply c_condF; exact rfl)
 | (with_reducible apply k_c)
      all_goals first
        | (exfalso; omega)
        | exact rfl
    exact ⟨ch, R, hfin _ rfl, hF⟩
  · obtain ⟨e0, he0, hu0, hr0⟩ := hF.out h1
    have hpv : pos v w.length ≤ 2 * w.length := by unfold pos; split <;> (try split) <;> omega
    refine via (res := ?zr3) ?zw3 ?zg3
    case zw3 =>
      repeat' first
 | (apply s_mov; exact aW)
 | (apply c_nil)
 | (apply s_neq; exact rfl; all_goals (intro _; try (exfalso; omega)))
 | (apply c_seq)
 | (apply c_reg)
 | (apply c_block)
 | (apply c_skip)
 | (apply c_condT; exact rfl)
 | (with_reducible apply k_c)
      all_goals first
        | (exfalso; omega)
        | exact c_end
    refine loop_P (G := G84 w E R0 s) (σ := Nat) (fun e => [.ptr 0 0, fzL ch, .int .i64 (v : Int), .int .i64 ((2 * e : Nat) : Int)]) (fun e => NH 0 (2 * E.length) (iL (arcs E R (2 * E.length)))) (fun e => e ≤ e0) (fun e => e0 - e) ?_ _ 0 _ _ (by omega) (by omega) ?_
    rotate_left
    · have := gI (2 * E.length) (iL (arcs E R (2 * E.length))) ch v 0 []
      rw [List.append_nil] at this
      exact this
    intro e hee K2 hK2
    have he : e < E.length := by omega
    have aS0 : aS E (2 * e) = (eg E e).u := by unfold aS; rw [if_pos (by omega), show 2 * e / 2 = e by omega]
    have aD0 : aD E (2 * e) = (eg E e).v := by unfold aD; rw [if_pos (by omega), show 2 * e / 2 = e by omega]
    have aG0 : aG E (2 * e) = (eg E e).g := by unfold aG; rw [if_pos (by omega), show 2 * e / 2 = e by omega]
    have i1 : ∀ H, evP H (.idxA 4) [.sl 1 4 0 (2 * E.length), .int .i64 ((2 * e : Nat) : Int)] = some (.ptr 1 (4 * (2 * e))) := fun H => p_idx4 (by omega)
    have i2 : ∀ H, evP H (.idxA 4) [.sl 1 4 0 (2 * E.length), .int .i64 (((2 * e : Nat) : Int) + 1)] = some (.ptr 1 (4 * (2 * e + 1))) := fun H => p_idx4 (k := 2 * e + 1) (by omega)
    have la := ld_arcO (H := []) (E := E) (R := R) (n := 2 * E.length) (k := 2 * e) (by omega)
    rw [aS0, aD0, aG0] at la
    have a2 : ∀ rest, evP (NH 0 (2 * E.length) (iL (arcs E R (2 * E.length))) ++ rest) (.ld false 1) [.ptr 1 (4 * (2 * e + 1) + 2)] = some (.int .i64 (R (2 * e + 1))) := fun rest => hq_ld (by omega) (t := 2) (by omega)
    have hnn := hF.nn e he
    have hle := hF.le e he
    have hbe := hb e he
    by_cases hu : (eg E e).u = v
    · by_cases hr : R (2 * e + 1) = 0
      · refine via (res := ?zr4) ?zw4 ?zg4
        case zw4 =>
          repeat' first
 | (apply s_mov; exact aW)
 | (apply s_gT; exact rfl)
 | (apply c_nil)
 | (apply s_pickF; exact rfl; exact aW)
 | (apply s_lss; exact rfl; all_goals (intro _; try (exfalso; omega)))
 | (apply s_eql; exact rfl; all_goals (intro _; try (exfalso; omega)))
 | (apply s_neq; exact rfl; all_goals (intro _; try (exfalso; omega)))
 | (apply s_add; exact rfl; omega)
 | (apply s_pn; exact aO; exact q0 _)
 | (apply s_pn; exact aO; exact p1 _ _)
 | (apply s_pn; exact aO; exact p0 _ _ _)
 | (apply s_pn; exact aO; exact i1 _)
 | (apply s_pn; exact aO; exact i2 _)
 | (apply s_pn; exact aO; exact la)
 | (apply s_en; exact aO; exact t0 _ _ _)
 | (apply s_st; exact aO; exact t1 _ _ _ _ _ _ _)
 | (apply s_pn; exact aO; exact l0 _ _ _ _ _ _)
 | (apply s_pn; exact aO; exact a2 _)
 | (apply s_lenSl; exact rfl)
 | (apply s_pd; exact aW)
 | (apply c_seq)
 | (apply c_reg)
 | (apply c_block)
 | (apply c_exitH)
 | (apply c_skip)
 | (apply c_condT; exact rfl)
 | (with_reducible apply k_c)
          all_goals first
            | (exfalso; omega)
            | exact rfl
        have : e ≠ e0 := fun h => by subst h; omega
        exact hK2 (e + 1) _ _ (by omega) (by omega) (gI _ _ _ _ _ _)
      · have hends := (hn.ends (k := 2 * e) (by omega)).2.1
        rw [aD0] at hends
        have hstep := hF.step hn hc1 he hu (by omega)
        have s1 : ∀ a b c d, evE call (HQ (2 * E.length) (iL (arcs E R (2 * E.length))) a b c d) (.st 1) [.ptr 1 (4 * (2 * e + 1) + 2), .int .i64 (R (2 * e + 1) - 1)] = some (.undef, HQ (2 * E.length) (iL (arcs E (tak R e) (2 * E.length))) a b c d) := fun a b c d => by
          rw [← tak_eq]; exact hq_st (by omega) _
        have b1 : ∀ (y : Int) (H : Heap), evE call H (.bldS true true 1 1 [.int .i64 0] [(0, 1)]) [.int .i64 y] = some (.rd 1 1 [.int .i64 y], H) := fun y H => rfl
        by_cases hg : (eg E e).g = 1
        · rw [if_pos hg] at hstep
          obtain ⟨f1, f2, f3⟩ := hstep
          have h2v := f3 hg
          have qu : ∀ H, evP H (.bin .quo) [.int .i64 ((v : Int) - 2), .int .i64 2] = some (.int .i64 (((v - 2) / 2 : Nat) : Int)) := fun H => by
            have e1 : ((v : Int) - 2) = ((v - 2 : Nat) : Int) := by omega
            have e2 : (((v - 2 : Nat) : Int)).tdiv 2 = (((v - 2) / 2 : Nat) : Int) := by rw [Int.tdiv_eq_ediv_of_nonneg (by omega)]; omega
            rw [e1]
            simp only [evP, binV, isShift, Bool.false_eq_true, if_false, if_true, binInt]
            rw [if_neg (by omega), e2, wrapI (a := (((v - 2) / 2 : Nat) : Int)) (by omega)]
          refine via (res := ?zr6) ?zw6 ?zg6
          case zw6 =>
            repeat' first
 | (apply s_mov; exact aW)
 | (apply s_gT; exact rfl)
 | (apply c_nil)
 | (apply s_pickF; exact rfl; exact aW)
 | (apply s_lss; exact rfl; all_goals (intro _; try (exfalso; omega)))
 | (apply s_eql; exact rfl; all_goals (intro _; try (exfalso; omega)))
 | (apply s_neq; exact rfl; all_goals (intro _; try (exfalso; omega)))
 | (apply s_add; exact rfl; omega)
 | (apply s_sub; exact rfl; omega)
 | (apply s_pn; exact aO; exact q0 _)
 | (apply s_pn; exact aO; exact p1 _ _)
 | (apply s_pn; exact aO; exact p0 _ _ _)
 | (apply s_pn; exact aO; exact i1 _)
 | (apply s_pn; exact aO; exact i2 _)
 | (apply s_pn; exact aO; exact la)
 | (apply s_en; exact aO; exact t0 _ _ _)
 | (apply s_st; exact aO; exact t1 _ _ _ _ _ _ _)
 | (apply s_pn; exact aO; exact l0 _ _ _ _ _ _)
 | (apply s_pn; exact aO; exact l1 _ _ _ _ _ _)
 | (apply s_pn; exact aO; exact l3 _ _ _ _ _ _)
 | (apply s_pn; exact aO; exact a2 _)
 | (apply s_st; exact aO; exact s1 _ _ _ _)
 | (apply s_pn; exact aO; exact qu _)
 | (apply s_en; exact aO; exact b1 _ _)
 | (apply s_cn; exact aO; exact e96 (by omega) _)
 | (apply s_lenSl; exact rfl)
 | (apply s_pd; exact aW)
 | (apply c_seq)
 | (apply c_reg)
 | (apply c_block)
 | (apply c_exitH)
 | (apply c_skip)
 | (apply c_condT; exact rfl)
 | (apply c_condF; exact rfl)
 | (apply c_exitM; exact rfl)
 | (with_reducible apply k_c)
            all_goals first
              | (exfalso; omega)
              | exact rfl
          exact hK ((eg E e).v, ch ++ [(((v - 2) / 2 : Nat) : Int)], tak R e) _ _ ⟨f1, hends, by dsimp only; rw [List.length_append, List.length_singleton]; omega⟩ (by dsimp only; omega) (gO _ _ _ _ _)
        · rw [if_neg hg] at hstep
          obtain ⟨f1, f2, f3⟩ := hstep
          have qu : ∀ H : Heap, evP H .mov [.nilS] = some .nilS := fun H => rfl
          refine via (res := ?zr7) ?zw7 ?zg7
          case zw7 =>
            repeat' first
 | (apply s_mov; exact aW)
 | (apply s_gT; exact rfl)
 | (apply c_nil)
 | (apply s_pickF; exact rfl; exact aW)
 | (apply s_lss; exact rfl; all_goals (intro _; try (exfalso; omega)))
 | (apply s_eql; exact rfl; all_goals (intro _; try (exfalso; omega)))
 | (apply s_neq; exact rfl; all_goals (intro _; try (exfalso; omega)))
 | (apply s_add; exact rfl; omega)
 | (apply s_sub; exact rfl; omega)
 | (apply s_pn; exact aO; exact q0 _)
 | (apply s_pn; exact aO; exact p1 _ _)
 | (apply s_pn; exact aO; exact p0 _ _ _)
 | (apply s_pn; exact aO; exact i1 _)
 | (apply s_pn; exact aO; exact i2 _)
 | (apply s_pn; exact aO; exact la)
 | (apply s_en; exact aO; exact t0 _ _ _)
 | (apply s_st; exact aO; exact t1 _ _ _ _ _ _ _)
 | (apply s_pn; exact aO; exact l0 _ _ _ _ _ _)
 | (apply s_pn; exact aO; exact l1 _ _ _ _ _ _)
 | (apply s_pn; exact aO; exact l3 _ _ _ _ _ _)
 | (apply s_pn; exact aO; exact a2 _)
 | (apply s_st; exact aO; exact s1 _ _ _ _)
 | (apply s_lenSl; exact rfl)
 | (apply s_pd; exact aW)
 | (apply c_seq)
 | (apply c_reg)
 | (apply c_block)
 | (apply c_exitH)
 | (apply c_skip)
 | (apply c_condT; exact rfl)
 | (apply c_condF; exact rfl)
 | (apply c_exitM; exact rfl)
 | (with_reducible apply k_c)
            all_goals first
              | (exfalso; omega)
              | exact rfl
          exact hK ((eg E e).v, ch, tak R e) _ _ ⟨f1, hends, by dsimp only; omega⟩ (by dsimp only; omega) (gO _ _ _ _ _)
    · refine via (res := ?zr5) ?zw5 ?zg5
      case zw5 =>
        repeat' first
 | (apply s_mov; exact aW)
 | (apply s_gF; exact rfl)
 | (apply c_nil)
 | (apply s_pickT; exact rfl; exact aW)
 | (apply s_lss; exact rfl; all_goals (intro _; try (exfalso; omega)))
 | (apply s_neq; exact rfl; all_goals (intro _; try (exfalso; omega)))
 | (apply s_add; exact rfl; omega)
 | (apply s_pn; exact aO; exact q0 _)
 | (apply s_pn; exact aO; exact p1 _ _)
 | (apply s_pn; exact aO; exact i1 _)
 | (apply s_pn; exact aO; exact la)
 | (apply s_en; exact aO; exact t0 _ _ _)
 | (apply s_st; exact aO; exact t1 _ _ _ _ _ _ _)
 | (apply s_pn; exact aO; exact l0 _ _ _ _ _ _)
 | (apply s_lenSl; exact rfl)
 | (apply s_pd; exact aW)
 | (apply c_seq)
 | (apply c_reg)
 | (apply c_block)
 | (apply c_exitH)
 | (apply c_skip)
 | (apply c_condT; exact rfl)
 | (with_reducible apply k_c)
        all_goals first
          | (exfalso; omega)
          | exact rfl
      have : e ≠ e0 := fun h => by subst h; omega
      exact hK2 (e + 1) _ _ (by omega) (by omega) (gI _ _ _ _ _ _)
set_option maxHeartbeats 4000000
def R00 (E : List Ed) : Nat → Int := fun k => if k % 2 = 0 then (eg E (k / 2)).c else 0
theorem cE_arcs (E : List Ed) : cE E = arcs E (R00 E) (2 * E.length) := by
  have : ∀ n, n ≤ E.length → cE (E.take n) = arcs E (R00 E) (2 * n) := by
    intro n
    induction n with
    | zero => intro _; rfl
    | succ n ih =>
      intro hn
      rw [List.take_succ_eq_append_getElem (by omega), cE_snoc, ih (by omega), show 2 * (n + 1) = 2 * n + 1 + 1 by omega, arcs_succ, arcs_succ]
      have e : eg E n = E[n] := by simp [eg, List.getD, show n < E.length by omega]
      have h0 : 2 * n % 2 = 0 := by omega
      have h1 : ¬ (2 * n + 1) % 2 = 0 := by omega
      have d0 : 2 * n / 2 = n := by omega
      have d1 : (2 * n + 1) / 2 = n := by omega
      simp only [aS, aD, aG, R00, h0, h1, if_true, if_false, d0, d1, e, cells8]
      simp
  have h := this E.length (Nat.le_refl _)
  rw [List.take_length] at h
  exact h
theorem ni_start {w E} (hn : Net w E) : NI w E (R00 E) 0 := by
  have h1 : ∀ e, R00 E (2 * e + 1) = 0 := fun e => by unfold R00; rw [if_neg (by omega)]
  refine ⟨hn, fun e he => ?_, fun π => ?_, fun e he => by rw [h1]; exact Int.le_refl _⟩
  · have h0 : R00 E (2 * e) = (eg E e).c := by unfold R00; rw [if_pos (by omega), show 2 * e / 2 = e by omega]
    rw [h0, h1]
    refine ⟨by omega, ?_, Int.le_refl _⟩
    obtain ⟨i, hi, hf⟩ := hn.form e he
    rcases hf with e1 | e1 | e1 | e1 | ⟨j, _, _, _, e1⟩ <;> rw [e1] <;> simp [eA, eU, eV, eL, eX, big]
  · unfold Fl
    rw [sZ_congr (g := fun _ => 0) _ fun e _ => by rw [h1, Int.zero_mul]]
    have : ∀ n, sZ n (fun _ => 0) = 0 := by intro n; induction n with
      | zero => rfl
      | succ n ih => rw [sZ, ih]; rfl
    rw [this]; simp
def p00 (w : List Int) : Nat → Int := fun v => if v = 0 then 0 else if v = 1 then (w.length : Int) else if v % 2 = 0 then (((v - 2) / 2 : Nat) : Int) else (((v - 1) / 2 : Nat) : Int)
theorem p00_ok {w E} (hn : Net w E) : ∀ k, k < 2 * E.length → 0 < R00 E k → p00 w (aS E k) + aG E k ≤ p00 w (aD E k) := by
  intro k hk hr
  unfold R00 at hr
  split at hr
  · rename_i hp
    obtain ⟨i, hi, hf⟩ := hn.form (k / 2) (by omega)
    unfold aS aD aG
    simp only [if_pos hp]
    have p0 : p00 w 0 = 0 := rfl
    have p1 : p00 w 1 = (w.length : Int) := rfl
    have pi : ∀ i, p00 w (2 + 2 * i) = (i : Int) := fun i => by unfold p00; rw [if_neg (by omega), if_neg (by omega), if_pos (by omega)]; omega
    have po : ∀ i, p00 w (3 + 2 * i) = (i : Int) + 1 := fun i => by unfold p00; rw [if_neg (by omega), if_neg (by omega), if_neg (by omega)]; omega
    rcases hf with e1 | e1 | e1 | e1 | ⟨j, h1, h2, _, e1⟩ <;> rw [e1] <;> simp only [eA, eU, eV, eL, eX, p0, p1, pi, po] <;> omega
  · omega
theorem p00_b (w : List Int) (hl : w.length ≤ 60) : ∀ v, v < 2 + 2 * w.length → -200 ≤ p00 w v ∧ p00 w v ≤ 200 := fun v hv => by
  unfold p00; split <;> (try split) <;> (try split) <;> omega
theorem callMut_nw {call : CallF} {f b d n : Nat} {H : Heap} {cs cs' : List AV} {rest : List AV} {r : AV} (hb : H[b]? = some (some (.box [.sl d 4 0 n]))) (hd : H[d]? = some (some (.data cs))) (hbd : b ≠ d) (hrest : idFreeL rest = true) (hc : call f (.ptr 0 0 :: rest) (NH 0 n cs) = some (r, NH 0 n cs')) (hr : r.idFree = true) :
    callMut call f (.ptr b 0 :: rest) H = some (r, H.set d (some (.data cs'))) := by
  have hbc : boxCells H b = [.sl d 4 0 n] := by simp [boxCells, hb]
  have hdc : boxCells H d = [] := by simp [boxCells, hd]
  have h1 : reach H 400 [] (.ptr b 0 :: rest) = [b, d] := by
    rw [reach_newp, if_neg (by simp), hbc]
    simp only [List.nil_append, List.cons_append]
    rw [reach_new, if_neg (by simp; exact fun e => hbd e.symm), hdc]
    simp only [List.nil_append, List.cons_append]
    rw [reach_free _ _ _ _ hrest]
  have h2 : subHeap [b, d] (.ptr b 0 :: rest) H = some (.ptr 0 0 :: rest, NH 0 n cs) := by
    have hnd : nodupB [b, d] = true := by simp [nodupB]; exact hbd
    have hbd' : ¬ b = d := hbd
    have q1 : posOf [b, d] b = some 0 := by simp [posOf]
    have q2 : posOf [b, d] d = some 1 := by simp [posOf, hbd']
    simp [subHeap, hnd, renL, AV.ren, q1, q2, renL_free _ hrest, pickO, hb, hd, renH, renO, NH]
  have hrr : r.ren (backOf H.length [b, d]) = some r := by
    have := renL_free (backOf H.length [b, d]) (xs := [r]) (by simp [idFreeL, hr])
    simp only [renL, Option.bind_eq_some_iff, Option.map_some, Option.some.injEq, List.cons.injEq, and_true] at this
    obtain ⟨y, h1, h2⟩ := this
    rw [h1, h2]
  have h3 : renH (backOf H.length [b, d]) (NH 0 n cs') = some [some (.box [.sl d 4 0 n]), some (.data cs')] := by
    simp [NH, renH, renO, renL, AV.ren, backOf]
  simp only [callMut, h1, h2, Option.bind_some, hc, hrr, h3, writeBack, Option.map_some, List.append_nil]
  have : H.set b (some (.box [.sl d 4 0 n])) = H := by
    obtain ⟨h4, h5⟩ := List.getElem?_eq_some_iff.1 hb
    rw [← h5]; exact List.set_getElem_self h4
  rw [this]
end Go.AM.Tb
