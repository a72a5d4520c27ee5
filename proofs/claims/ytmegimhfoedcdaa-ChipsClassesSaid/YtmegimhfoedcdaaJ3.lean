/- A part of the proof: E9 U45 U46 U66 E13 E14 U56 J2 J3. -/
import Derived.Test.YtmegimhfoedcdaaP21
import Derived.Test.YtmegimhfoedcdaaU15
import Derived.Test.YtmegimhfoedcdaaU63
import Derived.Test.YtmegimhfoedcdaaU17
import Derived.Test.YtmegimhfoedcdaaU39
import Derived.Test.YtmegimhfoedcdaaU52
import Derived.Test.YtmegimhfoedcdaaU53
set_option linter.unusedVariables false
set_option linter.unusedSimpArgs false
set_option linter.unusedSectionVars false
namespace Go.AM.Ch
attribute [local go_sem] gc subHeap reach_skip ren_free reach_new reach_newp reach_end rangeL roots boxCells nodupB posOf renL AV.ren pickO renH renO looks look bindEnv envOf reach_int reach_bool reach_nilS reach_rd putRow cells_sl cells_int cells_bool cells_nilS cells_rd cells_agg reach_agg reach_tup idFreeL idf_sl idf_ptr idf_int idf_bool idf_nilS idf_rd reach_fn reach_mp cells_fn cells_ptr cells_mp idf_mp idf_fn idf_agg idf_tup
set_option maxHeartbeats 8000000
theorem f29 {x : AV} {b : List (List Int)} (hx : IsLL x b) (hl : b.length < 100) {m : Nat} (hm : 2200 ≤ m) :
    evF tab it m 29 [x] [] = some (.tup [.int .i64 (if IsB b then trN b else 0), .int .i64 (if IsB b then 0 else 2)], []) := by
  obtain ⟨m, rfl⟩ : ∃ j, m = j + 1 := ⟨m - 1, by omega⟩
  have fx := hx.free
  have e60 := fun H => c60 hx hl (m := m) (by omega) H
  by_cases hB : IsB b
  · rw [decide_eq_true hB] at e60
    rw [if_pos hB, if_pos hB]
    have e61a := fun H => callPure_free (H := H) (call := evF tab it m) (f := 61) (args := [x, .int .i64 2147483647]) (by simp [idFreeL, AV.idFree, fx]) (by simp) (f61 hx hB (p := 2147483647) (by omega) nd1 (m := m) (by omega)) rfl
    have e61b := fun H => callPure_free (H := H) (call := evF tab it m) (f := 61) (args := [x, .int .i64 2147483629]) (by simp [idFreeL, AV.idFree, fx]) (by simp) (f61 hx hB (p := 2147483629) (by omega) nd2 (m := m) (by omega)) rfl
    have ht := trN_le hB
    have hcr := crt2 (N := trN b) (by omega) (by omega)
    have iP : IsL (.rd 1 2 (iL [2147483647, 2147483629])) [2147483647, 2147483629] := rd_isL rfl
    have iR : IsL (.rd 1 2 (iL [trN b % 2147483647, trN b % 2147483629])) [trN b % 2147483647, trN b % 2147483629] := rd_isL rfl
    have e62 : callPure (evF tab it m) true 62 [.sl 0 1 0 2, .rd 1 2 (iL [2147483647, 2147483629])] [some (.data (iL [trN b % 2147483647, trN b % 2147483629]))] = some (.tup [.int .i64 (trN b), .int .i64 4611685975477714963, .int .i64 0], [some (.data (iL [trN b % 2147483647, trN b % 2147483629]))]) := by
      have f := f62 iR iP (m := m) (by omega)
      rw [hcr] at f
      exact callPure_own (frzL_cons (frz_sl rfl rfl) (frzL_cons rfl frzL_nil)) f rfl (by simp) rfl
    have bl2 : ∀ call H, evE call H (.bldS true true 1 2 [.int .i64 0] [(0, 1), (1, 1)]) [.int .i64 2147483647, .int .i64 2147483629] = some (.rd 1 2 (iL [2147483647, 2147483629]), H) := fun call H => rfl
    have bl1 : ∀ call H (a : Int), evE call H (.bldS true true 1 1 [.int .i64 0] [(0, 1)]) [.int .i64 a] = some (.rd 1 1 (iL [a]), H) := fun call H a => rfl
    have ap0 : ∀ call (a : Int), evE call [] (.app false 1 8) [.nilS, .rd 1 1 (iL [a])] = some (.sl 0 1 0 1, [some (.data (iL [a]))]) := fun call a => e_app_nil rfl (by omega) (by decide)
    have ap1 : ∀ call (c a : Int), evE call [some (.data (iL [c]))] (.app false 1 8) [.sl 0 1 0 1, .rd 1 1 (iL [a])] = some (.sl 1 1 0 2, [none, some (.data (iL [c, a]))]) := fun call c a => e_app_sl (q := 8) (id := 0) (H := [some (.data (iL [c]))]) (cs := iL [c]) (bs := iL [a]) (n := 1) (k := 1) rfl rfl (by omega) (by decide)
    have hr1 := trN b % 2147483647
    refine f_enter rfl rfl ?_
    generalize trN b % 2147483647 = r1 at *
    generalize trN b % 2147483629 = r2 at *
    generalize trN b = T at *
    generalize evF tab it m = call at *
    repeat' first
 | (apply s_mov; exact aW)
 | (apply c_nil)
 | (apply s_notT; exact rfl)
 | (apply s_cn; exact aO; exact e60 _)
 | (apply s_en; exact aO; exact bl2 _ _)
 | (apply s_len; exact aW; exact aI)
 | (apply c_seq)
 | (apply c_reg)
 | (apply c_block)
 | (apply c_skip)
 | (apply c_condF; exact rfl)
 | (with_reducible apply k_c)
    all_goals try (exfalso; omega)
    refine c_loop ?_
    refine loop_gc (σ := Nat) (fun k => [x, .rd 1 2 (iL [2147483647, 2147483629]), if k = 0 then .nilS else .sl 0 1 0 k, .rd 1 2 (iL [2147483647, 2147483629]), .int .i64 2, .int .i64 (k : Int)]) (fun k => if k = 0 then [] else if k = 1 then [some (.data (iL [r1]))] else [some (.data (iL [r1, r2]))]) (fun k => k ≤ 2) (fun k => 2 - k) ?_ _ 0 _ _ (by omega) (by omega) (by rw [if_pos rfl, if_pos rfl]; exact gc_to rfl (by simp [idFreeL, AV.idFree, fx]))
    intro k hk K hK
    rcases (by omega : k = 0 ∨ k = 1 ∨ k = 2) with rfl | rfl | rfl
    · have hK1 := hK 1
      simp only [if_true, if_false, show ¬ (1 : Nat) = 0 by omega] at hK1 ⊢
      clear hK
      have l0 : ∀ H, evP H (.ld false 1) [.rp (iL [2147483647, 2147483629])] = some (.int .i64 2147483647) := fun H => rfl
      have i0 : ∀ H, evP H (.idxA 1) [.rd 1 2 (iL [2147483647, 2147483629]), .int .i64 ((0 : Nat) : Int)] = some (.rp (iL [2147483647, 2147483629])) := fun H => rfl
      repeat' first
 | (apply s_mov; exact aW)
 | (apply c_nil)
 | (apply s_lss; exact rfl; all_goals (intro _; try (exfalso; omega)))
 | (apply s_add; exact rfl; omega)
 | (apply s_pn; exact aO; exact i0 _)
 | (apply s_pn; exact aO; exact l0 _)
 | (apply s_cn; exact aO; exact e61a _)
 | (apply s_en; exact aO; exact bl1 _ _ _)
 | (apply s_en; exact aO; exact ap0 _ _)
 | (apply c_seq)
 | (apply c_reg)
 | (apply c_block)
 | (apply c_skip)
 | (apply c_condT; exact rfl)
 | (with_reducible apply k_c)
      all_goals try (exfalso; omega)
      refine hK1 _ _ (by omega) (by omega) ?_
      exact (by simp [go_sem, fx, iL]; done)
    · have hK1 := hK 2
      simp only [if_true, if_false, show ¬ (1 : Nat) = 0 by omega, show ¬ (2 : Nat) = 0 by omega, show ¬ (2 : Nat) = 1 by omega] at hK1 ⊢
      clear hK
      have l0 : ∀ H, evP H (.ld false 1) [.rp (iL [2147483629])] = some (.int .i64 2147483629) := fun H => rfl
      have i0 : ∀ H, evP H (.idxA 1) [.rd 1 2 (iL [2147483647, 2147483629]), .int .i64 ((1 : Nat) : Int)] = some (.rp (iL [2147483629])) := fun H => rfl
      repeat' first
 | (apply s_mov; exact aW)
 | (apply c_nil)
 | (apply s_lss; exact rfl; all_goals (intro _; try (exfalso; omega)))
 | (apply s_add; exact rfl; omega)
 | (apply s_pn; exact aO; exact i0 _)
 | (apply s_pn; exact aO; exact l0 _)
 | (apply s_cn; exact aO; exact e61b _)
 | (apply s_en; exact aO; exact bl1 _ _ _)
 | (apply s_en; exact aO; exact ap1 _ _ _)
 | (apply c_seq)
 | (apply c_reg)
 | (apply c_block)
 | (apply c_skip)
 | (apply c_condT; exact rfl)
 | (with_reducible apply k_c)
      all_goals try (exfalso; omega)
      refine hK1 _ _ (by omega) (by omega) ?_
      exact (by simp [go_sem, fx, iL]; done)
    · simp only [if_false, show ¬ (2 : Nat) = 0 by omega, show ¬ (2 : Nat) = 1 by omega]
      clear hK
      repeat' first
 | (apply c_nil)
 | (apply s_lss; exact rfl; all_goals (intro _; try (exfalso; omega)))
 | (apply c_seq)
 | (apply c_reg)
 | (apply c_exitH)
 | (apply c_condF; exact rfl)
 | (with_reducible apply k_c)
      all_goals try (exfalso; omega)
      refine c_pre (vs := [.rd 1 2 (iL [2147483647, 2147483629]), .sl 0 1 0 2]) (H' := [some (.data (iL [r1, r2]))]) (by simp [go_sem, iL]; done) ?_
      repeat' first
 | (apply s_mov; exact aW)
 | (apply c_nil)
 | (apply s_cn; exact aO; exact e62)
 | (apply s_pd; exact aW)
 | (apply c_seq)
 | (apply c_reg)
 | (apply c_ret)
 | (with_reducible apply k_c)
      exact fin_tt (by (conv => lhs; whnf)) (by (conv => lhs; whnf)) (by rfl) (by rfl) rfl
  · rw [decide_eq_false hB] at e60
    rw [if_neg hB, if_neg hB]
    refine f_enter rfl rfl ?_
    generalize evF tab it m = call at *
    repeat' first
 | (apply s_mov; exact aW)
 | (apply c_nil)
 | (apply s_notF; exact rfl)
 | (apply s_cn; exact aO; exact e60 _)
 | (apply c_seq)
 | (apply c_reg)
 | (apply c_ret)
 | (apply c_condT; exact rfl)
 | (with_reducible apply k_c)
    exact fin_tt (by (conv => lhs; whnf)) (by (conv => lhs; whnf)) (by rfl) (by rfl) rfl
theorem c29 {x : AV} {b : List (List Int)} (hx : IsLL x b) (hl : b.length < 100) {m : Nat} (hm : 2200 ≤ m) (H : Heap) :
    callPure (evF tab it m) true 29 [x] H = some (.tup [.int .i64 (if IsB b then trN b else 0), .int .i64 (if IsB b then 0 else 2)], H) :=
  callPure_free (by simp [idFreeL, hx.free]) (by simp) (f29 hx hl hm) rfl
set_option maxHeartbeats 8000000
def pl2 (a c : List Int) (k : Int) : List Int := (List.range a.length).map fun (i : Nat) => 2 * getI a (i : Int) + k * getI c (i : Int)
theorem pl2_len (a c : List Int) (k : Int) : (pl2 a c k).length = a.length := by simp [pl2]
theorem pl2_get {a c : List Int} {k : Int} {i : Nat} (h : i < a.length) : getI (pl2 a c k) (i : Int) = 2 * getI a (i : Int) + k * getI c (i : Int) := by
  rw [getI_nat]
  simp [pl2, List.getD, h]
def topZ (a : Int) (j : Nat) : Int := if a < 0 then -((a.natAbs / 2 ^ j : Nat) : Int) else ((a.natAbs / 2 ^ j : Nat) : Int)
def digZ (a : Int) (j : Nat) : Int := if a < 0 then -((a.natAbs / 2 ^ j % 2 : Nat) : Int) else ((a.natAbs / 2 ^ j % 2 : Nat) : Int)
theorem topZ_step (a : Int) (j : Nat) : topZ a j = 2 * topZ a (j + 1) + digZ a j := by
  have h : a.natAbs / 2 ^ (j + 1) = a.natAbs / 2 ^ j / 2 := by rw [Nat.pow_succ, Nat.div_div_eq_div_mul]
  unfold topZ digZ
  rw [h]
  split <;> omega
theorem topZ_big {a : Int} (h : -1048576 ≤ a ∧ a ≤ 1048576) : topZ a 41 = 0 := by
  have e : (2 : Nat) ^ 41 = 2199023255552 := by decide
  have : a.natAbs / 2 ^ 41 = 0 := Nat.div_eq_of_lt (by rw [e]; omega)
  unfold topZ
  rw [this]
  split <;> rfl
theorem topZ_le {a : Int} (h : -1048576 ≤ a ∧ a ≤ 1048576) (j : Nat) : -1048576 ≤ topZ a j ∧ topZ a j ≤ 1048576 := by
  have h1 : a.natAbs / 2 ^ j ≤ a.natAbs := Nat.div_le_self _ _
  have h2 : a.natAbs ≤ 1048576 := by omega
  unfold topZ
  generalize a.natAbs / 2 ^ j = N at *
  split <;> omega
theorem digZ_le (a : Int) (j : Nat) : -1 ≤ digZ a j ∧ digZ a j ≤ 1 := by
  unfold digZ
  generalize a.natAbs / 2 ^ j = N at *
  split <;> omega
def topL (s : List Int) (j : Nat) : List Int := s.map fun a => topZ a j
def digL (s : List Int) (j : Nat) : List Int := s.map fun a => digZ a j
theorem topL_get {s : List Int} {j v : Nat} (h : v < s.length) : getI (topL s j) (v : Int) = topZ (getI s (v : Int)) j := by
  rw [getI_nat, getI_nat]; simp [topL, List.getD, h]
theorem digL_get {s : List Int} {j v : Nat} (h : v < s.length) : getI (digL s j) (v : Int) = digZ (getI s (v : Int)) j := by
  rw [getI_nat, getI_nat]; simp [digL, List.getD, h]
theorem apl_digit {b : List (List Int)} (hB : IsB b) {s T : List Int} (hs : s.length = b.length) (hT : T.length = b.length) (j : Nat) : pl2 (apl b (topL s (j + 1)) T) (digL s j) 1 = apl b (topL s j) (pl2 T T 0) := by
  refine ext_getI (by rw [pl2_len, apl_len, apl_len]) fun i hi => ?_
  rw [pl2_len, apl_len] at hi
  rw [pl2_get (by rw [apl_len]; exact hi), apl_ap hB _ _ hi, apl_ap hB _ _ hi, digL_get (by omega)]
  have e1 : gf (topL s (j + 1)) i = topZ (getI s (i : Int)) (j + 1) := topL_get (by omega)
  have e2 : gf (topL s j) i = topZ (getI s (i : Int)) j := topL_get (by omega)
  have e3 : net b.length (ed b) (gf (pl2 T T 0)) i = 2 * net b.length (ed b) (gf T) i := by
    rw [← net_mul]
    exact net_congr hi fun k hk => by
      have := pl2_get (a := T) (c := T) (k := 0) (i := k) (by omega)
      unfold gf
      rw [this, Int.zero_mul]
      omega
  have e4 := topZ_step (getI s (i : Int)) j
  unfold ap
  rw [e1, e2, e3, e4]
  omega
set_option maxHeartbeats 8000000
structure DigOk (b : List (List Int)) (s : List Int) (q j : Nat) (N : List Int) : Prop where
  len : N.length = b.length
  eqv : ∃ T : List Int, T.length = b.length ∧ N = apl b (topL s j) T
  red : j < 41 → Red b.length (ed b) q (gf N)
  low : ∀ v, v < b.length → v ≠ q → 0 ≤ gf N v ∧ gf N v ≤ 30
theorem DigOk.own {b : List (List Int)} (hB : IsB b) {s : List Int} (hs : InR b.length 1048576 s) {q : Nat} (hq : q < b.length) {j : Nat} {N : List Int} (h : DigOk b s q j N) : ∀ v : Nat, v < b.length → -10486060 ≤ getI N (v : Int) ∧ getI N (v : Int) ≤ 10486060 := fun v hv => by
  by_cases e : v = q
  · subst e
    obtain ⟨T, hT, rfl⟩ := h.eqv
    have := at_q (gr_of hB) hq hB.n2 (l := gf (topL s j)) (t := gf T) (M := 1048576) (by decide) (fun w hw => by
      have e2 : gf (topL s j) w = topZ (getI s (w : Int)) j := topL_get (by rw [hs.1]; exact hw)
      rw [e2]
      exact topZ_le (inR_get hs w hw) j) (P := 30) (by decide) (fun w hw hwq => by
      rw [← apl_ap hB _ _ hw]
      have := h.low w hw hwq
      unfold gf at this
      omega)
    rw [apl_ap hB _ _ hv]
    omega
  · have := h.low v hv e
    unfold gf at this
    omega
theorem DigOk.near {b : List (List Int)} (hB : IsB b) {s : List Int} (hs : InR b.length 1048576 s) {q : Nat} (hq : q < b.length) {j : Nat} {N : List Int} (h : DigOk b s q (j + 1) N) : Near b.length q (pl2 N (digL s j) 1) := by
  refine ⟨by rw [pl2_len]; exact h.len, fun v hv hvq => ?_, ?_⟩
  · rw [pl2_get (by rw [h.len]; exact hv), digL_get (by rw [hs.1]; exact hv)]
    have := h.low v hv hvq
    have := digZ_le (getI s (v : Int)) j
    unfold gf at *
    omega
  · rw [pl2_get (by rw [h.len]; exact hq), digL_get (by rw [hs.1]; exact hq)]
    have := h.own hB hs hq q hq
    have := digZ_le (getI s (q : Int)) j
    omega
theorem DigOk.next {b : List (List Int)} (hB : IsB b) {s : List Int} (hs : InR b.length 1048576 s) {q : Nat} (hq : q < b.length) {j : Nat} {N : List Int} (h : DigOk b s q (j + 1) N) : DigOk b s q j (redL b (pl2 N (digL s j) 1) q) := by
  obtain ⟨T, hT, he⟩ := h.eqv
  have hr := redL_red hB (pl2 N (digL s j) 1) hq
  have hl := (redT_ok hB (pl2 N (digL s j) 1) hq).1
  have hn2 := hB.n2
  refine ⟨redL_len _ _ _, ⟨pl (pl2 T T 0) (redT b (pl2 N (digL s j) 1) q), by rw [pl_len, pl2_len]; exact hT, ?_⟩, fun _ => hr, fun v hv hvq => ?_⟩
  · unfold redL
    have e : pl2 N (digL s j) 1 = apl b (topL s j) (pl2 T T 0) := by rw [he]; exact apl_digit hB hs.1 hT j
    conv => lhs; arg 2; rw [e]
    exact apl_pl hB (by rw [pl2_len]; exact hT)
  · have := red_lt (gr_of hB) hr hv hvq
    omega
theorem DigOk.first {b : List (List Int)} (hB : IsB b) {s : List Int} (hs : InR b.length 1048576 s) (q : Nat) : DigOk b s q 41 (List.replicate b.length 0) := by
  have hz : topL s 41 = List.replicate b.length 0 := list_zero (by simp [topL, hs.1]) fun v hv => by rw [topL_get (by rw [hs.1]; exact hv)]; exact topZ_big (inR_get hs v hv)
  refine ⟨by simp, ⟨List.replicate b.length 0, by simp, by rw [hz]; exact (apl_zero hB (by simp)).symm⟩, fun h => by omega, fun v hv _ => ?_⟩
  have e : gf (List.replicate b.length 0) v = 0 := by unfold gf; rw [getI_nat]; simp [List.getD, hv]
  omega
set_option maxHeartbeats 8000000
theorem f63 {x : AV} {l : List Int} (hx : IsL x l) (hl : l.length ≤ 1000) (hb : ∀ j : Nat, j < l.length → -1099511627776 ≤ getI l (j : Int) ∧ getI l (j : Int) ≤ 1099511627776) {m : Nat} (hm : 1010 ≤ m) : evF tab it m 63 [x] [] = some (.int .i64 (sumTo (gf l) l.length), []) := by
  obtain ⟨m, rfl⟩ : ∃ j, m = j + 1 := ⟨m - 1, by omega⟩
  have fx := hx.free
  have lx : ∀ H, evP H .len [x] = some (.int .i64 ((l.length : Nat) : Int)) := fun H => p_lenI hx
  refine f_enter rfl rfl ?_
  generalize evF tab it m = call at *
  repeat' first
 | (apply s_mov; exact aW)
 | (apply c_nil)
 | (apply s_pn; exact aO; exact lx _)
 | (apply c_seq)
 | (apply c_reg)
 | (apply c_block)
 | (with_reducible apply k_c)
  refine c_loop ?_
  refine loop_gc (σ := Nat) (fun i => [.int .i64 (sumTo (fun j => getI l (j : Int)) i), x, .int .i64 ((l.length : Nat) : Int), .int .i64 (i : Int)]) (fun _ => []) (fun i => i ≤ l.length) (fun i => l.length - i) ?_ _ 0 _ _ (by omega) (by omega) (gc_to rfl (by simp [idFreeL, AV.idFree, *]; done))
  intro i hi K hK
  have hbd := sumTo_le (f := fun j => getI l (j : Int)) (M := 1099511627776) (n := i) fun j hj => hb j (by omega)
  by_cases hil : i < l.length
  · have hgi := hb i hil
    repeat' first
 | (apply s_mov; exact aW)
 | (apply c_nil)
 | (apply s_lss; exact rfl; all_goals (intro _; try (exfalso; omega)))
 | (apply s_add; exact rfl; omega)
 | (apply s_idx; exact aW; exact rfl; exact aI; omega)
 | (apply s_ldI; exact rfl; omega)
 | (apply c_seq)
 | (apply c_reg)
 | (apply c_block)
 | (apply c_skip)
 | (apply c_condT; exact rfl)
 | (with_reducible apply k_c)
    all_goals exact hK (i + 1) _ _ (by omega) (by omega) (gc_to rfl (by simp [idFreeL, AV.idFree, *]; done))
  · obtain rfl : i = l.length := by omega
    repeat' first
 | (apply s_mov; exact aW)
 | (apply c_nil)
 | (apply s_lss; exact rfl; all_goals (intro _; try (exfalso; omega)))
 | (apply c_seq)
 | (apply c_reg)
 | (apply c_exitH)
 | (apply c_ret)
 | (apply c_condF; exact rfl)
 | (apply c_preF; exact aK; exact aF)
 | (with_reducible apply k_c)
    exact fin_t (v := .int .i64 (sumTo (gf l) l.length)) (by rfl) (by rfl) rfl
theorem c63 {x : AV} {l : List Int} (hx : IsL x l) (hl : l.length ≤ 1000) (hb : ∀ j : Nat, j < l.length → -1099511627776 ≤ getI l (j : Int) ∧ getI l (j : Int) ≤ 1099511627776) {m : Nat} (hm : 1010 ≤ m) (H : Heap) : callPure (evF tab it m) true 63 [x] H = some (.int .i64 (sumTo (gf l) l.length), H) :=
  callPure_free (by simp [idFreeL, hx.free]) (by simp) (f63 hx hl hb hm) rfl
set_option maxHeartbeats 8000000
theorem f30 {x y : AV} {b : List (List Int)} {s : List Int} (hx : IsLL x b) (hy : IsL y s) (hl : b.length < 100) (hs : s.length ≤ 1000) {m : Nat} (hm : smK + 30 ≤ m) (hm2 : 10200000 ≤ m) :
    evF tab it m 30 [x, y] [] = some (.tup (if IsB b ∧ InR b.length 1048576 s then (if sumTo (gf s) b.length = 0 then [.int .i64 (ordS b s : Int), .int .i64 0] else [.int .i64 0, .int .i64 6]) else [.int .i64 0, .int .i64 2]), []) := by
  obtain ⟨m, rfl⟩ : ∃ j, m = j + 1 := ⟨m - 1, by omega⟩
  have hK := smK_big
  have fx := hx.free; have fy := hy.free
  have e52 := fun H => c52 hx hy hl hs (m := m) (by omega) H
  by_cases hBI : IsB b ∧ InR b.length 1048576 s
  · obtain ⟨hB, hI⟩ := hBI
    have hBI : IsB b ∧ InR b.length 1048576 s := ⟨hB, hI⟩
    rw [if_pos hBI] at e52 ⊢
    have hn1 := hB.n1
    have hsl := hI.1
    have hsv := fun v hv => inR_get hI v hv
    have e63 := fun H => c63 hy hs (fun j hj => by have := hsv j (by omega); omega) (m := m) (by omega) H
    rw [hsl] at e63
    by_cases h0 : sumTo (gf s) b.length = 0
    · rw [if_pos h0]
      rw [h0] at e63
      have e29 := fun H => c29 hx hl (m := m) (by omega) H
      rw [if_pos hB, if_pos hB] at e29
      have e54 := fun H => c54 (q := 0) hx hy hB hI hn1 (m := m) (by omega) H
      have hTl := (redT_ok hB s hn1).1
      have hT := redT_le hB hn1 (M := 1048576) (by omega) (l := s) fun v hv h0 => by have := hsv v hv; omega
      have e55 := fun H => c55 hx hy (rd_isL hTl) hB.bd hsl hTl (fun v hv => by have := hT v hv; omega) (fun v hv => by have := hsv v hv; omega) (m := m) (by omega) H
      rw [apl_len] at e55
      have er : apl b s (redT b s 0) = redL b s 0 := rfl
      rw [er] at e55
      have ht := trN_le hB
      obtain ⟨o1, o2⟩ := ordS_spec hB h0
      have hoN : ordS b s ∣ (trN b).toNat := by
        have := ordS_tr hB h0
        rw [← Int.toNat_of_nonneg (show 0 ≤ trN b by omega)] at this
        exact Int.natCast_dvd_natCast.1 this
      have f := f64 (m := m) (o := ordS b s) (N := (trN b).toNat) hx hB (rz_of hB h0) o1 (ordS_red hB h0) ⟨by omega, by omega⟩ hoN (by omega) (by omega)
      rw [Int.toNat_of_nonneg (show 0 ≤ trN b by omega)] at f
      have e64 := fun H => callPure_free (H := H) (by simp [idFreeL, AV.idFree, fx]) (by simp) f rfl
      clear f o2 hoN hT hsv
      refine f_enter rfl rfl ?_
      generalize evF tab it m = call at *
      generalize trN b = T at *
      generalize ordS b s = O at *
      repeat' first
 | (apply s_mov; exact aW)
 | (apply c_nil)
 | (apply s_neq; exact rfl; all_goals (intro _; try (exfalso; omega)))
 | (apply s_cn; exact aO; exact e52 _)
 | (apply s_cn; exact aO; exact e63 _)
 | (apply s_cn; exact aO; exact e29 _)
 | (apply s_cn; exact aO; exact e54 _)
 | (apply s_cn; exact aO; exact e55 _)
 | (apply s_cn; exact aO; exact e64 _)
 | (apply s_pd; exact aW)
 | (apply c_seq)
 | (apply c_reg)
 | (apply c_skip)
 | (apply c_ret)
 | (apply c_condF; exact rfl)
 | (with_reducible apply k_c)
      all_goals first
        | (exfalso; omega)
        | exact fin_tt (by (conv => lhs; whnf)) (by (conv => lhs; whnf)) (by rfl) (by rfl) rfl
    · rw [if_neg h0]
      refine f_enter rfl rfl ?_
      generalize evF tab it m = call at *
      generalize sumTo (gf s) b.length = S at *
      repeat' first
 | (apply s_mov; exact aW)
 | (apply c_nil)
 | (apply s_neq; exact rfl; all_goals (intro _; try (exfalso; omega)))
 | (apply s_cn; exact aO; exact e52 _)
 | (apply s_cn; exact aO; exact e63 _)
 | (apply c_seq)
 | (apply c_reg)
 | (apply c_skip)
 | (apply c_ret)
 | (apply c_condT; exact rfl)
 | (apply c_condF; exact rfl)
 | (with_reducible apply k_c)
      all_goals first
        | (exfalso; omega)
        | exact fin_tt (by (conv => lhs; whnf)) (by (conv => lhs; whnf)) (by rfl) (by rfl) rfl
  · rw [if_neg hBI] at e52 ⊢
    refine f_enter rfl rfl ?_
    generalize evF tab it m = call at *
    repeat' first
 | (apply s_mov; exact aW)
 | (apply c_nil)
 | (apply s_neq; exact rfl; all_goals (intro _; try (exfalso; omega)))
 | (apply s_cn; exact aO; exact e52 _)
 | (apply c_seq)
 | (apply c_reg)
 | (apply c_ret)
 | (apply c_condT; exact rfl)
 | (with_reducible apply k_c)
    all_goals first
      | (exfalso; omega)
      | exact fin_tt (by (conv => lhs; whnf)) (by (conv => lhs; whnf)) (by rfl) (by rfl) rfl
set_option maxHeartbeats 8000000
theorem c34t {x : AV} {b : List (List Int)} {w : Nat} (hx : IsLL x b) (hb : b.length < 9223372036854775808) (hw : 1 ≤ w ∧ w ≤ 10) {m : Nat} (hm : 100 ≤ m) (H : Heap) :
    callPure (evF tab it m) true 34 [x, .int .i64 (w : Int)] H = some (fzLL (growL b w), H) :=
  callPure_frz (by simp [idFreeL, AV.idFree, hx.free]) (by simp) (f34 hx hb hw hm) (hb_frz (growL_rows b w) (grN_le b hw.1).1 (by have := (grN_le b hw.1).2; omega))
def balL (s : List Int) : List Int := s.set 0 (getI s 0 - sumI s)
theorem balL_len (s : List Int) : (balL s).length = s.length := by simp [balL]
theorem balL_get {s : List Int} (h : 0 < s.length) (v : Nat) : gf (balL s) v = if v = 0 then gf s 0 - sumTo (gf s) s.length else gf s v := by
  show getI (s.set 0 _) (v : Int) = _
  rw [getI_set h]
  rfl
theorem balL_sum {s : List Int} (h : 0 < s.length) : sumTo (gf (balL s)) s.length = 0 := by
  obtain ⟨n, hn⟩ : ∃ n, s.length = n + 1 := ⟨s.length - 1, by omega⟩
  have hg := balL_get h
  have e1 : sumTo (fun j => gf (balL s) (j + 1)) n = sumTo (fun j => gf s (j + 1)) n := sumTo_congr fun j hj => by rw [hg, if_neg (by omega)]
  have e2 := sumTo_front' (gf s) n
  rw [hn, sumTo_front', e1, hg, if_pos rfl, hn]
  omega
theorem balL_bd {s : List Int} {w : Int} (h : 0 < s.length) (hl : s.length ≤ 10) (hw : 0 ≤ w) (hb : ∀ v : Nat, v < s.length → -w ≤ getI s (v : Int) ∧ getI s (v : Int) ≤ w) : ∀ v : Nat, v < s.length → -(11 * w) ≤ getI (balL s) (v : Int) ∧ getI (balL s) (v : Int) ≤ 11 * w := fun v hv => by
  have hs := sumTo_le (f := gf s) (M := w) (n := s.length) hb
  have h1 : (s.length : Int) * w ≤ 10 * w := Int.mul_le_mul_of_nonneg_right (by omega) hw
  have hg := balL_get h v
  have e : gf (balL s) v = getI (balL s) (v : Int) := rfl
  have h0 := hb 0 h
  have e0 : gf s 0 = getI s ((0 : Nat) : Int) := rfl
  rw [← e, hg]
  split
  · omega
  · have := hb v hv
    have e2 : gf s v = getI s (v : Int) := rfl
    omega
theorem c32p {id n : Nat} {l : List Int} (hn : l.length = n) (hl : l.length ≤ 1000) (hb : ∀ v ∈ l, -1099511627776 ≤ v ∧ v ≤ 1099511627776) {m : Nat} (hm : 1010 ≤ m) {H : Heap} (h : H.data? id = some (iL l)) : callPure (evF tab it m) true 32 [.sl id 1 0 n] H = some (.int .i64 (sumI l), H) := by
  have f := f32 (rd_isL hn) hl hb hm
  exact callPure_own (frzL_cons (frz_sl h hn) frzL_nil) f rfl (by simp) rfl
theorem c30p {x : AV} {b : List (List Int)} {s : List Int} {id : Nat} (hx : IsLL x b) (hl : b.length < 100) (hs : s.length ≤ 1000) (hsn : s.length = b.length) (hB : IsB b) (hI : InR b.length 1048576 s) (h0 : sumTo (gf s) b.length = 0) {m : Nat} (hm : smK + 30 ≤ m) (hm2 : 10200000 ≤ m) {H : Heap} (h : H.data? id = some (iL s)) :
    callPure (evF tab it m) true 30 [x, .sl id 1 0 b.length] H = some (.tup [.int .i64 (ordS b s : Int), .int .i64 0], H) := by
  have f := f30 hx (rd_isL hsn) hl hs hm hm2
  rw [if_pos ⟨hB, hI⟩, if_pos h0] at f
  exact callPure_own (frzL_cons (frzV_of hx.free) (frzL_cons (frz_sl h hsn) frzL_nil)) f rfl (by simp) rfl
theorem c20p {x : AV} {b : List (List Int)} {s : List Int} {id : Nat} (hx : IsLL x b) (hB : IsB b) (hs : InR b.length 1048576 s) {m : Nat} (hm : smK + 23 ≤ m) {H : Heap} (h : H.data? id = some (iL s)) :
    callPure (evF tab it m) true 20 [x, .sl id 1 0 b.length, .int .i64 0] H = some (.tup [.rd 1 b.length (iL (redL b s 0)), .rd 1 b.length (iL (redT b s 0)), .int .i64 0], H) := by
  have hn1 := hB.n1
  have f := f20 (q := 0) hx (rd_isL hs.1) hB hs hn1 hm
  exact callPure_own (frzL_cons (frzV_of hx.free) (frzL_cons (frz_sl h hs.1) (frzL_cons rfl frzL_nil))) f rfl (by simp [HO.hasRd, iL_noRd]) (frz_setA (apl_len _ _ _) (redT_ok hB s hn1).1)
theorem c22p {x : AV} {a c : List Int} {n id : Nat} (hx : IsL x a) (ha : a.length < 100) (hc : c.length = n) {m : Nat} (hm : 102 ≤ m) {H : Heap} (h : H.data? id = some (iL c)) :
    callPure (evF tab it m) true 22 [x, .sl id 1 0 n] H = some (.bool (decide (a = c)), H) :=
  callPure_own (frzL_cons (frzV_of hx.free) (frzL_cons (frz_sl h hc) frzL_nil)) (f22 hx (rd_isL hc) ha m hm) rfl (by simp) rfl
theorem ty_rowsB {k : Nat} {cs : List AV} (h : TyAV T k 22 cs) : ∃ x l, cs = [x] ∧ IsLL x l ∧ l.length < 2 ^ 63 := by
  cases k with
  | zero => exact h.elim
  | succ k =>
    obtain ⟨s, hs, hm⟩ := h
    rw [T22] at hs; cases hs
    rcases hm with rfl | ⟨len, cells, se, h1, rfl, h3, h5, h4⟩
    · exact ⟨_, [], rfl, .nil, by simp⟩
    · rw [T23] at h1; cases h1
      simp only [Nat.mul_one] at h3 h4
      have key : ∀ (cs : List AV), (∀ i, i < cs.length → ∃ l, IsL (cs.getD i .undef) l) → ∃ ll : List (List Int), cs.length = ll.length ∧ ∀ i, i < ll.length → IsL (cs.getD i .undef) (ll.getD i []) := by
        intro cs
        induction cs with
        | nil => intro _; exact ⟨[], rfl, fun i hi => by simp at hi⟩
        | cons c cs ih =>
          intro h
          obtain ⟨l, hl⟩ := h 0 (by simp)
          obtain ⟨ll, h1, h2⟩ := ih fun i hi => by simpa using h (i + 1) (by simpa using hi)
          refine ⟨l :: ll, by simp [h1], fun i hi => ?_⟩
          cases i with
          | zero => simpa using hl
          | succ i => simpa using h2 i (by simpa using hi)
      obtain ⟨ll, e1, e2⟩ := key cells fun i hi => by
        obtain ⟨x, l, hx, hl⟩ := ty_ints (h4 i (by omega))
        rw [take1 hi] at hx
        simp only [List.cons.injEq, and_true] at hx
        exact ⟨l, by rw [hx]; exact hl⟩
      have e3 : len = ll.length := by omega
      subst e3
      exact ⟨_, ll, rfl, .rd cells ll e1 e2, h5⟩
theorem arg_rowsB {k : Nat} {x : AV} (h : TyArg T k 22 x) : ∃ l, IsLL x l ∧ l.length < 9223372036854775808 := by
  rcases h with ⟨s, xs, hs, ha, _⟩ | ⟨s, hs, ha, h⟩
  · rw [T22] at hs; cases hs; cases ha
  · obtain ⟨y, l, hy, hl, hb⟩ := ty_rowsB h
    simp only [List.cons.injEq, and_true] at hy
    exact ⟨l, by rw [hy]; exact hl, hb⟩
set_option maxHeartbeats 8000000
theorem val_zero : ∀ (ds : List Int) (k : Nat), valL ds (List.replicate k 0) = 0
  | [], _ => by simp [valL]
  | _ :: _, 0 => by simp [valL]
  | d :: ds, k + 1 => by
    rw [List.replicate_succ]
    show 0 + d * valL ds (List.replicate k 0) = 0
    rw [val_zero ds k]; omega
theorem L5I {m N : Nat} {K0 : KT} {X : Nat → KT} {Rt : KT} {res : R} {env : Env} {H : Heap} {y : AV} {B : List (List Int)} {t : List Int} {n : Nat} {T C : Int}
    (fy : y.idFree = true) (hN : 100 ≤ N) (hm : 1100 ≤ m) (hB : IsB B) (hn : B.length = n + 1) (ht : BoxL (dgL B) t)
    (h0 : gc 0 (looks env [1, 5, 6, 8, 9, 13]) H = some ([y, fzLL B, .int .i64 T, .int .i64 C, .sl 0 1 0 B.length, .int .i64 1], [some (.data (iL (0 :: t)))]))
    (hK : ∀ k, k ≤ n → (∀ j : Nat, j < k → getI t (j : Int) = getI (dgL B) (j : Int) - 1) → (k < n → getI t (k : Int) ≠ getI (dgL B) (k : Int) - 1) →
      ∀ env' H', gc 0 (looks env' [1, 5, 6, 8, 9, 13]) H' = some ([y, fzLL B, .int .i64 T, .int .i64 C, .sl 0 1 0 B.length, .int .i64 ((k + 1 : Nat) : Int)], [some (.data (iL (0 :: zsL t k)))]) → K0 env' H' = res) :
    loopIt N (fun K => evC (evF tab it m) it N lb5_4 0 K (blkX 2 K0 X) Rt) env H = res := by
  have iB := isLL_fz B
  have fB := iB.free
  have hn10 := hB.n2
  obtain ⟨b1, b2⟩ := boxL_iff.1 ht
  rw [dgL_len] at b1 b2
  have hdg := fun (v : Nat) (h : v < n) => dgL_get (b := B) (v := v) (by omega)
  have lB := fun H => p_lenLL (H := H) iB
  have g1 : ∀ (i : Int) (U : List AV), gc 0 [y, fzLL B, .int .i64 T, .int .i64 C, .sl 0 1 0 B.length, .int .i64 i] [some (.data U)] = some ([y, fzLL B, .int .i64 T, .int .i64 C, .sl 0 1 0 B.length, .int .i64 i], [some (.data U)]) := fun i U => by simp [go_sem, fy, fB]
  refine loop_gc (σ := Nat) (fun k => [y, fzLL B, .int .i64 T, .int .i64 C, .sl 0 1 0 B.length, .int .i64 ((k + 1 : Nat) : Int)]) (fun k => [some (.data (iL (0 :: zsL t k)))]) (fun k => k ≤ n ∧ ∀ j : Nat, j < k → getI t (j : Int) = getI (dgL B) (j : Int) - 1) (fun k => n - k) ?_ _ 0 _ _ ⟨by omega, fun j hj => by omega⟩ (by show n - 0 < _; omega) h0
  clear h0
  intro k ⟨hk, hz⟩ K hKl
  have hzl := zsL_len (t := t) (k := k) (by omega)
  have hKk := hK k hk hz
  by_cases hkn : k < n
  · have e35 := fun H => c35d iB hB (i := k + 1) (by omega) (m := m) (by omega) H
    rw [← hdg k hkn] at e35
    have hdeg := deg_nn (gr_of hB) (i := k + 1) (by omega)
    rw [← hdg k hkn] at hdeg
    have hbk := b2 k (by omega)
    have ld1 := fun H h => p_ldO (H := H) (id := 0) (l := 0 :: zsL t k) (i := k + 1) h (by simp only [List.length_cons]; omega)
    rw [getI_cons, zsL_get (by omega), if_neg (by omega)] at ld1
    have st1 : ∀ call, evE call [some (.data (iL (0 :: zsL t k)))] (.st 1) [.ptr 0 (k + 1), .int .i64 0] = some (.undef, [some (.data (iL (0 :: zsL t (k + 1))))]) := fun call => by
      rw [e_stO (call := call) (H := [some (.data (iL (0 :: zsL t k)))]) (id := 0) (l := 0 :: zsL t k) (i := k + 1) (v := 0) rfl (by simp only [List.length_cons]; omega)]
      rw [List.set_cons_succ, zsL_succ (by omega)]
      rfl
    have hki : k + 1 < B.length := by omega
    have hK1 := hKl (k + 1)
    by_cases he : getI t (k : Int) = getI (dgL B) (k : Int) - 1
    · have hz2 : ∀ j : Nat, j < k + 1 → getI t (j : Int) = getI (dgL B) (j : Int) - 1 := fun j hj => by
        rcases (by omega : j < k ∨ j = k) with h | h
        · exact hz j h
        · rw [h]; exact he
      have ld1' := ld1 [some (.data (iL (0 :: zsL t k)))] rfl
      clear hKl hKk hK hz b2 hdg ht
      generalize hcall : evF tab it m = call at *
      generalize fzLL B = vB at *
      generalize getI t (k : Int) = A at *
      generalize getI (dgL B) (k : Int) = D at *
      repeat' first
 | (apply s_mov; exact aW)
 | (apply s_gT; exact rfl)
 | (apply c_nil)
 | (apply s_pickT; exact rfl; exact aW)
 | (apply s_lss; exact rfl; all_goals (intro _; try (exfalso; omega)))
 | (apply s_eql; exact rfl; all_goals (intro _; try (exfalso; omega)))
 | (apply s_add; exact rfl; omega)
 | (apply s_sub; exact rfl; omega)
 | (apply s_pn; exact aO; exact lB _)
 | (apply s_cn; exact aO; exact e35 _)
 | (apply s_pn; exact aO; exact p_ixO hki)
 | (apply s_pn; exact aO; exact ld1')
 | (apply s_st; exact aO; exact (st1 _))
 | (apply c_seq)
 | (apply c_reg)
 | (apply c_block)
 | (apply c_skip)
 | (apply c_condT; exact rfl)
 | (with_reducible apply k_c)
      all_goals first
        | (exfalso; omega)
        | (refine hK1 _ _ ⟨by omega, hz2⟩ (by omega) ?_
           exact g1 _ _)
    · have hK2 := hKk fun _ => he
      have ld1' := ld1 [some (.data (iL (0 :: zsL t k)))] rfl
      clear hKl hKk hK hz b2 hdg ht hK1
      generalize hcall : evF tab it m = call at *
      generalize fzLL B = vB at *
      generalize getI t (k : Int) = A at *
      generalize getI (dgL B) (k : Int) = D at *
      repeat' first
 | (apply s_mov; exact aW)
 | (apply s_gT; exact rfl)
 | (apply c_nil)
 | (apply s_pickT; exact rfl; exact aW)
 | (apply s_lss; exact rfl; all_goals (intro _; try (exfalso; omega)))
 | (apply s_eql; exact rfl; all_goals (intro _; try (exfalso; omega)))
 | (apply s_sub; exact rfl; omega)
 | (apply s_pn; exact aO; exact lB _)
 | (apply s_cn; exact aO; exact e35 _)
 | (apply s_pn; exact aO; exact p_ixO hki)
 | (apply s_pn; exact aO; exact ld1')
 | (apply c_seq)
 | (apply c_reg)
 | (apply c_exitH)
 | (apply c_condF; exact rfl)
 | (with_reducible apply k_c)
      all_goals first
        | (exfalso; omega)
        | (refine hK2 _ _ ?_
           exact g1 _ _)
  · obtain rfl : k = n := by omega
    have hK2 := hKk fun h => absurd h (by omega)
    clear hKl hKk hK hz b2 hdg ht
    generalize hcall : evF tab it m = call at *
    generalize fzLL B = vB at *
    repeat' first
 | (apply s_mov; exact aW)
 | (apply s_gF; exact rfl)
 | (apply s_gFD; exact rfl)
 | (apply c_nil)
 | (apply s_pickF; exact rfl; exact aW)
 | (apply s_lss; exact rfl; all_goals (intro _; try (exfalso; omega)))
 | (apply s_pn; exact aO; exact lB _)
 | (apply c_seq)
 | (apply c_reg)
 | (apply c_exitH)
 | (apply c_condF; exact rfl)
 | (with_reducible apply k_c)
    all_goals first
      | (exfalso; omega)
      | (refine hK2 _ _ ?_
         exact g1 _ _)
set_option maxHeartbeats 8000000
theorem f5 {x y : AV} {b : List (List Int)} {l : List Int} (hx : IsLL x b) (hbl : b.length < 9223372036854775808) (hy : IsL y l) : ∃ m H', evF tab it m 5 [x, y] [] = some (.bool true, H') := by
  obtain ⟨M, hM1, hM2⟩ : ∃ M, smK + 40 ≤ M ∧ 10300000 ≤ M := ⟨smK + 10300000, by omega, by omega⟩
  refine ⟨M + 1, [], ?_⟩
  have h1 := grow_isB b (w := 4) (by decide)
  have hn1 := h1.n1
  have hn5 : (growL b 4).length ≤ 4 := by rw [growL_len]; exact (grN_le b (by decide)).2
  have fx := hx.free; have fy := hy.free
  have e34 := fun H => c34t (w := 4) hx hbl (by decide) (m := M) (by omega) H
  generalize growL b 4 = B at *
  obtain ⟨n, hn⟩ : ∃ n, B.length = n + 1 := ⟨B.length - 1, by omega⟩
  have iB := isLL_fz B
  have fB := iB.free
  have e29 := fun H => c29 iB (by omega) (m := M) (by omega) H
  rw [if_pos h1, if_pos h1] at e29
  have htr := trN_le h1
  have e36 := fun H => c36o (w := 1000) iB hy hn1 (by omega) (by decide) (m := M) (by omega) H
  have hSb : ∀ v : Nat, v < B.length → -1000 ≤ getI (stL B.length l 1000) (v : Int) ∧ getI (stL B.length l 1000) (v : Int) ≤ 1000 := fun v hv => by rw [stL_get hv]; have := stN_le (stX l v) 1000; omega
  have hSl := stL_len B.length l 1000
  generalize stL B.length l 1000 = S0 at *
  have hS0 : 0 < S0.length := by omega
  have e32' := c32p (m := M) (id := 0) hSl (by omega) (fun v hv => by
    obtain ⟨k, hk, e⟩ := List.getElem_of_mem hv
    have := hSb k (by omega)
    rw [getI_nat] at this
    have h2 : S0.getD k 0 = v := by simp [List.getD, hk, e]
    rw [h2] at this
    omega) (by omega) (H := [some (.data (iL S0))]) rfl
  have hSS := balL_sum hS0
  have hSB := balL_bd (w := 1000) hS0 (by omega) (by omega) (by rw [hSl]; exact hSb)
  rw [hSl] at hSS hSB
  have hbl2 := balL_len S0
  rw [hSl] at hbl2
  have h00 : -1000 ≤ getI S0 0 ∧ getI S0 0 ≤ 1000 := hSb 0 (by omega)
  have hsum := sumTo_le (f := fun j => getI S0 (j : Int)) (M := 1000) (n := S0.length) fun j hj => hSb j (by omega)
  have hsum2 : -5000 ≤ sumI S0 ∧ sumI S0 ≤ 5000 := by
    have h2 : (S0.length : Int) * 1000 ≤ 5 * 1000 := by omega
    unfold sumI
    omega
  have ix0 : ∀ H, evP H (.idxA 1) [.sl 0 1 0 B.length, .int .i64 0] = some (.ptr 0 0) := fun H => p_ixO (i := 0) (by omega)
  have ld0 : evP [some (.data (iL S0))] (.ld false 1) [.ptr 0 0] = some (.int .i64 (getI S0 0)) := p_ldO (H := [some (.data (iL S0))]) (id := 0) (l := S0) (i := 0) rfl hS0
  have st0 : ∀ call, evE call [some (.data (iL S0))] (.st 1) [.ptr 0 0, .int .i64 (getI S0 0 - sumI S0)] = some (.undef, [some (.data (iL (balL S0)))]) := fun call => e_stO (call := call) (H := [some (.data (iL S0))]) (id := 0) (l := S0) (i := 0) (v := getI S0 0 - sumI S0) rfl hS0
  have hinS : InR B.length 1048576 (balL S0) := ⟨hbl2, fun v hv => by
    obtain ⟨k, hk, e⟩ := List.getElem_of_mem hv
    have := hSB k (by omega)
    rw [getI_nat] at this
    have h2 : (balL S0).getD k 0 = v := by simp [List.getD, hk, e]
    rw [h2] at this
    omega⟩
  have e30 := c30p (id := 0) iB (by omega) (by omega) hbl2 h1 hinS hSS (m := M) (by omega) (by omega) (H := [some (.data (iL (balL S0)))]) rfl
  have ho1 := (ordS_spec h1 hSS).1
  have hrem : (trN B).tmod (ordS B (balL S0) : Int) = 0 := Int.tmod_eq_zero_of_dvd (ordS_tr h1 hSS)
  have h25 := fun H => awakeN (m := M) (by omega) H
  have mk := fun call H => @e_mkI call H B.length (by unfold most; omega)
  have hz0 : List.replicate B.length (0 : Int) = 0 :: List.replicate n 0 := by rw [hn]; rfl
  rw [hz0] at mk
  have lB := fun H => p_lenLL (H := H) iB
  have hbox0 : BoxL (dgL B) (List.replicate n 0) := boxL_iff.2 ⟨by rw [dgL_len]; simp; omega, fun i hi => by
    rw [dgL_len] at hi
    rw [dgL_get hi]
    have := deg_pos h1 (v := i + 1) (by omega) (by omega)
    rw [getI_nat]
    have e : (List.replicate n (0 : Int)).getD i 0 = 0 := by simp [List.getD, show i < n by omega]
    rw [e]
    omega⟩
  have hc0 := cntB_zero h1 (val_zero (dgL B) n)
  have hprod := prodL_le (ds := dgL B) (k := 3) (by rw [dgL_len]; omega) fun d hd => by
    obtain ⟨i, hi, rfl⟩ := List.mem_iff_getElem.1 hd
    rw [dgL_len] at hi
    have e := dgL_get (b := B) (v := i) hi
    rw [getI_nat] at e
    simp only [List.getD, List.getElem?_eq_getElem (show i < (dgL B).length by rw [dgL_len]; exact hi), Option.getD_some] at e
    rw [e]
    exact deg_nn (gr_of h1) (by omega)
  have hprod2 : prodL (dgL B) ≤ 46656 := hprod.2
  have e20 := fun (t : List Int) (ht : BoxL (dgL B) t) => c20p (id := 0) iB h1 (s := 0 :: t) ⟨by
    have := (boxL_iff.1 ht).1
    rw [dgL_len] at this
    simp only [List.length_cons]; omega, fun v hv => by
    rcases List.mem_cons.1 hv with rfl | hv
    · omega
    · obtain ⟨i, hi, rfl⟩ := List.mem_iff_getElem.1 hv
      obtain ⟨b1, b2⟩ := boxL_iff.1 ht
      have a := b2 i (by omega)
      rw [dgL_len] at b1 b2
      rw [dgL_get (by omega)] at a
      have c := (deg_nn (gr_of h1) (i := i + 1) (by omega)).2
      have e : getI t (i : Int) = t[i] := by rw [getI_nat]; simp [List.getD, hi]
      rw [e] at a
      omega⟩ (m := M) (by omega) (H := [some (.data (iL (0 :: t)))]) rfl
  have e22 := fun (t : List Int) (ht : BoxL (dgL B) t) => c22p (id := 0) (n := B.length) (m := M) (H := [some (.data (iL (0 :: t)))]) (rd_isL (redL_len B (0 :: t) 0)) (by rw [redL_len]; omega) (c := 0 :: t) (by
    have := (boxL_iff.1 ht).1
    rw [dgL_len] at this
    simp only [List.length_cons]; omega) (by omega) rfl
  have hLI := fun (K0 : KT) (X : Nat → KT) (Rt : KT) (res : R) (env : Env) (H : Heap) (t : List Int) (ht : BoxL (dgL B) t) (C : Int) => L5I (N := M) (m := M) (K0 := K0) (X := X) (Rt := Rt) (res := res) (env := env) (H := H) (y := y) (T := trN B) (C := C) fy (by omega) (by omega) h1 hn ht
  have g0 : ∀ (T C : Int) (U : List AV), gc 0 [y, fzLL B, .int .i64 T, .int .i64 C, .sl 0 1 0 B.length] [some (.data U)] = some ([y, fzLL B, .int .i64 T, .int .i64 C, .sl 0 1 0 B.length], [some (.data U)]) := fun T C U => by simp [go_sem, fy, fB]
  have g1 : ∀ (T C i : Int) (U : List AV), gc 0 [y, fzLL B, .int .i64 T, .int .i64 C, .sl 0 1 0 B.length, .int .i64 i] [some (.data U)] = some ([y, fzLL B, .int .i64 T, .int .i64 C, .sl 0 1 0 B.length, .int .i64 i], [some (.data U)]) := fun T C i U => by simp [go_sem, fy, fB]
  have hcl := fun (t t' : List Int) (ht : BoxL (dgL B) t) (he : valL (dgL B) t' = valL (dgL B) t + 1) => cntB_next h1 ht he
  have hcz := fun (t : List Int) (ht : BoxL (dgL B) t) (he : valL (dgL B) t + 1 = prodL (dgL B)) => cntB_last h1 ht he
  have hred := fun (t : List Int) => Classical.em (redL B (0 :: t) 0 = 0 :: t)
  clear hsum hinS hSB hSb hSS hprod
  refine f_enter rfl rfl ?_
  generalize hcall : evF tab it M = call at *
  generalize hvB : fzLL B = vB at *
  repeat' first
 | (apply s_mov; exact aW)
 | (apply s_gT; exact rfl)
 | (apply c_nil)
 | (apply s_pickF; exact rfl; exact aW)
 | (apply s_lss; exact rfl; all_goals (intro _; try (exfalso; omega)))
 | (apply s_neq; exact rfl; all_goals (intro _; try (exfalso; omega)))
 | (apply s_cn; exact aO; exact e34 _)
 | (apply s_cn; exact aO; exact e29 _)
 | (apply s_pn; exact aO; exact lB _)
 | (apply s_en; exact aO; exact mk _ _)
 | (apply s_pd; exact aW)
 | (apply c_seq)
 | (apply c_reg)
 | (apply c_block)
 | (apply c_skip)
 | (apply c_condF; exact rfl)
 | (with_reducible apply k_c)
  all_goals try (exfalso; omega)
  clear e34 e29
  refine c_loop ?_
  refine loop_gc (σ := List Int) (fun t => [y, vB, .int .i64 (trN B), .int .i64 ((cntB B t : Nat) : Int), .sl 0 1 0 B.length]) (fun t => [some (.data (iL (0 :: t)))]) (fun t => BoxL (dgL B) t) (fun t => (prodL (dgL B) - valL (dgL B) t).toNat) ?_ _ (List.replicate n 0) _ _ hbox0 (by show (prodL (dgL B) - valL (dgL B) (List.replicate n 0)).toNat < M; rw [val_zero]; omega) (by
    show _ = some ([y, vB, .int .i64 (trN B), .int .i64 ((cntB B (List.replicate n 0) : Nat) : Int), .sl 0 1 0 B.length], [some (HO.data (iL (0 :: List.replicate n 0)))])
    rw [hc0]
    exact g0 _ _ _)
  intro t ht K hKl
  have e20t := e20 t ht
  have e22t := e22 t ht
  have hcb := fun t' he => hcl t t' ht he
  have hczt := fun he => hcz t ht he
  obtain ⟨b1, b2⟩ := boxL_iff.1 ht
  have hrng := val_rng ht
  have hdl := dgL_len B
  have hCn : (cntB B t : Int) ≤ 101559956668416 := by
    have h2 : cntB B t ≤ (redsL B).length := by unfold cntB cntL; exact List.length_filter_le _ _
    have h3 := trN_len h1
    omega
  have tail : ∀ (C : Nat), (∀ t', valL (dgL B) t' = valL (dgL B) t + 1 → cntB B t' = C) → (valL (dgL B) t + 1 = prodL (dgL B) → (C : Int) = trN B) → ∀ (env : Env) (H : Heap), gc 0 (looks env [1, 5, 6, 8, 9, 13]) H = some ([y, vB, .int .i64 (trN B), .int .i64 (C : Int), .sl 0 1 0 B.length, .int .i64 1], [some (.data (iL (0 :: t)))]) →
      loopIt M (fun K' => evC call it M lb5_4 0 K' (blkX 2 (fun env H => evC call it M (.pre [1, 5, 6, 8, 9, 13] (.seq sp5_6 sq5_5)) 0 K (blkX 1 K (blkX 0 (fun env H => evC call it M (.pre [1, 5, 6, 8] (.seq sp5_15 sq5_14)) 0 (finish 0 [.t 4]) (fun _ _ _ => none) (finish 0 [.t 4]) env H) (fun _ _ _ => none))) (finish 0 [.t 4]) env H) (blkX 1 K (blkX 0 (fun env H => evC call it M (.pre [1, 5, 6, 8] (.seq sp5_15 sq5_14)) 0 (finish 0 [.t 4]) (fun _ _ _ => none) (finish 0 [.t 4]) env H) (fun _ _ _ => none)))) (finish 0 [.t 4])) env H = some (.bool true, []) := by
    intro C hC1 hC2 env H hg0
    refine hLI _ _ _ _ _ _ t ht (C : Int) hg0 ?_
    intro k hk hz hnz env' H' hgc
    refine k_c (c_pre hgc ?_)
    by_cases hkn : k < n
    · have hki : k + 1 < B.length := by omega
      have hv := val_inc k b1 (by omega) hz
      have hlk : (0 :: zsL t k).length = B.length := by simp only [List.length_cons]; rw [zsL_len (by omega)]; omega
      have hne := hnz hkn
      have hbk := b2 k (by omega)
      have ld1 := p_ldO (H := [some (.data (iL (0 :: zsL t k)))]) (id := 0) (l := 0 :: zsL t k) (i := k + 1) rfl (by omega)
      rw [getI_cons, zsL_get (by omega), if_neg (by omega)] at ld1
      have st1 : ∀ call, evE call [some (.data (iL (0 :: zsL t k)))] (.st 1) [.ptr 0 (k + 1), .int .i64 (getI t (k : Int) + 1)] = some (.undef, [some (.data (iL (0 :: (zsL t k).set k (getI t (k : Int) + 1))))]) := fun call => by
        rw [e_stO (call := call) (H := [some (.data (iL (0 :: zsL t k)))]) (id := 0) (l := 0 :: zsL t k) (i := k + 1) (v := getI t (k : Int) + 1) rfl (by omega)]
        rfl
      have hbox : BoxL (dgL B) ((zsL t k).set k (getI t (k : Int) + 1)) := boxL_iff.2 ⟨by rw [List.length_set, zsL_len (by omega)]; exact b1, fun i hi => by
        rw [getI_set (by rw [zsL_len (by omega)]; omega), zsL_get (by omega)]
        have := b2 i hi
        by_cases e : i = k
        · rw [if_pos e, e]; rw [e] at this; omega
        · rw [if_neg e]
          split <;> omega⟩
      have hCt := hC1 _ hv
      have hdk := dgL_get (b := B) (v := k) (by omega)
      have hdeg := (deg_nn (gr_of h1) (i := k + 1) (by omega)).2
      have hKt := hKl ((zsL t k).set k (getI t (k : Int) + 1))
      rw [hCt] at hKt
      generalize (zsL t k).set k (getI t (k : Int) + 1) = t' at *
      generalize getI t (k : Int) = A at *
      clear e20 e22 hLI hcl hcz hcb hczt e20t e22t hKl hC1 hC2 hred
      repeat' first
 | (apply s_mov; exact aW)
 | (apply c_nil)
 | (apply s_eql; exact rfl; all_goals (intro _; try (exfalso; omega)))
 | (apply s_add; exact rfl; omega)
 | (apply s_pn; exact aO; exact lB _)
 | (apply s_pn; exact aO; exact p_ixO hki)
 | (apply s_pn; exact aO; exact ld1)
 | (apply s_st; exact aO; exact (st1 _))
 | (apply c_seq)
 | (apply c_reg)
 | (apply c_skip)
 | (apply c_condF; exact rfl)
 | (with_reducible apply k_c)
      all_goals first
        | (exfalso; omega)
        | (refine hKt _ _ hbox (by omega) ?_
           exact g0 _ _ _)
    · obtain rfl : k = n := by omega
      have hv := val_max b1 fun j hj => hz j (by omega)
      have hCt := hC2 hv
      clear e20 e22 hLI hcl hcz hcb hczt e20t e22t hKl hC1 hC2 hred
      have hrem' : ∀ H, evP H (.bin .rem) [.int .i64 (trN B), .int .i64 (ordS B (balL S0) : Int)] = some (.int .i64 0) := fun H => by
        simp only [evP, binV, isShift, binInt, Bool.false_eq_true, if_false]
        rw [if_neg (show ¬ (ordS B (balL S0) : Int) = 0 by omega), hrem]
        rfl
      generalize trN B = T at *
      generalize ordS B (balL S0) = o at *
      repeat' first
 | (apply s_mov; exact aW)
 | (apply c_nil)
 | (apply s_eql; exact rfl; all_goals (intro _; try (exfalso; omega)))
 | (apply s_neq; exact rfl; all_goals (intro _; try (exfalso; omega)))
 | (apply s_pn; exact aO; exact lB _)
 | (apply c_seq)
 | (apply c_reg)
 | (apply c_exitH)
 | (apply c_skip)
 | (apply c_condT; exact rfl)
 | (apply c_condF; exact rfl)
 | (apply c_exitM; exact rfl)
 | (apply c_preF; exact aK; exact aF)
 | (with_reducible apply k_c)
      all_goals try (exfalso; omega)
      repeat' first
 | (apply s_mov; exact aW)
 | (apply s_gT; exact rfl)
 | (apply c_nil)
 | (apply s_pickT; exact rfl; exact aW)
 | (apply s_geq; exact rfl; all_goals (intro _; try (exfalso; omega)))
 | (apply s_eql; exact rfl; all_goals (intro _; try (exfalso; omega)))
 | (apply s_sub; exact rfl; omega)
 | (apply s_en; exact aO; exact e36 _)
 | (apply s_cn; exact aO; exact e32')
 | (apply s_pn; exact aO; exact ix0 _)
 | (apply s_pn; exact aO; exact ld0)
 | (apply s_st; exact aO; exact st0 _)
 | (apply s_cn; exact aO; exact e30)
 | (apply s_pn; exact aO; exact hrem' _)
 | (apply s_cn; exact aO; exact h25 _)
 | (apply s_pd; exact aW)
 | (apply c_seq)
 | (apply c_reg)
 | (apply c_ret)
 | (with_reducible apply k_c)
      all_goals first
        | (exfalso; omega)
        | exact fin_t (by (conv => lhs; whnf)) (by rfl) rfl
  clear e20 e22 hLI hcl hcz
  rcases hred t with hr | hr
  · rw [decide_eq_true hr] at e22t
    rw [if_pos hr] at hcb hczt
    generalize iL (redL B (0 :: t) 0) = A1 at *
    generalize iL (redT B (0 :: t) 0) = A2 at *
    have tailC := tail (cntB B t + 1) hcb hczt
    clear tail hcb hczt hKl hred
    repeat' first
 | (apply s_mov; exact aW)
 | (apply c_nil)
 | (apply s_neq; exact rfl; all_goals (intro _; try (exfalso; omega)))
 | (apply s_add; exact rfl; omega)
 | (apply s_cn; exact aO; exact e20t)
 | (apply s_cn; exact aO; exact e22t)
 | (apply s_pd; exact aW)
 | (apply c_seq)
 | (apply c_reg)
 | (apply c_block)
 | (apply c_skip)
 | (apply c_condT; exact rfl)
 | (apply c_condF; exact rfl)
 | (with_reducible apply k_c)
    all_goals try (exfalso; omega)
    refine c_loop ?_
    refine tailC _ _ ?_
    exact g1 _ _ _ _
  · rw [decide_eq_false hr] at e22t
    rw [if_neg hr] at hcb hczt
    generalize iL (redL B (0 :: t) 0) = A1 at *
    generalize iL (redT B (0 :: t) 0) = A2 at *
    have tailC := tail (cntB B t) hcb hczt
    clear tail hcb hczt hKl hred
    repeat' first
 | (apply s_mov; exact aW)
 | (apply c_nil)
 | (apply s_neq; exact rfl; all_goals (intro _; try (exfalso; omega)))
 | (apply s_cn; exact aO; exact e20t)
 | (apply s_cn; exact aO; exact e22t)
 | (apply s_pd; exact aW)
 | (apply c_seq)
 | (apply c_reg)
 | (apply c_block)
 | (apply c_skip)
 | (apply c_condF; exact rfl)
 | (with_reducible apply k_c)
    all_goals try (exfalso; omega)
    refine c_loop ?_
    refine tailC _ _ ?_
    exact g1 _ _ _ _
end Go.AM.Ch
