/- A part of the proof: U45 U46 U61. -/
import Derived.Test.YtmegimhfoedcdaaU64
import Derived.Test.YtmegimhfoedcdaaU49
import Derived.Test.YtmegimhfoedcdaaU14
set_option linter.unusedSectionVars false
set_option linter.unusedVariables false
set_option linter.unusedSimpArgs false
namespace Go.AM.Ch
attribute [local go_sem] gc subHeap reach_skip ren_free reach_new reach_newp reach_end rangeL roots boxCells nodupB posOf renL AV.ren pickO renH renO looks look bindEnv envOf reach_int reach_bool reach_nilS reach_rd putRow cells_sl cells_int cells_bool cells_nilS cells_rd cells_agg reach_agg reach_tup idFreeL idf_sl idf_ptr idf_int idf_bool idf_nilS idf_rd reach_fn reach_mp cells_fn cells_ptr cells_mp idf_mp idf_fn idf_agg idf_tup
set_option maxHeartbeats 8000000
theorem c58 {x y : AV} {b : List (List Int)} {l : List Int} {q : Nat} (hx : IsLL x b) (hy : IsL y l) (hB : IsB b) (hq : q < b.length) (hl : Near b.length q l) {m : Nat} (hm : smK + 1 ≤ m) (H : Heap) :
    callPure (evF tab it m) true 58 [x, y, .int .i64 (q : Int)] H = some (fzL (redL b l q), H) := by
  have f58 : evF tab it m 58 [x, y, .int .i64 (q : Int)] [] = some (fzL (redL b l q), []) := by
    obtain ⟨m, rfl⟩ : ∃ j, m = j + 1 := ⟨m - 1, by omega⟩
    have fx := hx.free; have fy := hy.free
    have hn1 := hB.n1; have hn2 := hB.n2
    have hln := hl.len
    have ap0 := fun call H => e_appT (call := call) (H := H) hy (by omega) (by omega)
    have il := isL_fz l
    have e82 := fun H => callPure_free (H := H) (by simp [idFreeL, AV.idFree, hx.free, il.free]) (by simp) (f82 hx il hB hq hl (m := m) (by omega)) (isL_fz _).free
    have fz := (isL_fz (redL b l q)).free
    have fl := il.free
    clear hm
    refine f_enter rfl rfl ?_
    generalize evF tab it m = call at *
    generalize fzL (redL b l q) = vz at *
    generalize fzL l = vl at *
    repeat' first
 | (apply s_mov; (focus ((conv => lhs; whnf); done)))
 | (apply c_nil)
 | (apply s_en; (focus (repeat (first | apply opds_nil | (apply opds_cons; (first | (focus ((conv => lhs; whnf); done)) | exact rfl))))); exact ap0 _ _)
 | (apply s_cn; (focus (repeat (first | apply opds_nil | (apply opds_cons; (first | (focus ((conv => lhs; whnf); done)) | exact rfl))))); exact e82 _)
 | (apply c_seq)
 | (apply c_reg)
 | (apply c_ret)
 | (with_reducible apply k_c)
    exact fin_t (by (conv => lhs; whnf)) (by first | assumption | rfl) rfl
  exact callPure_free (by simp [idFreeL, AV.idFree, hx.free, hy.free]) (by simp) f58 (isL_fz _).free
/-- twice a list plus another one, many times -/
def pl2 (a c : List Int) (k : Int) : List Int := (List.range a.length).map fun (i : Nat) => 2 * getI a (i : Int) + k * getI c (i : Int)
theorem pl2_len (a c : List Int) (k : Int) : (pl2 a c k).length = a.length := by simp [pl2]
theorem pl2_get {a c : List Int} {k : Int} {i : Nat} (h : i < a.length) : getI (pl2 a c k) (i : Int) = 2 * getI a (i : Int) + k * getI c (i : Int) := by
  rw [getI_nat]
  simp [pl2, List.getD, h]
theorem f59 {x y : AV} {a c : List Int} {k : Int} (hx : IsL x a) (hy : IsL y c) (h0 : 1 ≤ a.length) (hl : a.length ≤ 12) (hac : c.length = a.length) (hk : 0 ≤ k ∧ k ≤ 1)
    (hb : ∀ v : Nat, v < a.length → -288230376151711744 ≤ getI a (v : Int) ∧ getI a (v : Int) ≤ 288230376151711744) (hc : ∀ v : Nat, v < a.length → -288230376151711744 ≤ getI c (v : Int) ∧ getI c (v : Int) ≤ 288230376151711744)
    {m : Nat} (hm : 100 ≤ m) : evF tab it m 59 [x, y, .int .i64 k] [] = some (ownV 0 (iL (pl2 a c k)), owH (iL (pl2 a c k))) := by
  obtain ⟨m, rfl⟩ : ∃ j, m = j + 1 := ⟨m - 1, by omega⟩
  have fx := hx.free; have fy := hy.free
  have la : ∀ H, evP H .len [x] = some (.int .i64 ((a.length : Nat) : Int)) := fun H => p_lenI hx
  have hRl := pl2_len a c k
  have hRg := fun (i : Nat) (h : i < a.length) => pl2_get (c := c) (k := k) h
  generalize pl2 a c k = R at *
  refine f_enter rfl rfl ?_
  generalize evF tab it m = call at *
  have own_gc : ∀ (i : Nat) (l : List AV), gc 0 [x, y, .int .i64 k, ownV 0 l, .int .i64 (i : Int)] (owH l) = some ([x, y, .int .i64 k, ownV 0 l, .int .i64 (i : Int)], owH l) := fun i l => by
    cases l <;> simp [ownV, owH, go_sem, fx, fy]
  repeat' first
 | (apply s_mov; (focus ((conv => lhs; whnf); done)))
 | (apply c_nil)
 | (apply c_seq)
 | (apply c_reg)
 | (apply c_block)
 | (with_reducible apply k_c)
  refine c_loop ?_
  refine loop_gc (σ := Nat) (fun i => [x, y, .int .i64 k, ownV 0 (iL (R.take i)), .int .i64 (i : Int)]) (fun i => owH (iL (R.take i))) (fun i => i ≤ a.length) (fun i => a.length - i) ?_ _ 0 _ _ (by omega) (by omega) (own_gc 0 [])
  intro i hi K hK
  by_cases hin : i < a.length
  · have h1 := hb i hin
    have h2 := hc i hin
    have h3 := hRg i hin
    have mu1 := fun H => p_mul2 (H := H) (a := getI a (i : Int)) (by omega)
    have hkc : k * getI c (i : Int) = 0 ∨ k * getI c (i : Int) = getI c (i : Int) := by
      rcases (by omega : k = 0 ∨ k = 1) with rfl | rfl
      · left; rw [Int.zero_mul]
      · right; rw [Int.one_mul]
    have mu2 := fun H => p_mul (H := H) (a := k) (c := getI c (i : Int)) (by omega)
    have hstep : R.take (i + 1) = R.take i ++ [2 * getI a (i : Int) + k * getI c (i : Int)] := by
      rw [← List.take_append_getElem (by omega : i < R.length)]
      congr 1
      rw [getI_nat] at h3
      simpa [List.getD, show i < R.length by omega] using h3
    have hK1 := hK (i + 1)
    rw [hstep] at hK1
    have e1 : ∀ z : Int, iL (R.take i ++ [z]) = iL (R.take i) ++ [.int .i64 z] := fun z => by simp [iL]
    rw [e1] at hK1
    have hAl : (iL (R.take i)).length ≤ 12 := by rw [iL_len]; simp; omega
    generalize iL (R.take i) = A at *
    generalize hQ : k * getI c (i : Int) = Q at *
    rcases A with _ | ⟨u, us⟩
    · simp only [ownV, owH] at *
      repeat' first
 | (apply s_mov; (focus ((conv => lhs; whnf); done)))
 | (apply c_nil)
 | ((first | apply s_lss | apply s_leq | apply s_gtr | apply s_geq | apply s_eql | apply s_neq); exact rfl; all_goals (intro _; try (exfalso; omega)))
 | ((first | apply s_add | apply s_sub); exact rfl; omega)
 | (apply s_pn; (focus (repeat (first | apply opds_nil | (apply opds_cons; (first | (focus ((conv => lhs; whnf); done)) | exact rfl))))); exact la _)
 | (apply s_pn; (focus (repeat (first | apply opds_nil | (apply opds_cons; (first | (focus ((conv => lhs; whnf); done)) | exact rfl))))); exact mu1 _)
 | (apply s_pn; (focus (repeat (first | apply opds_nil | (apply opds_cons; (first | (focus ((conv => lhs; whnf); done)) | exact rfl))))); exact mu2 _)
 | (apply s_en; (focus (repeat (first | apply opds_nil | (apply opds_cons; (first | (focus ((conv => lhs; whnf); done)) | exact rfl))))); exact e_bld1 rfl rfl rfl rfl)
 | (apply s_en; (focus (repeat (first | apply opds_nil | (apply opds_cons; (first | (focus ((conv => lhs; whnf); done)) | exact rfl))))); exact e_app_nil rfl (by omega) (by decide))
 | (apply s_idx; (focus ((conv => lhs; whnf); done)); exact rfl; (first | assumption | (apply IsLL.at; assumption; omega)); omega)
 | (apply s_ldI; exact rfl; omega)
 | (apply c_seq)
 | (apply c_reg)
 | (apply c_block)
 | (apply c_skip)
 | (apply c_condT; exact rfl)
 | (with_reducible apply k_c)
      all_goals first | exact hK1 _ _ (by omega) (by omega) (by simp [ownV, owH, go_sem, fx, fy]) | (exfalso; omega)
    · simp only [ownV, owH] at *
      repeat' first
 | (apply s_mov; (focus ((conv => lhs; whnf); done)))
 | (apply c_nil)
 | ((first | apply s_lss | apply s_leq | apply s_gtr | apply s_geq | apply s_eql | apply s_neq); exact rfl; all_goals (intro _; try (exfalso; omega)))
 | ((first | apply s_add | apply s_sub); exact rfl; omega)
 | (apply s_pn; (focus (repeat (first | apply opds_nil | (apply opds_cons; (first | (focus ((conv => lhs; whnf); done)) | exact rfl))))); exact la _)
 | (apply s_pn; (focus (repeat (first | apply opds_nil | (apply opds_cons; (first | (focus ((conv => lhs; whnf); done)) | exact rfl))))); exact mu1 _)
 | (apply s_pn; (focus (repeat (first | apply opds_nil | (apply opds_cons; (first | (focus ((conv => lhs; whnf); done)) | exact rfl))))); exact mu2 _)
 | (apply s_en; (focus (repeat (first | apply opds_nil | (apply opds_cons; (first | (focus ((conv => lhs; whnf); done)) | exact rfl))))); exact e_bld1 rfl rfl rfl rfl)
 | (apply s_en; (focus (repeat (first | apply opds_nil | (apply opds_cons; (first | (focus ((conv => lhs; whnf); done)) | exact rfl))))); exact e_app_sl rfl rfl (by omega) (by simp at hAl; unfold most; omega))
 | (apply s_idx; (focus ((conv => lhs; whnf); done)); exact rfl; (first | assumption | (apply IsLL.at; assumption; omega)); omega)
 | (apply s_ldI; exact rfl; omega)
 | (apply c_seq)
 | (apply c_reg)
 | (apply c_block)
 | (apply c_skip)
 | (apply c_condT; exact rfl)
 | (with_reducible apply k_c)
      all_goals first | exact hK1 _ _ (by omega) (by omega) (by simp [ownV, owH, go_sem, fx, fy]) | (exfalso; omega)
  · obtain rfl : i = a.length := by omega
    have hall : R.take a.length = R := List.take_of_length_le (by omega)
    rw [hall]
    generalize hA : iL R = A at *
    repeat' first
 | (apply s_mov; (focus ((conv => lhs; whnf); done)))
 | (apply c_nil)
 | ((first | apply s_lss | apply s_leq | apply s_gtr | apply s_geq | apply s_eql | apply s_neq); exact rfl; all_goals (intro _; try (exfalso; omega)))
 | (apply s_pn; (focus (repeat (first | apply opds_nil | (apply opds_cons; (first | (focus ((conv => lhs; whnf); done)) | exact rfl))))); exact la _)
 | (apply c_seq)
 | (apply c_reg)
 | (apply c_exitH)
 | (apply c_condF; exact rfl)
 | (with_reducible apply k_c)
    apply c_pre (vs := [ownV 0 A]) (H' := owH A)
    · cases A <;> simp [ownV, owH, go_sem, look, looks, bindEnv, envOf]
    repeat' first
 | (apply s_mov; (focus ((conv => lhs; whnf); done)))
 | (apply c_nil)
 | (apply c_seq)
 | (apply c_reg)
 | (apply c_ret)
 | (with_reducible apply k_c)
    cases A <;> simp [finish, ress, resOf, look, tupOf, ownV, owH, go_sem]
theorem c59p {args : List AV} {x y : AV} {a c : List Int} {k : Int} (hx : IsL x a) (hy : IsL y c) (h0 : 1 ≤ a.length) (hl : a.length ≤ 12) (hac : c.length = a.length) (hk : 0 ≤ k ∧ k ≤ 1)
    (hb : ∀ v : Nat, v < a.length → -288230376151711744 ≤ getI a (v : Int) ∧ getI a (v : Int) ≤ 288230376151711744) (hc : ∀ v : Nat, v < a.length → -288230376151711744 ≤ getI c (v : Int) ∧ getI c (v : Int) ≤ 288230376151711744)
    {m : Nat} (hm : 100 ≤ m) (H : Heap) (ha : frzL H 40 args = some [x, y, .int .i64 k]) : callPure (evF tab it m) true 59 args H = some (fzL (pl2 a c k), H) :=
  callPure_own ha (f59 hx hy h0 hl hac hk hb hc hm) (own_noRd _) (owH_noRd _) (frz_own _)
/-! the upper digits of a number -/
def topZ (a : Int) (j : Nat) : Int := if a < 0 then -((a.natAbs / 2 ^ j : Nat) : Int) else ((a.natAbs / 2 ^ j : Nat) : Int)
def digZ (a : Int) (j : Nat) : Int := if a < 0 then -((a.natAbs / 2 ^ j % 2 : Nat) : Int) else ((a.natAbs / 2 ^ j % 2 : Nat) : Int)
theorem topZ_step (a : Int) (j : Nat) : topZ a j = 2 * topZ a (j + 1) + digZ a j := by
  have h : a.natAbs / 2 ^ (j + 1) = a.natAbs / 2 ^ j / 2 := by rw [Nat.pow_succ, Nat.div_div_eq_div_mul]
  unfold topZ digZ
  rw [h]
  split <;> omega
theorem topZ_zero (a : Int) : topZ a 0 = a := by
  unfold topZ
  rw [Nat.pow_zero, Nat.div_one]
  split <;> omega
theorem topZ_big {a : Int} (h : -1048576 ≤ a ∧ a ≤ 1048576) : topZ a 41 = 0 := by
  have e : (2 : Nat) ^ 41 = 2199023255552 := by decide
  have : a.natAbs / 2 ^ 41 = 0 := Nat.div_eq_of_lt (by rw [e]; omega)
  unfold topZ
  rw [this]
  split <;> rfl
theorem topZ_le {a : Int} (h : -1048576 ≤ a ∧ a ≤ 1048576) (j : Nat) : -1048576 ≤ topZ a j ∧ topZ a j ≤ 1048576 := by
  have h1 : a.natAbs / 2 ^ j ≤ a.natAbs := Nat.div_le_self _ _
  have h2 : a.natAbs ≤ 1048576 := by omega
  unfold topZ
  generalize a.natAbs / 2 ^ j = N at *
  split <;> omega
theorem digZ_le (a : Int) (j : Nat) : -1 ≤ digZ a j ∧ digZ a j ≤ 1 := by
  unfold digZ
  generalize a.natAbs / 2 ^ j = N at *
  split <;> omega
def topL (s : List Int) (j : Nat) : List Int := s.map fun a => topZ a j
def digL (s : List Int) (j : Nat) : List Int := s.map fun a => digZ a j
theorem topL_get {s : List Int} {j v : Nat} (h : v < s.length) : getI (topL s j) (v : Int) = topZ (getI s (v : Int)) j := by
  rw [getI_nat, getI_nat]; simp [topL, List.getD, h]
theorem digL_get {s : List Int} {j v : Nat} (h : v < s.length) : getI (digL s j) (v : Int) = digZ (getI s (v : Int)) j := by
  rw [getI_nat, getI_nat]; simp [digL, List.getD, h]
/-- one more digit -/
theorem apl_digit {b : List (List Int)} (hB : IsB b) {s T : List Int} (hs : s.length = b.length) (hT : T.length = b.length) (j : Nat) : pl2 (apl b (topL s (j + 1)) T) (digL s j) 1 = apl b (topL s j) (pl2 T T 0) := by
  refine ext_getI (by rw [pl2_len, apl_len, apl_len]) fun i hi => ?_
  rw [pl2_len, apl_len] at hi
  rw [pl2_get (by rw [apl_len]; exact hi), apl_ap hB _ _ hi, apl_ap hB _ _ hi, digL_get (by omega)]
  have e1 : gf (topL s (j + 1)) i = topZ (getI s (i : Int)) (j + 1) := topL_get (by omega)
  have e2 : gf (topL s j) i = topZ (getI s (i : Int)) j := topL_get (by omega)
  have e3 : net b.length (ed b) (gf (pl2 T T 0)) i = 2 * net b.length (ed b) (gf T) i := by
    rw [← net_mul]
    exact net_congr hi fun k hk => by
      have := pl2_get (a := T) (c := T) (k := 0) (i := k) (by omega)
      unfold gf
      rw [this, Int.zero_mul]
      omega
  have e4 := topZ_step (getI s (i : Int)) j
  unfold ap
  rw [e1, e2, e3, e4]
  omega
end Go.AM.Ch

set_option linter.unusedSectionVars false
set_option linter.unusedVariables false
set_option linter.unusedSimpArgs false
namespace Go.AM.Ch
attribute [local go_sem] gc subHeap reach_skip ren_free reach_new reach_newp reach_end rangeL roots boxCells nodupB posOf renL AV.ren pickO renH renO looks look bindEnv envOf reach_int reach_bool reach_nilS reach_rd putRow cells_sl cells_int cells_bool cells_nilS cells_rd cells_agg reach_agg reach_tup idFreeL idf_sl idf_ptr idf_int idf_bool idf_nilS idf_rd reach_fn reach_mp cells_fn cells_ptr cells_mp idf_mp idf_fn idf_agg idf_tup
set_option maxHeartbeats 8000000
/-- what is known of the list of the upper digits -/
structure DigOk (b : List (List Int)) (s : List Int) (q j : Nat) (N : List Int) : Prop where
  len : N.length = b.length
  eqv : ∃ T : List Int, T.length = b.length ∧ N = apl b (topL s j) T
  red : j < 41 → Red b.length (ed b) q (gf N)
  low : ∀ v, v < b.length → v ≠ q → 0 ≤ gf N v ∧ gf N v ≤ 30
theorem DigOk.own {b : List (List Int)} (hB : IsB b) {s : List Int} (hs : InR b.length 1048576 s) {q : Nat} (hq : q < b.length) {j : Nat} {N : List Int} (h : DigOk b s q j N) : ∀ v : Nat, v < b.length → -10486060 ≤ getI N (v : Int) ∧ getI N (v : Int) ≤ 10486060 := fun v hv => by
  by_cases e : v = q
  · subst e
    obtain ⟨T, hT, rfl⟩ := h.eqv
    have := at_q (gr_of hB) hq hB.n2 (l := gf (topL s j)) (t := gf T) (M := 1048576) (by decide) (fun w hw => by
      have e2 : gf (topL s j) w = topZ (getI s (w : Int)) j := topL_get (by rw [hs.1]; exact hw)
      rw [e2]
      exact topZ_le (inR_get hs w hw) j) (P := 30) (by decide) (fun w hw hwq => by
      rw [← apl_ap hB _ _ hw]
      have := h.low w hw hwq
      unfold gf at this
      omega)
    rw [apl_ap hB _ _ hv]
    omega
  · have := h.low v hv e
    unfold gf at this
    omega
theorem DigOk.near {b : List (List Int)} (hB : IsB b) {s : List Int} (hs : InR b.length 1048576 s) {q : Nat} (hq : q < b.length) {j : Nat} {N : List Int} (h : DigOk b s q (j + 1) N) : Near b.length q (pl2 N (digL s j) 1) := by
  refine ⟨by rw [pl2_len]; exact h.len, fun v hv hvq => ?_, ?_⟩
  · rw [pl2_get (by rw [h.len]; exact hv), digL_get (by rw [hs.1]; exact hv)]
    have := h.low v hv hvq
    have := digZ_le (getI s (v : Int)) j
    unfold gf at *
    omega
  · rw [pl2_get (by rw [h.len]; exact hq), digL_get (by rw [hs.1]; exact hq)]
    have := h.own hB hs hq q hq
    have := digZ_le (getI s (q : Int)) j
    omega
theorem DigOk.next {b : List (List Int)} (hB : IsB b) {s : List Int} (hs : InR b.length 1048576 s) {q : Nat} (hq : q < b.length) {j : Nat} {N : List Int} (h : DigOk b s q (j + 1) N) : DigOk b s q j (redL b (pl2 N (digL s j) 1) q) := by
  obtain ⟨T, hT, he⟩ := h.eqv
  have hr := redL_red hB (pl2 N (digL s j) 1) hq
  have hl := (redT_ok hB (pl2 N (digL s j) 1) hq).1
  have hn2 := hB.n2
  refine ⟨redL_len _ _ _, ⟨pl (pl2 T T 0) (redT b (pl2 N (digL s j) 1) q), by rw [pl_len, pl2_len]; exact hT, ?_⟩, fun _ => hr, fun v hv hvq => ?_⟩
  · unfold redL
    have e : pl2 N (digL s j) 1 = apl b (topL s j) (pl2 T T 0) := by rw [he]; exact apl_digit hB hs.1 hT j
    conv => lhs; arg 2; rw [e]
    exact apl_pl hB (by rw [pl2_len]; exact hT)
  · have := red_lt (gr_of hB) hr hv hvq
    omega
theorem DigOk.first {b : List (List Int)} (hB : IsB b) {s : List Int} (hs : InR b.length 1048576 s) (q : Nat) : DigOk b s q 41 (List.replicate b.length 0) := by
  have hz : topL s 41 = List.replicate b.length 0 := list_zero (by simp [topL, hs.1]) fun v hv => by rw [topL_get (by rw [hs.1]; exact hv)]; exact topZ_big (inR_get hs v hv)
  refine ⟨by simp, ⟨List.replicate b.length 0, by simp, by rw [hz]; exact (apl_zero hB (by simp)).symm⟩, fun h => by omega, fun v hv _ => ?_⟩
  have e : gf (List.replicate b.length 0) v = 0 := by unfold gf; rw [getI_nat]; simp [List.getD, hv]
  omega
theorem DigOk.last {b : List (List Int)} (hB : IsB b) {s : List Int} (hs : InR b.length 1048576 s) {q : Nat} (hq : q < b.length) {N : List Int} (h : DigOk b s q 0 N) : N = redL b s q := by
  obtain ⟨T, hT, he⟩ := h.eqv
  have h0 : topL s 0 = s := by
    refine ext_getI (by simp [topL]) fun i hi => ?_
    simp only [topL, List.length_map] at hi
    rw [topL_get hi, topZ_zero]
  rw [h0] at he
  have hr := h.red (by omega)
  rw [he] at hr ⊢
  exact redL_eq hB hq hr
/-- the reference's Reduce -/
theorem f28 {x y : AV} {b : List (List Int)} {s : List Int} {q : Nat} (hx : IsLL x b) (hy : IsL y s) (hB : IsB b) (hs : InR b.length 1048576 s) (hq : q < b.length) {m : Nat} (hm : smK + 2 ≤ m) :
    evF tab it m 28 [x, y, .int .i64 (q : Int)] [] = some (fzL (redL b s q), []) := by
  have hm1 : 100000 ≤ m := by have := smK_big; omega
  obtain ⟨m, rfl⟩ : ∃ j, m = j + 1 := ⟨m - 1, by omega⟩
  have fx := hx.free; have fy := hy.free
  have hn1 := hB.n1; have hn2 := hB.n2
  have hsl := hs.1
  have hsv := inR_get hs
  have lx : ∀ H, evP H .len [x] = some (.int .i64 ((b.length : Nat) : Int)) := fun H => by cases hx <;> rfl
  have ly : ∀ H, evP H .len [y] = some (.int .i64 ((b.length : Nat) : Int)) := fun H => by rw [← hsl]; exact p_lenI hy
  have mk := fun call H => @e_mkI call H b.length (by unfold most; omega)
  have e58 := fun (l : List Int) (hl : Near b.length q l) H => c58 hx (isL_fz l) hB hq hl (m := m) (by omega) H
  refine f_enter rfl rfl ?_
  have e59 := fun (args : List AV) (a c : List Int) (ha : a.length = b.length) (hc : c.length = b.length) h1 h2 (H : Heap) (hz : frzL H 40 args = some [.rd 1 b.length (iL a), .rd 1 b.length (iL c), .int .i64 1]) => c59p (k := 1) (rd_isL ha) (rd_isL hc) (by omega) (by omega) (by omega) (by decide) h1 h2 (m := m) (by omega) H hz
  clear hm
  generalize hcall : evF tab it m = call at *
  -- one round, whether the list is the first one (own) or not
  have body : ∀ (nv : AV) (hp : Heap) (N : List Int) (j : Nat) (K : KT), ((nv = fzL N ∧ hp = []) ∨ (nv = .sl 0 1 0 b.length ∧ hp = [some (.data (iL N))])) → j < 41 → DigOk b s q (j + 1) N →
      (∀ env' H', gc 0 (looks env' [0, 1, 2, 7, 8]) H' = some ([x, y, .int .i64 (q : Int), fzL (redL b (pl2 N (digL s j) 1) q), .int .i64 ((j : Int) - 1)], []) → K env' H' = some (fzL (redL b s q), [])) →
      RC call it m (.seq sp28_10 (.seq sp28_9 sq28_8)) 0 K (blkX 0 (evC call it m (.pre [7] (.seq (.reg [⟨.inl .mov, [.t 7], some 55, none, []⟩, ⟨.inl .mov, [.t 55], some 6, none, []⟩] none) .ret)) 0 (finish 0 [.t 6]) (fun _ _ _ => none) (finish 0 [.t 6])) (fun _ _ _ => none)) (finish 0 [.t 6]) (bindEnv [0, 1, 2, 7, 8] 0 [x, y, .int .i64 (q : Int), nv, .int .i64 (j : Int)]) hp (some (fzL (redL b s q), [])) := by
    intro nv hp N j K hcase hj hok hK
    have hNl := hok.len
    have hDl : (digL s j).length = b.length := by simp [digL, hsl]
    have hDg := fun (i : Nat) (hi : i < b.length) => digL_get (s := s) (j := j) (v := i) (by omega)
    have hNb := hok.own hB hs hq
    have e59' := fun (args : List AV) => e59 args N (digL s j) hNl hDl (fun v hv => by have := hNb v (by omega); omega) (fun v hv => by rw [hDg v (by omega)]; have := digZ_le (getI s (v : Int)) j; omega)
    have e58' := e58 _ (hok.near hB hs hq)
    have fR := (isL_fz (redL b (pl2 N (digL s j) 1) q)).free
    have fP := (isL_fz (pl2 N (digL s j) 1)).free
    have fN := (isL_fz N).free
    have gA : ∀ (i : Nat) (C : List AV), gc 0 [x, y, .int .i64 (q : Int), nv, .int .i64 (j : Int), ownV hp.length C, .int .i64 (i : Int)] (hp ++ owH C) = some ([x, y, .int .i64 (q : Int), nv, .int .i64 (j : Int), ownV hp.length C, .int .i64 (i : Int)], hp ++ owH C) := fun i C => by
      rcases hcase with ⟨rfl, rfl⟩ | ⟨rfl, rfl⟩ <;> cases C <;> simp [ownV, owH, go_sem, fx, fy, fN]
    have gB : ∀ (i c : Nat) (C : List AV), gc 0 [x, y, .int .i64 (q : Int), nv, .int .i64 (j : Int), .sl (hp.length + 1) 1 0 c, .int .i64 (i : Int)] (hp ++ [none, some (.data C)]) = some ([x, y, .int .i64 (q : Int), nv, .int .i64 (j : Int), .sl hp.length 1 0 c, .int .i64 (i : Int)], hp ++ [some (.data C)]) := fun i c C => by
      rcases hcase with ⟨rfl, rfl⟩ | ⟨rfl, rfl⟩ <;> simp [go_sem, fx, fy, fN]
    have gC : ∀ (i c : Nat) (C : List AV), gc 0 [x, y, .int .i64 (q : Int), nv, .int .i64 (j : Int), .sl hp.length 1 0 c] (hp ++ [some (.data C)]) = some ([x, y, .int .i64 (q : Int), nv, .int .i64 (j : Int), .sl hp.length 1 0 c], hp ++ [some (.data C)]) := fun i c C => by
      rcases hcase with ⟨rfl, rfl⟩ | ⟨rfl, rfl⟩ <;> simp [go_sem, fx, fy, fN]
    have hfz : frzL (hp ++ [some (.data (iL (digL s j)))]) 40 [nv, .sl hp.length 1 0 b.length, .int .i64 1] = some [.rd 1 b.length (iL N), .rd 1 b.length (iL (digL s j)), .int .i64 1] := by
      rcases hcase with ⟨rfl, rfl⟩ | ⟨rfl, rfl⟩
      · rw [fzL_ne hNl hn1]
        exact frzL_cons rfl (frzL_cons (frz_sl rfl hDl) (frzL_cons rfl frzL_nil))
      · exact frzL_cons (frz_sl rfl hNl) (frzL_cons (frz_sl rfl hDl) (frzL_cons rfl frzL_nil))
    have e59'' := e59' _ _ hfz
    have hset : ∀ C : List AV, (hp ++ [some (HO.data C)]).set hp.length none = hp ++ [none] := fun C => by
      rcases hcase with ⟨rfl, rfl⟩ | ⟨rfl, rfl⟩ <;> rfl
    have hdat : ∀ C : List AV, Heap.data? (hp ++ [some (.data C)]) hp.length = some C := fun C => by
      rcases hcase with ⟨rfl, rfl⟩ | ⟨rfl, rfl⟩ <;> rfl
    have app1 : ∀ (a : Int) call, evE call hp (.app false 1 8) [.nilS, .rd 1 1 [.int .i64 a]] = some (.sl hp.length 1 0 1, hp ++ [some (.data [.int .i64 a])]) := fun a call => e_app_nil rfl (by omega) (by decide)
    have app2 : ∀ (a : Int) (C : List AV) (k : Nat) call, C.length = k → k ≤ 12 → evE call (hp ++ [some (.data C)]) (.app false 1 8) [.sl hp.length 1 0 k, .rd 1 1 [.int .i64 a]] = some (.sl (hp.length + 1) 1 0 (k + 1), hp ++ [none, some (.data (C ++ [.int .i64 a]))]) := fun a C k call hk h12 => by
      have := e_app_sl (call := call) (q := 8) (n := 1) (bs := [.int .i64 a]) (hdat C) hk (by omega) (by unfold most; omega)
      rw [hset] at this
      simpa using this
    generalize hRN : fzL (redL b (pl2 N (digL s j) 1) q) = vR at *
    generalize hRP : fzL (pl2 N (digL s j) 1) = vP at *
    generalize hRF : fzL (redL b s q) = vF at *
    repeat' first
 | (apply s_mov; (focus ((conv => lhs; whnf); done)))
 | (apply c_nil)
 | ((first | apply s_lss | apply s_leq | apply s_gtr | apply s_geq | apply s_eql | apply s_neq); exact rfl; all_goals (intro _; try (exfalso; omega)))
 | (apply c_seq)
 | (apply c_reg)
 | (apply c_block)
 | (apply c_skip)
 | (apply c_condT; exact rfl)
 | (with_reducible apply k_c)
    all_goals try (exfalso; omega)
    refine c_loop ?_
    refine loop_gc (σ := Nat) (fun i => [x, y, .int .i64 (q : Int), nv, .int .i64 (j : Int), ownV hp.length (iL ((digL s j).take i)), .int .i64 (i : Int)]) (fun i => hp ++ owH (iL ((digL s j).take i))) (fun i => i ≤ b.length) (fun i => b.length - i) ?_ _ 0 _ _ (by omega) (by omega) (by
      have h := gA 0 []
      exact (congrArg (gc 0 _) (List.append_nil hp)).symm.trans h)
    intro i hi K2 hK2
    by_cases hin : i < b.length
    · have h1 := hsv i hin
      have hd := hDg i hin
      have hstep : (digL s j).take (i + 1) = (digL s j).take i ++ [digZ (getI s (i : Int)) j] := by
        rw [← List.take_append_getElem (by omega : i < (digL s j).length)]
        congr 1
        rw [getI_nat] at hd
        simpa [List.getD, show i < (digL s j).length by omega] using hd
      have hK21 := hK2 (i + 1)
      rw [hstep] at hK21
      have e1 : ∀ z : Int, iL ((digL s j).take i ++ [z]) = iL ((digL s j).take i) ++ [.int .i64 z] := fun z => by simp [iL]
      rw [e1] at hK21
      have hAl : (iL ((digL s j).take i)).length = i := by rw [iL_len]; simp; omega
      generalize iL ((digL s j).take i) = A at *
      have ng := fun H => p_negI (H := H) (a := getI s (i : Int)) (by omega)
      have hmx : (if -getI s (i : Int) > getI s (i : Int) then -getI s (i : Int) else getI s (i : Int)) = (((getI s (i : Int)).natAbs : Nat) : Int) := by split <;> omega
      have mx : ∀ H, evP H .mx [.int .i64 (getI s (i : Int)), .int .i64 (-getI s (i : Int))] = some (.int .i64 (((getI s (i : Int)).natAbs : Nat) : Int)) := fun H => by
        rw [← hmx]; rfl
      have shr := fun H => p_shr (H := H) (a := (getI s (i : Int)).natAbs) (b := j) (by omega)
      have hdz : digZ (getI s (i : Int)) j = if getI s (i : Int) < 0 then -(((getI s (i : Int)).natAbs / 2 ^ j % 2 : Nat) : Int) else (((getI s (i : Int)).natAbs / 2 ^ j % 2 : Nat) : Int) := rfl
      generalize (getI s (i : Int)).natAbs / 2 ^ j = D at *
      have hrem : ∀ H, evP H (.bin .rem) [.int .i64 (D : Int), .int .i64 2] = some (.int .i64 ((D % 2 : Nat) : Int)) := fun H => rfl
      have ng2 := fun H => p_negI (H := H) (a := ((D % 2 : Nat) : Int)) (by omega)
      by_cases hneg : getI s (i : Int) < 0
      · rw [if_pos hneg] at hdz
        rw [hdz] at hK21
        generalize ((D % 2 : Nat) : Int) = Q at *
        rcases A with _ | ⟨u, us⟩
        · have i0 : i = 0 := by simpa using hAl.symm
          simp only [ownV, owH, List.append_nil] at *
          repeat' first
 | (apply s_mov; (focus ((conv => lhs; whnf); done)))
 | (apply c_nil)
 | ((first | apply s_lss | apply s_leq | apply s_gtr | apply s_geq | apply s_eql | apply s_neq); exact rfl; all_goals (intro _; try (exfalso; omega)))
 | ((first | apply s_add | apply s_sub); exact rfl; omega)
 | (apply s_pn; (focus (repeat (first | apply opds_nil | (apply opds_cons; (first | (focus ((conv => lhs; whnf); done)) | exact rfl))))); exact ly _)
 | (apply s_pn; (focus (repeat (first | apply opds_nil | (apply opds_cons; (first | (focus ((conv => lhs; whnf); done)) | exact rfl))))); exact ng _)
 | (apply s_pn; (focus (repeat (first | apply opds_nil | (apply opds_cons; (first | (focus ((conv => lhs; whnf); done)) | exact rfl))))); exact mx _)
 | (apply s_pn; (focus (repeat (first | apply opds_nil | (apply opds_cons; (first | (focus ((conv => lhs; whnf); done)) | exact rfl))))); exact shr _)
 | (apply s_pn; (focus (repeat (first | apply opds_nil | (apply opds_cons; (first | (focus ((conv => lhs; whnf); done)) | exact rfl))))); exact hrem _)
 | (apply s_pn; (focus (repeat (first | apply opds_nil | (apply opds_cons; (first | (focus ((conv => lhs; whnf); done)) | exact rfl))))); exact ng2 _)
 | (apply s_en; (focus (repeat (first | apply opds_nil | (apply opds_cons; (first | (focus ((conv => lhs; whnf); done)) | exact rfl))))); exact e_bld1 rfl rfl rfl rfl)
 | (apply s_en; (focus (repeat (first | apply opds_nil | (apply opds_cons; (first | (focus ((conv => lhs; whnf); done)) | exact rfl))))); exact app1 _ _)
 | (apply s_idx; (focus ((conv => lhs; whnf); done)); exact rfl; (first | assumption | (apply IsLL.at; assumption; omega)); omega)
 | (apply s_ldI; exact rfl; omega)
 | (apply c_seq)
 | (apply c_reg)
 | (apply c_block)
 | (apply c_skip)
 | (apply c_condT; exact rfl)
 | (with_reducible apply k_c)
          all_goals first | (exfalso; omega) | skip
          exact hK21 _ _ (by omega) (by omega) (gA (i + 1) [.int .i64 (-Q)])
        · simp only [ownV, owH] at *
          have app3 := fun a call => app2 a (u :: us) (us.length + 1) call rfl (by simp at hAl; omega)
          repeat' first
 | (apply s_mov; (focus ((conv => lhs; whnf); done)))
 | (apply c_nil)
 | ((first | apply s_lss | apply s_leq | apply s_gtr | apply s_geq | apply s_eql | apply s_neq); exact rfl; all_goals (intro _; try (exfalso; omega)))
 | ((first | apply s_add | apply s_sub); exact rfl; omega)
 | (apply s_pn; (focus (repeat (first | apply opds_nil | (apply opds_cons; (first | (focus ((conv => lhs; whnf); done)) | exact rfl))))); exact ly _)
 | (apply s_pn; (focus (repeat (first | apply opds_nil | (apply opds_cons; (first | (focus ((conv => lhs; whnf); done)) | exact rfl))))); exact ng _)
 | (apply s_pn; (focus (repeat (first | apply opds_nil | (apply opds_cons; (first | (focus ((conv => lhs; whnf); done)) | exact rfl))))); exact mx _)
 | (apply s_pn; (focus (repeat (first | apply opds_nil | (apply opds_cons; (first | (focus ((conv => lhs; whnf); done)) | exact rfl))))); exact shr _)
 | (apply s_pn; (focus (repeat (first | apply opds_nil | (apply opds_cons; (first | (focus ((conv => lhs; whnf); done)) | exact rfl))))); exact hrem _)
 | (apply s_pn; (focus (repeat (first | apply opds_nil | (apply opds_cons; (first | (focus ((conv => lhs; whnf); done)) | exact rfl))))); exact ng2 _)
 | (apply s_en; (focus (repeat (first | apply opds_nil | (apply opds_cons; (first | (focus ((conv => lhs; whnf); done)) | exact rfl))))); exact e_bld1 rfl rfl rfl rfl)
 | (apply s_en; (focus (repeat (first | apply opds_nil | (apply opds_cons; (first | (focus ((conv => lhs; whnf); done)) | exact rfl))))); exact app3 _ _)
 | (apply s_idx; (focus ((conv => lhs; whnf); done)); exact rfl; (first | assumption | (apply IsLL.at; assumption; omega)); omega)
 | (apply s_ldI; exact rfl; omega)
 | (apply c_seq)
 | (apply c_reg)
 | (apply c_block)
 | (apply c_skip)
 | (apply c_condT; exact rfl)
 | (with_reducible apply k_c)
          all_goals first | (exfalso; omega) | skip
          refine hK21 _ _ (by omega) (by omega) ((gB (i + 1) _ _).trans ?_)
          simp
      · rw [if_neg hneg] at hdz
        rw [hdz] at hK21
        generalize ((D % 2 : Nat) : Int) = Q at *
        rcases A with _ | ⟨u, us⟩
        · have i0 : i = 0 := by simpa using hAl.symm
          simp only [ownV, owH, List.append_nil] at *
          repeat' first
 | (apply s_mov; (focus ((conv => lhs; whnf); done)))
 | (apply c_nil)
 | ((first | apply s_lss | apply s_leq | apply s_gtr | apply s_geq | apply s_eql | apply s_neq); exact rfl; all_goals (intro _; try (exfalso; omega)))
 | ((first | apply s_add | apply s_sub); exact rfl; omega)
 | (apply s_pn; (focus (repeat (first | apply opds_nil | (apply opds_cons; (first | (focus ((conv => lhs; whnf); done)) | exact rfl))))); exact ly _)
 | (apply s_pn; (focus (repeat (first | apply opds_nil | (apply opds_cons; (first | (focus ((conv => lhs; whnf); done)) | exact rfl))))); exact ng _)
 | (apply s_pn; (focus (repeat (first | apply opds_nil | (apply opds_cons; (first | (focus ((conv => lhs; whnf); done)) | exact rfl))))); exact mx _)
 | (apply s_pn; (focus (repeat (first | apply opds_nil | (apply opds_cons; (first | (focus ((conv => lhs; whnf); done)) | exact rfl))))); exact shr _)
 | (apply s_pn; (focus (repeat (first | apply opds_nil | (apply opds_cons; (first | (focus ((conv => lhs; whnf); done)) | exact rfl))))); exact hrem _)
 | (apply s_en; (focus (repeat (first | apply opds_nil | (apply opds_cons; (first | (focus ((conv => lhs; whnf); done)) | exact rfl))))); exact e_bld1 rfl rfl rfl rfl)
 | (apply s_en; (focus (repeat (first | apply opds_nil | (apply opds_cons; (first | (focus ((conv => lhs; whnf); done)) | exact rfl))))); exact app1 _ _)
 | (apply s_idx; (focus ((conv => lhs; whnf); done)); exact rfl; (first | assumption | (apply IsLL.at; assumption; omega)); omega)
 | (apply s_ldI; exact rfl; omega)
 | (apply c_seq)
 | (apply c_reg)
 | (apply c_block)
 | (apply c_skip)
 | (apply c_condT; exact rfl)
 | (apply c_condF; exact rfl)
 | (with_reducible apply k_c)
          all_goals first | (exfalso; omega) | skip
          exact hK21 _ _ (by omega) (by omega) (gA (i + 1) [.int .i64 Q])
        · simp only [ownV, owH] at *
          have app3 := fun a call => app2 a (u :: us) (us.length + 1) call rfl (by simp at hAl; omega)
          repeat' first
 | (apply s_mov; (focus ((conv => lhs; whnf); done)))
 | (apply c_nil)
 | ((first | apply s_lss | apply s_leq | apply s_gtr | apply s_geq | apply s_eql | apply s_neq); exact rfl; all_goals (intro _; try (exfalso; omega)))
 | ((first | apply s_add | apply s_sub); exact rfl; omega)
 | (apply s_pn; (focus (repeat (first | apply opds_nil | (apply opds_cons; (first | (focus ((conv => lhs; whnf); done)) | exact rfl))))); exact ly _)
 | (apply s_pn; (focus (repeat (first | apply opds_nil | (apply opds_cons; (first | (focus ((conv => lhs; whnf); done)) | exact rfl))))); exact ng _)
 | (apply s_pn; (focus (repeat (first | apply opds_nil | (apply opds_cons; (first | (focus ((conv => lhs; whnf); done)) | exact rfl))))); exact mx _)
 | (apply s_pn; (focus (repeat (first | apply opds_nil | (apply opds_cons; (first | (focus ((conv => lhs; whnf); done)) | exact rfl))))); exact shr _)
 | (apply s_pn; (focus (repeat (first | apply opds_nil | (apply opds_cons; (first | (focus ((conv => lhs; whnf); done)) | exact rfl))))); exact hrem _)
 | (apply s_en; (focus (repeat (first | apply opds_nil | (apply opds_cons; (first | (focus ((conv => lhs; whnf); done)) | exact rfl))))); exact e_bld1 rfl rfl rfl rfl)
 | (apply s_en; (focus (repeat (first | apply opds_nil | (apply opds_cons; (first | (focus ((conv => lhs; whnf); done)) | exact rfl))))); exact app3 _ _)
 | (apply s_idx; (focus ((conv => lhs; whnf); done)); exact rfl; (first | assumption | (apply IsLL.at; assumption; omega)); omega)
 | (apply s_ldI; exact rfl; omega)
 | (apply c_seq)
 | (apply c_reg)
 | (apply c_block)
 | (apply c_skip)
 | (apply c_condT; exact rfl)
 | (apply c_condF; exact rfl)
 | (with_reducible apply k_c)
          all_goals first | (exfalso; omega) | skip
          refine hK21 _ _ (by omega) (by omega) ((gB (i + 1) _ _).trans ?_)
          simp
    · obtain rfl : i = b.length := by omega
      have hall : (digL s j).take b.length = digL s j := List.take_of_length_le (by omega)
      rw [hall]
      have hown : ownV hp.length (iL (digL s j)) = .sl hp.length 1 0 b.length ∧ owH (iL (digL s j)) = [some (.data (iL (digL s j)))] := by
        have h1 := iL_len (digL s j)
        generalize iL (digL s j) = C at *
        cases C with
        | nil => simp at h1; omega
        | cons c cs => simp only [List.length_cons] at h1; constructor <;> simp [ownV, owH]; omega
      rw [hown.1, hown.2]
      repeat' first
 | (apply s_mov; (focus ((conv => lhs; whnf); done)))
 | (apply c_nil)
 | ((first | apply s_lss | apply s_leq | apply s_gtr | apply s_geq | apply s_eql | apply s_neq); exact rfl; all_goals (intro _; try (exfalso; omega)))
 | (apply s_pn; (focus (repeat (first | apply opds_nil | (apply opds_cons; (first | (focus ((conv => lhs; whnf); done)) | exact rfl))))); exact ly _)
 | (apply c_seq)
 | (apply c_reg)
 | (apply c_exitH)
 | (apply c_condF; exact rfl)
 | (with_reducible apply k_c)
      apply c_pre
      · exact gC 0 _ _
      repeat' first
 | (apply s_mov; (focus ((conv => lhs; whnf); done)))
 | (apply c_nil)
 | ((first | apply s_add | apply s_sub); exact rfl; omega)
 | (apply s_cn; (focus (repeat (first | apply opds_nil | (apply opds_cons; (first | (focus ((conv => lhs; whnf); done)) | exact rfl))))); exact e59'')
 | (apply s_cn; (focus (repeat (first | apply opds_nil | (apply opds_cons; (first | (focus ((conv => lhs; whnf); done)) | exact rfl))))); exact e58' _)
 | (apply c_reg)
 | (apply c_preF; (focus (repeat (first | apply looks_nil | (apply looks_cons; (focus ((conv => lhs; whnf); done)))))); (focus (simp [idFreeL, AV.idFree, *]; done)))
 | (with_reducible apply k_c)
      refine hK _ _ ?_
      exact gc_to rfl (by simp [idFreeL, AV.idFree, *]; done)
  have hz : gc 0 [x, y, .int .i64 (q : Int), .sl 0 1 0 b.length, .int .i64 40] [some (.data (iL (List.replicate b.length 0)))] = some ([x, y, .int .i64 (q : Int), .sl 0 1 0 b.length, .int .i64 40], [some (.data (iL (List.replicate b.length 0)))]) := by simp [go_sem, fx, fy]
  skip
  repeat' first
 | (apply s_mov; (focus ((conv => lhs; whnf); done)))
 | (apply c_nil)
 | (apply s_pn; (focus (repeat (first | apply opds_nil | (apply opds_cons; (first | (focus ((conv => lhs; whnf); done)) | exact rfl))))); exact lx _)
 | (apply s_en; (focus (repeat (first | apply opds_nil | (apply opds_cons; (first | (focus ((conv => lhs; whnf); done)) | exact rfl))))); exact mk _ _)
 | (apply c_seq)
 | (apply c_reg)
 | (apply c_block)
 | (with_reducible apply k_c)
  refine c_loop ?_
  refine loop_gc (σ := Nat × List Int) (fun p => [x, y, .int .i64 (q : Int), if p.1 = 41 then .sl 0 1 0 b.length else fzL p.2, .int .i64 ((p.1 : Int) - 1)]) (fun p => if p.1 = 41 then [some (.data (iL p.2))] else []) (fun p => p.1 ≤ 41 ∧ DigOk b s q p.1 p.2) (fun p => p.1) ?_ _ (41, List.replicate b.length 0) _ _ ⟨Nat.le_refl _, DigOk.first hB hs q⟩ (by dsimp only; omega) (by dsimp only; rw [if_pos rfl, if_pos rfl]; exact hz)
  intro ⟨j', N⟩ ⟨hj, hok⟩ K hK
  dsimp only at hj hok hK ⊢
  cases j' with
  | zero =>
    have hl := hok.last hB hs hq
    subst hl
    have fR := (isL_fz (redL b s q)).free
    generalize fzL (redL b s q) = vR at *
    simp only [show ¬ (0 = 41) by decide, if_false]
    repeat' first
 | (apply s_mov; (focus ((conv => lhs; whnf); done)))
 | (apply c_nil)
 | ((first | apply s_lss | apply s_leq | apply s_gtr | apply s_geq | apply s_eql | apply s_neq); exact rfl; all_goals (intro _; try (exfalso; omega)))
 | (apply c_seq)
 | (apply c_reg)
 | (apply c_exitH)
 | (apply c_ret)
 | (apply c_condF; exact rfl)
 | (apply c_preF; (focus (repeat (first | apply looks_nil | (apply looks_cons; (focus ((conv => lhs; whnf); done)))))); (focus (simp [idFreeL, AV.idFree, *]; done)))
 | (with_reducible apply k_c)
    all_goals first
      | (exfalso; omega)
      | skip
    exact fin_t (by (conv => lhs; whnf)) (by first | assumption | rfl) rfl
  | succ j =>
    have e0 : ((j + 1 : Nat) : Int) - 1 = (j : Int) := by omega
    rw [e0]
    refine body _ _ N j K ?_ (by omega) hok fun env' H' hg => ?_
    · by_cases h : j + 1 = 41
      · right; rw [if_pos h, if_pos h]; exact ⟨rfl, rfl⟩
      · left; rw [if_neg h, if_neg h]; exact ⟨rfl, rfl⟩
    · refine hK (j, redL b (pl2 N (digL s j) 1) q) env' H' ⟨by dsimp only; omega, hok.next hB hs hq⟩ (by dsimp only; omega) ?_
      dsimp only
      rw [if_neg (show ¬ j = 41 by omega), if_neg (show ¬ j = 41 by omega)]
      exact hg
theorem c28 {x y : AV} {b : List (List Int)} {s : List Int} {q : Nat} (hx : IsLL x b) (hy : IsL y s) (hB : IsB b) (hs : InR b.length 1048576 s) (hq : q < b.length) {m : Nat} (hm : smK + 2 ≤ m) (H : Heap) :
    callPure (evF tab it m) true 28 [x, y, .int .i64 (q : Int)] H = some (fzL (redL b s q), H) :=
  callPure_free (by simp [idFreeL, AV.idFree, hx.free, hy.free]) (by simp) (f28 hx hy hB hs hq hm) (isL_fz _).free
end Go.AM.Ch

set_option linter.unusedSectionVars false
set_option linter.unusedVariables false
set_option linter.unusedSimpArgs false
namespace Go.AM.Ch
attribute [local go_sem] gc subHeap reach_skip ren_free reach_new reach_newp reach_end rangeL roots boxCells nodupB posOf renL AV.ren pickO renH renO looks look bindEnv envOf reach_int reach_bool reach_nilS reach_rd putRow cells_sl cells_int cells_bool cells_nilS cells_rd cells_agg reach_agg reach_tup idFreeL idf_sl idf_ptr idf_int idf_bool idf_nilS idf_rd reach_fn reach_mp cells_fn cells_ptr cells_mp idf_mp idf_fn idf_agg idf_tup
set_option maxHeartbeats 8000000
def degsB (b : List (List Int)) : Int := sumTo (fun v => deg b.length (ed b) v) b.length
/-- genus -/
theorem c72 {x : AV} {b : List (List Int)} (hx : IsLL x b) (hB : IsB b) {m : Nat} (hm : 1100 ≤ m) (H : Heap) : callPure (evF tab it m) true 72 [x] H = some (.int .i64 (degsB b / 2 - b.length + 1), H) := by
  have f72 : evF tab it m 72 [x] [] = some (.int .i64 (degsB b / 2 - b.length + 1), []) := by
    obtain ⟨m, rfl⟩ : ∃ j, m = j + 1 := ⟨m - 1, by omega⟩
    have fx := hx.free
    have hn2 := hB.n2
    have g := gr_of hB
    have lx : ∀ H, evP H .len [x] = some (.int .i64 ((b.length : Nat) : Int)) := fun H => by cases hx <;> rfl
    have e74 := fun (i : Nat) (hi : i < b.length) H => c74 hx hB.bd hi (m := m) (by omega) H
    refine f_enter rfl rfl ?_
    generalize evF tab it m = call at *
    repeat' first
 | (apply s_mov; (focus ((conv => lhs; whnf); done)))
 | (apply c_nil)
 | (apply s_pn; (focus (repeat (first | apply opds_nil | (apply opds_cons; (first | (focus ((conv => lhs; whnf); done)) | exact rfl))))); exact lx _)
 | (apply c_seq)
 | (apply c_reg)
 | (apply c_block)
 | (with_reducible apply k_c)
    refine c_loop ?_
    refine loop_gc (σ := Nat) (fun k => [x, .int .i64 (sumTo (fun v => deg b.length (ed b) v) k), .int .i64 ((b.length : Nat) : Int), .int .i64 (k : Int)]) (fun _ => []) (fun k => k ≤ b.length) (fun k => b.length - k) ?_ _ 0 _ _ (by omega) (by omega) (gc_to rfl (by simp [idFreeL, AV.idFree, *]; done))
    intro k hk K hK
    have hs1 := sumTo_nn (f := fun v => deg b.length (ed b) v) (n := k) fun j hj => (deg_nn g (by omega)).1
    have hs2 := sumTo_le (f := fun v => deg b.length (ed b) v) (M := 36) (n := k) fun j hj => by have := deg_nn g (i := j) (by omega); omega
    have hK1 := hK (k + 1)
    simp only [sumTo] at hK1
    have hd : k = b.length → sumTo (fun v => deg b.length (ed b) v) k = degsB b := fun e => by subst e; rfl
    generalize sumTo (fun v => deg b.length (ed b) v) k = Z at *
    by_cases hkn : k < b.length
    · have e74' := e74 k hkn
      have hdg := deg_nn g hkn
      repeat' first
 | (apply s_mov; (focus ((conv => lhs; whnf); done)))
 | (apply c_nil)
 | ((first | apply s_lss | apply s_leq | apply s_gtr | apply s_geq | apply s_eql | apply s_neq); exact rfl; all_goals (intro _; try (exfalso; omega)))
 | ((first | apply s_add | apply s_sub); exact rfl; omega)
 | (apply s_cn; (focus (repeat (first | apply opds_nil | (apply opds_cons; (first | (focus ((conv => lhs; whnf); done)) | exact rfl))))); exact e74' _)
 | (apply c_seq)
 | (apply c_reg)
 | (apply c_block)
 | (apply c_skip)
 | (apply c_condT; exact rfl)
 | (with_reducible apply k_c)
      exact hK1 _ _ (by omega) (by omega) (gc_to rfl (by simp [idFreeL, AV.idFree, *]; done))
    · obtain rfl : k = b.length := by omega
      have quo := fun H => p_quo (H := H) (a := Z) (c := 2) (by omega) (by omega)
      have he := hd rfl
      rw [← he]
      repeat' first
 | (apply s_mov; (focus ((conv => lhs; whnf); done)))
 | (apply c_nil)
 | ((first | apply s_lss | apply s_leq | apply s_gtr | apply s_geq | apply s_eql | apply s_neq); exact rfl; all_goals (intro _; try (exfalso; omega)))
 | ((first | apply s_add | apply s_sub); exact rfl; omega)
 | (apply s_pn; (focus (repeat (first | apply opds_nil | (apply opds_cons; (first | (focus ((conv => lhs; whnf); done)) | exact rfl))))); exact lx _)
 | (apply s_pn; (focus (repeat (first | apply opds_nil | (apply opds_cons; (first | (focus ((conv => lhs; whnf); done)) | exact rfl))))); exact quo _)
 | (apply c_seq)
 | (apply c_reg)
 | (apply c_exitH)
 | (apply c_ret)
 | (apply c_condF; exact rfl)
 | (apply c_preF; (focus (repeat (first | apply looks_nil | (apply looks_cons; (focus ((conv => lhs; whnf); done)))))); (focus (simp [idFreeL, AV.idFree, *]; done)))
 | (with_reducible apply k_c)
      exact fin_t (by (conv => lhs; whnf)) (by rfl) rfl
  exact callPure_free (by simp [idFreeL, AV.idFree, hx.free]) (by simp) f72 rfl
/-- the canonical state -/
def canL (b : List (List Int)) : List Int := (List.range b.length).map fun v => deg b.length (ed b) v - 2
theorem canL_len (b : List (List Int)) : (canL b).length = b.length := by simp [canL]
theorem canL_get {b : List (List Int)} {v : Nat} (h : v < b.length) : getI (canL b) (v : Int) = deg b.length (ed b) v - 2 := by
  rw [getI_nat]; simp [canL, List.getD, h]
/-- Canonical -/
theorem f41 {x : AV} {b : List (List Int)} (hx : IsLL x b) (hB : IsB b) {m : Nat} (hm : 2200 ≤ m) :
    evF tab it m 41 [x] [] = some (.tup [.sl 0 1 0 b.length, .int .i64 (degsB b / 2 - b.length + 1), .int .i64 0], [some (.data (iL (canL b)))]) := by
  obtain ⟨m, rfl⟩ : ∃ j, m = j + 1 := ⟨m - 1, by omega⟩
  have fx := hx.free
  have hn1 := hB.n1; have hn2 := hB.n2
  have g := gr_of hB
  have lx : ∀ H, evP H .len [x] = some (.int .i64 ((b.length : Nat) : Int)) := fun H => by cases hx <;> rfl
  have e60 := fun H => c60 hx (by omega) (m := m) (by omega) H
  simp only [hB, decide_true] at e60
  have e74 := fun (i : Nat) (hi : i < b.length) H => c74 hx hB.bd hi (m := m) (by omega) H
  have e72 := fun H => c72 hx hB (m := m) (by omega) H
  have hRl := canL_len b
  have hRg := fun (i : Nat) (h : i < b.length) => canL_get h
  generalize canL b = R at *
  refine f_enter rfl rfl ?_
  generalize evF tab it m = call at *
  have own_gc : ∀ (i : Nat) (L : List AV), gc 0 [x, ownV 0 L, .int .i64 ((b.length : Nat) : Int), .int .i64 (i : Int)] (owH L) = some ([x, ownV 0 L, .int .i64 ((b.length : Nat) : Int), .int .i64 (i : Int)], owH L) := fun i L => by
    cases L <;> simp [ownV, owH, go_sem, fx]
  repeat' first
 | (apply s_mov; (focus ((conv => lhs; whnf); done)))
 | (apply c_nil)
 | (apply s_notT; exact rfl)
 | (apply s_cn; (focus (repeat (first | apply opds_nil | (apply opds_cons; (first | (focus ((conv => lhs; whnf); done)) | exact rfl))))); exact e60 _)
 | (apply s_pn; (focus (repeat (first | apply opds_nil | (apply opds_cons; (first | (focus ((conv => lhs; whnf); done)) | exact rfl))))); exact lx _)
 | (apply c_seq)
 | (apply c_reg)
 | (apply c_block)
 | (apply c_skip)
 | (apply c_condF; exact rfl)
 | (with_reducible apply k_c)
  refine c_loop ?_
  refine loop_gc (σ := Nat) (fun i => [x, ownV 0 (iL (R.take i)), .int .i64 ((b.length : Nat) : Int), .int .i64 (i : Int)]) (fun i => owH (iL (R.take i))) (fun i => i ≤ b.length) (fun i => b.length - i) ?_ _ 0 _ _ (by omega) (by omega) (own_gc 0 [])
  intro i hi K hK
  by_cases hin : i < b.length
  · have h3 := hRg i hin
    have e74' := e74 i hin
    have hdg := deg_nn g hin
    have hstep : R.take (i + 1) = R.take i ++ [deg b.length (ed b) i - 2] := by
      rw [← List.take_append_getElem (by omega : i < R.length)]
      congr 1
      rw [getI_nat] at h3
      simpa [List.getD, show i < R.length by omega] using h3
    have hK1 := hK (i + 1)
    rw [hstep] at hK1
    have e1 : ∀ z : Int, iL (R.take i ++ [z]) = iL (R.take i) ++ [.int .i64 z] := fun z => by simp [iL]
    rw [e1] at hK1
    have hAl : (iL (R.take i)).length ≤ 12 := by rw [iL_len]; simp; omega
    generalize iL (R.take i) = A at *
    rcases A with _ | ⟨u, us⟩
    · simp only [ownV, owH] at *
      repeat' first
 | (apply s_mov; (focus ((conv => lhs; whnf); done)))
 | (apply c_nil)
 | ((first | apply s_lss | apply s_leq | apply s_gtr | apply s_geq | apply s_eql | apply s_neq); exact rfl; all_goals (intro _; try (exfalso; omega)))
 | ((first | apply s_add | apply s_sub); exact rfl; omega)
 | (apply s_cn; (focus (repeat (first | apply opds_nil | (apply opds_cons; (first | (focus ((conv => lhs; whnf); done)) | exact rfl))))); exact e74' _)
 | (apply s_en; (focus (repeat (first | apply opds_nil | (apply opds_cons; (first | (focus ((conv => lhs; whnf); done)) | exact rfl))))); exact e_bld1 rfl rfl rfl rfl)
 | (apply s_en; (focus (repeat (first | apply opds_nil | (apply opds_cons; (first | (focus ((conv => lhs; whnf); done)) | exact rfl))))); exact e_app_nil rfl (by omega) (by decide))
 | (apply c_seq)
 | (apply c_reg)
 | (apply c_block)
 | (apply c_skip)
 | (apply c_condT; exact rfl)
 | (with_reducible apply k_c)
      all_goals first | (exfalso; omega) | exact hK1 _ _ (by omega) (by omega) (by simp [ownV, owH, go_sem, fx])
    · simp only [ownV, owH] at *
      repeat' first
 | (apply s_mov; (focus ((conv => lhs; whnf); done)))
 | (apply c_nil)
 | ((first | apply s_lss | apply s_leq | apply s_gtr | apply s_geq | apply s_eql | apply s_neq); exact rfl; all_goals (intro _; try (exfalso; omega)))
 | ((first | apply s_add | apply s_sub); exact rfl; omega)
 | (apply s_cn; (focus (repeat (first | apply opds_nil | (apply opds_cons; (first | (focus ((conv => lhs; whnf); done)) | exact rfl))))); exact e74' _)
 | (apply s_en; (focus (repeat (first | apply opds_nil | (apply opds_cons; (first | (focus ((conv => lhs; whnf); done)) | exact rfl))))); exact e_bld1 rfl rfl rfl rfl)
 | (apply s_en; (focus (repeat (first | apply opds_nil | (apply opds_cons; (first | (focus ((conv => lhs; whnf); done)) | exact rfl))))); exact e_app_sl rfl rfl (by omega) (by simp at hAl; unfold most; omega))
 | (apply c_seq)
 | (apply c_reg)
 | (apply c_block)
 | (apply c_skip)
 | (apply c_condT; exact rfl)
 | (with_reducible apply k_c)
      all_goals first | (exfalso; omega) | exact hK1 _ _ (by omega) (by omega) (by simp [ownV, owH, go_sem, fx])
  · obtain rfl : i = b.length := by omega
    have hall : R.take b.length = R := List.take_of_length_le (by omega)
    rw [hall]
    have hl := iL_len R
    rw [hRl] at hl
    generalize hA : iL R = A at *
    rcases A with _ | ⟨u, us⟩
    · simp at hl; omega
    · simp only [List.length_cons] at hl
      simp only [ownV, owH]
      repeat' first
 | (apply c_nil)
 | ((first | apply s_lss | apply s_leq | apply s_gtr | apply s_geq | apply s_eql | apply s_neq); exact rfl; all_goals (intro _; try (exfalso; omega)))
 | (apply c_seq)
 | (apply c_reg)
 | (apply c_exitH)
 | (apply c_condF; exact rfl)
 | (with_reducible apply k_c)
      apply c_pre (vs := [x, .sl 0 1 0 (us.length + 1)]) (H' := [some (.data (u :: us))])
      · simp [go_sem, fx]
      repeat' first
 | (apply s_mov; (focus ((conv => lhs; whnf); done)))
 | (apply c_nil)
 | (apply s_cn; (focus (repeat (first | apply opds_nil | (apply opds_cons; (first | (focus ((conv => lhs; whnf); done)) | exact rfl))))); exact e72 _)
 | (apply c_seq)
 | (apply c_reg)
 | (apply c_ret)
 | (with_reducible apply k_c)
      rw [hl]
      simp [finish, ress, resOf, look, tupOf, go_sem]
theorem c41 {x : AV} {b : List (List Int)} (hx : IsLL x b) (hB : IsB b) {m : Nat} (hm : 2200 ≤ m) (H : Heap) :
    callPure (evF tab it m) true 41 [x] H = some (.tup [.rd 1 b.length (iL (canL b)), .int .i64 (degsB b / 2 - b.length + 1), .int .i64 0], H) :=
  callPure_frz (by simp [idFreeL, AV.idFree, hx.free]) (by simp) (f41 hx hB hm) (frzV_tup rfl (frzL_cons (frz_sl rfl (canL_len b)) (frzL_cons rfl (frzL_cons rfl frzL_nil))))
end Go.AM.Ch
