/- A part of the proof: U45. -/
import Derived.Test.YtmegimhfoedcdaaU44
set_option linter.unusedSectionVars false
set_option linter.unusedVariables false
set_option linter.unusedSimpArgs false
namespace Go.AM.Ch
attribute [local go_sem] gc subHeap reach_skip ren_free reach_new reach_newp reach_end rangeL roots boxCells nodupB posOf renL AV.ren pickO renH renO looks look bindEnv envOf reach_int reach_bool reach_nilS reach_rd putRow cells_sl cells_int cells_bool cells_nilS cells_rd cells_agg reach_agg reach_tup idFreeL idf_sl idf_ptr idf_int idf_bool idf_nilS idf_rd reach_fn reach_mp cells_fn cells_ptr cells_mp idf_mp idf_fn idf_agg idf_tup
set_option maxHeartbeats 8000000
theorem c58 {x y : AV} {b : List (List Int)} {l : List Int} {q : Nat} (hx : IsLL x b) (hy : IsL y l) (hB : IsB b) (hq : q < b.length) (hl : Near b.length q l) {m : Nat} (hm : smK + 1 ≤ m) (H : Heap) :
    callPure (evF tab it m) true 58 [x, y, .int .i64 (q : Int)] H = some (fzL (redL b l q), H) := by
  have f58 : evF tab it m 58 [x, y, .int .i64 (q : Int)] [] = some (fzL (redL b l q), []) := by
    obtain ⟨m, rfl⟩ : ∃ j, m = j + 1 := ⟨m - 1, by omega⟩
    have fx := hx.free; have fy := hy.free
    have hn1 := hB.n1; have hn2 := hB.n2
    have hln := hl.len
    have ap0 := fun call H => e_appT (call := call) (H := H) hy (by omega) (by omega)
    have il := isL_fz l
    have e82 := fun H => callPure_free (H := H) (by simp [idFreeL, AV.idFree, hx.free, il.free]) (by simp) (f82 hx il hB hq hl (m := m) (by omega)) (isL_fz _).free
    have fz := (isL_fz (redL b l q)).free
    have fl := il.free
    clear hm
    refine f_enter rfl rfl ?_
    generalize evF tab it m = call at *
    generalize fzL (redL b l q) = vz at *
    generalize fzL l = vl at *
    repeat' first
 | (apply s_mov; (focus ((conv => lhs; whnf); done)))
 | (apply c_nil)
 | (apply s_en; (focus (repeat (first | apply opds_nil | (apply opds_cons; (first | (focus ((conv => lhs; whnf); done)) | exact rfl))))); exact ap0 _ _)
 | (apply s_cn; (focus (repeat (first | apply opds_nil | (apply opds_cons; (first | (focus ((conv => lhs; whnf); done)) | exact rfl))))); exact e82 _)
 | (apply c_seq)
 | (apply c_reg)
 | (apply c_ret)
 | (with_reducible apply k_c)
    exact fin_t (by (conv => lhs; whnf)) (by first | assumption | rfl) rfl
  exact callPure_free (by simp [idFreeL, AV.idFree, hx.free, hy.free]) (by simp) f58 (isL_fz _).free
/-- twice a list plus another one, many times -/
def pl2 (a c : List Int) (k : Int) : List Int := (List.range a.length).map fun (i : Nat) => 2 * getI a (i : Int) + k * getI c (i : Int)
theorem pl2_len (a c : List Int) (k : Int) : (pl2 a c k).length = a.length := by simp [pl2]
theorem pl2_get {a c : List Int} {k : Int} {i : Nat} (h : i < a.length) : getI (pl2 a c k) (i : Int) = 2 * getI a (i : Int) + k * getI c (i : Int) := by
  rw [getI_nat]
  simp [pl2, List.getD, h]
theorem f59 {x y : AV} {a c : List Int} {k : Int} (hx : IsL x a) (hy : IsL y c) (h0 : 1 ≤ a.length) (hl : a.length ≤ 12) (hac : c.length = a.length) (hk : 0 ≤ k ∧ k ≤ 1)
    (hb : ∀ v : Nat, v < a.length → -288230376151711744 ≤ getI a (v : Int) ∧ getI a (v : Int) ≤ 288230376151711744) (hc : ∀ v : Nat, v < a.length → -288230376151711744 ≤ getI c (v : Int) ∧ getI c (v : Int) ≤ 288230376151711744)
    {m : Nat} (hm : 100 ≤ m) : evF tab it m 59 [x, y, .int .i64 k] [] = some (ownV 0 (iL (pl2 a c k)), owH (iL (pl2 a c k))) := by
  obtain ⟨m, rfl⟩ : ∃ j, m = j + 1 := ⟨m - 1, by omega⟩
  have fx := hx.free; have fy := hy.free
  have la : ∀ H, evP H .len [x] = some (.int .i64 ((a.length : Nat) : Int)) := fun H => p_lenI hx
  have hRl := pl2_len a c k
  have hRg := fun (i : Nat) (h : i < a.length) => pl2_get (c := c) (k := k) h
  generalize pl2 a c k = R at *
  refine f_enter rfl rfl ?_
  generalize evF tab it m = call at *
  have own_gc : ∀ (i : Nat) (l : List AV), gc 0 [x, y, .int .i64 k, ownV 0 l, .int .i64 (i : Int)] (owH l) = some ([x, y, .int .i64 k, ownV 0 l, .int .i64 (i : Int)], owH l) := fun i l => by
    cases l <;> simp [ownV, owH, go_sem, fx, fy]
  repeat' first
 | (apply s_mov; (focus ((conv => lhs; whnf); done)))
 | (apply c_nil)
 | (apply c_seq)
 | (apply c_reg)
 | (apply c_block)
 | (with_reducible apply k_c)
  refine c_loop ?_
  refine loop_gc (σ := Nat) (fun i => [x, y, .int .i64 k, ownV 0 (iL (R.take i)), .int .i64 (i : Int)]) (fun i => owH (iL (R.take i))) (fun i => i ≤ a.length) (fun i => a.length - i) ?_ _ 0 _ _ (by omega) (by omega) (own_gc 0 [])
  intro i hi K hK
  by_cases hin : i < a.length
  · have h1 := hb i hin
    have h2 := hc i hin
    have h3 := hRg i hin
    have mu1 := fun H => p_mul2 (H := H) (a := getI a (i : Int)) (by omega)
    have hkc : k * getI c (i : Int) = 0 ∨ k * getI c (i : Int) = getI c (i : Int) := by
      rcases (by omega : k = 0 ∨ k = 1) with rfl | rfl
      · left; rw [Int.zero_mul]
      · right; rw [Int.one_mul]
    have mu2 := fun H => p_mul (H := H) (a := k) (c := getI c (i : Int)) (by omega)
    have hstep : R.take (i + 1) = R.take i ++ [2 * getI a (i : Int) + k * getI c (i : Int)] := by
      rw [← List.take_append_getElem (by omega : i < R.length)]
      congr 1
      rw [getI_nat] at h3
      simpa [List.getD, show i < R.length by omega] using h3
    have hK1 := hK (i + 1)
    rw [hstep] at hK1
    have e1 : ∀ z : Int, iL (R.take i ++ [z]) = iL (R.take i) ++ [.int .i64 z] := fun z => by simp [iL]
    rw [e1] at hK1
    have hAl : (iL (R.take i)).length ≤ 12 := by rw [iL_len]; simp; omega
    generalize iL (R.take i) = A at *
    generalize hQ : k * getI c (i : Int) = Q at *
    rcases A with _ | ⟨u, us⟩
    · simp only [ownV, owH] at *
      repeat' first
 | (apply s_mov; (focus ((conv => lhs; whnf); done)))
 | (apply c_nil)
 | ((first | apply s_lss | apply s_leq | apply s_gtr | apply s_geq | apply s_eql | apply s_neq); exact rfl; all_goals (intro _; try (exfalso; omega)))
 | ((first | apply s_add | apply s_sub); exact rfl; omega)
 | (apply s_pn; (focus (repeat (first | apply opds_nil | (apply opds_cons; (first | (focus ((conv => lhs; whnf); done)) | exact rfl))))); exact la _)
 | (apply s_pn; (focus (repeat (first | apply opds_nil | (apply opds_cons; (first | (focus ((conv => lhs; whnf); done)) | exact rfl))))); exact mu1 _)
 | (apply s_pn; (focus (repeat (first | apply opds_nil | (apply opds_cons; (first | (focus ((conv => lhs; whnf); done)) | exact rfl))))); exact mu2 _)
 | (apply s_en; (focus (repeat (first | apply opds_nil | (apply opds_cons; (first | (focus ((conv => lhs; whnf); done)) | exact rfl))))); exact e_bld1 rfl rfl rfl rfl)
 | (apply s_en; (focus (repeat (first | apply opds_nil | (apply opds_cons; (first | (focus ((conv => lhs; whnf); done)) | exact rfl))))); exact e_app_nil rfl (by omega) (by decide))
 | (apply s_idx; (focus ((conv => lhs; whnf); done)); exact rfl; (first | assumption | (apply IsLL.at; assumption; omega)); omega)
 | (apply s_ldI; exact rfl; omega)
 | (apply c_seq)
 | (apply c_reg)
 | (apply c_block)
 | (apply c_skip)
 | (apply c_condT; exact rfl)
 | (with_reducible apply k_c)
      all_goals first | exact hK1 _ _ (by omega) (by omega) (by simp [ownV, owH, go_sem, fx, fy]) | (exfalso; omega)
    · simp only [ownV, owH] at *
      repeat' first
 | (apply s_mov; (focus ((conv => lhs; whnf); done)))
 | (apply c_nil)
 | ((first | apply s_lss | apply s_leq | apply s_gtr | apply s_geq | apply s_eql | apply s_neq); exact rfl; all_goals (intro _; try (exfalso; omega)))
 | ((first | apply s_add | apply s_sub); exact rfl; omega)
 | (apply s_pn; (focus (repeat (first | apply opds_nil | (apply opds_cons; (first | (focus ((conv => lhs; whnf); done)) | exact rfl))))); exact la _)
 | (apply s_pn; (focus (repeat (first | apply opds_nil | (apply opds_cons; (first | (focus ((conv => lhs; whnf); done)) | exact rfl))))); exact mu1 _)
 | (apply s_pn; (focus (repeat (first | apply opds_nil | (apply opds_cons; (first | (focus ((conv => lhs; whnf); done)) | exact rfl))))); exact mu2 _)
 | (apply s_en; (focus (repeat (first | apply opds_nil | (apply opds_cons; (first | (focus ((conv => lhs; whnf); done)) | exact rfl))))); exact e_bld1 rfl rfl rfl rfl)
 | (apply s_en; (focus (repeat (first | apply opds_nil | (apply opds_cons; (first | (focus ((conv => lhs; whnf); done)) | exact rfl))))); exact e_app_sl rfl rfl (by omega) (by simp at hAl; unfold most; omega))
 | (apply s_idx; (focus ((conv => lhs; whnf); done)); exact rfl; (first | assumption | (apply IsLL.at; assumption; omega)); omega)
 | (apply s_ldI; exact rfl; omega)
 | (apply c_seq)
 | (apply c_reg)
 | (apply c_block)
 | (apply c_skip)
 | (apply c_condT; exact rfl)
 | (with_reducible apply k_c)
      all_goals first | exact hK1 _ _ (by omega) (by omega) (by simp [ownV, owH, go_sem, fx, fy]) | (exfalso; omega)
  · obtain rfl : i = a.length := by omega
    have hall : R.take a.length = R := List.take_of_length_le (by omega)
    rw [hall]
    generalize hA : iL R = A at *
    repeat' first
 | (apply s_mov; (focus ((conv => lhs; whnf); done)))
 | (apply c_nil)
 | ((first | apply s_lss | apply s_leq | apply s_gtr | apply s_geq | apply s_eql | apply s_neq); exact rfl; all_goals (intro _; try (exfalso; omega)))
 | (apply s_pn; (focus (repeat (first | apply opds_nil | (apply opds_cons; (first | (focus ((conv => lhs; whnf); done)) | exact rfl))))); exact la _)
 | (apply c_seq)
 | (apply c_reg)
 | (apply c_exitH)
 | (apply c_condF; exact rfl)
 | (with_reducible apply k_c)
    apply c_pre (vs := [ownV 0 A]) (H' := owH A)
    · cases A <;> simp [ownV, owH, go_sem, look, looks, bindEnv, envOf]
    repeat' first
 | (apply s_mov; (focus ((conv => lhs; whnf); done)))
 | (apply c_nil)
 | (apply c_seq)
 | (apply c_reg)
 | (apply c_ret)
 | (with_reducible apply k_c)
    cases A <;> simp [finish, ress, resOf, look, tupOf, ownV, owH, go_sem]
theorem c59p {args : List AV} {x y : AV} {a c : List Int} {k : Int} (hx : IsL x a) (hy : IsL y c) (h0 : 1 ≤ a.length) (hl : a.length ≤ 12) (hac : c.length = a.length) (hk : 0 ≤ k ∧ k ≤ 1)
    (hb : ∀ v : Nat, v < a.length → -288230376151711744 ≤ getI a (v : Int) ∧ getI a (v : Int) ≤ 288230376151711744) (hc : ∀ v : Nat, v < a.length → -288230376151711744 ≤ getI c (v : Int) ∧ getI c (v : Int) ≤ 288230376151711744)
    {m : Nat} (hm : 100 ≤ m) (H : Heap) (ha : frzL H 40 args = some [x, y, .int .i64 k]) : callPure (evF tab it m) true 59 args H = some (fzL (pl2 a c k), H) :=
  callPure_own ha (f59 hx hy h0 hl hac hk hb hc hm) (own_noRd _) (owH_noRd _) (frz_own _)
/-! the upper digits of a number -/
def topZ (a : Int) (j : Nat) : Int := if a < 0 then -((a.natAbs / 2 ^ j : Nat) : Int) else ((a.natAbs / 2 ^ j : Nat) : Int)
def digZ (a : Int) (j : Nat) : Int := if a < 0 then -((a.natAbs / 2 ^ j % 2 : Nat) : Int) else ((a.natAbs / 2 ^ j % 2 : Nat) : Int)
theorem topZ_step (a : Int) (j : Nat) : topZ a j = 2 * topZ a (j + 1) + digZ a j := by
  have h : a.natAbs / 2 ^ (j + 1) = a.natAbs / 2 ^ j / 2 := by rw [Nat.pow_succ, Nat.div_div_eq_div_mul]
  unfold topZ digZ
  rw [h]
  split <;> omega
theorem topZ_zero (a : Int) : topZ a 0 = a := by
  unfold topZ
  rw [Nat.pow_zero, Nat.div_one]
  split <;> omega
theorem topZ_big {a : Int} (h : -1048576 ≤ a ∧ a ≤ 1048576) : topZ a 41 = 0 := by
  have e : (2 : Nat) ^ 41 = 2199023255552 := by decide
  have : a.natAbs / 2 ^ 41 = 0 := Nat.div_eq_of_lt (by rw [e]; omega)
  unfold topZ
  rw [this]
  split <;> rfl
theorem topZ_le {a : Int} (h : -1048576 ≤ a ∧ a ≤ 1048576) (j : Nat) : -1048576 ≤ topZ a j ∧ topZ a j ≤ 1048576 := by
  have h1 : a.natAbs / 2 ^ j ≤ a.natAbs := Nat.div_le_self _ _
  have h2 : a.natAbs ≤ 1048576 := by omega
  unfold topZ
  generalize a.natAbs / 2 ^ j = N at *
  split <;> omega
theorem digZ_le (a : Int) (j : Nat) : -1 ≤ digZ a j ∧ digZ a j ≤ 1 := by
  unfold digZ
  generalize a.natAbs / 2 ^ j = N at *
  split <;> omega
def topL (s : List Int) (j : Nat) : List Int := s.map fun a => topZ a j
def digL (s : List Int) (j : Nat) : List Int := s.map fun a => digZ a j
theorem topL_get {s : List Int} {j v : Nat} (h : v < s.length) : getI (topL s j) (v : Int) = topZ (getI s (v : Int)) j := by
  rw [getI_nat, getI_nat]; simp [topL, List.getD, h]
theorem digL_get {s : List Int} {j v : Nat} (h : v < s.length) : getI (digL s j) (v : Int) = digZ (getI s (v : Int)) j := by
  rw [getI_nat, getI_nat]; simp [digL, List.getD, h]
/-- one more digit -/
theorem apl_digit {b : List (List Int)} (hB : IsB b) {s T : List Int} (hs : s.length = b.length) (hT : T.length = b.length) (j : Nat) : pl2 (apl b (topL s (j + 1)) T) (digL s j) 1 = apl b (topL s j) (pl2 T T 0) := by
  refine ext_getI (by rw [pl2_len, apl_len, apl_len]) fun i hi => ?_
  rw [pl2_len, apl_len] at hi
  rw [pl2_get (by rw [apl_len]; exact hi), apl_ap hB _ _ hi, apl_ap hB _ _ hi, digL_get (by omega)]
  have e1 : gf (topL s (j + 1)) i = topZ (getI s (i : Int)) (j + 1) := topL_get (by omega)
  have e2 : gf (topL s j) i = topZ (getI s (i : Int)) j := topL_get (by omega)
  have e3 : net b.length (ed b) (gf (pl2 T T 0)) i = 2 * net b.length (ed b) (gf T) i := by
    rw [← net_mul]
    exact net_congr hi fun k hk => by
      have := pl2_get (a := T) (c := T) (k := 0) (i := k) (by omega)
      unfold gf
      rw [this, Int.zero_mul]
      omega
  have e4 := topZ_step (getI s (i : Int)) j
  unfold ap
  rw [e1, e2, e3, e4]
  omega
end Go.AM.Ch
