/- A part of the proof: U26 U27 D1 D2 D3. -/
import Derived.Test.YtmegimhfoedcdaaU15
set_option linter.unusedVariables false
set_option linter.unusedSimpArgs false
set_option linter.unusedSectionVars false
namespace Go.AM.Ch
attribute [local go_sem] gc subHeap reach_skip ren_free reach_new reach_newp reach_end rangeL roots boxCells nodupB posOf renL AV.ren pickO renH renO looks look bindEnv envOf reach_int reach_bool reach_nilS reach_rd putRow cells_sl cells_int cells_bool cells_nilS cells_rd cells_agg reach_agg reach_tup idFreeL idf_sl idf_ptr idf_int idf_bool idf_nilS idf_rd reach_fn reach_mp cells_fn cells_ptr cells_mp idf_mp idf_fn idf_agg idf_tup
set_option maxHeartbeats 4000000
theorem frzV_of {H : Heap} {k : Nat} {x : AV} (h : x.idFree = true) : frzV H (k + 1) x = some x := frzV_free H k h
theorem frz_sl {H : Heap} {k id n : Nat} {l : List Int} (h : H.data? id = some (iL l)) (hl : l.length = n) : frzV H (k + 1) (.sl id 1 0 n) = some (.rd 1 n (iL l)) := by
  have := iL_len l
  subst hl
  simp [frzV_sl, h, this, List.take_of_length_le]
theorem frzL_cons {H : Heap} {k : Nat} {x y : AV} {xs ys : List AV} (h : frzV H (k + 1) x = some y) (hs : frzL H (k + 1) xs = some ys) : frzL H (k + 2) (x :: xs) = some (y :: ys) := by
  simp [frzL, h, hs]
theorem frzL_nil {H : Heap} {k : Nat} : frzL H (k + 1) [] = some [] := by simp [frzL]
theorem frzV_tup {H : Heap} {k : Nat} {cs cs' : List AV} (h : idFreeL cs = false) (h1 : frzL H k cs = some cs') : frzV H (k + 1) (.tup cs) = some (.tup cs') := by
  simp [frzV, h, h1]
theorem rd_isL {n : Nat} {l : List Int} (h : l.length = n) : IsL (.rd 1 n (iL l)) l := by subst h; exact .rd _
theorem f76 {x : AV} {l : List Int} (hx : IsL x l) (h0 : 1 ≤ l.length) (hl : l.length ≤ 1000) {m : Nat} (hm : 2 ≤ m) : evF tab it m 76 [x] [] = some (.sl 0 1 0 l.length, [some (.data (iL l))]) := by
  obtain ⟨m, rfl⟩ : ∃ j, m = j + 1 := ⟨m - 1, by omega⟩
  cases hx with
  | nil => simp at h0
  | rd l =>
    rcases l with _ | ⟨c, cs⟩
    · simp at h0
    · have bl : ∀ call, evE call [] (.bldS true false 1 0 [.int .i64 0] []) [] = some (.sl 0 1 0 0, [some (.data [])]) := fun call => rfl
      refine f_enter rfl rfl ?_
      repeat' first
 | (apply s_mov; exact aW)
 | (apply c_nil)
 | (apply s_en; exact aO; exact bl _)
 | (apply s_en; exact aO; exact e_app_sl rfl rfl (by simp) (by simp at hl ⊢; unfold most; omega))
 | (apply s_pd; exact aW)
 | (apply c_seq)
 | (apply c_reg)
 | (apply c_skip)
 | (apply c_ret)
 | (apply c_condF; exact rfl)
 | (with_reducible apply k_c)
      simp [finish, ress, resOf, look, tupOf, iL, ownV, owH, gc, subHeap, reach_new, reach_end, rangeL, roots, boxCells, nodupB, posOf, renL, AV.ren, pickO, renH, renO]
theorem c76o {x : AV} {l : List Int} (hx : IsL x l) (h0 : 1 ≤ l.length) (hl : l.length ≤ 1000) {m : Nat} (hm : 2 ≤ m) (H : Heap) : callPure (evF tab it m) false 76 [x] H = some (.sl H.length 1 0 l.length, H ++ [some (.data (iL l))]) := by
  have ff : idFreeL [x] = true := by simp [idFreeL, hx.free]
  simp [callPure, frzL_free H 40 [x] (by simp) ff, f76 hx h0 hl hm, ff, shiftH, AV.ren, renH, renO]
theorem c101 {m : Nat} (hm : 1 ≤ m) {a c : Int} (h : -9223372036854775808 ≤ a + c ∧ a + c < 9223372036854775808) (H : Heap) : callPure (evF tab it m) true 101 [.int .i64 a, .int .i64 c] H = some (.int .i64 (a + c), H) := by
  obtain ⟨m, rfl⟩ : ∃ j, m = j + 1 := ⟨m - 1, by omega⟩
  refine callPure_free (by simp [idFreeL, AV.idFree]) (by simp) (v := .int .i64 (a + c)) (H1 := []) ?_ rfl
  refine f_enter rfl rfl ?_
  repeat' first
 | (apply s_mov; exact aW)
 | (apply c_nil)
 | (apply s_add; exact rfl; omega)
 | (apply c_seq)
 | (apply c_reg)
 | (apply c_ret)
 | (with_reducible apply k_c)
  exact fin_t (by (conv => lhs; whnf)) (by rfl) rfl
def pl (a c : List Int) : List Int := (List.range a.length).map fun (i : Nat) => getI a (i : Int) + getI c (i : Int)
theorem pl_len (a c : List Int) : (pl a c).length = a.length := by simp [pl]
theorem pl_get {a c : List Int} {i : Nat} (h : i < a.length) : getI (pl a c) (i : Int) = getI a (i : Int) + getI c (i : Int) := by
  rw [getI_nat]
  simp [pl, List.getD, h]
theorem ext_getI {a c : List Int} (h : a.length = c.length) (h2 : ∀ i : Nat, i < a.length → getI a (i : Int) = getI c (i : Int)) : a = c := by
  refine List.ext_getElem h fun j h1 h3 => ?_
  have := h2 j h1
  rw [getI_nat, getI_nat] at this
  simpa [List.getD, h1, h3] using this
theorem f100 {x y : AV} {a c : List Int} (hx : IsL x a) (hy : IsL y c) (h0 : 1 ≤ a.length) (hl : a.length ≤ 12) (hac : c.length = a.length)
    (hb : ∀ v : Nat, v < a.length → -288230376151711744 ≤ getI a (v : Int) ∧ getI a (v : Int) ≤ 288230376151711744) (hc : ∀ v : Nat, v < a.length → -288230376151711744 ≤ getI c (v : Int) ∧ getI c (v : Int) ≤ 288230376151711744)
    {m : Nat} (hm : 100 ≤ m) : evF tab it m 100 [x, y, .fn 101 []] [] = some (.sl 0 1 0 a.length, [some (.data (iL (pl a c)))]) := by
  obtain ⟨m, rfl⟩ : ∃ j, m = j + 1 := ⟨m - 1, by omega⟩
  have fx := hx.free; have fy := hy.free
  have e76 := fun H => c76o hx h0 (by omega) (m := m) (by omega) H
  have ly : ∀ H, evP H .len [y] = some (.int .i64 ((a.length : Nat) : Int)) := fun H => by rw [← hac]; exact p_lenI hy
  have e101 := fun (p q : Int) (h : -9223372036854775808 ≤ p + q ∧ p + q < 9223372036854775808) (H : Heap) => c101 (m := m) (by omega) h H
  refine f_enter rfl rfl ?_
  generalize evF tab it m = call at *
  repeat' first
 | (apply s_mov; exact aW)
 | (apply c_nil)
 | (apply s_pn; exact aO; exact ly _)
 | (apply s_en; exact aO; exact e76 _)
 | (apply c_seq)
 | (apply c_reg)
 | (apply c_block)
 | (with_reducible apply k_c)
  have gcO : ∀ (k : Nat) (C : List AV), gc 0 [.fn 101 [], .sl 0 1 0 a.length, y, .int .i64 ((a.length : Nat) : Int), .int .i64 (k : Int)] [some (.data C)] = some ([.fn 101 [], .sl 0 1 0 a.length, y, .int .i64 ((a.length : Nat) : Int), .int .i64 (k : Int)], [some (.data C)]) := fun k C => by simp [go_sem, fy, reach_fn, idf_fn, cells_fn]
  refine c_loop ?_
  refine loop_gc (σ := Nat × List Int) (fun p => [.fn 101 [], .sl 0 1 0 a.length, y, .int .i64 ((a.length : Nat) : Int), .int .i64 (p.1 : Int)]) (fun p => [some (.data (iL p.2))]) (fun p => p.1 ≤ a.length ∧ p.2.length = a.length ∧ ∀ i : Nat, i < a.length → getI p.2 (i : Int) = if i < p.1 then getI a (i : Int) + getI c (i : Int) else getI a (i : Int)) (fun p => a.length - p.1) ?_ _ (0, a) _ _ ⟨by omega, rfl, fun i _ => by rw [if_neg (by omega)]⟩ (by show a.length - 0 < _; omega) (gcO 0 (iL a))
  intro ⟨k, o⟩ ⟨hk, hol, ho⟩ K hK
  dsimp only at hk hol ho hK ⊢
  by_cases hkn : k < a.length
  · have h1 := ho k hkn
    rw [if_neg (by omega)] at h1
    have h2 := hb k hkn
    have h3 := hc k hkn
    have ld := fun H h => p_ldO (H := H) (id := 0) (l := o) (i := k) h (by omega)
    have st := fun (vv : Int) call H h => e_stO (call := call) (H := H) (id := 0) (l := o) (i := k) (v := vv) h (by omega)
    have ecv : ∀ H, evE call H (.callv true true) [.fn 101 [], .int .i64 (getI o (k : Int)), .int .i64 (getI c (k : Int))] = some (.int .i64 (getI o (k : Int) + getI c (k : Int)), H) := fun H => by
      simpa [evE] using e101 (getI o (k : Int)) (getI c (k : Int)) (by omega) H
    repeat' first
 | (apply s_mov; exact aW)
 | (apply c_nil)
 | (apply s_lss; exact rfl; all_goals (intro _; try (exfalso; omega)))
 | (apply s_add; exact rfl; omega)
 | (apply s_pn; exact aO; exact p_ixO hkn)
 | (apply s_pn; exact aO; exact ld _ rfl)
 | (apply s_en; exact aO; exact ecv _)
 | (apply s_st; exact aO; exact st _ _ _ rfl)
 | (apply s_idx; exact aW; exact rfl; exact aI; omega)
 | (apply s_ldI; exact rfl; omega)
 | (apply c_seq)
 | (apply c_reg)
 | (apply c_block)
 | (apply c_skip)
 | (apply c_condT; exact rfl)
 | (with_reducible apply k_c)
    refine hK (k + 1, _) _ _ ⟨by omega, by simpa using hol, fun i hi => ?_⟩ (by show a.length - (k + 1) < _; omega) (gcO (k + 1) _)
    dsimp only
    rw [getI_set (by omega)]
    by_cases e : i = k
    · subst e; rw [if_pos rfl, if_pos (by omega), h1]
    · rw [if_neg e, ho i hi]
      by_cases e2 : i < k
      · rw [if_pos e2, if_pos (by omega)]
      · rw [if_neg e2, if_neg (by omega)]
  · obtain rfl : k = a.length := by omega
    obtain rfl : o = pl a c := ext_getI (by rw [pl_len]; exact hol) fun i hi => by rw [pl_get (by omega), ho i (by omega), if_pos (by omega)]
    repeat' first
 | (apply c_nil)
 | (apply s_lss; exact rfl; all_goals (intro _; try (exfalso; omega)))
 | (apply c_seq)
 | (apply c_reg)
 | (apply c_exitH)
 | (apply c_condF; exact rfl)
 | (with_reducible apply k_c)
    apply c_pre (vs := [.sl 0 1 0 a.length]) (H' := [some (.data (iL (pl a c)))])
    · simp [go_sem]
    repeat' first
 | (apply s_mov; exact aW)
 | (apply c_nil)
 | (apply c_seq)
 | (apply c_reg)
 | (apply c_ret)
 | (with_reducible apply k_c)
    simp [finish, ress, resOf, look, tupOf, go_sem]
theorem f77 {x y : AV} {a c : List Int} (hx : IsL x a) (hy : IsL y c) (h0 : 1 ≤ a.length) (hl : a.length ≤ 12) (hac : c.length = a.length)
    (hb : ∀ v : Nat, v < a.length → -288230376151711744 ≤ getI a (v : Int) ∧ getI a (v : Int) ≤ 288230376151711744) (hc : ∀ v : Nat, v < a.length → -288230376151711744 ≤ getI c (v : Int) ∧ getI c (v : Int) ≤ 288230376151711744)
    {m : Nat} (hm : 101 ≤ m) : evF tab it m 77 [x, y] [] = some (.sl 0 1 0 a.length, [some (.data (iL (pl a c)))]) := by
  obtain ⟨m, rfl⟩ : ∃ j, m = j + 1 := ⟨m - 1, by omega⟩
  have fx := hx.free; have fy := hy.free
  have ff : idFreeL [x, y, .fn 101 []] = true := by simp [idFreeL, fx, fy, AV.idFree]
  have e100 : ∀ H, callPure (evF tab it m) false 100 [x, y, .fn 101 []] H = some (.sl H.length 1 0 a.length, H ++ [some (.data (iL (pl a c)))]) := fun H => by
    simp [callPure, frzL_free H 40 [x, y, .fn 101 []] (by simp) ff, f100 hx hy h0 hl hac hb hc (m := m) (by omega), ff, shiftH, AV.ren, renH, renO]
  refine f_enter rfl rfl ?_
  generalize evF tab it m = call at *
  repeat' first
 | (apply s_mov; exact aW)
 | (apply c_nil)
 | (apply s_en; exact aO; exact e100 _)
 | (apply c_seq)
 | (apply c_reg)
 | (apply c_ret)
 | (with_reducible apply k_c)
  simp [finish, ress, resOf, look, tupOf, go_sem]
theorem c77o {args : List AV} {x y : AV} {a c : List Int} (hx : IsL x a) (hy : IsL y c) (h0 : 1 ≤ a.length) (hl : a.length ≤ 12) (hac : c.length = a.length)
    (hb : ∀ v : Nat, v < a.length → -288230376151711744 ≤ getI a (v : Int) ∧ getI a (v : Int) ≤ 288230376151711744) (hc : ∀ v : Nat, v < a.length → -288230376151711744 ≤ getI c (v : Int) ∧ getI c (v : Int) ≤ 288230376151711744)
    {m : Nat} (hm : 101 ≤ m) (H : Heap) (ha : frzL H 40 args = some [x, y]) : callPure (evF tab it m) false 77 args H = some (.sl H.length 1 0 a.length, H ++ [some (.data (iL (pl a c)))]) := by
  unfold callPure
  rw [ha, Option.bind_some, f77 hx hy h0 hl hac hb hc hm, Option.bind_some]
  simp [AV.hasRd, HO.hasRd, iL_noRd, shiftH, AV.ren, renH, renO]
theorem c55q {args : List AV} {x y z : AV} {b : List (List Int)} {s t : List Int} (hx : IsLL x b) (hy : IsL y s) (hz : IsL z t) (hb : Bd b) (hsn : s.length = b.length) (htn : t.length = b.length)
    (ht : ∀ v : Nat, v < b.length → -4503599627370496 ≤ getI t (v : Int) ∧ getI t (v : Int) ≤ 4503599627370496) (hs : ∀ v : Nat, v < b.length → -288230376151711744 ≤ getI s (v : Int) ∧ getI s (v : Int) ≤ 288230376151711744)
    {m : Nat} (hm : 100 ≤ m) (H : Heap) (ha : frzL H 40 args = some [x, y, z]) : callPure (evF tab it m) false 55 args H = some (.sl H.length 1 0 b.length, H ++ [some (.data (iL (apl b s t)))]) := by
  unfold callPure
  rw [ha, Option.bind_some, f55 hx hy hz hb hsn htn ht hs hm, Option.bind_some]
  simp [AV.hasRd, HO.hasRd, iL_noRd, shiftH, AV.ren, renH, renO]
theorem c55p {args : List AV} {x y z : AV} {b : List (List Int)} {s t : List Int} (hx : IsLL x b) (hy : IsL y s) (hz : IsL z t) (hb : Bd b) (hsn : s.length = b.length) (htn : t.length = b.length)
    (ht : ∀ v : Nat, v < b.length → -4503599627370496 ≤ getI t (v : Int) ∧ getI t (v : Int) ≤ 4503599627370496) (hs : ∀ v : Nat, v < b.length → -288230376151711744 ≤ getI s (v : Int) ∧ getI s (v : Int) ≤ 288230376151711744)
    {m : Nat} (hm : 100 ≤ m) (H : Heap) (ha : frzL H 40 args = some [x, y, z]) : callPure (evF tab it m) true 55 args H = some (.rd 1 b.length (iL (apl b s t)), H) := by
  refine callPure_own ha (f55 hx hy hz hb hsn htn ht hs hm) rfl (by simp [HO.hasRd, iL_noRd]) ?_
  exact frz_sl rfl (apl_len b s t)
theorem c74 {x : AV} {b : List (List Int)} (hx : IsLL x b) (hb : Bd b) {i : Nat} (hi : i < b.length) {m : Nat} (hm : 100 ≤ m) (H : Heap) : callPure (evF tab it m) true 74 [x, .int .i64 (i : Int)] H = some (.int .i64 (deg b.length (ed b) i), H) := by
  have f74 : evF tab it m 74 [x, .int .i64 (i : Int)] [] = some (.int .i64 (deg b.length (ed b) i), []) := by
    obtain ⟨m, rfl⟩ : ∃ j, m = j + 1 := ⟨m - 1, by omega⟩
    have fx := hx.free
    have hl := hb.len
    have hrow := hx.at (i := (i : Int)) ⟨by omega, by omega⟩
    have hrl := hb.row i hi
    have lr : ∀ H, evP H .len [llAt x (i : Int)] = some (.int .i64 ((b.length : Nat) : Int)) := fun H => by rw [← hrl]; exact p_lenI hrow
    have fr := hrow.free
    refine f_enter rfl rfl ?_
    generalize evF tab it m = call at *
    repeat' first
 | (apply s_mov; exact aW)
 | (apply c_nil)
 | (apply s_pn; exact aO; exact lr _)
 | (apply s_idxLL; exact aW; exact rfl; assumption; omega)
 | (apply s_ldLL; exact rfl; assumption; omega)
 | (apply c_seq)
 | (apply c_reg)
 | (apply c_block)
 | (with_reducible apply k_c)
    refine c_loop ?_
    refine loop_gc (σ := Nat) (fun k => [.int .i64 (sumTo (fun j => ed b i j) k), llAt x (i : Int), .int .i64 ((b.length : Nat) : Int), .int .i64 (k : Int)]) (fun _ => []) (fun k => k ≤ b.length) (fun k => b.length - k) ?_ _ 0 _ _ (by omega) (by omega) (gc_to rfl (by simp [idFreeL, AV.idFree, *]; done))
    intro k hk K hK
    have hs := sumTo_le (f := fun j => ed b i j) (M := 3) (n := k) fun j hj => by have := hb.val i j hi (by omega); unfold ed; omega
    have hK1 := hK (k + 1)
    simp only [sumTo] at hK1
    by_cases hkn : k < b.length
    · have hv := hb.val i k hi hkn
      have hed : ed b i k = getI (getLL b (i : Int)) (k : Int) := rfl
      rw [hed] at hK1
      repeat' first
 | (apply s_mov; exact aW)
 | (apply c_nil)
 | (apply s_lss; exact rfl; all_goals (intro _; try (exfalso; omega)))
 | (apply s_add; exact rfl; omega)
 | (apply s_idx; exact aW; exact rfl; exact aI; omega)
 | (apply s_ldI; exact rfl; omega)
 | (apply c_seq)
 | (apply c_reg)
 | (apply c_block)
 | (apply c_skip)
 | (apply c_condT; exact rfl)
 | (with_reducible apply k_c)
      exact hK1 _ _ (by omega) (by omega) (gc_to rfl (by simp [idFreeL, AV.idFree, *]; done))
    · obtain rfl : k = b.length := by omega
      have hd : sumTo (fun j => ed b i j) b.length = deg b.length (ed b) i := by unfold deg; rfl
      rw [hd] at *
      repeat' first
 | (apply s_mov; exact aW)
 | (apply c_nil)
 | (apply s_lss; exact rfl; all_goals (intro _; try (exfalso; omega)))
 | (apply c_seq)
 | (apply c_reg)
 | (apply c_exitH)
 | (apply c_ret)
 | (apply c_condF; exact rfl)
 | (apply c_preF; exact aK; exact aF)
 | (with_reducible apply k_c)
      exact fin_t (by (conv => lhs; whnf)) (by rfl) rfl
  exact callPure_free (by simp [idFreeL, AV.idFree, hx.free]) (by simp) f74 rfl
set_option maxHeartbeats 1000000
def unit (v : Nat) (k : Int) (j : Nat) : Int := if j = v then k else 0
theorem net_unit_self {n : Nat} {E : Nat → Nat → Int} (g : Gr n E) {v : Nat} (hv : v < n) {k : Int} (hk : 0 ≤ k) : net n E (unit v k) v ≤ k * deg n E v := by
  unfold net deg
  rw [sumTo_mul]
  refine sumTo_mono fun j hj => ?_
  try dsimp only
  rw [Int.mul_comm]
  refine Int.mul_le_mul_of_nonneg_right ?_ (g.nn v j hv hj)
  unfold unit
  rw [if_pos rfl]
  split <;> omega
theorem net_unit_other {n : Nat} {E : Nat → Nat → Int} (g : Gr n E) {v w : Nat} (hw : w < n) (hne : w ≠ v) {k : Int} (hk : 0 ≤ k) : net n E (unit v k) w ≤ 0 := by
  rw [show (0 : Int) = sumTo (fun _ => 0) n from (sumTo_zero n).symm]
  unfold net
  refine sumTo_mono fun j hj => ?_
  have := Int.mul_nonneg (g.nn w j hw hj) (show 0 ≤ unit v k j by unfold unit; split <;> omega)
  have e : unit v k w = 0 := by unfold unit; rw [if_neg hne]
  rw [e, Int.zero_sub, Int.mul_neg]
  omega
structure SetOk (n : Nat) (E : Nat → Nat → Int) (q : Nat) (c t : Nat → Int) : Prop where
  nn : ∀ v, v < n → 0 ≤ t v
  q0 : t q = 0
  pos : ∀ v, v < n → v ≠ q → 0 ≤ ap n E c t v
  lst : ∀ T : Nat → Int, (∀ v, v < n → 0 ≤ T v) → T q = 0 → (∀ v, v < n → v ≠ q → ap n E c T v < deg n E v) → ∀ v, v < n → t v ≤ T v
theorem ap_congr {n : Nat} {E : Nat → Nat → Int} {c c' t t' : Nat → Int} {v : Nat} (hv : v < n) (h : ∀ j, j < n → t j = t' j) (hc : c v = c' v) : ap n E c t v = ap n E c' t' v := by
  unfold ap
  rw [hc, net_congr hv h]
theorem SetOk.congr {n : Nat} {E : Nat → Nat → Int} {q : Nat} (hq : q < n) {c t t' : Nat → Int} (h : SetOk n E q c t) (e : ∀ j, j < n → t j = t' j) : SetOk n E q c t' :=
  ⟨fun v hv => by rw [← e v hv]; exact h.nn v hv, by rw [← e q hq]; exact h.q0, fun v hv hvq => by rw [← ap_congr hv e rfl]; exact h.pos v hv hvq, fun T a b d v hv => by rw [← e v hv]; exact h.lst T a b d v hv⟩
theorem SetOk.init {n : Nat} {E : Nat → Nat → Int} {q : Nat} {c : Nat → Int} (h : ∀ v, v < n → v ≠ q → 0 ≤ c v) : SetOk n E q c (fun _ => 0) :=
  ⟨fun _ _ => Int.le_refl _, rfl, fun v hv hvq => by unfold ap; rw [net_const]; have := h v hv hvq; omega, fun T hT _ _ v hv => hT v hv⟩
theorem SetOk.step {n : Nat} {E : Nat → Nat → Int} (g : Gr n E) {q : Nat} {c t : Nat → Int} (h : SetOk n E q c t) {v : Nat} (hv : v < n) (hvq : v ≠ q) {k : Int} (hk : 1 ≤ k) (hl : k * deg n E v ≤ ap n E c t v) : SetOk n E q c (fun j => t j + unit v k j) := by
  refine ⟨fun w hw => ?_, ?_, fun w hw hwq => ?_, fun T a b d w hw => ?_⟩
  · have := h.nn w hw
    unfold unit
    split <;> omega
  · have := h.q0
    unfold unit
    rw [if_neg (fun e => hvq e.symm)]
    omega
  · have e : ap n E c (fun j => t j + unit v k j) w = ap n E c t w - net n E (unit v k) w := by unfold ap; rw [net_add]; omega
    rw [e]
    by_cases hwv : w = v
    · subst hwv
      have := net_unit_self g hv (k := k) (by omega)
      omega
    · have := net_unit_other g hw hwv (k := k) (by omega)
      have := h.pos w hw hwq
      omega
  · have hle := h.lst T a b d
    by_cases hwv : w = v
    · subst hwv
      have := least g hle hv (d w hw hvq) hk hl
      unfold unit
      rw [if_pos rfl]
      exact this
    · have := hle w hw
      unfold unit
      rw [if_neg hwv]
      omega
def oth (n : Nat) (q : Int) (f : Nat → Int) : Int := sumTo (fun i => if (i : Int) = q then 0 else f i) n
theorem oth_term {n q : Nat} {f : Nat → Int} (h : ∀ v, v < n → v ≠ q → 0 ≤ f v) {v : Nat} (hv : v < n) (hvq : v ≠ q) : f v ≤ oth n q f := by
  have := sumTo_term (f := fun i => if (i : Int) = (q : Int) then 0 else f i) (n := n) (k := v) (fun j hj => by
    try dsimp only
    split
    · exact Int.le_refl _
    · rename_i e; exact h j hj (fun e2 => e (by rw [e2]))) hv
  try dsimp only at this
  rw [if_neg (fun e => hvq (by omega))] at this
  exact this
theorem sumTo_unit (q : Nat) (a : Int) : ∀ n, sumTo (fun i => if (i : Int) = (q : Int) then a else 0) n = if q < n then a else 0
  | 0 => rfl
  | n + 1 => by
    simp only [sumTo]
    rw [sumTo_unit q a n]
    by_cases h : n = q
    · subst h; rw [if_neg (by omega), if_pos rfl, if_pos (by omega)]; omega
    · rw [if_neg (show ¬ ((n : Nat) : Int) = (q : Int) by omega)]
      by_cases h2 : q < n
      · rw [if_pos h2, if_pos (by omega)]; omega
      · rw [if_neg h2, if_neg (by omega)]; omega
theorem oth_eq {n q : Nat} (hq : q < n) (f : Nat → Int) : oth n q f = sumTo f n - f q := by
  have h : sumTo f n = oth n q f + sumTo (fun i => if (i : Int) = (q : Int) then f q else 0) n := by
    unfold oth
    rw [← sumTo_add]
    refine sumTo_congr fun i _ => ?_
    by_cases e : (i : Int) = (q : Int)
    · rw [if_pos e, if_pos e]; have : i = q := by omega
      rw [this]; omega
    · rw [if_neg e, if_neg e]; omega
  rw [sumTo_unit, if_pos hq] at h
  omega
theorem oth_nn {n q : Nat} {f : Nat → Int} (h : ∀ v, v < n → v ≠ q → 0 ≤ f v) : 0 ≤ oth n q f := sumTo_nn fun j hj => by
  try dsimp only
  split
  · exact Int.le_refl _
  · rename_i e; exact h j hj (fun e2 => e (by rw [e2]))
theorem SetOk.le {n : Nat} {E : Nat → Nat → Int} (g : Gr n E) {q : Nat} (hq : q < n) {D : Nat → Int} (d : Dst n E q D) {c t : Nat → Int} (hc : ∀ v, v < n → v ≠ q → 0 ≤ c v) {M : Int} (hM : oth n q c ≤ M) (h : SetOk n E q c t) :
    (∀ v, v < n → v ≠ q → ap n E c t v ≤ M) ∧ (c q ≤ ap n E c t q ∧ ap n E c t q ≤ c q + M) ∧ (∀ v, v < n → 0 ≤ t v ∧ t v ≤ n * (n * M)) ∧ oth n q (ap n E c t) ≤ M := by
  have hn := g.sz
  have hsum := ap_sum g c t
  have e1 := oth_eq hq c
  have e2 := oth_eq hq (ap n E c t)
  have o1 := oth_nn hc
  have o2 := oth_nn h.pos
  have hnq : net n E t q ≤ 0 := by
    rw [show (0 : Int) = sumTo (fun _ => 0) n from (sumTo_zero n).symm]
    unfold net
    refine sumTo_mono fun j hj => ?_
    have := Int.mul_nonneg (g.nn q j hq hj) (h.nn j hj)
    rw [h.q0, Int.zero_sub, Int.mul_neg]
    omega
  have hcq : c q ≤ ap n E c t q := by unfold ap; omega
  have hle : ∀ v, v < n → v ≠ q → ap n E c t v ≤ M := fun v hv hvq => by
    have := oth_term h.pos hv hvq
    omega
  refine ⟨hle, ⟨hcq, by omega⟩, fun v hv => ⟨h.nn v hv, ?_⟩, by omega⟩
  have hs := script_le g d (t := t) (B := M) (by omega) h.q0 (fun w hw hwq => by
    have a := hle w hw hwq
    have b := h.pos w hw hwq
    have c1 := hc w hw hwq
    have c2 := oth_term hc hw hwq
    unfold ap at a b
    omega) n v hv (d.le v hv)
  exact hs.2
theorem apl_zero {b : List (List Int)} (h : IsB b) {s : List Int} (hs : s.length = b.length) : apl b s (List.replicate b.length 0) = s := by
  refine ext_getI (by rw [apl_len, hs]) fun i hi => ?_
  rw [apl_len] at hi
  rw [apl_ap h s _ hi]
  have : ap b.length (ed b) (gf s) (gf (List.replicate b.length 0)) i = ap b.length (ed b) (gf s) (fun _ => 0) i := ap_congr hi (fun j hj => by unfold gf; rw [getI_nat]; simp [List.getD, hj]) rfl
  rw [this]
  unfold ap
  rw [net_const]
  show gf s i - 0 = _
  unfold gf
  omega
theorem apl_pl {b : List (List Int)} (h : IsB b) {s t u : List Int} (ht : t.length = b.length) : apl b (apl b s t) u = apl b s (pl t u) := by
  refine ext_getI (by rw [apl_len, apl_len]) fun i hi => ?_
  rw [apl_len] at hi
  rw [apl_ap h _ _ hi, apl_ap h _ _ hi]
  have e1 : ap b.length (ed b) (gf (apl b s t)) (gf u) i = ap b.length (ed b) (ap b.length (ed b) (gf s) (gf t)) (gf u) i := ap_congr hi (fun _ _ => rfl) (apl_ap h s t hi)
  rw [e1, ap_ap]
  exact ap_congr hi (fun j hj => (pl_get (by omega)).symm) rfl
set_option maxHeartbeats 2000000
def skp (i r : Nat) : Nat := if r < i then r else r + 1
def mn (M : Nat → Nat → Int) (i j : Nat) : Nat → Nat → Int := fun r c => M (skp i r) (skp j c)
def sg (i : Nat) : Int := if i % 2 = 0 then 1 else -1
theorem sg_succ (i : Nat) : sg (i + 1) = - sg i := by unfold sg; split <;> split <;> omega
theorem sg_sq (i : Nat) : sg i * sg i = 1 := by unfold sg; split <;> rfl
def det : Nat → (Nat → Nat → Int) → Int
  | 0, _ => 1
  | n + 1, M => sumTo (fun i => sg i * (M i 0 * det n (mn M i 0))) (n + 1)
theorem skp_lt {i r n : Nat} (h : r < n) : skp i r < n + 1 := by unfold skp; split <;> omega
theorem det_congr : ∀ {n : Nat} {M M' : Nat → Nat → Int}, (∀ r c, r < n → c < n → M r c = M' r c) → det n M = det n M'
  | 0, _, _, _ => rfl
  | n + 1, M, M', h => by
    unfold det
    refine sumTo_congr fun i hi => ?_
    rw [h i 0 hi (by omega), det_congr (n := n) (M := mn M i 0) (M' := mn M' i 0) fun r c hr hc => h _ _ (skp_lt hr) (skp_lt hc)]
def rwR (M : Nat → Nat → Int) (k : Nat) (f : Nat → Int) : Nat → Nat → Int := fun r c => if r = k then f c else M r c
theorem rwR_self (M : Nat → Nat → Int) (k : Nat) : rwR M k (M k) = M := by
  funext r c
  unfold rwR
  split
  · rename_i h; rw [h]
  · rfl
theorem rwR_comm (M : Nat → Nat → Int) {k l : Nat} (h : k ≠ l) (f g : Nat → Int) : rwR (rwR M k f) l g = rwR (rwR M l g) k f := by
  funext r c
  unfold rwR
  by_cases e : r = k <;> by_cases e2 : r = l <;> simp [e, e2] <;> omega
theorem mn_rwR_at (M : Nat → Nat → Int) (k : Nat) (f : Nat → Int) (j : Nat) : mn (rwR M k f) k j = mn M k j := by
  funext r c
  unfold mn rwR
  rw [if_neg (by unfold skp; split <;> omega)]
theorem mn_rwR_lt (M : Nat → Nat → Int) {k i : Nat} (h : k < i) (f : Nat → Int) (j : Nat) : mn (rwR M k f) i j = rwR (mn M i j) k (fun c => f (skp j c)) := by
  funext r c
  unfold mn rwR
  by_cases e : r = k
  · subst e; rw [if_pos (by unfold skp; rw [if_pos h]), if_pos rfl]
  · rw [if_neg (by unfold skp; split <;> omega), if_neg e]
theorem mn_rwR_gt (M : Nat → Nat → Int) {k i : Nat} (h : i < k + 1) (f : Nat → Int) (j : Nat) : mn (rwR M (k + 1) f) i j = rwR (mn M i j) k (fun c => f (skp j c)) := by
  funext r c
  unfold mn rwR
  by_cases e : r = k
  · subst e; rw [if_pos (by unfold skp; rw [if_neg (by omega)]), if_pos rfl]
  · rw [if_neg (by unfold skp; split <;> omega), if_neg e]
theorem det_lin (t : Int) : ∀ {n : Nat} {M : Nat → Nat → Int} {k : Nat} {f g : Nat → Int}, k < n → det n (rwR M k (fun c => f c + t * g c)) = det n (rwR M k f) + t * det n (rwR M k g)
  | n + 1, M, k, f, g, hk => by
    unfold det
    rw [sumTo_mul, ← sumTo_add]
    refine sumTo_congr fun i hi => ?_
    by_cases e : i = k
    · subst e
      rw [mn_rwR_at, mn_rwR_at, mn_rwR_at]
      simp only [rwR, if_true]
      rw [Int.add_mul, Int.mul_add, Int.mul_assoc, Int.mul_left_comm (sg i) t]
    · have em : ∀ f : Nat → Int, rwR M k f i 0 = M i 0 := fun f => by unfold rwR; rw [if_neg e]
      rw [em, em, em]
      rcases Nat.lt_or_ge k i with h | h
      · rw [mn_rwR_lt _ h, mn_rwR_lt _ h, mn_rwR_lt _ h, det_lin t (n := n) (M := mn M i 0) (k := k) (f := fun c => f (skp 0 c)) (g := fun c => g (skp 0 c)) (by omega), Int.mul_add, Int.mul_add, Int.mul_left_comm (M i 0) t, Int.mul_left_comm (sg i) t]
      · obtain ⟨k, rfl⟩ : ∃ j, k = j + 1 := ⟨k - 1, by omega⟩
        have h' : i < k + 1 := by omega
        rw [mn_rwR_gt _ h', mn_rwR_gt _ h', mn_rwR_gt _ h', det_lin t (n := n) (M := mn M i 0) (k := k) (f := fun c => f (skp 0 c)) (g := fun c => g (skp 0 c)) (by omega), Int.mul_add, Int.mul_add, Int.mul_left_comm (M i 0) t, Int.mul_left_comm (sg i) t]
theorem sumTo_pair {F : Nat → Int} {k : Nat} : ∀ {n : Nat}, k + 1 < n → (∀ j, j < n → j ≠ k → j ≠ k + 1 → F j = 0) → sumTo F n = F k + F (k + 1)
  | n + 1, hk, h => by
    simp only [sumTo]
    by_cases e : n = k + 1
    · subst e
      have : sumTo F (k + 1) = F k := by
        simp only [sumTo]
        have e0 : sumTo F k = sumTo (fun _ => 0) k := sumTo_congr fun j hj => h j (by omega) (by omega) (by omega)
        rw [e0, sumTo_zero]; omega
      rw [this]
    · rw [sumTo_pair (n := n) (by omega) fun j hj => h j (by omega), h n (by omega) (by omega) e]; omega
theorem det_adj : ∀ {n : Nat} {M : Nat → Nat → Int} {k : Nat}, k + 1 < n → (∀ c, M k c = M (k + 1) c) → det n M = 0
  | n + 1, M, k, hk, h => by
    unfold det
    rw [sumTo_pair (k := k) hk fun j hj h1 h2 => ?_]
    · have e : mn M k 0 = mn M (k + 1) 0 := by
        funext r c
        unfold mn
        by_cases e : r = k
        · subst e
          rw [show skp r r = r + 1 by unfold skp; rw [if_neg (by omega)], show skp (r + 1) r = r by unfold skp; rw [if_pos (by omega)]]
          exact (h _).symm
        · rw [show skp k r = skp (k + 1) r by unfold skp; split <;> split <;> omega]
      rw [e, h 0, sg_succ, Int.neg_mul]
      omega
    · have hz : det n (mn M j 0) = 0 := by
        rcases Nat.lt_or_ge k j with g | g
        · refine det_adj (k := k) (by omega) fun c => ?_
          unfold mn
          rw [show skp j k = k by unfold skp; rw [if_pos g], show skp j (k + 1) = k + 1 by unfold skp; rw [if_pos (by omega)]]
          exact h _
        · obtain ⟨k, rfl⟩ : ∃ i, k = i + 1 := ⟨k - 1, by omega⟩
          refine det_adj (k := k) (by omega) fun c => ?_
          unfold mn
          rw [show skp j k = k + 1 by unfold skp; rw [if_neg (by omega)], show skp j (k + 1) = k + 1 + 1 by unfold skp; rw [if_neg (by omega)]]
          exact h _
      rw [hz]; simp
theorem swap_of {n : Nat} {i j : Nat} (hi : i < n) (hj : j < n) (hij : i ≠ j) (h0 : ∀ M : Nat → Nat → Int, (∀ c, M i c = M j c) → det n M = 0) (M : Nat → Nat → Int) : det n (rwR (rwR M i (M j)) j (M i)) = - det n M := by
  have key : ∀ f g : Nat → Int, det n (rwR (rwR M i f) j g) = - det n (rwR (rwR M i g) j f) := fun f g => by
    have hz : ∀ f : Nat → Int, det n (rwR (rwR M i f) j f) = 0 := fun f => h0 _ fun c => by
      unfold rwR
      rw [if_neg hij, if_pos rfl, if_pos rfl]
    have h1 := hz (fun c => f c + 1 * g c)
    rw [det_lin 1 hj, rwR_comm M hij, rwR_comm M hij, det_lin 1 hi, det_lin 1 hi, ← rwR_comm M hij, ← rwR_comm M hij, ← rwR_comm M hij, ← rwR_comm M hij, hz, hz] at h1
    omega
  have := key (M j) (M i)
  rw [rwR_self, rwR_self] at this
  exact this
theorem det_eq {n : Nat} : ∀ (d : Nat) {M : Nat → Nat → Int} {i : Nat}, i + d + 1 < n → (∀ c, M i c = M (i + d + 1) c) → det n M = 0
  | 0, M, i, h, he => det_adj h he
  | d + 1, M, i, h, he => by
    have hs := swap_of (n := n) (i := i + d + 1) (j := i + (d + 1) + 1) (by omega) h (by omega) (fun M hM => det_adj (by omega) hM) M
    have h2 : det n (rwR (rwR M (i + d + 1) (M (i + (d + 1) + 1))) (i + (d + 1) + 1) (M (i + d + 1))) = 0 := det_eq d (i := i) (by omega) fun c => by
      unfold rwR
      rw [if_neg (by omega), if_neg (by omega), if_neg (by omega), if_pos rfl]
      exact he c
    omega
theorem det_eq' {n : Nat} {M : Nat → Nat → Int} {i j : Nat} (hi : i < n) (hj : j < n) (hij : i ≠ j) (h : ∀ c, M i c = M j c) : det n M = 0 := by
  rcases Nat.lt_or_ge i j with g | g
  · exact det_eq (j - i - 1) (i := i) (by omega) fun c => by rw [show i + (j - i - 1) + 1 = j by omega]; exact h c
  · exact det_eq (i - j - 1) (i := j) (by omega) fun c => by rw [show j + (i - j - 1) + 1 = i by omega]; exact (h c).symm
theorem det_swap {n : Nat} {i j : Nat} (hi : i < n) (hj : j < n) (hij : i ≠ j) (M : Nat → Nat → Int) : det n (rwR (rwR M i (M j)) j (M i)) = - det n M :=
  swap_of hi hj hij (fun _ h => det_eq' hi hj hij h) M
theorem det_row {n : Nat} {i j : Nat} (hi : i < n) (hj : j < n) (hij : i ≠ j) (t : Int) (M : Nat → Nat → Int) : det n (rwR M i (fun c => M i c + t * M j c)) = det n M := by
  rw [det_lin t hi, rwR_self, det_eq' (M := rwR M i (M j)) hi hj hij fun c => by unfold rwR; rw [if_pos rfl, if_neg (Ne.symm hij)]]
  omega
theorem det_zrow {n : Nat} {i : Nat} (hi : i < n) {M : Nat → Nat → Int} (h : ∀ c, M i c = 0) : det n M = 0 := by
  have h1 := det_lin (-1) (M := M) (f := M i) (g := M i) hi
  rw [rwR_self] at h1
  have e : rwR M i (fun c => M i c + -1 * M i c) = M := by
    funext r c
    unfold rwR
    split
    · rename_i e; subst e
      show M r c + -1 * M r c = M r c
      have := h c
      omega
    · rfl
  rw [e] at h1
  omega
theorem mn_mn (M : Nat → Nat → Int) (i j : Nat) : mn (mn M (i + 1) 0) 0 j = mn (mn M 0 (j + 1)) i 0 := by
  funext r c
  unfold mn
  have h1 : skp (i + 1) (skp 0 r) = skp 0 (skp i r) := by unfold skp; simp only [Nat.not_lt_zero, if_false]; split <;> split <;> omega
  have h2 : skp 0 (skp j c) = skp (j + 1) (skp 0 c) := by unfold skp; simp only [Nat.not_lt_zero, if_false]; split <;> split <;> omega
  rw [h1, h2]
theorem sumTo_front' (F : Nat → Int) : ∀ m, sumTo F (m + 1) = F 0 + sumTo (fun j => F (j + 1)) m
  | 0 => by simp [sumTo]
  | m + 1 => by
    show sumTo F (m + 1) + F (m + 1) = F 0 + (sumTo (fun j => F (j + 1)) m + F (m + 1))
    rw [sumTo_front' F m]; omega
theorem det_first : ∀ (n : Nat) (M : Nat → Nat → Int), det (n + 1) M = sumTo (fun j => sg j * (M 0 j * det n (mn M 0 j))) (n + 1)
  | 0, M => by simp [det, sumTo]
  | n + 1, M => by
    have hL : det (n + 1 + 1) M = sumTo (fun i => sg i * (M i 0 * det (n + 1) (mn M i 0))) (n + 1 + 1) := rfl
    rw [hL, sumTo_front', sumTo_front' (fun j => sg j * (M 0 j * det (n + 1) (mn M 0 j)))]
    congr 1
    have e1 : ∀ i, i < n + 1 → sg (i + 1) * (M (i + 1) 0 * det (n + 1) (mn M (i + 1) 0)) = sumTo (fun j => sg (i + 1) * (M (i + 1) 0 * (sg j * (M 0 (j + 1) * det n (mn (mn M 0 (j + 1)) i 0))))) (n + 1) := fun i hi => by
      rw [det_first n (mn M (i + 1) 0), sumTo_mul, sumTo_mul]
      refine sumTo_congr fun j hj => ?_
      rw [mn_mn]
      rfl
    have e2 : ∀ j, j < n + 1 → sg (j + 1) * (M 0 (j + 1) * det (n + 1) (mn M 0 (j + 1))) = sumTo (fun i => sg (i + 1) * (M (i + 1) 0 * (sg j * (M 0 (j + 1) * det n (mn (mn M 0 (j + 1)) i 0))))) (n + 1) := fun j hj => by
      have hd : det (n + 1) (mn M 0 (j + 1)) = sumTo (fun i => sg i * (mn M 0 (j + 1) i 0 * det n (mn (mn M 0 (j + 1)) i 0))) (n + 1) := rfl
      rw [hd, sumTo_mul, sumTo_mul]
      refine sumTo_congr fun i hi => ?_
      have h0 : mn M 0 (j + 1) i 0 = M (i + 1) 0 := rfl
      rw [h0, sg_succ, sg_succ]
      simp only [Int.neg_mul, Int.neg_inj]
      simp only [Int.mul_assoc, Int.mul_comm, Int.mul_left_comm]
    have h1 : sumTo (fun i => sg (i + 1) * (M (i + 1) 0 * det (n + 1) (mn M (i + 1) 0))) (n + 1) = sumTo (fun i => sumTo (fun j => sg (i + 1) * (M (i + 1) 0 * (sg j * (M 0 (j + 1) * det n (mn (mn M 0 (j + 1)) i 0))))) (n + 1)) (n + 1) := sumTo_congr e1
    have h2 : sumTo (fun j => sg (j + 1) * (M 0 (j + 1) * det (n + 1) (mn M 0 (j + 1)))) (n + 1) = sumTo (fun j => sumTo (fun i => sg (i + 1) * (M (i + 1) 0 * (sg j * (M 0 (j + 1) * det n (mn (mn M 0 (j + 1)) i 0))))) (n + 1)) (n + 1) := sumTo_congr e2
    rw [h1, h2]
    exact sumTo_comm _ _ _
def tr (M : Nat → Nat → Int) : Nat → Nat → Int := fun r c => M c r
theorem det_tr : ∀ (n : Nat) (M : Nat → Nat → Int), det n (tr M) = det n M
  | 0, _ => rfl
  | n + 1, M => by
    rw [det_first n M]
    show sumTo (fun i => sg i * (tr M i 0 * det n (mn (tr M) i 0))) (n + 1) = _
    refine sumTo_congr fun i hi => ?_
    have e : mn (tr M) i 0 = tr (mn M 0 i) := rfl
    rw [e, det_tr n]
    rfl
set_option maxHeartbeats 2000000
def mv (u : Nat) : Nat → Nat
  | 0 => u
  | r + 1 => skp u r
theorem det_mv {n : Nat} : ∀ (u : Nat) (M : Nat → Nat → Int), u < n → det n (fun r c => M (mv u r) c) = sg u * det n M
  | 0, M, hu => by
    have e : (fun r c => M (mv 0 r) c) = M := by
      funext r c
      cases r with
      | zero => rfl
      | succ r => show M (skp 0 r) c = _; unfold skp; rw [if_neg (by omega)]
    rw [e]
    show _ = 1 * _
    omega
  | u + 1, M, hu => by
    have h := det_mv (n := n) u (rwR (rwR M u (M (u + 1))) (u + 1) (M u)) (by omega)
    rw [det_swap (i := u) (j := u + 1) (by omega) hu (by omega)] at h
    have e : (fun r c => rwR (rwR M u (M (u + 1))) (u + 1) (M u) (mv u r) c) = fun r c => M (mv (u + 1) r) c := by
      funext r c
      cases r with
      | zero => show rwR _ _ _ u c = M (u + 1) c; unfold rwR; rw [if_neg (show ¬ u = u + 1 by omega), if_pos rfl]
      | succ r =>
        show rwR _ _ _ (skp u r) c = M (skp (u + 1) r) c
        unfold rwR skp
        by_cases h1 : r < u
        · rw [if_pos h1, if_neg (show ¬ r = u + 1 by omega), if_neg (show ¬ r = u by omega), if_pos (show r < u + 1 by omega)]
        · by_cases h2 : r = u
          · subst h2; rw [if_neg h1, if_pos rfl, if_pos (show r < r + 1 by omega)]
          · rw [if_neg h1, if_neg (show ¬ r + 1 = u + 1 by omega), if_neg (show ¬ r + 1 = u by omega), if_neg (show ¬ r < u + 1 by omega)]
    rw [e] at h
    rw [h, sg_succ, Int.mul_neg, Int.neg_mul]
theorem det_unit {n u : Nat} {M : Nat → Nat → Int} (hu : u < n + 1) (h : ∀ c, c < n + 1 → M u c = if c = u then 1 else 0) : det (n + 1) M = det n (mn M u u) := by
  have h1 := det_mv u M hu
  have h2 := det_mv u (tr (fun r c => M (mv u r) c)) hu
  rw [det_tr] at h2
  have h3 : det (n + 1) (fun r c => M (mv u r) (mv u c)) = det (n + 1) (fun r c => tr (fun r c => M (mv u r) c) (mv u r) c) := (det_tr (n + 1) (fun r c => M (mv u r) (mv u c))).symm
  rw [h2, h1, ← Int.mul_assoc, sg_sq, Int.one_mul] at h3
  rw [← h3, det_first, sumTo_front']
  have hz : sumTo (fun j => sg (j + 1) * (M (mv u 0) (mv u (j + 1)) * det n (mn (fun r c => M (mv u r) (mv u c)) 0 (j + 1)))) n = 0 := by
    have e : sumTo (fun j => sg (j + 1) * (M (mv u 0) (mv u (j + 1)) * det n (mn (fun r c => M (mv u r) (mv u c)) 0 (j + 1)))) n = sumTo (fun _ => 0) n := sumTo_congr fun j hj => by
      have : M (mv u 0) (mv u (j + 1)) = 0 := by
        show M u (skp u j) = 0
        rw [h _ (skp_lt hj), if_neg (by unfold skp; split <;> omega)]
      rw [this]; simp
    rw [e, sumTo_zero]
  rw [hz]
  have h0 : M (mv u 0) (mv u 0) = 1 := by show M u u = 1; rw [h u hu, if_pos rfl]
  rw [h0]
  have e : mn (fun r c => M (mv u r) (mv u c)) 0 0 = mn M u u := by
    funext r c
    show M (mv u (skp 0 r)) (mv u (skp 0 c)) = M (skp u r) (skp u c)
    rfl
  rw [e]
  show 1 * (1 * _) + 0 = _
  omega
theorem dvd_sumTo {p : Int} {F : Nat → Int} : ∀ {n : Nat}, (∀ j, j < n → p ∣ F j) → p ∣ sumTo F n
  | 0, _ => Int.dvd_zero p
  | n + 1, h => Int.dvd_add (dvd_sumTo fun j hj => h j (by omega)) (h n (by omega))
theorem det_mod {p : Int} : ∀ {n : Nat} {M M' : Nat → Nat → Int}, (∀ r c, r < n → c < n → p ∣ M r c - M' r c) → p ∣ det n M - det n M'
  | 0, _, _, _ => by simp [det]
  | n + 1, M, M', h => by
    unfold det
    rw [← sumTo_sub]
    refine dvd_sumTo fun i hi => ?_
    have h1 := h i 0 hi (by omega)
    have h2 := det_mod (n := n) (M := mn M i 0) (M' := mn M' i 0) fun r c hr hc => h _ _ (skp_lt hr) (skp_lt hc)
    have e : sg i * (M i 0 * det n (mn M i 0)) - sg i * (M' i 0 * det n (mn M' i 0)) = sg i * (M i 0 * (det n (mn M i 0) - det n (mn M' i 0)) + (M i 0 - M' i 0) * det n (mn M' i 0)) := by
      rw [← Int.mul_sub]
      congr 1
      rw [Int.mul_sub, Int.sub_mul]
      omega
    rw [e]
    exact Int.dvd_mul_of_dvd_right (Int.dvd_add (Int.dvd_mul_of_dvd_right h2) (Int.dvd_mul_of_dvd_left h1))
theorem sumTo_skp (F : Nat → Int) : ∀ {m u : Nat}, u < m + 1 → sumTo F (m + 1) = F u + sumTo (fun j => F (skp u j)) m
  | 0, u, hu => by obtain rfl : u = 0 := by omega
                   simp [sumTo]
  | m + 1, u, hu => by
    by_cases e : u = m + 1
    · subst e
      have e2 : sumTo (fun j => F (skp (m + 1) j)) (m + 1) = sumTo F (m + 1) := sumTo_congr fun j hj => by unfold skp; rw [if_pos hj]
      rw [e2]
      show sumTo F (m + 1) + F (m + 1) = _
      omega
    · show sumTo F (m + 1) + F (m + 1) = F u + (sumTo (fun j => F (skp u j)) m + F (skp u m))
      rw [sumTo_skp F (m := m) (u := u) (by omega), show skp u m = m + 1 by unfold skp; rw [if_neg (by omega)]]
      omega
theorem det_rows0 {n : Nat} {M : Nat → Nat → Int} (h : ∀ c, c < n + 1 → sumTo (fun v => M v c) (n + 1) = 0) : det (n + 1) M = 0 := by
  have key : ∀ k, k ≤ n → det (n + 1) (rwR M 0 (fun c => sumTo (fun j => M (j + 1) c) k)) = 0 := fun k => by
    induction k with
    | zero =>
      intro _
      exact det_zrow (i := 0) (by omega) fun c => by unfold rwR; rw [if_pos rfl]; rfl
    | succ k ih =>
      intro hk
      have h1 := det_lin 1 (n := n + 1) (M := M) (k := 0) (f := fun c => sumTo (fun j => M (j + 1) c) k) (g := M (k + 1)) (by omega)
      rw [ih (by omega), det_eq' (M := rwR M 0 (M (k + 1))) (i := 0) (j := k + 1) (by omega) (by omega) (by omega) fun c => by unfold rwR; rw [if_pos rfl, if_neg (by omega)]] at h1
      have e : (fun c => sumTo (fun j => M (j + 1) c) (k + 1)) = fun c => sumTo (fun j => M (j + 1) c) k + 1 * M (k + 1) c := by
        funext c
        simp only [sumTo]
        omega
      rw [e, h1]
      rfl
  have h1 := det_lin (-1) (n := n + 1) (M := M) (k := 0) (f := fun _ => 0) (g := fun c => sumTo (fun j => M (j + 1) c) n) (by omega)
  rw [key n (Nat.le_refl _), det_zrow (M := rwR M 0 fun _ => 0) (i := 0) (by omega) fun c => by unfold rwR; rw [if_pos rfl]] at h1
  rw [← det_congr (M := rwR M 0 (fun c => 0 + -1 * sumTo (fun j => M (j + 1) c) n)) (M' := M) fun r c hr hc => ?_]
  · rw [h1]; rfl
  · unfold rwR
    split
    · rename_i e; subst e
      have := h c hc
      rw [sumTo_front'] at this
      show 0 + -1 * _ = _
      omega
    · rfl
set_option maxHeartbeats 2000000
def lap (m : Nat) (w : Nat → Int) (E : Nat → Nat → Int) : Nat → Nat → Int := fun v u => if u = v then w v + sumTo (fun t => E v t) m else - E v u
structure WG (m : Nat) (w : Nat → Int) (E : Nat → Nat → Int) : Prop where
  w0 : ∀ v, v < m → 0 ≤ w v
  nn : ∀ v u, v < m → u < m → 0 ≤ E v u
  sy : ∀ v u, v < m → u < m → E v u = E u v
  di : ∀ v, v < m → E v v = 0
def less1 (w : Nat → Int) (u : Nat) : Nat → Int := fun v => if v = u then w v - 1 else w v
def cw (w : Nat → Int) (E : Nat → Nat → Int) (u : Nat) : Nat → Int := fun v => w (skp u v) + E (skp u v) u
theorem skp_ne (u v : Nat) : skp u v ≠ u := by unfold skp; split <;> omega
theorem skp_inj {u v v' : Nat} : skp u v = skp u v' ↔ v = v' := by unfold skp; split <;> split <;> omega
theorem WG.less {m : Nat} {w : Nat → Int} {E : Nat → Nat → Int} (h : WG m w E) {u : Nat} (hw : 1 ≤ w u) : WG m (less1 w u) E :=
  ⟨fun v hv => by unfold less1; split
                  · rename_i e; subst e; omega
                  · exact h.w0 v hv, h.nn, h.sy, h.di⟩
theorem WG.cut {m : Nat} {w : Nat → Int} {E : Nat → Nat → Int} (h : WG (m + 1) w E) {u : Nat} (hu : u < m + 1) : WG m (cw w E u) (mn E u u) :=
  ⟨fun v hv => by
    have := h.w0 _ (skp_lt hv (i := u))
    have := h.nn _ u (skp_lt hv (i := u)) hu
    unfold cw; omega, fun v x hv hx => h.nn _ _ (skp_lt hv) (skp_lt hx), fun v x hv hx => h.sy _ _ (skp_lt hv) (skp_lt hx), fun v hv => h.di _ (skp_lt hv)⟩
theorem det_cut {m : Nat} {w : Nat → Int} {E : Nat → Nat → Int} {u : Nat} (hu : u < m + 1) : det (m + 1) (lap (m + 1) w E) = det (m + 1) (lap (m + 1) (less1 w u) E) + det m (lap m (cw w E u) (mn E u u)) := by
  have h1 := det_lin 1 (n := m + 1) (M := lap (m + 1) (less1 w u) E) (k := u) (f := lap (m + 1) (less1 w u) E u) (g := fun c => if c = u then 1 else 0) hu
  rw [rwR_self] at h1
  have e1 : rwR (lap (m + 1) (less1 w u) E) u (fun c => lap (m + 1) (less1 w u) E u c + 1 * (if c = u then 1 else 0)) = lap (m + 1) w E := by
    funext r c
    unfold rwR lap less1
    by_cases e : r = u
    · subst e
      rw [if_pos rfl]
      by_cases e2 : c = r
      · subst e2
        simp only [if_true]
        omega
      · simp only [if_neg e2]
        omega
    · rw [if_neg e, if_neg e]
  rw [e1] at h1
  rw [h1, det_unit (M := rwR (lap (m + 1) (less1 w u) E) u fun c => if c = u then 1 else 0) hu fun c hc => by unfold rwR; rw [if_pos rfl], mn_rwR_at]
  rw [Int.one_mul]
  congr 1
  refine det_congr fun r c hr hc => ?_
  show lap (m + 1) (less1 w u) E (skp u r) (skp u c) = _
  unfold lap less1 cw
  by_cases e : c = r
  · subst e
    rw [if_pos rfl, if_pos rfl, if_neg (skp_ne u c), sumTo_skp (fun t => E (skp u c) t) hu]
    show w (skp u c) + (E (skp u c) u + _) = w (skp u c) + E (skp u c) u + _
    unfold mn
    omega
  · rw [if_neg (fun h => e (skp_inj.1 h)), if_neg e]
    rfl
theorem det_noroot {m : Nat} {w : Nat → Int} {E : Nat → Nat → Int} (h : WG (m + 1) w E) (hw : ∀ v, v < m + 1 → w v = 0) : det (m + 1) (lap (m + 1) w E) = 0 := by
  refine det_rows0 fun c hc => ?_
  have e : sumTo (fun v => lap (m + 1) w E v c) (m + 1) = sumTo (fun v => (if (v : Int) = (c : Int) then sumTo (fun t => E c t) (m + 1) else 0) - E c v) (m + 1) := sumTo_congr fun v hv => by
    unfold lap
    by_cases e : c = v
    · subst e
      rw [if_pos rfl, if_pos rfl, hw _ hv, h.di _ hv]; omega
    · rw [if_neg e, if_neg (by omega), h.sy v c hv hc]; omega
  rw [e, sumTo_sub, sumTo_unit, if_pos hc]
  have : sumTo (fun t => E c t) (m + 1) = sumTo (E c) (m + 1) := rfl
  omega
def cns (x : Int) (c : Nat → Int) : Nat → Int
  | 0 => x
  | i + 1 => c i
def ins (u : Nat) (x : Int) (c : Nat → Int) : Nat → Int := fun i => if i < u then c i else if i = u then x else c (i - 1)
def sumC (K : Nat) : Nat → ((Nat → Int) → Int) → Int
  | 0, F => F fun _ => 0
  | m + 1, F => sumTo (fun x => sumC K m fun c => F (cns (x : Int) c)) K
theorem sumC_congr {K : Nat} : ∀ {m : Nat} {F G : (Nat → Int) → Int}, (∀ c, (∀ i, 0 ≤ c i) → F c = G c) → sumC K m F = sumC K m G
  | 0, F, G, h => h _ fun _ => Int.le_refl _
  | m + 1, F, G, h => by
    unfold sumC
    refine sumTo_congr fun x hx => sumC_congr fun c hc => h _ fun i => ?_
    cases i with
    | zero => show 0 ≤ (x : Int); omega
    | succ i => exact hc i
theorem ins_zero (x : Int) (c : Nat → Int) : ins 0 x c = cns x c := by
  funext i
  cases i with
  | zero => rfl
  | succ i => rfl
theorem ins_cns (u : Nat) (x y : Int) (c : Nat → Int) : ins (u + 1) y (cns x c) = cns x (ins u y c) := by
  funext i
  cases i with
  | zero => rfl
  | succ i =>
    show (if i + 1 < u + 1 then cns x c (i + 1) else if i + 1 = u + 1 then y else cns x c (i + 1 - 1)) = if i < u then c i else if i = u then y else c (i - 1)
    by_cases h1 : i < u
    · rw [if_pos h1, if_pos (show i + 1 < u + 1 by omega)]; rfl
    · rw [if_neg h1, if_neg (show ¬ i + 1 < u + 1 by omega)]
      by_cases h2 : i = u
      · rw [if_pos h2, if_pos (show i + 1 = u + 1 by omega)]
      · rw [if_neg h2, if_neg (show ¬ i + 1 = u + 1 by omega)]
        obtain ⟨j, rfl⟩ : ∃ j, i = j + 1 := ⟨i - 1, by omega⟩
        rfl
theorem ins_at (u : Nat) (x : Int) (c : Nat → Int) : ins u x c u = x := by unfold ins; rw [if_neg (by omega), if_pos rfl]
theorem ins_skp (u : Nat) (x : Int) (c : Nat → Int) (v : Nat) : ins u x c (skp u v) = c v := by
  unfold ins skp
  by_cases h : v < u
  · rw [if_pos h, if_pos h]
  · rw [if_neg h, if_neg (by omega), if_neg (by omega)]; congr 1
theorem sumC_at {K : Nat} : ∀ {u m : Nat} {F : (Nat → Int) → Int}, u < m + 1 → sumC K (m + 1) F = sumTo (fun x => sumC K m fun c => F (ins u (x : Int) c)) K
  | 0, m, F, _ => by
    show sumTo (fun x => sumC K m fun c => F (cns (x : Int) c)) K = _
    refine sumTo_congr fun x hx => sumC_congr fun c hc => by rw [ins_zero]
  | u + 1, m, F, h => by
    obtain ⟨m, rfl⟩ : ∃ j, m = j + 1 := ⟨m - 1, by omega⟩
    have e1 : sumC K (m + 1 + 1) F = sumTo (fun x => sumTo (fun y => sumC K m fun c => F (cns (x : Int) (ins u (y : Int) c))) K) K := by
      show sumTo (fun x => sumC K (m + 1) fun c => F (cns (x : Int) c)) K = _
      exact sumTo_congr fun x hx => sumC_at (u := u) (by omega)
    rw [e1, sumTo_comm]
    refine sumTo_congr fun y hy => ?_
    show _ = sumTo (fun x => sumC K m fun c => F (ins (u + 1) (y : Int) (cns (x : Int) c))) K
    refine sumTo_congr fun x hx => sumC_congr fun c hc => by rw [ins_cns]
def SS (m : Nat) (w : Nat → Int) (E : Nat → Nat → Int) (c : Nat → Int) : Prop := ∀ S : Nat → Bool, (∃ v, v < m ∧ S v = true) → ∃ v, v < m ∧ S v = true ∧ c v < w v + outE m E S v
noncomputable def b01 (p : Prop) : Int := open Classical in if p then 1 else 0
theorem b01_congr {p q : Prop} (h : p ↔ q) : b01 p = b01 q := by rw [propext h]
theorem b01_no {p : Prop} (h : ¬ p) : b01 p = 0 := by unfold b01; simp [h]
theorem b01_yes {p : Prop} (h : p) : b01 p = 1 := by unfold b01; simp [h]
noncomputable def nSS (K m : Nat) (w : Nat → Int) (E : Nat → Nat → Int) : Int := sumC K m fun c => b01 (SS m w E c)
theorem ss_less {m : Nat} {w : Nat → Int} {E : Nat → Nat → Int} {u : Nat} (x : Int) (c : Nat → Int) : SS m w E (ins u (x + 1) c) ↔ SS m (less1 w u) E (ins u x c) := by
  have e : ∀ S v, (ins u (x + 1) c v < w v + outE m E S v ↔ ins u x c v < less1 w u v + outE m E S v) := fun S v => by
    unfold less1
    by_cases h : v = u
    · subst h; rw [ins_at, ins_at, if_pos rfl]; omega
    · rw [if_neg h]
      unfold ins
      by_cases h1 : v < u
      · rw [if_pos h1, if_pos h1]
      · rw [if_neg h1, if_neg h1, if_neg h, if_neg h]
  unfold SS
  simp only [e]
theorem skp_ex {u v : Nat} (h : v ≠ u) : ∃ v', v = skp u v' := by
  rcases Nat.lt_or_ge v u with g | g
  · exact ⟨v, by unfold skp; rw [if_pos g]⟩
  · exact ⟨v - 1, by unfold skp; rw [if_neg (by omega)]; omega⟩
theorem skp_back {u v m : Nat} (h : skp u v < m + 1) (hu : u < m + 1) : v < m := by unfold skp at h; split at h <;> omega
theorem outE_skp {m : Nat} {E : Nat → Nat → Int} {u : Nat} (hu : u < m + 1) {S : Nat → Bool} (hS : S u = false) (v : Nat) : outE (m + 1) E S (skp u v) = E (skp u v) u + outE m (mn E u u) (fun i => S (skp u i)) v := by
  unfold outE
  rw [sumTo_skp (fun j => if S j = true then 0 else E (skp u v) j) hu]
  rw [if_neg (by rw [hS]; decide)]
  rfl
theorem ss_cut {m : Nat} {w : Nat → Int} {E : Nat → Nat → Int} (h : WG (m + 1) w E) {u : Nat} (hu : u < m + 1) (hw : 1 ≤ w u) (c : Nat → Int) : SS (m + 1) w E (ins u 0 c) ↔ SS m (cw w E u) (mn E u u) c := by
  constructor
  · intro hs S ⟨v, hv, hSv⟩
    obtain ⟨S2, s1, s2⟩ : ∃ S2 : Nat → Bool, S2 u = false ∧ ∀ i, S2 (skp u i) = S i := ⟨fun i => if i < u then S i else if i = u then false else S (i - 1), by simp, fun i => by
      show (if skp u i < u then S (skp u i) else if skp u i = u then false else S (skp u i - 1)) = S i
      unfold skp
      by_cases g : i < u
      · rw [if_pos g, if_pos g]
      · rw [if_neg g, if_neg (by omega), if_neg (by omega)]; rfl⟩
    obtain ⟨v2, h1, h2, h3⟩ := hs S2 ⟨skp u v, skp_lt hv, by rw [s2]; exact hSv⟩
    have hne : v2 ≠ u := fun e => by
      subst e
      rw [s1] at h2
      cases h2
    obtain ⟨v', rfl⟩ := skp_ex hne
    rw [s2] at h2
    refine ⟨v', skp_back h1 hu, h2, ?_⟩
    rw [ins_skp, outE_skp hu s1, funext s2] at h3
    unfold cw
    omega
  · intro hs S ⟨v, hv, hSv⟩
    by_cases hSu : S u = true
    · refine ⟨u, hu, hSu, ?_⟩
      rw [ins_at]
      have : 0 ≤ outE (m + 1) E S u := sumTo_nn fun j hj => by
        have := h.nn u j hu hj
        split <;> omega
      omega
    · have hSu' : S u = false := by simpa using hSu
      have hne : v ≠ u := fun e => by subst e; exact hSu hSv
      obtain ⟨v', rfl⟩ := skp_ex hne
      obtain ⟨x, h1, h2, h3⟩ := hs (fun i => S (skp u i)) ⟨v', skp_back hv hu, hSv⟩
      refine ⟨skp u x, skp_lt h1, h2, ?_⟩
      rw [ins_skp, outE_skp hu hSu']
      unfold cw at h3
      omega
theorem ss_high {m : Nat} {w : Nat → Int} {E : Nat → Nat → Int} (h : WG m w E) {u : Nat} (hu : u < m) {x : Int} (hx : w u + sumTo (fun t => E u t) m ≤ x) (c : Nat → Int) : ¬ SS m w E (ins u x c) := fun hs => by
  obtain ⟨v, h1, h2, h3⟩ := hs (fun i => i == u) ⟨u, hu, by simp⟩
  simp only [beq_iff_eq] at h2
  subst h2
  rw [ins_at] at h3
  have : outE m E (fun i => i == v) v ≤ sumTo (fun t => E v t) m := sumTo_mono fun j hj => by
    have := h.nn v j hu hj
    split <;> omega
  omega
theorem nSS_cut {K m : Nat} {w : Nat → Int} {E : Nat → Nat → Int} (h : WG (m + 1) w E) {u : Nat} (hu : u < m + 1) (hw : 1 ≤ w u) (hK : w u + sumTo (fun t => E u t) (m + 1) ≤ K) :
    nSS K (m + 1) w E = nSS K (m + 1) (less1 w u) E + nSS K m (cw w E u) (mn E u u) := by
  have hs : 0 ≤ sumTo (fun t => E u t) (m + 1) := sumTo_nn fun j hj => h.nn u j hu hj
  obtain ⟨K, rfl⟩ : ∃ j, K = j + 1 := ⟨K - 1, by omega⟩
  unfold nSS
  rw [sumC_at (m := m) (F := fun c => b01 (SS (m + 1) w E c)) hu, sumC_at (m := m) (F := fun c => b01 (SS (m + 1) (less1 w u) E c)) hu, sumTo_front']
  have e0 : sumC (K + 1) m (fun c => b01 (SS (m + 1) w E (ins u ((0 : Nat) : Int) c))) = sumC (K + 1) m (fun c => b01 (SS m (cw w E u) (mn E u u) c)) := sumC_congr fun c _ => b01_congr (ss_cut h hu hw c)
  have e1 : sumTo (fun x => sumC (K + 1) m (fun c => b01 (SS (m + 1) w E (ins u ((x + 1 : Nat) : Int) c)))) K = sumTo (fun x => sumC (K + 1) m (fun c => b01 (SS (m + 1) (less1 w u) E (ins u (x : Int) c)))) K := sumTo_congr fun x _ => sumC_congr fun c _ => b01_congr (by rw [Int.natCast_add]; exact ss_less x c)
  have e2 : sumC (K + 1) m (fun c => b01 (SS (m + 1) (less1 w u) E (ins u (K : Int) c))) = 0 := by
    have e3 : ∀ m, sumC (K + 1) m (fun _ => 0) = 0 := fun m => by
      induction m with
      | zero => rfl
      | succ m ih =>
        show sumTo (fun _ => sumC (K + 1) m fun _ => 0) (K + 1) = 0
        rw [ih, sumTo_zero]
    rw [← e3 m]
    refine sumC_congr fun c _ => b01_no (ss_high (h.less hw) hu ?_ c)
    unfold less1
    rw [if_pos rfl]
    omega
  rw [e0, e1]
  have e4 : sumTo (fun x => sumC (K + 1) m (fun c => b01 (SS (m + 1) (less1 w u) E (ins u (x : Int) c)))) (K + 1) = sumTo (fun x => sumC (K + 1) m (fun c => b01 (SS (m + 1) (less1 w u) E (ins u (x : Int) c)))) K + sumC (K + 1) m (fun c => b01 (SS (m + 1) (less1 w u) E (ins u (K : Int) c))) := rfl
  rw [e4, e2]
  omega
theorem nSS_noroot {K m : Nat} {w : Nat → Int} {E : Nat → Nat → Int} (hw : ∀ v, v < m + 1 → w v = 0) : nSS K (m + 1) w E = 0 := by
  have e3 : ∀ m, sumC K m (fun _ => 0) = 0 := fun m => by
    induction m with
    | zero => rfl
    | succ m ih =>
      show sumTo (fun _ => sumC K m fun _ => 0) K = 0
      rw [ih, sumTo_zero]
  rw [← e3 (m + 1)]
  refine sumC_congr fun c hc => b01_no fun hs => ?_
  obtain ⟨v, h1, -, h3⟩ := hs (fun _ => true) ⟨0, by omega, rfl⟩
  have e : outE (m + 1) E (fun _ => true) v = 0 := by
    unfold outE
    simp only [if_true]
    exact sumTo_zero _
  rw [e, hw v h1] at h3
  have := hc v
  omega
theorem det_nSS (K : Nat) : ∀ (m : Nat) (t : Nat) {w : Nat → Int} {E : Nat → Nat → Int}, WG m w E → (∀ v, v < m → w v + sumTo (fun t => E v t) m ≤ K) → sumTo w m = t → det m (lap m w E) = nSS K m w E
  | 0, _, w, E, _, _, _ => (b01_yes fun S ⟨v, hv, _⟩ => by omega).symm
  | m + 1, t, w, E, h, hK, ht => by
    by_cases hz : ∀ v, v < m + 1 → w v = 0
    · rw [det_noroot h hz, nSS_noroot hz]
    · obtain ⟨u, hu, hw⟩ : ∃ u, u < m + 1 ∧ 1 ≤ w u := by
        apply Classical.byContradiction
        intro hno
        refine hz fun v hv => ?_
        have := h.w0 v hv
        apply Classical.byContradiction
        intro hne
        exact hno ⟨v, hv, by omega⟩
      have hpos := sumTo_term h.w0 hu
      obtain ⟨t, rfl⟩ : ∃ j, t = j + 1 := ⟨t - 1, by omega⟩
      have hc := h.cut hu
      have hl := h.less hw
      have hs : sumTo (less1 w u) (m + 1) = t := by
        have e : sumTo (less1 w u) (m + 1) = sumTo (fun i => w i + (if (i : Int) = (u : Int) then -1 else 0)) (m + 1) := sumTo_congr fun i hi => by
          unfold less1
          by_cases e : i = u
          · rw [if_pos e, if_pos (by omega)]; omega
          · rw [if_neg e, if_neg (by omega)]; omega
        rw [e, sumTo_add, sumTo_unit, if_pos hu]
        omega
      have hcs := sumTo_nn hc.w0
      rw [det_cut hu, nSS_cut h hu hw (hK u hu), det_nSS K (m + 1) t hl (fun v hv => by
        have := hK v hv
        unfold less1
        split <;> omega) hs, det_nSS K m (sumTo (cw w E u) m).toNat hc (fun v hv => by
        have := hK (skp u v) (skp_lt hv)
        rw [sumTo_skp (fun t => E (skp u v) t) hu] at this
        show w (skp u v) + E (skp u v) u + sumTo (fun t => E (skp u v) (skp u t)) m ≤ K
        omega) (by omega)]
  termination_by m t => (m, t)
end Go.AM.Ch
