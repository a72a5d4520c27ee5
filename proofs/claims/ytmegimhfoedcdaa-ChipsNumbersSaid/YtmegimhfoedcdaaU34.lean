/- A part of the proof: U26 U27 U33 U28 U34. -/
import Derived.Test.YtmegimhfoedcdaaU16
set_option linter.unusedVariables false
set_option linter.unusedSimpArgs false
set_option linter.unusedSectionVars false
namespace Go.AM.Ch
attribute [local go_sem] gc subHeap reach_skip ren_free reach_new reach_newp reach_end rangeL roots boxCells nodupB posOf renL AV.ren pickO renH renO looks look bindEnv envOf reach_int reach_bool reach_nilS reach_rd putRow cells_sl cells_int cells_bool cells_nilS cells_rd cells_agg reach_agg reach_tup idFreeL idf_sl idf_ptr idf_int idf_bool idf_nilS idf_rd reach_fn reach_mp cells_fn cells_ptr cells_mp idf_mp idf_fn idf_agg idf_tup
set_option maxHeartbeats 4000000
theorem frzV_of {H : Heap} {k : Nat} {x : AV} (h : x.idFree = true) : frzV H (k + 1) x = some x := frzV_free H k h
theorem frz_sl {H : Heap} {k id n : Nat} {l : List Int} (h : H.data? id = some (iL l)) (hl : l.length = n) : frzV H (k + 1) (.sl id 1 0 n) = some (.rd 1 n (iL l)) := by
  have := iL_len l
  subst hl
  simp [frzV_sl, h, this, List.take_of_length_le]
theorem frzL_cons {H : Heap} {k : Nat} {x y : AV} {xs ys : List AV} (h : frzV H (k + 1) x = some y) (hs : frzL H (k + 1) xs = some ys) : frzL H (k + 2) (x :: xs) = some (y :: ys) := by
  simp [frzL, h, hs]
theorem frzL_nil {H : Heap} {k : Nat} : frzL H (k + 1) [] = some [] := by simp [frzL]
theorem frzV_tup {H : Heap} {k : Nat} {cs cs' : List AV} (h : idFreeL cs = false) (h1 : frzL H k cs = some cs') : frzV H (k + 1) (.tup cs) = some (.tup cs') := by
  simp [frzV, h, h1]
theorem rd_isL {n : Nat} {l : List Int} (h : l.length = n) : IsL (.rd 1 n (iL l)) l := by subst h; exact .rd _
theorem f76 {x : AV} {l : List Int} (hx : IsL x l) (h0 : 1 ≤ l.length) (hl : l.length ≤ 1000) {m : Nat} (hm : 2 ≤ m) : evF tab it m 76 [x] [] = some (.sl 0 1 0 l.length, [some (.data (iL l))]) := by
  obtain ⟨m, rfl⟩ : ∃ j, m = j + 1 := ⟨m - 1, by omega⟩
  cases hx with
  | nil => simp at h0
  | rd l =>
    rcases l with _ | ⟨c, cs⟩
    · simp at h0
    · have bl : ∀ call, evE call [] (.bldS true false 1 0 [.int .i64 0] []) [] = some (.sl 0 1 0 0, [some (.data [])]) := fun call => rfl
      refine f_enter rfl rfl ?_
      repeat' first
 | (apply s_mov; exact aW)
 | (apply c_nil)
 | (apply s_en; exact aO; exact bl _)
 | (apply s_en; exact aO; exact e_app_sl rfl rfl (by simp) (by simp at hl ⊢; unfold most; omega))
 | (apply s_pd; exact aW)
 | (apply c_seq)
 | (apply c_reg)
 | (apply c_skip)
 | (apply c_ret)
 | (apply c_condF; exact rfl)
 | (with_reducible apply k_c)
      simp [finish, ress, resOf, look, tupOf, iL, ownV, owH, gc, subHeap, reach_new, reach_end, rangeL, roots, boxCells, nodupB, posOf, renL, AV.ren, pickO, renH, renO]
theorem c76o {x : AV} {l : List Int} (hx : IsL x l) (h0 : 1 ≤ l.length) (hl : l.length ≤ 1000) {m : Nat} (hm : 2 ≤ m) (H : Heap) : callPure (evF tab it m) false 76 [x] H = some (.sl H.length 1 0 l.length, H ++ [some (.data (iL l))]) := by
  have ff : idFreeL [x] = true := by simp [idFreeL, hx.free]
  simp [callPure, frzL_free H 40 [x] (by simp) ff, f76 hx h0 hl hm, ff, shiftH, AV.ren, renH, renO]
theorem c101 {m : Nat} (hm : 1 ≤ m) {a c : Int} (h : -9223372036854775808 ≤ a + c ∧ a + c < 9223372036854775808) (H : Heap) : callPure (evF tab it m) true 101 [.int .i64 a, .int .i64 c] H = some (.int .i64 (a + c), H) := by
  obtain ⟨m, rfl⟩ : ∃ j, m = j + 1 := ⟨m - 1, by omega⟩
  refine callPure_free (by simp [idFreeL, AV.idFree]) (by simp) (v := .int .i64 (a + c)) (H1 := []) ?_ rfl
  refine f_enter rfl rfl ?_
  repeat' first
 | (apply s_mov; exact aW)
 | (apply c_nil)
 | (apply s_add; exact rfl; omega)
 | (apply c_seq)
 | (apply c_reg)
 | (apply c_ret)
 | (with_reducible apply k_c)
  exact fin_t (by (conv => lhs; whnf)) (by rfl) rfl
def pl (a c : List Int) : List Int := (List.range a.length).map fun (i : Nat) => getI a (i : Int) + getI c (i : Int)
theorem pl_len (a c : List Int) : (pl a c).length = a.length := by simp [pl]
theorem pl_get {a c : List Int} {i : Nat} (h : i < a.length) : getI (pl a c) (i : Int) = getI a (i : Int) + getI c (i : Int) := by
  rw [getI_nat]
  simp [pl, List.getD, h]
theorem ext_getI {a c : List Int} (h : a.length = c.length) (h2 : ∀ i : Nat, i < a.length → getI a (i : Int) = getI c (i : Int)) : a = c := by
  refine List.ext_getElem h fun j h1 h3 => ?_
  have := h2 j h1
  rw [getI_nat, getI_nat] at this
  simpa [List.getD, h1, h3] using this
theorem f100 {x y : AV} {a c : List Int} (hx : IsL x a) (hy : IsL y c) (h0 : 1 ≤ a.length) (hl : a.length ≤ 12) (hac : c.length = a.length)
    (hb : ∀ v : Nat, v < a.length → -288230376151711744 ≤ getI a (v : Int) ∧ getI a (v : Int) ≤ 288230376151711744) (hc : ∀ v : Nat, v < a.length → -288230376151711744 ≤ getI c (v : Int) ∧ getI c (v : Int) ≤ 288230376151711744)
    {m : Nat} (hm : 100 ≤ m) : evF tab it m 100 [x, y, .fn 101 []] [] = some (.sl 0 1 0 a.length, [some (.data (iL (pl a c)))]) := by
  obtain ⟨m, rfl⟩ : ∃ j, m = j + 1 := ⟨m - 1, by omega⟩
  have fx := hx.free; have fy := hy.free
  have e76 := fun H => c76o hx h0 (by omega) (m := m) (by omega) H
  have ly : ∀ H, evP H .len [y] = some (.int .i64 ((a.length : Nat) : Int)) := fun H => by rw [← hac]; exact p_lenI hy
  have e101 := fun (p q : Int) (h : -9223372036854775808 ≤ p + q ∧ p + q < 9223372036854775808) (H : Heap) => c101 (m := m) (by omega) h H
  refine f_enter rfl rfl ?_
  generalize evF tab it m = call at *
  repeat' first
 | (apply s_mov; exact aW)
 | (apply c_nil)
 | (apply s_pn; exact aO; exact ly _)
 | (apply s_en; exact aO; exact e76 _)
 | (apply c_seq)
 | (apply c_reg)
 | (apply c_block)
 | (with_reducible apply k_c)
  have gcO : ∀ (k : Nat) (C : List AV), gc 0 [.fn 101 [], .sl 0 1 0 a.length, y, .int .i64 ((a.length : Nat) : Int), .int .i64 (k : Int)] [some (.data C)] = some ([.fn 101 [], .sl 0 1 0 a.length, y, .int .i64 ((a.length : Nat) : Int), .int .i64 (k : Int)], [some (.data C)]) := fun k C => by simp [go_sem, fy, reach_fn, idf_fn, cells_fn]
  refine c_loop ?_
  refine loop_gc (σ := Nat × List Int) (fun p => [.fn 101 [], .sl 0 1 0 a.length, y, .int .i64 ((a.length : Nat) : Int), .int .i64 (p.1 : Int)]) (fun p => [some (.data (iL p.2))]) (fun p => p.1 ≤ a.length ∧ p.2.length = a.length ∧ ∀ i : Nat, i < a.length → getI p.2 (i : Int) = if i < p.1 then getI a (i : Int) + getI c (i : Int) else getI a (i : Int)) (fun p => a.length - p.1) ?_ _ (0, a) _ _ ⟨by omega, rfl, fun i _ => by rw [if_neg (by omega)]⟩ (by show a.length - 0 < _; omega) (gcO 0 (iL a))
  intro ⟨k, o⟩ ⟨hk, hol, ho⟩ K hK
  dsimp only at hk hol ho hK ⊢
  by_cases hkn : k < a.length
  · have h1 := ho k hkn
    rw [if_neg (by omega)] at h1
    have h2 := hb k hkn
    have h3 := hc k hkn
    have ld := fun H h => p_ldO (H := H) (id := 0) (l := o) (i := k) h (by omega)
    have st := fun (vv : Int) call H h => e_stO (call := call) (H := H) (id := 0) (l := o) (i := k) (v := vv) h (by omega)
    have ecv : ∀ H, evE call H (.callv true true) [.fn 101 [], .int .i64 (getI o (k : Int)), .int .i64 (getI c (k : Int))] = some (.int .i64 (getI o (k : Int) + getI c (k : Int)), H) := fun H => by
      simpa [evE] using e101 (getI o (k : Int)) (getI c (k : Int)) (by omega) H
    repeat' first
 | (apply s_mov; exact aW)
 | (apply c_nil)
 | (apply s_lss; exact rfl; all_goals (intro _; try (exfalso; omega)))
 | (apply s_add; exact rfl; omega)
 | (apply s_pn; exact aO; exact p_ixO hkn)
 | (apply s_pn; exact aO; exact ld _ rfl)
 | (apply s_en; exact aO; exact ecv _)
 | (apply s_st; exact aO; exact st _ _ _ rfl)
 | (apply s_idx; exact aW; exact rfl; exact aI; omega)
 | (apply s_ldI; exact rfl; omega)
 | (apply c_seq)
 | (apply c_reg)
 | (apply c_block)
 | (apply c_skip)
 | (apply c_condT; exact rfl)
 | (with_reducible apply k_c)
    refine hK (k + 1, _) _ _ ⟨by omega, by simpa using hol, fun i hi => ?_⟩ (by show a.length - (k + 1) < _; omega) (gcO (k + 1) _)
    dsimp only
    rw [getI_set (by omega)]
    by_cases e : i = k
    · subst e; rw [if_pos rfl, if_pos (by omega), h1]
    · rw [if_neg e, ho i hi]
      by_cases e2 : i < k
      · rw [if_pos e2, if_pos (by omega)]
      · rw [if_neg e2, if_neg (by omega)]
  · obtain rfl : k = a.length := by omega
    obtain rfl : o = pl a c := ext_getI (by rw [pl_len]; exact hol) fun i hi => by rw [pl_get (by omega), ho i (by omega), if_pos (by omega)]
    repeat' first
 | (apply c_nil)
 | (apply s_lss; exact rfl; all_goals (intro _; try (exfalso; omega)))
 | (apply c_seq)
 | (apply c_reg)
 | (apply c_exitH)
 | (apply c_condF; exact rfl)
 | (with_reducible apply k_c)
    apply c_pre (vs := [.sl 0 1 0 a.length]) (H' := [some (.data (iL (pl a c)))])
    · simp [go_sem]
    repeat' first
 | (apply s_mov; exact aW)
 | (apply c_nil)
 | (apply c_seq)
 | (apply c_reg)
 | (apply c_ret)
 | (with_reducible apply k_c)
    simp [finish, ress, resOf, look, tupOf, go_sem]
theorem f77 {x y : AV} {a c : List Int} (hx : IsL x a) (hy : IsL y c) (h0 : 1 ≤ a.length) (hl : a.length ≤ 12) (hac : c.length = a.length)
    (hb : ∀ v : Nat, v < a.length → -288230376151711744 ≤ getI a (v : Int) ∧ getI a (v : Int) ≤ 288230376151711744) (hc : ∀ v : Nat, v < a.length → -288230376151711744 ≤ getI c (v : Int) ∧ getI c (v : Int) ≤ 288230376151711744)
    {m : Nat} (hm : 101 ≤ m) : evF tab it m 77 [x, y] [] = some (.sl 0 1 0 a.length, [some (.data (iL (pl a c)))]) := by
  obtain ⟨m, rfl⟩ : ∃ j, m = j + 1 := ⟨m - 1, by omega⟩
  have fx := hx.free; have fy := hy.free
  have ff : idFreeL [x, y, .fn 101 []] = true := by simp [idFreeL, fx, fy, AV.idFree]
  have e100 : ∀ H, callPure (evF tab it m) false 100 [x, y, .fn 101 []] H = some (.sl H.length 1 0 a.length, H ++ [some (.data (iL (pl a c)))]) := fun H => by
    simp [callPure, frzL_free H 40 [x, y, .fn 101 []] (by simp) ff, f100 hx hy h0 hl hac hb hc (m := m) (by omega), ff, shiftH, AV.ren, renH, renO]
  refine f_enter rfl rfl ?_
  generalize evF tab it m = call at *
  repeat' first
 | (apply s_mov; exact aW)
 | (apply c_nil)
 | (apply s_en; exact aO; exact e100 _)
 | (apply c_seq)
 | (apply c_reg)
 | (apply c_ret)
 | (with_reducible apply k_c)
  simp [finish, ress, resOf, look, tupOf, go_sem]
theorem c77o {args : List AV} {x y : AV} {a c : List Int} (hx : IsL x a) (hy : IsL y c) (h0 : 1 ≤ a.length) (hl : a.length ≤ 12) (hac : c.length = a.length)
    (hb : ∀ v : Nat, v < a.length → -288230376151711744 ≤ getI a (v : Int) ∧ getI a (v : Int) ≤ 288230376151711744) (hc : ∀ v : Nat, v < a.length → -288230376151711744 ≤ getI c (v : Int) ∧ getI c (v : Int) ≤ 288230376151711744)
    {m : Nat} (hm : 101 ≤ m) (H : Heap) (ha : frzL H 40 args = some [x, y]) : callPure (evF tab it m) false 77 args H = some (.sl H.length 1 0 a.length, H ++ [some (.data (iL (pl a c)))]) := by
  unfold callPure
  rw [ha, Option.bind_some, f77 hx hy h0 hl hac hb hc hm, Option.bind_some]
  simp [AV.hasRd, HO.hasRd, iL_noRd, shiftH, AV.ren, renH, renO]
theorem c55p {args : List AV} {x y z : AV} {b : List (List Int)} {s t : List Int} (hx : IsLL x b) (hy : IsL y s) (hz : IsL z t) (hb : Bd b) (hsn : s.length = b.length) (htn : t.length = b.length)
    (ht : ∀ v : Nat, v < b.length → -4503599627370496 ≤ getI t (v : Int) ∧ getI t (v : Int) ≤ 4503599627370496) (hs : ∀ v : Nat, v < b.length → -288230376151711744 ≤ getI s (v : Int) ∧ getI s (v : Int) ≤ 288230376151711744)
    {m : Nat} (hm : 100 ≤ m) (H : Heap) (ha : frzL H 40 args = some [x, y, z]) : callPure (evF tab it m) true 55 args H = some (.rd 1 b.length (iL (apl b s t)), H) := by
  refine callPure_own ha (f55 hx hy hz hb hsn htn ht hs hm) rfl (by simp [HO.hasRd, iL_noRd]) ?_
  exact frz_sl rfl (apl_len b s t)
theorem c74 {x : AV} {b : List (List Int)} (hx : IsLL x b) (hb : Bd b) {i : Nat} (hi : i < b.length) {m : Nat} (hm : 100 ≤ m) (H : Heap) : callPure (evF tab it m) true 74 [x, .int .i64 (i : Int)] H = some (.int .i64 (deg b.length (ed b) i), H) := by
  have f74 : evF tab it m 74 [x, .int .i64 (i : Int)] [] = some (.int .i64 (deg b.length (ed b) i), []) := by
    obtain ⟨m, rfl⟩ : ∃ j, m = j + 1 := ⟨m - 1, by omega⟩
    have fx := hx.free
    have hl := hb.len
    have hrow := hx.at (i := (i : Int)) ⟨by omega, by omega⟩
    have hrl := hb.row i hi
    have lr : ∀ H, evP H .len [llAt x (i : Int)] = some (.int .i64 ((b.length : Nat) : Int)) := fun H => by rw [← hrl]; exact p_lenI hrow
    have fr := hrow.free
    refine f_enter rfl rfl ?_
    generalize evF tab it m = call at *
    repeat' first
 | (apply s_mov; exact aW)
 | (apply c_nil)
 | (apply s_pn; exact aO; exact lr _)
 | (apply s_idxLL; exact aW; exact rfl; assumption; omega)
 | (apply s_ldLL; exact rfl; assumption; omega)
 | (apply c_seq)
 | (apply c_reg)
 | (apply c_block)
 | (with_reducible apply k_c)
    refine c_loop ?_
    refine loop_gc (σ := Nat) (fun k => [.int .i64 (sumTo (fun j => ed b i j) k), llAt x (i : Int), .int .i64 ((b.length : Nat) : Int), .int .i64 (k : Int)]) (fun _ => []) (fun k => k ≤ b.length) (fun k => b.length - k) ?_ _ 0 _ _ (by omega) (by omega) (gc_to rfl (by simp [idFreeL, AV.idFree, *]; done))
    intro k hk K hK
    have hs := sumTo_le (f := fun j => ed b i j) (M := 3) (n := k) fun j hj => by have := hb.val i j hi (by omega); unfold ed; omega
    have hK1 := hK (k + 1)
    simp only [sumTo] at hK1
    by_cases hkn : k < b.length
    · have hv := hb.val i k hi hkn
      have hed : ed b i k = getI (getLL b (i : Int)) (k : Int) := rfl
      rw [hed] at hK1
      repeat' first
 | (apply s_mov; exact aW)
 | (apply c_nil)
 | (apply s_lss; exact rfl; all_goals (intro _; try (exfalso; omega)))
 | (apply s_add; exact rfl; omega)
 | (apply s_idx; exact aW; exact rfl; exact aI; omega)
 | (apply s_ldI; exact rfl; omega)
 | (apply c_seq)
 | (apply c_reg)
 | (apply c_block)
 | (apply c_skip)
 | (apply c_condT; exact rfl)
 | (with_reducible apply k_c)
      exact hK1 _ _ (by omega) (by omega) (gc_to rfl (by simp [idFreeL, AV.idFree, *]; done))
    · obtain rfl : k = b.length := by omega
      have hd : sumTo (fun j => ed b i j) b.length = deg b.length (ed b) i := by unfold deg; rfl
      rw [hd] at *
      repeat' first
 | (apply s_mov; exact aW)
 | (apply c_nil)
 | (apply s_lss; exact rfl; all_goals (intro _; try (exfalso; omega)))
 | (apply c_seq)
 | (apply c_reg)
 | (apply c_exitH)
 | (apply c_ret)
 | (apply c_condF; exact rfl)
 | (apply c_preF; exact aK; exact aF)
 | (with_reducible apply k_c)
      exact fin_t (by (conv => lhs; whnf)) (by rfl) rfl
  exact callPure_free (by simp [idFreeL, AV.idFree, hx.free]) (by simp) f74 rfl
set_option maxHeartbeats 1000000
def unit (v : Nat) (k : Int) (j : Nat) : Int := if j = v then k else 0
theorem net_unit_self {n : Nat} {E : Nat → Nat → Int} (g : Gr n E) {v : Nat} (hv : v < n) {k : Int} (hk : 0 ≤ k) : net n E (unit v k) v ≤ k * deg n E v := by
  unfold net deg
  rw [sumTo_mul]
  refine sumTo_mono fun j hj => ?_
  try dsimp only
  rw [Int.mul_comm]
  refine Int.mul_le_mul_of_nonneg_right ?_ (g.nn v j hv hj)
  unfold unit
  rw [if_pos rfl]
  split <;> omega
theorem net_unit_other {n : Nat} {E : Nat → Nat → Int} (g : Gr n E) {v w : Nat} (hw : w < n) (hne : w ≠ v) {k : Int} (hk : 0 ≤ k) : net n E (unit v k) w ≤ 0 := by
  rw [show (0 : Int) = sumTo (fun _ => 0) n from (sumTo_zero n).symm]
  unfold net
  refine sumTo_mono fun j hj => ?_
  have := Int.mul_nonneg (g.nn w j hw hj) (show 0 ≤ unit v k j by unfold unit; split <;> omega)
  have e : unit v k w = 0 := by unfold unit; rw [if_neg hne]
  rw [e, Int.zero_sub, Int.mul_neg]
  omega
structure SetOk (n : Nat) (E : Nat → Nat → Int) (q : Nat) (c t : Nat → Int) : Prop where
  nn : ∀ v, v < n → 0 ≤ t v
  q0 : t q = 0
  pos : ∀ v, v < n → v ≠ q → 0 ≤ ap n E c t v
  lst : ∀ T : Nat → Int, (∀ v, v < n → 0 ≤ T v) → T q = 0 → (∀ v, v < n → v ≠ q → ap n E c T v < deg n E v) → ∀ v, v < n → t v ≤ T v
theorem ap_congr {n : Nat} {E : Nat → Nat → Int} {c c' t t' : Nat → Int} {v : Nat} (hv : v < n) (h : ∀ j, j < n → t j = t' j) (hc : c v = c' v) : ap n E c t v = ap n E c' t' v := by
  unfold ap
  rw [hc, net_congr hv h]
theorem SetOk.congr {n : Nat} {E : Nat → Nat → Int} {q : Nat} (hq : q < n) {c t t' : Nat → Int} (h : SetOk n E q c t) (e : ∀ j, j < n → t j = t' j) : SetOk n E q c t' :=
  ⟨fun v hv => by rw [← e v hv]; exact h.nn v hv, by rw [← e q hq]; exact h.q0, fun v hv hvq => by rw [← ap_congr hv e rfl]; exact h.pos v hv hvq, fun T a b d v hv => by rw [← e v hv]; exact h.lst T a b d v hv⟩
theorem SetOk.init {n : Nat} {E : Nat → Nat → Int} {q : Nat} {c : Nat → Int} (h : ∀ v, v < n → v ≠ q → 0 ≤ c v) : SetOk n E q c (fun _ => 0) :=
  ⟨fun _ _ => Int.le_refl _, rfl, fun v hv hvq => by unfold ap; rw [net_const]; have := h v hv hvq; omega, fun T hT _ _ v hv => hT v hv⟩
theorem SetOk.step {n : Nat} {E : Nat → Nat → Int} (g : Gr n E) {q : Nat} {c t : Nat → Int} (h : SetOk n E q c t) {v : Nat} (hv : v < n) (hvq : v ≠ q) {k : Int} (hk : 1 ≤ k) (hl : k * deg n E v ≤ ap n E c t v) : SetOk n E q c (fun j => t j + unit v k j) := by
  refine ⟨fun w hw => ?_, ?_, fun w hw hwq => ?_, fun T a b d w hw => ?_⟩
  · have := h.nn w hw
    unfold unit
    split <;> omega
  · have := h.q0
    unfold unit
    rw [if_neg (fun e => hvq e.symm)]
    omega
  · have e : ap n E c (fun j => t j + unit v k j) w = ap n E c t w - net n E (unit v k) w := by unfold ap; rw [net_add]; omega
    rw [e]
    by_cases hwv : w = v
    · subst hwv
      have := net_unit_self g hv (k := k) (by omega)
      omega
    · have := net_unit_other g hw hwv (k := k) (by omega)
      have := h.pos w hw hwq
      omega
  · have hle := h.lst T a b d
    by_cases hwv : w = v
    · subst hwv
      have := least g hle hv (d w hw hvq) hk hl
      unfold unit
      rw [if_pos rfl]
      exact this
    · have := hle w hw
      unfold unit
      rw [if_neg hwv]
      omega
def oth (n : Nat) (q : Int) (f : Nat → Int) : Int := sumTo (fun i => if (i : Int) = q then 0 else f i) n
theorem oth_term {n q : Nat} {f : Nat → Int} (h : ∀ v, v < n → v ≠ q → 0 ≤ f v) {v : Nat} (hv : v < n) (hvq : v ≠ q) : f v ≤ oth n q f := by
  have := sumTo_term (f := fun i => if (i : Int) = (q : Int) then 0 else f i) (n := n) (k := v) (fun j hj => by
    try dsimp only
    split
    · exact Int.le_refl _
    · rename_i e; exact h j hj (fun e2 => e (by rw [e2]))) hv
  try dsimp only at this
  rw [if_neg (fun e => hvq (by omega))] at this
  exact this
theorem sumTo_unit (q : Nat) (a : Int) : ∀ n, sumTo (fun i => if (i : Int) = (q : Int) then a else 0) n = if q < n then a else 0
  | 0 => rfl
  | n + 1 => by
    simp only [sumTo]
    rw [sumTo_unit q a n]
    by_cases h : n = q
    · subst h; rw [if_neg (by omega), if_pos rfl, if_pos (by omega)]; omega
    · rw [if_neg (show ¬ ((n : Nat) : Int) = (q : Int) by omega)]
      by_cases h2 : q < n
      · rw [if_pos h2, if_pos (by omega)]; omega
      · rw [if_neg h2, if_neg (by omega)]; omega
theorem oth_eq {n q : Nat} (hq : q < n) (f : Nat → Int) : oth n q f = sumTo f n - f q := by
  have h : sumTo f n = oth n q f + sumTo (fun i => if (i : Int) = (q : Int) then f q else 0) n := by
    unfold oth
    rw [← sumTo_add]
    refine sumTo_congr fun i _ => ?_
    by_cases e : (i : Int) = (q : Int)
    · rw [if_pos e, if_pos e]; have : i = q := by omega
      rw [this]; omega
    · rw [if_neg e, if_neg e]; omega
  rw [sumTo_unit, if_pos hq] at h
  omega
theorem oth_nn {n q : Nat} {f : Nat → Int} (h : ∀ v, v < n → v ≠ q → 0 ≤ f v) : 0 ≤ oth n q f := sumTo_nn fun j hj => by
  try dsimp only
  split
  · exact Int.le_refl _
  · rename_i e; exact h j hj (fun e2 => e (by rw [e2]))
theorem SetOk.le {n : Nat} {E : Nat → Nat → Int} (g : Gr n E) {q : Nat} (hq : q < n) {D : Nat → Int} (d : Dst n E q D) {c t : Nat → Int} (hc : ∀ v, v < n → v ≠ q → 0 ≤ c v) {M : Int} (hM : oth n q c ≤ M) (h : SetOk n E q c t) :
    (∀ v, v < n → v ≠ q → ap n E c t v ≤ M) ∧ (c q ≤ ap n E c t q ∧ ap n E c t q ≤ c q + M) ∧ (∀ v, v < n → 0 ≤ t v ∧ t v ≤ n * (n * M)) ∧ oth n q (ap n E c t) ≤ M := by
  have hn := g.sz
  have hsum := ap_sum g c t
  have e1 := oth_eq hq c
  have e2 := oth_eq hq (ap n E c t)
  have o1 := oth_nn hc
  have o2 := oth_nn h.pos
  have hnq : net n E t q ≤ 0 := by
    rw [show (0 : Int) = sumTo (fun _ => 0) n from (sumTo_zero n).symm]
    unfold net
    refine sumTo_mono fun j hj => ?_
    have := Int.mul_nonneg (g.nn q j hq hj) (h.nn j hj)
    rw [h.q0, Int.zero_sub, Int.mul_neg]
    omega
  have hcq : c q ≤ ap n E c t q := by unfold ap; omega
  have hle : ∀ v, v < n → v ≠ q → ap n E c t v ≤ M := fun v hv hvq => by
    have := oth_term h.pos hv hvq
    omega
  refine ⟨hle, ⟨hcq, by omega⟩, fun v hv => ⟨h.nn v hv, ?_⟩, by omega⟩
  have hs := script_le g d (t := t) (B := M) (by omega) h.q0 (fun w hw hwq => by
    have a := hle w hw hwq
    have b := h.pos w hw hwq
    have c1 := hc w hw hwq
    have c2 := oth_term hc hw hwq
    unfold ap at a b
    omega) n v hv (d.le v hv)
  exact hs.2
theorem apl_zero {b : List (List Int)} (h : IsB b) {s : List Int} (hs : s.length = b.length) : apl b s (List.replicate b.length 0) = s := by
  refine ext_getI (by rw [apl_len, hs]) fun i hi => ?_
  rw [apl_len] at hi
  rw [apl_ap h s _ hi]
  have : ap b.length (ed b) (gf s) (gf (List.replicate b.length 0)) i = ap b.length (ed b) (gf s) (fun _ => 0) i := ap_congr hi (fun j hj => by unfold gf; rw [getI_nat]; simp [List.getD, hj]) rfl
  rw [this]
  unfold ap
  rw [net_const]
  show gf s i - 0 = _
  unfold gf
  omega
theorem apl_pl {b : List (List Int)} (h : IsB b) {s t u : List Int} (ht : t.length = b.length) : apl b (apl b s t) u = apl b s (pl t u) := by
  refine ext_getI (by rw [apl_len, apl_len]) fun i hi => ?_
  rw [apl_len] at hi
  rw [apl_ap h _ _ hi, apl_ap h _ _ hi]
  have e1 : ap b.length (ed b) (gf (apl b s t)) (gf u) i = ap b.length (ed b) (ap b.length (ed b) (gf s) (gf t)) (gf u) i := ap_congr hi (fun _ _ => rfl) (apl_ap h s t hi)
  rw [e1, ap_ap]
  exact ap_congr hi (fun j hj => (pl_get (by omega)).symm) rfl
set_option maxHeartbeats 1000000
theorem deg_le {n : Nat} {E : Nat → Nat → Int} (g : Gr n E) {i : Nat} (hi : i < n) : deg n E i ≤ n * 3 := by
  have b := sumTo_le (f := fun j => E i j) (M := 3) (n := n) fun j hj => by have := g.nn i j hi hj; have := g.le i j hi hj; omega
  unfold deg
  omega
theorem upper_le {n : Nat} {E : Nat → Nat → Int} (g : Gr n E) {q : Nat} {D : Nat → Int} (d : Dst n E q D) {t : Nat → Int} {B : Int} (hB : 0 ≤ B) (h : ∀ v, v < n → v ≠ q → net n E t v ≤ B) :
    ∀ k : Nat, ∀ v, v < n → D v ≤ k → t v ≤ t q + k * (n * B)
  | k, v, hv, hk => by
    have hnB : 0 ≤ (n : Int) * B := Int.mul_nonneg (by omega) hB
    have hknB : 0 ≤ (k : Int) * (n * B) := Int.mul_nonneg (by omega) hnB
    by_cases hvq : v = q
    · subst hvq; omega
    · rcases Int.lt_or_le (t q) (t v) with hlt | hle
      · obtain ⟨u, hu, he, hlt2⟩ := d.near v hv hvq
        have hu0 := d.nn hu
        obtain ⟨j, rfl⟩ : ∃ j, k = j + 1 := ⟨k - 1, by have := d.pos v hv hvq; omega⟩
        have ih := upper_le g d hB h j u hu (by omega)
        have e : ((j + 1 : Nat) : Int) * (n * B) = j * (n * B) + n * B := by push_cast; rw [Int.add_mul, Int.one_mul]
        rw [e]
        have key : t v - t u ≤ n * B := by
          rcases Int.lt_or_le (t u) (t v) with h2 | h2
          · have hq : decide (t v ≤ t q) = false := by simp; omega
            have f := flow g t (fun w => decide (t v ≤ t w))
            have s := sumS_le (S := fun w => decide (t v ≤ t w)) (f := net n E t) (n := n) hB hq fun w hw hwq => h w hw hwq
            have nn : ∀ i, i < n → ∀ j, j < n → 0 ≤ (if decide (t v ≤ t i) = true ∧ decide (t v ≤ t j) = false then E i j * (t i - t j) else 0) := fun i hi j hj => by
              split
              · rename_i hc
                simp only [decide_eq_true_eq, decide_eq_false_iff_not] at hc
                exact Int.mul_nonneg (g.nn i j hi hj) (by omega)
              · exact Int.le_refl _
            have a := sumTo_term (n := n) (k := u) (nn v hv) hu
            have b := sumTo_term (f := fun i => sumTo (fun j => if decide (t v ≤ t i) = true ∧ decide (t v ≤ t j) = false then E i j * (t i - t j) else 0) n) (n := n) (k := v) (fun i hi => sumTo_nn fun j hj => nn i hi j hj) hv
            try dsimp only at a b
            rw [if_pos ⟨by simp, by simp; omega⟩] at a
            have c := Int.mul_le_mul_of_nonneg_right he (show 0 ≤ t v - t u by omega)
            omega
          · omega
        omega
      · omega
def ind (S : Nat → Bool) (j : Nat) : Int := if S j = true then 1 else 0
theorem net_ind {n : Nat} {E : Nat → Nat → Int} {S : Nat → Bool} {v : Nat} (h : S v = true) : net n E (ind S) v = outE n E S v := by
  unfold net outE
  refine sumTo_congr fun j _ => ?_
  unfold ind
  rw [if_pos h]
  cases S j <;> simp
theorem net_ind_out {n : Nat} {E : Nat → Nat → Int} (g : Gr n E) {S : Nat → Bool} {v : Nat} (hv : v < n) (h : S v = false) : net n E (ind S) v ≤ 0 := by
  rw [show (0 : Int) = sumTo (fun _ => 0) n from (sumTo_zero n).symm]
  unfold net
  refine sumTo_mono fun j hj => ?_
  have := g.nn v j hv hj
  have e : ind S v = 0 := by unfold ind; rw [h]; rfl
  rw [e]
  unfold ind
  split <;> omega
def Leg (n : Nat) (E : Nat → Nat → Int) (c : Nat → Int) (S : Nat → Bool) : Prop := ∀ v, v < n → S v = true → outE n E S v ≤ c v
theorem leg_fire {n : Nat} {E : Nat → Nat → Int} (g : Gr n E) {q : Nat} {c : Nat → Int} {S : Nat → Bool} (h : Leg n E c S) (hc : ∀ v, v < n → v ≠ q → 0 ≤ c v) : ∀ v, v < n → v ≠ q → 0 ≤ ap n E c (ind S) v := fun v hv hvq => by
  unfold ap
  cases hs : S v with
  | true => rw [net_ind hs]; have := h v hv hs; omega
  | false => have := net_ind_out g hv hs; have := hc v hv hvq; omega
theorem leg_pot {n : Nat} {E : Nat → Nat → Int} (g : Gr n E) {q : Nat} {D : Nat → Int} (d : Dst n E q D) {c : Nat → Int} {S : Nat → Bool} (hq : S q = false) {v : Nat} (hv : v < n) (hs : S v = true) : pot n D (ap n E c (ind S)) < pot n D c := by
  have a := pot_ap g d c (ind S) (fun w _ => by unfold ind; split <;> omega) (by unfold ind; rw [hq]; rfl)
  have b := sumTo_term (f := ind S) (n := n) (k := v) (fun w _ => by unfold ind; split <;> omega) hv
  have e : ind S v = 1 := by unfold ind; rw [hs]; rfl
  omega
theorem not_red {n : Nat} {E : Nat → Nat → Int} {q : Nat} {c : Nat → Int} (hc : ∀ v, v < n → v ≠ q → 0 ≤ c v) (h : ¬ Red n E q c) : ∃ S : Nat → Bool, S q = false ∧ (∃ v, v < n ∧ S v = true) ∧ Leg n E c S := by
  apply Classical.byContradiction
  intro hn
  refine h ⟨hc, fun S hS hex => Classical.byContradiction fun h2 => hn ⟨S, hS, hex, fun v hv hs => ?_⟩⟩
  exact Classical.byContradiction fun h3 => h2 ⟨v, hv, hs, by omega⟩
theorem red_of {n : Nat} {E : Nat → Nat → Int} (g : Gr n E) {q : Nat} {D : Nat → Int} (d : Dst n E q D) (c : Nat → Int) : ∀ N : Nat, ∀ t : Nat → Int, (∀ v, v < n → v ≠ q → 0 ≤ ap n E c t v) → pot n D (ap n E c t) < N → ∃ t : Nat → Int, Red n E q (ap n E c t)
  | 0, t, ht, hp => by have := pot_nn d ht; omega
  | N + 1, t, ht, hp => by
    by_cases hr : Red n E q (ap n E c t)
    · exact ⟨t, hr⟩
    · obtain ⟨S, hS, ⟨v, hv, hs⟩, hl⟩ := not_red ht hr
      have h1 := leg_fire g hl ht
      have h2 := leg_pot g d (c := ap n E c t) hS hv hs
      have e : ap n E (ap n E c t) (ind S) = ap n E c (fun j => t j + ind S j) := funext fun i => ap_ap n E c t _ i
      rw [e] at h1 h2
      exact red_of g d c N _ h1 (by omega)
def ceilI (a c : Int) : Int := if a ≤ 0 then 0 else (a + c - 1) / c
theorem ceilI_ge {a c : Int} (hc : 1 ≤ c) : a ≤ ceilI a c * c := by
  unfold ceilI
  split
  · omega
  · have h1 := Int.emod_add_mul_ediv (a + c - 1) c
    have h2 := Int.emod_lt_of_pos (a + c - 1) (show 0 < c by omega)
    have h3 : (a + c - 1) / c * c = c * ((a + c - 1) / c) := Int.mul_comm _ _
    omega
theorem ceilI_le {a c : Int} (hc : 1 ≤ c) (ha : 0 ≤ a) : ceilI a c ≤ a := by
  unfold ceilI
  split
  · exact ha
  · have h1 : (a + c - 1) / c * 1 ≤ (a + c - 1) / c * c := Int.mul_le_mul_of_nonneg_left hc (Int.ediv_nonneg (by omega) (by omega))
    have h2 : (a + c - 1) / c ≤ a := by
      have : (a + c - 1) / c < a + 1 := Int.ediv_lt_of_lt_mul (by omega) (by
        rw [Int.add_mul, Int.one_mul]
        have : a * 1 ≤ a * c := Int.mul_le_mul_of_nonneg_left hc ha
        have h4 : (a - 1) * 1 ≤ (a - 1) * c := Int.mul_le_mul_of_nonneg_left hc (by omega)
        rw [Int.sub_mul] at h4
        omega)
      omega
    exact h2
def getsN (n : Nat) (E : Nat → Nat → Int) (D : Nat → Int) (d : Int) (v : Nat) : Int := sumTo (fun u => if D u < d then E v u else 0) n
def nearS (D : Nat → Int) (d T : Int) (j : Nat) : Int := if D j < d then T else 0
theorem net_near {n : Nat} {E : Nat → Nat → Int} {D : Nat → Int} {d T : Int} {v : Nat} (h : ¬ D v < d) : net n E (nearS D d T) v = - (T * getsN n E D d v) := by
  unfold net getsN
  rw [sumTo_mul, ← sumTo_neg]
  refine sumTo_congr fun j _ => ?_
  unfold nearS
  rw [if_neg h]
  split
  · rw [Int.zero_sub, Int.mul_neg, Int.mul_comm]
  · simp
theorem gets_pos {n : Nat} {E : Nat → Nat → Int} (g : Gr n E) {q : Nat} {D : Nat → Int} (d : Dst n E q D) {v : Nat} (hv : v < n) (hvq : v ≠ q) : 1 ≤ getsN n E D (D v) v := by
  obtain ⟨u, hu, he, hlt⟩ := d.near v hv hvq
  have := sumTo_term (f := fun u => if D u < D v then E v u else 0) (n := n) (k := u) (fun j hj => by
    have := g.nn v j hv hj
    try dsimp only
    split <;> omega) hu
  try dsimp only at this
  rw [if_pos hlt] at this
  unfold getsN
  omega
theorem gets_nn {n : Nat} {E : Nat → Nat → Int} (g : Gr n E) {D : Nat → Int} {d : Int} {v : Nat} (hv : v < n) : 0 ≤ getsN n E D d v ∧ getsN n E D d v ≤ n * 3 := by
  have a := sumTo_nn (f := fun u => if D u < d then E v u else 0) (n := n) fun j hj => by
    have := g.nn v j hv hj
    try dsimp only
    split <;> omega
  have b := sumTo_le (f := fun u => if D u < d then E v u else 0) (M := 3) (n := n) fun j hj => by
    have := g.nn v j hv hj
    have := g.le v j hv hj
    try dsimp only
    split <;> omega
  unfold getsN
  omega
def tms (n : Nat) (E : Nat → Nat → Int) (D : Nat → Int) (c : Nat → Int) (d : Int) : Nat → Int
  | 0 => 0
  | k + 1 => if D k = d then (if ceilI (- c k) (getsN n E D d k) > tms n E D c d k then ceilI (- c k) (getsN n E D d k) else tms n E D c d k) else tms n E D c d k
theorem tms_nn {n : Nat} {E : Nat → Nat → Int} {D c : Nat → Int} {d : Int} : ∀ k, 0 ≤ tms n E D c d k
  | 0 => Int.le_refl _
  | k + 1 => by
    have := tms_nn (n := n) (E := E) (D := D) (c := c) (d := d) k
    simp only [tms]
    split
    · split <;> omega
    · exact this
theorem tms_ge {n : Nat} {E : Nat → Nat → Int} {D c : Nat → Int} {d : Int} : ∀ {k v : Nat}, v < k → D v = d → ceilI (- c v) (getsN n E D d v) ≤ tms n E D c d k
  | k + 1, v, hv, hd => by
    simp only [tms]
    by_cases e : v = k
    · subst e
      rw [if_pos hd]
      split <;> omega
    · have := tms_ge (n := n) (E := E) (D := D) (c := c) (d := d) (show v < k by omega) hd
      split
      · split <;> omega
      · exact this
theorem tms_le {n : Nat} {E : Nat → Nat → Int} {D c : Nat → Int} {d B : Int} (hB : 0 ≤ B) : ∀ {k : Nat}, (∀ v, v < k → D v = d → ceilI (- c v) (getsN n E D d v) ≤ B) → tms n E D c d k ≤ B
  | 0, _ => hB
  | k + 1, h => by
    have := tms_le (n := n) (E := E) (D := D) (c := c) (d := d) hB (k := k) fun v hv hd => h v (by omega) hd
    simp only [tms]
    split
    · rename_i e
      have := h k (by omega) e
      split <;> omega
    · exact this
def payF (n : Nat) (E : Nat → Nat → Int) (D l : Nat → Int) : Nat → (Nat → Int) → (Nat → Int)
  | 0, t => t
  | d + 1, t => payF n E D l d (fun j => t j + nearS D ((d + 1 : Nat) : Int) (tms n E D (ap n E l t) ((d + 1 : Nat) : Int) n) j)
structure PayOk (n : Nat) (E : Nat → Nat → Int) (D l : Nat → Int) (d : Nat) (B : Int) (t : Nat → Int) : Prop where
  paid : ∀ v, v < n → (d : Int) < D v → 0 ≤ ap n E l t v
  nn : ∀ v, v < n → 0 ≤ t v ∧ t v ≤ B
theorem ap_low {n : Nat} {E : Nat → Nat → Int} (g : Gr n E) {l t : Nat → Int} {B : Int} (h : ∀ v, v < n → 0 ≤ t v ∧ t v ≤ B) (hB : 0 ≤ B) {v : Nat} (hv : v < n) : l v - B * (n * 3) ≤ ap n E l t v ∧ ap n E l t v ≤ l v + B * (n * 3) := by
  have hd := deg_le g hv
  have h1 : net n E t v ≤ B * deg n E v := by
    unfold net deg
    rw [sumTo_mul]
    refine sumTo_mono fun j hj => ?_
    have h2 := h v hv
    have h3 := h j hj
    rw [Int.mul_comm B]
    exact Int.mul_le_mul_of_nonneg_left (by omega) (g.nn v j hv hj)
  have h4 : -(B * deg n E v) ≤ net n E t v := by
    unfold net deg
    rw [sumTo_mul, ← sumTo_neg]
    refine sumTo_mono fun j hj => ?_
    have h2 := h v hv
    have h3 := h j hj
    rw [Int.mul_comm B, ← Int.mul_neg]
    exact Int.mul_le_mul_of_nonneg_left (by omega) (g.nn v j hv hj)
  have h5 : B * deg n E v ≤ B * (n * 3) := Int.mul_le_mul_of_nonneg_left hd hB
  unfold ap
  omega
theorem PayOk.step {n : Nat} {E : Nat → Nat → Int} (g : Gr n E) {q : Nat} {D : Nat → Int} (hd : Dst n E q D) {l t : Nat → Int} {d : Nat} {B M : Int} (hB : 0 ≤ B) (hM : 0 ≤ M) (hl : ∀ v, v < n → v ≠ q → -M ≤ l v) (h : PayOk n E D l (d + 1) B t) :
    0 ≤ tms n E D (ap n E l t) ((d + 1 : Nat) : Int) n ∧ tms n E D (ap n E l t) ((d + 1 : Nat) : Int) n ≤ M + B * (n * 3) ∧
    PayOk n E D l d (M + B * (n * 3) + B) (fun j => t j + nearS D ((d + 1 : Nat) : Int) (tms n E D (ap n E l t) ((d + 1 : Nat) : Int) n) j) := by
  have hnB : 0 ≤ B * ((n : Int) * 3) := Int.mul_nonneg hB (by omega)
  have hT0 := tms_nn (n := n) (E := E) (D := D) (c := ap n E l t) (d := ((d + 1 : Nat) : Int)) n
  have hvq : ∀ v, v < n → D v = ((d + 1 : Nat) : Int) → v ≠ q := fun v hv e e2 => by subst e2; rw [hd.zero] at e; omega
  have hT1 : tms n E D (ap n E l t) ((d + 1 : Nat) : Int) n ≤ M + B * (n * 3) := tms_le (by omega) fun v hv e => by
    have hg := gets_pos g hd hv (hvq v hv e)
    rw [e] at hg
    have a := (ap_low g (l := l) h.nn hB hv).1
    have b := hl v hv (hvq v hv e)
    by_cases hc : 0 ≤ - ap n E l t v
    · have := ceilI_le hg hc; omega
    · have : ceilI (- ap n E l t v) (getsN n E D ((d + 1 : Nat) : Int) v) = 0 := by unfold ceilI; rw [if_pos (by omega)]
      omega
  refine ⟨hT0, hT1, fun v hv hdv => ?_, fun v hv => ?_⟩
  · generalize hTT : tms n E D (ap n E l t) ((d + 1 : Nat) : Int) n = T at *
    have e : ap n E l (fun j => t j + nearS D ((d + 1 : Nat) : Int) T j) v = ap n E l t v + T * getsN n E D ((d + 1 : Nat) : Int) v := by
      unfold ap
      rw [net_add, net_near (by omega)]
      omega
    rw [e]
    have hg0 := (gets_nn g (D := D) (d := ((d + 1 : Nat) : Int)) hv).1
    by_cases e2 : D v = ((d + 1 : Nat) : Int)
    · have hg := gets_pos g hd hv (hvq v hv e2)
      rw [e2] at hg
      have h1 := tms_ge (n := n) (E := E) (D := D) (c := ap n E l t) hv e2
      rw [hTT] at h1
      have h2 := ceilI_ge (a := - ap n E l t v) hg
      have h3 := Int.mul_le_mul_of_nonneg_right h1 hg0
      omega
    · have h1 := h.paid v hv (by omega)
      have := Int.mul_nonneg hT0 hg0
      omega
  · have := h.nn v hv
    unfold nearS
    split <;> omega
def payB (n : Nat) (M : Int) : Nat → Int
  | 0 => 0
  | k + 1 => M + payB n M k * (n * 3) + payB n M k
theorem payB_nn {n : Nat} {M : Int} (hM : 0 ≤ M) : ∀ k, 0 ≤ payB n M k
  | 0 => Int.le_refl _
  | k + 1 => by
    have := payB_nn (n := n) hM k
    have := Int.mul_nonneg this (show 0 ≤ (n : Int) * 3 by omega)
    simp only [payB]
    omega
theorem payB_mono {n : Nat} {M : Int} (hM : 0 ≤ M) (k : Nat) : payB n M k ≤ payB n M (k + 1) := by
  have := payB_nn (n := n) hM k
  have := Int.mul_nonneg this (show 0 ≤ (n : Int) * 3 by omega)
  simp only [payB]
  omega
theorem payF_ok {n : Nat} {E : Nat → Nat → Int} (g : Gr n E) {q : Nat} {D : Nat → Int} (hd : Dst n E q D) {l : Nat → Int} {M : Int} (hM : 0 ≤ M) (hl : ∀ v, v < n → v ≠ q → -M ≤ l v) : ∀ (d k : Nat) (t : Nat → Int), PayOk n E D l d (payB n M k) t → PayOk n E D l 0 (payB n M (k + d)) (payF n E D l d t)
  | 0, k, t, h => h
  | d + 1, k, t, h => by
    obtain ⟨_, _, s⟩ := h.step g hd (payB_nn hM k) hM hl
    have e : k + (d + 1) = k + 1 + d := by omega
    rw [e]
    simp only [payF]
    exact payF_ok g hd hM hl d (k + 1) _ s
theorem payB10 {n : Nat} (hn : n ≤ 10) {M M' : Int} (hM : 0 ≤ M) (hMM : M ≤ M') : ∀ k, payB n M k ≤ payB 10 M' k
  | 0 => Int.le_refl _
  | k + 1 => by
    have ih := payB10 hn hM hMM k
    have h0 := payB_nn (n := n) hM k
    have h1 : payB n M k * (n * 3) ≤ payB 10 M' k * ((10 : Nat) * 3) := Int.mul_le_mul ih (by omega) (by omega) (by omega)
    simp only [payB]
    omega
theorem red_ex {n : Nat} {E : Nat → Nat → Int} (g : Gr n E) {q : Nat} {D : Nat → Int} (hd : Dst n E q D) (l : Nat → Int) : ∃ t : Nat → Int, t q = 0 ∧ Red n E q (ap n E l t) := by
  obtain ⟨M, hM, hl⟩ : ∃ M : Int, 0 ≤ M ∧ ∀ v, v < n → v ≠ q → -M ≤ l v := by
    by_cases hn : 0 < n
    · obtain ⟨w, _, hw⟩ := ex_max (fun v => - l v) hn
      refine ⟨if 0 ≤ - l w then - l w else 0, by split <;> omega, fun v hv _ => ?_⟩
      have := hw v hv
      try dsimp only at this
      split <;> omega
    · exact ⟨0, by omega, fun v hv => by omega⟩
  have h0 : PayOk n E D l n (payB n M 0) (fun _ => 0) := ⟨fun v hv h => by have := hd.le v hv; omega, fun v hv => by simp [payB]⟩
  have h1 := payF_ok g hd hM hl n 0 _ h0
  have h2 : ∀ v, v < n → v ≠ q → 0 ≤ ap n E l (payF n E D l n (fun _ => 0)) v := fun v hv hvq => h1.paid v hv (by have := hd.pos v hv hvq; omega)
  obtain ⟨t, ht⟩ := red_of g hd l _ _ h2 (show _ < (((pot n D (ap n E l (payF n E D l n (fun _ => 0)))).toNat + 1 : Nat) : Int) by omega)
  refine ⟨fun j => t j + (- t q), (by show t q + - t q = 0; omega), ?_⟩
  have e : ap n E l (fun j => t j + (- t q)) = ap n E l t := funext fun i => by unfold ap; rw [net_add, net_const]; omega
  rw [e]; exact ht
noncomputable def redT (b : List (List Int)) (l : List Int) (q : Nat) : List Int :=
  open Classical in if h : ∃ t : List Int, t.length = b.length ∧ gf t q = 0 ∧ Red b.length (ed b) q (ap b.length (ed b) (gf l) (gf t)) then Classical.choose h else []
theorem Red.congr {n : Nat} {E : Nat → Nat → Int} {q : Nat} {c c' : Nat → Int} (h : Red n E q c) (e : ∀ v, v < n → c v = c' v) : Red n E q c' :=
  ⟨fun v hv hvq => by rw [← e v hv]; exact h.1 v hv hvq, fun S hS hex => by
    obtain ⟨v, hv, hs, hlt⟩ := h.2 S hS hex
    exact ⟨v, hv, hs, by rw [← e v hv]; exact hlt⟩⟩
theorem redT_ok {b : List (List Int)} (hB : IsB b) (l : List Int) {q : Nat} (hq : q < b.length) : (redT b l q).length = b.length ∧ gf (redT b l q) q = 0 ∧ Red b.length (ed b) q (ap b.length (ed b) (gf l) (gf (redT b l q))) := by
  have hex : ∃ t : List Int, t.length = b.length ∧ gf t q = 0 ∧ Red b.length (ed b) q (ap b.length (ed b) (gf l) (gf t)) := by
    obtain ⟨t, h0, h1⟩ := red_ex (gr_of hB) (dist_dst hB hq) (gf l)
    have hg : ∀ j, j < b.length → t j = gf ((List.range b.length).map t) j := fun j hj => by unfold gf; rw [getI_nat]; simp [List.getD, hj]
    exact ⟨(List.range b.length).map t, by simp, by rw [← hg q hq]; exact h0, h1.congr fun v hv => ap_congr hv hg rfl⟩
  unfold redT
  rw [dif_pos hex]
  exact Classical.choose_spec hex
theorem redT_eq {b : List (List Int)} (hB : IsB b) {l : List Int} {q : Nat} (hq : q < b.length) {t : List Int} (hl : t.length = b.length) (h0 : gf t q = 0) (h : Red b.length (ed b) q (ap b.length (ed b) (gf l) (gf t))) : t = redT b l q := by
  obtain ⟨a, c, d⟩ := redT_ok hB l hq
  refine ext_getI (by omega) fun i hi => ?_
  have := red_uniq (gr_of hB) hq d h (t := fun j => gf t j + (- gf (redT b l q) j)) (fun v hv => by
    unfold ap
    rw [net_add, net_neg]
    omega)
  have h2 := (this i (by omega)).2
  rw [h0, c] at h2
  unfold gf at h2
  omega
set_option maxHeartbeats 8000000
theorem p_quo {H : Heap} {a c : Int} (ha : 0 ≤ a ∧ a < 4611686018427387904) (hc : 0 < c) : evP H (.bin .quo) [.int .i64 a, .int .i64 c] = some (.int .i64 (a / c)) := by
  have h1 : a.tdiv c = a / c := Int.tdiv_eq_ediv_of_nonneg ha.1
  have h2 : 0 ≤ a / c := Int.ediv_nonneg ha.1 (by omega)
  have h3 : a / c ≤ a := Int.ediv_le_self c ha.1
  simp only [evP, binV, isShift, binInt]
  rw [if_neg (show ¬ c = 0 by omega), h1, show IntKind.i64.wrap (a / c) = a / c from wrapI (by omega)]
  rfl
set_option maxHeartbeats 8000000
def maxTo (l : List Int) : Nat → Int
  | 0 => getI l (0 : Int)
  | k + 1 => if getI l ((k + 1 : Nat) : Int) > maxTo l k then getI l ((k + 1 : Nat) : Int) else maxTo l k
theorem maxTo_le (l : List Int) (a : Int) : ∀ k, maxTo l k ≤ a ↔ ∀ j : Nat, j ≤ k → getI l (j : Int) ≤ a
  | 0 => ⟨fun h j hj => by obtain rfl : j = 0 := by omega
                           exact h, fun h => h 0 (Nat.le_refl _)⟩
  | k + 1 => by
    have ih := maxTo_le l a k
    simp only [maxTo]
    constructor
    · intro h j hj
      rcases (by omega : j ≤ k ∨ j = k + 1) with h1 | rfl
      · refine ih.1 ?_ j h1
        split at h <;> omega
      · split at h <;> omega
    · intro h
      have h1 := ih.2 fun j hj => h j (by omega)
      have h2 := h (k + 1) (Nat.le_refl _)
      split <;> omega
theorem c112 {x : AV} {l : List Int} (hx : IsL x l) (h1 : 1 ≤ l.length) (hl : l.length ≤ 1000) {m : Nat} (hm : 2010 ≤ m) (H : Heap) : callPure (evF tab it m) true 112 [x] H = some (.int .i64 (maxTo l (l.length - 1)), H) := by
  have f112 : evF tab it m 112 [x] [] = some (.int .i64 (maxTo l (l.length - 1)), []) := by
    obtain ⟨m, rfl⟩ : ∃ j, m = j + 1 := ⟨m - 1, by omega⟩
    have fx := hx.free
    refine f_enter rfl rfl ?_
    generalize evF tab it m = call at *
    repeat' first
 | (apply s_mov; exact aW)
 | (apply c_nil)
 | (apply s_lss; exact rfl; all_goals (intro _; try (exfalso; omega)))
 | (apply s_len; exact aW; exact aI)
 | (apply s_idx; exact aW; exact rfl; exact aI; omega)
 | (apply s_ldI; exact rfl; omega)
 | (apply c_seq)
 | (apply c_reg)
 | (apply c_block)
 | (apply c_skip)
 | (apply c_condF; exact rfl)
 | (with_reducible apply k_c)
    refine c_loop ?_
    refine loop_gc (σ := Nat) (fun k => [x, .int .i64 (maxTo l k), .int .i64 (((k + 1 : Nat) : Nat) : Int)]) (fun _ => []) (fun k => k + 1 ≤ l.length) (fun k => l.length - k) ?_ _ 0 _ _ (by omega) (by omega) (gc_to rfl (by simp [idFreeL, AV.idFree, *]; done))
    intro k hk K hK
    by_cases hkl : k + 1 < l.length
    · skip
      repeat' first
 | (apply s_mov; exact aW)
 | (apply c_nil)
 | (apply s_lss; exact rfl; all_goals (intro _; try (exfalso; omega)))
 | (apply s_add; exact rfl; omega)
 | (apply s_len; exact aW; exact aI)
 | (apply s_idx; exact aW; exact rfl; exact aI; omega)
 | (apply s_mx; exact rfl; exact rfl)
 | (apply s_ldI; exact rfl; omega)
 | (apply c_seq)
 | (apply c_reg)
 | (apply c_block)
 | (apply c_skip)
 | (apply c_condT; exact rfl)
 | (with_reducible apply k_c)
      have := hK (k + 1)
      simp only [maxTo] at this
      exact this _ _ (by omega) (by omega) (gc_to rfl (by simp [idFreeL, AV.idFree, *]; done))
    · obtain rfl : k = l.length - 1 := by omega
      repeat' first
 | (apply s_mov; exact aW)
 | (apply c_nil)
 | (apply s_lss; exact rfl; all_goals (intro _; try (exfalso; omega)))
 | (apply s_len; exact aW; exact aI)
 | (apply c_seq)
 | (apply c_reg)
 | (apply c_exitH)
 | (apply c_ret)
 | (apply c_condF; exact rfl)
 | (apply c_preF; exact aK; exact aF)
 | (with_reducible apply k_c)
      exact fin_t (by (conv => lhs; whnf)) (by rfl) rfl
  exact callPure_free (by simp [idFreeL, AV.idFree, hx.free]) (by simp) f112 rfl
theorem c113 {a c : Int} (hc : 1 ≤ c ∧ c ≤ 1000) (ha : -4611686018427387904 ≤ a ∧ a ≤ 2305843009213693952) {m : Nat} (hm : 1 ≤ m) (H : Heap) : callPure (evF tab it m) true 113 [.int .i64 a, .int .i64 c] H = some (.int .i64 (ceilI a c), H) := by
  obtain ⟨m, rfl⟩ : ∃ j, m = j + 1 := ⟨m - 1, by omega⟩
  have f : evF tab it (m + 1) 113 [.int .i64 a, .int .i64 c] [] = some (.int .i64 (ceilI a c), []) := by
    refine f_enter rfl rfl ?_
    by_cases h : a ≤ 0
    · have e : ceilI a c = 0 := by unfold ceilI; rw [if_pos h]
      rw [e]
      repeat' first
 | (apply s_mov; exact aW)
 | (apply c_nil)
 | (apply s_leq; exact rfl; all_goals (intro _; try (exfalso; omega)))
 | (apply c_seq)
 | (apply c_reg)
 | (apply c_ret)
 | (apply c_condT; exact rfl)
 | (with_reducible apply k_c)
      all_goals first | exact fin_t (by (conv => lhs; whnf)) (by rfl) rfl | (exfalso; omega)
    · have e : ceilI a c = (a + c - 1) / c := by unfold ceilI; rw [if_neg h]
      rw [e]
      have quo := fun H => p_quo (H := H) (a := a + c - 1) (c := c) (by omega) (by omega)
      repeat' first
 | (apply s_mov; exact aW)
 | (apply c_nil)
 | (apply s_leq; exact rfl; all_goals (intro _; try (exfalso; omega)))
 | (apply s_add; exact rfl; omega)
 | (apply s_sub; exact rfl; omega)
 | (apply s_pn; exact aO; exact quo _)
 | (apply c_seq)
 | (apply c_reg)
 | (apply c_skip)
 | (apply c_ret)
 | (apply c_condF; exact rfl)
 | (with_reducible apply k_c)
      all_goals first | exact fin_t (by (conv => lhs; whnf)) (by rfl) rfl | (exfalso; omega)
  exact callPure_free (by simp [idFreeL, AV.idFree]) (by simp) f rfl
theorem tms_congr {n : Nat} {E : Nat → Nat → Int} {D c c' : Nat → Int} {d : Int} (h : ∀ v, v < n → c v = c' v) : ∀ {k : Nat}, k ≤ n → tms n E D c d k = tms n E D c' d k
  | 0, _ => rfl
  | k + 1, hk => by
    simp only [tms]
    rw [tms_congr h (by omega), h k (by omega)]
theorem payF_congr {n : Nat} {E : Nat → Nat → Int} {D l : Nat → Int} : ∀ (d : Nat) {t t' : Nat → Int}, (∀ j, j < n → t j = t' j) → ∀ j, j < n → payF n E D l d t j = payF n E D l d t' j
  | 0, t, t', h, j, hj => h j hj
  | d + 1, t, t', h, j, hj => by
    simp only [payF]
    rw [tms_congr (c' := ap n E l t') (fun v hv => ap_congr hv h rfl) (Nat.le_refl _)]
    exact payF_congr d (fun j hj => by rw [h j hj]) j hj
theorem PayOk.congr {n : Nat} {E : Nat → Nat → Int} {D l : Nat → Int} {d : Nat} {B : Int} {t t' : Nat → Int} (h : PayOk n E D l d B t) (e : ∀ j, j < n → t j = t' j) : PayOk n E D l d B t' :=
  ⟨fun v hv hd => by rw [← ap_congr hv e rfl]; exact h.paid v hv hd, fun v hv => by rw [← e v hv]; exact h.nn v hv⟩
def payL (b : List (List Int)) (l : List Int) (q : Nat) : List Int :=
  (List.range b.length).map (payF b.length (ed b) (gf (dist b q).1) (gf l) (maxTo (dist b q).1 (b.length - 1)).toNat (fun _ => 0))
theorem payL_len (b : List (List Int)) (l : List Int) (q : Nat) : (payL b l q).length = b.length := by simp [payL]
theorem payL_get {b : List (List Int)} {l : List Int} {q j : Nat} (hj : j < b.length) : getI (payL b l q) (j : Int) = payF b.length (ed b) (gf (dist b q).1) (gf l) (maxTo (dist b q).1 (b.length - 1)).toNat (fun _ => 0) j := by
  rw [getI_nat]
  simp [payL, List.getD, hj]
theorem payB_bound {n : Nat} (hn : n ≤ 10) {M : Int} (hM : 0 ≤ M ∧ M ≤ 100) {k : Nat} (hk : k ≤ 10) : 0 ≤ payB n M k ∧ payB n M k ≤ 2732094289936000 := by
  have h1 := payB10 hn hM.1 hM.2 k
  have h2 : ∀ j : Nat, payB 10 100 (10 - j) ≤ payB 10 100 10 := fun j => by
    induction j with
    | zero => exact Int.le_refl _
    | succ j ih =>
      by_cases h : j < 10
      · have := payB_mono (n := 10) (M := 100) (by omega) (10 - (j + 1))
        rw [show 10 - (j + 1) + 1 = 10 - j by omega] at this
        omega
      · rw [show 10 - (j + 1) = 10 - j by omega]; exact ih
  have h3 := h2 (10 - k)
  rw [show 10 - (10 - k) = k by omega] at h3
  have h4 : payB 10 100 10 = 2732094289936000 := by decide
  exact ⟨payB_nn hM.1 k, by omega⟩
end Go.AM.Ch
