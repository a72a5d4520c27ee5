/- A part of the proof: U26. -/
import Derived.Test.YtmegimhfoedcdaaU25
import Derived.Test.YtmegimhfoedcdaaU16
set_option linter.unusedSectionVars false
set_option linter.unusedVariables false
set_option linter.unusedSimpArgs false
namespace Go.AM.Ch
attribute [local go_sem] gc subHeap reach_skip ren_free reach_new reach_newp reach_end rangeL roots boxCells nodupB posOf renL AV.ren pickO renH renO looks look bindEnv envOf reach_int reach_bool reach_nilS reach_rd putRow cells_sl cells_int cells_bool cells_nilS cells_rd cells_agg reach_agg reach_tup idFreeL idf_sl idf_ptr idf_int idf_bool idf_nilS idf_rd reach_fn reach_mp cells_fn cells_ptr cells_mp idf_mp idf_fn idf_agg idf_tup
set_option maxHeartbeats 4000000
theorem frzV_of {H : Heap} {k : Nat} {x : AV} (h : x.idFree = true) : frzV H (k + 1) x = some x := frzV_free H k h
theorem frz_sl {H : Heap} {k id n : Nat} {l : List Int} (h : H.data? id = some (iL l)) (hl : l.length = n) : frzV H (k + 1) (.sl id 1 0 n) = some (.rd 1 n (iL l)) := by
  have := iL_len l
  subst hl
  simp [frzV_sl, h, this, List.take_of_length_le]
theorem frzL_cons {H : Heap} {k : Nat} {x y : AV} {xs ys : List AV} (h : frzV H (k + 1) x = some y) (hs : frzL H (k + 1) xs = some ys) : frzL H (k + 2) (x :: xs) = some (y :: ys) := by
  simp [frzL, h, hs]
theorem frzL_nil {H : Heap} {k : Nat} : frzL H (k + 1) [] = some [] := by simp [frzL]
theorem frzV_tup {H : Heap} {k : Nat} {cs cs' : List AV} (h : idFreeL cs = false) (h1 : frzL H k cs = some cs') : frzV H (k + 1) (.tup cs) = some (.tup cs') := by
  simp [frzV, h, h1]
theorem rd_isL {n : Nat} {l : List Int} (h : l.length = n) : IsL (.rd 1 n (iL l)) l := by subst h; exact .rd _
/-- Clone -/
theorem f76 {x : AV} {l : List Int} (hx : IsL x l) (h0 : 1 ≤ l.length) (hl : l.length ≤ 1000) {m : Nat} (hm : 2 ≤ m) : evF tab it m 76 [x] [] = some (.sl 0 1 0 l.length, [some (.data (iL l))]) := by
  obtain ⟨m, rfl⟩ : ∃ j, m = j + 1 := ⟨m - 1, by omega⟩
  cases hx with
  | nil => simp at h0
  | rd l =>
    rcases l with _ | ⟨c, cs⟩
    · simp at h0
    · have bl : ∀ call, evE call [] (.bldS true false 1 0 [.int .i64 0] []) [] = some (.sl 0 1 0 0, [some (.data [])]) := fun call => rfl
      refine f_enter rfl rfl ?_
      repeat' first
 | (apply s_mov; (focus ((conv => lhs; whnf); done)))
 | (apply c_nil)
 | (apply s_en; (focus (repeat (first | apply opds_nil | (apply opds_cons; (first | (focus ((conv => lhs; whnf); done)) | exact rfl))))); exact bl _)
 | (apply s_en; (focus (repeat (first | apply opds_nil | (apply opds_cons; (first | (focus ((conv => lhs; whnf); done)) | exact rfl))))); exact e_app_sl rfl rfl (by simp) (by simp at hl ⊢; unfold most; omega))
 | (apply s_pd; (focus ((conv => lhs; whnf); done)))
 | (apply c_seq)
 | (apply c_reg)
 | (apply c_skip)
 | (apply c_ret)
 | (apply c_condF; exact rfl)
 | (with_reducible apply k_c)
      simp [finish, ress, resOf, look, tupOf, iL, ownV, owH, gc, subHeap, reach_new, reach_end, rangeL, roots, boxCells, nodupB, posOf, renL, AV.ren, pickO, renH, renO]
theorem c76o {x : AV} {l : List Int} (hx : IsL x l) (h0 : 1 ≤ l.length) (hl : l.length ≤ 1000) {m : Nat} (hm : 2 ≤ m) (H : Heap) : callPure (evF tab it m) false 76 [x] H = some (.sl H.length 1 0 l.length, H ++ [some (.data (iL l))]) := by
  have ff : idFreeL [x] = true := by simp [idFreeL, hx.free]
  simp [callPure, frzL_free H 40 [x] (by simp) ff, f76 hx h0 hl hm, ff, shiftH, AV.ren, renH, renO]
theorem c101 {m : Nat} (hm : 1 ≤ m) {a c : Int} (h : -9223372036854775808 ≤ a + c ∧ a + c < 9223372036854775808) (H : Heap) : callPure (evF tab it m) true 101 [.int .i64 a, .int .i64 c] H = some (.int .i64 (a + c), H) := by
  obtain ⟨m, rfl⟩ : ∃ j, m = j + 1 := ⟨m - 1, by omega⟩
  refine callPure_free (by simp [idFreeL, AV.idFree]) (by simp) (v := .int .i64 (a + c)) (H1 := []) ?_ rfl
  refine f_enter rfl rfl ?_
  repeat' first
 | (apply s_mov; (focus ((conv => lhs; whnf); done)))
 | (apply c_nil)
 | ((first | apply s_add | apply s_sub); exact rfl; omega)
 | (apply c_seq)
 | (apply c_reg)
 | (apply c_ret)
 | (with_reducible apply k_c)
  exact fin_t (by (conv => lhs; whnf)) (by rfl) rfl
/-- the sum of two lists -/
def pl (a c : List Int) : List Int := (List.range a.length).map fun (i : Nat) => getI a (i : Int) + getI c (i : Int)
theorem pl_len (a c : List Int) : (pl a c).length = a.length := by simp [pl]
theorem pl_get {a c : List Int} {i : Nat} (h : i < a.length) : getI (pl a c) (i : Int) = getI a (i : Int) + getI c (i : Int) := by
  rw [getI_nat]
  simp [pl, List.getD, h]
theorem ext_getI {a c : List Int} (h : a.length = c.length) (h2 : ∀ i : Nat, i < a.length → getI a (i : Int) = getI c (i : Int)) : a = c := by
  refine List.ext_getElem h fun j h1 h3 => ?_
  have := h2 j h1
  rw [getI_nat, getI_nat] at this
  simpa [List.getD, h1, h3] using this
/-- combine, with plus -/
theorem f100 {x y : AV} {a c : List Int} (hx : IsL x a) (hy : IsL y c) (h0 : 1 ≤ a.length) (hl : a.length ≤ 12) (hac : c.length = a.length)
    (hb : ∀ v : Nat, v < a.length → -288230376151711744 ≤ getI a (v : Int) ∧ getI a (v : Int) ≤ 288230376151711744) (hc : ∀ v : Nat, v < a.length → -288230376151711744 ≤ getI c (v : Int) ∧ getI c (v : Int) ≤ 288230376151711744)
    {m : Nat} (hm : 100 ≤ m) : evF tab it m 100 [x, y, .fn 101 []] [] = some (.sl 0 1 0 a.length, [some (.data (iL (pl a c)))]) := by
  obtain ⟨m, rfl⟩ : ∃ j, m = j + 1 := ⟨m - 1, by omega⟩
  have fx := hx.free; have fy := hy.free
  have e76 := fun H => c76o hx h0 (by omega) (m := m) (by omega) H
  have ly : ∀ H, evP H .len [y] = some (.int .i64 ((a.length : Nat) : Int)) := fun H => by rw [← hac]; exact p_lenI hy
  have e101 := fun (p q : Int) (h : -9223372036854775808 ≤ p + q ∧ p + q < 9223372036854775808) (H : Heap) => c101 (m := m) (by omega) h H
  refine f_enter rfl rfl ?_
  generalize evF tab it m = call at *
  repeat' first
 | (apply s_mov; (focus ((conv => lhs; whnf); done)))
 | (apply c_nil)
 | (apply s_pn; (focus (repeat (first | apply opds_nil | (apply opds_cons; (first | (focus ((conv => lhs; whnf); done)) | exact rfl))))); exact ly _)
 | (apply s_en; (focus (repeat (first | apply opds_nil | (apply opds_cons; (first | (focus ((conv => lhs; whnf); done)) | exact rfl))))); exact e76 _)
 | (apply c_seq)
 | (apply c_reg)
 | (apply c_block)
 | (with_reducible apply k_c)
  have gcO : ∀ (k : Nat) (C : List AV), gc 0 [.fn 101 [], .sl 0 1 0 a.length, y, .int .i64 ((a.length : Nat) : Int), .int .i64 (k : Int)] [some (.data C)] = some ([.fn 101 [], .sl 0 1 0 a.length, y, .int .i64 ((a.length : Nat) : Int), .int .i64 (k : Int)], [some (.data C)]) := fun k C => by simp [go_sem, fy, reach_fn, idf_fn, cells_fn]
  refine c_loop ?_
  refine loop_gc (σ := Nat × List Int) (fun p => [.fn 101 [], .sl 0 1 0 a.length, y, .int .i64 ((a.length : Nat) : Int), .int .i64 (p.1 : Int)]) (fun p => [some (.data (iL p.2))]) (fun p => p.1 ≤ a.length ∧ p.2.length = a.length ∧ ∀ i : Nat, i < a.length → getI p.2 (i : Int) = if i < p.1 then getI a (i : Int) + getI c (i : Int) else getI a (i : Int)) (fun p => a.length - p.1) ?_ _ (0, a) _ _ ⟨by omega, rfl, fun i _ => by rw [if_neg (by omega)]⟩ (by show a.length - 0 < _; omega) (gcO 0 (iL a))
  intro ⟨k, o⟩ ⟨hk, hol, ho⟩ K hK
  dsimp only at hk hol ho hK ⊢
  by_cases hkn : k < a.length
  · have h1 := ho k hkn
    rw [if_neg (by omega)] at h1
    have h2 := hb k hkn
    have h3 := hc k hkn
    have ld := fun H h => p_ldO (H := H) (id := 0) (l := o) (i := k) h (by omega)
    have st := fun (vv : Int) call H h => e_stO (call := call) (H := H) (id := 0) (l := o) (i := k) (v := vv) h (by omega)
    have ecv : ∀ H, evE call H (.callv true true) [.fn 101 [], .int .i64 (getI o (k : Int)), .int .i64 (getI c (k : Int))] = some (.int .i64 (getI o (k : Int) + getI c (k : Int)), H) := fun H => by
      simpa [evE] using e101 (getI o (k : Int)) (getI c (k : Int)) (by omega) H
    repeat' first
 | (apply s_mov; (focus ((conv => lhs; whnf); done)))
 | (apply c_nil)
 | ((first | apply s_lss | apply s_leq | apply s_gtr | apply s_geq | apply s_eql | apply s_neq); exact rfl; all_goals (intro _; try (exfalso; omega)))
 | ((first | apply s_add | apply s_sub); exact rfl; omega)
 | (apply s_pn; (focus (repeat (first | apply opds_nil | (apply opds_cons; (first | (focus ((conv => lhs; whnf); done)) | exact rfl))))); exact p_ixO hkn)
 | (apply s_pn; (focus (repeat (first | apply opds_nil | (apply opds_cons; (first | (focus ((conv => lhs; whnf); done)) | exact rfl))))); exact ld _ rfl)
 | (apply s_en; (focus (repeat (first | apply opds_nil | (apply opds_cons; (first | (focus ((conv => lhs; whnf); done)) | exact rfl))))); exact ecv _)
 | (apply s_st; (focus (repeat (first | apply opds_nil | (apply opds_cons; (first | (focus ((conv => lhs; whnf); done)) | exact rfl))))); exact st _ _ _ rfl)
 | (apply s_idx; (focus ((conv => lhs; whnf); done)); exact rfl; (first | assumption | (apply IsLL.at; assumption; omega)); omega)
 | (apply s_ldI; exact rfl; omega)
 | (apply c_seq)
 | (apply c_reg)
 | (apply c_block)
 | (apply c_skip)
 | (apply c_condT; exact rfl)
 | (with_reducible apply k_c)
    refine hK (k + 1, _) _ _ ⟨by omega, by simpa using hol, fun i hi => ?_⟩ (by show a.length - (k + 1) < _; omega) (gcO (k + 1) _)
    dsimp only
    rw [getI_set (by omega)]
    by_cases e : i = k
    · subst e; rw [if_pos rfl, if_pos (by omega), h1]
    · rw [if_neg e, ho i hi]
      by_cases e2 : i < k
      · rw [if_pos e2, if_pos (by omega)]
      · rw [if_neg e2, if_neg (by omega)]
  · obtain rfl : k = a.length := by omega
    obtain rfl : o = pl a c := ext_getI (by rw [pl_len]; exact hol) fun i hi => by rw [pl_get (by omega), ho i (by omega), if_pos (by omega)]
    repeat' first
 | (apply c_nil)
 | ((first | apply s_lss | apply s_leq | apply s_gtr | apply s_geq | apply s_eql | apply s_neq); exact rfl; all_goals (intro _; try (exfalso; omega)))
 | (apply c_seq)
 | (apply c_reg)
 | (apply c_exitH)
 | (apply c_condF; exact rfl)
 | (with_reducible apply k_c)
    apply c_pre (vs := [.sl 0 1 0 a.length]) (H' := [some (.data (iL (pl a c)))])
    · simp [go_sem]
    repeat' first
 | (apply s_mov; (focus ((conv => lhs; whnf); done)))
 | (apply c_nil)
 | (apply c_seq)
 | (apply c_reg)
 | (apply c_ret)
 | (with_reducible apply k_c)
    simp [finish, ress, resOf, look, tupOf, go_sem]
theorem f77 {x y : AV} {a c : List Int} (hx : IsL x a) (hy : IsL y c) (h0 : 1 ≤ a.length) (hl : a.length ≤ 12) (hac : c.length = a.length)
    (hb : ∀ v : Nat, v < a.length → -288230376151711744 ≤ getI a (v : Int) ∧ getI a (v : Int) ≤ 288230376151711744) (hc : ∀ v : Nat, v < a.length → -288230376151711744 ≤ getI c (v : Int) ∧ getI c (v : Int) ≤ 288230376151711744)
    {m : Nat} (hm : 101 ≤ m) : evF tab it m 77 [x, y] [] = some (.sl 0 1 0 a.length, [some (.data (iL (pl a c)))]) := by
  obtain ⟨m, rfl⟩ : ∃ j, m = j + 1 := ⟨m - 1, by omega⟩
  have fx := hx.free; have fy := hy.free
  have ff : idFreeL [x, y, .fn 101 []] = true := by simp [idFreeL, fx, fy, AV.idFree]
  have e100 : ∀ H, callPure (evF tab it m) false 100 [x, y, .fn 101 []] H = some (.sl H.length 1 0 a.length, H ++ [some (.data (iL (pl a c)))]) := fun H => by
    simp [callPure, frzL_free H 40 [x, y, .fn 101 []] (by simp) ff, f100 hx hy h0 hl hac hb hc (m := m) (by omega), ff, shiftH, AV.ren, renH, renO]
  refine f_enter rfl rfl ?_
  generalize evF tab it m = call at *
  repeat' first
 | (apply s_mov; (focus ((conv => lhs; whnf); done)))
 | (apply c_nil)
 | (apply s_en; (focus (repeat (first | apply opds_nil | (apply opds_cons; (first | (focus ((conv => lhs; whnf); done)) | exact rfl))))); exact e100 _)
 | (apply c_seq)
 | (apply c_reg)
 | (apply c_ret)
 | (with_reducible apply k_c)
  simp [finish, ress, resOf, look, tupOf, go_sem]
/-- plus, of own lists -/
theorem c77o {args : List AV} {x y : AV} {a c : List Int} (hx : IsL x a) (hy : IsL y c) (h0 : 1 ≤ a.length) (hl : a.length ≤ 12) (hac : c.length = a.length)
    (hb : ∀ v : Nat, v < a.length → -288230376151711744 ≤ getI a (v : Int) ∧ getI a (v : Int) ≤ 288230376151711744) (hc : ∀ v : Nat, v < a.length → -288230376151711744 ≤ getI c (v : Int) ∧ getI c (v : Int) ≤ 288230376151711744)
    {m : Nat} (hm : 101 ≤ m) (H : Heap) (ha : frzL H 40 args = some [x, y]) : callPure (evF tab it m) false 77 args H = some (.sl H.length 1 0 a.length, H ++ [some (.data (iL (pl a c)))]) := by
  unfold callPure
  rw [ha, Option.bind_some, f77 hx hy h0 hl hac hb hc hm, Option.bind_some]
  simp [AV.hasRd, HO.hasRd, iL_noRd, shiftH, AV.ren, renH, renO]
theorem c55q {args : List AV} {x y z : AV} {b : List (List Int)} {s t : List Int} (hx : IsLL x b) (hy : IsL y s) (hz : IsL z t) (hb : Bd b) (hsn : s.length = b.length) (htn : t.length = b.length)
    (ht : ∀ v : Nat, v < b.length → -4503599627370496 ≤ getI t (v : Int) ∧ getI t (v : Int) ≤ 4503599627370496) (hs : ∀ v : Nat, v < b.length → -288230376151711744 ≤ getI s (v : Int) ∧ getI s (v : Int) ≤ 288230376151711744)
    {m : Nat} (hm : 100 ≤ m) (H : Heap) (ha : frzL H 40 args = some [x, y, z]) : callPure (evF tab it m) false 55 args H = some (.sl H.length 1 0 b.length, H ++ [some (.data (iL (apl b s t)))]) := by
  unfold callPure
  rw [ha, Option.bind_some, f55 hx hy hz hb hsn htn ht hs hm, Option.bind_some]
  simp [AV.hasRd, HO.hasRd, iL_noRd, shiftH, AV.ren, renH, renO]
theorem c55p {args : List AV} {x y z : AV} {b : List (List Int)} {s t : List Int} (hx : IsLL x b) (hy : IsL y s) (hz : IsL z t) (hb : Bd b) (hsn : s.length = b.length) (htn : t.length = b.length)
    (ht : ∀ v : Nat, v < b.length → -4503599627370496 ≤ getI t (v : Int) ∧ getI t (v : Int) ≤ 4503599627370496) (hs : ∀ v : Nat, v < b.length → -288230376151711744 ≤ getI s (v : Int) ∧ getI s (v : Int) ≤ 288230376151711744)
    {m : Nat} (hm : 100 ≤ m) (H : Heap) (ha : frzL H 40 args = some [x, y, z]) : callPure (evF tab it m) true 55 args H = some (.rd 1 b.length (iL (apl b s t)), H) := by
  refine callPure_own ha (f55 hx hy hz hb hsn htn ht hs hm) rfl (by simp [HO.hasRd, iL_noRd]) ?_
  exact frz_sl rfl (apl_len b s t)
/-- degree -/
theorem c74 {x : AV} {b : List (List Int)} (hx : IsLL x b) (hb : Bd b) {i : Nat} (hi : i < b.length) {m : Nat} (hm : 100 ≤ m) (H : Heap) : callPure (evF tab it m) true 74 [x, .int .i64 (i : Int)] H = some (.int .i64 (deg b.length (ed b) i), H) := by
  have f74 : evF tab it m 74 [x, .int .i64 (i : Int)] [] = some (.int .i64 (deg b.length (ed b) i), []) := by
    obtain ⟨m, rfl⟩ : ∃ j, m = j + 1 := ⟨m - 1, by omega⟩
    have fx := hx.free
    have hl := hb.len
    have hrow := hx.at (i := (i : Int)) ⟨by omega, by omega⟩
    have hrl := hb.row i hi
    have lr : ∀ H, evP H .len [llAt x (i : Int)] = some (.int .i64 ((b.length : Nat) : Int)) := fun H => by rw [← hrl]; exact p_lenI hrow
    have fr := hrow.free
    refine f_enter rfl rfl ?_
    generalize evF tab it m = call at *
    repeat' first
 | (apply s_mov; (focus ((conv => lhs; whnf); done)))
 | (apply c_nil)
 | (apply s_pn; (focus (repeat (first | apply opds_nil | (apply opds_cons; (first | (focus ((conv => lhs; whnf); done)) | exact rfl))))); exact lr _)
 | (apply s_idxLL; (focus ((conv => lhs; whnf); done)); exact rfl; assumption; omega)
 | (apply s_ldLL; exact rfl; assumption; omega)
 | (apply c_seq)
 | (apply c_reg)
 | (apply c_block)
 | (with_reducible apply k_c)
    refine c_loop ?_
    refine loop_gc (σ := Nat) (fun k => [.int .i64 (sumTo (fun j => ed b i j) k), llAt x (i : Int), .int .i64 ((b.length : Nat) : Int), .int .i64 (k : Int)]) (fun _ => []) (fun k => k ≤ b.length) (fun k => b.length - k) ?_ _ 0 _ _ (by omega) (by omega) (gc_to rfl (by simp [idFreeL, AV.idFree, *]; done))
    intro k hk K hK
    have hs := sumTo_le (f := fun j => ed b i j) (M := 3) (n := k) fun j hj => by have := hb.val i j hi (by omega); unfold ed; omega
    have hK1 := hK (k + 1)
    simp only [sumTo] at hK1
    by_cases hkn : k < b.length
    · have hv := hb.val i k hi hkn
      have hed : ed b i k = getI (getLL b (i : Int)) (k : Int) := rfl
      rw [hed] at hK1
      repeat' first
 | (apply s_mov; (focus ((conv => lhs; whnf); done)))
 | (apply c_nil)
 | ((first | apply s_lss | apply s_leq | apply s_gtr | apply s_geq | apply s_eql | apply s_neq); exact rfl; all_goals (intro _; try (exfalso; omega)))
 | ((first | apply s_add | apply s_sub); exact rfl; omega)
 | (apply s_idx; (focus ((conv => lhs; whnf); done)); exact rfl; (first | assumption | (apply IsLL.at; assumption; omega)); omega)
 | (apply s_ldI; exact rfl; omega)
 | (apply c_seq)
 | (apply c_reg)
 | (apply c_block)
 | (apply c_skip)
 | (apply c_condT; exact rfl)
 | (with_reducible apply k_c)
      exact hK1 _ _ (by omega) (by omega) (gc_to rfl (by simp [idFreeL, AV.idFree, *]; done))
    · obtain rfl : k = b.length := by omega
      have hd : sumTo (fun j => ed b i j) b.length = deg b.length (ed b) i := by unfold deg; rfl
      rw [hd] at *
      repeat' first
 | (apply s_mov; (focus ((conv => lhs; whnf); done)))
 | (apply c_nil)
 | ((first | apply s_lss | apply s_leq | apply s_gtr | apply s_geq | apply s_eql | apply s_neq); exact rfl; all_goals (intro _; try (exfalso; omega)))
 | (apply c_seq)
 | (apply c_reg)
 | (apply c_exitH)
 | (apply c_ret)
 | (apply c_condF; exact rfl)
 | (apply c_preF; (focus (repeat (first | apply looks_nil | (apply looks_cons; (focus ((conv => lhs; whnf); done)))))); (focus (simp [idFreeL, AV.idFree, *]; done)))
 | (with_reducible apply k_c)
      exact fin_t (by (conv => lhs; whnf)) (by rfl) rfl
  exact callPure_free (by simp [idFreeL, AV.idFree, hx.free]) (by simp) f74 rfl
end Go.AM.Ch
