/- A part of the proof: U1 U2 U3 U4 U5 U6 U7 U8. -/
import Derived.Test.YtmegimhfoedcdaaPc
import Derived.Test.YtmegimhfoedcdaaM3
set_option linter.unusedVariables false
set_option linter.unusedSimpArgs false
set_option linter.unusedSectionVars false
namespace Go.AM.Ch
set_option maxHeartbeats 1000000
theorem f53 (a lo hi : Int) (m : Nat) (hm : 1 ≤ m) : evF tab it m 53 [.int .i64 a, .int .i64 lo, .int .i64 hi] [] = some (.bool (decide (lo ≤ a ∧ a ≤ hi)), []) := by
  obtain ⟨m, rfl⟩ : ∃ j, m = j + 1 := ⟨m - 1, by omega⟩
  refine f_enter rfl rfl ?_
  repeat' first
 | (apply s_mov; exact aW)
 | (apply s_gT; exact rfl)
 | (apply s_gF; exact rfl)
 | (apply c_nil)
 | (apply s_pickT; exact rfl; exact aW)
 | (apply s_pickF; exact rfl; exact aW)
 | (apply s_leq; exact rfl; all_goals (intro _; try (exfalso; omega)))
 | (apply s_geq; exact rfl; all_goals (intro _; try (exfalso; omega)))
 | (apply c_seq)
 | (apply c_reg)
 | (apply c_ret)
 | (with_reducible apply k_c)
  all_goals refine fin_t (by (conv => lhs; whnf)) (by rfl) ?_
  all_goals first | exact leafT (by omega) | exact leafF (by omega)
theorem c53 {m : Nat} (hm : 1 ≤ m) (a lo hi : Int) (H : Heap) : callPure (evF tab it m) true 53 [.int .i64 a, .int .i64 lo, .int .i64 hi] H = some (.bool (decide (lo ≤ a ∧ a ≤ hi)), H) :=
  callPure_free rfl (by simp) (f53 a lo hi m hm) rfl
theorem f22 {x y : AV} {a b : List Int} (hx : IsL x a) (hy : IsL y b) (ha : a.length < 100) (m : Nat) (hm : 102 ≤ m) : evF tab it m 22 [x, y] [] = some (.bool (decide (a = b)), []) := by
  obtain ⟨m, rfl⟩ : ∃ j, m = j + 1 := ⟨m - 1, by omega⟩
  have fx := hx.free; have fy := hy.free
  refine f_enter rfl rfl ?_
  repeat' first
 | (apply s_mov; exact aW)
 | (apply c_nil)
 | (apply s_neq; exact rfl; all_goals (intro _; try (exfalso; omega)))
 | (apply s_len; exact aW; exact aI)
 | (apply c_seq)
 | (apply c_reg)
 | (apply c_block)
 | (apply c_skip)
 | (apply c_ret)
 | (apply c_condT; exact rfl)
 | (apply c_condF; exact rfl)
 | (with_reducible apply k_c)
  · refine c_loop ?_
    refine loop_gc (σ := Nat) (fun i => [x, y, .int .i64 i]) (fun _ => []) (fun i => i ≤ a.length ∧ ∀ j, j < i → getI a j = getI b j) (fun i => a.length - i) ?_ _ 0 _ _ ⟨by omega, by omega⟩ (by omega) (gc_to rfl (by simp [idFreeL, AV.idFree, *]; done))
    intro i ⟨hi, hb⟩ K hK
    repeat' first
 | (apply s_mov; exact aW)
 | (apply c_nil)
 | (apply s_lss; exact rfl; all_goals (intro _; try (exfalso; omega)))
 | (apply s_neq; exact rfl; all_goals (intro _; try (exfalso; omega)))
 | (apply s_add; exact rfl; omega)
 | (apply s_len; exact aW; exact aI)
 | (apply s_idx; exact aW; exact rfl; exact aI; omega)
 | (apply s_ldI; exact rfl; omega)
 | (apply c_seq)
 | (apply c_reg)
 | (apply c_block)
 | (apply c_exitH)
 | (apply c_skip)
 | (apply c_ret)
 | (apply c_condT; exact rfl)
 | (apply c_condF; exact rfl)
 | (apply c_preF; exact aK; exact aF)
 | (with_reducible apply k_c)
    all_goals first
      | (refine hK (i + 1) _ _ ⟨by omega, fun j hj => ?_⟩ (by omega) (gc_to rfl (by simp [idFreeL, AV.idFree, *]; done))
         rcases (by omega : j < i ∨ j = i) with h | rfl
         · exact hb j h
         · assumption)
      | (refine fin_t (by (conv => lhs; whnf)) (by rfl) (leafT ?_)
         refine List.ext_getElem (by omega) fun j h1 h2 => ?_
         have := hb j (by omega)
         simpa [getI, h1, h2] using this)
      | (refine fin_t (by (conv => lhs; whnf)) (by rfl) (leafF fun h => ?_); subst h; contradiction)
  · refine fin_t (by (conv => lhs; whnf)) (by rfl) (leafF fun h => ?_)
    subst h; contradiction
theorem c22 {x y : AV} {a b : List Int} (hx : IsL x a) (hy : IsL y b) (ha : a.length < 100) {m : Nat} (hm : 102 ≤ m) (H : Heap) : callPure (evF tab it m) true 22 [x, y] H = some (.bool (decide (a = b)), H) :=
  callPure_free (by simp [idFreeL, hx.free, hy.free]) (by simp) (f22 hx hy ha m hm) rfl
set_option maxHeartbeats 1000000
theorem getLL_eq {a b : List (List Int)} (hl : a.length = b.length) (h : ∀ j : Nat, j < a.length → getLL a j = getLL b j) : a = b := by
  refine List.ext_getElem hl fun j h1 h2 => ?_
  have := h j h1
  simpa [getLL_nat, List.getD, h1, h2] using this
theorem f21 {x y : AV} {a b : List (List Int)} (hx : IsLL x a) (hy : IsLL y b) (ha : a.length < 100 ∧ ∀ l ∈ a, l.length < 100) (m : Nat) (hm : 203 ≤ m) : evF tab it m 21 [x, y] [] = some (.bool (decide (a = b)), []) := by
  obtain ⟨m, rfl⟩ : ∃ j, m = j + 1 := ⟨m - 1, by omega⟩
  have fx := hx.free; have fy := hy.free
  obtain ⟨ha, hal⟩ := ha
  have e22 := fun {i : Nat} (h1 : i < a.length) (h2 : i < b.length) H => c22 (m := m) (hx.at (i := (i : Int)) ⟨by omega, by omega⟩) (hy.at (i := (i : Int)) ⟨by omega, by omega⟩) (hal _ (by rw [getLL_nat]; simp [List.getD, h1])) (by omega) H
  refine f_enter rfl rfl ?_
  generalize evF tab it m = call at *
  repeat' first
 | (apply s_mov; exact aW)
 | (apply c_nil)
 | (apply s_neq; exact rfl; all_goals (intro _; try (exfalso; omega)))
 | (apply s_lenLL; exact aW; assumption)
 | (apply c_seq)
 | (apply c_reg)
 | (apply c_block)
 | (apply c_skip)
 | (apply c_ret)
 | (apply c_condT; exact rfl)
 | (apply c_condF; exact rfl)
 | (with_reducible apply k_c)
  · refine c_loop ?_
    refine loop_gc (σ := Nat) (fun i => [x, y, .int .i64 i]) (fun _ => []) (fun i => i ≤ a.length ∧ ∀ j : Nat, j < i → getLL a j = getLL b j) (fun i => a.length - i) ?_ _ 0 _ _ ⟨by omega, by omega⟩ (by omega) (gc_to rfl (by simp [idFreeL, AV.idFree, *]; done))
    intro i ⟨hi, hb⟩ K hK
    repeat' first
 | (apply s_mov; exact aW)
 | (apply c_nil)
 | (apply s_notT; exact rfl)
 | (apply s_notF; exact rfl)
 | (apply s_lss; exact rfl; all_goals (intro _; try (exfalso; omega)))
 | (apply s_add; exact rfl; omega)
 | (apply isE; refine s_cB (by exact aO) (e22 (by omega) (by omega) _) (fun _ => ?_) (fun _ => ?_))
 | (apply s_lenLL; exact aW; assumption)
 | (apply s_idxLL; exact aW; exact rfl; assumption; omega)
 | (apply s_ldLL; exact rfl; assumption; omega)
 | (apply c_seq)
 | (apply c_reg)
 | (apply c_block)
 | (apply c_exitH)
 | (apply c_skip)
 | (apply c_ret)
 | (apply c_condT; exact rfl)
 | (apply c_condF; exact rfl)
 | (apply c_preF; exact aK; exact aF)
 | (with_reducible apply k_c)
    all_goals first
      | (refine hK (i + 1) _ _ ⟨by omega, fun j hj => ?_⟩ (by omega) (gc_to rfl (by simp [idFreeL, AV.idFree, *]; done))
         rcases (by omega : j < i ∨ j = i) with h | rfl
         · exact hb j h
         · assumption)
      | exact fin_t (by (conv => lhs; whnf)) (by rfl) (leafT (getLL_eq (by omega) fun j h => hb j (by omega)))
      | (refine fin_t (by (conv => lhs; whnf)) (by rfl) (leafF fun h => ?_); subst h; contradiction)
  · refine fin_t (by (conv => lhs; whnf)) (by rfl) (leafF fun h => ?_)
    subst h; contradiction
theorem c21 {x y : AV} {a b : List (List Int)} (hx : IsLL x a) (hy : IsLL y b) (ha : a.length < 100 ∧ ∀ l ∈ a, l.length < 100) {m : Nat} (hm : 203 ≤ m) (H : Heap) : callPure (evF tab it m) true 21 [x, y] H = some (.bool (decide (a = b)), H) :=
  callPure_free (by simp [idFreeL, hx.free, hy.free]) (by simp) (f21 hx hy ha m hm) rfl
attribute [local go_sem] gc subHeap reach_skip ren_free reach_new reach_newp reach_end rangeL roots boxCells nodupB posOf renL AV.ren pickO renH renO looks look bindEnv envOf reach_int reach_bool reach_nilS reach_rd putRow cells_sl cells_int cells_bool cells_nilS cells_rd cells_agg reach_agg reach_tup idFreeL idf_sl idf_ptr idf_int idf_bool idf_nilS idf_rd reach_fn reach_mp cells_fn cells_ptr cells_mp idf_mp idf_fn idf_agg idf_tup
set_option maxHeartbeats 1000000
theorem f19 {x : AV} {l : List Int} (hx : IsL x l) (m : Nat) (hm : 1 ≤ m) : evF tab it m 19 [x] [] = some (ownV 0 (iL (l.take 12)), owH (iL (l.take 12))) := by
  obtain ⟨m, rfl⟩ : ∃ j, m = j + 1 := ⟨m - 1, by omega⟩
  have fx := hx.free
  refine f_enter rfl rfl ?_
  repeat' first
 | (apply s_mov; exact aW)
 | (apply c_nil)
 | (apply s_pn; exact aO; exact p_slc0 (by assumption) (by omega))
 | (apply s_len; exact aW; exact aI)
 | (apply s_pd; exact aW)
 | (apply c_seq)
 | (apply c_reg)
 | (with_reducible apply k_c)
  generalize hk : (if (12 : Int) < ↑l.length then (12 : Int) else ↑l.length) = k
  have ht : l.take 12 = l.take k.toNat := by
    subst hk
    split
    · rfl
    · rw [Int.toNat_natCast, List.take_length, List.take_of_length_le (by omega)]
  have hkl : 0 ≤ k ∧ k ≤ l.length ∧ k ≤ 12 := by subst hk; split <;> omega
  rw [ht]
  rcases Int.lt_or_le 0 k with h | h
  · rw [tkL_rd hx ⟨h, hkl.2.1⟩]
    refine s_en (by exact aO) (e_app_nil rfl (by omega) (by unfold most; omega)) ?_
    repeat' first
 | (apply s_mov; exact aW)
 | (apply c_nil)
 | (apply c_ret)
 | (with_reducible apply k_c)
    have hll : (l.take k.toNat).length = k.toNat := by rw [List.length_take]; omega
    rcases hc : l.take k.toNat with _ | ⟨a, r⟩
    · rw [hc] at hll; simp at hll; omega
    · rw [hc] at hll
      simp only [List.length_cons] at hll
      simp [finish, ress, resOf, look, tupOf, iL, ownV, owH, ← hll, gc, subHeap, reach_new, reach_end, rangeL, roots, boxCells, nodupB, posOf, renL, AV.ren, pickO, renH, renO]
  · have : k = 0 := by omega
    subst this
    obtain ⟨g1, g2⟩ := tkL_len hx
    refine s_en (by exact aO) (e_app_none g1 g2) ?_
    repeat' first
 | (apply s_mov; exact aW)
 | (apply c_nil)
 | (apply c_ret)
 | (with_reducible apply k_c)
    refine fin_t (by (conv => lhs; whnf)) (by rfl) (by simp [iL, ownV, owH])
theorem c19 {x : AV} {l : List Int} (hx : IsL x l) {m : Nat} (hm : 1 ≤ m) (H : Heap) : callPure (evF tab it m) true 19 [x] H = some (fzL (l.take 12), H) := by
  refine callPure_frz (by simp [idFreeL, hx.free]) (by simp) (f19 hx m hm) (frz_own _)
def rws (a : List (List Int)) (i : Nat) : List AV := (a.take i).map fun r => fzL (r.take 12)
theorem rws_succ (a : List (List Int)) {i : Nat} (h : i < a.length) : rws a (i + 1) = rws a i ++ [fzL ((getLL a i).take 12)] := by
  simp only [rws, List.take_add_one, List.getElem?_eq_getElem h, Option.toList_some, List.map_append, List.map_cons, List.map_nil, getLL_nat, List.getD, Option.getD_some]
theorem own_gc (x : AV) (i : Nat) (l : List AV) (fx : x.idFree = true) : gc 0 [x, ownV 0 l, .int .i64 (i : Int)] (owH l) = some ([x, ownV 0 l, .int .i64 (i : Int)], owH l) := by
  cases l <;> simp [ownV, owH, go_sem, fx]
def b12 (a : List (List Int)) : List (List Int) := (a.take 12).map (·.take 12)
theorem f18 {x : AV} {a : List (List Int)} (hx : IsLL x a) (m : Nat) (hm : 103 ≤ m) : evF tab it m 18 [x] [] = some (ownV 0 (rws a 12), owH (rws a 12)) := by
  obtain ⟨m, rfl⟩ : ∃ j, m = j + 1 := ⟨m - 1, by omega⟩
  have fx := hx.free
  refine f_enter rfl rfl ?_
  have e19 := fun {i : Nat} (h1 : i < a.length) H => c19 (m := m) (hx.at (i := (i : Int)) ⟨by omega, by omega⟩) (by omega) H
  generalize evF tab it m = call at *
  repeat' first
 | (apply s_mov; exact aW)
 | (apply c_nil)
 | (apply c_seq)
 | (apply c_reg)
 | (apply c_block)
 | (with_reducible apply k_c)
  refine c_loop ?_
  refine loop_gc (σ := Nat) (fun i => [x, ownV 0 (rws a i), .int .i64 (i : Int)]) (fun i => owH (rws a i)) (fun i => i ≤ a.length ∧ i ≤ 12) (fun i => 12 - i) ?_ _ 0 _ _ ⟨by omega, by omega⟩ (by omega) (own_gc x 0 [] fx)
  intro i ⟨hi, hi'⟩ K hK
  have hlen : (rws a i).length ≤ 12 := by simp [rws]; omega
  have hs := fun h => @rws_succ a i h
  have hg := own_gc x (i + 1) (rws a (i + 1)) fx
  have hall : ¬ (i : Int) < a.length ∨ ¬ (i : Int) < 12 → rws a 12 = rws a i := fun h => by
    simp only [rws]
    congr 1
    rcases Nat.lt_or_ge i a.length with h' | h'
    · rw [show i = 12 by omega]
    · rw [List.take_of_length_le (by omega), List.take_of_length_le (by omega)]
  have hK1 := hK (i + 1)
  have hz := isL_fz ((getLL a i).take 12)
  by_cases hin : i < a.length ∧ i < 12
  · rw [hs hin.1] at hg hK1
    have e19' := e19 hin.1
    generalize fzL ((getLL a (i : Int)).take 12) = z at *
    generalize rws a i = rows at *
    rcases rows with _ | ⟨c, cs⟩
    · simp only [ownV, owH] at *
      repeat' first
 | (apply s_mov; exact aW)
 | (apply s_gT; exact rfl)
 | (apply c_nil)
 | (apply s_pickT; exact rfl; exact aW)
 | (apply s_lss; exact rfl; all_goals (intro _; try (exfalso; omega)))
 | (apply s_add; exact rfl; omega)
 | (apply s_cn; exact aO; exact e19' _)
 | (apply s_en; exact aO; exact e_bld1 hz.cellsV hz.solid hz.one hz.free)
 | (apply s_en; exact aO; exact e_app_nil rfl (by omega) (by decide))
 | (apply s_lenLL; exact aW; assumption)
 | (apply s_idxLL; exact aW; exact rfl; assumption; omega)
 | (apply s_ldLL; exact rfl; assumption; omega)
 | (apply c_seq)
 | (apply c_reg)
 | (apply c_block)
 | (apply c_skip)
 | (apply c_condT; exact rfl)
 | (with_reducible apply k_c)
      all_goals first | exact hK1 _ _ ⟨by omega, by omega⟩ (by omega) (by simp [ownV, owH, go_sem, fx]) | (exfalso; omega)
    · simp only [ownV, owH] at *
      repeat' first
 | (apply s_mov; exact aW)
 | (apply s_gT; exact rfl)
 | (apply c_nil)
 | (apply s_pickT; exact rfl; exact aW)
 | (apply s_lss; exact rfl; all_goals (intro _; try (exfalso; omega)))
 | (apply s_add; exact rfl; omega)
 | (apply s_cn; exact aO; exact e19' _)
 | (apply s_en; exact aO; exact e_bld1 hz.cellsV hz.solid hz.one hz.free)
 | (apply s_en; exact aO; exact e_app_sl rfl rfl (by omega) (by simp at hlen; unfold most; omega))
 | (apply s_lenLL; exact aW; assumption)
 | (apply s_idxLL; exact aW; exact rfl; assumption; omega)
 | (apply s_ldLL; exact rfl; assumption; omega)
 | (apply c_seq)
 | (apply c_reg)
 | (apply c_block)
 | (apply c_skip)
 | (apply c_condT; exact rfl)
 | (with_reducible apply k_c)
      all_goals first | exact hK1 _ _ ⟨by omega, by omega⟩ (by omega) (by simp [ownV, owH, go_sem, fx]) | (exfalso; omega)
  · rw [hall (by omega)]
    generalize rws a i = rows at *
    repeat' first
 | (apply s_mov; exact aW)
 | (apply s_gT; exact rfl)
 | (apply s_gF; exact rfl)
 | (apply c_nil)
 | (apply s_pickT; exact rfl; exact aW)
 | (apply s_pickF; exact rfl; exact aW)
 | (apply s_lss; exact rfl; all_goals (intro _; try (exfalso; omega)))
 | (apply s_lenLL; exact aW; assumption)
 | (apply c_seq)
 | (apply c_reg)
 | (apply c_exitH)
 | (apply c_condF; exact rfl)
 | (with_reducible apply k_c)
    all_goals first | (exfalso; omega) | skip
    all_goals apply c_pre (vs := [ownV 0 rows]) (H' := owH rows)
    all_goals first | (cases rows <;> simp [ownV, owH, go_sem, look, looks, bindEnv, envOf]; done) | skip
    repeat' first
 | (apply s_mov; exact aW)
 | (apply c_nil)
 | (apply c_seq)
 | (apply c_reg)
 | (apply c_ret)
 | (with_reducible apply k_c)
    all_goals (cases rows <;> simp [finish, ress, resOf, look, tupOf, ownV, owH, go_sem])
theorem c18 {x : AV} {a : List (List Int)} (hx : IsLL x a) {m : Nat} (hm : 103 ≤ m) (H : Heap) : callPure (evF tab it m) true 18 [x] H = some (fzLL (b12 a), H) := by
  refine callPure_frz (by simp [idFreeL, hx.free]) (by simp) (f18 hx m hm) ?_
  have e : rws a 12 = (b12 a).map fzL := by simp [rws, b12, Function.comp_def]
  rw [e]
  generalize b12 a = L
  rcases L with _ | ⟨c, cs⟩
  · simp [ownV, owH, frzV, fzLL]
  · simp [ownV, owH, frzV_sl, fzLL, Heap.data?, List.take_of_length_le]
set_option maxHeartbeats 1000000
def fi (Q : Int → Bool) : List Int → Nat → Int
  | [], _ => -1
  | x :: l, k => if Q x = true then k else fi Q l (k + 1)
theorem fi_pos (Q : Int → Bool) : ∀ (l : List Int) (k : Nat), 0 ≤ fi Q l k ↔ ∃ x ∈ l, Q x = true
  | [], k => by simp [fi]
  | x :: l, k => by
    have := fi_pos Q l (k + 1)
    simp only [fi]
    split
    · rename_i h; simp; exact .inl h
    · rename_i h; rw [this]; simp [h]
theorem drop_getI {F : List Int} {i : Nat} (h : i < F.length) : F.drop i = getI F i :: F.drop (i + 1) := by
  rw [getI_nat]
  simp [List.getD, h]
theorem f98 {x : AV} {F : List Int} {g : Nat} {Q : Int → Bool} (hx : IsL x F) (hl : F.length ≤ 1000) {m : Nat} (hm : 2000 ≤ m) (hg : ∀ v H, callPure (evF tab it m) true g [.int .i64 v] H = some (.bool (Q v), H)) :
    evF tab it (m + 1) 98 [x, .fn g []] [] = some (.int .i64 (fi Q F 0), []) := by
  have fx := hx.free
  generalize hR : fi Q F 0 = R
  refine f_enter rfl rfl ?_
  generalize evF tab it m = call at *
  repeat' first
 | (apply s_mov; exact aW)
 | (apply c_nil)
 | (apply s_len; exact aW; exact aI)
 | (apply c_seq)
 | (apply c_reg)
 | (apply c_block)
 | (with_reducible apply k_c)
  refine c_loop ?_
  refine loop_gc (σ := Nat) (fun i => [x, .fn g [], .int .i64 (F.length : Int), .int .i64 (i : Int)]) (fun _ => []) (fun i => i ≤ F.length ∧ fi Q (F.drop i) i = R) (fun i => F.length - i) ?_ _ 0 _ _ ⟨by omega, hR⟩ (by omega) (gc_to rfl (by simp [idFreeL, AV.idFree, fx]))
  intro i ⟨hi, hr⟩ K hK
  by_cases hiF : i < F.length
  · have ecv : evE call [] (.callv true true) [.fn g [], .int .i64 (getI F i)] = some (.bool (Q (getI F i)), []) := by
      simpa [evE] using hg (getI F i) []
    rw [drop_getI hiF] at hr
    simp only [fi] at hr
    cases hq : Q (getI F i) with
    | true =>
      rw [hq] at ecv
      rw [if_pos hq] at hr
      repeat' first
 | (apply s_mov; exact aW)
 | (apply c_nil)
 | (apply s_lss; exact rfl; all_goals (intro _; try (exfalso; omega)))
 | (apply s_en; exact aO; exact ecv)
 | (apply s_idx; exact aW; exact rfl; exact aI; omega)
 | (apply s_ldI; exact rfl; omega)
 | (apply c_seq)
 | (apply c_reg)
 | (apply c_block)
 | (apply c_skip)
 | (apply c_ret)
 | (apply c_condT; exact rfl)
 | (with_reducible apply k_c)
      all_goals exact fin_t (by (conv => lhs; whnf)) (by rfl) (by rw [hr])
    | false =>
      rw [hq] at ecv
      rw [if_neg (by rw [hq]; decide)] at hr
      repeat' first
 | (apply s_mov; exact aW)
 | (apply c_nil)
 | (apply s_lss; exact rfl; all_goals (intro _; try (exfalso; omega)))
 | (apply s_add; exact rfl; omega)
 | (apply s_en; exact aO; exact ecv)
 | (apply s_idx; exact aW; exact rfl; exact aI; omega)
 | (apply s_ldI; exact rfl; omega)
 | (apply c_seq)
 | (apply c_reg)
 | (apply c_block)
 | (apply c_skip)
 | (apply c_condT; exact rfl)
 | (apply c_condF; exact rfl)
 | (with_reducible apply k_c)
      all_goals exact hK (i + 1) _ _ ⟨by omega, hr⟩ (by omega) (gc_to rfl (by simp [idFreeL, AV.idFree, fx]))
  · obtain rfl : F.length = i := by omega
    rw [List.drop_length] at hr
    simp only [fi] at hr
    repeat' first
 | (apply s_mov; exact aW)
 | (apply c_nil)
 | (apply s_lss; exact rfl; all_goals (intro _; try (exfalso; omega)))
 | (apply c_seq)
 | (apply c_reg)
 | (apply c_exitH)
 | (apply c_ret)
 | (apply c_condF; exact rfl)
 | (apply c_preF; exact aK; exact aF)
 | (with_reducible apply k_c)
    exact fin_t (by (conv => lhs; whnf)) (by rfl) (by rw [← hr])
theorem f69 {x : AV} {F : List Int} {g : Nat} {Q : Int → Bool} (hx : IsL x F) (hl : F.length ≤ 1000) {m : Nat} (hm : 2000 ≤ m) (hg : ∀ v H, callPure (evF tab it m) true g [.int .i64 v] H = some (.bool (Q v), H)) :
    evF tab it (m + 2) 69 [x, .fn g []] [] = some (.bool (decide (∃ v ∈ F, Q v = true)), []) := by
  have e98 := fun H => callPure_free (H := H) (by simp [idFreeL, AV.idFree, hx.free]) (by simp) (f98 hx hl hm hg) rfl
  have hp := fi_pos Q F 0
  generalize fi Q F 0 = R at *
  refine f_enter rfl rfl ?_
  generalize evF tab it (m + 1) = call at *
  repeat' first
 | (apply s_mov; exact aW)
 | (apply c_nil)
 | (apply s_geq; exact rfl; all_goals (intro _; try (exfalso; omega)))
 | (apply s_cn; exact aO; exact e98 _)
 | (apply c_seq)
 | (apply c_reg)
 | (apply c_ret)
 | (with_reducible apply k_c)
  · exact fin_t (by (conv => lhs; whnf)) (by rfl) (leafT (hp.1 (by omega)))
  · exact fin_t (by (conv => lhs; whnf)) (by rfl) (leafF fun h => by have := hp.2 h; omega)
theorem f104 {m : Nat} (hm : 2 ≤ m) (v : Int) : evF tab it m 104 [.int .i64 v] [] = some (.bool (!decide (-1048576 ≤ v ∧ v ≤ 1048576)), []) := by
  obtain ⟨m, rfl⟩ : ∃ j, m = j + 1 := ⟨m - 1, by omega⟩
  refine f_enter rfl rfl ?_
  repeat' first
 | (apply s_mov; exact aW)
 | (apply c_nil)
 | (apply s_notT; exact rfl)
 | (apply s_notF; exact rfl)
 | (apply isE; refine s_cB (by exact aO) (c53 (by omega) _ _ _ _) (fun _ => ?_) (fun _ => ?_))
 | (apply c_seq)
 | (apply c_reg)
 | (apply c_ret)
 | (with_reducible apply k_c)
  · exact fin_t (by (conv => lhs; whnf)) (by rfl) (by rename_i h; simp [h])
  · exact fin_t (by (conv => lhs; whnf)) (by rfl) (by rename_i h; simp [h])
theorem c104 {m : Nat} (hm : 2 ≤ m) (v : Int) (H : Heap) : callPure (evF tab it m) true 104 [.int .i64 v] H = some (.bool (!decide (-1048576 ≤ v ∧ v ≤ 1048576)), H) := callPure_free rfl (by simp) (f104 hm v) rfl
set_option maxHeartbeats 1000000
def InR (n : Nat) (M : Int) (l : List Int) : Prop := l.length = n ∧ ∀ v ∈ l, -M ≤ v ∧ v ≤ M
instance (n : Nat) (M : Int) (l : List Int) : Decidable (InR n M l) := by unfold InR; infer_instance
theorem inR_of (n : Nat) (M : Int) (l : List Int) : (l.length = n ∧ ¬ ∃ v ∈ l, (!decide (-M ≤ v ∧ v ≤ M)) = true) ↔ InR n M l := by
  unfold InR
  simp only [Bool.not_eq_true', decide_eq_false_iff_not, not_exists, not_and]
  constructor
  · rintro ⟨a, b⟩
    exact ⟨a, fun v hv => Classical.byContradiction fun h => b v hv (fun h1 h2 => h ⟨h1, h2⟩)⟩
  · rintro ⟨a, b⟩
    exact ⟨a, fun v hv h1 => h1 (b v hv).1 (b v hv).2⟩
theorem f80 {x y : AV} {b : List (List Int)} {s : List Int} (hx : IsLL x b) (hy : IsL y s) (hl : s.length ≤ 1000) {m : Nat} (hm : 2010 ≤ m) : evF tab it m 80 [x, y] [] = some (.bool (decide (InR b.length 1048576 s)), []) := by
  obtain ⟨m, rfl⟩ : ∃ j, m = j + 3 := ⟨m - 3, by omega⟩
  have fx := hx.free; have fy := hy.free
  have e69 := fun H => callPure_free (H := H) (by simp [idFreeL, AV.idFree, fy]) (by simp) (f69 (g := 104) hy hl (m := m) (by omega) (fun v H => c104 (by omega) v H)) rfl
  have key := inR_of b.length 1048576 s
  refine f_enter rfl rfl ?_
  generalize evF tab it (m + 2) = call at *
  repeat' first
 | (apply s_mov; exact aW)
 | (apply s_gT; exact rfl)
 | (apply s_gF; exact rfl)
 | (apply s_gFD; exact rfl)
 | (apply c_nil)
 | (apply s_pickT; exact rfl; exact aW)
 | (apply s_pickF; exact rfl; exact aW)
 | (apply s_notT; exact rfl)
 | (apply s_notF; exact rfl)
 | (apply s_eql; exact rfl; all_goals (intro _; try (exfalso; omega)))
 | (apply isE; refine s_cB (by exact aO) (e69 _) (fun _ => ?_) (fun _ => ?_))
 | (apply s_len; exact aW; exact aI)
 | (apply s_lenLL; exact aW; assumption)
 | (apply c_seq)
 | (apply c_reg)
 | (apply c_ret)
 | (with_reducible apply k_c)
  all_goals first
    | (refine fin_t (by (conv => lhs; whnf)) (by rfl) (leafT (key.1 ⟨by omega, by assumption⟩)); done)
    | (refine fin_t (by (conv => lhs; whnf)) (by rfl) (leafF fun h => ?_); have := key.2 h; first | exact absurd this.1 (by omega) | exact this.2 (by assumption))
theorem c80 {x y : AV} {b : List (List Int)} {s : List Int} (hx : IsLL x b) (hy : IsL y s) (hl : s.length ≤ 1000) {m : Nat} (hm : 2010 ≤ m) (H : Heap) : callPure (evF tab it m) true 80 [x, y] H = some (.bool (decide (InR b.length 1048576 s)), H) :=
  callPure_free (by simp [idFreeL, hx.free, hy.free]) (by simp) (f80 hx hy hl hm) rfl
theorem f56 {x y : AV} {b : List (List Int)} {s : List Int} (hx : IsLL x b) (hy : IsL y s) (hl : s.length ≤ 1000) {M : Int} (hM : 0 ≤ M ∧ M ≤ 1099511627776) {m : Nat} (hm : 2010 ≤ m) : evF tab it m 56 [x, y, .int .i64 M] [] = some (.bool (decide (InR b.length M s)), []) := by
  obtain ⟨m, rfl⟩ : ∃ j, m = j + 1 := ⟨m - 1, by omega⟩
  have fx := hx.free; have fy := hy.free
  have hneg : ∀ H, evP H (.un .neg) [.int .i64 M] = some (.int .i64 (-M)) := fun H => by simp only [evP]; rw [wrapI (by omega)]; simp
  refine f_enter rfl rfl ?_
  generalize evF tab it m = call at *
  repeat' first
 | (apply s_mov; exact aW)
 | (apply c_nil)
 | (apply c_seq)
 | (apply c_reg)
 | (apply c_block)
 | (with_reducible apply k_c)
  refine c_loop ?_
  refine loop_gc (σ := Nat) (fun i => [x, y, .int .i64 M, .int .i64 (i : Int)]) (fun _ => []) (fun i => i ≤ s.length ∧ ∀ j : Nat, j < i → -M ≤ getI s j ∧ getI s j ≤ M) (fun i => s.length - i) ?_ _ 0 _ _ ⟨by omega, by omega⟩ (by omega) (gc_to rfl (by simp [idFreeL, AV.idFree, *]; done))
  intro i ⟨hi, hb⟩ K hK
  have hmem : i < s.length → getI s i ∈ s := fun h => by rw [getI_nat]; simp [List.getD, h]
  have hall : i = s.length → ∀ v ∈ s, -M ≤ v ∧ v ≤ M := fun h v hv => by
    obtain ⟨k, hk, e⟩ := List.getElem_of_mem hv
    have := hb k (by omega)
    rw [getI_nat] at this
    simpa [List.getD, hk, e] using this
  repeat' first
 | (apply s_mov; exact aW)
 | (apply s_gT; exact rfl)
 | (apply s_gF; exact rfl)
 | (apply c_nil)
 | (apply s_pickT; exact rfl; exact aW)
 | (apply s_pickF; exact rfl; exact aW)
 | (apply s_lss; exact rfl; all_goals (intro _; try (exfalso; omega)))
 | (apply s_gtr; exact rfl; all_goals (intro _; try (exfalso; omega)))
 | (apply s_eql; exact rfl; all_goals (intro _; try (exfalso; omega)))
 | (apply s_add; exact rfl; omega)
 | (apply s_pn; exact aO; exact hneg _)
 | (apply s_len; exact aW; exact aI)
 | (apply s_lenLL; exact aW; assumption)
 | (apply s_idx; exact aW; exact rfl; exact aI; omega)
 | (apply s_ldI; exact rfl; omega)
 | (apply c_seq)
 | (apply c_reg)
 | (apply c_block)
 | (apply c_exitH)
 | (apply c_skip)
 | (apply c_ret)
 | (apply c_condT; exact rfl)
 | (apply c_condF; exact rfl)
 | (apply c_preF; exact aK; exact aF)
 | (with_reducible apply k_c)
  all_goals first
    | (refine hK (i + 1) _ _ ⟨by omega, fun j hj => ?_⟩ (by omega) (gc_to rfl (by simp [idFreeL, AV.idFree, *]; done))
       rcases (by omega : j < i ∨ j = i) with h | rfl
       · exact hb j h
       · exact ⟨by omega, by omega⟩)
    | (refine fin_t (by (conv => lhs; whnf)) (by rfl) (leafT ⟨by omega, hall (by omega)⟩); done)
    | (refine fin_t (by (conv => lhs; whnf)) (by rfl) (leafF fun h => ?_); have := h.1; have h2 := h.2; first | omega | (have := h2 _ (hmem (by omega)); omega))
theorem c56 {x y : AV} {b : List (List Int)} {s : List Int} (hx : IsLL x b) (hy : IsL y s) (hl : s.length ≤ 1000) {M : Int} (hM : 0 ≤ M ∧ M ≤ 1099511627776) {m : Nat} (hm : 2010 ≤ m) (H : Heap) : callPure (evF tab it m) true 56 [x, y, .int .i64 M] H = some (.bool (decide (InR b.length M s)), H) :=
  callPure_free (by simp [idFreeL, AV.idFree, hx.free, hy.free]) (by simp) (f56 hx hy hl hM hm) rfl
theorem f24 {x y : AV} {b : List (List Int)} {s : List Int} (hx : IsLL x b) (hy : IsL y s) (hl : s.length ≤ 1000) {m : Nat} (hm : 2011 ≤ m) : evF tab it m 24 [x, y] [] = some (.bool (decide (InR b.length 1048576 s)), []) := by
  obtain ⟨m, rfl⟩ : ∃ j, m = j + 1 := ⟨m - 1, by omega⟩
  have e56 := fun H => c56 hx hy hl (M := 1048576) (by omega) (m := m) (by omega) H
  refine f_enter rfl rfl ?_
  generalize evF tab it m = call at *
  repeat' first
 | (apply s_mov; exact aW)
 | (apply c_nil)
 | (apply isE; refine s_cB (by exact aO) (e56 _) (fun _ => ?_) (fun _ => ?_))
 | (apply c_seq)
 | (apply c_reg)
 | (apply c_ret)
 | (with_reducible apply k_c)
  · exact fin_t (by (conv => lhs; whnf)) (by rfl) (leafT (by assumption))
  · exact fin_t (by (conv => lhs; whnf)) (by rfl) (leafF (by assumption))
theorem c24 {x y : AV} {b : List (List Int)} {s : List Int} (hx : IsLL x b) (hy : IsL y s) (hl : s.length ≤ 1000) {m : Nat} (hm : 2011 ≤ m) (H : Heap) : callPure (evF tab it m) true 24 [x, y] H = some (.bool (decide (InR b.length 1048576 s)), H) :=
  callPure_free (by simp [idFreeL, hx.free, hy.free]) (by simp) (f24 hx hy hl hm) rfl
set_option maxHeartbeats 1000000
def sumTo (f : Nat → Int) : Nat → Int
  | 0 => 0
  | k + 1 => sumTo f k + f k
theorem sumTo_le {f : Nat → Int} {M : Int} : ∀ {n : Nat}, (∀ j, j < n → -M ≤ f j ∧ f j ≤ M) → -(n * M) ≤ sumTo f n ∧ sumTo f n ≤ n * M
  | 0, _ => by simp [sumTo]
  | n + 1, h => by
    have a := sumTo_le (n := n) fun j hj => h j (by omega)
    have b := h n (by omega)
    have e : ((n + 1 : Nat) : Int) * M = n * M + M := by push_cast; rw [Int.add_mul, Int.one_mul]
    simp only [sumTo]
    rw [e]
    omega
theorem sumTo_congr {f g : Nat → Int} : ∀ {n : Nat}, (∀ j, j < n → f j = g j) → sumTo f n = sumTo g n
  | 0, _ => rfl
  | n + 1, h => by simp only [sumTo]; rw [sumTo_congr fun j hj => h j (by omega), h n (by omega)]
def sumI (l : List Int) : Int := sumTo (fun j => getI l (j : Int)) l.length
theorem f32 {x : AV} {l : List Int} (hx : IsL x l) (hl : l.length ≤ 1000) (hb : ∀ v ∈ l, -1099511627776 ≤ v ∧ v ≤ 1099511627776) {m : Nat} (hm : 1010 ≤ m) : evF tab it m 32 [x] [] = some (.int .i64 (sumI l), []) := by
  obtain ⟨m, rfl⟩ : ∃ j, m = j + 1 := ⟨m - 1, by omega⟩
  have fx := hx.free
  have hg : ∀ j : Nat, j < l.length → -1099511627776 ≤ getI l j ∧ getI l j ≤ 1099511627776 := fun j hj => hb _ (by rw [getI_nat]; simp [List.getD, hj])
  refine f_enter rfl rfl ?_
  generalize evF tab it m = call at *
  repeat' first
 | (apply s_mov; exact aW)
 | (apply c_nil)
 | (apply c_seq)
 | (apply c_reg)
 | (apply c_block)
 | (with_reducible apply k_c)
  refine c_loop ?_
  refine loop_gc (σ := Nat) (fun i => [x, .int .i64 (sumTo (fun j => getI l (j : Int)) i), .int .i64 (i : Int)]) (fun _ => []) (fun i => i ≤ l.length) (fun i => l.length - i) ?_ _ 0 _ _ (by omega) (by omega) (gc_to rfl (by simp [idFreeL, AV.idFree, *]; done))
  intro i hi K hK
  have hbd := sumTo_le (f := fun j => getI l (j : Int)) (M := 1099511627776) (n := i) fun j hj => hg j (by omega)
  by_cases hil : i < l.length
  · have hgi := hg i hil
    repeat' first
 | (apply s_mov; exact aW)
 | (apply c_nil)
 | (apply s_lss; exact rfl; all_goals (intro _; try (exfalso; omega)))
 | (apply s_add; exact rfl; omega)
 | (apply s_len; exact aW; exact aI)
 | (apply s_idx; exact aW; exact rfl; exact aI; omega)
 | (apply s_ldI; exact rfl; omega)
 | (apply c_seq)
 | (apply c_reg)
 | (apply c_block)
 | (apply c_skip)
 | (apply c_condT; exact rfl)
 | (with_reducible apply k_c)
    all_goals exact hK (i + 1) _ _ (by omega) (by omega) (gc_to rfl (by simp [idFreeL, AV.idFree, *]; done))
  · obtain rfl : i = l.length := by omega
    repeat' first
 | (apply s_mov; exact aW)
 | (apply c_nil)
 | (apply s_lss; exact rfl; all_goals (intro _; try (exfalso; omega)))
 | (apply s_len; exact aW; exact aI)
 | (apply c_seq)
 | (apply c_reg)
 | (apply c_exitH)
 | (apply c_ret)
 | (apply c_condF; exact rfl)
 | (apply c_preF; exact aK; exact aF)
 | (with_reducible apply k_c)
    exact fin_t (v := .int .i64 (sumI l)) (by rfl) (by rfl) rfl
theorem c32 {x : AV} {l : List Int} (hx : IsL x l) (hl : l.length ≤ 1000) (hb : ∀ v ∈ l, -1099511627776 ≤ v ∧ v ≤ 1099511627776) {m : Nat} (hm : 1010 ≤ m) (H : Heap) : callPure (evF tab it m) true 32 [x] H = some (.int .i64 (sumI l), H) :=
  callPure_free (by simp [idFreeL, hx.free]) (by simp) (f32 hx hl hb hm) rfl
theorem c35 {x : AV} {b : List (List Int)} (hx : IsLL x b) {i : Nat} (hi : i < b.length) (hl : (getLL b i).length ≤ 1000) (hb : ∀ v ∈ getLL b i, -1099511627776 ≤ v ∧ v ≤ 1099511627776) {m : Nat} (hm : 1020 ≤ m) (H : Heap) : callPure (evF tab it m) true 35 [x, .int .i64 (i : Int)] H = some (.int .i64 (sumI (getLL b i)), H) := by
  have f35 : evF tab it m 35 [x, .int .i64 (i : Int)] [] = some (.int .i64 (sumI (getLL b i)), []) := by
    obtain ⟨m, rfl⟩ : ∃ j, m = j + 1 := ⟨m - 1, by omega⟩
    have e32 := fun H => c32 (m := m) (hx.at (i := (i : Int)) ⟨by omega, by omega⟩) hl hb (by omega) H
    refine f_enter rfl rfl ?_
    generalize evF tab it m = call at *
    repeat' first
 | (apply s_mov; exact aW)
 | (apply c_nil)
 | (apply s_cn; exact aO; exact e32 _)
 | (apply s_idxLL; exact aW; exact rfl; assumption; omega)
 | (apply s_ldLL; exact rfl; assumption; omega)
 | (apply c_seq)
 | (apply c_reg)
 | (apply c_ret)
 | (with_reducible apply k_c)
    exact fin_t (by (conv => lhs; whnf)) (by rfl) rfl
  exact callPure_free (by simp [idFreeL, AV.idFree, hx.free]) (by simp) f35 rfl
set_option maxHeartbeats 2000000
theorem p_ixO {H : Heap} {id n i : Nat} (hi : i < n) : evP H (.idxA 1) [.sl id 1 0 n, .int .i64 (i : Int)] = some (.ptr id i) := by
  simp [evP, idxSl, hi]
theorem p_ldO {H : Heap} {id : Nat} {l : List Int} {i : Nat} (h : H.data? id = some (iL l)) (hi : i < l.length) : evP H (.ld false 1) [.ptr id i] = some (.int .i64 (getI l (i : Int))) := by
  have : H.cells? id = some (iL l) := cells_of_data h
  have hl := iL_len l
  have e : ((iL l).drop i).take 1 = [.int .i64 (getI l (i : Int))] := by
    rw [List.drop_eq_getElem_cons (by omega), getI_nat]
    simp [iL, List.getD, hi]
  have hg : getRow H id i 1 = some [.int .i64 (getI l (i : Int))] := by
    unfold getRow
    rw [this, Option.bind_some, if_pos (by omega), e]
  simp [evP, ldc, hg, wholeOf]
theorem e_stO {call : CallF} {H : Heap} {id : Nat} {l : List Int} {i : Nat} {v : Int} (h : H.data? id = some (iL l)) (hi : i < l.length) : evE call H (.st 1) [.ptr id i, .int .i64 v] = some (.undef, H.set id (some (.data (iL (l.set i v))))) := by
  have := e_stI (call := call) (v := v) (i := (i : Int)) h (by simpa using hi)
  simpa using this
theorem getI_set {l : List Int} {i j : Nat} {v : Int} (hi : i < l.length) : getI (l.set i v) (j : Int) = if j = i then v else getI l (j : Int) := by
  rw [getI_nat, getI_nat]
  by_cases h : j = i
  · subst h; simp [List.getD, hi]
  · rw [if_neg h]; simp [List.getD, List.getElem?_set_ne (Ne.symm h)]
def wt (b : List (List Int)) (t : List Int) (v k : Nat) : Int := getI t (v : Int) * getI (getLL b (v : Int)) (k : Int)
theorem mul3 {a c T : Int} (ha : -T ≤ a ∧ a ≤ T) (hc : 0 ≤ c ∧ c ≤ 3) (hT : 0 ≤ T) : -(3 * T) ≤ a * c ∧ a * c ≤ 3 * T := by
  rcases (by omega : c = 0 ∨ c = 1 ∨ c = 2 ∨ c = 3) with rfl | rfl | rfl | rfl <;> omega
def mid (b : List (List Int)) (s t : List Int) (v k i : Nat) : Int :=
  getI s (i : Int) - (if i < v then sumTo (wt b t i) b.length else if i = v then sumTo (wt b t v) k else 0) + sumTo (fun j => wt b t j i) v + (if i < k then wt b t v i else 0)
theorem mid_zero (b : List (List Int)) (s t : List Int) (i : Nat) : mid b s t 0 0 i = getI s (i : Int) := by
  unfold mid
  by_cases h : i = 0 <;> simp [h, sumTo]
theorem mid_next (b : List (List Int)) (s t : List Int) (v i : Nat) (hi : i < b.length) : mid b s t v b.length i = mid b s t (v + 1) 0 i := by
  unfold mid
  rw [if_pos hi, if_neg (Nat.not_lt_zero i)]
  simp only [sumTo]
  by_cases h1 : i < v
  · rw [if_pos h1, if_pos (by omega)]; omega
  · by_cases h2 : i = v
    · subst h2; rw [if_neg h1, if_pos rfl, if_pos (by omega)]; omega
    · rw [if_neg h1, if_neg h2, if_neg (by omega)]
      by_cases h3 : i = v + 1
      · subst h3; simp [sumTo]; omega
      · rw [if_neg h3]; omega
theorem mid_step (b : List (List Int)) (s t : List Int) (v k i : Nat) : mid b s t v (k + 1) i = mid b s t v k i - (if i = v then wt b t v k else 0) + (if i = k then wt b t v k else 0) := by
  unfold mid
  by_cases h1 : i = v
  · subst h1
    simp only [if_neg (Nat.lt_irrefl i), if_true, sumTo]
    by_cases h2 : i = k
    · subst h2; first | (simp; done) | (simp; omega)
    · by_cases h3 : i < k
      · rw [if_pos h3, if_pos (show i < k + 1 by omega), if_neg h2]; omega
      · rw [if_neg h3, if_neg (show ¬ i < k + 1 by omega), if_neg h2]; omega
  · simp only [if_neg h1]
    by_cases h2 : i = k
    · subst h2; first | (simp; done) | (simp; omega)
    · by_cases h3 : i < k
      · rw [if_pos h3, if_pos (show i < k + 1 by omega), if_neg h2]; omega
      · rw [if_neg h3, if_neg (show ¬ i < k + 1 by omega), if_neg h2]; omega
structure Bd (b : List (List Int)) : Prop where
  len : b.length ≤ 12
  row : ∀ v : Nat, v < b.length → (getLL b (v : Int)).length = b.length
  val : ∀ v k : Nat, v < b.length → k < b.length → 0 ≤ getI (getLL b (v : Int)) (k : Int) ∧ getI (getLL b (v : Int)) (k : Int) ≤ 3
theorem wt_le {b : List (List Int)} {t : List Int} (hb : Bd b) (ht : ∀ v : Nat, v < b.length → -4503599627370496 ≤ getI t (v : Int) ∧ getI t (v : Int) ≤ 4503599627370496) {v k : Nat} (hv : v < b.length) (hk : k < b.length) : -13510798882111488 ≤ wt b t v k ∧ wt b t v k ≤ 13510798882111488 :=
  mul3 (ht v hv) (hb.val v k hv hk) (by omega)
theorem mid_le {b : List (List Int)} {s t : List Int} (hb : Bd b) (ht : ∀ v : Nat, v < b.length → -4503599627370496 ≤ getI t (v : Int) ∧ getI t (v : Int) ≤ 4503599627370496) (hs : ∀ v : Nat, v < b.length → -288230376151711744 ≤ getI s (v : Int) ∧ getI s (v : Int) ≤ 288230376151711744)
    {v k i : Nat} (hv : v < b.length) (hk : k ≤ b.length) (hi : i < b.length) : -1152921504606846976 ≤ mid b s t v k i ∧ mid b s t v k i ≤ 1152921504606846976 := by
  have hl := hb.len
  have a := hs i hi
  have b1 := sumTo_le (f := wt b t i) (M := 13510798882111488) (n := b.length) fun j hj => wt_le hb ht hi hj
  have b2 := sumTo_le (f := wt b t v) (M := 13510798882111488) (n := k) fun j hj => wt_le hb ht hv (by omega)
  have b3 := sumTo_le (f := fun j => wt b t j i) (M := 13510798882111488) (n := v) fun j hj => wt_le hb ht (by omega) hi
  have b4 := wt_le hb ht hv hi
  unfold mid
  generalize sumTo (wt b t i) b.length = A at *
  generalize sumTo (wt b t v) k = B at *
  generalize sumTo (fun j => wt b t j i) v = C at *
  generalize wt b t v i = D at *
  have e1 : (b.length : Int) * 13510798882111488 ≤ 12 * 13510798882111488 := by omega
  have e2 : (k : Int) * 13510798882111488 ≤ 12 * 13510798882111488 := by omega
  have e3 : (v : Int) * 13510798882111488 ≤ 12 * 13510798882111488 := by omega
  (repeat' split) <;> omega
set_option maxHeartbeats 4000000
def apl (b : List (List Int)) (s t : List Int) : List Int := (List.range b.length).map fun i => mid b s t b.length 0 i
theorem e_cpyO {call : CallF} {H : Heap} {n : Nat} {y : AV} {s : List Int} (hy : IsL y s) (hs : s.length = n) (hH : H.data? 0 = some (iL (List.replicate n 0))) : evE call H (.cpy 1) [.sl 0 1 0 n, y] = some (.int .i64 (n : Int), H.set 0 (some (.data (iL s)))) := by
  subst hs
  have h1 := data?_iff.1 hH
  have hl : (iL (List.replicate s.length 0)).length = s.length := by rw [iL_len]; simp
  have hl2 := iL_len s
  cases hy with
  | nil => simp [evE, szOk, lenOf, rowOf, h1, iL, putRow]
  | rd l =>
    simp [evE, szOk, lenOf, rowOf, h1, hl, hl2, putRow, List.take_of_length_le, List.drop_of_length_le]
theorem p_lenI {H : Heap} {x : AV} {l : List Int} (h : IsL x l) : evP H .len [x] = some (.int .i64 ((l.length : Nat) : Int)) := by cases h <;> rfl
theorem f55 {x y z : AV} {b : List (List Int)} {s t : List Int} (hx : IsLL x b) (hy : IsL y s) (hz : IsL z t) (hb : Bd b) (hsn : s.length = b.length) (htn : t.length = b.length)
    (ht : ∀ v : Nat, v < b.length → -4503599627370496 ≤ getI t (v : Int) ∧ getI t (v : Int) ≤ 4503599627370496) (hs : ∀ v : Nat, v < b.length → -288230376151711744 ≤ getI s (v : Int) ∧ getI s (v : Int) ≤ 288230376151711744)
    {m : Nat} (hm : 100 ≤ m) : evF tab it m 55 [x, y, z] [] = some (.sl 0 1 0 b.length, [some (.data (iL (apl b s t)))]) := by
  obtain ⟨m, rfl⟩ : ∃ j, m = j + 1 := ⟨m - 1, by omega⟩
  have fx := hx.free; have fy := hy.free; have fz := hz.free
  have hl12 := hb.len
  have mk := fun call H => @e_mkI call H s.length (by unfold most; omega)
  have cp := fun call => e_cpyO (call := call) (H := [some (.data (iL (List.replicate s.length 0)))]) hy rfl rfl
  rw [hsn] at mk cp
  refine f_enter rfl rfl ?_
  generalize evF tab it m = call at *
  have gcO : ∀ (v : Nat) (C : List AV), gc 0 [x, .sl 0 1 0 b.length, z, .int .i64 ((b.length : Nat) : Int), .int .i64 (v : Int)] [some (.data C)] = some ([x, .sl 0 1 0 b.length, z, .int .i64 ((b.length : Nat) : Int), .int .i64 (v : Int)], [some (.data C)]) := fun v C => by simp [go_sem, fx, fz]
  have gcM : ∀ (v : Nat) (C : List AV), gc 0 [x, .sl 0 1 0 b.length, z, .int .i64 ((b.length : Nat) : Int), .int .i64 (v : Int)] [some (.data C)] = some ([x, .sl 0 1 0 b.length, z, .int .i64 ((b.length : Nat) : Int), .int .i64 (v : Int)], [some (.data C)]) := gcO
  have lz : ∀ H, evP H .len [z] = some (.int .i64 ((b.length : Nat) : Int)) := fun H => by rw [← htn]; exact p_lenI hz
  have ly : ∀ H, evP H .len [y] = some (.int .i64 ((b.length : Nat) : Int)) := fun H => by rw [← hsn]; exact p_lenI hy
  repeat' first
 | (apply s_mov; exact aW)
 | (apply c_nil)
 | (apply s_pn; exact aO; exact ly _)
 | (apply s_pn; exact aO; exact lz _)
 | (apply s_en; exact aO; exact mk _ _)
 | (apply s_en; exact aO; exact cp _)
 | (apply c_seq)
 | (apply c_reg)
 | (apply c_block)
 | (with_reducible apply k_c)
  refine c_loop ?_
  refine loop_gc (σ := Nat × List Int) (fun q => [x, .sl 0 1 0 b.length, z, .int .i64 ((b.length : Nat) : Int), .int .i64 (q.1 : Int)]) (fun q => [some (.data (iL q.2))]) (fun q => q.1 ≤ b.length ∧ q.2.length = b.length ∧ ∀ i : Nat, i < b.length → getI q.2 (i : Int) = mid b s t q.1 0 i) (fun q => b.length - q.1) ?_ _ (0, s) _ _ ⟨by omega, hsn, fun i _ => (mid_zero b s t i).symm⟩ (by show b.length - 0 < _; omega) (gcO 0 _)
  intro ⟨v, out⟩ ⟨hv, hol, hout⟩ K hK
  dsimp only at hv hol hout hK ⊢
  by_cases hvn : v < b.length
  · have hrow := hx.at (i := (v : Int)) ⟨by omega, by omega⟩
    have hrl := hb.row v hvn
    have lr : ∀ H, evP H .len [llAt x (v : Int)] = some (.int .i64 ((b.length : Nat) : Int)) := fun H => by rw [← hrl]; exact p_lenI hrow
    have fr := hrow.free
    repeat' first
 | (apply s_mov; exact aW)
 | (apply c_nil)
 | (apply s_lss; exact rfl; all_goals (intro _; try (exfalso; omega)))
 | (apply s_pn; exact aO; exact lr _)
 | (apply s_idx; exact aW; exact rfl; exact aI; omega)
 | (apply s_idxLL; exact aW; exact rfl; assumption; omega)
 | (apply s_ldI; exact rfl; omega)
 | (apply s_ldLL; exact rfl; assumption; omega)
 | (apply c_seq)
 | (apply c_reg)
 | (apply c_block)
 | (apply c_skip)
 | (apply c_condT; exact rfl)
 | (with_reducible apply k_c)
    have gcI : ∀ (k : Nat) (C : List AV), gc 0 [x, .sl 0 1 0 b.length, .int .i64 (v : Int), .int .i64 (getI t (v : Int)), z, .int .i64 ((b.length : Nat) : Int), .int .i64 (v : Int), llAt x (v : Int), .int .i64 ((b.length : Nat) : Int), .int .i64 (k : Int)] [some (.data C)] = some ([x, .sl 0 1 0 b.length, .int .i64 (v : Int), .int .i64 (getI t (v : Int)), z, .int .i64 ((b.length : Nat) : Int), .int .i64 (v : Int), llAt x (v : Int), .int .i64 ((b.length : Nat) : Int), .int .i64 (k : Int)], [some (.data C)]) := fun k C => by simp [go_sem, fx, fz, fr]
    refine c_loop ?_
    refine loop_gc (σ := Nat × List Int) (fun q => [x, .sl 0 1 0 b.length, .int .i64 (v : Int), .int .i64 (getI t (v : Int)), z, .int .i64 ((b.length : Nat) : Int), .int .i64 (v : Int), llAt x (v : Int), .int .i64 ((b.length : Nat) : Int), .int .i64 (q.1 : Int)]) (fun q => [some (.data (iL q.2))]) (fun q => q.1 ≤ b.length ∧ q.2.length = b.length ∧ ∀ i : Nat, i < b.length → getI q.2 (i : Int) = mid b s t v q.1 i) (fun q => b.length - q.1) ?_ _ (0, out) _ _ ⟨by omega, hol, hout⟩ (by show b.length - 0 < _; omega) (gcI 0 _)
    intro ⟨k, o⟩ ⟨hk, hol2, hout2⟩ K2 hK2
    dsimp only at hk hol2 hout2 hK2 ⊢
    by_cases hkn : k < b.length
    · have hwl := wt_le hb ht hvn hkn
      have hbv := hout2 v hvn
      have hm1 := mid_le hb ht hs hvn hk hvn
      have hm2 := mid_le hb ht hs hvn hk hkn
      have hbk := hout2 k hkn
      have hl1 := fun H h => p_ldO (H := H) (id := 0) (l := o) (i := v) h (by omega)
      have hs1 := fun (vv : Int) call H h => e_stO (call := call) (H := H) (id := 0) (l := o) (i := v) (v := vv) h (by omega)
      have hl2 := fun (vv : Int) H h => p_ldO (H := H) (id := 0) (l := o.set v vv) (i := k) h (by simp; omega)
      have hs2 := fun (vv v2 : Int) call H h => e_stO (call := call) (H := H) (id := 0) (l := o.set v vv) (i := k) (v := v2) h (by simp; omega)
      have hg2 := fun (vv : Int) => getI_set (l := o) (i := v) (j := k) (v := vv) (by omega)
      have hstep : ∀ i : Nat, i < b.length → getI ((o.set v (getI o (v : Int) - wt b t v k)).set k (getI (o.set v (getI o (v : Int) - wt b t v k)) (k : Int) + wt b t v k)) (i : Int) = mid b s t v (k + 1) i := fun i hi => by
        rw [getI_set (by simp; omega), mid_step, hg2]
        by_cases h1 : i = k
        · subst h1
          rw [if_pos rfl, if_pos rfl, hbk]
          by_cases h2 : i = v
          · subst h2; rw [if_pos rfl, if_pos rfl]; have := hbv; omega
          · rw [if_neg h2, if_neg h2]; omega
        · rw [if_neg h1, if_neg h1, getI_set (by omega)]
          by_cases h2 : i = v
          · subst h2; rw [if_pos rfl, if_pos rfl, hbv]; omega
          · rw [if_neg h2, if_neg h2, hout2 i hi]; omega
      have hgk : -2305843009213693952 ≤ getI (o.set v (getI o (v : Int) - wt b t v k)) (k : Int) ∧ getI (o.set v (getI o (v : Int) - wt b t v k)) (k : Int) ≤ 2305843009213693952 := by
        rw [hg2]; split <;> omega
      have hwe : getI t (v : Int) * getI (getLL b (v : Int)) (k : Int) = wt b t v k := rfl
      have hmul : ∀ H, evP H (.bin .mul) [.int .i64 (getI t (v : Int)), .int .i64 (getI (getLL b (v : Int)) (k : Int))] = some (.int .i64 (wt b t v k)) := fun H => by
        rw [← hwe] at hwl ⊢
        simp only [evP, binV, isShift, binInt]
        rw [show IntKind.i64.wrap (getI t (v : Int) * getI (getLL b (v : Int)) (k : Int)) = getI t (v : Int) * getI (getLL b (v : Int)) (k : Int) from wrapI (by omega)]
        rfl
      generalize wt b t v k = w at *
      repeat' first
 | (apply s_mov; exact aW)
 | (apply c_nil)
 | (apply s_lss; exact rfl; all_goals (intro _; try (exfalso; omega)))
 | (apply s_add; exact rfl; omega)
 | (apply s_sub; exact rfl; omega)
 | (apply s_pn; exact aO; exact p_ixO hvn)
 | (apply s_pn; exact aO; exact p_ixO hkn)
 | (apply s_pn; exact aO; exact hmul _)
 | (apply s_pn; exact aO; exact hl1 _ rfl)
 | (apply s_pn; exact aO; exact hl2 _ _ rfl)
 | (apply s_st; exact aO; exact hs1 _ _ _ rfl)
 | (apply s_st; exact aO; exact hs2 _ _ _ _ rfl)
 | (apply s_idx; exact aW; exact rfl; exact aI; omega)
 | (apply s_ldI; exact rfl; omega)
 | (apply c_seq)
 | (apply c_reg)
 | (apply c_block)
 | (apply c_skip)
 | (apply c_condT; exact rfl)
 | (with_reducible apply k_c)
      exact hK2 (k + 1, _) _ _ ⟨by omega, by simp [hol2], hstep⟩ (by show b.length - (k + 1) < _; omega) (gcI (k + 1) _)
    · obtain rfl : k = b.length := by omega
      repeat' first
 | (apply c_nil)
 | (apply s_lss; exact rfl; all_goals (intro _; try (exfalso; omega)))
 | (apply c_seq)
 | (apply c_reg)
 | (apply c_exitH)
 | (apply c_condF; exact rfl)
 | (with_reducible apply k_c)
      apply c_pre
      · exact gcO v _
      repeat' first
 | (apply s_mov; exact aW)
 | (apply c_nil)
 | (apply s_add; exact rfl; omega)
 | (apply c_reg)
      exact hK (v + 1, o) _ _ ⟨by omega, hol2, fun i hi => (hout2 i hi).trans (mid_next b s t v i hi)⟩ (by show b.length - (v + 1) < _; omega) (gcO (v + 1) _)
  · obtain rfl : v = b.length := by omega
    have he : out = apl b s t := by
      refine List.ext_getElem (by simp [apl, hol]) fun j h1 h2 => ?_
      have := hout j (by omega)
      rw [getI_nat] at this
      simpa [apl, List.getD, h1] using this
    subst he
    repeat' first
 | (apply c_nil)
 | (apply s_lss; exact rfl; all_goals (intro _; try (exfalso; omega)))
 | (apply c_seq)
 | (apply c_reg)
 | (apply c_exitH)
 | (apply c_condF; exact rfl)
 | (with_reducible apply k_c)
    apply c_pre (vs := [.sl 0 1 0 b.length]) (H' := [some (.data (iL (apl b s t)))])
    · simp [go_sem]
    repeat' first
 | (apply s_mov; exact aW)
 | (apply c_nil)
 | (apply c_seq)
 | (apply c_reg)
 | (apply c_ret)
 | (with_reducible apply k_c)
    simp [finish, ress, resOf, look, tupOf, go_sem]
end Go.AM.Ch
