/- A part of the proof: U1 U3 U4 U5 U6 U7 U8 U9 U10 U11. -/
import Derived.Test.YtmegimhfoedcdaaPc
import Derived.Test.YtmegimhfoedcdaaM3
set_option linter.unusedVariables false
set_option linter.unusedSimpArgs false
set_option linter.unusedSectionVars false
namespace Go.AM.Ch
set_option maxHeartbeats 1000000
theorem f53 (a lo hi : Int) (m : Nat) (hm : 1 ≤ m) : evF tab it m 53 [.int .i64 a, .int .i64 lo, .int .i64 hi] [] = some (.bool (decide (lo ≤ a ∧ a ≤ hi)), []) := by
  obtain ⟨m, rfl⟩ : ∃ j, m = j + 1 := ⟨m - 1, by omega⟩
  refine f_enter rfl rfl ?_
  repeat' first
 | (apply s_mov; exact aW)
 | (apply s_gT; exact rfl)
 | (apply s_gF; exact rfl)
 | (apply c_nil)
 | (apply s_pickT; exact rfl; exact aW)
 | (apply s_pickF; exact rfl; exact aW)
 | (apply s_leq; exact rfl; all_goals (intro _; try (exfalso; omega)))
 | (apply s_geq; exact rfl; all_goals (intro _; try (exfalso; omega)))
 | (apply c_seq)
 | (apply c_reg)
 | (apply c_ret)
 | (with_reducible apply k_c)
  all_goals refine fin_t (by (conv => lhs; whnf)) (by rfl) ?_
  all_goals first | exact leafT (by omega) | exact leafF (by omega)
theorem c53 {m : Nat} (hm : 1 ≤ m) (a lo hi : Int) (H : Heap) : callPure (evF tab it m) true 53 [.int .i64 a, .int .i64 lo, .int .i64 hi] H = some (.bool (decide (lo ≤ a ∧ a ≤ hi)), H) :=
  callPure_free rfl (by simp) (f53 a lo hi m hm) rfl
theorem f22 {x y : AV} {a b : List Int} (hx : IsL x a) (hy : IsL y b) (ha : a.length < 100) (m : Nat) (hm : 102 ≤ m) : evF tab it m 22 [x, y] [] = some (.bool (decide (a = b)), []) := by
  obtain ⟨m, rfl⟩ : ∃ j, m = j + 1 := ⟨m - 1, by omega⟩
  have fx := hx.free; have fy := hy.free
  refine f_enter rfl rfl ?_
  repeat' first
 | (apply s_mov; exact aW)
 | (apply c_nil)
 | (apply s_neq; exact rfl; all_goals (intro _; try (exfalso; omega)))
 | (apply s_len; exact aW; exact aI)
 | (apply c_seq)
 | (apply c_reg)
 | (apply c_block)
 | (apply c_skip)
 | (apply c_ret)
 | (apply c_condT; exact rfl)
 | (apply c_condF; exact rfl)
 | (with_reducible apply k_c)
  · refine c_loop ?_
    refine loop_gc (σ := Nat) (fun i => [x, y, .int .i64 i]) (fun _ => []) (fun i => i ≤ a.length ∧ ∀ j, j < i → getI a j = getI b j) (fun i => a.length - i) ?_ _ 0 _ _ ⟨by omega, by omega⟩ (by omega) (gc_to rfl (by simp [idFreeL, AV.idFree, *]; done))
    intro i ⟨hi, hb⟩ K hK
    repeat' first
 | (apply s_mov; exact aW)
 | (apply c_nil)
 | (apply s_lss; exact rfl; all_goals (intro _; try (exfalso; omega)))
 | (apply s_neq; exact rfl; all_goals (intro _; try (exfalso; omega)))
 | (apply s_add; exact rfl; omega)
 | (apply s_len; exact aW; exact aI)
 | (apply s_idx; exact aW; exact rfl; exact aI; omega)
 | (apply s_ldI; exact rfl; omega)
 | (apply c_seq)
 | (apply c_reg)
 | (apply c_block)
 | (apply c_exitH)
 | (apply c_skip)
 | (apply c_ret)
 | (apply c_condT; exact rfl)
 | (apply c_condF; exact rfl)
 | (apply c_preF; exact aK; exact aF)
 | (with_reducible apply k_c)
    all_goals first
      | (refine hK (i + 1) _ _ ⟨by omega, fun j hj => ?_⟩ (by omega) (gc_to rfl (by simp [idFreeL, AV.idFree, *]; done))
         rcases (by omega : j < i ∨ j = i) with h | rfl
         · exact hb j h
         · assumption)
      | (refine fin_t (by (conv => lhs; whnf)) (by rfl) (leafT ?_)
         refine List.ext_getElem (by omega) fun j h1 h2 => ?_
         have := hb j (by omega)
         simpa [getI, h1, h2] using this)
      | (refine fin_t (by (conv => lhs; whnf)) (by rfl) (leafF fun h => ?_); subst h; contradiction)
  · refine fin_t (by (conv => lhs; whnf)) (by rfl) (leafF fun h => ?_)
    subst h; contradiction
attribute [local go_sem] gc subHeap reach_skip ren_free reach_new reach_newp reach_end rangeL roots boxCells nodupB posOf renL AV.ren pickO renH renO looks look bindEnv envOf reach_int reach_bool reach_nilS reach_rd putRow cells_sl cells_int cells_bool cells_nilS cells_rd cells_agg reach_agg reach_tup idFreeL idf_sl idf_ptr idf_int idf_bool idf_nilS idf_rd reach_fn reach_mp cells_fn cells_ptr cells_mp idf_mp idf_fn idf_agg idf_tup
set_option maxHeartbeats 1000000
theorem own_gc (x : AV) (i : Nat) (l : List AV) (fx : x.idFree = true) : gc 0 [x, ownV 0 l, .int .i64 (i : Int)] (owH l) = some ([x, ownV 0 l, .int .i64 (i : Int)], owH l) := by
  cases l <;> simp [ownV, owH, go_sem, fx]
set_option maxHeartbeats 1000000
def fi (Q : Int → Bool) : List Int → Nat → Int
  | [], _ => -1
  | x :: l, k => if Q x = true then k else fi Q l (k + 1)
theorem fi_pos (Q : Int → Bool) : ∀ (l : List Int) (k : Nat), 0 ≤ fi Q l k ↔ ∃ x ∈ l, Q x = true
  | [], k => by simp [fi]
  | x :: l, k => by
    have := fi_pos Q l (k + 1)
    simp only [fi]
    split
    · rename_i h; simp; exact .inl h
    · rename_i h; rw [this]; simp [h]
theorem drop_getI {F : List Int} {i : Nat} (h : i < F.length) : F.drop i = getI F i :: F.drop (i + 1) := by
  rw [getI_nat]
  simp [List.getD, h]
theorem f98 {x : AV} {F : List Int} {g : Nat} {Q : Int → Bool} (hx : IsL x F) (hl : F.length ≤ 1000) {m : Nat} (hm : 2000 ≤ m) (hg : ∀ v H, callPure (evF tab it m) true g [.int .i64 v] H = some (.bool (Q v), H)) :
    evF tab it (m + 1) 98 [x, .fn g []] [] = some (.int .i64 (fi Q F 0), []) := by
  have fx := hx.free
  generalize hR : fi Q F 0 = R
  refine f_enter rfl rfl ?_
  generalize evF tab it m = call at *
  repeat' first
 | (apply s_mov; exact aW)
 | (apply c_nil)
 | (apply s_len; exact aW; exact aI)
 | (apply c_seq)
 | (apply c_reg)
 | (apply c_block)
 | (with_reducible apply k_c)
  refine c_loop ?_
  refine loop_gc (σ := Nat) (fun i => [x, .fn g [], .int .i64 (F.length : Int), .int .i64 (i : Int)]) (fun _ => []) (fun i => i ≤ F.length ∧ fi Q (F.drop i) i = R) (fun i => F.length - i) ?_ _ 0 _ _ ⟨by omega, hR⟩ (by omega) (gc_to rfl (by simp [idFreeL, AV.idFree, fx]))
  intro i ⟨hi, hr⟩ K hK
  by_cases hiF : i < F.length
  · have ecv : evE call [] (.callv true true) [.fn g [], .int .i64 (getI F i)] = some (.bool (Q (getI F i)), []) := by
      simpa [evE] using hg (getI F i) []
    rw [drop_getI hiF] at hr
    simp only [fi] at hr
    cases hq : Q (getI F i) with
    | true =>
      rw [hq] at ecv
      rw [if_pos hq] at hr
      repeat' first
 | (apply s_mov; exact aW)
 | (apply c_nil)
 | (apply s_lss; exact rfl; all_goals (intro _; try (exfalso; omega)))
 | (apply s_en; exact aO; exact ecv)
 | (apply s_idx; exact aW; exact rfl; exact aI; omega)
 | (apply s_ldI; exact rfl; omega)
 | (apply c_seq)
 | (apply c_reg)
 | (apply c_block)
 | (apply c_skip)
 | (apply c_ret)
 | (apply c_condT; exact rfl)
 | (with_reducible apply k_c)
      all_goals exact fin_t (by (conv => lhs; whnf)) (by rfl) (by rw [hr])
    | false =>
      rw [hq] at ecv
      rw [if_neg (by rw [hq]; decide)] at hr
      repeat' first
 | (apply s_mov; exact aW)
 | (apply c_nil)
 | (apply s_lss; exact rfl; all_goals (intro _; try (exfalso; omega)))
 | (apply s_add; exact rfl; omega)
 | (apply s_en; exact aO; exact ecv)
 | (apply s_idx; exact aW; exact rfl; exact aI; omega)
 | (apply s_ldI; exact rfl; omega)
 | (apply c_seq)
 | (apply c_reg)
 | (apply c_block)
 | (apply c_skip)
 | (apply c_condT; exact rfl)
 | (apply c_condF; exact rfl)
 | (with_reducible apply k_c)
      all_goals exact hK (i + 1) _ _ ⟨by omega, hr⟩ (by omega) (gc_to rfl (by simp [idFreeL, AV.idFree, fx]))
  · obtain rfl : F.length = i := by omega
    rw [List.drop_length] at hr
    simp only [fi] at hr
    repeat' first
 | (apply s_mov; exact aW)
 | (apply c_nil)
 | (apply s_lss; exact rfl; all_goals (intro _; try (exfalso; omega)))
 | (apply c_seq)
 | (apply c_reg)
 | (apply c_exitH)
 | (apply c_ret)
 | (apply c_condF; exact rfl)
 | (apply c_preF; exact aK; exact aF)
 | (with_reducible apply k_c)
    exact fin_t (by (conv => lhs; whnf)) (by rfl) (by rw [← hr])
theorem f69 {x : AV} {F : List Int} {g : Nat} {Q : Int → Bool} (hx : IsL x F) (hl : F.length ≤ 1000) {m : Nat} (hm : 2000 ≤ m) (hg : ∀ v H, callPure (evF tab it m) true g [.int .i64 v] H = some (.bool (Q v), H)) :
    evF tab it (m + 2) 69 [x, .fn g []] [] = some (.bool (decide (∃ v ∈ F, Q v = true)), []) := by
  have e98 := fun H => callPure_free (H := H) (by simp [idFreeL, AV.idFree, hx.free]) (by simp) (f98 hx hl hm hg) rfl
  have hp := fi_pos Q F 0
  generalize fi Q F 0 = R at *
  refine f_enter rfl rfl ?_
  generalize evF tab it (m + 1) = call at *
  repeat' first
 | (apply s_mov; exact aW)
 | (apply c_nil)
 | (apply s_geq; exact rfl; all_goals (intro _; try (exfalso; omega)))
 | (apply s_cn; exact aO; exact e98 _)
 | (apply c_seq)
 | (apply c_reg)
 | (apply c_ret)
 | (with_reducible apply k_c)
  · exact fin_t (by (conv => lhs; whnf)) (by rfl) (leafT (hp.1 (by omega)))
  · exact fin_t (by (conv => lhs; whnf)) (by rfl) (leafF fun h => by have := hp.2 h; omega)
theorem f104 {m : Nat} (hm : 2 ≤ m) (v : Int) : evF tab it m 104 [.int .i64 v] [] = some (.bool (!decide (-1048576 ≤ v ∧ v ≤ 1048576)), []) := by
  obtain ⟨m, rfl⟩ : ∃ j, m = j + 1 := ⟨m - 1, by omega⟩
  refine f_enter rfl rfl ?_
  repeat' first
 | (apply s_mov; exact aW)
 | (apply c_nil)
 | (apply s_notT; exact rfl)
 | (apply s_notF; exact rfl)
 | (apply isE; refine s_cB (by exact aO) (c53 (by omega) _ _ _ _) (fun _ => ?_) (fun _ => ?_))
 | (apply c_seq)
 | (apply c_reg)
 | (apply c_ret)
 | (with_reducible apply k_c)
  · exact fin_t (by (conv => lhs; whnf)) (by rfl) (by rename_i h; simp [h])
  · exact fin_t (by (conv => lhs; whnf)) (by rfl) (by rename_i h; simp [h])
theorem c104 {m : Nat} (hm : 2 ≤ m) (v : Int) (H : Heap) : callPure (evF tab it m) true 104 [.int .i64 v] H = some (.bool (!decide (-1048576 ≤ v ∧ v ≤ 1048576)), H) := callPure_free rfl (by simp) (f104 hm v) rfl
set_option maxHeartbeats 1000000
def InR (n : Nat) (M : Int) (l : List Int) : Prop := l.length = n ∧ ∀ v ∈ l, -M ≤ v ∧ v ≤ M
instance (n : Nat) (M : Int) (l : List Int) : Decidable (InR n M l) := by unfold InR; infer_instance
theorem inR_of (n : Nat) (M : Int) (l : List Int) : (l.length = n ∧ ¬ ∃ v ∈ l, (!decide (-M ≤ v ∧ v ≤ M)) = true) ↔ InR n M l := by
  unfold InR
  simp only [Bool.not_eq_true', decide_eq_false_iff_not, not_exists, not_and]
  constructor
  · rintro ⟨a, b⟩
    exact ⟨a, fun v hv => Classical.byContradiction fun h => b v hv (fun h1 h2 => h ⟨h1, h2⟩)⟩
  · rintro ⟨a, b⟩
    exact ⟨a, fun v hv h1 => h1 (b v hv).1 (b v hv).2⟩
theorem f80 {x y : AV} {b : List (List Int)} {s : List Int} (hx : IsLL x b) (hy : IsL y s) (hl : s.length ≤ 1000) {m : Nat} (hm : 2010 ≤ m) : evF tab it m 80 [x, y] [] = some (.bool (decide (InR b.length 1048576 s)), []) := by
  obtain ⟨m, rfl⟩ : ∃ j, m = j + 3 := ⟨m - 3, by omega⟩
  have fx := hx.free; have fy := hy.free
  have e69 := fun H => callPure_free (H := H) (by simp [idFreeL, AV.idFree, fy]) (by simp) (f69 (g := 104) hy hl (m := m) (by omega) (fun v H => c104 (by omega) v H)) rfl
  have key := inR_of b.length 1048576 s
  refine f_enter rfl rfl ?_
  generalize evF tab it (m + 2) = call at *
  repeat' first
 | (apply s_mov; exact aW)
 | (apply s_gT; exact rfl)
 | (apply s_gF; exact rfl)
 | (apply s_gFD; exact rfl)
 | (apply c_nil)
 | (apply s_pickT; exact rfl; exact aW)
 | (apply s_pickF; exact rfl; exact aW)
 | (apply s_notT; exact rfl)
 | (apply s_notF; exact rfl)
 | (apply s_eql; exact rfl; all_goals (intro _; try (exfalso; omega)))
 | (apply isE; refine s_cB (by exact aO) (e69 _) (fun _ => ?_) (fun _ => ?_))
 | (apply s_len; exact aW; exact aI)
 | (apply s_lenLL; exact aW; assumption)
 | (apply c_seq)
 | (apply c_reg)
 | (apply c_ret)
 | (with_reducible apply k_c)
  all_goals first
    | (refine fin_t (by (conv => lhs; whnf)) (by rfl) (leafT (key.1 ⟨by omega, by assumption⟩)); done)
    | (refine fin_t (by (conv => lhs; whnf)) (by rfl) (leafF fun h => ?_); have := key.2 h; first | exact absurd this.1 (by omega) | exact this.2 (by assumption))
theorem c80 {x y : AV} {b : List (List Int)} {s : List Int} (hx : IsLL x b) (hy : IsL y s) (hl : s.length ≤ 1000) {m : Nat} (hm : 2010 ≤ m) (H : Heap) : callPure (evF tab it m) true 80 [x, y] H = some (.bool (decide (InR b.length 1048576 s)), H) :=
  callPure_free (by simp [idFreeL, hx.free, hy.free]) (by simp) (f80 hx hy hl hm) rfl
set_option maxHeartbeats 1000000
def sumTo (f : Nat → Int) : Nat → Int
  | 0 => 0
  | k + 1 => sumTo f k + f k
theorem sumTo_le {f : Nat → Int} {M : Int} : ∀ {n : Nat}, (∀ j, j < n → -M ≤ f j ∧ f j ≤ M) → -(n * M) ≤ sumTo f n ∧ sumTo f n ≤ n * M
  | 0, _ => by simp [sumTo]
  | n + 1, h => by
    have a := sumTo_le (n := n) fun j hj => h j (by omega)
    have b := h n (by omega)
    have e : ((n + 1 : Nat) : Int) * M = n * M + M := by push_cast; rw [Int.add_mul, Int.one_mul]
    simp only [sumTo]
    rw [e]
    omega
theorem sumTo_congr {f g : Nat → Int} : ∀ {n : Nat}, (∀ j, j < n → f j = g j) → sumTo f n = sumTo g n
  | 0, _ => rfl
  | n + 1, h => by simp only [sumTo]; rw [sumTo_congr fun j hj => h j (by omega), h n (by omega)]
def sumI (l : List Int) : Int := sumTo (fun j => getI l (j : Int)) l.length
theorem f32 {x : AV} {l : List Int} (hx : IsL x l) (hl : l.length ≤ 1000) (hb : ∀ v ∈ l, -1099511627776 ≤ v ∧ v ≤ 1099511627776) {m : Nat} (hm : 1010 ≤ m) : evF tab it m 32 [x] [] = some (.int .i64 (sumI l), []) := by
  obtain ⟨m, rfl⟩ : ∃ j, m = j + 1 := ⟨m - 1, by omega⟩
  have fx := hx.free
  have hg : ∀ j : Nat, j < l.length → -1099511627776 ≤ getI l j ∧ getI l j ≤ 1099511627776 := fun j hj => hb _ (by rw [getI_nat]; simp [List.getD, hj])
  refine f_enter rfl rfl ?_
  generalize evF tab it m = call at *
  repeat' first
 | (apply s_mov; exact aW)
 | (apply c_nil)
 | (apply c_seq)
 | (apply c_reg)
 | (apply c_block)
 | (with_reducible apply k_c)
  refine c_loop ?_
  refine loop_gc (σ := Nat) (fun i => [x, .int .i64 (sumTo (fun j => getI l (j : Int)) i), .int .i64 (i : Int)]) (fun _ => []) (fun i => i ≤ l.length) (fun i => l.length - i) ?_ _ 0 _ _ (by omega) (by omega) (gc_to rfl (by simp [idFreeL, AV.idFree, *]; done))
  intro i hi K hK
  have hbd := sumTo_le (f := fun j => getI l (j : Int)) (M := 1099511627776) (n := i) fun j hj => hg j (by omega)
  by_cases hil : i < l.length
  · have hgi := hg i hil
    repeat' first
 | (apply s_mov; exact aW)
 | (apply c_nil)
 | (apply s_lss; exact rfl; all_goals (intro _; try (exfalso; omega)))
 | (apply s_add; exact rfl; omega)
 | (apply s_len; exact aW; exact aI)
 | (apply s_idx; exact aW; exact rfl; exact aI; omega)
 | (apply s_ldI; exact rfl; omega)
 | (apply c_seq)
 | (apply c_reg)
 | (apply c_block)
 | (apply c_skip)
 | (apply c_condT; exact rfl)
 | (with_reducible apply k_c)
    all_goals exact hK (i + 1) _ _ (by omega) (by omega) (gc_to rfl (by simp [idFreeL, AV.idFree, *]; done))
  · obtain rfl : i = l.length := by omega
    repeat' first
 | (apply s_mov; exact aW)
 | (apply c_nil)
 | (apply s_lss; exact rfl; all_goals (intro _; try (exfalso; omega)))
 | (apply s_len; exact aW; exact aI)
 | (apply c_seq)
 | (apply c_reg)
 | (apply c_exitH)
 | (apply c_ret)
 | (apply c_condF; exact rfl)
 | (apply c_preF; exact aK; exact aF)
 | (with_reducible apply k_c)
    exact fin_t (v := .int .i64 (sumI l)) (by rfl) (by rfl) rfl
theorem c32 {x : AV} {l : List Int} (hx : IsL x l) (hl : l.length ≤ 1000) (hb : ∀ v ∈ l, -1099511627776 ≤ v ∧ v ≤ 1099511627776) {m : Nat} (hm : 1010 ≤ m) (H : Heap) : callPure (evF tab it m) true 32 [x] H = some (.int .i64 (sumI l), H) :=
  callPure_free (by simp [idFreeL, hx.free]) (by simp) (f32 hx hl hb hm) rfl
theorem c35 {x : AV} {b : List (List Int)} (hx : IsLL x b) {i : Nat} (hi : i < b.length) (hl : (getLL b i).length ≤ 1000) (hb : ∀ v ∈ getLL b i, -1099511627776 ≤ v ∧ v ≤ 1099511627776) {m : Nat} (hm : 1020 ≤ m) (H : Heap) : callPure (evF tab it m) true 35 [x, .int .i64 (i : Int)] H = some (.int .i64 (sumI (getLL b i)), H) := by
  have f35 : evF tab it m 35 [x, .int .i64 (i : Int)] [] = some (.int .i64 (sumI (getLL b i)), []) := by
    obtain ⟨m, rfl⟩ : ∃ j, m = j + 1 := ⟨m - 1, by omega⟩
    have e32 := fun H => c32 (m := m) (hx.at (i := (i : Int)) ⟨by omega, by omega⟩) hl hb (by omega) H
    refine f_enter rfl rfl ?_
    generalize evF tab it m = call at *
    repeat' first
 | (apply s_mov; exact aW)
 | (apply c_nil)
 | (apply s_cn; exact aO; exact e32 _)
 | (apply s_idxLL; exact aW; exact rfl; assumption; omega)
 | (apply s_ldLL; exact rfl; assumption; omega)
 | (apply c_seq)
 | (apply c_reg)
 | (apply c_ret)
 | (with_reducible apply k_c)
    exact fin_t (by (conv => lhs; whnf)) (by rfl) rfl
  exact callPure_free (by simp [idFreeL, AV.idFree, hx.free]) (by simp) f35 rfl
set_option maxHeartbeats 2000000
theorem p_ixO {H : Heap} {id n i : Nat} (hi : i < n) : evP H (.idxA 1) [.sl id 1 0 n, .int .i64 (i : Int)] = some (.ptr id i) := by
  simp [evP, idxSl, hi]
theorem p_ldO {H : Heap} {id : Nat} {l : List Int} {i : Nat} (h : H.data? id = some (iL l)) (hi : i < l.length) : evP H (.ld false 1) [.ptr id i] = some (.int .i64 (getI l (i : Int))) := by
  have : H.cells? id = some (iL l) := cells_of_data h
  have hl := iL_len l
  have e : ((iL l).drop i).take 1 = [.int .i64 (getI l (i : Int))] := by
    rw [List.drop_eq_getElem_cons (by omega), getI_nat]
    simp [iL, List.getD, hi]
  have hg : getRow H id i 1 = some [.int .i64 (getI l (i : Int))] := by
    unfold getRow
    rw [this, Option.bind_some, if_pos (by omega), e]
  simp [evP, ldc, hg, wholeOf]
theorem e_stO {call : CallF} {H : Heap} {id : Nat} {l : List Int} {i : Nat} {v : Int} (h : H.data? id = some (iL l)) (hi : i < l.length) : evE call H (.st 1) [.ptr id i, .int .i64 v] = some (.undef, H.set id (some (.data (iL (l.set i v))))) := by
  have := e_stI (call := call) (v := v) (i := (i : Int)) h (by simpa using hi)
  simpa using this
theorem getI_set {l : List Int} {i j : Nat} {v : Int} (hi : i < l.length) : getI (l.set i v) (j : Int) = if j = i then v else getI l (j : Int) := by
  rw [getI_nat, getI_nat]
  by_cases h : j = i
  · subst h; simp [List.getD, hi]
  · rw [if_neg h]; simp [List.getD, List.getElem?_set_ne (Ne.symm h)]
def wt (b : List (List Int)) (t : List Int) (v k : Nat) : Int := getI t (v : Int) * getI (getLL b (v : Int)) (k : Int)
theorem mul3 {a c T : Int} (ha : -T ≤ a ∧ a ≤ T) (hc : 0 ≤ c ∧ c ≤ 3) (hT : 0 ≤ T) : -(3 * T) ≤ a * c ∧ a * c ≤ 3 * T := by
  rcases (by omega : c = 0 ∨ c = 1 ∨ c = 2 ∨ c = 3) with rfl | rfl | rfl | rfl <;> omega
def mid (b : List (List Int)) (s t : List Int) (v k i : Nat) : Int :=
  getI s (i : Int) - (if i < v then sumTo (wt b t i) b.length else if i = v then sumTo (wt b t v) k else 0) + sumTo (fun j => wt b t j i) v + (if i < k then wt b t v i else 0)
theorem mid_zero (b : List (List Int)) (s t : List Int) (i : Nat) : mid b s t 0 0 i = getI s (i : Int) := by
  unfold mid
  by_cases h : i = 0 <;> simp [h, sumTo]
theorem mid_next (b : List (List Int)) (s t : List Int) (v i : Nat) (hi : i < b.length) : mid b s t v b.length i = mid b s t (v + 1) 0 i := by
  unfold mid
  rw [if_pos hi, if_neg (Nat.not_lt_zero i)]
  simp only [sumTo]
  by_cases h1 : i < v
  · rw [if_pos h1, if_pos (by omega)]; omega
  · by_cases h2 : i = v
    · subst h2; rw [if_neg h1, if_pos rfl, if_pos (by omega)]; omega
    · rw [if_neg h1, if_neg h2, if_neg (by omega)]
      by_cases h3 : i = v + 1
      · subst h3; simp [sumTo]; omega
      · rw [if_neg h3]; omega
theorem mid_step (b : List (List Int)) (s t : List Int) (v k i : Nat) : mid b s t v (k + 1) i = mid b s t v k i - (if i = v then wt b t v k else 0) + (if i = k then wt b t v k else 0) := by
  unfold mid
  by_cases h1 : i = v
  · subst h1
    simp only [if_neg (Nat.lt_irrefl i), if_true, sumTo]
    by_cases h2 : i = k
    · subst h2; first | (simp; done) | (simp; omega)
    · by_cases h3 : i < k
      · rw [if_pos h3, if_pos (show i < k + 1 by omega), if_neg h2]; omega
      · rw [if_neg h3, if_neg (show ¬ i < k + 1 by omega), if_neg h2]; omega
  · simp only [if_neg h1]
    by_cases h2 : i = k
    · subst h2; first | (simp; done) | (simp; omega)
    · by_cases h3 : i < k
      · rw [if_pos h3, if_pos (show i < k + 1 by omega), if_neg h2]; omega
      · rw [if_neg h3, if_neg (show ¬ i < k + 1 by omega), if_neg h2]; omega
structure Bd (b : List (List Int)) : Prop where
  len : b.length ≤ 12
  row : ∀ v : Nat, v < b.length → (getLL b (v : Int)).length = b.length
  val : ∀ v k : Nat, v < b.length → k < b.length → 0 ≤ getI (getLL b (v : Int)) (k : Int) ∧ getI (getLL b (v : Int)) (k : Int) ≤ 3
theorem wt_le {b : List (List Int)} {t : List Int} (hb : Bd b) (ht : ∀ v : Nat, v < b.length → -4503599627370496 ≤ getI t (v : Int) ∧ getI t (v : Int) ≤ 4503599627370496) {v k : Nat} (hv : v < b.length) (hk : k < b.length) : -13510798882111488 ≤ wt b t v k ∧ wt b t v k ≤ 13510798882111488 :=
  mul3 (ht v hv) (hb.val v k hv hk) (by omega)
theorem mid_le {b : List (List Int)} {s t : List Int} (hb : Bd b) (ht : ∀ v : Nat, v < b.length → -4503599627370496 ≤ getI t (v : Int) ∧ getI t (v : Int) ≤ 4503599627370496) (hs : ∀ v : Nat, v < b.length → -288230376151711744 ≤ getI s (v : Int) ∧ getI s (v : Int) ≤ 288230376151711744)
    {v k i : Nat} (hv : v < b.length) (hk : k ≤ b.length) (hi : i < b.length) : -1152921504606846976 ≤ mid b s t v k i ∧ mid b s t v k i ≤ 1152921504606846976 := by
  have hl := hb.len
  have a := hs i hi
  have b1 := sumTo_le (f := wt b t i) (M := 13510798882111488) (n := b.length) fun j hj => wt_le hb ht hi hj
  have b2 := sumTo_le (f := wt b t v) (M := 13510798882111488) (n := k) fun j hj => wt_le hb ht hv (by omega)
  have b3 := sumTo_le (f := fun j => wt b t j i) (M := 13510798882111488) (n := v) fun j hj => wt_le hb ht (by omega) hi
  have b4 := wt_le hb ht hv hi
  unfold mid
  generalize sumTo (wt b t i) b.length = A at *
  generalize sumTo (wt b t v) k = B at *
  generalize sumTo (fun j => wt b t j i) v = C at *
  generalize wt b t v i = D at *
  have e1 : (b.length : Int) * 13510798882111488 ≤ 12 * 13510798882111488 := by omega
  have e2 : (k : Int) * 13510798882111488 ≤ 12 * 13510798882111488 := by omega
  have e3 : (v : Int) * 13510798882111488 ≤ 12 * 13510798882111488 := by omega
  (repeat' split) <;> omega
set_option maxHeartbeats 4000000
def apl (b : List (List Int)) (s t : List Int) : List Int := (List.range b.length).map fun i => mid b s t b.length 0 i
theorem e_cpyO {call : CallF} {H : Heap} {n : Nat} {y : AV} {s : List Int} (hy : IsL y s) (hs : s.length = n) (hH : H.data? 0 = some (iL (List.replicate n 0))) : evE call H (.cpy 1) [.sl 0 1 0 n, y] = some (.int .i64 (n : Int), H.set 0 (some (.data (iL s)))) := by
  subst hs
  have h1 := data?_iff.1 hH
  have hl : (iL (List.replicate s.length 0)).length = s.length := by rw [iL_len]; simp
  have hl2 := iL_len s
  cases hy with
  | nil => simp [evE, szOk, lenOf, rowOf, h1, iL, putRow]
  | rd l =>
    simp [evE, szOk, lenOf, rowOf, h1, hl, hl2, putRow, List.take_of_length_le, List.drop_of_length_le]
theorem p_lenI {H : Heap} {x : AV} {l : List Int} (h : IsL x l) : evP H .len [x] = some (.int .i64 ((l.length : Nat) : Int)) := by cases h <;> rfl
theorem f55 {x y z : AV} {b : List (List Int)} {s t : List Int} (hx : IsLL x b) (hy : IsL y s) (hz : IsL z t) (hb : Bd b) (hsn : s.length = b.length) (htn : t.length = b.length)
    (ht : ∀ v : Nat, v < b.length → -4503599627370496 ≤ getI t (v : Int) ∧ getI t (v : Int) ≤ 4503599627370496) (hs : ∀ v : Nat, v < b.length → -288230376151711744 ≤ getI s (v : Int) ∧ getI s (v : Int) ≤ 288230376151711744)
    {m : Nat} (hm : 100 ≤ m) : evF tab it m 55 [x, y, z] [] = some (.sl 0 1 0 b.length, [some (.data (iL (apl b s t)))]) := by
  obtain ⟨m, rfl⟩ : ∃ j, m = j + 1 := ⟨m - 1, by omega⟩
  have fx := hx.free; have fy := hy.free; have fz := hz.free
  have hl12 := hb.len
  have mk := fun call H => @e_mkI call H s.length (by unfold most; omega)
  have cp := fun call => e_cpyO (call := call) (H := [some (.data (iL (List.replicate s.length 0)))]) hy rfl rfl
  rw [hsn] at mk cp
  refine f_enter rfl rfl ?_
  generalize evF tab it m = call at *
  have gcO : ∀ (v : Nat) (C : List AV), gc 0 [x, .sl 0 1 0 b.length, z, .int .i64 ((b.length : Nat) : Int), .int .i64 (v : Int)] [some (.data C)] = some ([x, .sl 0 1 0 b.length, z, .int .i64 ((b.length : Nat) : Int), .int .i64 (v : Int)], [some (.data C)]) := fun v C => by simp [go_sem, fx, fz]
  have gcM : ∀ (v : Nat) (C : List AV), gc 0 [x, .sl 0 1 0 b.length, z, .int .i64 ((b.length : Nat) : Int), .int .i64 (v : Int)] [some (.data C)] = some ([x, .sl 0 1 0 b.length, z, .int .i64 ((b.length : Nat) : Int), .int .i64 (v : Int)], [some (.data C)]) := gcO
  have lz : ∀ H, evP H .len [z] = some (.int .i64 ((b.length : Nat) : Int)) := fun H => by rw [← htn]; exact p_lenI hz
  have ly : ∀ H, evP H .len [y] = some (.int .i64 ((b.length : Nat) : Int)) := fun H => by rw [← hsn]; exact p_lenI hy
  repeat' first
 | (apply s_mov; exact aW)
 | (apply c_nil)
 | (apply s_pn; exact aO; exact ly _)
 | (apply s_pn; exact aO; exact lz _)
 | (apply s_en; exact aO; exact mk _ _)
 | (apply s_en; exact aO; exact cp _)
 | (apply c_seq)
 | (apply c_reg)
 | (apply c_block)
 | (with_reducible apply k_c)
  refine c_loop ?_
  refine loop_gc (σ := Nat × List Int) (fun q => [x, .sl 0 1 0 b.length, z, .int .i64 ((b.length : Nat) : Int), .int .i64 (q.1 : Int)]) (fun q => [some (.data (iL q.2))]) (fun q => q.1 ≤ b.length ∧ q.2.length = b.length ∧ ∀ i : Nat, i < b.length → getI q.2 (i : Int) = mid b s t q.1 0 i) (fun q => b.length - q.1) ?_ _ (0, s) _ _ ⟨by omega, hsn, fun i _ => (mid_zero b s t i).symm⟩ (by show b.length - 0 < _; omega) (gcO 0 _)
  intro ⟨v, out⟩ ⟨hv, hol, hout⟩ K hK
  dsimp only at hv hol hout hK ⊢
  by_cases hvn : v < b.length
  · have hrow := hx.at (i := (v : Int)) ⟨by omega, by omega⟩
    have hrl := hb.row v hvn
    have lr : ∀ H, evP H .len [llAt x (v : Int)] = some (.int .i64 ((b.length : Nat) : Int)) := fun H => by rw [← hrl]; exact p_lenI hrow
    have fr := hrow.free
    repeat' first
 | (apply s_mov; exact aW)
 | (apply c_nil)
 | (apply s_lss; exact rfl; all_goals (intro _; try (exfalso; omega)))
 | (apply s_pn; exact aO; exact lr _)
 | (apply s_idx; exact aW; exact rfl; exact aI; omega)
 | (apply s_idxLL; exact aW; exact rfl; assumption; omega)
 | (apply s_ldI; exact rfl; omega)
 | (apply s_ldLL; exact rfl; assumption; omega)
 | (apply c_seq)
 | (apply c_reg)
 | (apply c_block)
 | (apply c_skip)
 | (apply c_condT; exact rfl)
 | (with_reducible apply k_c)
    have gcI : ∀ (k : Nat) (C : List AV), gc 0 [x, .sl 0 1 0 b.length, .int .i64 (v : Int), .int .i64 (getI t (v : Int)), z, .int .i64 ((b.length : Nat) : Int), .int .i64 (v : Int), llAt x (v : Int), .int .i64 ((b.length : Nat) : Int), .int .i64 (k : Int)] [some (.data C)] = some ([x, .sl 0 1 0 b.length, .int .i64 (v : Int), .int .i64 (getI t (v : Int)), z, .int .i64 ((b.length : Nat) : Int), .int .i64 (v : Int), llAt x (v : Int), .int .i64 ((b.length : Nat) : Int), .int .i64 (k : Int)], [some (.data C)]) := fun k C => by simp [go_sem, fx, fz, fr]
    refine c_loop ?_
    refine loop_gc (σ := Nat × List Int) (fun q => [x, .sl 0 1 0 b.length, .int .i64 (v : Int), .int .i64 (getI t (v : Int)), z, .int .i64 ((b.length : Nat) : Int), .int .i64 (v : Int), llAt x (v : Int), .int .i64 ((b.length : Nat) : Int), .int .i64 (q.1 : Int)]) (fun q => [some (.data (iL q.2))]) (fun q => q.1 ≤ b.length ∧ q.2.length = b.length ∧ ∀ i : Nat, i < b.length → getI q.2 (i : Int) = mid b s t v q.1 i) (fun q => b.length - q.1) ?_ _ (0, out) _ _ ⟨by omega, hol, hout⟩ (by show b.length - 0 < _; omega) (gcI 0 _)
    intro ⟨k, o⟩ ⟨hk, hol2, hout2⟩ K2 hK2
    dsimp only at hk hol2 hout2 hK2 ⊢
    by_cases hkn : k < b.length
    · have hwl := wt_le hb ht hvn hkn
      have hbv := hout2 v hvn
      have hm1 := mid_le hb ht hs hvn hk hvn
      have hm2 := mid_le hb ht hs hvn hk hkn
      have hbk := hout2 k hkn
      have hl1 := fun H h => p_ldO (H := H) (id := 0) (l := o) (i := v) h (by omega)
      have hs1 := fun (vv : Int) call H h => e_stO (call := call) (H := H) (id := 0) (l := o) (i := v) (v := vv) h (by omega)
      have hl2 := fun (vv : Int) H h => p_ldO (H := H) (id := 0) (l := o.set v vv) (i := k) h (by simp; omega)
      have hs2 := fun (vv v2 : Int) call H h => e_stO (call := call) (H := H) (id := 0) (l := o.set v vv) (i := k) (v := v2) h (by simp; omega)
      have hg2 := fun (vv : Int) => getI_set (l := o) (i := v) (j := k) (v := vv) (by omega)
      have hstep : ∀ i : Nat, i < b.length → getI ((o.set v (getI o (v : Int) - wt b t v k)).set k (getI (o.set v (getI o (v : Int) - wt b t v k)) (k : Int) + wt b t v k)) (i : Int) = mid b s t v (k + 1) i := fun i hi => by
        rw [getI_set (by simp; omega), mid_step, hg2]
        by_cases h1 : i = k
        · subst h1
          rw [if_pos rfl, if_pos rfl, hbk]
          by_cases h2 : i = v
          · subst h2; rw [if_pos rfl, if_pos rfl]; have := hbv; omega
          · rw [if_neg h2, if_neg h2]; omega
        · rw [if_neg h1, if_neg h1, getI_set (by omega)]
          by_cases h2 : i = v
          · subst h2; rw [if_pos rfl, if_pos rfl, hbv]; omega
          · rw [if_neg h2, if_neg h2, hout2 i hi]; omega
      have hgk : -2305843009213693952 ≤ getI (o.set v (getI o (v : Int) - wt b t v k)) (k : Int) ∧ getI (o.set v (getI o (v : Int) - wt b t v k)) (k : Int) ≤ 2305843009213693952 := by
        rw [hg2]; split <;> omega
      have hwe : getI t (v : Int) * getI (getLL b (v : Int)) (k : Int) = wt b t v k := rfl
      have hmul : ∀ H, evP H (.bin .mul) [.int .i64 (getI t (v : Int)), .int .i64 (getI (getLL b (v : Int)) (k : Int))] = some (.int .i64 (wt b t v k)) := fun H => by
        rw [← hwe] at hwl ⊢
        simp only [evP, binV, isShift, binInt]
        rw [show IntKind.i64.wrap (getI t (v : Int) * getI (getLL b (v : Int)) (k : Int)) = getI t (v : Int) * getI (getLL b (v : Int)) (k : Int) from wrapI (by omega)]
        rfl
      generalize wt b t v k = w at *
      repeat' first
 | (apply s_mov; exact aW)
 | (apply c_nil)
 | (apply s_lss; exact rfl; all_goals (intro _; try (exfalso; omega)))
 | (apply s_add; exact rfl; omega)
 | (apply s_sub; exact rfl; omega)
 | (apply s_pn; exact aO; exact p_ixO hvn)
 | (apply s_pn; exact aO; exact p_ixO hkn)
 | (apply s_pn; exact aO; exact hmul _)
 | (apply s_pn; exact aO; exact hl1 _ rfl)
 | (apply s_pn; exact aO; exact hl2 _ _ rfl)
 | (apply s_st; exact aO; exact hs1 _ _ _ rfl)
 | (apply s_st; exact aO; exact hs2 _ _ _ _ rfl)
 | (apply s_idx; exact aW; exact rfl; exact aI; omega)
 | (apply s_ldI; exact rfl; omega)
 | (apply c_seq)
 | (apply c_reg)
 | (apply c_block)
 | (apply c_skip)
 | (apply c_condT; exact rfl)
 | (with_reducible apply k_c)
      exact hK2 (k + 1, _) _ _ ⟨by omega, by simp [hol2], hstep⟩ (by show b.length - (k + 1) < _; omega) (gcI (k + 1) _)
    · obtain rfl : k = b.length := by omega
      repeat' first
 | (apply c_nil)
 | (apply s_lss; exact rfl; all_goals (intro _; try (exfalso; omega)))
 | (apply c_seq)
 | (apply c_reg)
 | (apply c_exitH)
 | (apply c_condF; exact rfl)
 | (with_reducible apply k_c)
      apply c_pre
      · exact gcO v _
      repeat' first
 | (apply s_mov; exact aW)
 | (apply c_nil)
 | (apply s_add; exact rfl; omega)
 | (apply c_reg)
      exact hK (v + 1, o) _ _ ⟨by omega, hol2, fun i hi => (hout2 i hi).trans (mid_next b s t v i hi)⟩ (by show b.length - (v + 1) < _; omega) (gcO (v + 1) _)
  · obtain rfl : v = b.length := by omega
    have he : out = apl b s t := by
      refine List.ext_getElem (by simp [apl, hol]) fun j h1 h2 => ?_
      have := hout j (by omega)
      rw [getI_nat] at this
      simpa [apl, List.getD, h1] using this
    subst he
    repeat' first
 | (apply c_nil)
 | (apply s_lss; exact rfl; all_goals (intro _; try (exfalso; omega)))
 | (apply c_seq)
 | (apply c_reg)
 | (apply c_exitH)
 | (apply c_condF; exact rfl)
 | (with_reducible apply k_c)
    apply c_pre (vs := [.sl 0 1 0 b.length]) (H' := [some (.data (iL (apl b s t)))])
    · simp [go_sem]
    repeat' first
 | (apply s_mov; exact aW)
 | (apply c_nil)
 | (apply c_seq)
 | (apply c_reg)
 | (apply c_ret)
 | (with_reducible apply k_c)
    simp [finish, ress, resOf, look, tupOf, go_sem]
set_option maxHeartbeats 4000000
theorem apl_len (b : List (List Int)) (s t : List Int) : (apl b s t).length = b.length := by simp [apl]
theorem c55 {x y z : AV} {b : List (List Int)} {s t : List Int} (hx : IsLL x b) (hy : IsL y s) (hz : IsL z t) (hb : Bd b) (hsn : s.length = b.length) (htn : t.length = b.length)
    (ht : ∀ v : Nat, v < b.length → -4503599627370496 ≤ getI t (v : Int) ∧ getI t (v : Int) ≤ 4503599627370496) (hs : ∀ v : Nat, v < b.length → -288230376151711744 ≤ getI s (v : Int) ∧ getI s (v : Int) ≤ 288230376151711744)
    {m : Nat} (hm : 100 ≤ m) (H : Heap) : callPure (evF tab it m) true 55 [x, y, z] H = some (.rd 1 (apl b s t).length (iL (apl b s t)), H) := by
  refine callPure_frz (by simp [idFreeL, hx.free, hy.free, hz.free]) (by simp) (f55 hx hy hz hb hsn htn ht hs hm) ?_
  have h1 := iL_len (apl b s t)
  have h2 := apl_len b s t
  rw [h2] at h1 ⊢
  simp [frzV_sl, Heap.data?, h1, List.take_of_length_le]
def Sym (b : List (List Int)) : Prop := ∀ v k : Nat, v < b.length → k < b.length → getI (getLL b (v : Int)) (k : Int) = getI (getLL b (k : Int)) (v : Int)
theorem sumTo_mul (a : Int) (f : Nat → Int) : ∀ n, a * sumTo f n = sumTo (fun k => a * f k) n
  | 0 => by simp [sumTo]
  | n + 1 => by simp only [sumTo]; rw [Int.mul_add, sumTo_mul a f n]
theorem apl_ref {b : List (List Int)} (hb : Bd b) (hsy : Sym b) (s t : List Int) {i : Nat} (hi : i < b.length) :
    mid b s t b.length 0 i = getI s (i : Int) - getI t (i : Int) * sumI (getLL b (i : Int)) + sumTo (fun j => getI t (j : Int) * getI (getLL b (i : Int)) (j : Int)) b.length := by
  unfold mid
  rw [if_pos hi, if_neg (Nat.not_lt_zero i), Int.add_zero]
  have e1 : sumTo (wt b t i) b.length = getI t (i : Int) * sumI (getLL b (i : Int)) := by
    unfold sumI
    rw [hb.row i hi, sumTo_mul]
    rfl
  have e2 : sumTo (fun j => wt b t j i) b.length = sumTo (fun j => getI t (j : Int) * getI (getLL b (i : Int)) (j : Int)) b.length := sumTo_congr fun j hj => by
    unfold wt
    rw [hsy j i hj hi]
  rw [e1, e2]
theorem p_mul {H : Heap} {a c : Int} (h : -9223372036854775808 ≤ a * c ∧ a * c < 9223372036854775808) : evP H (.bin .mul) [.int .i64 a, .int .i64 c] = some (.int .i64 (a * c)) := by
  simp only [evP, binV, isShift, binInt]
  rw [show IntKind.i64.wrap (a * c) = a * c from wrapI h]
  rfl
theorem sumTo_nn {f : Nat → Int} : ∀ {n : Nat}, (∀ j, j < n → 0 ≤ f j) → 0 ≤ sumTo f n
  | 0, _ => Int.le_refl 0
  | n + 1, h => by
    have a := sumTo_nn (n := n) fun j hj => h j (by omega)
    have b := h n (by omega)
    simp only [sumTo]
    omega
set_option maxHeartbeats 4000000
theorem f109 {x : AV} {F : List Int} {w : Int} (hx : IsL x F) (hl : F.length ≤ 1000) {m : Nat} (hm : 2000 ≤ m) :
    evF tab it (m + 1) 109 [x, .int .i64 w] [] = some (.int .i64 (fi (fun v => decide (w = v)) F 0), []) := by
  have fx := hx.free
  generalize hR : fi (fun v => decide (w = v)) F 0 = R
  refine f_enter rfl rfl ?_
  generalize evF tab it m = call at *
  repeat' first
 | (apply s_mov; exact aW)
 | (apply c_nil)
 | (apply s_len; exact aW; exact aI)
 | (apply c_seq)
 | (apply c_reg)
 | (apply c_block)
 | (with_reducible apply k_c)
  refine c_loop ?_
  refine loop_gc (σ := Nat) (fun i => [x, .int .i64 w, .int .i64 (F.length : Int), .int .i64 (i : Int)]) (fun _ => []) (fun i => i ≤ F.length ∧ fi (fun v => decide (w = v)) (F.drop i) i = R) (fun i => F.length - i) ?_ _ 0 _ _ ⟨by omega, hR⟩ (by omega) (gc_to rfl (by simp [idFreeL, AV.idFree, fx]))
  intro i ⟨hi, hr⟩ K hK
  by_cases hiF : i < F.length
  · rw [drop_getI hiF] at hr
    simp only [fi, decide_eq_true_eq] at hr
    by_cases hq : w = getI F (i : Int)
    · rw [if_pos hq] at hr
      repeat' first
 | (apply s_mov; exact aW)
 | (apply c_nil)
 | (apply s_lss; exact rfl; all_goals (intro _; try (exfalso; omega)))
 | (apply s_eql; exact rfl; all_goals (intro _; try (exfalso; omega)))
 | (apply s_idx; exact aW; exact rfl; exact aI; omega)
 | (apply s_ldI; exact rfl; omega)
 | (apply c_seq)
 | (apply c_reg)
 | (apply c_block)
 | (apply c_skip)
 | (apply c_ret)
 | (apply c_condT; exact rfl)
 | (with_reducible apply k_c)
      all_goals first | exact fin_t (by (conv => lhs; whnf)) (by rfl) (by rw [hr]) | (exfalso; omega)
    · rw [if_neg hq] at hr
      repeat' first
 | (apply s_mov; exact aW)
 | (apply c_nil)
 | (apply s_lss; exact rfl; all_goals (intro _; try (exfalso; omega)))
 | (apply s_eql; exact rfl; all_goals (intro _; try (exfalso; omega)))
 | (apply s_add; exact rfl; omega)
 | (apply s_idx; exact aW; exact rfl; exact aI; omega)
 | (apply s_ldI; exact rfl; omega)
 | (apply c_seq)
 | (apply c_reg)
 | (apply c_block)
 | (apply c_skip)
 | (apply c_condT; exact rfl)
 | (apply c_condF; exact rfl)
 | (with_reducible apply k_c)
      all_goals first | exact hK (i + 1) _ _ ⟨by omega, hr⟩ (by omega) (gc_to rfl (by simp [idFreeL, AV.idFree, fx])) | (exfalso; omega)
  · obtain rfl : F.length = i := by omega
    rw [List.drop_length] at hr
    simp only [fi] at hr
    repeat' first
 | (apply s_mov; exact aW)
 | (apply c_nil)
 | (apply s_lss; exact rfl; all_goals (intro _; try (exfalso; omega)))
 | (apply c_seq)
 | (apply c_reg)
 | (apply c_exitH)
 | (apply c_ret)
 | (apply c_condF; exact rfl)
 | (apply c_preF; exact aK; exact aF)
 | (with_reducible apply k_c)
    exact fin_t (by (conv => lhs; whnf)) (by rfl) (by rw [← hr])
theorem c83 {x : AV} {F : List Int} {w : Int} (hx : IsL x F) (hl : F.length ≤ 1000) {m : Nat} (hm : 2010 ≤ m) (H : Heap) : callPure (evF tab it m) true 83 [x, .int .i64 w] H = some (.bool (decide (w ∈ F)), H) := by
  have f83 : evF tab it m 83 [x, .int .i64 w] [] = some (.bool (decide (w ∈ F)), []) := by
    obtain ⟨m, rfl⟩ : ∃ j, m = j + 2 := ⟨m - 2, by omega⟩
    have e109 := fun H => callPure_free (H := H) (by simp [idFreeL, AV.idFree, hx.free]) (by simp) (f109 (w := w) hx hl (m := m) (by omega)) rfl
    have hp := fi_pos (fun v => decide (w = v)) F 0
    have hp' : 0 ≤ fi (fun v => decide (w = v)) F 0 ↔ w ∈ F := by rw [hp]; simp
    generalize fi (fun v => decide (w = v)) F 0 = R at *
    refine f_enter rfl rfl ?_
    generalize evF tab it (m + 1) = call at *
    repeat' first
 | (apply s_mov; exact aW)
 | (apply c_nil)
 | (apply s_geq; exact rfl; all_goals (intro _; try (exfalso; omega)))
 | (apply s_cn; exact aO; exact e109 _)
 | (apply c_seq)
 | (apply c_reg)
 | (apply c_ret)
 | (with_reducible apply k_c)
    · exact fin_t (by (conv => lhs; whnf)) (by rfl) (leafT (hp'.1 (by omega)))
    · exact fin_t (by (conv => lhs; whnf)) (by rfl) (leafF fun h => by have := hp'.2 h; omega)
  exact callPure_free (by simp [idFreeL, AV.idFree, hx.free]) (by simp) f83 rfl
def bIn (b : List (List Int)) (v : Nat) : Nat → List Int × List Nat → List Int × List Nat
  | 0, st => st
  | k + 1, st =>
    let r := bIn b v k st
    if 0 < getI (getLL b (v : Int)) (k : Int) ∧ getI r.1 (k : Int) < 0 then (r.1.set k (getI r.1 (v : Int) + 1), r.2 ++ [k]) else r
set_option maxHeartbeats 1000000
theorem nodup_len : ∀ {l1 l2 : List Nat}, l1.Nodup → (∀ x ∈ l1, x ∈ l2) → l1.length ≤ l2.length
  | [], _, _, _ => Nat.zero_le _
  | x :: l1, l2, hn, h => by
    obtain ⟨h1, h2⟩ := List.nodup_cons.1 hn
    have hx := h x List.mem_cons_self
    have := nodup_len (l2 := l2.erase x) h2 fun y hy => by
      have hne : y ≠ x := fun e => h1 (e ▸ hy)
      exact (List.mem_erase_of_ne hne).2 (h y (List.mem_cons_of_mem _ hy))
    have e := List.length_erase_of_mem hx
    have hp := List.length_pos_of_mem hx
    simp only [List.length_cons]
    omega
def negs (d : List Int) : Nat := d.countP (fun x => decide (x < 0))
theorem negs_set {d : List Int} {k : Nat} {a : Int} (hk : k < d.length) (h0 : getI d (k : Int) < 0) (ha : 0 ≤ a) : negs (d.set k a) + 1 = negs d := by
  have hk' : d[k] < 0 := by
    rw [getI_nat] at h0
    simpa [List.getD, hk] using h0
  unfold negs
  rw [List.countP_set hk]
  have hp : 0 < d.countP (fun x => decide (x < 0)) := List.countP_pos_iff.2 ⟨d[k], List.getElem_mem hk, by simpa using hk'⟩
  simp only [hk', decide_true, if_true]
  have : ¬ a < 0 := by omega
  simp only [this, decide_false, Bool.false_eq_true, if_false]
  omega
structure Bfs (n : Nat) (d : List Int) (dn q : List Nat) : Prop where
  len : d.length = n
  low : ∀ k : Nat, k < n → -1 ≤ getI d (k : Int)
  nd : (dn ++ q).Nodup
  lt : ∀ v ∈ dn ++ q, v < n
  iff : ∀ k : Nat, k < n → (0 ≤ getI d (k : Int) ↔ k ∈ dn ++ q)
  far : ∀ k : Nat, k < n → getI d (k : Int) ≤ (dn ++ q).length
theorem Bfs.step {n : Nat} {d : List Int} {dn q : List Nat} (h : Bfs n d dn q) {v k : Nat} (hv : v < n) (hk : k < n) (h0 : getI d (k : Int) < 0) (hvd : 0 ≤ getI d (v : Int)) : Bfs n (d.set k (getI d (v : Int) + 1)) dn (q ++ [k]) := by
  have hkl : k < d.length := by rw [h.len]; exact hk
  have hkn : k ∉ dn ++ q := fun hc => by have := (h.iff k hk).2 hc; omega
  have hfv := h.far v hv
  refine ⟨by rw [List.length_set]; exact h.len, fun j hj => ?_, ?_, fun w hw => ?_, fun j hj => ?_, fun j hj => ?_⟩
  · rw [getI_set hkl]
    split
    · omega
    · exact h.low j hj
  · rw [← List.append_assoc, List.nodup_append]
    exact ⟨h.nd, by simp, fun a ha c hc e => by simp at hc; subst hc; subst e; exact hkn ha⟩
  · rw [← List.append_assoc] at hw
    rcases List.mem_append.1 hw with hw | hw
    · exact h.lt w hw
    · simp at hw; subst hw; exact hk
  · rw [getI_set hkl, ← List.append_assoc]
    by_cases e : j = k
    · subst e
      rw [if_pos rfl]
      exact ⟨fun _ => by simp, fun _ => by omega⟩
    · rw [if_neg e, h.iff j hj]
      simp [e]
  · rw [getI_set hkl]
    have : (dn ++ (q ++ [k])).length = (dn ++ q).length + 1 := by simp; omega
    rw [this]
    split
    · push_cast; omega
    · have := h.far j hj; push_cast; omega
theorem bIn_ok {n : Nat} {b : List (List Int)} {d : List Int} {dn q : List Nat} {v : Nat} (h : Bfs n d dn q) (hv : v < n) (hvd : 0 ≤ getI d (v : Int)) : ∀ k, k ≤ n →
    Bfs n (bIn b v k (d, q)).1 dn (bIn b v k (d, q)).2 ∧ getI (bIn b v k (d, q)).1 (v : Int) = getI d (v : Int) ∧ 2 * negs (bIn b v k (d, q)).1 + (bIn b v k (d, q)).2.length ≤ 2 * negs d + q.length
  | 0, _ => ⟨h, rfl, Nat.le_refl _⟩
  | k + 1, hk => by
    obtain ⟨h1, h2, h3⟩ := bIn_ok (b := b) h hv hvd k (by omega)
    simp only [bIn]
    split
    · rename_i hc
      have hkl : k < (bIn b v k (d, q)).1.length := by rw [h1.len]; omega
      have hne : v ≠ k := fun e => by subst e; omega
      refine ⟨h1.step hv (by omega) hc.2 (by omega), ?_, ?_⟩
      · rw [getI_set hkl, if_neg hne]; exact h2
      · have := negs_set hkl hc.2 (a := getI (bIn b v k (d, q)).1 (v : Int) + 1) (by omega)
        simp only [List.length_append, List.length_cons, List.length_nil]
        omega
    · exact ⟨h1, h2, h3⟩
def bfsF (b : List (List Int)) (n : Nat) : Nat → List Int → List Nat → List Nat → List Int × List Nat
  | 0, d, dn, _ => (d, dn)
  | _ + 1, d, dn, [] => (d, dn)
  | f + 1, d, dn, v :: q => bfsF b n f (bIn b v n (d, q)).1 (dn ++ [v]) (bIn b v n (d, q)).2
theorem Bfs.pop {n : Nat} {b : List (List Int)} {d : List Int} {dn q : List Nat} {v : Nat} (h : Bfs n d dn (v :: q)) : Bfs n (bIn b v n (d, q)).1 (dn ++ [v]) (bIn b v n (d, q)).2 ∧ 2 * negs (bIn b v n (d, q)).1 + (bIn b v n (d, q)).2.length < 2 * negs d + (v :: q).length := by
  have hv : v < n := h.lt v (by simp)
  have hvd := (h.iff v hv).2 (by simp)
  have e : dn ++ v :: q = dn ++ [v] ++ q := by simp
  have h' : Bfs n d (dn ++ [v]) q := ⟨h.len, h.low, e ▸ h.nd, e ▸ h.lt, e ▸ h.iff, e ▸ h.far⟩
  obtain ⟨a, _, c⟩ := bIn_ok (b := b) h' hv hvd n (Nat.le_refl _)
  exact ⟨a, by simp only [List.length_cons]; omega⟩
theorem Bfs.done {n : Nat} {d : List Int} {dn : List Nat} (h : Bfs n d dn []) : (∀ k : Nat, k < n → getI d (k : Int) ≠ -1) ↔ dn.length = n := by
  have hnd : dn.Nodup := by simpa using h.nd
  have hlt : ∀ v ∈ dn, v < n := fun v hv => h.lt v (by simp [hv])
  have hiff : ∀ k : Nat, k < n → (0 ≤ getI d (k : Int) ↔ k ∈ dn) := fun k hk => by simpa using h.iff k hk
  have hsub : ∀ v ∈ dn, v ∈ List.range n := fun v hv => List.mem_range.2 (hlt v hv)
  have hle := nodup_len hnd hsub
  rw [List.length_range] at hle
  constructor
  · intro ha
    have hsub2 : ∀ k ∈ List.range n, k ∈ dn := fun k hk => by
      have hk := List.mem_range.1 hk
      have := h.low k hk
      have := ha k hk
      exact (hiff k hk).1 (by omega)
    have := nodup_len List.nodup_range hsub2
    rw [List.length_range] at this
    omega
  · intro hn k hk hc
    have hkn : k ∉ dn := fun hm => by have := (hiff k hk).2 hm; omega
    have hnd2 : (k :: dn).Nodup := List.nodup_cons.2 ⟨hkn, hnd⟩
    have hsub3 : ∀ v ∈ (k :: dn), v ∈ List.range n := fun v hv => by
      rcases List.mem_cons.1 hv with rfl | hv
      · exact List.mem_range.2 hk
      · exact hsub v hv
    have := nodup_len hnd2 hsub3
    rw [List.length_range] at this
    simp at this
    omega
end Go.AM.Ch
