/- A part of the proof: U1 U3 U4 U6 U7 U8 U9 U10 U11 U12 U13 U14. -/
import Derived.Test.YtmegimhfoedcdaaPc
import Derived.Test.YtmegimhfoedcdaaM3
set_option linter.unusedVariables false
set_option linter.unusedSimpArgs false
set_option linter.unusedSectionVars false
namespace Go.AM.Ch
set_option maxHeartbeats 1000000
theorem f53 (a lo hi : Int) (m : Nat) (hm : 1 ≤ m) : evF tab it m 53 [.int .i64 a, .int .i64 lo, .int .i64 hi] [] = some (.bool (decide (lo ≤ a ∧ a ≤ hi)), []) := by
  obtain ⟨m, rfl⟩ : ∃ j, m = j + 1 := ⟨m - 1, by omega⟩
  refine f_enter rfl rfl ?_
  repeat' first
 | (apply s_mov; exact aW)
 | (apply s_gT; exact rfl)
 | (apply s_gF; exact rfl)
 | (apply c_nil)
 | (apply s_pickT; exact rfl; exact aW)
 | (apply s_pickF; exact rfl; exact aW)
 | (apply s_leq; exact rfl; all_goals (intro _; try (exfalso; omega)))
 | (apply s_geq; exact rfl; all_goals (intro _; try (exfalso; omega)))
 | (apply c_seq)
 | (apply c_reg)
 | (apply c_ret)
 | (with_reducible apply k_c)
  all_goals refine fin_t (by (conv => lhs; whnf)) (by rfl) ?_
  all_goals first | exact leafT (by omega) | exact leafF (by omega)
theorem c53 {m : Nat} (hm : 1 ≤ m) (a lo hi : Int) (H : Heap) : callPure (evF tab it m) true 53 [.int .i64 a, .int .i64 lo, .int .i64 hi] H = some (.bool (decide (lo ≤ a ∧ a ≤ hi)), H) :=
  callPure_free rfl (by simp) (f53 a lo hi m hm) rfl
set_option maxHeartbeats 1000000
theorem f19 {x : AV} {l : List Int} (hx : IsL x l) (m : Nat) (hm : 1 ≤ m) : evF tab it m 19 [x] [] = some (ownV 0 (iL (l.take 12)), owH (iL (l.take 12))) := by
  obtain ⟨m, rfl⟩ : ∃ j, m = j + 1 := ⟨m - 1, by omega⟩
  have fx := hx.free
  refine f_enter rfl rfl ?_
  repeat' first
 | (apply s_mov; exact aW)
 | (apply c_nil)
 | (apply s_pn; exact aO; exact p_slc0 (by assumption) (by omega))
 | (apply s_len; exact aW; exact aI)
 | (apply s_pd; exact aW)
 | (apply c_seq)
 | (apply c_reg)
 | (with_reducible apply k_c)
  generalize hk : (if (12 : Int) < ↑l.length then (12 : Int) else ↑l.length) = k
  have ht : l.take 12 = l.take k.toNat := by
    subst hk
    split
    · rfl
    · rw [Int.toNat_natCast, List.take_length, List.take_of_length_le (by omega)]
  have hkl : 0 ≤ k ∧ k ≤ l.length ∧ k ≤ 12 := by subst hk; split <;> omega
  rw [ht]
  rcases Int.lt_or_le 0 k with h | h
  · rw [tkL_rd hx ⟨h, hkl.2.1⟩]
    refine s_en (by exact aO) (e_app_nil rfl (by omega) (by unfold most; omega)) ?_
    repeat' first
 | (apply s_mov; exact aW)
 | (apply c_nil)
 | (apply c_ret)
 | (with_reducible apply k_c)
    have hll : (l.take k.toNat).length = k.toNat := by rw [List.length_take]; omega
    rcases hc : l.take k.toNat with _ | ⟨a, r⟩
    · rw [hc] at hll; simp at hll; omega
    · rw [hc] at hll
      simp only [List.length_cons] at hll
      simp [finish, ress, resOf, look, tupOf, iL, ownV, owH, ← hll, gc, subHeap, reach_new, reach_end, rangeL, roots, boxCells, nodupB, posOf, renL, AV.ren, pickO, renH, renO]
  · have : k = 0 := by omega
    subst this
    obtain ⟨g1, g2⟩ := tkL_len hx
    refine s_en (by exact aO) (e_app_none g1 g2) ?_
    repeat' first
 | (apply s_mov; exact aW)
 | (apply c_nil)
 | (apply c_ret)
 | (with_reducible apply k_c)
    refine fin_t (by (conv => lhs; whnf)) (by rfl) (by simp [iL, ownV, owH])
set_option maxHeartbeats 1000000
def fi (Q : Int → Bool) : List Int → Nat → Int
  | [], _ => -1
  | x :: l, k => if Q x = true then k else fi Q l (k + 1)
theorem fi_pos (Q : Int → Bool) : ∀ (l : List Int) (k : Nat), 0 ≤ fi Q l k ↔ ∃ x ∈ l, Q x = true
  | [], k => by simp [fi]
  | x :: l, k => by
    have := fi_pos Q l (k + 1)
    simp only [fi]
    split
    · rename_i h; simp; exact .inl h
    · rename_i h; rw [this]; simp [h]
theorem drop_getI {F : List Int} {i : Nat} (h : i < F.length) : F.drop i = getI F i :: F.drop (i + 1) := by
  rw [getI_nat]
  simp [List.getD, h]
set_option maxHeartbeats 1000000
def sumTo (f : Nat → Int) : Nat → Int
  | 0 => 0
  | k + 1 => sumTo f k + f k
theorem sumTo_le {f : Nat → Int} {M : Int} : ∀ {n : Nat}, (∀ j, j < n → -M ≤ f j ∧ f j ≤ M) → -(n * M) ≤ sumTo f n ∧ sumTo f n ≤ n * M
  | 0, _ => by simp [sumTo]
  | n + 1, h => by
    have a := sumTo_le (n := n) fun j hj => h j (by omega)
    have b := h n (by omega)
    have e : ((n + 1 : Nat) : Int) * M = n * M + M := by push_cast; rw [Int.add_mul, Int.one_mul]
    simp only [sumTo]
    rw [e]
    omega
theorem sumTo_congr {f g : Nat → Int} : ∀ {n : Nat}, (∀ j, j < n → f j = g j) → sumTo f n = sumTo g n
  | 0, _ => rfl
  | n + 1, h => by simp only [sumTo]; rw [sumTo_congr fun j hj => h j (by omega), h n (by omega)]
def sumI (l : List Int) : Int := sumTo (fun j => getI l (j : Int)) l.length
set_option maxHeartbeats 2000000
theorem p_ixO {H : Heap} {id n i : Nat} (hi : i < n) : evP H (.idxA 1) [.sl id 1 0 n, .int .i64 (i : Int)] = some (.ptr id i) := by
  simp [evP, idxSl, hi]
theorem p_ldO {H : Heap} {id : Nat} {l : List Int} {i : Nat} (h : H.data? id = some (iL l)) (hi : i < l.length) : evP H (.ld false 1) [.ptr id i] = some (.int .i64 (getI l (i : Int))) := by
  have : H.cells? id = some (iL l) := cells_of_data h
  have hl := iL_len l
  have e : ((iL l).drop i).take 1 = [.int .i64 (getI l (i : Int))] := by
    rw [List.drop_eq_getElem_cons (by omega), getI_nat]
    simp [iL, List.getD, hi]
  have hg : getRow H id i 1 = some [.int .i64 (getI l (i : Int))] := by
    unfold getRow
    rw [this, Option.bind_some, if_pos (by omega), e]
  simp [evP, ldc, hg, wholeOf]
theorem e_stO {call : CallF} {H : Heap} {id : Nat} {l : List Int} {i : Nat} {v : Int} (h : H.data? id = some (iL l)) (hi : i < l.length) : evE call H (.st 1) [.ptr id i, .int .i64 v] = some (.undef, H.set id (some (.data (iL (l.set i v))))) := by
  have := e_stI (call := call) (v := v) (i := (i : Int)) h (by simpa using hi)
  simpa using this
theorem getI_set {l : List Int} {i j : Nat} {v : Int} (hi : i < l.length) : getI (l.set i v) (j : Int) = if j = i then v else getI l (j : Int) := by
  rw [getI_nat, getI_nat]
  by_cases h : j = i
  · subst h; simp [List.getD, hi]
  · rw [if_neg h]; simp [List.getD, List.getElem?_set_ne (Ne.symm h)]
def wt (b : List (List Int)) (t : List Int) (v k : Nat) : Int := getI t (v : Int) * getI (getLL b (v : Int)) (k : Int)
def mid (b : List (List Int)) (s t : List Int) (v k i : Nat) : Int :=
  getI s (i : Int) - (if i < v then sumTo (wt b t i) b.length else if i = v then sumTo (wt b t v) k else 0) + sumTo (fun j => wt b t j i) v + (if i < k then wt b t v i else 0)
structure Bd (b : List (List Int)) : Prop where
  len : b.length ≤ 12
  row : ∀ v : Nat, v < b.length → (getLL b (v : Int)).length = b.length
  val : ∀ v k : Nat, v < b.length → k < b.length → 0 ≤ getI (getLL b (v : Int)) (k : Int) ∧ getI (getLL b (v : Int)) (k : Int) ≤ 3
attribute [local go_sem] gc subHeap reach_skip ren_free reach_new reach_newp reach_end rangeL roots boxCells nodupB posOf renL AV.ren pickO renH renO looks look bindEnv envOf reach_int reach_bool reach_nilS reach_rd putRow cells_sl cells_int cells_bool cells_nilS cells_rd cells_agg reach_agg reach_tup idFreeL idf_sl idf_ptr idf_int idf_bool idf_nilS idf_rd reach_fn reach_mp cells_fn cells_ptr cells_mp idf_mp idf_fn idf_agg idf_tup
set_option maxHeartbeats 4000000
def apl (b : List (List Int)) (s t : List Int) : List Int := (List.range b.length).map fun i => mid b s t b.length 0 i
theorem p_lenI {H : Heap} {x : AV} {l : List Int} (h : IsL x l) : evP H .len [x] = some (.int .i64 ((l.length : Nat) : Int)) := by cases h <;> rfl
set_option maxHeartbeats 4000000
def Sym (b : List (List Int)) : Prop := ∀ v k : Nat, v < b.length → k < b.length → getI (getLL b (v : Int)) (k : Int) = getI (getLL b (k : Int)) (v : Int)
theorem sumTo_mul (a : Int) (f : Nat → Int) : ∀ n, a * sumTo f n = sumTo (fun k => a * f k) n
  | 0 => by simp [sumTo]
  | n + 1 => by simp only [sumTo]; rw [Int.mul_add, sumTo_mul a f n]
theorem apl_ref {b : List (List Int)} (hb : Bd b) (hsy : Sym b) (s t : List Int) {i : Nat} (hi : i < b.length) :
    mid b s t b.length 0 i = getI s (i : Int) - getI t (i : Int) * sumI (getLL b (i : Int)) + sumTo (fun j => getI t (j : Int) * getI (getLL b (i : Int)) (j : Int)) b.length := by
  unfold mid
  rw [if_pos hi, if_neg (Nat.not_lt_zero i), Int.add_zero]
  have e1 : sumTo (wt b t i) b.length = getI t (i : Int) * sumI (getLL b (i : Int)) := by
    unfold sumI
    rw [hb.row i hi, sumTo_mul]
    rfl
  have e2 : sumTo (fun j => wt b t j i) b.length = sumTo (fun j => getI t (j : Int) * getI (getLL b (i : Int)) (j : Int)) b.length := sumTo_congr fun j hj => by
    unfold wt
    rw [hsy j i hj hi]
  rw [e1, e2]
theorem sumTo_nn {f : Nat → Int} : ∀ {n : Nat}, (∀ j, j < n → 0 ≤ f j) → 0 ≤ sumTo f n
  | 0, _ => Int.le_refl 0
  | n + 1, h => by
    have a := sumTo_nn (n := n) fun j hj => h j (by omega)
    have b := h n (by omega)
    simp only [sumTo]
    omega
set_option maxHeartbeats 4000000
theorem f109 {x : AV} {F : List Int} {w : Int} (hx : IsL x F) (hl : F.length ≤ 1000) {m : Nat} (hm : 2000 ≤ m) :
    evF tab it (m + 1) 109 [x, .int .i64 w] [] = some (.int .i64 (fi (fun v => decide (w = v)) F 0), []) := by
  have fx := hx.free
  generalize hR : fi (fun v => decide (w = v)) F 0 = R
  refine f_enter rfl rfl ?_
  generalize evF tab it m = call at *
  repeat' first
 | (apply s_mov; exact aW)
 | (apply c_nil)
 | (apply s_len; exact aW; exact aI)
 | (apply c_seq)
 | (apply c_reg)
 | (apply c_block)
 | (with_reducible apply k_c)
  refine c_loop ?_
  refine loop_gc (σ := Nat) (fun i => [x, .int .i64 w, .int .i64 (F.length : Int), .int .i64 (i : Int)]) (fun _ => []) (fun i => i ≤ F.length ∧ fi (fun v => decide (w = v)) (F.drop i) i = R) (fun i => F.length - i) ?_ _ 0 _ _ ⟨by omega, hR⟩ (by omega) (gc_to rfl (by simp [idFreeL, AV.idFree, fx]))
  intro i ⟨hi, hr⟩ K hK
  by_cases hiF : i < F.length
  · rw [drop_getI hiF] at hr
    simp only [fi, decide_eq_true_eq] at hr
    by_cases hq : w = getI F (i : Int)
    · rw [if_pos hq] at hr
      repeat' first
 | (apply s_mov; exact aW)
 | (apply c_nil)
 | (apply s_lss; exact rfl; all_goals (intro _; try (exfalso; omega)))
 | (apply s_eql; exact rfl; all_goals (intro _; try (exfalso; omega)))
 | (apply s_idx; exact aW; exact rfl; exact aI; omega)
 | (apply s_ldI; exact rfl; omega)
 | (apply c_seq)
 | (apply c_reg)
 | (apply c_block)
 | (apply c_skip)
 | (apply c_ret)
 | (apply c_condT; exact rfl)
 | (with_reducible apply k_c)
      all_goals first | exact fin_t (by (conv => lhs; whnf)) (by rfl) (by rw [hr]) | (exfalso; omega)
    · rw [if_neg hq] at hr
      repeat' first
 | (apply s_mov; exact aW)
 | (apply c_nil)
 | (apply s_lss; exact rfl; all_goals (intro _; try (exfalso; omega)))
 | (apply s_eql; exact rfl; all_goals (intro _; try (exfalso; omega)))
 | (apply s_add; exact rfl; omega)
 | (apply s_idx; exact aW; exact rfl; exact aI; omega)
 | (apply s_ldI; exact rfl; omega)
 | (apply c_seq)
 | (apply c_reg)
 | (apply c_block)
 | (apply c_skip)
 | (apply c_condT; exact rfl)
 | (apply c_condF; exact rfl)
 | (with_reducible apply k_c)
      all_goals first | exact hK (i + 1) _ _ ⟨by omega, hr⟩ (by omega) (gc_to rfl (by simp [idFreeL, AV.idFree, fx])) | (exfalso; omega)
  · obtain rfl : F.length = i := by omega
    rw [List.drop_length] at hr
    simp only [fi] at hr
    repeat' first
 | (apply s_mov; exact aW)
 | (apply c_nil)
 | (apply s_lss; exact rfl; all_goals (intro _; try (exfalso; omega)))
 | (apply c_seq)
 | (apply c_reg)
 | (apply c_exitH)
 | (apply c_ret)
 | (apply c_condF; exact rfl)
 | (apply c_preF; exact aK; exact aF)
 | (with_reducible apply k_c)
    exact fin_t (by (conv => lhs; whnf)) (by rfl) (by rw [← hr])
theorem c83 {x : AV} {F : List Int} {w : Int} (hx : IsL x F) (hl : F.length ≤ 1000) {m : Nat} (hm : 2010 ≤ m) (H : Heap) : callPure (evF tab it m) true 83 [x, .int .i64 w] H = some (.bool (decide (w ∈ F)), H) := by
  have f83 : evF tab it m 83 [x, .int .i64 w] [] = some (.bool (decide (w ∈ F)), []) := by
    obtain ⟨m, rfl⟩ : ∃ j, m = j + 2 := ⟨m - 2, by omega⟩
    have e109 := fun H => callPure_free (H := H) (by simp [idFreeL, AV.idFree, hx.free]) (by simp) (f109 (w := w) hx hl (m := m) (by omega)) rfl
    have hp := fi_pos (fun v => decide (w = v)) F 0
    have hp' : 0 ≤ fi (fun v => decide (w = v)) F 0 ↔ w ∈ F := by rw [hp]; simp
    generalize fi (fun v => decide (w = v)) F 0 = R at *
    refine f_enter rfl rfl ?_
    generalize evF tab it (m + 1) = call at *
    repeat' first
 | (apply s_mov; exact aW)
 | (apply c_nil)
 | (apply s_geq; exact rfl; all_goals (intro _; try (exfalso; omega)))
 | (apply s_cn; exact aO; exact e109 _)
 | (apply c_seq)
 | (apply c_reg)
 | (apply c_ret)
 | (with_reducible apply k_c)
    · exact fin_t (by (conv => lhs; whnf)) (by rfl) (leafT (hp'.1 (by omega)))
    · exact fin_t (by (conv => lhs; whnf)) (by rfl) (leafF fun h => by have := hp'.2 h; omega)
  exact callPure_free (by simp [idFreeL, AV.idFree, hx.free]) (by simp) f83 rfl
def bIn (b : List (List Int)) (v : Nat) : Nat → List Int × List Nat → List Int × List Nat
  | 0, st => st
  | k + 1, st =>
    let r := bIn b v k st
    if 0 < getI (getLL b (v : Int)) (k : Int) ∧ getI r.1 (k : Int) < 0 then (r.1.set k (getI r.1 (v : Int) + 1), r.2 ++ [k]) else r
set_option maxHeartbeats 1000000
theorem nodup_len : ∀ {l1 l2 : List Nat}, l1.Nodup → (∀ x ∈ l1, x ∈ l2) → l1.length ≤ l2.length
  | [], _, _, _ => Nat.zero_le _
  | x :: l1, l2, hn, h => by
    obtain ⟨h1, h2⟩ := List.nodup_cons.1 hn
    have hx := h x List.mem_cons_self
    have := nodup_len (l2 := l2.erase x) h2 fun y hy => by
      have hne : y ≠ x := fun e => h1 (e ▸ hy)
      exact (List.mem_erase_of_ne hne).2 (h y (List.mem_cons_of_mem _ hy))
    have e := List.length_erase_of_mem hx
    have hp := List.length_pos_of_mem hx
    simp only [List.length_cons]
    omega
def negs (d : List Int) : Nat := d.countP (fun x => decide (x < 0))
theorem negs_set {d : List Int} {k : Nat} {a : Int} (hk : k < d.length) (h0 : getI d (k : Int) < 0) (ha : 0 ≤ a) : negs (d.set k a) + 1 = negs d := by
  have hk' : d[k] < 0 := by
    rw [getI_nat] at h0
    simpa [List.getD, hk] using h0
  unfold negs
  rw [List.countP_set hk]
  have hp : 0 < d.countP (fun x => decide (x < 0)) := List.countP_pos_iff.2 ⟨d[k], List.getElem_mem hk, by simpa using hk'⟩
  simp only [hk', decide_true, if_true]
  have : ¬ a < 0 := by omega
  simp only [this, decide_false, Bool.false_eq_true, if_false]
  omega
structure Bfs (n : Nat) (d : List Int) (dn q : List Nat) : Prop where
  len : d.length = n
  low : ∀ k : Nat, k < n → -1 ≤ getI d (k : Int)
  nd : (dn ++ q).Nodup
  lt : ∀ v ∈ dn ++ q, v < n
  iff : ∀ k : Nat, k < n → (0 ≤ getI d (k : Int) ↔ k ∈ dn ++ q)
  far : ∀ k : Nat, k < n → getI d (k : Int) ≤ (dn ++ q).length
theorem Bfs.step {n : Nat} {d : List Int} {dn q : List Nat} (h : Bfs n d dn q) {v k : Nat} (hv : v < n) (hk : k < n) (h0 : getI d (k : Int) < 0) (hvd : 0 ≤ getI d (v : Int)) : Bfs n (d.set k (getI d (v : Int) + 1)) dn (q ++ [k]) := by
  have hkl : k < d.length := by rw [h.len]; exact hk
  have hkn : k ∉ dn ++ q := fun hc => by have := (h.iff k hk).2 hc; omega
  have hfv := h.far v hv
  refine ⟨by rw [List.length_set]; exact h.len, fun j hj => ?_, ?_, fun w hw => ?_, fun j hj => ?_, fun j hj => ?_⟩
  · rw [getI_set hkl]
    split
    · omega
    · exact h.low j hj
  · rw [← List.append_assoc, List.nodup_append]
    exact ⟨h.nd, by simp, fun a ha c hc e => by simp at hc; subst hc; subst e; exact hkn ha⟩
  · rw [← List.append_assoc] at hw
    rcases List.mem_append.1 hw with hw | hw
    · exact h.lt w hw
    · simp at hw; subst hw; exact hk
  · rw [getI_set hkl, ← List.append_assoc]
    by_cases e : j = k
    · subst e
      rw [if_pos rfl]
      exact ⟨fun _ => by simp, fun _ => by omega⟩
    · rw [if_neg e, h.iff j hj]
      simp [e]
  · rw [getI_set hkl]
    have : (dn ++ (q ++ [k])).length = (dn ++ q).length + 1 := by simp; omega
    rw [this]
    split
    · push_cast; omega
    · have := h.far j hj; push_cast; omega
theorem bIn_ok {n : Nat} {b : List (List Int)} {d : List Int} {dn q : List Nat} {v : Nat} (h : Bfs n d dn q) (hv : v < n) (hvd : 0 ≤ getI d (v : Int)) : ∀ k, k ≤ n →
    Bfs n (bIn b v k (d, q)).1 dn (bIn b v k (d, q)).2 ∧ getI (bIn b v k (d, q)).1 (v : Int) = getI d (v : Int) ∧ 2 * negs (bIn b v k (d, q)).1 + (bIn b v k (d, q)).2.length ≤ 2 * negs d + q.length
  | 0, _ => ⟨h, rfl, Nat.le_refl _⟩
  | k + 1, hk => by
    obtain ⟨h1, h2, h3⟩ := bIn_ok (b := b) h hv hvd k (by omega)
    simp only [bIn]
    split
    · rename_i hc
      have hkl : k < (bIn b v k (d, q)).1.length := by rw [h1.len]; omega
      have hne : v ≠ k := fun e => by subst e; omega
      refine ⟨h1.step hv (by omega) hc.2 (by omega), ?_, ?_⟩
      · rw [getI_set hkl, if_neg hne]; exact h2
      · have := negs_set hkl hc.2 (a := getI (bIn b v k (d, q)).1 (v : Int) + 1) (by omega)
        simp only [List.length_append, List.length_cons, List.length_nil]
        omega
    · exact ⟨h1, h2, h3⟩
def bfsF (b : List (List Int)) (n : Nat) : Nat → List Int → List Nat → List Nat → List Int × List Nat
  | 0, d, dn, _ => (d, dn)
  | _ + 1, d, dn, [] => (d, dn)
  | f + 1, d, dn, v :: q => bfsF b n f (bIn b v n (d, q)).1 (dn ++ [v]) (bIn b v n (d, q)).2
theorem Bfs.pop {n : Nat} {b : List (List Int)} {d : List Int} {dn q : List Nat} {v : Nat} (h : Bfs n d dn (v :: q)) : Bfs n (bIn b v n (d, q)).1 (dn ++ [v]) (bIn b v n (d, q)).2 ∧ 2 * negs (bIn b v n (d, q)).1 + (bIn b v n (d, q)).2.length < 2 * negs d + (v :: q).length := by
  have hv : v < n := h.lt v (by simp)
  have hvd := (h.iff v hv).2 (by simp)
  have e : dn ++ v :: q = dn ++ [v] ++ q := by simp
  have h' : Bfs n d (dn ++ [v]) q := ⟨h.len, h.low, e ▸ h.nd, e ▸ h.lt, e ▸ h.iff, e ▸ h.far⟩
  obtain ⟨a, _, c⟩ := bIn_ok (b := b) h' hv hvd n (Nat.le_refl _)
  exact ⟨a, by simp only [List.length_cons]; omega⟩
theorem Bfs.done {n : Nat} {d : List Int} {dn : List Nat} (h : Bfs n d dn []) : (∀ k : Nat, k < n → getI d (k : Int) ≠ -1) ↔ dn.length = n := by
  have hnd : dn.Nodup := by simpa using h.nd
  have hlt : ∀ v ∈ dn, v < n := fun v hv => h.lt v (by simp [hv])
  have hiff : ∀ k : Nat, k < n → (0 ≤ getI d (k : Int) ↔ k ∈ dn) := fun k hk => by simpa using h.iff k hk
  have hsub : ∀ v ∈ dn, v ∈ List.range n := fun v hv => List.mem_range.2 (hlt v hv)
  have hle := nodup_len hnd hsub
  rw [List.length_range] at hle
  constructor
  · intro ha
    have hsub2 : ∀ k ∈ List.range n, k ∈ dn := fun k hk => by
      have hk := List.mem_range.1 hk
      have := h.low k hk
      have := ha k hk
      exact (hiff k hk).1 (by omega)
    have := nodup_len List.nodup_range hsub2
    rw [List.length_range] at this
    omega
  · intro hn k hk hc
    have hkn : k ∉ dn := fun hm => by have := (hiff k hk).2 hm; omega
    have hnd2 : (k :: dn).Nodup := List.nodup_cons.2 ⟨hkn, hnd⟩
    have hsub3 : ∀ v ∈ (k :: dn), v ∈ List.range n := fun v hv => by
      rcases List.mem_cons.1 hv with rfl | hv
      · exact List.mem_range.2 hk
      · exact hsub v hv
    have := nodup_len hnd2 hsub3
    rw [List.length_range] at this
    simp at this
    omega
set_option maxHeartbeats 4000000
def nI (l : List Nat) : List Int := l.map fun (k : Nat) => (k : Int)
theorem nI_len (l : List Nat) : (nI l).length = l.length := by simp [nI]
theorem e_appO {call : CallF} {H : Heap} {id o k : Nat} {pr : List Int} {q : List Int} {a : Int} (hH : H.data? id = some (iL (pr ++ q))) (ho : pr.length = o) (hk : q.length = k) (hm : k + 1 ≤ most) :
    evE call H (.app false 1 8) [.sl id 1 o k, .rd 1 1 [.int .i64 a]] = some (.sl (H.set id none).length 1 0 (k + 1), H.set id none ++ [some (.data (iL (q ++ [a])))]) := by
  subst ho; subst hk
  have e1 : iL (pr ++ q) = iL pr ++ iL q := by simp [iL]
  have e2 : iL (q ++ [a]) = iL q ++ [.int .i64 a] := by simp [iL]
  have l1 := iL_len pr
  have l2 := iL_len q
  rw [e1] at hH
  rw [e2]
  have e3 : (List.drop pr.length (iL pr ++ iL q)) = iL q := by rw [← l1]; simp
  have e4 : (iL q).take q.length = iL q := by rw [← l2]; simp
  simp [evE, appOf, szOk, lenOf, rowOf, hm, killRow, newRow, hH, l1, l2, e3, e4]
theorem p_ixq {H : Heap} {id o k : Nat} : evP H (.idxA 1) [.sl id 1 o (k + 1), .int .i64 0] = some (.ptr id o) := by
  simp [evP, idxSl]
theorem p_ldq {H : Heap} {id : Nat} {pr q : List Int} {a : Int} (hH : H.data? id = some (iL (pr ++ a :: q))) : evP H (.ld false 1) [.ptr id pr.length] = some (.int .i64 a) := by
  rw [p_ldO hH (by simp), getI_nat]
  simp [List.getD]
theorem p_slq {H : Heap} {id k : Nat} {pr q : List Int} {a : Int} (hH : H.data? id = some (iL (pr ++ a :: q))) (hk : q.length = k) : evP H (.slc 1 true false) [.sl id 1 pr.length (k + 1), .int .i64 1] = some (.sl id 1 (pr ++ [a]).length k) := by
  subst hk
  have hc := cells_of_data hH
  have hl := iL_len (pr ++ a :: q)
  simp [evP, slcOf, natOf, lenOf]
def d0 (n q0 : Nat) : List Int := (List.replicate n (-1)).set q0 0
theorem d0_get {n q0 k : Nat} (hq : q0 < n) (hk : k < n) : getI (d0 n q0) (k : Int) = if k = q0 then 0 else -1 := by
  unfold d0
  rw [getI_set (by simpa using hq)]
  split
  · rfl
  · rw [getI_nat]; simp [List.getD, hk]
theorem Bfs.init {n q0 : Nat} (hq : q0 < n) : Bfs n (d0 n q0) [] [q0] := by
  refine ⟨by simp [d0], fun k hk => ?_, by simp, fun v hv => ?_, fun k hk => ?_, fun k hk => ?_⟩
  · rw [d0_get hq hk]; split <;> omega
  · simp at hv; omega
  · rw [d0_get hq hk]; split <;> simp <;> omega
  · rw [d0_get hq hk]; split <;> simp <;> omega
theorem negs_le (d : List Int) : negs d ≤ d.length := List.countP_le_length
def dist (b : List (List Int)) (q0 : Nat) : List Int × List Nat := bfsF b b.length (2 * b.length + 2) (d0 b.length q0) [] [q0]
set_option maxHeartbeats 8000000
theorem f84 {x : AV} {b : List (List Int)} (hx : IsLL x b) (hb : Bd b) {q0 : Nat} (hq : q0 < b.length) {m : Nat} (hm : 200 ≤ m) : evF tab it m 84 [x, .int .i64 (q0 : Int)] [] = some (.sl 0 1 0 b.length, [some (.data (iL (dist b q0).1))]) := by
  obtain ⟨m, rfl⟩ : ∃ j, m = j + 1 := ⟨m - 1, by omega⟩
  have fx := hx.free
  have hl12 := hb.len
  have mk := fun call H => @e_mkI call H b.length (by unfold most; omega)
  have lx : ∀ H, evP H .len [x] = some (.int .i64 ((b.length : Nat) : Int)) := fun H => by cases hx <;> rfl
  have bld : ∀ call H (a : Int), evE call H (.bldS true false 1 1 [.int .i64 0] [(0, 1)]) [.int .i64 a] = some (.sl H.length 1 0 1, H ++ [some (.data [.int .i64 a])]) := fun call H a => rfl
  generalize hR : dist b q0 = R
  refine f_enter rfl rfl ?_
  generalize evF tab it m = call at *
  have gcO : ∀ (v : Nat) (C : List AV), gc 0 [x, .int .i64 (q0 : Int), .sl 0 1 0 b.length, .int .i64 ((b.length : Nat) : Int), .int .i64 (v : Int)] [some (.data C)] = some ([x, .int .i64 (q0 : Int), .sl 0 1 0 b.length, .int .i64 ((b.length : Nat) : Int), .int .i64 (v : Int)], [some (.data C)]) := fun v C => by simp [go_sem, fx]
  repeat' first
 | (apply s_mov; exact aW)
 | (apply c_nil)
 | (apply s_pn; exact aO; exact lx _)
 | (apply s_en; exact aO; exact mk _ _)
 | (apply s_lenSl; exact rfl)
 | (apply c_seq)
 | (apply c_reg)
 | (apply c_block)
 | (with_reducible apply k_c)
  refine c_loop ?_
  refine loop_gc (σ := Nat × List Int) (fun p => [x, .int .i64 (q0 : Int), .sl 0 1 0 b.length, .int .i64 ((b.length : Nat) : Int), .int .i64 (p.1 : Int)]) (fun p => [some (.data (iL p.2))]) (fun p => p.1 ≤ b.length ∧ p.2.length = b.length ∧ ∀ i : Nat, i < p.1 → getI p.2 (i : Int) = -1) (fun p => b.length - p.1) ?_ _ (0, List.replicate b.length 0) _ _ ⟨by omega, by simp, by omega⟩ (by show b.length - 0 < _; omega) (gcO 0 _)
  intro ⟨v, out⟩ ⟨hv, hol, hout⟩ K hK
  dsimp only at hv hol hout hK ⊢
  by_cases hvn : v < b.length
  · have hs1 := fun (vv : Int) call H h => e_stO (call := call) (H := H) (id := 0) (l := out) (i := v) (v := vv) h (by omega)
    repeat' first
 | (apply s_mov; exact aW)
 | (apply c_nil)
 | (apply s_lss; exact rfl; all_goals (intro _; try (exfalso; omega)))
 | (apply s_add; exact rfl; omega)
 | (apply s_pn; exact aO; exact p_ixO hvn)
 | (apply s_st; exact aO; exact hs1 _ _ _ rfl)
 | (apply c_seq)
 | (apply c_reg)
 | (apply c_block)
 | (apply c_skip)
 | (apply c_condT; exact rfl)
 | (with_reducible apply k_c)
    refine hK (v + 1, out.set v (-1)) _ _ ⟨by omega, by simp [hol], fun i hi => ?_⟩ (by show b.length - (v + 1) < _; omega) (gcO (v + 1) _)
    dsimp only
    rw [getI_set (by omega)]
    split
    · rfl
    · exact hout i (by omega)
  · obtain rfl : v = b.length := by omega
    obtain rfl : out = List.replicate b.length (-1) := by
      refine List.ext_getElem (by simp [hol]) fun j h1 h2 => ?_
      have := hout j (by omega)
      rw [getI_nat] at this
      simpa [List.getD, h1] using this
    have hs1 := fun (vv : Int) call H h => e_stO (call := call) (H := H) (id := 0) (l := List.replicate b.length (-1)) (i := q0) (v := vv) h (by simpa using hq)
    repeat' first
 | (apply c_nil)
 | (apply s_lss; exact rfl; all_goals (intro _; try (exfalso; omega)))
 | (apply c_seq)
 | (apply c_reg)
 | (apply c_exitH)
 | (apply c_condF; exact rfl)
 | (with_reducible apply k_c)
    apply c_pre (vs := [x, .int .i64 (q0 : Int), .sl 0 1 0 b.length]) (H' := [some (.data (iL (List.replicate b.length (-1))))])
    · simp [go_sem, fx]
    repeat' first
 | (apply s_mov; exact aW)
 | (apply c_nil)
 | (apply s_pn; exact aO; exact p_ixO hq)
 | (apply s_st; exact aO; exact hs1 _ _ _ rfl)
 | (apply s_en; exact aO; exact bld _ _ _)
 | (apply c_seq)
 | (apply c_reg)
 | (apply c_block)
 | (with_reducible apply k_c)
    have gcQ : ∀ (o k : Nat) (C D : List AV), gc 0 [x, .sl 0 1 0 b.length, .sl 1 1 o k] [some (.data C), some (.data D)] = some ([x, .sl 0 1 0 b.length, .sl 1 1 o k], [some (.data C), some (.data D)]) := fun o k C D => by simp [go_sem, fx]
    have hn0 := negs_le (d0 b.length q0)
    have hd0 : (d0 b.length q0).length = b.length := by simp [d0]
    refine c_loop ?_
    refine loop_gc (σ := List Int × List Nat × List Nat × List Int) (fun p => [x, .sl 0 1 0 b.length, .sl 1 1 p.2.2.2.length p.2.2.1.length]) (fun p => [some (.data (iL p.1)), some (.data (iL (p.2.2.2 ++ nI p.2.2.1)))]) (fun p => Bfs b.length p.1 p.2.1 p.2.2.1 ∧ ∃ f, 2 * negs p.1 + p.2.2.1.length ≤ f ∧ bfsF b b.length f p.1 p.2.1 p.2.2.1 = R) (fun p => 2 * negs p.1 + p.2.2.1.length) ?_ _ (d0 b.length q0, [], [q0], []) _ _ ⟨Bfs.init hq, 2 * b.length + 2, by simp only [List.length_cons, List.length_nil]; omega, hR⟩ (by simp only [List.length_cons, List.length_nil]; omega) (gcQ 0 1 _ _)
    intro ⟨d, dn, q, pr⟩ ⟨hB, f, hf, hfR⟩ K2 hK2
    dsimp only at hB hf hfR hK2 ⊢
    have hdl := hB.len
    rcases q with _ | ⟨v, q⟩
    · have : R = (d, dn) := by rw [← hfR]; cases f <;> rfl
      subst this
      simp only [List.length_nil]
      repeat' first
 | (apply s_mov; exact aW)
 | (apply c_nil)
 | (apply s_gtr; exact rfl; all_goals (intro _; try (exfalso; omega)))
 | (apply s_lenSl; exact rfl)
 | (apply c_seq)
 | (apply c_reg)
 | (apply c_exitH)
 | (apply c_condF; exact rfl)
 | (with_reducible apply k_c)
      apply c_pre (vs := [.sl 0 1 0 b.length]) (H' := [some (.data (iL d))])
      · simp [go_sem]
      repeat' first
 | (apply s_mov; exact aW)
 | (apply c_nil)
 | (apply c_seq)
 | (apply c_reg)
 | (apply c_ret)
 | (with_reducible apply k_c)
      simp [finish, ress, resOf, look, tupOf, go_sem]
    · have hv : v < b.length := hB.lt v (by simp)
      have hvd := (hB.iff v hv).2 (by simp)
      have e0 : dn ++ v :: q = dn ++ [v] ++ q := by simp
      have hB' : Bfs b.length d (dn ++ [v]) q := ⟨hB.len, hB.low, e0 ▸ hB.nd, e0 ▸ hB.lt, e0 ▸ hB.iff, e0 ▸ hB.far⟩
      have hfar := hB.far v hv
      have hcap : ∀ {d1 : List Int} {dn1 q1 : List Nat}, Bfs b.length d1 dn1 q1 → (dn1 ++ q1).length ≤ b.length := fun h => by
        have := nodup_len h.nd fun w hw => List.mem_range.2 (h.lt w hw)
        rwa [List.length_range] at this
      have hcap0 := hcap hB
      obtain ⟨f, rfl⟩ : ∃ j, f = j + 1 := ⟨f - 1, by simp only [List.length_cons] at hf; omega⟩
      simp only [bfsF] at hfR
      obtain ⟨hpop, hdec⟩ := Bfs.pop (b := b) hB
      have hrow := hx.at (i := (v : Int)) ⟨by omega, by omega⟩
      have hrl := hb.row v hv
      have lr : ∀ H, evP H .len [llAt x (v : Int)] = some (.int .i64 ((b.length : Nat) : Int)) := fun H => by rw [← hrl]; exact p_lenI hrow
      have fr := hrow.free
      have hld := fun (H : Heap) (h : H.data? 1 = some (iL (pr ++ (v : Int) :: nI q))) => p_ldq (id := 1) h
      have hsl := fun (H : Heap) (h : H.data? 1 = some (iL (pr ++ (v : Int) :: nI q))) => p_slq (id := 1) (k := q.length) h (nI_len q)
      have ixq := fun H => p_ixq (H := H) (id := 1) (o := pr.length) (k := q.length)
      have e1 : pr ++ nI (v :: q) = pr ++ (v : Int) :: nI q := rfl
      have e2 : pr ++ (v : Int) :: nI q = pr ++ [(v : Int)] ++ nI q := by simp
      rw [e1]
      simp only [List.length_cons]
      repeat' first
 | (apply s_mov; exact aW)
 | (apply c_nil)
 | (apply s_gtr; exact rfl; all_goals (intro _; try (exfalso; omega)))
 | (apply s_pn; exact aO; exact ixq _)
 | (apply s_pn; exact aO; exact hld _ rfl)
 | (apply s_pn; exact aO; exact hsl _ rfl)
 | (apply s_pn; exact aO; exact lr _)
 | (apply s_lenSl; exact rfl)
 | (apply s_idxLL; exact aW; exact rfl; assumption; omega)
 | (apply s_ldLL; exact rfl; assumption; omega)
 | (apply c_seq)
 | (apply c_reg)
 | (apply c_block)
 | (apply c_skip)
 | (apply c_condT; exact rfl)
 | (with_reducible apply k_c)
      have gcI : ∀ (o k j : Nat) (C D : List AV), gc 0 [x, .sl 0 1 0 b.length, .sl 1 1 o k, .int .i64 (v : Int), llAt x (v : Int), .int .i64 ((b.length : Nat) : Int), .int .i64 (j : Int)] [some (.data C), some (.data D)] = some ([x, .sl 0 1 0 b.length, .sl 1 1 o k, .int .i64 (v : Int), llAt x (v : Int), .int .i64 ((b.length : Nat) : Int), .int .i64 (j : Int)], [some (.data C), some (.data D)]) := fun o k j C D => by simp [go_sem, fx, fr]
      rw [e2]
      refine c_loop ?_
      refine loop_gc (σ := Nat × List Int) (fun p => [x, .sl 0 1 0 b.length, .sl 1 1 p.2.length (bIn b v p.1 (d, q)).2.length, .int .i64 (v : Int), llAt x (v : Int), .int .i64 ((b.length : Nat) : Int), .int .i64 (p.1 : Int)]) (fun p => [some (.data (iL (bIn b v p.1 (d, q)).1)), some (.data (iL (p.2 ++ nI (bIn b v p.1 (d, q)).2)))]) (fun p => p.1 ≤ b.length) (fun p => b.length - p.1) ?_ _ (0, pr ++ [(v : Int)]) _ _ (Nat.zero_le _) (by show b.length - 0 < _; omega) (gcI _ _ 0 _ _)
      intro ⟨j, pr1⟩ hj K3 hK3
      dsimp only at hj hK3 ⊢
      obtain ⟨hB1, hv1, hm1⟩ := bIn_ok (b := b) hB' hv hvd j hj
      by_cases hjn : j < b.length
      · have hcap1 := hcap hB1
        have hstep : bIn b v (j + 1) (d, q) = if 0 < getI (getLL b (v : Int)) (j : Int) ∧ getI (bIn b v j (d, q)).1 (j : Int) < 0 then ((bIn b v j (d, q)).1.set j (getI (bIn b v j (d, q)).1 (v : Int) + 1), (bIn b v j (d, q)).2 ++ [j]) else bIn b v j (d, q) := rfl
        have hK31 := fun pr2 : List Int => hK3 (j + 1, pr2)
        dsimp only at hK31
        simp only [hstep] at hK31
        have hlow := hB1.low j hjn
        have hlow2 := hB.far v hv
        generalize bIn b v j (d, q) = st at *
        obtain ⟨d1, q1⟩ := st
        dsimp only at *
        have hl1 := hB1.len
        have ldk := fun (H : Heap) (h : H.data? 0 = some (iL d1)) => p_ldO (id := 0) (i := j) h (by omega)
        have ldv := fun (H : Heap) (h : H.data? 0 = some (iL d1)) => p_ldO (id := 0) (i := v) h (by omega)
        have stk := fun (vv : Int) call (H : Heap) (h : H.data? 0 = some (iL d1)) => e_stO (call := call) (H := H) (id := 0) (l := d1) (i := j) (v := vv) h (by omega)
        have apq := fun call (H : Heap) (h : H.data? 1 = some (iL (pr1 ++ nI q1))) => e_appO (call := call) (a := (j : Int)) (id := 1) h rfl (nI_len q1) (by simp at hcap1; unfold most; omega)
        by_cases hc : 0 < getI (getLL b (v : Int)) (j : Int) ∧ getI d1 (j : Int) < 0
        · simp only [if_pos hc] at hK31
          obtain ⟨hc1, hc2⟩ := hc
          repeat' first
 | (apply s_mov; exact aW)
 | (apply s_gT; exact rfl)
 | (apply c_nil)
 | (apply s_pickT; exact rfl; exact aW)
 | (apply s_lss; exact rfl; all_goals (intro _; try (exfalso; omega)))
 | (apply s_gtr; exact rfl; all_goals (intro _; try (exfalso; omega)))
 | (apply s_add; exact rfl; omega)
 | (apply s_pn; exact aO; exact p_ixO hjn)
 | (apply s_pn; exact aO; exact p_ixO hv)
 | (apply s_pn; exact aO; exact ldk _ rfl)
 | (apply s_pn; exact aO; exact ldv _ rfl)
 | (apply s_st; exact aO; exact stk _ _ _ rfl)
 | (apply s_en; exact aO; exact e_bld1 rfl rfl rfl rfl)
 | (apply s_en; exact aO; exact apq _ _ rfl)
 | (apply s_idx; exact aW; exact rfl; exact aI; omega)
 | (apply s_ldI; exact rfl; omega)
 | (apply c_seq)
 | (apply c_reg)
 | (apply c_block)
 | (apply c_skip)
 | (apply c_condT; exact rfl)
 | (with_reducible apply k_c)
          have eq1 : nI q1 ++ [(j : Int)] = nI (q1 ++ [j]) := by simp [nI]
          rw [eq1] at *
          refine hK31 [] _ _ (by omega) (by show b.length - (j + 1) < _; omega) ?_
          simp [go_sem, fx, fr]
        · simp only [if_neg hc] at hK31
          repeat' first
 | (apply s_mov; exact aW)
 | (apply s_gT; exact rfl)
 | (apply s_gF; exact rfl)
 | (apply c_nil)
 | (apply s_pickT; exact rfl; exact aW)
 | (apply s_pickF; exact rfl; exact aW)
 | (apply s_lss; exact rfl; all_goals (intro _; try (exfalso; omega)))
 | (apply s_gtr; exact rfl; all_goals (intro _; try (exfalso; omega)))
 | (apply s_add; exact rfl; omega)
 | (apply s_pn; exact aO; exact p_ixO hjn)
 | (apply s_pn; exact aO; exact ldk _ rfl)
 | (apply s_idx; exact aW; exact rfl; exact aI; omega)
 | (apply s_ldI; exact rfl; omega)
 | (apply c_seq)
 | (apply c_reg)
 | (apply c_block)
 | (apply c_skip)
 | (apply c_condT; exact rfl)
 | (apply c_condF; exact rfl)
 | (with_reducible apply k_c)
          all_goals first | exact hK31 pr1 _ _ (by omega) (by show b.length - (j + 1) < _; omega) (gcI _ _ (j + 1) _ _) | (exfalso; omega) | skip
      · obtain rfl : j = b.length := by omega
        repeat' first
 | (apply c_nil)
 | (apply s_lss; exact rfl; all_goals (intro _; try (exfalso; omega)))
 | (apply c_seq)
 | (apply c_reg)
 | (apply c_exitH)
 | (apply c_condF; exact rfl)
 | (with_reducible apply k_c)
        exact hK2 ((bIn b v b.length (d, q)).1, dn ++ [v], (bIn b v b.length (d, q)).2, pr1) _ _ ⟨hpop, f, by dsimp only; omega, hfR⟩ (by dsimp only; exact hdec) (gcQ _ _ _ _)
set_option maxHeartbeats 4000000
theorem bIn_len {b : List (List Int)} {v : Nat} : ∀ (k : Nat) (st : List Int × List Nat), (bIn b v k st).1.length = st.1.length
  | 0, st => rfl
  | k + 1, st => by
    simp only [bIn]
    split
    · simp [bIn_len k st]
    · exact bIn_len k st
theorem bfsF_len {b : List (List Int)} {n : Nat} : ∀ (f : Nat) (d : List Int) (dn q : List Nat), (bfsF b n f d dn q).1.length = d.length
  | 0, d, dn, q => rfl
  | f + 1, d, dn, [] => rfl
  | f + 1, d, dn, v :: q => by
    simp only [bfsF]
    rw [bfsF_len f, bIn_len]
theorem dist_len (b : List (List Int)) (q0 : Nat) : (dist b q0).1.length = b.length := by
  unfold dist
  rw [bfsF_len]
  simp [d0]
theorem isL_rd {l : List Int} : IsL (.rd 1 l.length (iL l)) l := .rd l
theorem c84 {x : AV} {b : List (List Int)} (hx : IsLL x b) (hb : Bd b) {q0 : Nat} (hq : q0 < b.length) {m : Nat} (hm : 200 ≤ m) (H : Heap) : callPure (evF tab it m) true 84 [x, .int .i64 (q0 : Int)] H = some (.rd 1 (dist b q0).1.length (iL (dist b q0).1), H) := by
  refine callPure_frz (by simp [idFreeL, AV.idFree, hx.free]) (by simp) (f84 hx hb hq hm) ?_
  have h1 := iL_len (dist b q0).1
  rw [dist_len] at h1 ⊢
  simp [frzV_sl, Heap.data?, h1, List.take_of_length_le]
theorem bfsF_end {b : List (List Int)} {n : Nat} : ∀ (f : Nat) (d : List Int) (dn q : List Nat), Bfs n d dn q → 2 * negs d + q.length ≤ f → Bfs n (bfsF b n f d dn q).1 (bfsF b n f d dn q).2 []
  | 0, d, dn, q, h, hf => by
    have : q = [] := List.eq_nil_of_length_eq_zero (by omega)
    subst this
    exact h
  | f + 1, d, dn, [], h, hf => h
  | f + 1, d, dn, v :: q, h, hf => by
    obtain ⟨a, c⟩ := Bfs.pop (b := b) h
    simp only [bfsF]
    exact bfsF_end f _ _ _ a (by omega)
def Conn (b : List (List Int)) : Prop := (dist b 0).2.length = b.length
instance (b : List (List Int)) : Decidable (Conn b) := by unfold Conn; infer_instance
theorem conn_iff {b : List (List Int)} (hn : 0 < b.length) : (-1 : Int) ∉ (dist b 0).1 ↔ Conn b := by
  have hB : Bfs b.length (dist b 0).1 (dist b 0).2 [] := bfsF_end _ _ _ _ (Bfs.init hn) (by
    have := negs_le (d0 b.length 0)
    have hl : (d0 b.length 0).length = b.length := by simp [d0]
    simp only [List.length_cons, List.length_nil]
    omega)
  have hl := dist_len b 0
  unfold Conn
  rw [← hB.done]
  constructor
  · intro h k hk e
    refine h ?_
    rw [← e, getI_nat]
    simp [List.getD, show k < (dist b 0).1.length by omega]
  · intro h hm
    obtain ⟨k, hk, e⟩ := List.getElem_of_mem hm
    refine h k (by omega) ?_
    rw [getI_nat]
    simp [List.getD, hk, e]
set_option maxHeartbeats 8000000
def Ed (b : List (List Int)) (i k : Nat) : Prop := (0 ≤ getI (getLL b (i : Int)) (k : Int) ∧ getI (getLL b (i : Int)) (k : Int) ≤ 3) ∧ getI (getLL b (i : Int)) (k : Int) = getI (getLL b (k : Int)) (i : Int) ∧ (i = k → getI (getLL b (i : Int)) (k : Int) = 0)
structure IsB (b : List (List Int)) : Prop where
  n1 : 1 ≤ b.length
  n2 : b.length ≤ 10
  row : ∀ v : Nat, v < b.length → (getLL b (v : Int)).length = b.length
  ed : ∀ i k : Nat, i < b.length → k < b.length → Ed b i k
  con : Conn b
noncomputable instance (b : List (List Int)) : Decidable (IsB b) := Classical.propDecidable _
theorem IsB.bd {b : List (List Int)} (h : IsB b) : Bd b := ⟨by have := h.n2; omega, h.row, fun v k hv hk => (h.ed v k hv hk).1⟩
theorem IsB.sym {b : List (List Int)} (h : IsB b) : Sym b := fun v k hv hk => (h.ed v k hv hk).2.1
theorem f60 {x : AV} {b : List (List Int)} (hx : IsLL x b) (hl : b.length < 100) {m : Nat} (hm : 2100 ≤ m) : evF tab it m 60 [x] [] = some (.bool (decide (IsB b)), []) := by
  obtain ⟨m, rfl⟩ : ∃ j, m = j + 1 := ⟨m - 1, by omega⟩
  have fx := hx.free
  have lx : ∀ H, evP H .len [x] = some (.int .i64 ((b.length : Nat) : Int)) := fun H => by cases hx <;> rfl
  have e53 := fun (a lo hi : Int) H => c53 (m := m) (by omega) a lo hi H
  have e84 := fun (hb : Bd b) (hn : 0 < b.length) H => c84 (m := m) hx hb (q0 := 0) hn (by omega) H
  have e83 := fun (hb : Bd b) (hn : 0 < b.length) H => c83 (m := m) (isL_rd (l := (dist b 0).1)) (w := -1) (by rw [dist_len]; omega) (by omega) H
  have lr := fun {i : Nat} (hi : i < b.length) H => p_lenI (H := H) (hx.at (i := (i : Int)) ⟨by omega, by omega⟩)
  have fr := fun {i : Nat} (hi : i < b.length) => (hx.at (i := (i : Int)) ⟨by omega, by omega⟩).free
  refine f_enter rfl rfl ?_
  generalize evF tab it m = call at *
  repeat' first
 | (apply s_mov; exact aW)
 | (apply c_nil)
 | (apply s_notT; exact rfl)
 | (apply s_notF; exact rfl)
 | (apply s_pn; exact aO; exact lx _)
 | (apply isE; refine s_cB (by exact aO) (e53 _ _ _ _) (fun _ => ?_) (fun _ => ?_))
 | (apply c_seq)
 | (apply c_reg)
 | (apply c_block)
 | (apply c_skip)
 | (apply c_ret)
 | (apply c_condT; exact rfl)
 | (apply c_condF; exact rfl)
 | (with_reducible apply k_c)
  · refine c_loop ?_
    refine loop_gc (σ := Nat) (fun i => [x, .int .i64 ((b.length : Nat) : Int), x, .int .i64 ((b.length : Nat) : Int), .int .i64 (i : Int)]) (fun _ => []) (fun i => i ≤ b.length ∧ ∀ v : Nat, v < i → (getLL b (v : Int)).length = b.length) (fun i => b.length - i) ?_ _ 0 _ _ ⟨by omega, by omega⟩ (by omega) (gc_to rfl (by simp [idFreeL, AV.idFree, *]; done))
    intro i ⟨hi, hrow⟩ K hK
    by_cases hin : i < b.length
    · have lri := fun H => lr hin H
      repeat' first
 | (apply s_mov; exact aW)
 | (apply c_nil)
 | (apply s_lss; exact rfl; all_goals (intro _; try (exfalso; omega)))
 | (apply s_neq; exact rfl; all_goals (intro _; try (exfalso; omega)))
 | (apply s_add; exact rfl; omega)
 | (apply s_pn; exact aO; exact lri _)
 | (apply s_idxLL; exact aW; exact rfl; assumption; omega)
 | (apply s_ldLL; exact rfl; assumption; omega)
 | (apply c_seq)
 | (apply c_reg)
 | (apply c_block)
 | (apply c_skip)
 | (apply c_ret)
 | (apply c_condT; exact rfl)
 | (apply c_condF; exact rfl)
 | (with_reducible apply k_c)
      all_goals first
        | (refine hK (i + 1) _ _ ⟨by omega, fun v hv => ?_⟩ (by omega) (gc_to rfl (by simp [idFreeL, AV.idFree, *]; done))
           rcases (by omega : v < i ∨ v = i) with h | rfl
           · exact hrow v h
           · omega)
        | (refine fin_t (by (conv => lhs; whnf)) (by rfl) (leafF fun h => ?_); have := h.row i hin; omega)
    · obtain rfl : i = b.length := by omega
      repeat' first
 | (apply s_mov; exact aW)
 | (apply c_nil)
 | (apply s_lss; exact rfl; all_goals (intro _; try (exfalso; omega)))
 | (apply s_pn; exact aO; exact lx _)
 | (apply c_seq)
 | (apply c_reg)
 | (apply c_block)
 | (apply c_exitH)
 | (apply c_condF; exact rfl)
 | (apply c_preF; exact aK; exact aF)
 | (with_reducible apply k_c)
      refine c_loop ?_
      refine loop_gc (σ := Nat) (fun i => [x, x, .int .i64 ((b.length : Nat) : Int), .int .i64 (i : Int)]) (fun _ => []) (fun i => i ≤ b.length ∧ ∀ v k : Nat, v < i → k < b.length → Ed b v k) (fun i => b.length - i) ?_ _ 0 _ _ ⟨by omega, by omega⟩ (by omega) (gc_to rfl (by simp [idFreeL, AV.idFree, *]; done))
      intro i ⟨hi, hed⟩ K hK
      by_cases hin : i < b.length
      · have lri := fun H => lr hin H
        have fri := fr hin
        have hri := hrow i hin
        rw [hri] at lri
        repeat' first
 | (apply s_mov; exact aW)
 | (apply c_nil)
 | (apply s_lss; exact rfl; all_goals (intro _; try (exfalso; omega)))
 | (apply s_pn; exact aO; exact lri _)
 | (apply s_idxLL; exact aW; exact rfl; assumption; omega)
 | (apply s_ldLL; exact rfl; assumption; omega)
 | (apply c_seq)
 | (apply c_reg)
 | (apply c_block)
 | (apply c_skip)
 | (apply c_condT; exact rfl)
 | (with_reducible apply k_c)
        refine c_loop ?_
        refine loop_gc (σ := Nat) (fun k => [x, .int .i64 (i : Int), x, .int .i64 ((b.length : Nat) : Int), .int .i64 (i : Int), llAt x (i : Int), .int .i64 ((b.length : Nat) : Int), .int .i64 (k : Int)]) (fun _ => []) (fun k => k ≤ b.length ∧ ∀ k' : Nat, k' < k → Ed b i k') (fun k => b.length - k) ?_ _ 0 _ _ ⟨by omega, by omega⟩ (by omega) (gc_to rfl (by simp [idFreeL, AV.idFree, *]; done))
        intro k ⟨hk, hek⟩ K2 hK2
        by_cases hkn : k < b.length
        · have hrk := hrow k hkn
          have hLi := hx.at (i := (i : Int)) ⟨by omega, by omega⟩
          repeat' first
 | (apply s_mov; exact aW)
 | (apply s_gT; exact rfl)
 | (apply s_gF; exact rfl)
 | (apply c_nil)
 | (apply s_pickT; exact rfl; exact aW)
 | (apply s_pickF; exact rfl; exact aW)
 | (apply s_notT; exact rfl)
 | (apply s_notF; exact rfl)
 | (apply s_lss; exact rfl; all_goals (intro _; try (exfalso; omega)))
 | (apply s_eql; exact rfl; all_goals (intro _; try (exfalso; omega)))
 | (apply s_neq; exact rfl; all_goals (intro _; try (exfalso; omega)))
 | (apply s_add; exact rfl; omega)
 | (apply isE; refine s_cB (by exact aO) (e53 _ _ _ _) (fun _ => ?_) (fun _ => ?_))
 | (apply s_idx; exact aW; exact rfl; exact aI; omega)
 | (apply s_idxLL; exact aW; exact rfl; assumption; omega)
 | (apply s_ldI; exact rfl; omega)
 | (apply s_ldLL; exact rfl; assumption; omega)
 | (apply c_seq)
 | (apply c_reg)
 | (apply c_block)
 | (apply c_skip)
 | (apply c_ret)
 | (apply c_condT; exact rfl)
 | (apply c_condF; exact rfl)
 | (with_reducible apply k_c)
          all_goals first
            | (refine hK2 (k + 1) _ _ ⟨by omega, fun k' hk' => ?_⟩ (by omega) (gc_to rfl (by simp [idFreeL, AV.idFree, *]; done))
               rcases (by omega : k' < k ∨ k' = k) with h | rfl
               · exact hek k' h
               · unfold Ed; omega)
            | (refine fin_t (by (conv => lhs; whnf)) (by rfl) (leafF fun h => ?_); have := h.ed i k hin hkn; unfold Ed at this; omega)
        · obtain rfl : k = b.length := by omega
          repeat' first
 | (apply s_mov; exact aW)
 | (apply c_nil)
 | (apply s_lss; exact rfl; all_goals (intro _; try (exfalso; omega)))
 | (apply s_add; exact rfl; omega)
 | (apply c_seq)
 | (apply c_reg)
 | (apply c_exitH)
 | (apply c_condF; exact rfl)
 | (apply c_preF; exact aK; exact aF)
 | (with_reducible apply k_c)
          exact hK (i + 1) _ _ ⟨by omega, fun v k hv hk => by
            rcases (by omega : v < i ∨ v = i) with h | rfl
            · exact hed v k h hk
            · exact hek k hk⟩ (by omega) (gc_to rfl (by simp [idFreeL, AV.idFree, *]; done))
      · obtain rfl : i = b.length := by omega
        have hbd : Bd b := ⟨by omega, hrow, fun v k hv hk => (hed v k hv hk).1⟩
        have hci := conn_iff (b := b) (by omega)
        have e84' := e84 hbd (by omega)
        have e83' := e83 hbd (by omega)
        repeat' first
 | (apply s_mov; exact aW)
 | (apply c_nil)
 | (apply s_notT; exact rfl)
 | (apply s_notF; exact rfl)
 | (apply s_lss; exact rfl; all_goals (intro _; try (exfalso; omega)))
 | (apply s_cn; exact aO; exact e84' _)
 | (apply isE; refine s_cB (by exact aO) (e83' _) (fun _ => ?_) (fun _ => ?_))
 | (apply c_seq)
 | (apply c_reg)
 | (apply c_exitH)
 | (apply c_ret)
 | (apply c_condF; exact rfl)
 | (apply c_preF; exact aK; exact aF)
 | (with_reducible apply k_c)
        · exact fin_t (by (conv => lhs; whnf)) (by rfl) (leafF fun h => absurd (by assumption) (hci.2 h.con))
        · exact fin_t (by (conv => lhs; whnf)) (by rfl) (leafT ⟨by omega, by omega, hrow, hed, hci.1 (by assumption)⟩)
  · exact fin_t (by (conv => lhs; whnf)) (by rfl) (leafF fun h => by have := h.n1; have := h.n2; omega)
theorem c60 {x : AV} {b : List (List Int)} (hx : IsLL x b) (hl : b.length < 100) {m : Nat} (hm : 2100 ≤ m) (H : Heap) : callPure (evF tab it m) true 60 [x] H = some (.bool (decide (IsB b)), H) :=
  callPure_free (by simp [idFreeL, hx.free]) (by simp) (f60 hx hl hm) rfl
end Go.AM.Ch
