/- A part of the proof: Q29. -/
import Derived.Test.YtmeajfgjbebkiaaQ14
set_option linter.unusedSectionVars false
set_option linter.unusedVariables false
set_option linter.unusedSimpArgs false
namespace Go.AM.Pa
def mdF (x n : Int) : Int := IntKind.i64.wrap ((IntKind.u64.wrap x).tmod (IntKind.u64.wrap n))
theorem u64_pos (x : Int) : 0 ≤ IntKind.u64.wrap x ∧ IntKind.u64.wrap x < 18446744073709551616 := by
  simp [IntKind.wrap, IntKind.bits, IntKind.signed]; omega
theorem mdF_range {x n : Int} (hn : 1 ≤ n ∧ n ≤ 1000) : 0 ≤ mdF x n ∧ mdF x n < n := by
  have h1 := u64_pos x
  have h2 : IntKind.u64.wrap n = n := IntWalk.u64_in n (by omega)
  unfold mdF
  rw [h2, Int.tmod_eq_emod_of_nonneg h1.1]
  have h3 := Int.emod_nonneg (IntKind.u64.wrap x) (show n ≠ 0 by omega)
  have h4 := Int.emod_lt_of_pos (IntKind.u64.wrap x) (show 0 < n by omega)
  rw [IntWalk.i64_in _ (by omega)]
  exact ⟨h3, h4⟩
/-- mod -/
theorem c31 {x n : Int} (hn : 1 ≤ n ∧ n ≤ 1000) {m : Nat} (hm : 1 ≤ m) (H : Heap) : callPure (evF tab it m) true 31 [.int .i64 x, .int .i64 n] H = some (.int .i64 (mdF x n), H) := by
  refine callPure_free rfl (by simp) (H1 := []) ?_ rfl
  obtain ⟨m, rfl⟩ : ∃ j, m = j + 1 := ⟨m - 1, by omega⟩
  have h2 : IntKind.u64.wrap n = n := IntWalk.u64_in n (by omega)
  have hr : ∀ H, evP H (.bin .rem) [.int .u64 (IntKind.u64.wrap x), .int .u64 (IntKind.u64.wrap n)] = some (.int .u64 ((IntKind.u64.wrap x).tmod (IntKind.u64.wrap n))) := fun H => by
    have : ¬ IntKind.u64.wrap n = 0 := by omega
    simp [evP, binV, isShift, binInt, this]
  refine f_enter rfl rfl ?_
  repeat' first
 | (apply s_mov; (focus ((conv => lhs; whnf); done)))
 | (apply c_nil)
 | (apply s_pn; (focus (repeat (first | apply opds_nil | (apply opds_cons; (first | (focus ((conv => lhs; whnf); done)) | exact rfl))))); exact hr _)
 | (apply s_pd; (focus ((conv => lhs; whnf); done)))
 | (apply c_seq)
 | (apply c_reg)
 | (apply c_ret)
 | (with_reducible apply k_c)
  exact fin_t rfl rfl rfl
theorem getI_ge {l : List Int} {i : Nat} (h : l.length ≤ i) : getI l i = 0 := by
  rw [getI_nat]; simp [List.getD, List.getElem?_eq_none h]
/-- at -/
theorem c54 {x : AV} {l : List Int} (hx : IsL x l) {i : Nat} {m : Nat} (hm : 1 ≤ m) (H : Heap) : callPure (evF tab it m) true 54 [x, .int .i64 (i : Int)] H = some (.int .i64 (getI l i), H) := by
  refine callPure_free (by simp [idFreeL, hx.free, idf_int]) (by simp) (H1 := []) ?_ rfl
  obtain ⟨m, rfl⟩ : ∃ j, m = j + 1 := ⟨m - 1, by omega⟩
  refine f_enter rfl rfl ?_
  repeat' first
 | (apply s_mov; (focus ((conv => lhs; whnf); done)))
 | (apply c_nil)
 | ((first | apply s_lss | apply s_leq | apply s_gtr | apply s_geq | apply s_eql | apply s_neq); exact rfl; all_goals (intro _; try (exfalso; omega)))
 | (apply s_len; (focus ((conv => lhs; whnf); done)); (first | assumption | (apply IsLL.at; assumption; omega)))
 | (apply s_idx; (focus ((conv => lhs; whnf); done)); exact rfl; (first | assumption | (apply IsLL.at; assumption; omega)); omega)
 | (apply s_ldI; exact rfl; omega)
 | (apply c_seq)
 | (apply c_reg)
 | (apply c_skip)
 | (apply c_ret)
 | (apply c_condT; exact rfl)
 | (apply c_condF; exact rfl)
 | (with_reducible apply k_c)
  · exact fin_t rfl rfl rfl
  · rw [getI_ge (by omega)]
    exact fin_t rfl rfl rfl
/-- contains -/
theorem f30 {x : AV} {l : List Int} (hx : IsL x l) (v : Int) (hl : l.length < 2 ^ 63) (m : Nat) (hm : l.length + 2 ≤ m) : evF tab it m 30 [x, .int .i64 v] [] = some (.bool (decide (v ∈ l)), []) := by
  obtain ⟨m, rfl⟩ : ∃ j, m = j + 1 := ⟨m - 1, by omega⟩
  have fx := hx.free
  refine f_enter rfl rfl ?_
  repeat' first
 | (apply s_mov; (focus ((conv => lhs; whnf); done)))
 | (apply c_nil)
 | (apply c_seq)
 | (apply c_reg)
 | (apply c_block)
 | (with_reducible apply k_c)
  refine c_loop ?_
  refine loop_gc (σ := Nat) (fun i => [x, .int .i64 v, .int .i64 i]) (fun _ => []) (fun i => i ≤ l.length ∧ ∀ j : Nat, j < i → getI l j ≠ v) (fun i => l.length - i) ?_ _ 0 _ _ ⟨by omega, by omega⟩ (by omega) (gc_to rfl (by simp [idFreeL, AV.idFree, *]; done))
  intro i ⟨hi, hb⟩ K hK
  repeat' first
 | (apply s_mov; (focus ((conv => lhs; whnf); done)))
 | (apply c_nil)
 | ((first | apply s_lss | apply s_leq | apply s_gtr | apply s_geq | apply s_eql | apply s_neq); exact rfl; all_goals (intro _; try (exfalso; omega)))
 | ((first | apply s_add | apply s_sub); exact rfl; omega)
 | (apply s_len; (focus ((conv => lhs; whnf); done)); (first | assumption | (apply IsLL.at; assumption; omega)))
 | (apply s_idx; (focus ((conv => lhs; whnf); done)); exact rfl; (first | assumption | (apply IsLL.at; assumption; omega)); omega)
 | (apply s_ldI; exact rfl; omega)
 | (apply c_seq)
 | (apply c_reg)
 | (apply c_block)
 | (apply c_exitH)
 | (apply c_skip)
 | (apply c_ret)
 | (apply c_condT; exact rfl)
 | (apply c_condF; exact rfl)
 | (apply c_preF; (focus (repeat (first | apply looks_nil | (apply looks_cons; (focus ((conv => lhs; whnf); done)))))); (focus (simp [idFreeL, AV.idFree, *]; done)))
 | (with_reducible apply k_c)
  · refine fin_t (by (conv => lhs; whnf)) (by rfl) (leafT ?_)
    have h : i < l.length := by omega
    have e : getI l i = v := by assumption
    rw [← e]; simp [getI, h]
  · refine hK (i + 1) _ _ ⟨by omega, fun j hj => ?_⟩ (by omega) (gc_to rfl (by simp [idFreeL, AV.idFree, *]; done))
    rcases (by omega : j < i ∨ j = i) with h | rfl
    · exact hb j h
    · assumption
  · refine fin_t (by (conv => lhs; whnf)) (by rfl) (leafF fun h => ?_)
    obtain ⟨j, hj, e⟩ := List.getElem_of_mem h
    refine hb j (by omega) ?_
    simp [getI, hj, e]
theorem c30 {x : AV} {l : List Int} (hx : IsL x l) {v : Int} (hl : l.length < 100) {m : Nat} (hm : 102 ≤ m) (H : Heap) : callPure (evF tab it m) true 30 [x, .int .i64 v] H = some (.bool (decide (v ∈ l)), H) :=
  callPure_free (by simp [idFreeL, hx.free, AV.idFree]) (by simp) (f30 hx v (by omega) m (by omega)) rfl
theorem c30L {x : AV} {l : List Int} (hx : IsL x l) {v : Int} (hl : l.length < 2 ^ 63) {m : Nat} (hm : l.length + 2 ≤ m) (H : Heap) : callPure (evF tab it m) true 30 [x, .int .i64 v] H = some (.bool (decide (v ∈ l)), H) :=
  callPure_free (by simp [idFreeL, hx.free, AV.idFree]) (by simp) (f30 hx v hl m hm) rfl
/-! tame -/
def tHit (g : Gm) (n : Int) (i j : Nat) : Bool := (getLL g.next i).any fun u => mdF u n == (j : Int)
def tCnd (g : Gm) (n : Int) (i j : Nat) : Bool := tHit g n i j || (decide (g.next.length ≤ i) && decide (j = 0)) || (decide (i < g.next.length) && decide ((getLL g.next i).length = 0) && decide (j = i))
def tRow (g : Gm) (n : Int) (i j : Nat) : List Int := ((List.range j).filter fun j => tCnd g n i j).map fun (j : Nat) => (j : Int)
theorem tRow_succ (g : Gm) (n : Int) (i j : Nat) : tRow g n i (j + 1) = if tCnd g n i j then tRow g n i j ++ [(j : Int)] else tRow g n i j := by
  simp only [tRow, List.range_succ, List.filter_append]
  cases h : tCnd g n i j <;> simp [h]
theorem tRow_len (g : Gm) (n : Int) (i j : Nat) : (tRow g n i j).length ≤ j := by
  simp only [tRow, List.length_map]
  exact Nat.le_trans (List.length_filter_le _ _) (by simp)
def tO (g : Gm) (i : Nat) : List AV := iL ((List.range i).map fun (i : Nat) => mdF (getI g.owner i) 2)
def tR (g : Gm) (high : Int) (i : Nat) : List AV := iL ((List.range i).map fun (i : Nat) => mdF (getI g.rank i) high)
def tN (g : Gm) (n : Nat) (i : Nat) : List AV := (List.range i).map fun i => fzL (tRow g n i n)
theorem tO_succ (g : Gm) (i : Nat) : tO g (i + 1) = tO g i ++ [.int .i64 (mdF (getI g.owner i) 2)] := by simp [tO, iL, List.range_succ]
theorem tR_succ (g : Gm) (high : Int) (i : Nat) : tR g high (i + 1) = tR g high i ++ [.int .i64 (mdF (getI g.rank i) high)] := by simp [tR, iL, List.range_succ]
theorem tN_succ (g : Gm) (n i : Nat) : tN g n (i + 1) = tN g n i ++ [fzL (tRow g n i n)] := by simp [tN, List.range_succ]
theorem tO_len (g : Gm) (i : Nat) : (tO g i).length = i := by simp [tO, iL]
theorem tR_len (g : Gm) (h : Int) (i : Nat) : (tR g h i).length = i := by simp [tR, iL]
theorem tN_len (g : Gm) (n i : Nat) : (tN g n i).length = i := by simp [tN]
def rwV (L : Nat) (l : List Int) : AV := match l with
  | [] => .nilS
  | _ :: cs => .sl L 1 0 (cs.length + 1)
def rwH (P : Heap) (l : List Int) : Heap := match l with
  | [] => P
  | c :: cs => P ++ [some (.data (iL (c :: cs)))]
theorem iL_app2 (l : List Int) (v : Int) : iL l ++ [.int .i64 v] = iL (l ++ [v]) := by simp [iL]
end Go.AM.Pa
