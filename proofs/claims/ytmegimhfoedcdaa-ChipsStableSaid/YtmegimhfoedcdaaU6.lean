/- A part of the proof: U6. -/
import Derived.Test.YtmegimhfoedcdaaU5
set_option linter.unusedSectionVars false
set_option linter.unusedVariables false
set_option linter.unusedSimpArgs false
namespace Go.AM.Ch
set_option maxHeartbeats 1000000
/-- sums -/
def sumTo (f : Nat → Int) : Nat → Int
  | 0 => 0
  | k + 1 => sumTo f k + f k
theorem sumTo_le {f : Nat → Int} {M : Int} : ∀ {n : Nat}, (∀ j, j < n → -M ≤ f j ∧ f j ≤ M) → -(n * M) ≤ sumTo f n ∧ sumTo f n ≤ n * M
  | 0, _ => by simp [sumTo]
  | n + 1, h => by
    have a := sumTo_le (n := n) fun j hj => h j (by omega)
    have b := h n (by omega)
    have e : ((n + 1 : Nat) : Int) * M = n * M + M := by push_cast; rw [Int.add_mul, Int.one_mul]
    simp only [sumTo]
    rw [e]
    omega
theorem sumTo_congr {f g : Nat → Int} : ∀ {n : Nat}, (∀ j, j < n → f j = g j) → sumTo f n = sumTo g n
  | 0, _ => rfl
  | n + 1, h => by simp only [sumTo]; rw [sumTo_congr fun j hj => h j (by omega), h n (by omega)]
def sumI (l : List Int) : Int := sumTo (fun j => getI l (j : Int)) l.length
/-- Sum -/
theorem f32 {x : AV} {l : List Int} (hx : IsL x l) (hl : l.length ≤ 1000) (hb : ∀ v ∈ l, -1099511627776 ≤ v ∧ v ≤ 1099511627776) {m : Nat} (hm : 1010 ≤ m) : evF tab it m 32 [x] [] = some (.int .i64 (sumI l), []) := by
  obtain ⟨m, rfl⟩ : ∃ j, m = j + 1 := ⟨m - 1, by omega⟩
  have fx := hx.free
  have hg : ∀ j : Nat, j < l.length → -1099511627776 ≤ getI l j ∧ getI l j ≤ 1099511627776 := fun j hj => hb _ (by rw [getI_nat]; simp [List.getD, hj])
  refine f_enter rfl rfl ?_
  generalize evF tab it m = call at *
  repeat' first
 | (apply s_mov; (focus ((conv => lhs; whnf); done)))
 | (apply c_nil)
 | (apply c_seq)
 | (apply c_reg)
 | (apply c_block)
 | (with_reducible apply k_c)
  refine c_loop ?_
  refine loop_gc (σ := Nat) (fun i => [x, .int .i64 (sumTo (fun j => getI l (j : Int)) i), .int .i64 (i : Int)]) (fun _ => []) (fun i => i ≤ l.length) (fun i => l.length - i) ?_ _ 0 _ _ (by omega) (by omega) (gc_to rfl (by simp [idFreeL, AV.idFree, *]; done))
  intro i hi K hK
  have hbd := sumTo_le (f := fun j => getI l (j : Int)) (M := 1099511627776) (n := i) fun j hj => hg j (by omega)
  by_cases hil : i < l.length
  · have hgi := hg i hil
    repeat' first
 | (apply s_mov; (focus ((conv => lhs; whnf); done)))
 | (apply c_nil)
 | ((first | apply s_lss | apply s_leq | apply s_gtr | apply s_geq | apply s_eql | apply s_neq); exact rfl; all_goals (intro _; try (exfalso; omega)))
 | ((first | apply s_add | apply s_sub); exact rfl; omega)
 | (apply s_len; (focus ((conv => lhs; whnf); done)); (first | assumption | (apply IsLL.at; assumption; omega)))
 | (apply s_idx; (focus ((conv => lhs; whnf); done)); exact rfl; (first | assumption | (apply IsLL.at; assumption; omega)); omega)
 | (apply s_ldI; exact rfl; omega)
 | (apply c_seq)
 | (apply c_reg)
 | (apply c_block)
 | (apply c_skip)
 | (apply c_condT; exact rfl)
 | (with_reducible apply k_c)
    all_goals exact hK (i + 1) _ _ (by omega) (by omega) (gc_to rfl (by simp [idFreeL, AV.idFree, *]; done))
  · obtain rfl : i = l.length := by omega
    repeat' first
 | (apply s_mov; (focus ((conv => lhs; whnf); done)))
 | (apply c_nil)
 | ((first | apply s_lss | apply s_leq | apply s_gtr | apply s_geq | apply s_eql | apply s_neq); exact rfl; all_goals (intro _; try (exfalso; omega)))
 | (apply s_len; (focus ((conv => lhs; whnf); done)); (first | assumption | (apply IsLL.at; assumption; omega)))
 | (apply c_seq)
 | (apply c_reg)
 | (apply c_exitH)
 | (apply c_ret)
 | (apply c_condF; exact rfl)
 | (apply c_preF; (focus (repeat (first | apply looks_nil | (apply looks_cons; (focus ((conv => lhs; whnf); done)))))); (focus (simp [idFreeL, AV.idFree, *]; done)))
 | (with_reducible apply k_c)
    exact fin_t (v := .int .i64 (sumI l)) (by rfl) (by rfl) rfl
theorem c32 {x : AV} {l : List Int} (hx : IsL x l) (hl : l.length ≤ 1000) (hb : ∀ v ∈ l, -1099511627776 ≤ v ∧ v ≤ 1099511627776) {m : Nat} (hm : 1010 ≤ m) (H : Heap) : callPure (evF tab it m) true 32 [x] H = some (.int .i64 (sumI l), H) :=
  callPure_free (by simp [idFreeL, hx.free]) (by simp) (f32 hx hl hb hm) rfl
/-- Degree -/
theorem c35 {x : AV} {b : List (List Int)} (hx : IsLL x b) {i : Nat} (hi : i < b.length) (hl : (getLL b i).length ≤ 1000) (hb : ∀ v ∈ getLL b i, -1099511627776 ≤ v ∧ v ≤ 1099511627776) {m : Nat} (hm : 1020 ≤ m) (H : Heap) : callPure (evF tab it m) true 35 [x, .int .i64 (i : Int)] H = some (.int .i64 (sumI (getLL b i)), H) := by
  have f35 : evF tab it m 35 [x, .int .i64 (i : Int)] [] = some (.int .i64 (sumI (getLL b i)), []) := by
    obtain ⟨m, rfl⟩ : ∃ j, m = j + 1 := ⟨m - 1, by omega⟩
    have e32 := fun H => c32 (m := m) (hx.at (i := (i : Int)) ⟨by omega, by omega⟩) hl hb (by omega) H
    refine f_enter rfl rfl ?_
    generalize evF tab it m = call at *
    repeat' first
 | (apply s_mov; (focus ((conv => lhs; whnf); done)))
 | (apply c_nil)
 | (apply s_cn; (focus (repeat (first | apply opds_nil | (apply opds_cons; (first | (focus ((conv => lhs; whnf); done)) | exact rfl))))); exact e32 _)
 | (apply s_idxLL; (focus ((conv => lhs; whnf); done)); exact rfl; assumption; omega)
 | (apply s_ldLL; exact rfl; assumption; omega)
 | (apply c_seq)
 | (apply c_reg)
 | (apply c_ret)
 | (with_reducible apply k_c)
    exact fin_t (by (conv => lhs; whnf)) (by rfl) rfl
  exact callPure_free (by simp [idFreeL, AV.idFree, hx.free]) (by simp) f35 rfl
end Go.AM.Ch
