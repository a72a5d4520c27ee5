/- A part of the proof: T2. -/
import Derived.Test.YtdgkchedoooffaaT1
set_option linter.unusedVariables false
set_option linter.unusedSimpArgs false
set_option linter.unusedSectionVars false
namespace Go.AM.Tb
set_option maxHeartbeats 1000000
theorem getLL_eq {a b : List (List Int)} (hl : a.length = b.length) (h : ∀ j : Nat, j < a.length → getLL a j = getLL b j) : a = b := by
  refine List.ext_getElem hl fun j h1 h2 => ?_
  have := h j h1
  simpa [getLL_nat, List.getD, h1, h2] using this
theorem f25 {x y : AV} {a b : List (List Int)} (hx : IsLL x a) (hy : IsLL y b) (ha : a.length < 100 ∧ ∀ l ∈ a, l.length < 100) (m : Nat) (hm : 203 ≤ m) : evF tab it m 25 [x, y] [] = some (.bool (decide (a = b)), []) := by
  obtain ⟨m, rfl⟩ : ∃ j, m = j + 1 := ⟨m - 1, by omega⟩
  have fx := hx.free; have fy := hy.free
  obtain ⟨ha, hal⟩ := ha
  have e21 := fun {i : Nat} (h1 : i < a.length) (h2 : i < b.length) H => c21 (m := m) (hx.at (i := (i : Int)) ⟨by omega, by omega⟩) (hy.at (i := (i : Int)) ⟨by omega, by omega⟩) (hal _ (by rw [getLL_nat]; simp [List.getD, h1])) (by omega) H
  refine f_enter rfl rfl ?_
  generalize evF tab it m = call at *
  repeat' first
 | (apply s_mov; exact aW)
 | (apply c_nil)
 | (apply s_neq; exact rfl; all_goals (intro _; try (exfalso; omega)))
 | (apply s_lenLL; exact aW; assumption)
 | (apply c_seq)
 | (apply c_reg)
 | (apply c_block)
 | (apply c_skip)
 | (apply c_ret)
 | (apply c_condT; exact rfl)
 | (apply c_condF; exact rfl)
 | (with_reducible apply k_c)
  · refine c_loop ?_
    refine loop_gc (σ := Nat) (fun i => [x, y, .int .i64 i]) (fun _ => []) (fun i => i ≤ a.length ∧ ∀ j : Nat, j < i → getLL a j = getLL b j) (fun i => a.length - i) ?_ _ 0 _ _ ⟨by omega, by omega⟩ (by omega) (gc_to rfl (by simp [idFreeL, AV.idFree, *]; done))
    intro i ⟨hi, hb⟩ K hK
    repeat' first
 | (apply s_mov; exact aW)
 | (apply c_nil)
 | (apply s_notT; exact rfl)
 | (apply s_notF; exact rfl)
 | (apply s_lss; exact rfl; all_goals (intro _; try (exfalso; omega)))
 | (apply s_add; exact rfl; omega)
 | (apply isE; refine s_cB (by exact aO) (e21 (by omega) (by omega) _) (fun _ => ?_) (fun _ => ?_))
 | (apply s_lenLL; exact aW; assumption)
 | (apply s_idxLL; exact aW; exact rfl; assumption; omega)
 | (apply s_ldLL; exact rfl; assumption; omega)
 | (apply c_seq)
 | (apply c_reg)
 | (apply c_block)
 | (apply c_exitH)
 | (apply c_skip)
 | (apply c_ret)
 | (apply c_condT; exact rfl)
 | (apply c_condF; exact rfl)
 | (apply c_preF; exact aK; exact aF)
 | (with_reducible apply k_c)
    all_goals first
      | (refine hK (i + 1) _ _ ⟨by omega, fun j hj => ?_⟩ (by omega) (gc_to rfl (by simp [idFreeL, AV.idFree, *]; done))
         rcases (by omega : j < i ∨ j = i) with h | rfl
         · exact hb j h
         · assumption)
      | exact fin_t (by (conv => lhs; whnf)) (by rfl) (leafT (getLL_eq (by omega) fun j h => hb j (by omega)))
      | (refine fin_t (by (conv => lhs; whnf)) (by rfl) (leafF fun h => ?_); subst h; contradiction)
  · refine fin_t (by (conv => lhs; whnf)) (by rfl) (leafF fun h => ?_)
    subst h; contradiction
theorem c25 {x y : AV} {a b : List (List Int)} (hx : IsLL x a) (hy : IsLL y b) (ha : a.length < 100 ∧ ∀ l ∈ a, l.length < 100) {m : Nat} (hm : 203 ≤ m) (H : Heap) : callPure (evF tab it m) true 25 [x, y] H = some (.bool (decide (a = b)), H) :=
  callPure_free (by simp [idFreeL, hx.free, hy.free]) (by simp) (f25 hx hy ha m hm) rfl
end Go.AM.Tb
