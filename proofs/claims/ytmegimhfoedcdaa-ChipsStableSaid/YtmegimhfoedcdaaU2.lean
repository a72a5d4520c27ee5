/- A part of the proof: U2. -/
import Derived.Test.YtmegimhfoedcdaaU1
set_option linter.unusedSectionVars false
set_option linter.unusedVariables false
set_option linter.unusedSimpArgs false
namespace Go.AM.Ch
set_option maxHeartbeats 1000000
theorem getLL_eq {a b : List (List Int)} (hl : a.length = b.length) (h : ∀ j : Nat, j < a.length → getLL a j = getLL b j) : a = b := by
  refine List.ext_getElem hl fun j h1 h2 => ?_
  have := h j h1
  simpa [getLL_nat, List.getD, h1, h2] using this
/-- same -/
theorem f21 {x y : AV} {a b : List (List Int)} (hx : IsLL x a) (hy : IsLL y b) (ha : a.length < 100 ∧ ∀ l ∈ a, l.length < 100) (m : Nat) (hm : 203 ≤ m) : evF tab it m 21 [x, y] [] = some (.bool (decide (a = b)), []) := by
  obtain ⟨m, rfl⟩ : ∃ j, m = j + 1 := ⟨m - 1, by omega⟩
  have fx := hx.free; have fy := hy.free
  obtain ⟨ha, hal⟩ := ha
  have e22 := fun {i : Nat} (h1 : i < a.length) (h2 : i < b.length) H => c22 (m := m) (hx.at (i := (i : Int)) ⟨by omega, by omega⟩) (hy.at (i := (i : Int)) ⟨by omega, by omega⟩) (hal _ (by rw [getLL_nat]; simp [List.getD, h1])) (by omega) H
  refine f_enter rfl rfl ?_
  generalize evF tab it m = call at *
  repeat' first
 | (apply s_mov; (focus ((conv => lhs; whnf); done)))
 | (apply c_nil)
 | ((first | apply s_lss | apply s_leq | apply s_gtr | apply s_geq | apply s_eql | apply s_neq); exact rfl; all_goals (intro _; try (exfalso; omega)))
 | (apply s_lenLL; (focus ((conv => lhs; whnf); done)); assumption)
 | (apply c_seq)
 | (apply c_reg)
 | (apply c_block)
 | (apply c_skip)
 | (apply c_ret)
 | (apply c_condT; exact rfl)
 | (apply c_condF; exact rfl)
 | (with_reducible apply k_c)
  · refine c_loop ?_
    refine loop_gc (σ := Nat) (fun i => [x, y, .int .i64 i]) (fun _ => []) (fun i => i ≤ a.length ∧ ∀ j : Nat, j < i → getLL a j = getLL b j) (fun i => a.length - i) ?_ _ 0 _ _ ⟨by omega, by omega⟩ (by omega) (gc_to rfl (by simp [idFreeL, AV.idFree, *]; done))
    intro i ⟨hi, hb⟩ K hK
    repeat' first
 | (apply s_mov; (focus ((conv => lhs; whnf); done)))
 | (apply c_nil)
 | (apply s_notT; exact rfl)
 | (apply s_notF; exact rfl)
 | ((first | apply s_lss | apply s_leq | apply s_gtr | apply s_geq | apply s_eql | apply s_neq); exact rfl; all_goals (intro _; try (exfalso; omega)))
 | ((first | apply s_add | apply s_sub); exact rfl; omega)
 | (apply isE; refine s_cB (by (focus (repeat (first | apply opds_nil | (apply opds_cons; (first | (focus ((conv => lhs; whnf); done)) | exact rfl)))))) (e22 (by omega) (by omega) _) (fun _ => ?_) (fun _ => ?_))
 | (apply s_lenLL; (focus ((conv => lhs; whnf); done)); assumption)
 | (apply s_idxLL; (focus ((conv => lhs; whnf); done)); exact rfl; assumption; omega)
 | (apply s_ldLL; exact rfl; assumption; omega)
 | (apply c_seq)
 | (apply c_reg)
 | (apply c_block)
 | (apply c_exitH)
 | (apply c_skip)
 | (apply c_ret)
 | (apply c_condT; exact rfl)
 | (apply c_condF; exact rfl)
 | (apply c_preF; (focus (repeat (first | apply looks_nil | (apply looks_cons; (focus ((conv => lhs; whnf); done)))))); (focus (simp [idFreeL, AV.idFree, *]; done)))
 | (with_reducible apply k_c)
    all_goals first
      | (refine hK (i + 1) _ _ ⟨by omega, fun j hj => ?_⟩ (by omega) (gc_to rfl (by simp [idFreeL, AV.idFree, *]; done))
         rcases (by omega : j < i ∨ j = i) with h | rfl
         · exact hb j h
         · assumption)
      | exact fin_t (by (conv => lhs; whnf)) (by rfl) (leafT (getLL_eq (by omega) fun j h => hb j (by omega)))
      | (refine fin_t (by (conv => lhs; whnf)) (by rfl) (leafF fun h => ?_); subst h; contradiction)
  · refine fin_t (by (conv => lhs; whnf)) (by rfl) (leafF fun h => ?_)
    subst h; contradiction
theorem c21 {x y : AV} {a b : List (List Int)} (hx : IsLL x a) (hy : IsLL y b) (ha : a.length < 100 ∧ ∀ l ∈ a, l.length < 100) {m : Nat} (hm : 203 ≤ m) (H : Heap) : callPure (evF tab it m) true 21 [x, y] H = some (.bool (decide (a = b)), H) :=
  callPure_free (by simp [idFreeL, hx.free, hy.free]) (by simp) (f21 hx hy ha m hm) rfl
end Go.AM.Ch
