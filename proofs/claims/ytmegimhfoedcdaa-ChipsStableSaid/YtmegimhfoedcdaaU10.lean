/- A part of the proof: U10. -/
import Derived.Test.YtmegimhfoedcdaaU9
set_option linter.unusedSectionVars false
set_option linter.unusedVariables false
set_option linter.unusedSimpArgs false
namespace Go.AM.Ch
set_option maxHeartbeats 4000000
theorem c26 {x y z : AV} {b : List (List Int)} {s t : List Int} (hx : IsLL x b) (hy : IsL y s) (hz : IsL z t) (hb : Bd b) (hsy : Sym b) (hn : 1 ≤ b.length) (hsn : s.length = b.length) (htn : t.length = b.length)
    (ht : ∀ v : Nat, v < b.length → -4503599627370496 ≤ getI t (v : Int) ∧ getI t (v : Int) ≤ 4503599627370496) (hs : ∀ v : Nat, v < b.length → -288230376151711744 ≤ getI s (v : Int) ∧ getI s (v : Int) ≤ 288230376151711744)
    {m : Nat} (hm : 1100 ≤ m) (H : Heap) : callPure (evF tab it m) true 26 [x, y, z] H = some (fzL (apl b s t), H) :=
  callPure_frz (by simp [idFreeL, hx.free, hy.free, hz.free]) (by simp) (f26 hx hy hz hb hsy hn hsn htn ht hs hm) (frz_own _)
/-- Index -/
theorem f109 {x : AV} {F : List Int} {w : Int} (hx : IsL x F) (hl : F.length ≤ 1000) {m : Nat} (hm : 2000 ≤ m) :
    evF tab it (m + 1) 109 [x, .int .i64 w] [] = some (.int .i64 (fi (fun v => decide (w = v)) F 0), []) := by
  have fx := hx.free
  generalize hR : fi (fun v => decide (w = v)) F 0 = R
  refine f_enter rfl rfl ?_
  generalize evF tab it m = call at *
  repeat' first
 | (apply s_mov; (focus ((conv => lhs; whnf); done)))
 | (apply c_nil)
 | (apply s_len; (focus ((conv => lhs; whnf); done)); (first | assumption | (apply IsLL.at; assumption; omega)))
 | (apply c_seq)
 | (apply c_reg)
 | (apply c_block)
 | (with_reducible apply k_c)
  refine c_loop ?_
  refine loop_gc (σ := Nat) (fun i => [x, .int .i64 w, .int .i64 (F.length : Int), .int .i64 (i : Int)]) (fun _ => []) (fun i => i ≤ F.length ∧ fi (fun v => decide (w = v)) (F.drop i) i = R) (fun i => F.length - i) ?_ _ 0 _ _ ⟨by omega, hR⟩ (by omega) (gc_to rfl (by simp [idFreeL, AV.idFree, fx]))
  intro i ⟨hi, hr⟩ K hK
  by_cases hiF : i < F.length
  · rw [drop_getI hiF] at hr
    simp only [fi, decide_eq_true_eq] at hr
    by_cases hq : w = getI F (i : Int)
    · rw [if_pos hq] at hr
      repeat' first
 | (apply s_mov; (focus ((conv => lhs; whnf); done)))
 | (apply c_nil)
 | ((first | apply s_lss | apply s_leq | apply s_gtr | apply s_geq | apply s_eql | apply s_neq); exact rfl; all_goals (intro _; try (exfalso; omega)))
 | (apply s_idx; (focus ((conv => lhs; whnf); done)); exact rfl; (first | assumption | (apply IsLL.at; assumption; omega)); omega)
 | (apply s_ldI; exact rfl; omega)
 | (apply c_seq)
 | (apply c_reg)
 | (apply c_block)
 | (apply c_skip)
 | (apply c_ret)
 | (apply c_condT; exact rfl)
 | (with_reducible apply k_c)
      all_goals first | exact fin_t (by (conv => lhs; whnf)) (by rfl) (by rw [hr]) | (exfalso; omega)
    · rw [if_neg hq] at hr
      repeat' first
 | (apply s_mov; (focus ((conv => lhs; whnf); done)))
 | (apply c_nil)
 | ((first | apply s_lss | apply s_leq | apply s_gtr | apply s_geq | apply s_eql | apply s_neq); exact rfl; all_goals (intro _; try (exfalso; omega)))
 | ((first | apply s_add | apply s_sub); exact rfl; omega)
 | (apply s_idx; (focus ((conv => lhs; whnf); done)); exact rfl; (first | assumption | (apply IsLL.at; assumption; omega)); omega)
 | (apply s_ldI; exact rfl; omega)
 | (apply c_seq)
 | (apply c_reg)
 | (apply c_block)
 | (apply c_skip)
 | (apply c_condT; exact rfl)
 | (apply c_condF; exact rfl)
 | (with_reducible apply k_c)
      all_goals first | exact hK (i + 1) _ _ ⟨by omega, hr⟩ (by omega) (gc_to rfl (by simp [idFreeL, AV.idFree, fx])) | (exfalso; omega)
  · obtain rfl : F.length = i := by omega
    rw [List.drop_length] at hr
    simp only [fi] at hr
    repeat' first
 | (apply s_mov; (focus ((conv => lhs; whnf); done)))
 | (apply c_nil)
 | ((first | apply s_lss | apply s_leq | apply s_gtr | apply s_geq | apply s_eql | apply s_neq); exact rfl; all_goals (intro _; try (exfalso; omega)))
 | (apply c_seq)
 | (apply c_reg)
 | (apply c_exitH)
 | (apply c_ret)
 | (apply c_condF; exact rfl)
 | (apply c_preF; (focus (repeat (first | apply looks_nil | (apply looks_cons; (focus ((conv => lhs; whnf); done)))))); (focus (simp [idFreeL, AV.idFree, *]; done)))
 | (with_reducible apply k_c)
    exact fin_t (by (conv => lhs; whnf)) (by rfl) (by rw [← hr])
/-- Contains -/
theorem c83 {x : AV} {F : List Int} {w : Int} (hx : IsL x F) (hl : F.length ≤ 1000) {m : Nat} (hm : 2010 ≤ m) (H : Heap) : callPure (evF tab it m) true 83 [x, .int .i64 w] H = some (.bool (decide (w ∈ F)), H) := by
  have f83 : evF tab it m 83 [x, .int .i64 w] [] = some (.bool (decide (w ∈ F)), []) := by
    obtain ⟨m, rfl⟩ : ∃ j, m = j + 2 := ⟨m - 2, by omega⟩
    have e109 := fun H => callPure_free (H := H) (by simp [idFreeL, AV.idFree, hx.free]) (by simp) (f109 (w := w) hx hl (m := m) (by omega)) rfl
    have hp := fi_pos (fun v => decide (w = v)) F 0
    have hp' : 0 ≤ fi (fun v => decide (w = v)) F 0 ↔ w ∈ F := by rw [hp]; simp
    generalize fi (fun v => decide (w = v)) F 0 = R at *
    refine f_enter rfl rfl ?_
    generalize evF tab it (m + 1) = call at *
    repeat' first
 | (apply s_mov; (focus ((conv => lhs; whnf); done)))
 | (apply c_nil)
 | ((first | apply s_lss | apply s_leq | apply s_gtr | apply s_geq | apply s_eql | apply s_neq); exact rfl; all_goals (intro _; try (exfalso; omega)))
 | (apply s_cn; (focus (repeat (first | apply opds_nil | (apply opds_cons; (first | (focus ((conv => lhs; whnf); done)) | exact rfl))))); exact e109 _)
 | (apply c_seq)
 | (apply c_reg)
 | (apply c_ret)
 | (with_reducible apply k_c)
    · exact fin_t (by (conv => lhs; whnf)) (by rfl) (leafT (hp'.1 (by omega)))
    · exact fin_t (by (conv => lhs; whnf)) (by rfl) (leafF fun h => by have := hp'.2 h; omega)
  exact callPure_free (by simp [idFreeL, AV.idFree, hx.free]) (by simp) f83 rfl
/-! ### going in breadth: places to go on from, and how far each place is (-1: not reached) -/
/-- what a place v reaches newly, up to place k -/
def bIn (b : List (List Int)) (v : Nat) : Nat → List Int × List Nat → List Int × List Nat
  | 0, st => st
  | k + 1, st =>
    let r := bIn b v k st
    if 0 < getI (getLL b (v : Int)) (k : Int) ∧ getI r.1 (k : Int) < 0 then (r.1.set k (getI r.1 (v : Int) + 1), r.2 ++ [k]) else r
/-- reached, and to be gone on from -/
structure Bst (n : Nat) (d : List Int) (q : List Nat) : Prop where
  len : d.length = n
  low : ∀ k : Nat, k < n → -1 ≤ getI d (k : Int) ∧ getI d (k : Int) ≤ n
  lt : ∀ v ∈ q, v < n ∧ 0 ≤ getI d (v : Int)
end Go.AM.Ch
