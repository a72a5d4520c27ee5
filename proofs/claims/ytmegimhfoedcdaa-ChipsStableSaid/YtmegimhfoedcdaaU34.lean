/- A part of the proof: U34. -/
import Derived.Test.YtmegimhfoedcdaaU33
import Derived.Test.YtmegimhfoedcdaaU28
set_option linter.unusedSectionVars false
set_option linter.unusedVariables false
set_option linter.unusedSimpArgs false
namespace Go.AM.Ch
set_option maxHeartbeats 8000000
/-- the greatest number of a list -/
def maxTo (l : List Int) : Nat → Int
  | 0 => getI l (0 : Int)
  | k + 1 => if getI l ((k + 1 : Nat) : Int) > maxTo l k then getI l ((k + 1 : Nat) : Int) else maxTo l k
theorem maxTo_le (l : List Int) (a : Int) : ∀ k, maxTo l k ≤ a ↔ ∀ j : Nat, j ≤ k → getI l (j : Int) ≤ a
  | 0 => ⟨fun h j hj => by obtain rfl : j = 0 := by omega
                           exact h, fun h => h 0 (Nat.le_refl _)⟩
  | k + 1 => by
    have ih := maxTo_le l a k
    simp only [maxTo]
    constructor
    · intro h j hj
      rcases (by omega : j ≤ k ∨ j = k + 1) with h1 | rfl
      · refine ih.1 ?_ j h1
        split at h <;> omega
      · split at h <;> omega
    · intro h
      have h1 := ih.2 fun j hj => h j (by omega)
      have h2 := h (k + 1) (Nat.le_refl _)
      split <;> omega
/-- Max -/
theorem c112 {x : AV} {l : List Int} (hx : IsL x l) (h1 : 1 ≤ l.length) (hl : l.length ≤ 1000) {m : Nat} (hm : 2010 ≤ m) (H : Heap) : callPure (evF tab it m) true 112 [x] H = some (.int .i64 (maxTo l (l.length - 1)), H) := by
  have f112 : evF tab it m 112 [x] [] = some (.int .i64 (maxTo l (l.length - 1)), []) := by
    obtain ⟨m, rfl⟩ : ∃ j, m = j + 1 := ⟨m - 1, by omega⟩
    have fx := hx.free
    refine f_enter rfl rfl ?_
    generalize evF tab it m = call at *
    repeat' first
 | (apply s_mov; (focus ((conv => lhs; whnf); done)))
 | (apply c_nil)
 | ((first | apply s_lss | apply s_leq | apply s_gtr | apply s_geq | apply s_eql | apply s_neq); exact rfl; all_goals (intro _; try (exfalso; omega)))
 | (apply s_len; (focus ((conv => lhs; whnf); done)); (first | assumption | (apply IsLL.at; assumption; omega)))
 | (apply s_idx; (focus ((conv => lhs; whnf); done)); exact rfl; (first | assumption | (apply IsLL.at; assumption; omega)); omega)
 | (apply s_ldI; exact rfl; omega)
 | (apply c_seq)
 | (apply c_reg)
 | (apply c_block)
 | (apply c_skip)
 | (apply c_condF; exact rfl)
 | (with_reducible apply k_c)
    refine c_loop ?_
    refine loop_gc (σ := Nat) (fun k => [x, .int .i64 (maxTo l k), .int .i64 (((k + 1 : Nat) : Nat) : Int)]) (fun _ => []) (fun k => k + 1 ≤ l.length) (fun k => l.length - k) ?_ _ 0 _ _ (by omega) (by omega) (gc_to rfl (by simp [idFreeL, AV.idFree, *]; done))
    intro k hk K hK
    by_cases hkl : k + 1 < l.length
    · skip
      repeat' first
 | (apply s_mov; (focus ((conv => lhs; whnf); done)))
 | (apply c_nil)
 | ((first | apply s_lss | apply s_leq | apply s_gtr | apply s_geq | apply s_eql | apply s_neq); exact rfl; all_goals (intro _; try (exfalso; omega)))
 | ((first | apply s_add | apply s_sub); exact rfl; omega)
 | (apply s_len; (focus ((conv => lhs; whnf); done)); (first | assumption | (apply IsLL.at; assumption; omega)))
 | (apply s_idx; (focus ((conv => lhs; whnf); done)); exact rfl; (first | assumption | (apply IsLL.at; assumption; omega)); omega)
 | (apply s_mx; exact rfl; exact rfl)
 | (apply s_ldI; exact rfl; omega)
 | (apply c_seq)
 | (apply c_reg)
 | (apply c_block)
 | (apply c_skip)
 | (apply c_condT; exact rfl)
 | (with_reducible apply k_c)
      have := hK (k + 1)
      simp only [maxTo] at this
      exact this _ _ (by omega) (by omega) (gc_to rfl (by simp [idFreeL, AV.idFree, *]; done))
    · obtain rfl : k = l.length - 1 := by omega
      repeat' first
 | (apply s_mov; (focus ((conv => lhs; whnf); done)))
 | (apply c_nil)
 | ((first | apply s_lss | apply s_leq | apply s_gtr | apply s_geq | apply s_eql | apply s_neq); exact rfl; all_goals (intro _; try (exfalso; omega)))
 | (apply s_len; (focus ((conv => lhs; whnf); done)); (first | assumption | (apply IsLL.at; assumption; omega)))
 | (apply c_seq)
 | (apply c_reg)
 | (apply c_exitH)
 | (apply c_ret)
 | (apply c_condF; exact rfl)
 | (apply c_preF; (focus (repeat (first | apply looks_nil | (apply looks_cons; (focus ((conv => lhs; whnf); done)))))); (focus (simp [idFreeL, AV.idFree, *]; done)))
 | (with_reducible apply k_c)
      exact fin_t (by (conv => lhs; whnf)) (by rfl) rfl
  exact callPure_free (by simp [idFreeL, AV.idFree, hx.free]) (by simp) f112 rfl
/-- ceil -/
theorem c113 {a c : Int} (hc : 1 ≤ c ∧ c ≤ 1000) (ha : -4611686018427387904 ≤ a ∧ a ≤ 2305843009213693952) {m : Nat} (hm : 1 ≤ m) (H : Heap) : callPure (evF tab it m) true 113 [.int .i64 a, .int .i64 c] H = some (.int .i64 (ceilI a c), H) := by
  obtain ⟨m, rfl⟩ : ∃ j, m = j + 1 := ⟨m - 1, by omega⟩
  have f : evF tab it (m + 1) 113 [.int .i64 a, .int .i64 c] [] = some (.int .i64 (ceilI a c), []) := by
    refine f_enter rfl rfl ?_
    by_cases h : a ≤ 0
    · have e : ceilI a c = 0 := by unfold ceilI; rw [if_pos h]
      rw [e]
      repeat' first
 | (apply s_mov; (focus ((conv => lhs; whnf); done)))
 | (apply c_nil)
 | ((first | apply s_lss | apply s_leq | apply s_gtr | apply s_geq | apply s_eql | apply s_neq); exact rfl; all_goals (intro _; try (exfalso; omega)))
 | (apply c_seq)
 | (apply c_reg)
 | (apply c_ret)
 | (apply c_condT; exact rfl)
 | (with_reducible apply k_c)
      all_goals first | exact fin_t (by (conv => lhs; whnf)) (by rfl) rfl | (exfalso; omega)
    · have e : ceilI a c = (a + c - 1) / c := by unfold ceilI; rw [if_neg h]
      rw [e]
      have quo := fun H => p_quo (H := H) (a := a + c - 1) (c := c) (by omega) (by omega)
      repeat' first
 | (apply s_mov; (focus ((conv => lhs; whnf); done)))
 | (apply c_nil)
 | ((first | apply s_lss | apply s_leq | apply s_gtr | apply s_geq | apply s_eql | apply s_neq); exact rfl; all_goals (intro _; try (exfalso; omega)))
 | ((first | apply s_add | apply s_sub); exact rfl; omega)
 | (apply s_pn; (focus (repeat (first | apply opds_nil | (apply opds_cons; (first | (focus ((conv => lhs; whnf); done)) | exact rfl))))); exact quo _)
 | (apply c_seq)
 | (apply c_reg)
 | (apply c_skip)
 | (apply c_ret)
 | (apply c_condF; exact rfl)
 | (with_reducible apply k_c)
      all_goals first | exact fin_t (by (conv => lhs; whnf)) (by rfl) rfl | (exfalso; omega)
  exact callPure_free (by simp [idFreeL, AV.idFree]) (by simp) f rfl
theorem tms_congr {n : Nat} {E : Nat → Nat → Int} {D c c' : Nat → Int} {d : Int} (h : ∀ v, v < n → c v = c' v) : ∀ {k : Nat}, k ≤ n → tms n E D c d k = tms n E D c' d k
  | 0, _ => rfl
  | k + 1, hk => by
    simp only [tms]
    rw [tms_congr h (by omega), h k (by omega)]
theorem payF_congr {n : Nat} {E : Nat → Nat → Int} {D l : Nat → Int} : ∀ (d : Nat) {t t' : Nat → Int}, (∀ j, j < n → t j = t' j) → ∀ j, j < n → payF n E D l d t j = payF n E D l d t' j
  | 0, t, t', h, j, hj => h j hj
  | d + 1, t, t', h, j, hj => by
    simp only [payF]
    rw [tms_congr (c' := ap n E l t') (fun v hv => ap_congr hv h rfl) (Nat.le_refl _)]
    exact payF_congr d (fun j hj => by rw [h j hj]) j hj
theorem PayOk.congr {n : Nat} {E : Nat → Nat → Int} {D l : Nat → Int} {d : Nat} {B : Int} {t t' : Nat → Int} (h : PayOk n E D l d B t) (e : ∀ j, j < n → t j = t' j) : PayOk n E D l d B t' :=
  ⟨fun v hv hd => by rw [← ap_congr hv e rfl]; exact h.paid v hv hd, fun v hv => by rw [← e v hv]; exact h.nn v hv⟩
/-- what pay gives -/
def payL (b : List (List Int)) (l : List Int) (q : Nat) : List Int :=
  (List.range b.length).map (payF b.length (ed b) (gf (dist b q).1) (gf l) (maxTo (dist b q).1 (b.length - 1)).toNat (fun _ => 0))
theorem payL_len (b : List (List Int)) (l : List Int) (q : Nat) : (payL b l q).length = b.length := by simp [payL]
theorem payL_get {b : List (List Int)} {l : List Int} {q j : Nat} (hj : j < b.length) : getI (payL b l q) (j : Int) = payF b.length (ed b) (gf (dist b q).1) (gf l) (maxTo (dist b q).1 (b.length - 1)).toNat (fun _ => 0) j := by
  rw [getI_nat]
  simp [payL, List.getD, hj]
theorem payB_bound {n : Nat} (hn : n ≤ 10) {M : Int} (hM : 0 ≤ M ∧ M ≤ 100) {k : Nat} (hk : k ≤ 10) : 0 ≤ payB n M k ∧ payB n M k ≤ 2732094289936000 := by
  have h1 := payB10 hn hM.1 hM.2 k
  have h2 : ∀ j : Nat, payB 10 100 (10 - j) ≤ payB 10 100 10 := fun j => by
    induction j with
    | zero => exact Int.le_refl _
    | succ j ih =>
      by_cases h : j < 10
      · have := payB_mono (n := 10) (M := 100) (by omega) (10 - (j + 1))
        rw [show 10 - (j + 1) + 1 = 10 - j by omega] at this
        omega
      · rw [show 10 - (j + 1) = 10 - j by omega]; exact ih
  have h3 := h2 (10 - k)
  rw [show 10 - (10 - k) = k by omega] at h3
  have h4 : payB 10 100 10 = 2732094289936000 := by decide
  exact ⟨payB_nn hM.1 k, by omega⟩
end Go.AM.Ch
