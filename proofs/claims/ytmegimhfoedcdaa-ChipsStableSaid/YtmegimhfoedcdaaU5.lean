/- A part of the proof: U5. -/
import Derived.Test.YtmegimhfoedcdaaU4
set_option linter.unusedSectionVars false
set_option linter.unusedVariables false
set_option linter.unusedSimpArgs false
namespace Go.AM.Ch
set_option maxHeartbeats 1000000
/-- a list with a number for each place, none beyond a limit -/
def InR (n : Nat) (M : Int) (l : List Int) : Prop := l.length = n ∧ ∀ v ∈ l, -M ≤ v ∧ v ≤ M
instance (n : Nat) (M : Int) (l : List Int) : Decidable (InR n M l) := by unfold InR; infer_instance
theorem inR_of (n : Nat) (M : Int) (l : List Int) : (l.length = n ∧ ¬ ∃ v ∈ l, (!decide (-M ≤ v ∧ v ≤ M)) = true) ↔ InR n M l := by
  unfold InR
  simp only [Bool.not_eq_true', decide_eq_false_iff_not, not_exists, not_and]
  constructor
  · rintro ⟨a, b⟩
    exact ⟨a, fun v hv => Classical.byContradiction fun h => b v hv (fun h1 h2 => h ⟨h1, h2⟩)⟩
  · rintro ⟨a, b⟩
    exact ⟨a, fun v hv h1 => h1 (b v hv).1 (b v hv).2⟩
/-- isState -/
theorem f80 {x y : AV} {b : List (List Int)} {s : List Int} (hx : IsLL x b) (hy : IsL y s) (hl : s.length ≤ 1000) {m : Nat} (hm : 2010 ≤ m) : evF tab it m 80 [x, y] [] = some (.bool (decide (InR b.length 1048576 s)), []) := by
  obtain ⟨m, rfl⟩ : ∃ j, m = j + 3 := ⟨m - 3, by omega⟩
  have fx := hx.free; have fy := hy.free
  have e69 := fun H => callPure_free (H := H) (by simp [idFreeL, AV.idFree, fy]) (by simp) (f69 (g := 104) hy hl (m := m) (by omega) (fun v H => c104 (by omega) v H)) rfl
  have key := inR_of b.length 1048576 s
  refine f_enter rfl rfl ?_
  generalize evF tab it (m + 2) = call at *
  repeat' first
 | (apply s_mov; (focus ((conv => lhs; whnf); done)))
 | (apply s_gT; exact rfl)
 | (apply s_gF; exact rfl)
 | (apply s_gFD; exact rfl)
 | (apply c_nil)
 | (apply s_pickT; exact rfl; (focus ((conv => lhs; whnf); done)))
 | (apply s_pickF; exact rfl; (focus ((conv => lhs; whnf); done)))
 | (apply s_notT; exact rfl)
 | (apply s_notF; exact rfl)
 | ((first | apply s_lss | apply s_leq | apply s_gtr | apply s_geq | apply s_eql | apply s_neq); exact rfl; all_goals (intro _; try (exfalso; omega)))
 | (apply isE; refine s_cB (by (focus (repeat (first | apply opds_nil | (apply opds_cons; (first | (focus ((conv => lhs; whnf); done)) | exact rfl)))))) (e69 _) (fun _ => ?_) (fun _ => ?_))
 | (apply s_len; (focus ((conv => lhs; whnf); done)); (first | assumption | (apply IsLL.at; assumption; omega)))
 | (apply s_lenLL; (focus ((conv => lhs; whnf); done)); assumption)
 | (apply c_seq)
 | (apply c_reg)
 | (apply c_ret)
 | (with_reducible apply k_c)
  all_goals first
    | (refine fin_t (by (conv => lhs; whnf)) (by rfl) (leafT (key.1 ⟨by omega, by assumption⟩)); done)
    | (refine fin_t (by (conv => lhs; whnf)) (by rfl) (leafF fun h => ?_); have := key.2 h; first | exact absurd this.1 (by omega) | exact this.2 (by assumption))
theorem c80 {x y : AV} {b : List (List Int)} {s : List Int} (hx : IsLL x b) (hy : IsL y s) (hl : s.length ≤ 1000) {m : Nat} (hm : 2010 ≤ m) (H : Heap) : callPure (evF tab it m) true 80 [x, y] H = some (.bool (decide (InR b.length 1048576 s)), H) :=
  callPure_free (by simp [idFreeL, hx.free, hy.free]) (by simp) (f80 hx hy hl hm) rfl
/-- the reference's within -/
theorem f56 {x y : AV} {b : List (List Int)} {s : List Int} (hx : IsLL x b) (hy : IsL y s) (hl : s.length ≤ 1000) {M : Int} (hM : 0 ≤ M ∧ M ≤ 1099511627776) {m : Nat} (hm : 2010 ≤ m) : evF tab it m 56 [x, y, .int .i64 M] [] = some (.bool (decide (InR b.length M s)), []) := by
  obtain ⟨m, rfl⟩ : ∃ j, m = j + 1 := ⟨m - 1, by omega⟩
  have fx := hx.free; have fy := hy.free
  have hneg : ∀ H, evP H (.un .neg) [.int .i64 M] = some (.int .i64 (-M)) := fun H => by simp only [evP]; rw [wrapI (by omega)]; simp
  refine f_enter rfl rfl ?_
  generalize evF tab it m = call at *
  repeat' first
 | (apply s_mov; (focus ((conv => lhs; whnf); done)))
 | (apply c_nil)
 | (apply c_seq)
 | (apply c_reg)
 | (apply c_block)
 | (with_reducible apply k_c)
  refine c_loop ?_
  refine loop_gc (σ := Nat) (fun i => [x, y, .int .i64 M, .int .i64 (i : Int)]) (fun _ => []) (fun i => i ≤ s.length ∧ ∀ j : Nat, j < i → -M ≤ getI s j ∧ getI s j ≤ M) (fun i => s.length - i) ?_ _ 0 _ _ ⟨by omega, by omega⟩ (by omega) (gc_to rfl (by simp [idFreeL, AV.idFree, *]; done))
  intro i ⟨hi, hb⟩ K hK
  have hmem : i < s.length → getI s i ∈ s := fun h => by rw [getI_nat]; simp [List.getD, h]
  have hall : i = s.length → ∀ v ∈ s, -M ≤ v ∧ v ≤ M := fun h v hv => by
    obtain ⟨k, hk, e⟩ := List.getElem_of_mem hv
    have := hb k (by omega)
    rw [getI_nat] at this
    simpa [List.getD, hk, e] using this
  repeat' first
 | (apply s_mov; (focus ((conv => lhs; whnf); done)))
 | (apply s_gT; exact rfl)
 | (apply s_gF; exact rfl)
 | (apply c_nil)
 | (apply s_pickT; exact rfl; (focus ((conv => lhs; whnf); done)))
 | (apply s_pickF; exact rfl; (focus ((conv => lhs; whnf); done)))
 | ((first | apply s_lss | apply s_leq | apply s_gtr | apply s_geq | apply s_eql | apply s_neq); exact rfl; all_goals (intro _; try (exfalso; omega)))
 | ((first | apply s_add | apply s_sub); exact rfl; omega)
 | (apply s_pn; (focus (repeat (first | apply opds_nil | (apply opds_cons; (first | (focus ((conv => lhs; whnf); done)) | exact rfl))))); exact hneg _)
 | (apply s_len; (focus ((conv => lhs; whnf); done)); (first | assumption | (apply IsLL.at; assumption; omega)))
 | (apply s_lenLL; (focus ((conv => lhs; whnf); done)); assumption)
 | (apply s_idx; (focus ((conv => lhs; whnf); done)); exact rfl; (first | assumption | (apply IsLL.at; assumption; omega)); omega)
 | (apply s_ldI; exact rfl; omega)
 | (apply c_seq)
 | (apply c_reg)
 | (apply c_block)
 | (apply c_exitH)
 | (apply c_skip)
 | (apply c_ret)
 | (apply c_condT; exact rfl)
 | (apply c_condF; exact rfl)
 | (apply c_preF; (focus (repeat (first | apply looks_nil | (apply looks_cons; (focus ((conv => lhs; whnf); done)))))); (focus (simp [idFreeL, AV.idFree, *]; done)))
 | (with_reducible apply k_c)
  all_goals first
    | (refine hK (i + 1) _ _ ⟨by omega, fun j hj => ?_⟩ (by omega) (gc_to rfl (by simp [idFreeL, AV.idFree, *]; done))
       rcases (by omega : j < i ∨ j = i) with h | rfl
       · exact hb j h
       · exact ⟨by omega, by omega⟩)
    | (refine fin_t (by (conv => lhs; whnf)) (by rfl) (leafT ⟨by omega, hall (by omega)⟩); done)
    | (refine fin_t (by (conv => lhs; whnf)) (by rfl) (leafF fun h => ?_); have := h.1; have h2 := h.2; first | omega | (have := h2 _ (hmem (by omega)); omega))
theorem c56 {x y : AV} {b : List (List Int)} {s : List Int} (hx : IsLL x b) (hy : IsL y s) (hl : s.length ≤ 1000) {M : Int} (hM : 0 ≤ M ∧ M ≤ 1099511627776) {m : Nat} (hm : 2010 ≤ m) (H : Heap) : callPure (evF tab it m) true 56 [x, y, .int .i64 M] H = some (.bool (decide (InR b.length M s)), H) :=
  callPure_free (by simp [idFreeL, AV.idFree, hx.free, hy.free]) (by simp) (f56 hx hy hl hM hm) rfl
theorem f24 {x y : AV} {b : List (List Int)} {s : List Int} (hx : IsLL x b) (hy : IsL y s) (hl : s.length ≤ 1000) {m : Nat} (hm : 2011 ≤ m) : evF tab it m 24 [x, y] [] = some (.bool (decide (InR b.length 1048576 s)), []) := by
  obtain ⟨m, rfl⟩ : ∃ j, m = j + 1 := ⟨m - 1, by omega⟩
  have e56 := fun H => c56 hx hy hl (M := 1048576) (by omega) (m := m) (by omega) H
  refine f_enter rfl rfl ?_
  generalize evF tab it m = call at *
  repeat' first
 | (apply s_mov; (focus ((conv => lhs; whnf); done)))
 | (apply c_nil)
 | (apply isE; refine s_cB (by (focus (repeat (first | apply opds_nil | (apply opds_cons; (first | (focus ((conv => lhs; whnf); done)) | exact rfl)))))) (e56 _) (fun _ => ?_) (fun _ => ?_))
 | (apply c_seq)
 | (apply c_reg)
 | (apply c_ret)
 | (with_reducible apply k_c)
  · exact fin_t (by (conv => lhs; whnf)) (by rfl) (leafT (by assumption))
  · exact fin_t (by (conv => lhs; whnf)) (by rfl) (leafF (by assumption))
theorem c24 {x y : AV} {b : List (List Int)} {s : List Int} (hx : IsLL x b) (hy : IsL y s) (hl : s.length ≤ 1000) {m : Nat} (hm : 2011 ≤ m) (H : Heap) : callPure (evF tab it m) true 24 [x, y] H = some (.bool (decide (InR b.length 1048576 s)), H) :=
  callPure_free (by simp [idFreeL, hx.free, hy.free]) (by simp) (f24 hx hy hl hm) rfl
theorem f38 {x y : AV} {b : List (List Int)} {s : List Int} (hx : IsLL x b) (hy : IsL y s) (hl : s.length ≤ 1000) {m : Nat} (hm : 2011 ≤ m) : evF tab it m 38 [x, y] [] = some (.bool (decide (InR b.length 1099511627776 s)), []) := by
  obtain ⟨m, rfl⟩ : ∃ j, m = j + 1 := ⟨m - 1, by omega⟩
  have e56 := fun H => c56 hx hy hl (M := 1099511627776) (by omega) (m := m) (by omega) H
  refine f_enter rfl rfl ?_
  generalize evF tab it m = call at *
  repeat' first
 | (apply s_mov; (focus ((conv => lhs; whnf); done)))
 | (apply c_nil)
 | (apply isE; refine s_cB (by (focus (repeat (first | apply opds_nil | (apply opds_cons; (first | (focus ((conv => lhs; whnf); done)) | exact rfl)))))) (e56 _) (fun _ => ?_) (fun _ => ?_))
 | (apply c_seq)
 | (apply c_reg)
 | (apply c_ret)
 | (with_reducible apply k_c)
  · exact fin_t (by (conv => lhs; whnf)) (by rfl) (leafT (by assumption))
  · exact fin_t (by (conv => lhs; whnf)) (by rfl) (leafF (by assumption))
theorem c38 {x y : AV} {b : List (List Int)} {s : List Int} (hx : IsLL x b) (hy : IsL y s) (hl : s.length ≤ 1000) {m : Nat} (hm : 2011 ≤ m) (H : Heap) : callPure (evF tab it m) true 38 [x, y] H = some (.bool (decide (InR b.length 1099511627776 s)), H) :=
  callPure_free (by simp [idFreeL, hx.free, hy.free]) (by simp) (f38 hx hy hl hm) rfl
end Go.AM.Ch
