/- A part of the proof: U14. -/
import Derived.Test.YtmegimhfoedcdaaU13
set_option linter.unusedSectionVars false
set_option linter.unusedVariables false
set_option linter.unusedSimpArgs false
namespace Go.AM.Ch
set_option maxHeartbeats 8000000
/-- what is asked of an edge -/
def Ed (b : List (List Int)) (i k : Nat) : Prop := (0 ≤ getI (getLL b (i : Int)) (k : Int) ∧ getI (getLL b (i : Int)) (k : Int) ≤ 3) ∧ getI (getLL b (i : Int)) (k : Int) = getI (getLL b (k : Int)) (i : Int) ∧ (i = k → getI (getLL b (i : Int)) (k : Int) = 0)
structure IsB (b : List (List Int)) : Prop where
  n1 : 1 ≤ b.length
  n2 : b.length ≤ 10
  row : ∀ v : Nat, v < b.length → (getLL b (v : Int)).length = b.length
  ed : ∀ i k : Nat, i < b.length → k < b.length → Ed b i k
  con : Conn b
noncomputable instance (b : List (List Int)) : Decidable (IsB b) := Classical.propDecidable _
theorem IsB.bd {b : List (List Int)} (h : IsB b) : Bd b := ⟨by have := h.n2; omega, h.row, fun v k hv hk => (h.ed v k hv hk).1⟩
theorem IsB.sym {b : List (List Int)} (h : IsB b) : Sym b := fun v k hv hk => (h.ed v k hv hk).2.1
/-- isBoard -/
theorem f60 {x : AV} {b : List (List Int)} (hx : IsLL x b) (hl : b.length < 100) {m : Nat} (hm : 2100 ≤ m) : evF tab it m 60 [x] [] = some (.bool (decide (IsB b)), []) := by
  obtain ⟨m, rfl⟩ : ∃ j, m = j + 1 := ⟨m - 1, by omega⟩
  have fx := hx.free
  have lx : ∀ H, evP H .len [x] = some (.int .i64 ((b.length : Nat) : Int)) := fun H => by cases hx <;> rfl
  have e53 := fun (a lo hi : Int) H => c53 (m := m) (by omega) a lo hi H
  have e84 := fun (hb : Bd b) (hn : 0 < b.length) H => c84 (m := m) hx hb (q0 := 0) hn (by omega) H
  have e83 := fun (hb : Bd b) (hn : 0 < b.length) H => c83 (m := m) (isL_rd (l := (dist b 0).1)) (w := -1) (by rw [dist_len]; omega) (by omega) H
  have lr := fun {i : Nat} (hi : i < b.length) H => p_lenI (H := H) (hx.at (i := (i : Int)) ⟨by omega, by omega⟩)
  have fr := fun {i : Nat} (hi : i < b.length) => (hx.at (i := (i : Int)) ⟨by omega, by omega⟩).free
  refine f_enter rfl rfl ?_
  generalize evF tab it m = call at *
  repeat' first
 | (apply s_mov; (focus ((conv => lhs; whnf); done)))
 | (apply c_nil)
 | (apply s_notT; exact rfl)
 | (apply s_notF; exact rfl)
 | (apply s_pn; (focus (repeat (first | apply opds_nil | (apply opds_cons; (first | (focus ((conv => lhs; whnf); done)) | exact rfl))))); exact lx _)
 | (apply isE; refine s_cB (by (focus (repeat (first | apply opds_nil | (apply opds_cons; (first | (focus ((conv => lhs; whnf); done)) | exact rfl)))))) (e53 _ _ _ _) (fun _ => ?_) (fun _ => ?_))
 | (apply c_seq)
 | (apply c_reg)
 | (apply c_block)
 | (apply c_skip)
 | (apply c_ret)
 | (apply c_condT; exact rfl)
 | (apply c_condF; exact rfl)
 | (with_reducible apply k_c)
  · refine c_loop ?_
    refine loop_gc (σ := Nat) (fun i => [x, .int .i64 ((b.length : Nat) : Int), x, .int .i64 ((b.length : Nat) : Int), .int .i64 (i : Int)]) (fun _ => []) (fun i => i ≤ b.length ∧ ∀ v : Nat, v < i → (getLL b (v : Int)).length = b.length) (fun i => b.length - i) ?_ _ 0 _ _ ⟨by omega, by omega⟩ (by omega) (gc_to rfl (by simp [idFreeL, AV.idFree, *]; done))
    intro i ⟨hi, hrow⟩ K hK
    by_cases hin : i < b.length
    · have lri := fun H => lr hin H
      repeat' first
 | (apply s_mov; (focus ((conv => lhs; whnf); done)))
 | (apply c_nil)
 | ((first | apply s_lss | apply s_leq | apply s_gtr | apply s_geq | apply s_eql | apply s_neq); exact rfl; all_goals (intro _; try (exfalso; omega)))
 | ((first | apply s_add | apply s_sub); exact rfl; omega)
 | (apply s_pn; (focus (repeat (first | apply opds_nil | (apply opds_cons; (first | (focus ((conv => lhs; whnf); done)) | exact rfl))))); exact lri _)
 | (apply s_idxLL; (focus ((conv => lhs; whnf); done)); exact rfl; assumption; omega)
 | (apply s_ldLL; exact rfl; assumption; omega)
 | (apply c_seq)
 | (apply c_reg)
 | (apply c_block)
 | (apply c_skip)
 | (apply c_ret)
 | (apply c_condT; exact rfl)
 | (apply c_condF; exact rfl)
 | (with_reducible apply k_c)
      all_goals first
        | (refine hK (i + 1) _ _ ⟨by omega, fun v hv => ?_⟩ (by omega) (gc_to rfl (by simp [idFreeL, AV.idFree, *]; done))
           rcases (by omega : v < i ∨ v = i) with h | rfl
           · exact hrow v h
           · omega)
        | (refine fin_t (by (conv => lhs; whnf)) (by rfl) (leafF fun h => ?_); have := h.row i hin; omega)
    · obtain rfl : i = b.length := by omega
      repeat' first
 | (apply s_mov; (focus ((conv => lhs; whnf); done)))
 | (apply c_nil)
 | ((first | apply s_lss | apply s_leq | apply s_gtr | apply s_geq | apply s_eql | apply s_neq); exact rfl; all_goals (intro _; try (exfalso; omega)))
 | (apply s_pn; (focus (repeat (first | apply opds_nil | (apply opds_cons; (first | (focus ((conv => lhs; whnf); done)) | exact rfl))))); exact lx _)
 | (apply c_seq)
 | (apply c_reg)
 | (apply c_block)
 | (apply c_exitH)
 | (apply c_condF; exact rfl)
 | (apply c_preF; (focus (repeat (first | apply looks_nil | (apply looks_cons; (focus ((conv => lhs; whnf); done)))))); (focus (simp [idFreeL, AV.idFree, *]; done)))
 | (with_reducible apply k_c)
      refine c_loop ?_
      refine loop_gc (σ := Nat) (fun i => [x, x, .int .i64 ((b.length : Nat) : Int), .int .i64 (i : Int)]) (fun _ => []) (fun i => i ≤ b.length ∧ ∀ v k : Nat, v < i → k < b.length → Ed b v k) (fun i => b.length - i) ?_ _ 0 _ _ ⟨by omega, by omega⟩ (by omega) (gc_to rfl (by simp [idFreeL, AV.idFree, *]; done))
      intro i ⟨hi, hed⟩ K hK
      by_cases hin : i < b.length
      · have lri := fun H => lr hin H
        have fri := fr hin
        have hri := hrow i hin
        rw [hri] at lri
        repeat' first
 | (apply s_mov; (focus ((conv => lhs; whnf); done)))
 | (apply c_nil)
 | ((first | apply s_lss | apply s_leq | apply s_gtr | apply s_geq | apply s_eql | apply s_neq); exact rfl; all_goals (intro _; try (exfalso; omega)))
 | (apply s_pn; (focus (repeat (first | apply opds_nil | (apply opds_cons; (first | (focus ((conv => lhs; whnf); done)) | exact rfl))))); exact lri _)
 | (apply s_idxLL; (focus ((conv => lhs; whnf); done)); exact rfl; assumption; omega)
 | (apply s_ldLL; exact rfl; assumption; omega)
 | (apply c_seq)
 | (apply c_reg)
 | (apply c_block)
 | (apply c_skip)
 | (apply c_condT; exact rfl)
 | (with_reducible apply k_c)
        refine c_loop ?_
        refine loop_gc (σ := Nat) (fun k => [x, .int .i64 (i : Int), x, .int .i64 ((b.length : Nat) : Int), .int .i64 (i : Int), llAt x (i : Int), .int .i64 ((b.length : Nat) : Int), .int .i64 (k : Int)]) (fun _ => []) (fun k => k ≤ b.length ∧ ∀ k' : Nat, k' < k → Ed b i k') (fun k => b.length - k) ?_ _ 0 _ _ ⟨by omega, by omega⟩ (by omega) (gc_to rfl (by simp [idFreeL, AV.idFree, *]; done))
        intro k ⟨hk, hek⟩ K2 hK2
        by_cases hkn : k < b.length
        · have hrk := hrow k hkn
          have hLi := hx.at (i := (i : Int)) ⟨by omega, by omega⟩
          repeat' first
 | (apply s_mov; (focus ((conv => lhs; whnf); done)))
 | (apply s_gT; exact rfl)
 | (apply s_gF; exact rfl)
 | (apply c_nil)
 | (apply s_pickT; exact rfl; (focus ((conv => lhs; whnf); done)))
 | (apply s_pickF; exact rfl; (focus ((conv => lhs; whnf); done)))
 | (apply s_notT; exact rfl)
 | (apply s_notF; exact rfl)
 | ((first | apply s_lss | apply s_leq | apply s_gtr | apply s_geq | apply s_eql | apply s_neq); exact rfl; all_goals (intro _; try (exfalso; omega)))
 | ((first | apply s_add | apply s_sub); exact rfl; omega)
 | (apply isE; refine s_cB (by (focus (repeat (first | apply opds_nil | (apply opds_cons; (first | (focus ((conv => lhs; whnf); done)) | exact rfl)))))) (e53 _ _ _ _) (fun _ => ?_) (fun _ => ?_))
 | (apply s_idx; (focus ((conv => lhs; whnf); done)); exact rfl; (first | assumption | (apply IsLL.at; assumption; omega)); omega)
 | (apply s_idxLL; (focus ((conv => lhs; whnf); done)); exact rfl; assumption; omega)
 | (apply s_ldI; exact rfl; omega)
 | (apply s_ldLL; exact rfl; assumption; omega)
 | (apply c_seq)
 | (apply c_reg)
 | (apply c_block)
 | (apply c_skip)
 | (apply c_ret)
 | (apply c_condT; exact rfl)
 | (apply c_condF; exact rfl)
 | (with_reducible apply k_c)
          all_goals first
            | (refine hK2 (k + 1) _ _ ⟨by omega, fun k' hk' => ?_⟩ (by omega) (gc_to rfl (by simp [idFreeL, AV.idFree, *]; done))
               rcases (by omega : k' < k ∨ k' = k) with h | rfl
               · exact hek k' h
               · unfold Ed; omega)
            | (refine fin_t (by (conv => lhs; whnf)) (by rfl) (leafF fun h => ?_); have := h.ed i k hin hkn; unfold Ed at this; omega)
        · obtain rfl : k = b.length := by omega
          repeat' first
 | (apply s_mov; (focus ((conv => lhs; whnf); done)))
 | (apply c_nil)
 | ((first | apply s_lss | apply s_leq | apply s_gtr | apply s_geq | apply s_eql | apply s_neq); exact rfl; all_goals (intro _; try (exfalso; omega)))
 | ((first | apply s_add | apply s_sub); exact rfl; omega)
 | (apply c_seq)
 | (apply c_reg)
 | (apply c_exitH)
 | (apply c_condF; exact rfl)
 | (apply c_preF; (focus (repeat (first | apply looks_nil | (apply looks_cons; (focus ((conv => lhs; whnf); done)))))); (focus (simp [idFreeL, AV.idFree, *]; done)))
 | (with_reducible apply k_c)
          exact hK (i + 1) _ _ ⟨by omega, fun v k hv hk => by
            rcases (by omega : v < i ∨ v = i) with h | rfl
            · exact hed v k h hk
            · exact hek k hk⟩ (by omega) (gc_to rfl (by simp [idFreeL, AV.idFree, *]; done))
      · obtain rfl : i = b.length := by omega
        have hbd : Bd b := ⟨by omega, hrow, fun v k hv hk => (hed v k hv hk).1⟩
        have hci := conn_iff (b := b) (by omega)
        have e84' := e84 hbd (by omega)
        have e83' := e83 hbd (by omega)
        repeat' first
 | (apply s_mov; (focus ((conv => lhs; whnf); done)))
 | (apply c_nil)
 | (apply s_notT; exact rfl)
 | (apply s_notF; exact rfl)
 | ((first | apply s_lss | apply s_leq | apply s_gtr | apply s_geq | apply s_eql | apply s_neq); exact rfl; all_goals (intro _; try (exfalso; omega)))
 | (apply s_cn; (focus (repeat (first | apply opds_nil | (apply opds_cons; (first | (focus ((conv => lhs; whnf); done)) | exact rfl))))); exact e84' _)
 | (apply isE; refine s_cB (by (focus (repeat (first | apply opds_nil | (apply opds_cons; (first | (focus ((conv => lhs; whnf); done)) | exact rfl)))))) (e83' _) (fun _ => ?_) (fun _ => ?_))
 | (apply c_seq)
 | (apply c_reg)
 | (apply c_exitH)
 | (apply c_ret)
 | (apply c_condF; exact rfl)
 | (apply c_preF; (focus (repeat (first | apply looks_nil | (apply looks_cons; (focus ((conv => lhs; whnf); done)))))); (focus (simp [idFreeL, AV.idFree, *]; done)))
 | (with_reducible apply k_c)
        · exact fin_t (by (conv => lhs; whnf)) (by rfl) (leafF fun h => absurd (by assumption) (hci.2 h.con))
        · exact fin_t (by (conv => lhs; whnf)) (by rfl) (leafT ⟨by omega, by omega, hrow, hed, hci.1 (by assumption)⟩)
  · exact fin_t (by (conv => lhs; whnf)) (by rfl) (leafF fun h => by have := h.n1; have := h.n2; omega)
theorem c60 {x : AV} {b : List (List Int)} (hx : IsLL x b) (hl : b.length < 100) {m : Nat} (hm : 2100 ≤ m) (H : Heap) : callPure (evF tab it m) true 60 [x] H = some (.bool (decide (IsB b)), H) :=
  callPure_free (by simp [idFreeL, hx.free]) (by simp) (f60 hx hl hm) rfl
end Go.AM.Ch
