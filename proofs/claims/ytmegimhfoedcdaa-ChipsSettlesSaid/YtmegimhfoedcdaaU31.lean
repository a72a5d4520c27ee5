/- A part of the proof: U31. -/
import Derived.Test.YtmegimhfoedcdaaU30
import Derived.Test.YtmegimhfoedcdaaU18
import Derived.Test.YtmegimhfoedcdaaM3
set_option linter.unusedSectionVars false
set_option linter.unusedVariables false
set_option linter.unusedSimpArgs false
namespace Go.AM.Ch
attribute [local go_sem] gc subHeap reach_skip ren_free reach_new reach_newp reach_end rangeL roots boxCells nodupB posOf renL AV.ren pickO renH renO looks look bindEnv envOf reach_int reach_bool reach_nilS reach_rd putRow cells_sl cells_int cells_bool cells_nilS cells_rd cells_agg reach_agg reach_tup idFreeL idf_sl idf_ptr idf_int idf_bool idf_nilS idf_rd reach_fn reach_mp cells_fn cells_ptr cells_mp idf_mp idf_fn idf_agg idf_tup
set_option maxHeartbeats 8000000
theorem awakeM {m : Nat} (hm : 60000 ≤ m) (H : Heap) : callPure (evF tab it m) true 25 [] H = some (.bool true, H) :=
  callPure_free rfl (by simp) (evF_mono hm _ _ _ _ awake) rfl
theorem f47e {x y : AV} {b : List (List Int)} {s : List Int} {q : Int} (hx : IsLL x b) (hy : IsL y s) (hl : b.length < 100) (hsl : s.length ≤ 1000) (h : ¬ SetIn b s q) {m : Nat} (hm : 2200 ≤ m) :
    evF tab it m 47 [x, y, .int .i64 q] [] = some (.tup [.nilS, .nilS, .int .i64 2], []) := by
  obtain ⟨m, rfl⟩ : ∃ j, m = j + 1 := ⟨m - 1, by omega⟩
  have fx := hx.free; have fy := hy.free
  have e52 := fun H => c52 hx hy hl hsl (m := m) (by omega) H
  have e53 := fun (a lo hi : Int) H => c53 (m := m) (by omega) a lo hi H
  have lx : ∀ H, evP H .len [x] = some (.int .i64 ((b.length : Nat) : Int)) := fun H => by cases hx <;> rfl
  have ly : ∀ H, evP H .len [y] = some (.int .i64 ((s.length : Nat) : Int)) := fun H => p_lenI hy
  refine f_enter rfl rfl ?_
  generalize hcall : evF tab it m = call at *
  by_cases h1 : IsB b ∧ InR b.length 1048576 s
  · have hsv := inR_get h1.2
    have hsl' := h1.2.1
    have hn2 := h1.1.n2
    rw [if_pos h1] at e52
    by_cases h2 : 0 ≤ q ∧ q < b.length
    · have hneg : ∃ v : Nat, v < b.length ∧ (v : Int) ≠ q ∧ getI s (v : Int) < 0 := by
        apply Classical.byContradiction
        intro hc
        exact h ⟨h1.1, h1.2, h2, fun v hv hvq => Classical.byContradiction fun h4 => hc ⟨v, hv, hvq, by omega⟩⟩
      have hbd2 := fun (i : Nat) (hi : i ≤ b.length) => sumTo_le (f := fun i => if (i : Int) = q then 0 else gf s i) (M := 1048576) (n := i) fun j hj => by
        have := hsv j (by omega)
        unfold gf
        split <;> omega
      repeat' first
 | (apply s_mov; (focus ((conv => lhs; whnf); done)))
 | (apply s_gT; exact rfl)
 | (apply c_nil)
 | (apply s_pickF; exact rfl; (focus ((conv => lhs; whnf); done)))
 | (apply s_notT; exact rfl)
 | (apply s_notF; exact rfl)
 | ((first | apply s_lss | apply s_leq | apply s_gtr | apply s_geq | apply s_eql | apply s_neq); exact rfl; all_goals (intro _; try (exfalso; omega)))
 | ((first | apply s_add | apply s_sub); exact rfl; omega)
 | (apply s_cn; (focus (repeat (first | apply opds_nil | (apply opds_cons; (first | (focus ((conv => lhs; whnf); done)) | exact rfl))))); exact e52 _)
 | (apply isE; refine s_cB (by (focus (repeat (first | apply opds_nil | (apply opds_cons; (first | (focus ((conv => lhs; whnf); done)) | exact rfl)))))) (e53 _ _ _ _) (fun _ => ?_) (fun _ => ?_))
 | (apply s_pn; (focus (repeat (first | apply opds_nil | (apply opds_cons; (first | (focus ((conv => lhs; whnf); done)) | exact rfl))))); exact lx _)
 | (apply s_pn; (focus (repeat (first | apply opds_nil | (apply opds_cons; (first | (focus ((conv => lhs; whnf); done)) | exact rfl))))); exact ly _)
 | (apply c_seq)
 | (apply c_reg)
 | (apply c_block)
 | (apply c_skip)
 | (apply c_ret)
 | (apply c_condT; exact rfl)
 | (apply c_condF; exact rfl)
 | (with_reducible apply k_c)
      rotate_left
      · exfalso; omega
      refine c_loop ?_
      refine loop_gc (σ := Nat) (fun i => [x, y, .int .i64 q, .int .i64 (oth i q (gf s)), y, .int .i64 ((s.length : Nat) : Int), .int .i64 (i : Int)]) (fun _ => []) (fun i => i ≤ b.length ∧ ∀ j : Nat, j < i → (j : Int) ≠ q → 0 ≤ getI s (j : Int)) (fun i => b.length - i) ?_ _ 0 _ _ ⟨by omega, by omega⟩ (by omega) (gc_to rfl (by simp [idFreeL, AV.idFree, *]; done))
      intro i ⟨hi, hnn⟩ K hK
      have hb3 := hbd2 i hi
      have hK1 := hK (i + 1)
      have e1 : oth (i + 1) q (gf s) = oth i q (gf s) + (if (i : Int) = q then 0 else getI s (i : Int)) := rfl
      have e0 : oth i q (gf s) = sumTo (fun i => if (i : Int) = q then 0 else gf s i) i := rfl
      rw [← e0] at hb3
      rw [e1] at hK1
      generalize hZ : oth i q (gf s) = Z at *
      by_cases hin : i < b.length
      · have h1 := hsv i hin
        by_cases hiq : (i : Int) = q
        · rw [if_pos hiq, Int.add_zero] at hK1
          repeat' first
 | (apply s_mov; (focus ((conv => lhs; whnf); done)))
 | (apply s_gF; exact rfl)
 | (apply c_nil)
 | (apply s_pickF; exact rfl; (focus ((conv => lhs; whnf); done)))
 | ((first | apply s_lss | apply s_leq | apply s_gtr | apply s_geq | apply s_eql | apply s_neq); exact rfl; all_goals (intro _; try (exfalso; omega)))
 | ((first | apply s_add | apply s_sub); exact rfl; omega)
 | (apply s_idx; (focus ((conv => lhs; whnf); done)); exact rfl; (first | assumption | (apply IsLL.at; assumption; omega)); omega)
 | (apply s_ldI; exact rfl; omega)
 | (apply c_seq)
 | (apply c_reg)
 | (apply c_block)
 | (apply c_skip)
 | (apply c_condT; exact rfl)
 | (apply c_condF; exact rfl)
 | (with_reducible apply k_c)
          all_goals first
            | (refine hK1 _ _ ⟨by omega, fun j hj hjq => ?_⟩ (by omega) (gc_to rfl (by simp [idFreeL, AV.idFree, *]; done))
               rcases (by omega : j < i ∨ j = i) with h | rfl
               · exact hnn j h hjq
               · exact absurd hiq hjq)
            | (exfalso; omega)
        · rw [if_neg hiq] at hK1
          repeat' first
 | (apply s_mov; (focus ((conv => lhs; whnf); done)))
 | (apply s_gT; exact rfl)
 | (apply c_nil)
 | (apply s_pickT; exact rfl; (focus ((conv => lhs; whnf); done)))
 | ((first | apply s_lss | apply s_leq | apply s_gtr | apply s_geq | apply s_eql | apply s_neq); exact rfl; all_goals (intro _; try (exfalso; omega)))
 | ((first | apply s_add | apply s_sub); exact rfl; omega)
 | (apply s_idx; (focus ((conv => lhs; whnf); done)); exact rfl; (first | assumption | (apply IsLL.at; assumption; omega)); omega)
 | (apply s_ldI; exact rfl; omega)
 | (apply c_seq)
 | (apply c_reg)
 | (apply c_block)
 | (apply c_skip)
 | (apply c_ret)
 | (apply c_condT; exact rfl)
 | (apply c_condF; exact rfl)
 | (with_reducible apply k_c)
          all_goals first
            | (refine hK1 _ _ ⟨by omega, fun j hj hjq => ?_⟩ (by omega) (gc_to rfl (by simp [idFreeL, AV.idFree, *]; done))
               rcases (by omega : j < i ∨ j = i) with h | rfl
               · exact hnn j h hjq
               · omega)
            | (simp [finish, ress, resOf, look, tupOf, go_sem]; done)
            | (exfalso; omega)
      · exfalso
        obtain ⟨v, hv, hvq, hlt⟩ := hneg
        have := hnn v (by omega) hvq
        omega
    · skip
      repeat' first
 | (apply s_mov; (focus ((conv => lhs; whnf); done)))
 | (apply s_gT; exact rfl)
 | (apply c_nil)
 | (apply s_pickF; exact rfl; (focus ((conv => lhs; whnf); done)))
 | (apply s_notT; exact rfl)
 | (apply s_notF; exact rfl)
 | ((first | apply s_lss | apply s_leq | apply s_gtr | apply s_geq | apply s_eql | apply s_neq); exact rfl; all_goals (intro _; try (exfalso; omega)))
 | ((first | apply s_add | apply s_sub); exact rfl; omega)
 | (apply s_cn; (focus (repeat (first | apply opds_nil | (apply opds_cons; (first | (focus ((conv => lhs; whnf); done)) | exact rfl))))); exact e52 _)
 | (apply isE; refine s_cB (by (focus (repeat (first | apply opds_nil | (apply opds_cons; (first | (focus ((conv => lhs; whnf); done)) | exact rfl)))))) (e53 _ _ _ _) (fun _ => ?_) (fun _ => ?_))
 | (apply s_pn; (focus (repeat (first | apply opds_nil | (apply opds_cons; (first | (focus ((conv => lhs; whnf); done)) | exact rfl))))); exact lx _)
 | (apply s_pn; (focus (repeat (first | apply opds_nil | (apply opds_cons; (first | (focus ((conv => lhs; whnf); done)) | exact rfl))))); exact ly _)
 | (apply c_seq)
 | (apply c_reg)
 | (apply c_block)
 | (apply c_skip)
 | (apply c_ret)
 | (apply c_condT; exact rfl)
 | (apply c_condF; exact rfl)
 | (with_reducible apply k_c)
      all_goals first
        | (simp [finish, ress, resOf, look, tupOf, go_sem]; done)
        | (exfalso; omega)
  · rw [if_neg h1] at e52
    repeat' first
 | (apply s_mov; (focus ((conv => lhs; whnf); done)))
 | (apply s_gF; exact rfl)
 | (apply s_gFD; exact rfl)
 | (apply c_nil)
 | (apply s_pickT; exact rfl; (focus ((conv => lhs; whnf); done)))
 | ((first | apply s_lss | apply s_leq | apply s_gtr | apply s_geq | apply s_eql | apply s_neq); exact rfl; all_goals (intro _; try (exfalso; omega)))
 | (apply s_cn; (focus (repeat (first | apply opds_nil | (apply opds_cons; (first | (focus ((conv => lhs; whnf); done)) | exact rfl))))); exact e52 _)
 | (apply c_seq)
 | (apply c_reg)
 | (apply c_ret)
 | (apply c_condT; exact rfl)
 | (with_reducible apply k_c)
    all_goals first
      | (simp [finish, ress, resOf, look, tupOf, go_sem]; done)
      | (exfalso; omega)
end Go.AM.Ch
