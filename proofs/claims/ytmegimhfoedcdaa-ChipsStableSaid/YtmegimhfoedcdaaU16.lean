/- A part of the proof: U16. -/
import Derived.Test.YtmegimhfoedcdaaU15b
set_option linter.unusedSectionVars false
set_option linter.unusedVariables false
set_option linter.unusedSimpArgs false
namespace Go.AM.Ch
attribute [local go_sem] gc subHeap reach_skip ren_free reach_new reach_newp reach_end rangeL roots boxCells nodupB posOf renL AV.ren pickO renH renO looks look bindEnv envOf reach_int reach_bool reach_nilS reach_rd putRow cells_sl cells_int cells_bool cells_nilS cells_rd cells_agg reach_agg reach_tup idFreeL idf_sl idf_ptr idf_int idf_bool idf_nilS idf_rd reach_fn reach_mp cells_fn cells_ptr cells_mp idf_mp idf_fn idf_agg idf_tup
set_option maxHeartbeats 8000000
/-- the reference's Board -/
theorem f23 {x : AV} {b : List (List Int)} (hx : IsLL x b) (hl : b.length < 100) {m : Nat} (hm : 2100 ≤ m) : evF tab it m 23 [x] [] = some (.bool (decide (IsB b)), []) := by
  obtain ⟨m, rfl⟩ : ∃ j, m = j + 1 := ⟨m - 1, by omega⟩
  have fx := hx.free
  have lx : ∀ H, evP H .len [x] = some (.int .i64 ((b.length : Nat) : Int)) := fun H => by cases hx <;> rfl
  have lr := fun {i : Nat} (hi : i < b.length) H => p_lenI (H := H) (hx.at (i := (i : Int)) ⟨by omega, by omega⟩)
  refine f_enter rfl rfl ?_
  generalize evF tab it m = call at *
  by_cases hn : 1 ≤ b.length ∧ b.length ≤ 10
  · obtain ⟨n1, n2⟩ := hn
    repeat' first
 | (apply s_mov; (focus ((conv => lhs; whnf); done)))
 | (apply s_gT; exact rfl)
 | (apply c_nil)
 | (apply s_pickF; exact rfl; (focus ((conv => lhs; whnf); done)))
 | ((first | apply s_lss | apply s_leq | apply s_gtr | apply s_geq | apply s_eql | apply s_neq); exact rfl; all_goals (intro _; try (exfalso; omega)))
 | (apply s_pn; (focus (repeat (first | apply opds_nil | (apply opds_cons; (first | (focus ((conv => lhs; whnf); done)) | exact rfl))))); exact lx _)
 | (apply c_seq)
 | (apply c_reg)
 | (apply c_block)
 | (apply c_skip)
 | (apply c_condF; exact rfl)
 | (with_reducible apply k_c)
    all_goals first | (exfalso; omega) | skip
    refine c_loop ?_
    refine loop_gc (σ := Nat) (fun i => [x, .int .i64 ((b.length : Nat) : Int), .int .i64 (i : Int)]) (fun _ => []) (fun i => i ≤ b.length ∧ ∀ v : Nat, v < i → (getLL b (v : Int)).length = b.length) (fun i => b.length - i) ?_ _ 0 _ _ ⟨by omega, by omega⟩ (by omega) (gc_to rfl (by simp [idFreeL, AV.idFree, *]; done))
    intro i ⟨hi, hrow⟩ K hK
    by_cases hin : i < b.length
    · have lri := fun H => lr hin H
      repeat' first
 | (apply s_mov; (focus ((conv => lhs; whnf); done)))
 | (apply c_nil)
 | ((first | apply s_lss | apply s_leq | apply s_gtr | apply s_geq | apply s_eql | apply s_neq); exact rfl; all_goals (intro _; try (exfalso; omega)))
 | ((first | apply s_add | apply s_sub); exact rfl; omega)
 | (apply s_pn; (focus (repeat (first | apply opds_nil | (apply opds_cons; (first | (focus ((conv => lhs; whnf); done)) | exact rfl))))); exact lri _)
 | (apply s_idxLL; (focus ((conv => lhs; whnf); done)); exact rfl; assumption; omega)
 | (apply s_ldLL; exact rfl; assumption; omega)
 | (apply c_seq)
 | (apply c_reg)
 | (apply c_block)
 | (apply c_skip)
 | (apply c_ret)
 | (apply c_condT; exact rfl)
 | (apply c_condF; exact rfl)
 | (with_reducible apply k_c)
      all_goals first
        | (refine hK (i + 1) _ _ ⟨by omega, fun v hv => ?_⟩ (by omega) (gc_to rfl (by simp [idFreeL, AV.idFree, *]; done))
           rcases (by omega : v < i ∨ v = i) with h | rfl
           · exact hrow v h
           · omega)
        | (refine fin_t (by (conv => lhs; whnf)) (by rfl) (leafF fun h => ?_); have := h.row i hin; omega)
    · obtain rfl : i = b.length := by omega
      repeat' first
 | (apply s_mov; (focus ((conv => lhs; whnf); done)))
 | (apply c_nil)
 | ((first | apply s_lss | apply s_leq | apply s_gtr | apply s_geq | apply s_eql | apply s_neq); exact rfl; all_goals (intro _; try (exfalso; omega)))
 | (apply c_seq)
 | (apply c_reg)
 | (apply c_block)
 | (apply c_exitH)
 | (apply c_condF; exact rfl)
 | (apply c_preF; (focus (repeat (first | apply looks_nil | (apply looks_cons; (focus ((conv => lhs; whnf); done)))))); (focus (simp [idFreeL, AV.idFree, *]; done)))
 | (with_reducible apply k_c)
      refine c_loop ?_
      refine loop_gc (σ := Nat) (fun i => [x, .int .i64 ((b.length : Nat) : Int), .int .i64 (i : Int)]) (fun _ => []) (fun i => i ≤ b.length ∧ ∀ v k : Nat, v < i → k < b.length → Ed b v k) (fun i => b.length - i) ?_ _ 0 _ _ ⟨by omega, by omega⟩ (by omega) (gc_to rfl (by simp [idFreeL, AV.idFree, *]; done))
      intro i ⟨hi, hed⟩ K hK
      by_cases hin : i < b.length
      · have hri := hrow i hin
        repeat' first
 | (apply s_mov; (focus ((conv => lhs; whnf); done)))
 | (apply c_nil)
 | ((first | apply s_lss | apply s_leq | apply s_gtr | apply s_geq | apply s_eql | apply s_neq); exact rfl; all_goals (intro _; try (exfalso; omega)))
 | (apply c_seq)
 | (apply c_reg)
 | (apply c_block)
 | (apply c_skip)
 | (apply c_condT; exact rfl)
 | (with_reducible apply k_c)
        refine c_loop ?_
        refine loop_gc (σ := Nat) (fun k => [x, .int .i64 ((b.length : Nat) : Int), .int .i64 (i : Int), .int .i64 (k : Int)]) (fun _ => []) (fun k => k ≤ b.length ∧ ∀ k' : Nat, k' < k → Ed b i k') (fun k => b.length - k) ?_ _ 0 _ _ ⟨by omega, by omega⟩ (by omega) (gc_to rfl (by simp [idFreeL, AV.idFree, *]; done))
        intro k ⟨hk, hek⟩ K2 hK2
        by_cases hkn : k < b.length
        · have hrk := hrow k hkn
          have hLi := hx.at (i := (i : Int)) ⟨by omega, by omega⟩
          repeat' first
 | (apply s_mov; (focus ((conv => lhs; whnf); done)))
 | (apply s_gT; exact rfl)
 | (apply s_gF; exact rfl)
 | (apply c_nil)
 | (apply s_pickT; exact rfl; (focus ((conv => lhs; whnf); done)))
 | (apply s_pickF; exact rfl; (focus ((conv => lhs; whnf); done)))
 | ((first | apply s_lss | apply s_leq | apply s_gtr | apply s_geq | apply s_eql | apply s_neq); exact rfl; all_goals (intro _; try (exfalso; omega)))
 | ((first | apply s_add | apply s_sub); exact rfl; omega)
 | (apply s_idx; (focus ((conv => lhs; whnf); done)); exact rfl; (first | assumption | (apply IsLL.at; assumption; omega)); omega)
 | (apply s_idxLL; (focus ((conv => lhs; whnf); done)); exact rfl; assumption; omega)
 | (apply s_ldI; exact rfl; omega)
 | (apply s_ldLL; exact rfl; assumption; omega)
 | (apply c_seq)
 | (apply c_reg)
 | (apply c_block)
 | (apply c_skip)
 | (apply c_ret)
 | (apply c_condT; exact rfl)
 | (apply c_condF; exact rfl)
 | (with_reducible apply k_c)
          all_goals first
            | (refine hK2 (k + 1) _ _ ⟨by omega, fun k' hk' => ?_⟩ (by omega) (gc_to rfl (by simp [idFreeL, AV.idFree, *]; done))
               rcases (by omega : k' < k ∨ k' = k) with h | rfl
               · exact hek k' h
               · unfold Ed; omega)
            | (refine fin_t (by (conv => lhs; whnf)) (by rfl) (leafF fun h => ?_); have := h.ed i k hin hkn; unfold Ed at this; omega)
        · obtain rfl : k = b.length := by omega
          repeat' first
 | (apply s_mov; (focus ((conv => lhs; whnf); done)))
 | (apply c_nil)
 | ((first | apply s_lss | apply s_leq | apply s_gtr | apply s_geq | apply s_eql | apply s_neq); exact rfl; all_goals (intro _; try (exfalso; omega)))
 | ((first | apply s_add | apply s_sub); exact rfl; omega)
 | (apply c_seq)
 | (apply c_reg)
 | (apply c_exitH)
 | (apply c_condF; exact rfl)
 | (apply c_preF; (focus (repeat (first | apply looks_nil | (apply looks_cons; (focus ((conv => lhs; whnf); done)))))); (focus (simp [idFreeL, AV.idFree, *]; done)))
 | (with_reducible apply k_c)
          exact hK (i + 1) _ _ ⟨by omega, fun v k hv hk => by
            rcases (by omega : v < i ∨ v = i) with h | rfl
            · exact hed v k h hk
            · exact hek k hk⟩ (by omega) (gc_to rfl (by simp [idFreeL, AV.idFree, *]; done))
      · obtain rfl : i = b.length := by omega
        have hbd : Bd b := ⟨by omega, hrow, fun v k hv hk => (hed v k hv hk).1⟩
        have mk := fun call H => @e_mkB call H b.length (by unfold most; omega)
        have hz : bL (List.replicate b.length false) = sn (List.replicate b.length (-1)) := by simp [bL, sn]
        simp only [hz] at mk
        have bld : ∀ call H (a : Int), evE call H (.bldS true false 1 1 [.int .i64 0] [(0, 1)]) [.int .i64 a] = some (.sl H.length 1 0 1, H ++ [some (.data [.int .i64 a])]) := fun call H a => rfl
        have st0 := fun call (H : Heap) (h : H.data? 0 = some (sn (List.replicate b.length (-1)))) => e_stS (call := call) (i := 0) (a := 0) h (by simp; omega) (by omega)
        have ix0 := fun H => p_ixO (H := H) (id := 0) (n := b.length) (i := 0) (by omega)
        have gcS : ∀ (k j : Nat) (C D : List AV), gc 0 [x, .int .i64 ((b.length : Nat) : Int), .sl 0 1 0 b.length, .sl 1 1 0 k, .int .i64 (j : Int)] [some (.data C), some (.data D)] = some ([x, .int .i64 ((b.length : Nat) : Int), .sl 0 1 0 b.length, .sl 1 1 0 k, .int .i64 (j : Int)], [some (.data C), some (.data D)]) := fun k j C D => by simp [go_sem, fx]
        repeat' first
 | (apply s_mov; (focus ((conv => lhs; whnf); done)))
 | (apply c_nil)
 | ((first | apply s_lss | apply s_leq | apply s_gtr | apply s_geq | apply s_eql | apply s_neq); exact rfl; all_goals (intro _; try (exfalso; omega)))
 | (apply s_en; (focus (repeat (first | apply opds_nil | (apply opds_cons; (first | (focus ((conv => lhs; whnf); done)) | exact rfl))))); exact mk _ _)
 | (apply s_pn; (focus (repeat (first | apply opds_nil | (apply opds_cons; (first | (focus ((conv => lhs; whnf); done)) | exact rfl))))); exact ix0 _)
 | (apply s_st; (focus (repeat (first | apply opds_nil | (apply opds_cons; (first | (focus ((conv => lhs; whnf); done)) | exact rfl))))); exact st0 _ _ rfl)
 | (apply s_en; (focus (repeat (first | apply opds_nil | (apply opds_cons; (first | (focus ((conv => lhs; whnf); done)) | exact rfl))))); exact bld _ _ _)
 | (apply c_seq)
 | (apply c_reg)
 | (apply c_block)
 | (apply c_exitH)
 | (apply c_condF; exact rfl)
 | (apply c_preF; (focus (repeat (first | apply looks_nil | (apply looks_cons; (focus ((conv => lhs; whnf); done)))))); (focus (simp [idFreeL, AV.idFree, *]; done)))
 | (with_reducible apply k_c)
        have hR : dist b 0 = dist b 0 := rfl
        have hn0 := negs_le (d0 b.length 0)
        have hd0 : (d0 b.length 0).length = b.length := by simp [d0]
        refine c_loop ?_
        refine loop_gc (σ := List Int × List Nat × List Nat) (fun p => [x, .int .i64 ((b.length : Nat) : Int), .sl 0 1 0 b.length, .sl 1 1 0 (p.2.1 ++ p.2.2).length, .int .i64 (p.2.1.length : Int)]) (fun p => [some (.data (sn p.1)), some (.data (iL (nI (p.2.1 ++ p.2.2))))]) (fun p => Bfs b.length p.1 p.2.1 p.2.2 ∧ ∃ f, 2 * negs p.1 + p.2.2.length ≤ f ∧ bfsF b b.length f p.1 p.2.1 p.2.2 = dist b 0) (fun p => 2 * negs p.1 + p.2.2.length) ?_ _ (d0 b.length 0, [], [0]) _ _ ⟨Bfs.init (by omega), 2 * b.length + 2, by simp only [List.length_cons, List.length_nil]; omega, rfl⟩ (by simp only [List.length_cons, List.length_nil]; omega) (gcS 1 0 _ _)
        intro ⟨d, dn, q⟩ ⟨hB, f, hf, hfR⟩ K2 hK2
        dsimp only at hB hf hfR hK2 ⊢
        rcases q with _ | ⟨v, q⟩
        · have hdd : dist b 0 = (d, dn) := by rw [← hfR]; cases f <;> rfl
          have hcon : Conn b ↔ dn.length = b.length := by unfold Conn; rw [hdd]
          simp only [List.append_nil]
          repeat' first
 | (apply s_mov; (focus ((conv => lhs; whnf); done)))
 | (apply c_nil)
 | ((first | apply s_lss | apply s_leq | apply s_gtr | apply s_geq | apply s_eql | apply s_neq); exact rfl; all_goals (intro _; try (exfalso; omega)))
 | (apply s_lenSl; exact rfl)
 | (apply c_seq)
 | (apply c_reg)
 | (apply c_exitH)
 | (apply c_condF; exact rfl)
 | (with_reducible apply k_c)
          all_goals first | (exfalso; omega) | skip
          all_goals apply c_pre (vs := [.int .i64 ((b.length : Nat) : Int), .sl 0 1 0 dn.length]) (H' := [some (.data (iL (nI dn)))])
          all_goals first | (simp [go_sem]; done) | skip
          repeat' first
 | (apply s_mov; (focus ((conv => lhs; whnf); done)))
 | (apply c_nil)
 | ((first | apply s_lss | apply s_leq | apply s_gtr | apply s_geq | apply s_eql | apply s_neq); exact rfl; all_goals (intro _; try (exfalso; omega)))
 | (apply s_lenSl; exact rfl)
 | (apply c_seq)
 | (apply c_reg)
 | (apply c_ret)
 | (with_reducible apply k_c)
          all_goals first
            | (exact fin_t (by (conv => lhs; whnf)) (by rfl) (leafT (IsB.mk (by omega) (by omega) hrow hed (hcon.2 (by omega)))))
            | (refine fin_t (by (conv => lhs; whnf)) (by rfl) (leafF fun h => ?_); have := hcon.1 h.con; omega)
        · have hv : v < b.length := hB.lt v (by simp)
          have hvd := (hB.iff v hv).2 (by simp)
          have e0 : dn ++ v :: q = dn ++ [v] ++ q := by simp
          have hB' : Bfs b.length d (dn ++ [v]) q := ⟨hB.len, hB.low, e0 ▸ hB.nd, e0 ▸ hB.lt, e0 ▸ hB.iff, e0 ▸ hB.far⟩
          have hcap : ∀ {d1 : List Int} {dn1 q1 : List Nat}, Bfs b.length d1 dn1 q1 → (dn1 ++ q1).length ≤ b.length := fun h => by
            have := nodup_len h.nd fun w hw => List.mem_range.2 (h.lt w hw)
            rwa [List.length_range] at this
          obtain ⟨f, rfl⟩ : ∃ j, f = j + 1 := ⟨f - 1, by simp only [List.length_cons] at hf; omega⟩
          simp only [bfsF] at hfR
          obtain ⟨hpop, hdec⟩ := Bfs.pop (b := b) hB
          have hLv := hx.at (i := (v : Int)) ⟨by omega, by omega⟩
          have hrl := hrow v hv
          have hdn : dn.length ≤ 10 := by have := hcap hB; simp at this; omega
          have hlq : dn.length < (dn ++ v :: q).length := by simp
          rw [e0] at hlq ⊢
          have gcI : ∀ (k i j : Nat) (C D : List AV), gc 0 [x, .int .i64 ((b.length : Nat) : Int), .sl 0 1 0 b.length, .sl 1 1 0 k, .int .i64 (i : Int), .int .i64 (j : Int)] [some (.data C), some (.data D)] = some ([x, .int .i64 ((b.length : Nat) : Int), .sl 0 1 0 b.length, .sl 1 1 0 k, .int .i64 (i : Int), .int .i64 (j : Int)], [some (.data C), some (.data D)]) := fun k i j C D => by simp [go_sem, fx]
          repeat' first
 | (apply s_mov; (focus ((conv => lhs; whnf); done)))
 | (apply c_nil)
 | ((first | apply s_lss | apply s_leq | apply s_gtr | apply s_geq | apply s_eql | apply s_neq); exact rfl; all_goals (intro _; try (exfalso; omega)))
 | (apply s_lenSl; exact rfl)
 | (apply c_seq)
 | (apply c_reg)
 | (apply c_block)
 | (apply c_skip)
 | (apply c_condT; exact rfl)
 | (with_reducible apply k_c)
          all_goals first | (exfalso; omega) | skip
          refine c_loop ?_
          refine loop_gc (σ := Nat) (fun j => [x, .int .i64 ((b.length : Nat) : Int), .sl 0 1 0 b.length, .sl 1 1 0 (dn ++ [v] ++ (bIn b v j (d, q)).2).length, .int .i64 (dn.length : Int), .int .i64 (j : Int)]) (fun j => [some (.data (sn (bIn b v j (d, q)).1)), some (.data (iL (nI (dn ++ [v] ++ (bIn b v j (d, q)).2))))]) (fun j => j ≤ b.length) (fun j => b.length - j) ?_ _ 0 _ _ (Nat.zero_le _) (by omega) (gcI _ dn.length 0 _ _)
          intro j hj K3 hK3
          obtain ⟨hB1, hv1, hm1⟩ := bIn_ok (b := b) hB' hv hvd j hj
          by_cases hjn : j < b.length
          · have hcap1 := hcap hB1
            have hstep : bIn b v (j + 1) (d, q) = if 0 < getI (getLL b (v : Int)) (j : Int) ∧ getI (bIn b v j (d, q)).1 (j : Int) < 0 then ((bIn b v j (d, q)).1.set j (getI (bIn b v j (d, q)).1 (v : Int) + 1), (bIn b v j (d, q)).2 ++ [j]) else bIn b v j (d, q) := rfl
            have hK31 := hK3 (j + 1)
            simp only [hstep] at hK31
            generalize bIn b v j (d, q) = st at *
            obtain ⟨d1, q1⟩ := st
            dsimp only at *
            have hl1 := hB1.len
            have hgv : getI (nI (dn ++ [v] ++ q1)) (dn.length : Int) = (v : Int) := by rw [getI_nat]; simp [nI, List.getD]
            have ixq := fun H => p_ixO (H := H) (id := 1) (n := (dn ++ [v] ++ q1).length) (i := dn.length) (by simp)
            have ldq := fun (H : Heap) (h : H.data? 1 = some (iL (nI (dn ++ [v] ++ q1)))) => (p_ldO (id := 1) (i := dn.length) h (by simp [nI])).trans (by rw [hgv])
            have lds := fun (H : Heap) (h : H.data? 0 = some (sn d1)) => p_ldS (id := 0) (i := j) h (by omega)
            have stk := fun call (H : Heap) (h : H.data? 0 = some (sn d1)) => e_stS (call := call) (id := 0) (i := j) (a := getI d1 (v : Int) + 1) h (by omega) (by omega)
            have apq := fun call (H : Heap) (h : H.data? 1 = some (iL ([] ++ nI (dn ++ [v] ++ q1)))) => e_appO (call := call) (a := (j : Int)) (id := 1) (pr := []) h rfl (nI_len _) (by unfold most; omega)
            by_cases hc : 0 < getI (getLL b (v : Int)) (j : Int) ∧ getI d1 (j : Int) < 0
            · simp only [if_pos hc] at hK31
              have hds : decide (0 ≤ getI d1 (j : Int)) = false := by simp; omega
              rw [hds] at lds
              have hc1 := hc.1
              repeat' first
 | (apply s_mov; (focus ((conv => lhs; whnf); done)))
 | (apply s_gT; exact rfl)
 | (apply c_nil)
 | (apply s_pickT; exact rfl; (focus ((conv => lhs; whnf); done)))
 | (apply s_notF; exact rfl)
 | ((first | apply s_lss | apply s_leq | apply s_gtr | apply s_geq | apply s_eql | apply s_neq); exact rfl; all_goals (intro _; try (exfalso; omega)))
 | ((first | apply s_add | apply s_sub); exact rfl; omega)
 | (apply s_pn; (focus (repeat (first | apply opds_nil | (apply opds_cons; (first | (focus ((conv => lhs; whnf); done)) | exact rfl))))); exact ixq _)
 | (apply s_pn; (focus (repeat (first | apply opds_nil | (apply opds_cons; (first | (focus ((conv => lhs; whnf); done)) | exact rfl))))); exact ldq _ rfl)
 | (apply s_pn; (focus (repeat (first | apply opds_nil | (apply opds_cons; (first | (focus ((conv => lhs; whnf); done)) | exact rfl))))); exact p_ixO hjn)
 | (apply s_pn; (focus (repeat (first | apply opds_nil | (apply opds_cons; (first | (focus ((conv => lhs; whnf); done)) | exact rfl))))); exact lds _ rfl)
 | (apply s_st; (focus (repeat (first | apply opds_nil | (apply opds_cons; (first | (focus ((conv => lhs; whnf); done)) | exact rfl))))); exact stk _ _ rfl)
 | (apply s_en; (focus (repeat (first | apply opds_nil | (apply opds_cons; (first | (focus ((conv => lhs; whnf); done)) | exact rfl))))); exact e_bld1 rfl rfl rfl rfl)
 | (apply s_en; (focus (repeat (first | apply opds_nil | (apply opds_cons; (first | (focus ((conv => lhs; whnf); done)) | exact rfl))))); exact apq _ _ rfl)
 | (apply s_idx; (focus ((conv => lhs; whnf); done)); exact rfl; (first | assumption | (apply IsLL.at; assumption; omega)); omega)
 | (apply s_idxLL; (focus ((conv => lhs; whnf); done)); exact rfl; assumption; omega)
 | (apply s_ldI; exact rfl; omega)
 | (apply s_ldLL; exact rfl; assumption; omega)
 | (apply c_seq)
 | (apply c_reg)
 | (apply c_block)
 | (apply c_skip)
 | (apply c_condT; exact rfl)
 | (with_reducible apply k_c)
              all_goals first | (exfalso; omega) | skip
              have eq1 : nI (dn ++ [v] ++ q1) ++ [(j : Int)] = nI (dn ++ [v] ++ (q1 ++ [j])) := by simp [nI]
              rw [eq1]
              refine hK31 _ _ (by omega) (by omega) ?_
              simp [go_sem, fx]
              omega
            · simp only [if_neg hc] at hK31
              by_cases hg : 0 < getI (getLL b (v : Int)) (j : Int)
              · have hds : decide (0 ≤ getI d1 (j : Int)) = true := by
                  simp only [decide_eq_true_eq]
                  exact Classical.byContradiction fun h => hc ⟨hg, by omega⟩
                rw [hds] at lds
                repeat' first
 | (apply s_mov; (focus ((conv => lhs; whnf); done)))
 | (apply s_gT; exact rfl)
 | (apply c_nil)
 | (apply s_pickT; exact rfl; (focus ((conv => lhs; whnf); done)))
 | (apply s_notT; exact rfl)
 | ((first | apply s_lss | apply s_leq | apply s_gtr | apply s_geq | apply s_eql | apply s_neq); exact rfl; all_goals (intro _; try (exfalso; omega)))
 | ((first | apply s_add | apply s_sub); exact rfl; omega)
 | (apply s_pn; (focus (repeat (first | apply opds_nil | (apply opds_cons; (first | (focus ((conv => lhs; whnf); done)) | exact rfl))))); exact ixq _)
 | (apply s_pn; (focus (repeat (first | apply opds_nil | (apply opds_cons; (first | (focus ((conv => lhs; whnf); done)) | exact rfl))))); exact ldq _ rfl)
 | (apply s_pn; (focus (repeat (first | apply opds_nil | (apply opds_cons; (first | (focus ((conv => lhs; whnf); done)) | exact rfl))))); exact p_ixO hjn)
 | (apply s_pn; (focus (repeat (first | apply opds_nil | (apply opds_cons; (first | (focus ((conv => lhs; whnf); done)) | exact rfl))))); exact lds _ rfl)
 | (apply s_idx; (focus ((conv => lhs; whnf); done)); exact rfl; (first | assumption | (apply IsLL.at; assumption; omega)); omega)
 | (apply s_idxLL; (focus ((conv => lhs; whnf); done)); exact rfl; assumption; omega)
 | (apply s_ldI; exact rfl; omega)
 | (apply s_ldLL; exact rfl; assumption; omega)
 | (apply c_seq)
 | (apply c_reg)
 | (apply c_block)
 | (apply c_skip)
 | (apply c_condT; exact rfl)
 | (apply c_condF; exact rfl)
 | (with_reducible apply k_c)
                all_goals first | exact hK31 _ _ (by omega) (by omega) (gcI _ dn.length (j + 1) _ _) | (exfalso; omega) | skip
              · skip
                repeat' first
 | (apply s_mov; (focus ((conv => lhs; whnf); done)))
 | (apply s_gF; exact rfl)
 | (apply c_nil)
 | (apply s_pickF; exact rfl; (focus ((conv => lhs; whnf); done)))
 | ((first | apply s_lss | apply s_leq | apply s_gtr | apply s_geq | apply s_eql | apply s_neq); exact rfl; all_goals (intro _; try (exfalso; omega)))
 | ((first | apply s_add | apply s_sub); exact rfl; omega)
 | (apply s_pn; (focus (repeat (first | apply opds_nil | (apply opds_cons; (first | (focus ((conv => lhs; whnf); done)) | exact rfl))))); exact ixq _)
 | (apply s_pn; (focus (repeat (first | apply opds_nil | (apply opds_cons; (first | (focus ((conv => lhs; whnf); done)) | exact rfl))))); exact ldq _ rfl)
 | (apply s_idx; (focus ((conv => lhs; whnf); done)); exact rfl; (first | assumption | (apply IsLL.at; assumption; omega)); omega)
 | (apply s_idxLL; (focus ((conv => lhs; whnf); done)); exact rfl; assumption; omega)
 | (apply s_ldI; exact rfl; omega)
 | (apply s_ldLL; exact rfl; assumption; omega)
 | (apply c_seq)
 | (apply c_reg)
 | (apply c_block)
 | (apply c_skip)
 | (apply c_condT; exact rfl)
 | (apply c_condF; exact rfl)
 | (with_reducible apply k_c)
                all_goals first | exact hK31 _ _ (by omega) (by omega) (gcI _ dn.length (j + 1) _ _) | (exfalso; omega) | skip
          · obtain rfl : j = b.length := by omega
            repeat' first
 | (apply s_mov; (focus ((conv => lhs; whnf); done)))
 | (apply c_nil)
 | ((first | apply s_lss | apply s_leq | apply s_gtr | apply s_geq | apply s_eql | apply s_neq); exact rfl; all_goals (intro _; try (exfalso; omega)))
 | (apply c_seq)
 | (apply c_reg)
 | (apply c_exitH)
 | (apply c_condF; exact rfl)
 | (with_reducible apply k_c)
            apply c_pre (vs := [x, .int .i64 ((b.length : Nat) : Int), .sl 0 1 0 b.length, .sl 1 1 0 (dn ++ [v] ++ (bIn b v b.length (d, q)).2).length, .int .i64 (dn.length : Int)]) (H' := [some (.data (sn (bIn b v b.length (d, q)).1)), some (.data (iL (nI (dn ++ [v] ++ (bIn b v b.length (d, q)).2))))])
            · exact gcS _ dn.length _ _
            repeat' first
 | (apply s_mov; (focus ((conv => lhs; whnf); done)))
 | (apply c_nil)
 | ((first | apply s_add | apply s_sub); exact rfl; omega)
 | (apply c_reg)
            refine hK2 ((bIn b v b.length (d, q)).1, dn ++ [v], (bIn b v b.length (d, q)).2) _ _ ⟨hpop, f, by dsimp only; omega, hfR⟩ (by dsimp only; exact hdec) ?_
            have e9 : ((dn ++ [v]).length : Int) = (dn.length : Int) + 1 := by simp
            dsimp only
            rw [e9]
            simp [go_sem, fx]
  · skip
    repeat' first
 | (apply s_mov; (focus ((conv => lhs; whnf); done)))
 | (apply s_gT; exact rfl)
 | (apply s_gF; exact rfl)
 | (apply c_nil)
 | (apply s_pickT; exact rfl; (focus ((conv => lhs; whnf); done)))
 | (apply s_pickF; exact rfl; (focus ((conv => lhs; whnf); done)))
 | ((first | apply s_lss | apply s_leq | apply s_gtr | apply s_geq | apply s_eql | apply s_neq); exact rfl; all_goals (intro _; try (exfalso; omega)))
 | (apply s_pn; (focus (repeat (first | apply opds_nil | (apply opds_cons; (first | (focus ((conv => lhs; whnf); done)) | exact rfl))))); exact lx _)
 | (apply c_seq)
 | (apply c_reg)
 | (apply c_ret)
 | (apply c_condT; exact rfl)
 | (with_reducible apply k_c)
    all_goals first | (refine fin_t (by (conv => lhs; whnf)) (by rfl) (leafF fun h => ?_); have := h.n1; have := h.n2; omega) | (exfalso; omega)
end Go.AM.Ch
