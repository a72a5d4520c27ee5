/- A part of the proof: U21 U56. -/
import Derived.Test.YtmegimhfoedcdaaU49
import Derived.Test.YtmegimhfoedcdaaU36
set_option linter.unusedSectionVars false
set_option linter.unusedVariables false
set_option linter.unusedSimpArgs false
namespace Go.AM.Ch
attribute [local go_sem] gc subHeap reach_skip ren_free reach_new reach_newp reach_end rangeL roots boxCells nodupB posOf renL AV.ren pickO renH renO looks look bindEnv envOf reach_int reach_bool reach_nilS reach_rd putRow cells_sl cells_int cells_bool cells_nilS cells_rd cells_agg reach_agg reach_tup idFreeL idf_sl idf_ptr idf_int idf_bool idf_nilS idf_rd reach_fn reach_mp cells_fn cells_ptr cells_mp idf_mp idf_fn idf_agg idf_tup
set_option maxHeartbeats 8000000
theorem c79 {x y fv ov : AV} {b : List (List Int)} {s F O : List Int} {won : Bool} (hx : IsLL x b) (hy : IsL y s) (hF : IsL fv F) (hO : IsL ov O) (hB : IsB b) (hs : InR b.length 1048576 s) (hFl : F.length ≤ 1000) (hOl : O.length ≤ 1000) {m : Nat} (hm : 2100 ≤ m) (H : Heap) :
    callPure (evF tab it m) true 79 [x, y, .agg [.bool won, fv, ov]] H = some (.bool (decide (RightW b s won F O)), H) :=
  callPure_free (by simp [idFreeL, AV.idFree, hx.free, hy.free, hF.free, hO.free]) (by simp) (f79 hx hy hF hO hB hs hFl hOl hm) rfl
/-- the reference's Right -/
theorem f46 {x y fv ov : AV} {b : List (List Int)} {s F O : List Int} {won : Bool} (hx : IsLL x b) (hy : IsL y s) (hF : IsL fv F) (hO : IsL ov O) (hB : IsB b) (hs : InR b.length 1048576 s) (hFl : F.length ≤ 1000) (hOl : O.length ≤ 1000) {m : Nat} (hm : 2100 ≤ m) :
    evF tab it m 46 [x, y, .agg [.bool won, fv, ov]] [] = some (.bool (decide (RightW b s won F O)), []) := by
  obtain ⟨m, rfl⟩ : ∃ j, m = j + 1 := ⟨m - 1, by omega⟩
  have fx := hx.free; have fy := hy.free; have ff := hF.free; have fo := hO.free
  have hn1 := hB.n1; have hn2 := hB.n2
  have hbd := hB.bd
  have e38 := fun H => c38 hx hF hFl (m := m) (by omega) H
  have e26 := fun (h : InR b.length 1099511627776 F) H => c26 hx hy hF hbd hB.sym hn1 hs.1 h.1 (fun v hv => by have := inR_get h v hv; omega) (fun v hv => by have := inR_get hs v hv; omega) (m := m) (by omega) H
  have lx : ∀ H, evP H .len [x] = some (.int .i64 ((b.length : Nat) : Int)) := fun H => by cases hx <;> rfl
  have lo : ∀ H, evP H .len [ov] = some (.int .i64 ((O.length : Nat) : Int)) := fun H => p_lenI hO
  refine f_enter rfl rfl ?_
  generalize evF tab it m = call at *
  have o1 : ∀ x : Bool, (AV.bool x).one = true := fun _ => rfl
  have of : fv.one = true := by cases hF <;> rfl
  have oo : ov.one = true := by cases hO <;> rfl
  have ob : evE call [] (.box false) [.agg [.bool won, fv, ov]] = some (.ptr 0 0, [some (.box [.bool won, fv, ov])]) := by
    simp [evE, cells_agg, oneL, o1, of, oo, mkHO]
  have d0 : ∀ H, evP H (.fldA 0) [.ptr 0 0] = some (.ptr 0 0) := fun _ => rfl
  have d1 : ∀ H, evP H (.fldA 1) [.ptr 0 0] = some (.ptr 0 1) := fun _ => rfl
  have d2 : ∀ H, evP H (.fldA 2) [.ptr 0 0] = some (.ptr 0 2) := fun _ => rfl
  have l0 : evP [some (.box [.bool won, fv, ov])] (.ld false 1) [.ptr 0 0] = some (.bool won) := rfl
  have l1 : evP [some (.box [.bool won, fv, ov])] (.ld false 1) [.ptr 0 1] = some fv := rfl
  have l2 : evP [some (.box [.bool won, fv, ov])] (.ld false 1) [.ptr 0 2] = some ov := rfl
  by_cases hR : InR b.length 1099511627776 F
  · have e26' := e26 hR
    simp only [hR, decide_true] at e38
    have isA := isL_fz (apl b s F)
    have lA := apl_len b s F
    have hRW : RightW b s won F O ↔ ((won = true ∧ O.length = 0 ∧ ∀ i : Nat, i < b.length → 0 ≤ getI (apl b s F) (i : Int)) ∨ (won = false ∧ O.length = b.length ∧ ∀ k : Nat, k < b.length → OkAt b (apl b s F) O k)) := ⟨fun h => h.2, fun h => ⟨hR, h⟩⟩
    generalize apl b s F = A at *
    generalize hvA : fzL A = vA at *
    have fA := isA.free
    have lAv := fun H => p_lenI (H := H) isA
    cases won with
    | true =>
      have hRW' : RightW b s true F O ↔ O.length = 0 ∧ ∀ i : Nat, i < b.length → 0 ≤ getI A (i : Int) := ⟨fun h => (by
        rcases hRW.1 h with ⟨-, h1⟩ | ⟨h1, -⟩
        · exact h1
        · cases h1), fun h => hRW.2 (.inl ⟨rfl, h⟩)⟩
      have gcO : ∀ i : Nat, gc 0 [.ptr 0 0, vA, .int .i64 (i : Int)] [some (.box [.bool true, fv, ov])] = some ([.ptr 0 0, vA, .int .i64 (i : Int)], [some (.box [.bool true, fv, ov])]) := fun i => by simp [go_sem, fx, ff, fo, fA]
      repeat' first
 | (apply s_mov; (focus ((conv => lhs; whnf); done)))
 | (apply c_nil)
 | (apply s_notT; exact rfl)
 | (apply s_en; (focus (repeat (first | apply opds_nil | (apply opds_cons; (first | (focus ((conv => lhs; whnf); done)) | exact rfl))))); exact ob)
 | (apply s_pn; (focus (repeat (first | apply opds_nil | (apply opds_cons; (first | (focus ((conv => lhs; whnf); done)) | exact rfl))))); exact d0 _)
 | (apply s_pn; (focus (repeat (first | apply opds_nil | (apply opds_cons; (first | (focus ((conv => lhs; whnf); done)) | exact rfl))))); exact d1 _)
 | (apply s_pn; (focus (repeat (first | apply opds_nil | (apply opds_cons; (first | (focus ((conv => lhs; whnf); done)) | exact rfl))))); exact l0)
 | (apply s_pn; (focus (repeat (first | apply opds_nil | (apply opds_cons; (first | (focus ((conv => lhs; whnf); done)) | exact rfl))))); exact l1)
 | (apply s_cn; (focus (repeat (first | apply opds_nil | (apply opds_cons; (first | (focus ((conv => lhs; whnf); done)) | exact rfl))))); exact e38 _)
 | (apply s_cn; (focus (repeat (first | apply opds_nil | (apply opds_cons; (first | (focus ((conv => lhs; whnf); done)) | exact rfl))))); exact e26' _)
 | (apply c_seq)
 | (apply c_reg)
 | (apply c_block)
 | (apply c_skip)
 | (apply c_condT; exact rfl)
 | (apply c_condF; exact rfl)
 | (with_reducible apply k_c)
      refine c_loop ?_
      refine loop_gc (σ := Nat) (fun i => [.ptr 0 0, vA, .int .i64 (i : Int)]) (fun _ => [some (.box [.bool true, fv, ov])]) (fun i => i ≤ A.length ∧ ∀ k : Nat, k < i → 0 ≤ getI A (k : Int)) (fun i => A.length - i) ?_ _ 0 _ _ ⟨by omega, by omega⟩ (by omega) (gcO 0)
      intro i ⟨hi, hok⟩ K hK
      by_cases hin : i < A.length
      · skip
        repeat' first
 | (apply s_mov; (focus ((conv => lhs; whnf); done)))
 | (apply c_nil)
 | ((first | apply s_lss | apply s_leq | apply s_gtr | apply s_geq | apply s_eql | apply s_neq); exact rfl; all_goals (intro _; try (exfalso; omega)))
 | ((first | apply s_add | apply s_sub); exact rfl; omega)
 | (apply s_pn; (focus (repeat (first | apply opds_nil | (apply opds_cons; (first | (focus ((conv => lhs; whnf); done)) | exact rfl))))); exact lAv _)
 | (apply s_idx; (focus ((conv => lhs; whnf); done)); exact rfl; (first | assumption | (apply IsLL.at; assumption; omega)); omega)
 | (apply s_ldI; exact rfl; omega)
 | (apply c_seq)
 | (apply c_reg)
 | (apply c_block)
 | (apply c_skip)
 | (apply c_ret)
 | (apply c_condT; exact rfl)
 | (apply c_condF; exact rfl)
 | (with_reducible apply k_c)
        · exact fin_t (by (conv => lhs; whnf)) (by rfl) (leafF fun h => by have := (hRW'.1 h).2 i (by omega); omega)
        · refine hK (i + 1) _ _ ⟨by omega, fun j hj => ?_⟩ (by omega) (gcO (i + 1))
          rcases (by omega : j < i ∨ j = i) with h | rfl
          · exact hok j h
          · omega
      · obtain rfl : i = A.length := by omega
        repeat' first
 | (apply s_mov; (focus ((conv => lhs; whnf); done)))
 | (apply c_nil)
 | ((first | apply s_lss | apply s_leq | apply s_gtr | apply s_geq | apply s_eql | apply s_neq); exact rfl; all_goals (intro _; try (exfalso; omega)))
 | (apply s_pn; (focus (repeat (first | apply opds_nil | (apply opds_cons; (first | (focus ((conv => lhs; whnf); done)) | exact rfl))))); exact lAv _)
 | (apply c_seq)
 | (apply c_reg)
 | (apply c_exitH)
 | (apply c_condF; exact rfl)
 | (with_reducible apply k_c)
        apply c_pre (vs := [.ptr 0 0]) (H' := [some (.box [.bool true, fv, ov])])
        · simp [go_sem, ff, fo]
        repeat' first
 | (apply s_mov; (focus ((conv => lhs; whnf); done)))
 | (apply c_nil)
 | ((first | apply s_lss | apply s_leq | apply s_gtr | apply s_geq | apply s_eql | apply s_neq); exact rfl; all_goals (intro _; try (exfalso; omega)))
 | (apply s_pn; (focus (repeat (first | apply opds_nil | (apply opds_cons; (first | (focus ((conv => lhs; whnf); done)) | exact rfl))))); exact d2 _)
 | (apply s_pn; (focus (repeat (first | apply opds_nil | (apply opds_cons; (first | (focus ((conv => lhs; whnf); done)) | exact rfl))))); exact l2)
 | (apply s_pn; (focus (repeat (first | apply opds_nil | (apply opds_cons; (first | (focus ((conv => lhs; whnf); done)) | exact rfl))))); exact lo _)
 | (apply c_seq)
 | (apply c_reg)
 | (apply c_ret)
 | (with_reducible apply k_c)
        · exact fin_t (by (conv => lhs; whnf)) (by rfl) (leafT (hRW'.2 ⟨by omega, fun i hi => hok i (by omega)⟩))
        · exact fin_t (by (conv => lhs; whnf)) (by rfl) (leafF fun h => by have := (hRW'.1 h).1; omega)
    | false =>
      repeat' first
 | (apply s_mov; (focus ((conv => lhs; whnf); done)))
 | (apply c_nil)
 | (apply s_notT; exact rfl)
 | (apply s_en; (focus (repeat (first | apply opds_nil | (apply opds_cons; (first | (focus ((conv => lhs; whnf); done)) | exact rfl))))); exact ob)
 | (apply s_pn; (focus (repeat (first | apply opds_nil | (apply opds_cons; (first | (focus ((conv => lhs; whnf); done)) | exact rfl))))); exact d0 _)
 | (apply s_pn; (focus (repeat (first | apply opds_nil | (apply opds_cons; (first | (focus ((conv => lhs; whnf); done)) | exact rfl))))); exact d1 _)
 | (apply s_pn; (focus (repeat (first | apply opds_nil | (apply opds_cons; (first | (focus ((conv => lhs; whnf); done)) | exact rfl))))); exact l0)
 | (apply s_pn; (focus (repeat (first | apply opds_nil | (apply opds_cons; (first | (focus ((conv => lhs; whnf); done)) | exact rfl))))); exact l1)
 | (apply s_cn; (focus (repeat (first | apply opds_nil | (apply opds_cons; (first | (focus ((conv => lhs; whnf); done)) | exact rfl))))); exact e38 _)
 | (apply s_cn; (focus (repeat (first | apply opds_nil | (apply opds_cons; (first | (focus ((conv => lhs; whnf); done)) | exact rfl))))); exact e26' _)
 | (apply c_seq)
 | (apply c_reg)
 | (apply c_skip)
 | (apply c_condF; exact rfl)
 | (with_reducible apply k_c)
      apply c_pre (vs := [x, .ptr 0 0, vA]) (H' := [some (.box [.bool false, fv, ov])])
      · simp [go_sem, fx, ff, fo, fA]
      repeat' first
 | (apply s_mov; (focus ((conv => lhs; whnf); done)))
 | (apply c_nil)
 | ((first | apply s_lss | apply s_leq | apply s_gtr | apply s_geq | apply s_eql | apply s_neq); exact rfl; all_goals (intro _; try (exfalso; omega)))
 | (apply s_pn; (focus (repeat (first | apply opds_nil | (apply opds_cons; (first | (focus ((conv => lhs; whnf); done)) | exact rfl))))); exact lx _)
 | (apply s_pn; (focus (repeat (first | apply opds_nil | (apply opds_cons; (first | (focus ((conv => lhs; whnf); done)) | exact rfl))))); exact lo _)
 | (apply s_pn; (focus (repeat (first | apply opds_nil | (apply opds_cons; (first | (focus ((conv => lhs; whnf); done)) | exact rfl))))); exact d2 _)
 | (apply s_pn; (focus (repeat (first | apply opds_nil | (apply opds_cons; (first | (focus ((conv => lhs; whnf); done)) | exact rfl))))); exact l2)
 | (apply c_seq)
 | (apply c_reg)
 | (apply c_block)
 | (apply c_skip)
 | (apply c_ret)
 | (apply c_condT; exact rfl)
 | (apply c_condF; exact rfl)
 | (with_reducible apply k_c)
      rotate_left
      · refine fin_t (by (conv => lhs; whnf)) (by rfl) (leafF fun h => ?_)
        rcases hRW.1 h with ⟨h1, -⟩ | ⟨-, h1, -⟩
        · cases h1
        · omega
      · have hOn : O.length = b.length := by omega
        have hRW' : RightW b s false F O ↔ ∀ k : Nat, k < b.length → OkAt b A O k := ⟨fun h => by
          rcases hRW.1 h with ⟨h1, -⟩ | ⟨-, -, h1⟩
          · cases h1
          · exact h1, fun h => hRW.2 (.inr ⟨rfl, hOn, h⟩)⟩
        have gcO : ∀ (i S : Nat), gc 0 [x, .ptr 0 0, vA, .int .i64 (S : Int), .int .i64 (i : Int)] [some (.box [.bool false, fv, ov])] = some ([x, .ptr 0 0, vA, .int .i64 (S : Int), .int .i64 (i : Int)], [some (.box [.bool false, fv, ov])]) := fun i S => by simp [go_sem, fx, ff, fo, fA]
        have hS0 : bitN (preS O 0) b.length = 0 := (bitN_congr fun j _ => preS_zero O j).trans (bitN_none _)
        refine c_loop ?_
        refine loop_gc (σ := Nat) (fun i => [x, .ptr 0 0, vA, .int .i64 ((bitN (preS O i) b.length : Nat) : Int), .int .i64 (i : Int)]) (fun _ => [some (.box [.bool false, fv, ov])]) (fun i => i ≤ O.length ∧ ∀ k : Nat, k < i → OkAt b A O k) (fun i => O.length - i) ?_ _ 0 _ _ ⟨by omega, by omega⟩ (by omega) (by rw [hS0]; exact gcO 0 0)
        intro i ⟨hi, hok⟩ K hK
        by_cases hin : i < O.length
        · have hV0 : 0 ≤ getI O (i : Int) → getI O (i : Int) = (((getI O (i : Int)).toNat : Nat) : Int) := fun h => by omega
          have hmt := mem_take (O := O) (k := i) (v := getI O (i : Int)) (by omega)
          have hK1 := hK (i + 1)
          by_cases hV : 0 ≤ getI O (i : Int) ∧ getI O (i : Int) < b.length
          · obtain ⟨w, hw⟩ : ∃ w : Nat, getI O (i : Int) = (w : Int) := ⟨_, hV0 hV.1⟩
            have hbit := bitN_bit (preS O i) (n := b.length) (i := w) (by omega)
            have hpow : 2 ^ w ≤ 1024 := Nat.le_trans (Nat.pow_le_pow_right (by omega) (show w ≤ 10 by omega)) (by decide)
            have hbl := bitN_lt (preS O i) b.length
            have hpow2 : 2 ^ b.length ≤ 1024 := Nat.le_trans (Nat.pow_le_pow_right (by omega) (show b.length ≤ 10 by omega)) (by decide)
            have hset := fun h => bitN_set (n := b.length) (S := preS O i) (S' := preS O (i + 1)) (i := w) h (preS_succ hin hw) (by omega)
            have hps := preS_sum (O := O) (n := b.length) (fun v => getI (getLL b (getI O (i : Int))) v) (k := i) (by omega) fun j hj => ⟨(hok j hj).1, (hok j hj).2.1⟩
            have hpw : preS O i w = true ↔ ∃ j : Nat, j < i ∧ getI O (j : Int) = getI O (i : Int) := by
              rw [← hmt, hw]; simp [preS]
            have shr : ∀ H, evP H (.bin .shr) [.int .i64 ((bitN (preS O i) b.length : Nat) : Int), .int .i64 (getI O (i : Int))] = some (.int .i64 ((bitN (preS O i) b.length / 2 ^ w : Nat) : Int)) := fun H => by rw [hw]; exact p_shr (by omega)
            have shl : ∀ H, evP H (.bin .shl) [.int .i64 1, .int .i64 (getI O (i : Int))] = some (.int .i64 ((2 ^ w : Nat) : Int)) := fun H => by rw [hw]; exact p_shl (by omega)
            have hrow := hx.at (i := getI O (i : Int)) ⟨by omega, by omega⟩
            have hrl := hbd.row w (by omega)
            rw [← hw] at hrl
            have hOk : OkAt b A O i ↔ preS O i w = false ∧ getI A (getI O (i : Int)) < sumTo (fun j => if preS O i j = true then getI (getLL b (getI O (i : Int))) (j : Int) else 0) b.length := by
              rw [hps]
              unfold OkAt
              constructor
              · rintro ⟨-, h2, h3⟩
                refine ⟨?_, h3⟩
                cases hc : preS O i w with
                | false => rfl
                | true => obtain ⟨j, hj, e⟩ := hpw.1 hc; exact absurd e (h2 j hj)
              · rintro ⟨h1, h2⟩
                exact ⟨hV, fun j hj e => (by have := hpw.2 ⟨j, hj, e⟩; rw [h1] at this; cases this), h2⟩
            cases hc : preS O i w with
            | true =>
              rw [hc] at hbit hOk
              simp only [if_true] at hbit
              generalize bitN (preS O i) b.length = S at *
              generalize S / 2 ^ w = D at *
              have hbt : ((D : Nat) : Int).tmod 2 = 1 := by rw [show ((D : Nat) : Int).tmod 2 = ((D % 2 : Nat) : Int) from rfl, hbit]; rfl
              repeat' first
 | (apply s_mov; (focus ((conv => lhs; whnf); done)))
 | (apply s_gT; exact rfl)
 | (apply c_nil)
 | (apply s_pickF; exact rfl; (focus ((conv => lhs; whnf); done)))
 | ((first | apply s_lss | apply s_leq | apply s_gtr | apply s_geq | apply s_eql | apply s_neq); exact rfl; all_goals (intro _; try (exfalso; omega)))
 | (apply s_pn; (focus (repeat (first | apply opds_nil | (apply opds_cons; (first | (focus ((conv => lhs; whnf); done)) | exact rfl))))); exact lx _)
 | (apply s_pn; (focus (repeat (first | apply opds_nil | (apply opds_cons; (first | (focus ((conv => lhs; whnf); done)) | exact rfl))))); exact lo _)
 | (apply s_pn; (focus (repeat (first | apply opds_nil | (apply opds_cons; (first | (focus ((conv => lhs; whnf); done)) | exact rfl))))); exact d2 _)
 | (apply s_pn; (focus (repeat (first | apply opds_nil | (apply opds_cons; (first | (focus ((conv => lhs; whnf); done)) | exact rfl))))); exact l2)
 | (apply s_pn; (focus (repeat (first | apply opds_nil | (apply opds_cons; (first | (focus ((conv => lhs; whnf); done)) | exact rfl))))); exact shr _)
 | (apply s_idx; (focus ((conv => lhs; whnf); done)); exact rfl; (first | assumption | (apply IsLL.at; assumption; omega)); omega)
 | (apply s_rem2; exact rfl)
 | (apply s_ldI; exact rfl; omega)
 | (apply c_seq)
 | (apply c_reg)
 | (apply c_block)
 | (apply c_skip)
 | (apply c_ret)
 | (apply c_condT; exact rfl)
 | (with_reducible apply k_c)
              all_goals try exact fin_t (by (conv => lhs; whnf)) (by rfl) (leafF fun h => by have := (hOk.1 (hRW'.1 h i (by omega))).1; cases this)
            | false =>
              have hset' := hset hc
              rw [hset'] at hK1
              rw [hc] at hbit hOk
              simp only [Bool.false_eq_true, if_false] at hbit
              simp only [true_and] at hOk
              have hsl := fun (k : Nat) (hk : k ≤ b.length) => sumTo_le (f := fun j => if preS O i j = true then getI (getLL b (getI O (i : Int))) (j : Int) else 0) (M := 3) (n := k) fun j hj => by
                have := hbd.val w j (by omega) (by omega)
                rw [← hw] at this
                split <;> omega
              have shr2 := fun (j : Nat) (hj : j < b.length) H => p_shr (H := H) (a := bitN (preS O i) b.length) (b := j) (by omega)
              have hb2 := fun (j : Nat) (hj : j < b.length) => bitN_bit (preS O i) hj
              generalize bitN (preS O i) b.length = S at *
              generalize hP : 2 ^ w = P at *
              generalize S / P = D at *
              have hbt : ((D : Nat) : Int).tmod 2 = 0 := by rw [show ((D : Nat) : Int).tmod 2 = ((D % 2 : Nat) : Int) from rfl, hbit]; rfl
              repeat' first
 | (apply s_mov; (focus ((conv => lhs; whnf); done)))
 | (apply s_gT; exact rfl)
 | (apply c_nil)
 | (apply s_pickF; exact rfl; (focus ((conv => lhs; whnf); done)))
 | ((first | apply s_lss | apply s_leq | apply s_gtr | apply s_geq | apply s_eql | apply s_neq); exact rfl; all_goals (intro _; try (exfalso; omega)))
 | (apply s_pn; (focus (repeat (first | apply opds_nil | (apply opds_cons; (first | (focus ((conv => lhs; whnf); done)) | exact rfl))))); exact lx _)
 | (apply s_pn; (focus (repeat (first | apply opds_nil | (apply opds_cons; (first | (focus ((conv => lhs; whnf); done)) | exact rfl))))); exact lo _)
 | (apply s_pn; (focus (repeat (first | apply opds_nil | (apply opds_cons; (first | (focus ((conv => lhs; whnf); done)) | exact rfl))))); exact d2 _)
 | (apply s_pn; (focus (repeat (first | apply opds_nil | (apply opds_cons; (first | (focus ((conv => lhs; whnf); done)) | exact rfl))))); exact l2)
 | (apply s_pn; (focus (repeat (first | apply opds_nil | (apply opds_cons; (first | (focus ((conv => lhs; whnf); done)) | exact rfl))))); exact shr _)
 | (apply s_idx; (focus ((conv => lhs; whnf); done)); exact rfl; (first | assumption | (apply IsLL.at; assumption; omega)); omega)
 | (apply s_rem2; exact rfl)
 | (apply s_ldI; exact rfl; omega)
 | (apply c_seq)
 | (apply c_reg)
 | (apply c_block)
 | (apply c_skip)
 | (apply c_condT; exact rfl)
 | (apply c_condF; exact rfl)
 | (with_reducible apply k_c)
              have gcI : ∀ (k : Nat) (z : Int), gc 0 [x, .ptr 0 0, vA, .int .i64 (S : Int), .int .i64 (i : Int), .int .i64 (getI O (i : Int)), .int .i64 z, .int .i64 (k : Int)] [some (.box [.bool false, fv, ov])] = some ([x, .ptr 0 0, vA, .int .i64 (S : Int), .int .i64 (i : Int), .int .i64 (getI O (i : Int)), .int .i64 z, .int .i64 (k : Int)], [some (.box [.bool false, fv, ov])]) := fun k z => by simp [go_sem, fx, ff, fo, fA]
              refine c_loop ?_
              refine loop_gc (σ := Nat) (fun k => [x, .ptr 0 0, vA, .int .i64 (S : Int), .int .i64 (i : Int), .int .i64 (getI O (i : Int)), .int .i64 (sumTo (fun j => if preS O i j = true then getI (getLL b (getI O (i : Int))) (j : Int) else 0) k), .int .i64 (k : Int)]) (fun _ => [some (.box [.bool false, fv, ov])]) (fun k => k ≤ b.length) (fun k => b.length - k) ?_ _ 0 _ _ (by omega) (by omega) (gcI 0 0)
              intro k hk K2 hK2
              have hsk := hsl k hk
              have hK21 := hK2 (k + 1)
              simp only [sumTo] at hK21
              generalize hZ : sumTo (fun j => if preS O i j = true then getI (getLL b (getI O (i : Int))) (j : Int) else 0) k = Z at *
              by_cases hki : k < b.length
              · have h1 := hb2 k hki
                have h2 := hbd.val w k (by omega) hki
                rw [← hw] at h2
                have s2 := shr2 k hki
                generalize hQ : S / 2 ^ k = Q at *
                cases hp : preS O i k with
                | true =>
                  rw [hp] at h1 hK21
                  simp only [if_true] at h1 hK21
                  have hbq : ((Q : Nat) : Int).tmod 2 = 1 := by rw [show ((Q : Nat) : Int).tmod 2 = ((Q % 2 : Nat) : Int) from rfl, h1]; rfl
                  repeat' first
 | (apply s_mov; (focus ((conv => lhs; whnf); done)))
 | (apply c_nil)
 | ((first | apply s_lss | apply s_leq | apply s_gtr | apply s_geq | apply s_eql | apply s_neq); exact rfl; all_goals (intro _; try (exfalso; omega)))
 | (apply s_pn; (focus (repeat (first | apply opds_nil | (apply opds_cons; (first | (focus ((conv => lhs; whnf); done)) | exact rfl))))); exact lx _)
 | (apply s_pn; (focus (repeat (first | apply opds_nil | (apply opds_cons; (first | (focus ((conv => lhs; whnf); done)) | exact rfl))))); exact s2 _)
 | ((first | apply s_add | apply s_sub); exact rfl; omega)
 | (apply s_idx; (focus ((conv => lhs; whnf); done)); exact rfl; (first | assumption | (apply IsLL.at; assumption; omega)); omega)
 | (apply s_idxLL; (focus ((conv => lhs; whnf); done)); exact rfl; assumption; omega)
 | (apply s_rem2; exact rfl)
 | (apply s_ldI; exact rfl; omega)
 | (apply s_ldLL; exact rfl; assumption; omega)
 | (apply c_seq)
 | (apply c_reg)
 | (apply c_block)
 | (apply c_skip)
 | (apply c_condT; exact rfl)
 | (with_reducible apply k_c)
                  all_goals exact hK21 _ _ (by omega) (by omega) (gcI (k + 1) _)
                | false =>
                  rw [hp] at h1 hK21
                  simp only [Bool.false_eq_true, if_false, Int.add_zero] at h1 hK21
                  have hbq : ((Q : Nat) : Int).tmod 2 = 0 := by rw [show ((Q : Nat) : Int).tmod 2 = ((Q % 2 : Nat) : Int) from rfl, h1]; rfl
                  repeat' first
 | (apply s_mov; (focus ((conv => lhs; whnf); done)))
 | (apply c_nil)
 | ((first | apply s_lss | apply s_leq | apply s_gtr | apply s_geq | apply s_eql | apply s_neq); exact rfl; all_goals (intro _; try (exfalso; omega)))
 | (apply s_pn; (focus (repeat (first | apply opds_nil | (apply opds_cons; (first | (focus ((conv => lhs; whnf); done)) | exact rfl))))); exact lx _)
 | (apply s_pn; (focus (repeat (first | apply opds_nil | (apply opds_cons; (first | (focus ((conv => lhs; whnf); done)) | exact rfl))))); exact s2 _)
 | ((first | apply s_add | apply s_sub); exact rfl; omega)
 | (apply s_rem2; exact rfl)
 | (apply c_seq)
 | (apply c_reg)
 | (apply c_block)
 | (apply c_skip)
 | (apply c_condT; exact rfl)
 | (apply c_condF; exact rfl)
 | (with_reducible apply k_c)
                  all_goals exact hK21 _ _ (by omega) (by omega) (gcI (k + 1) _)
              · obtain rfl : k = b.length := by omega
                have hbl2 : b.length = A.length := by omega
                repeat' first
 | (apply s_mov; (focus ((conv => lhs; whnf); done)))
 | (apply c_nil)
 | ((first | apply s_lss | apply s_leq | apply s_gtr | apply s_geq | apply s_eql | apply s_neq); exact rfl; all_goals (intro _; try (exfalso; omega)))
 | (apply s_pn; (focus (repeat (first | apply opds_nil | (apply opds_cons; (first | (focus ((conv => lhs; whnf); done)) | exact rfl))))); exact lx _)
 | (apply c_seq)
 | (apply c_reg)
 | (apply c_exitH)
 | (apply c_condF; exact rfl)
 | (with_reducible apply k_c)
                apply c_pre (vs := [x, .ptr 0 0, vA, .int .i64 (S : Int), .int .i64 (i : Int), .int .i64 (getI O (i : Int)), .int .i64 Z]) (H' := [some (.box [.bool false, fv, ov])])
                · simp [go_sem, fx, ff, fo, fA]
                repeat' first
 | (apply s_mov; (focus ((conv => lhs; whnf); done)))
 | (apply c_nil)
 | ((first | apply s_lss | apply s_leq | apply s_gtr | apply s_geq | apply s_eql | apply s_neq); exact rfl; all_goals (intro _; try (exfalso; omega)))
 | (apply s_pn; (focus (repeat (first | apply opds_nil | (apply opds_cons; (first | (focus ((conv => lhs; whnf); done)) | exact rfl))))); exact shl _)
 | ((first | apply s_add | apply s_sub); exact rfl; omega)
 | (apply s_idx; (focus ((conv => lhs; whnf); done)); exact rfl; (first | assumption | (apply IsLL.at; assumption; omega)); omega)
 | (apply s_ldI; exact rfl; omega)
 | (apply c_seq)
 | (apply c_reg)
 | (apply c_skip)
 | (apply c_ret)
 | (apply c_condT; exact rfl)
 | (apply c_condF; exact rfl)
 | (with_reducible apply k_c)
                · exact fin_t (by (conv => lhs; whnf)) (by rfl) (leafF fun h => by have := hOk.1 (hRW'.1 h i (by omega)); omega)
                · apply c_pre (vs := [x, .ptr 0 0, vA, .int .i64 ((S : Int) + (P : Int)), .int .i64 (i : Int)]) (H' := [some (.box [.bool false, fv, ov])])
                  · simp [go_sem, fx, ff, fo, fA]
                  repeat' first
 | (apply s_mov; (focus ((conv => lhs; whnf); done)))
 | (apply c_nil)
 | ((first | apply s_add | apply s_sub); exact rfl; omega)
 | (apply c_reg)
                  rw [Int.natCast_add] at hK1
                  refine hK1 _ _ ⟨by omega, fun j hj => ?_⟩ (by omega) (by have := gcO (i + 1) (S + P); rw [Int.natCast_add] at this; exact this)
                  rcases (by omega : j < i ∨ j = i) with h | rfl
                  · exact hok j h
                  · exact hOk.2 (by omega)
          · skip
            repeat' first
 | (apply s_mov; (focus ((conv => lhs; whnf); done)))
 | (apply s_gT; exact rfl)
 | (apply s_gF; exact rfl)
 | (apply c_nil)
 | (apply s_pickT; exact rfl; (focus ((conv => lhs; whnf); done)))
 | (apply s_pickF; exact rfl; (focus ((conv => lhs; whnf); done)))
 | ((first | apply s_lss | apply s_leq | apply s_gtr | apply s_geq | apply s_eql | apply s_neq); exact rfl; all_goals (intro _; try (exfalso; omega)))
 | (apply s_pn; (focus (repeat (first | apply opds_nil | (apply opds_cons; (first | (focus ((conv => lhs; whnf); done)) | exact rfl))))); exact lx _)
 | (apply s_pn; (focus (repeat (first | apply opds_nil | (apply opds_cons; (first | (focus ((conv => lhs; whnf); done)) | exact rfl))))); exact lo _)
 | (apply s_pn; (focus (repeat (first | apply opds_nil | (apply opds_cons; (first | (focus ((conv => lhs; whnf); done)) | exact rfl))))); exact d2 _)
 | (apply s_pn; (focus (repeat (first | apply opds_nil | (apply opds_cons; (first | (focus ((conv => lhs; whnf); done)) | exact rfl))))); exact l2)
 | (apply s_idx; (focus ((conv => lhs; whnf); done)); exact rfl; (first | assumption | (apply IsLL.at; assumption; omega)); omega)
 | (apply s_ldI; exact rfl; omega)
 | (apply c_seq)
 | (apply c_reg)
 | (apply c_block)
 | (apply c_skip)
 | (apply c_ret)
 | (apply c_condT; exact rfl)
 | (with_reducible apply k_c)
            all_goals exact fin_t (by (conv => lhs; whnf)) (by rfl) (leafF fun h => hV (hRW'.1 h i (by omega)).1)
        · obtain rfl : i = O.length := by omega
          repeat' first
 | (apply s_mov; (focus ((conv => lhs; whnf); done)))
 | (apply c_nil)
 | ((first | apply s_lss | apply s_leq | apply s_gtr | apply s_geq | apply s_eql | apply s_neq); exact rfl; all_goals (intro _; try (exfalso; omega)))
 | (apply s_pn; (focus (repeat (first | apply opds_nil | (apply opds_cons; (first | (focus ((conv => lhs; whnf); done)) | exact rfl))))); exact lo _)
 | (apply s_pn; (focus (repeat (first | apply opds_nil | (apply opds_cons; (first | (focus ((conv => lhs; whnf); done)) | exact rfl))))); exact d2 _)
 | (apply s_pn; (focus (repeat (first | apply opds_nil | (apply opds_cons; (first | (focus ((conv => lhs; whnf); done)) | exact rfl))))); exact l2)
 | (apply c_seq)
 | (apply c_reg)
 | (apply c_exitH)
 | (apply c_ret)
 | (apply c_condF; exact rfl)
 | (apply c_preF; (focus (repeat (first | apply looks_nil | (apply looks_cons; (focus ((conv => lhs; whnf); done)))))); (focus (simp [idFreeL, AV.idFree, *]; done)))
 | (with_reducible apply k_c)
          exact fin_t (by (conv => lhs; whnf)) (by rfl) (leafT (hRW'.2 fun k hk => hok k (by omega)))
  · have hnr : ¬ RightW b s won F O := fun h => hR h.1
    simp only [hR, decide_false] at e38
    repeat' first
 | (apply s_mov; (focus ((conv => lhs; whnf); done)))
 | (apply c_nil)
 | (apply s_notF; exact rfl)
 | (apply s_en; (focus (repeat (first | apply opds_nil | (apply opds_cons; (first | (focus ((conv => lhs; whnf); done)) | exact rfl))))); exact ob)
 | (apply s_pn; (focus (repeat (first | apply opds_nil | (apply opds_cons; (first | (focus ((conv => lhs; whnf); done)) | exact rfl))))); exact d1 _)
 | (apply s_pn; (focus (repeat (first | apply opds_nil | (apply opds_cons; (first | (focus ((conv => lhs; whnf); done)) | exact rfl))))); exact l1)
 | (apply s_cn; (focus (repeat (first | apply opds_nil | (apply opds_cons; (first | (focus ((conv => lhs; whnf); done)) | exact rfl))))); exact e38 _)
 | (apply c_seq)
 | (apply c_reg)
 | (apply c_ret)
 | (apply c_condT; exact rfl)
 | (with_reducible apply k_c)
    exact fin_t (by (conv => lhs; whnf)) (by rfl) (leafF hnr)
end Go.AM.Ch

set_option linter.unusedSectionVars false
set_option linter.unusedVariables false
set_option linter.unusedSimpArgs false
namespace Go.AM.Ch
theorem ty_rowsB {k : Nat} {cs : List AV} (h : TyAV T k 22 cs) : ∃ x l, cs = [x] ∧ IsLL x l ∧ l.length < 2 ^ 63 := by
  cases k with
  | zero => exact h.elim
  | succ k =>
    obtain ⟨s, hs, hm⟩ := h
    rw [T22] at hs; cases hs
    rcases hm with rfl | ⟨len, cells, se, h1, rfl, h3, h5, h4⟩
    · exact ⟨_, [], rfl, .nil, by simp⟩
    · rw [T23] at h1; cases h1
      simp only [Nat.mul_one] at h3 h4
      have key : ∀ (cs : List AV), (∀ i, i < cs.length → ∃ l, IsL (cs.getD i .undef) l) → ∃ ll : List (List Int), cs.length = ll.length ∧ ∀ i, i < ll.length → IsL (cs.getD i .undef) (ll.getD i []) := by
        intro cs
        induction cs with
        | nil => intro _; exact ⟨[], rfl, fun i hi => by simp at hi⟩
        | cons c cs ih =>
          intro h
          obtain ⟨l, hl⟩ := h 0 (by simp)
          obtain ⟨ll, h1, h2⟩ := ih fun i hi => by simpa using h (i + 1) (by simpa using hi)
          refine ⟨l :: ll, by simp [h1], fun i hi => ?_⟩
          cases i with
          | zero => simpa using hl
          | succ i => simpa using h2 i (by simpa using hi)
      obtain ⟨ll, e1, e2⟩ := key cells fun i hi => by
        obtain ⟨x, l, hx, hl⟩ := ty_ints (h4 i (by omega))
        rw [take1 hi] at hx
        simp only [List.cons.injEq, and_true] at hx
        exact ⟨l, by rw [hx]; exact hl⟩
      have e3 : len = ll.length := by omega
      subst e3
      exact ⟨_, ll, rfl, .rd cells ll e1 e2, h5⟩
theorem arg_rowsB {k : Nat} {x : AV} (h : TyArg T k 22 x) : ∃ l, IsLL x l ∧ l.length < 9223372036854775808 := by
  rcases h with ⟨s, xs, hs, ha, _⟩ | ⟨s, hs, ha, h⟩
  · rw [T22] at hs; cases hs; cases ha
  · obtain ⟨y, l, hy, hl, hb⟩ := ty_rowsB h
    simp only [List.cons.injEq, and_true] at hy
    exact ⟨l, by rw [hy]; exact hl, hb⟩
end Go.AM.Ch
