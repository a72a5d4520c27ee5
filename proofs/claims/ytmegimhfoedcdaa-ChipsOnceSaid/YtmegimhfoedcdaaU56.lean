/- A part of the proof: U21 U22 U54 U23 U56. -/
import Derived.Test.YtmegimhfoedcdaaU49
import Derived.Test.YtmegimhfoedcdaaU53
import Derived.Test.YtmegimhfoedcdaaU36
set_option linter.unusedSectionVars false
set_option linter.unusedVariables false
set_option linter.unusedSimpArgs false
namespace Go.AM.Ch
attribute [local go_sem] gc subHeap reach_skip ren_free reach_new reach_newp reach_end rangeL roots boxCells nodupB posOf renL AV.ren pickO renH renO looks look bindEnv envOf reach_int reach_bool reach_nilS reach_rd putRow cells_sl cells_int cells_bool cells_nilS cells_rd cells_agg reach_agg reach_tup idFreeL idf_sl idf_ptr idf_int idf_bool idf_nilS idf_rd reach_fn reach_mp cells_fn cells_ptr cells_mp idf_mp idf_fn idf_agg idf_tup
set_option maxHeartbeats 8000000
theorem c79 {x y fv ov : AV} {b : List (List Int)} {s F O : List Int} {won : Bool} (hx : IsLL x b) (hy : IsL y s) (hF : IsL fv F) (hO : IsL ov O) (hB : IsB b) (hs : InR b.length 1048576 s) (hFl : F.length ≤ 1000) (hOl : O.length ≤ 1000) {m : Nat} (hm : 2100 ≤ m) (H : Heap) :
    callPure (evF tab it m) true 79 [x, y, .agg [.bool won, fv, ov]] H = some (.bool (decide (RightW b s won F O)), H) :=
  callPure_free (by simp [idFreeL, AV.idFree, hx.free, hy.free, hF.free, hO.free]) (by simp) (f79 hx hy hF hO hB hs hFl hOl hm) rfl
/-- the reference's Right -/
theorem f46 {x y fv ov : AV} {b : List (List Int)} {s F O : List Int} {won : Bool} (hx : IsLL x b) (hy : IsL y s) (hF : IsL fv F) (hO : IsL ov O) (hB : IsB b) (hs : InR b.length 1048576 s) (hFl : F.length ≤ 1000) (hOl : O.length ≤ 1000) {m : Nat} (hm : 2100 ≤ m) :
    evF tab it m 46 [x, y, .agg [.bool won, fv, ov]] [] = some (.bool (decide (RightW b s won F O)), []) := by
  obtain ⟨m, rfl⟩ : ∃ j, m = j + 1 := ⟨m - 1, by omega⟩
  have fx := hx.free; have fy := hy.free; have ff := hF.free; have fo := hO.free
  have hn1 := hB.n1; have hn2 := hB.n2
  have hbd := hB.bd
  have e38 := fun H => c38 hx hF hFl (m := m) (by omega) H
  have e26 := fun (h : InR b.length 1099511627776 F) H => c26 hx hy hF hbd hB.sym hn1 hs.1 h.1 (fun v hv => by have := inR_get h v hv; omega) (fun v hv => by have := inR_get hs v hv; omega) (m := m) (by omega) H
  have lx : ∀ H, evP H .len [x] = some (.int .i64 ((b.length : Nat) : Int)) := fun H => by cases hx <;> rfl
  have lo : ∀ H, evP H .len [ov] = some (.int .i64 ((O.length : Nat) : Int)) := fun H => p_lenI hO
  refine f_enter rfl rfl ?_
  generalize evF tab it m = call at *
  have o1 : ∀ x : Bool, (AV.bool x).one = true := fun _ => rfl
  have of : fv.one = true := by cases hF <;> rfl
  have oo : ov.one = true := by cases hO <;> rfl
  have ob : evE call [] (.box false) [.agg [.bool won, fv, ov]] = some (.ptr 0 0, [some (.box [.bool won, fv, ov])]) := by
    simp [evE, cells_agg, oneL, o1, of, oo, mkHO]
  have d0 : ∀ H, evP H (.fldA 0) [.ptr 0 0] = some (.ptr 0 0) := fun _ => rfl
  have d1 : ∀ H, evP H (.fldA 1) [.ptr 0 0] = some (.ptr 0 1) := fun _ => rfl
  have d2 : ∀ H, evP H (.fldA 2) [.ptr 0 0] = some (.ptr 0 2) := fun _ => rfl
  have l0 : evP [some (.box [.bool won, fv, ov])] (.ld false 1) [.ptr 0 0] = some (.bool won) := rfl
  have l1 : evP [some (.box [.bool won, fv, ov])] (.ld false 1) [.ptr 0 1] = some fv := rfl
  have l2 : evP [some (.box [.bool won, fv, ov])] (.ld false 1) [.ptr 0 2] = some ov := rfl
  by_cases hR : InR b.length 1099511627776 F
  · have e26' := e26 hR
    simp only [hR, decide_true] at e38
    have isA := isL_fz (apl b s F)
    have lA := apl_len b s F
    have hRW : RightW b s won F O ↔ ((won = true ∧ O.length = 0 ∧ ∀ i : Nat, i < b.length → 0 ≤ getI (apl b s F) (i : Int)) ∨ (won = false ∧ O.length = b.length ∧ ∀ k : Nat, k < b.length → OkAt b (apl b s F) O k)) := ⟨fun h => h.2, fun h => ⟨hR, h⟩⟩
    generalize apl b s F = A at *
    generalize hvA : fzL A = vA at *
    have fA := isA.free
    have lAv := fun H => p_lenI (H := H) isA
    cases won with
    | true =>
      have hRW' : RightW b s true F O ↔ O.length = 0 ∧ ∀ i : Nat, i < b.length → 0 ≤ getI A (i : Int) := ⟨fun h => (by
        rcases hRW.1 h with ⟨-, h1⟩ | ⟨h1, -⟩
        · exact h1
        · cases h1), fun h => hRW.2 (.inl ⟨rfl, h⟩)⟩
      have gcO : ∀ i : Nat, gc 0 [.ptr 0 0, vA, .int .i64 (i : Int)] [some (.box [.bool true, fv, ov])] = some ([.ptr 0 0, vA, .int .i64 (i : Int)], [some (.box [.bool true, fv, ov])]) := fun i => by simp [go_sem, fx, ff, fo, fA]
      repeat' first
 | (apply s_mov; (focus ((conv => lhs; whnf); done)))
 | (apply c_nil)
 | (apply s_notT; exact rfl)
 | (apply s_en; (focus (repeat (first | apply opds_nil | (apply opds_cons; (first | (focus ((conv => lhs; whnf); done)) | exact rfl))))); exact ob)
 | (apply s_pn; (focus (repeat (first | apply opds_nil | (apply opds_cons; (first | (focus ((conv => lhs; whnf); done)) | exact rfl))))); exact d0 _)
 | (apply s_pn; (focus (repeat (first | apply opds_nil | (apply opds_cons; (first | (focus ((conv => lhs; whnf); done)) | exact rfl))))); exact d1 _)
 | (apply s_pn; (focus (repeat (first | apply opds_nil | (apply opds_cons; (first | (focus ((conv => lhs; whnf); done)) | exact rfl))))); exact l0)
 | (apply s_pn; (focus (repeat (first | apply opds_nil | (apply opds_cons; (first | (focus ((conv => lhs; whnf); done)) | exact rfl))))); exact l1)
 | (apply s_cn; (focus (repeat (first | apply opds_nil | (apply opds_cons; (first | (focus ((conv => lhs; whnf); done)) | exact rfl))))); exact e38 _)
 | (apply s_cn; (focus (repeat (first | apply opds_nil | (apply opds_cons; (first | (focus ((conv => lhs; whnf); done)) | exact rfl))))); exact e26' _)
 | (apply c_seq)
 | (apply c_reg)
 | (apply c_block)
 | (apply c_skip)
 | (apply c_condT; exact rfl)
 | (apply c_condF; exact rfl)
 | (with_reducible apply k_c)
      refine c_loop ?_
      refine loop_gc (σ := Nat) (fun i => [.ptr 0 0, vA, .int .i64 (i : Int)]) (fun _ => [some (.box [.bool true, fv, ov])]) (fun i => i ≤ A.length ∧ ∀ k : Nat, k < i → 0 ≤ getI A (k : Int)) (fun i => A.length - i) ?_ _ 0 _ _ ⟨by omega, by omega⟩ (by omega) (gcO 0)
      intro i ⟨hi, hok⟩ K hK
      by_cases hin : i < A.length
      · skip
        repeat' first
 | (apply s_mov; (focus ((conv => lhs; whnf); done)))
 | (apply c_nil)
 | ((first | apply s_lss | apply s_leq | apply s_gtr | apply s_geq | apply s_eql | apply s_neq); exact rfl; all_goals (intro _; try (exfalso; omega)))
 | ((first | apply s_add | apply s_sub); exact rfl; omega)
 | (apply s_pn; (focus (repeat (first | apply opds_nil | (apply opds_cons; (first | (focus ((conv => lhs; whnf); done)) | exact rfl))))); exact lAv _)
 | (apply s_idx; (focus ((conv => lhs; whnf); done)); exact rfl; (first | assumption | (apply IsLL.at; assumption; omega)); omega)
 | (apply s_ldI; exact rfl; omega)
 | (apply c_seq)
 | (apply c_reg)
 | (apply c_block)
 | (apply c_skip)
 | (apply c_ret)
 | (apply c_condT; exact rfl)
 | (apply c_condF; exact rfl)
 | (with_reducible apply k_c)
        · exact fin_t (by (conv => lhs; whnf)) (by rfl) (leafF fun h => by have := (hRW'.1 h).2 i (by omega); omega)
        · refine hK (i + 1) _ _ ⟨by omega, fun j hj => ?_⟩ (by omega) (gcO (i + 1))
          rcases (by omega : j < i ∨ j = i) with h | rfl
          · exact hok j h
          · omega
      · obtain rfl : i = A.length := by omega
        repeat' first
 | (apply s_mov; (focus ((conv => lhs; whnf); done)))
 | (apply c_nil)
 | ((first | apply s_lss | apply s_leq | apply s_gtr | apply s_geq | apply s_eql | apply s_neq); exact rfl; all_goals (intro _; try (exfalso; omega)))
 | (apply s_pn; (focus (repeat (first | apply opds_nil | (apply opds_cons; (first | (focus ((conv => lhs; whnf); done)) | exact rfl))))); exact lAv _)
 | (apply c_seq)
 | (apply c_reg)
 | (apply c_exitH)
 | (apply c_condF; exact rfl)
 | (with_reducible apply k_c)
        apply c_pre (vs := [.ptr 0 0]) (H' := [some (.box [.bool true, fv, ov])])
        · simp [go_sem, ff, fo]
        repeat' first
 | (apply s_mov; (focus ((conv => lhs; whnf); done)))
 | (apply c_nil)
 | ((first | apply s_lss | apply s_leq | apply s_gtr | apply s_geq | apply s_eql | apply s_neq); exact rfl; all_goals (intro _; try (exfalso; omega)))
 | (apply s_pn; (focus (repeat (first | apply opds_nil | (apply opds_cons; (first | (focus ((conv => lhs; whnf); done)) | exact rfl))))); exact d2 _)
 | (apply s_pn; (focus (repeat (first | apply opds_nil | (apply opds_cons; (first | (focus ((conv => lhs; whnf); done)) | exact rfl))))); exact l2)
 | (apply s_pn; (focus (repeat (first | apply opds_nil | (apply opds_cons; (first | (focus ((conv => lhs; whnf); done)) | exact rfl))))); exact lo _)
 | (apply c_seq)
 | (apply c_reg)
 | (apply c_ret)
 | (with_reducible apply k_c)
        · exact fin_t (by (conv => lhs; whnf)) (by rfl) (leafT (hRW'.2 ⟨by omega, fun i hi => hok i (by omega)⟩))
        · exact fin_t (by (conv => lhs; whnf)) (by rfl) (leafF fun h => by have := (hRW'.1 h).1; omega)
    | false =>
      repeat' first
 | (apply s_mov; (focus ((conv => lhs; whnf); done)))
 | (apply c_nil)
 | (apply s_notT; exact rfl)
 | (apply s_en; (focus (repeat (first | apply opds_nil | (apply opds_cons; (first | (focus ((conv => lhs; whnf); done)) | exact rfl))))); exact ob)
 | (apply s_pn; (focus (repeat (first | apply opds_nil | (apply opds_cons; (first | (focus ((conv => lhs; whnf); done)) | exact rfl))))); exact d0 _)
 | (apply s_pn; (focus (repeat (first | apply opds_nil | (apply opds_cons; (first | (focus ((conv => lhs; whnf); done)) | exact rfl))))); exact d1 _)
 | (apply s_pn; (focus (repeat (first | apply opds_nil | (apply opds_cons; (first | (focus ((conv => lhs; whnf); done)) | exact rfl))))); exact l0)
 | (apply s_pn; (focus (repeat (first | apply opds_nil | (apply opds_cons; (first | (focus ((conv => lhs; whnf); done)) | exact rfl))))); exact l1)
 | (apply s_cn; (focus (repeat (first | apply opds_nil | (apply opds_cons; (first | (focus ((conv => lhs; whnf); done)) | exact rfl))))); exact e38 _)
 | (apply s_cn; (focus (repeat (first | apply opds_nil | (apply opds_cons; (first | (focus ((conv => lhs; whnf); done)) | exact rfl))))); exact e26' _)
 | (apply c_seq)
 | (apply c_reg)
 | (apply c_skip)
 | (apply c_condF; exact rfl)
 | (with_reducible apply k_c)
      apply c_pre (vs := [x, .ptr 0 0, vA]) (H' := [some (.box [.bool false, fv, ov])])
      · simp [go_sem, fx, ff, fo, fA]
      repeat' first
 | (apply s_mov; (focus ((conv => lhs; whnf); done)))
 | (apply c_nil)
 | ((first | apply s_lss | apply s_leq | apply s_gtr | apply s_geq | apply s_eql | apply s_neq); exact rfl; all_goals (intro _; try (exfalso; omega)))
 | (apply s_pn; (focus (repeat (first | apply opds_nil | (apply opds_cons; (first | (focus ((conv => lhs; whnf); done)) | exact rfl))))); exact lx _)
 | (apply s_pn; (focus (repeat (first | apply opds_nil | (apply opds_cons; (first | (focus ((conv => lhs; whnf); done)) | exact rfl))))); exact lo _)
 | (apply s_pn; (focus (repeat (first | apply opds_nil | (apply opds_cons; (first | (focus ((conv => lhs; whnf); done)) | exact rfl))))); exact d2 _)
 | (apply s_pn; (focus (repeat (first | apply opds_nil | (apply opds_cons; (first | (focus ((conv => lhs; whnf); done)) | exact rfl))))); exact l2)
 | (apply c_seq)
 | (apply c_reg)
 | (apply c_block)
 | (apply c_skip)
 | (apply c_ret)
 | (apply c_condT; exact rfl)
 | (apply c_condF; exact rfl)
 | (with_reducible apply k_c)
      rotate_left
      · refine fin_t (by (conv => lhs; whnf)) (by rfl) (leafF fun h => ?_)
        rcases hRW.1 h with ⟨h1, -⟩ | ⟨-, h1, -⟩
        · cases h1
        · omega
      · have hOn : O.length = b.length := by omega
        have hRW' : RightW b s false F O ↔ ∀ k : Nat, k < b.length → OkAt b A O k := ⟨fun h => by
          rcases hRW.1 h with ⟨h1, -⟩ | ⟨-, -, h1⟩
          · cases h1
          · exact h1, fun h => hRW.2 (.inr ⟨rfl, hOn, h⟩)⟩
        have gcO : ∀ (i S : Nat), gc 0 [x, .ptr 0 0, vA, .int .i64 (S : Int), .int .i64 (i : Int)] [some (.box [.bool false, fv, ov])] = some ([x, .ptr 0 0, vA, .int .i64 (S : Int), .int .i64 (i : Int)], [some (.box [.bool false, fv, ov])]) := fun i S => by simp [go_sem, fx, ff, fo, fA]
        have hS0 : bitN (preS O 0) b.length = 0 := (bitN_congr fun j _ => preS_zero O j).trans (bitN_none _)
        refine c_loop ?_
        refine loop_gc (σ := Nat) (fun i => [x, .ptr 0 0, vA, .int .i64 ((bitN (preS O i) b.length : Nat) : Int), .int .i64 (i : Int)]) (fun _ => [some (.box [.bool false, fv, ov])]) (fun i => i ≤ O.length ∧ ∀ k : Nat, k < i → OkAt b A O k) (fun i => O.length - i) ?_ _ 0 _ _ ⟨by omega, by omega⟩ (by omega) (by rw [hS0]; exact gcO 0 0)
        intro i ⟨hi, hok⟩ K hK
        by_cases hin : i < O.length
        · have hV0 : 0 ≤ getI O (i : Int) → getI O (i : Int) = (((getI O (i : Int)).toNat : Nat) : Int) := fun h => by omega
          have hmt := mem_take (O := O) (k := i) (v := getI O (i : Int)) (by omega)
          have hK1 := hK (i + 1)
          by_cases hV : 0 ≤ getI O (i : Int) ∧ getI O (i : Int) < b.length
          · obtain ⟨w, hw⟩ : ∃ w : Nat, getI O (i : Int) = (w : Int) := ⟨_, hV0 hV.1⟩
            have hbit := bitN_bit (preS O i) (n := b.length) (i := w) (by omega)
            have hpow : 2 ^ w ≤ 1024 := Nat.le_trans (Nat.pow_le_pow_right (by omega) (show w ≤ 10 by omega)) (by decide)
            have hbl := bitN_lt (preS O i) b.length
            have hpow2 : 2 ^ b.length ≤ 1024 := Nat.le_trans (Nat.pow_le_pow_right (by omega) (show b.length ≤ 10 by omega)) (by decide)
            have hset := fun h => bitN_set (n := b.length) (S := preS O i) (S' := preS O (i + 1)) (i := w) h (preS_succ hin hw) (by omega)
            have hps := preS_sum (O := O) (n := b.length) (fun v => getI (getLL b (getI O (i : Int))) v) (k := i) (by omega) fun j hj => ⟨(hok j hj).1, (hok j hj).2.1⟩
            have hpw : preS O i w = true ↔ ∃ j : Nat, j < i ∧ getI O (j : Int) = getI O (i : Int) := by
              rw [← hmt, hw]; simp [preS]
            have shr : ∀ H, evP H (.bin .shr) [.int .i64 ((bitN (preS O i) b.length : Nat) : Int), .int .i64 (getI O (i : Int))] = some (.int .i64 ((bitN (preS O i) b.length / 2 ^ w : Nat) : Int)) := fun H => by rw [hw]; exact p_shr (by omega)
            have shl : ∀ H, evP H (.bin .shl) [.int .i64 1, .int .i64 (getI O (i : Int))] = some (.int .i64 ((2 ^ w : Nat) : Int)) := fun H => by rw [hw]; exact p_shl (by omega)
            have hrow := hx.at (i := getI O (i : Int)) ⟨by omega, by omega⟩
            have hrl := hbd.row w (by omega)
            rw [← hw] at hrl
            have hOk : OkAt b A O i ↔ preS O i w = false ∧ getI A (getI O (i : Int)) < sumTo (fun j => if preS O i j = true then getI (getLL b (getI O (i : Int))) (j : Int) else 0) b.length := by
              rw [hps]
              unfold OkAt
              constructor
              · rintro ⟨-, h2, h3⟩
                refine ⟨?_, h3⟩
                cases hc : preS O i w with
                | false => rfl
                | true => obtain ⟨j, hj, e⟩ := hpw.1 hc; exact absurd e (h2 j hj)
              · rintro ⟨h1, h2⟩
                exact ⟨hV, fun j hj e => (by have := hpw.2 ⟨j, hj, e⟩; rw [h1] at this; cases this), h2⟩
            cases hc : preS O i w with
            | true =>
              rw [hc] at hbit hOk
              simp only [if_true] at hbit
              generalize bitN (preS O i) b.length = S at *
              generalize S / 2 ^ w = D at *
              have hbt : ((D : Nat) : Int).tmod 2 = 1 := by rw [show ((D : Nat) : Int).tmod 2 = ((D % 2 : Nat) : Int) from rfl, hbit]; rfl
              repeat' first
 | (apply s_mov; (focus ((conv => lhs; whnf); done)))
 | (apply s_gT; exact rfl)
 | (apply c_nil)
 | (apply s_pickF; exact rfl; (focus ((conv => lhs; whnf); done)))
 | ((first | apply s_lss | apply s_leq | apply s_gtr | apply s_geq | apply s_eql | apply s_neq); exact rfl; all_goals (intro _; try (exfalso; omega)))
 | (apply s_pn; (focus (repeat (first | apply opds_nil | (apply opds_cons; (first | (focus ((conv => lhs; whnf); done)) | exact rfl))))); exact lx _)
 | (apply s_pn; (focus (repeat (first | apply opds_nil | (apply opds_cons; (first | (focus ((conv => lhs; whnf); done)) | exact rfl))))); exact lo _)
 | (apply s_pn; (focus (repeat (first | apply opds_nil | (apply opds_cons; (first | (focus ((conv => lhs; whnf); done)) | exact rfl))))); exact d2 _)
 | (apply s_pn; (focus (repeat (first | apply opds_nil | (apply opds_cons; (first | (focus ((conv => lhs; whnf); done)) | exact rfl))))); exact l2)
 | (apply s_pn; (focus (repeat (first | apply opds_nil | (apply opds_cons; (first | (focus ((conv => lhs; whnf); done)) | exact rfl))))); exact shr _)
 | (apply s_idx; (focus ((conv => lhs; whnf); done)); exact rfl; (first | assumption | (apply IsLL.at; assumption; omega)); omega)
 | (apply s_rem2; exact rfl)
 | (apply s_ldI; exact rfl; omega)
 | (apply c_seq)
 | (apply c_reg)
 | (apply c_block)
 | (apply c_skip)
 | (apply c_ret)
 | (apply c_condT; exact rfl)
 | (with_reducible apply k_c)
              all_goals try exact fin_t (by (conv => lhs; whnf)) (by rfl) (leafF fun h => by have := (hOk.1 (hRW'.1 h i (by omega))).1; cases this)
            | false =>
              have hset' := hset hc
              rw [hset'] at hK1
              rw [hc] at hbit hOk
              simp only [Bool.false_eq_true, if_false] at hbit
              simp only [true_and] at hOk
              have hsl := fun (k : Nat) (hk : k ≤ b.length) => sumTo_le (f := fun j => if preS O i j = true then getI (getLL b (getI O (i : Int))) (j : Int) else 0) (M := 3) (n := k) fun j hj => by
                have := hbd.val w j (by omega) (by omega)
                rw [← hw] at this
                split <;> omega
              have shr2 := fun (j : Nat) (hj : j < b.length) H => p_shr (H := H) (a := bitN (preS O i) b.length) (b := j) (by omega)
              have hb2 := fun (j : Nat) (hj : j < b.length) => bitN_bit (preS O i) hj
              generalize bitN (preS O i) b.length = S at *
              generalize hP : 2 ^ w = P at *
              generalize S / P = D at *
              have hbt : ((D : Nat) : Int).tmod 2 = 0 := by rw [show ((D : Nat) : Int).tmod 2 = ((D % 2 : Nat) : Int) from rfl, hbit]; rfl
              repeat' first
 | (apply s_mov; (focus ((conv => lhs; whnf); done)))
 | (apply s_gT; exact rfl)
 | (apply c_nil)
 | (apply s_pickF; exact rfl; (focus ((conv => lhs; whnf); done)))
 | ((first | apply s_lss | apply s_leq | apply s_gtr | apply s_geq | apply s_eql | apply s_neq); exact rfl; all_goals (intro _; try (exfalso; omega)))
 | (apply s_pn; (focus (repeat (first | apply opds_nil | (apply opds_cons; (first | (focus ((conv => lhs; whnf); done)) | exact rfl))))); exact lx _)
 | (apply s_pn; (focus (repeat (first | apply opds_nil | (apply opds_cons; (first | (focus ((conv => lhs; whnf); done)) | exact rfl))))); exact lo _)
 | (apply s_pn; (focus (repeat (first | apply opds_nil | (apply opds_cons; (first | (focus ((conv => lhs; whnf); done)) | exact rfl))))); exact d2 _)
 | (apply s_pn; (focus (repeat (first | apply opds_nil | (apply opds_cons; (first | (focus ((conv => lhs; whnf); done)) | exact rfl))))); exact l2)
 | (apply s_pn; (focus (repeat (first | apply opds_nil | (apply opds_cons; (first | (focus ((conv => lhs; whnf); done)) | exact rfl))))); exact shr _)
 | (apply s_idx; (focus ((conv => lhs; whnf); done)); exact rfl; (first | assumption | (apply IsLL.at; assumption; omega)); omega)
 | (apply s_rem2; exact rfl)
 | (apply s_ldI; exact rfl; omega)
 | (apply c_seq)
 | (apply c_reg)
 | (apply c_block)
 | (apply c_skip)
 | (apply c_condT; exact rfl)
 | (apply c_condF; exact rfl)
 | (with_reducible apply k_c)
              have gcI : ∀ (k : Nat) (z : Int), gc 0 [x, .ptr 0 0, vA, .int .i64 (S : Int), .int .i64 (i : Int), .int .i64 (getI O (i : Int)), .int .i64 z, .int .i64 (k : Int)] [some (.box [.bool false, fv, ov])] = some ([x, .ptr 0 0, vA, .int .i64 (S : Int), .int .i64 (i : Int), .int .i64 (getI O (i : Int)), .int .i64 z, .int .i64 (k : Int)], [some (.box [.bool false, fv, ov])]) := fun k z => by simp [go_sem, fx, ff, fo, fA]
              refine c_loop ?_
              refine loop_gc (σ := Nat) (fun k => [x, .ptr 0 0, vA, .int .i64 (S : Int), .int .i64 (i : Int), .int .i64 (getI O (i : Int)), .int .i64 (sumTo (fun j => if preS O i j = true then getI (getLL b (getI O (i : Int))) (j : Int) else 0) k), .int .i64 (k : Int)]) (fun _ => [some (.box [.bool false, fv, ov])]) (fun k => k ≤ b.length) (fun k => b.length - k) ?_ _ 0 _ _ (by omega) (by omega) (gcI 0 0)
              intro k hk K2 hK2
              have hsk := hsl k hk
              have hK21 := hK2 (k + 1)
              simp only [sumTo] at hK21
              generalize hZ : sumTo (fun j => if preS O i j = true then getI (getLL b (getI O (i : Int))) (j : Int) else 0) k = Z at *
              by_cases hki : k < b.length
              · have h1 := hb2 k hki
                have h2 := hbd.val w k (by omega) hki
                rw [← hw] at h2
                have s2 := shr2 k hki
                generalize hQ : S / 2 ^ k = Q at *
                cases hp : preS O i k with
                | true =>
                  rw [hp] at h1 hK21
                  simp only [if_true] at h1 hK21
                  have hbq : ((Q : Nat) : Int).tmod 2 = 1 := by rw [show ((Q : Nat) : Int).tmod 2 = ((Q % 2 : Nat) : Int) from rfl, h1]; rfl
                  repeat' first
 | (apply s_mov; (focus ((conv => lhs; whnf); done)))
 | (apply c_nil)
 | ((first | apply s_lss | apply s_leq | apply s_gtr | apply s_geq | apply s_eql | apply s_neq); exact rfl; all_goals (intro _; try (exfalso; omega)))
 | (apply s_pn; (focus (repeat (first | apply opds_nil | (apply opds_cons; (first | (focus ((conv => lhs; whnf); done)) | exact rfl))))); exact lx _)
 | (apply s_pn; (focus (repeat (first | apply opds_nil | (apply opds_cons; (first | (focus ((conv => lhs; whnf); done)) | exact rfl))))); exact s2 _)
 | ((first | apply s_add | apply s_sub); exact rfl; omega)
 | (apply s_idx; (focus ((conv => lhs; whnf); done)); exact rfl; (first | assumption | (apply IsLL.at; assumption; omega)); omega)
 | (apply s_idxLL; (focus ((conv => lhs; whnf); done)); exact rfl; assumption; omega)
 | (apply s_rem2; exact rfl)
 | (apply s_ldI; exact rfl; omega)
 | (apply s_ldLL; exact rfl; assumption; omega)
 | (apply c_seq)
 | (apply c_reg)
 | (apply c_block)
 | (apply c_skip)
 | (apply c_condT; exact rfl)
 | (with_reducible apply k_c)
                  all_goals exact hK21 _ _ (by omega) (by omega) (gcI (k + 1) _)
                | false =>
                  rw [hp] at h1 hK21
                  simp only [Bool.false_eq_true, if_false, Int.add_zero] at h1 hK21
                  have hbq : ((Q : Nat) : Int).tmod 2 = 0 := by rw [show ((Q : Nat) : Int).tmod 2 = ((Q % 2 : Nat) : Int) from rfl, h1]; rfl
                  repeat' first
 | (apply s_mov; (focus ((conv => lhs; whnf); done)))
 | (apply c_nil)
 | ((first | apply s_lss | apply s_leq | apply s_gtr | apply s_geq | apply s_eql | apply s_neq); exact rfl; all_goals (intro _; try (exfalso; omega)))
 | (apply s_pn; (focus (repeat (first | apply opds_nil | (apply opds_cons; (first | (focus ((conv => lhs; whnf); done)) | exact rfl))))); exact lx _)
 | (apply s_pn; (focus (repeat (first | apply opds_nil | (apply opds_cons; (first | (focus ((conv => lhs; whnf); done)) | exact rfl))))); exact s2 _)
 | ((first | apply s_add | apply s_sub); exact rfl; omega)
 | (apply s_rem2; exact rfl)
 | (apply c_seq)
 | (apply c_reg)
 | (apply c_block)
 | (apply c_skip)
 | (apply c_condT; exact rfl)
 | (apply c_condF; exact rfl)
 | (with_reducible apply k_c)
                  all_goals exact hK21 _ _ (by omega) (by omega) (gcI (k + 1) _)
              · obtain rfl : k = b.length := by omega
                have hbl2 : b.length = A.length := by omega
                repeat' first
 | (apply s_mov; (focus ((conv => lhs; whnf); done)))
 | (apply c_nil)
 | ((first | apply s_lss | apply s_leq | apply s_gtr | apply s_geq | apply s_eql | apply s_neq); exact rfl; all_goals (intro _; try (exfalso; omega)))
 | (apply s_pn; (focus (repeat (first | apply opds_nil | (apply opds_cons; (first | (focus ((conv => lhs; whnf); done)) | exact rfl))))); exact lx _)
 | (apply c_seq)
 | (apply c_reg)
 | (apply c_exitH)
 | (apply c_condF; exact rfl)
 | (with_reducible apply k_c)
                apply c_pre (vs := [x, .ptr 0 0, vA, .int .i64 (S : Int), .int .i64 (i : Int), .int .i64 (getI O (i : Int)), .int .i64 Z]) (H' := [some (.box [.bool false, fv, ov])])
                · simp [go_sem, fx, ff, fo, fA]
                repeat' first
 | (apply s_mov; (focus ((conv => lhs; whnf); done)))
 | (apply c_nil)
 | ((first | apply s_lss | apply s_leq | apply s_gtr | apply s_geq | apply s_eql | apply s_neq); exact rfl; all_goals (intro _; try (exfalso; omega)))
 | (apply s_pn; (focus (repeat (first | apply opds_nil | (apply opds_cons; (first | (focus ((conv => lhs; whnf); done)) | exact rfl))))); exact shl _)
 | ((first | apply s_add | apply s_sub); exact rfl; omega)
 | (apply s_idx; (focus ((conv => lhs; whnf); done)); exact rfl; (first | assumption | (apply IsLL.at; assumption; omega)); omega)
 | (apply s_ldI; exact rfl; omega)
 | (apply c_seq)
 | (apply c_reg)
 | (apply c_skip)
 | (apply c_ret)
 | (apply c_condT; exact rfl)
 | (apply c_condF; exact rfl)
 | (with_reducible apply k_c)
                · exact fin_t (by (conv => lhs; whnf)) (by rfl) (leafF fun h => by have := hOk.1 (hRW'.1 h i (by omega)); omega)
                · apply c_pre (vs := [x, .ptr 0 0, vA, .int .i64 ((S : Int) + (P : Int)), .int .i64 (i : Int)]) (H' := [some (.box [.bool false, fv, ov])])
                  · simp [go_sem, fx, ff, fo, fA]
                  repeat' first
 | (apply s_mov; (focus ((conv => lhs; whnf); done)))
 | (apply c_nil)
 | ((first | apply s_add | apply s_sub); exact rfl; omega)
 | (apply c_reg)
                  rw [Int.natCast_add] at hK1
                  refine hK1 _ _ ⟨by omega, fun j hj => ?_⟩ (by omega) (by have := gcO (i + 1) (S + P); rw [Int.natCast_add] at this; exact this)
                  rcases (by omega : j < i ∨ j = i) with h | rfl
                  · exact hok j h
                  · exact hOk.2 (by omega)
          · skip
            repeat' first
 | (apply s_mov; (focus ((conv => lhs; whnf); done)))
 | (apply s_gT; exact rfl)
 | (apply s_gF; exact rfl)
 | (apply c_nil)
 | (apply s_pickT; exact rfl; (focus ((conv => lhs; whnf); done)))
 | (apply s_pickF; exact rfl; (focus ((conv => lhs; whnf); done)))
 | ((first | apply s_lss | apply s_leq | apply s_gtr | apply s_geq | apply s_eql | apply s_neq); exact rfl; all_goals (intro _; try (exfalso; omega)))
 | (apply s_pn; (focus (repeat (first | apply opds_nil | (apply opds_cons; (first | (focus ((conv => lhs; whnf); done)) | exact rfl))))); exact lx _)
 | (apply s_pn; (focus (repeat (first | apply opds_nil | (apply opds_cons; (first | (focus ((conv => lhs; whnf); done)) | exact rfl))))); exact lo _)
 | (apply s_pn; (focus (repeat (first | apply opds_nil | (apply opds_cons; (first | (focus ((conv => lhs; whnf); done)) | exact rfl))))); exact d2 _)
 | (apply s_pn; (focus (repeat (first | apply opds_nil | (apply opds_cons; (first | (focus ((conv => lhs; whnf); done)) | exact rfl))))); exact l2)
 | (apply s_idx; (focus ((conv => lhs; whnf); done)); exact rfl; (first | assumption | (apply IsLL.at; assumption; omega)); omega)
 | (apply s_ldI; exact rfl; omega)
 | (apply c_seq)
 | (apply c_reg)
 | (apply c_block)
 | (apply c_skip)
 | (apply c_ret)
 | (apply c_condT; exact rfl)
 | (with_reducible apply k_c)
            all_goals exact fin_t (by (conv => lhs; whnf)) (by rfl) (leafF fun h => hV (hRW'.1 h i (by omega)).1)
        · obtain rfl : i = O.length := by omega
          repeat' first
 | (apply s_mov; (focus ((conv => lhs; whnf); done)))
 | (apply c_nil)
 | ((first | apply s_lss | apply s_leq | apply s_gtr | apply s_geq | apply s_eql | apply s_neq); exact rfl; all_goals (intro _; try (exfalso; omega)))
 | (apply s_pn; (focus (repeat (first | apply opds_nil | (apply opds_cons; (first | (focus ((conv => lhs; whnf); done)) | exact rfl))))); exact lo _)
 | (apply s_pn; (focus (repeat (first | apply opds_nil | (apply opds_cons; (first | (focus ((conv => lhs; whnf); done)) | exact rfl))))); exact d2 _)
 | (apply s_pn; (focus (repeat (first | apply opds_nil | (apply opds_cons; (first | (focus ((conv => lhs; whnf); done)) | exact rfl))))); exact l2)
 | (apply c_seq)
 | (apply c_reg)
 | (apply c_exitH)
 | (apply c_ret)
 | (apply c_condF; exact rfl)
 | (apply c_preF; (focus (repeat (first | apply looks_nil | (apply looks_cons; (focus ((conv => lhs; whnf); done)))))); (focus (simp [idFreeL, AV.idFree, *]; done)))
 | (with_reducible apply k_c)
          exact fin_t (by (conv => lhs; whnf)) (by rfl) (leafT (hRW'.2 fun k hk => hok k (by omega)))
  · have hnr : ¬ RightW b s won F O := fun h => hR h.1
    simp only [hR, decide_false] at e38
    repeat' first
 | (apply s_mov; (focus ((conv => lhs; whnf); done)))
 | (apply c_nil)
 | (apply s_notF; exact rfl)
 | (apply s_en; (focus (repeat (first | apply opds_nil | (apply opds_cons; (first | (focus ((conv => lhs; whnf); done)) | exact rfl))))); exact ob)
 | (apply s_pn; (focus (repeat (first | apply opds_nil | (apply opds_cons; (first | (focus ((conv => lhs; whnf); done)) | exact rfl))))); exact d1 _)
 | (apply s_pn; (focus (repeat (first | apply opds_nil | (apply opds_cons; (first | (focus ((conv => lhs; whnf); done)) | exact rfl))))); exact l1)
 | (apply s_cn; (focus (repeat (first | apply opds_nil | (apply opds_cons; (first | (focus ((conv => lhs; whnf); done)) | exact rfl))))); exact e38 _)
 | (apply c_seq)
 | (apply c_reg)
 | (apply c_ret)
 | (apply c_condT; exact rfl)
 | (with_reducible apply k_c)
    exact fin_t (by (conv => lhs; whnf)) (by rfl) (leafF hnr)
end Go.AM.Ch

set_option linter.unusedSectionVars false
set_option linter.unusedVariables false
set_option linter.unusedSimpArgs false
namespace Go.AM.Ch
set_option maxHeartbeats 8000000
theorem c46 {x y fv ov : AV} {b : List (List Int)} {s F O : List Int} {won : Bool} (hx : IsLL x b) (hy : IsL y s) (hF : IsL fv F) (hO : IsL ov O) (hB : IsB b) (hs : InR b.length 1048576 s) (hFl : F.length ≤ 1000) (hOl : O.length ≤ 1000) {m : Nat} (hm : 2100 ≤ m) (H : Heap) :
    callPure (evF tab it m) true 46 [x, y, .agg [.bool won, fv, ov]] H = some (.bool (decide (RightW b s won F O)), H) :=
  callPure_free (by simp [idFreeL, AV.idFree, hx.free, hy.free, hF.free, hO.free]) (by simp) (f46 hx hy hF hO hB hs hFl hOl hm) rfl
/-- Check -/
theorem c50 {x y fv ov : AV} {b : List (List Int)} {s F O : List Int} {won : Bool} (hx : IsLL x b) (hy : IsL y s) (hF : IsL fv F) (hO : IsL ov O) (hl : b.length < 100) (hsl : s.length ≤ 1000) (hFl : F.length ≤ 1000) (hOl : O.length ≤ 1000) {m : Nat} (hm : 2200 ≤ m) (H : Heap) :
    callPure (evF tab it m) true 50 [x, y, .agg [.bool won, fv, ov]] H = some (.int .i64 (if IsB b ∧ InR b.length 1048576 s then (if RightW b s won F O then 0 else 10) else 2), H) := by
  have f50 : evF tab it m 50 [x, y, .agg [.bool won, fv, ov]] [] = some (.int .i64 (if IsB b ∧ InR b.length 1048576 s then (if RightW b s won F O then 0 else 10) else 2), []) := by
    obtain ⟨m, rfl⟩ : ∃ j, m = j + 1 := ⟨m - 1, by omega⟩
    have fx := hx.free; have fy := hy.free; have ff := hF.free; have fo := hO.free
    have e52 := fun H => c52 hx hy hl hsl (m := m) (by omega) H
    have e79 := fun (h : IsB b ∧ InR b.length 1048576 s) H => c79 (won := won) hx hy hF hO h.1 h.2 hFl hOl (m := m) (by omega) H
    refine f_enter rfl rfl ?_
    generalize evF tab it m = call at *
    have o1 : ∀ x : Bool, (AV.bool x).one = true := fun _ => rfl
    have of : fv.one = true := by cases hF <;> rfl
    have oo : ov.one = true := by cases hO <;> rfl
    have ob : evE call [] (.box false) [.agg [.bool won, fv, ov]] = some (.ptr 0 0, [some (.box [.bool won, fv, ov])]) := by
      simp [evE, cells_agg, oneL, o1, of, oo, mkHO]
    have la : evP [some (.box [.bool won, fv, ov])] (.ld true 3) [.ptr 0 0] = some (.agg [.bool won, fv, ov]) := rfl
    by_cases h1 : IsB b ∧ InR b.length 1048576 s
    · rw [if_pos h1] at e52 ⊢
      have e79' := e79 h1
      by_cases h2 : RightW b s won F O <;> simp only [h2, decide_true, decide_false, if_true, if_false] at e79' ⊢
      all_goals
        repeat' first
 | (apply s_mov; (focus ((conv => lhs; whnf); done)))
 | (apply c_nil)
 | (apply s_notT; exact rfl)
 | (apply s_notF; exact rfl)
 | ((first | apply s_lss | apply s_leq | apply s_gtr | apply s_geq | apply s_eql | apply s_neq); exact rfl; all_goals (intro _; try (exfalso; omega)))
 | (apply s_en; (focus (repeat (first | apply opds_nil | (apply opds_cons; (first | (focus ((conv => lhs; whnf); done)) | exact rfl))))); exact ob)
 | (apply s_pn; (focus (repeat (first | apply opds_nil | (apply opds_cons; (first | (focus ((conv => lhs; whnf); done)) | exact rfl))))); exact la)
 | (apply s_cn; (focus (repeat (first | apply opds_nil | (apply opds_cons; (first | (focus ((conv => lhs; whnf); done)) | exact rfl))))); exact e52 _)
 | (apply s_cn; (focus (repeat (first | apply opds_nil | (apply opds_cons; (first | (focus ((conv => lhs; whnf); done)) | exact rfl))))); exact e79' _)
 | (apply c_seq)
 | (apply c_reg)
 | (apply c_skip)
 | (apply c_ret)
 | (apply c_condT; exact rfl)
 | (apply c_condF; exact rfl)
 | (with_reducible apply k_c)
      all_goals exact fin_t (by (conv => lhs; whnf)) (by rfl) rfl
    · rw [if_neg h1] at e52 ⊢
      repeat' first
 | (apply s_mov; (focus ((conv => lhs; whnf); done)))
 | (apply c_nil)
 | ((first | apply s_lss | apply s_leq | apply s_gtr | apply s_geq | apply s_eql | apply s_neq); exact rfl; all_goals (intro _; try (exfalso; omega)))
 | (apply s_en; (focus (repeat (first | apply opds_nil | (apply opds_cons; (first | (focus ((conv => lhs; whnf); done)) | exact rfl))))); exact ob)
 | (apply s_cn; (focus (repeat (first | apply opds_nil | (apply opds_cons; (first | (focus ((conv => lhs; whnf); done)) | exact rfl))))); exact e52 _)
 | (apply c_seq)
 | (apply c_reg)
 | (apply c_ret)
 | (apply c_condT; exact rfl)
 | (with_reducible apply k_c)
      all_goals exact fin_t (by (conv => lhs; whnf)) (by rfl) rfl
  exact callPure_free (by simp [idFreeL, AV.idFree, hx.free, hy.free, hF.free, hO.free]) (by simp) f50 rfl
theorem e_stA {call : CallF} {H : Heap} {id n : Nat} {c vs : List AV} (hH : H[id]? = some (some (.box c))) (h1 : (AV.agg vs).cells = vs) (h2 : vs.length = n) (h3 : oneL vs = true) (h4 : c.length = n) : evE call H (.st n) [.ptr id 0, .agg vs] = some (.undef, H.set id (some (.box vs))) := by
  subst h2
  simp [evE, stAt, hH, h1, h3, h4, putRow, List.drop_of_length_le]
end Go.AM.Ch

set_option linter.unusedSectionVars false
set_option linter.unusedVariables false
set_option linter.unusedSimpArgs false
namespace Go.AM.Ch
set_option maxHeartbeats 4000000
theorem c34 {x : AV} {b : List (List Int)} {w : Nat} (hx : IsLL x b) (hb : b.length < 9223372036854775808) (hw : 1 ≤ w ∧ w ≤ 10) {m : Nat} (hm : 100 ≤ m) (H : Heap) :
    callPure (evF tab it m) true 34 [x, .int .i64 (w : Int)] H = some (fzLL (growL b w), H) :=
  callPure_frz (by simp [idFreeL, AV.idFree, hx.free]) (by simp) (f34 hx hb hw hm) (hb_frz (growL_rows b w) (grN_le b hw.1).1 (by have := (grN_le b hw.1).2; omega))
/-! ### an order in which all burns, and no winning -/
/-- a list that burns all is of no value that is all at least 0 -/
theorem no_eff {b : List (List Int)} (hB : IsB b) {l O : List Int} (hO : O.length = b.length) (hk : ∀ k : Nat, k < b.length → OkAt b l O k) (t : Nat → Int) : ¬ ∀ v, v < b.length → 0 ≤ ap b.length (ed b) (gf l) t v := by
  intro hc
  have g := gr_of hB
  have hn := hB.n1
  -- the greatest number of the script, at places of the order
  obtain ⟨m, hm, hmax⟩ := ex_max (fun k => t (getI O (k : Int)).toNat) (n := b.length) (by omega)
  -- all places are of the order
  have hall : ∀ v : Nat, v < b.length → ∃ k : Nat, k < b.length ∧ getI O (k : Int) = (v : Int) := by
    have hnd : ((List.range b.length).map fun k => (getI O ((k : Nat) : Int)).toNat).Nodup := by
      rw [List.nodup_iff_pairwise_ne, List.pairwise_map]
      refine (List.pairwise_iff_getElem).2 fun i j hi hj hij => ?_
      simp only [List.length_range] at hi hj
      simp only [List.getElem_range]
      have a := (hk j hj).2.1 i hij
      have c := (hk i hi).1
      have d := (hk j hj).1
      omega
    intro v hv
    apply Classical.byContradiction
    intro hno
    have hnd2 : (v :: ((List.range b.length).map fun k => (getI O ((k : Nat) : Int)).toNat)).Nodup := List.nodup_cons.2 ⟨fun hmem => by
      obtain ⟨k, hkm, e⟩ := List.mem_map.1 hmem
      have hkn := List.mem_range.1 hkm
      have := (hk k hkn).1
      exact hno ⟨k, hkn, by omega⟩, hnd⟩
    have := nodup_len hnd2 (l2 := List.range b.length) fun w hw => by
      rcases List.mem_cons.1 hw with rfl | hw
      · exact List.mem_range.2 hv
      · obtain ⟨k, hkm, rfl⟩ := List.mem_map.1 hw
        have := (hk k (List.mem_range.1 hkm)).1
        exact List.mem_range.2 (by omega)
    simp at this
    omega
  -- the first of them
  have key : ∀ k : Nat, (∃ j : Nat, j < k ∧ j < b.length ∧ t (getI O (j : Int)).toNat = t (getI O (m : Int)).toNat) → ∃ j : Nat, j < b.length ∧ t (getI O (j : Int)).toNat = t (getI O (m : Int)).toNat ∧ ∀ i : Nat, i < j → t (getI O (i : Int)).toNat ≠ t (getI O (m : Int)).toNat := by
    intro k
    induction k with
    | zero => rintro ⟨j, hj, _⟩; omega
    | succ k ih =>
      rintro ⟨j, hj, hjl, hs⟩
      by_cases hex : ∃ j : Nat, j < k ∧ j < b.length ∧ t (getI O (j : Int)).toNat = t (getI O (m : Int)).toNat
      · exact ih hex
      · exact ⟨j, hjl, hs, fun i hi e => hex ⟨i, by omega, by omega, e⟩⟩
  obtain ⟨j, hj, hjt, hfirst⟩ := key (m + 1) ⟨m, by omega, hm, rfl⟩
  obtain ⟨h1, h2, h3⟩ := hk j hj
  obtain ⟨w, hw⟩ : ∃ w : Nat, getI O (j : Int) = (w : Int) := ⟨(getI O (j : Int)).toNat, by omega⟩
  have hwn : w < b.length := by omega
  have hsum := preS_sum (O := O) (n := b.length) (fun u => getI (getLL b (w : Int)) u) (k := j) (by omega) fun i hi => ⟨(hk i (by omega)).1, (hk i (by omega)).2.1⟩
  rw [hw] at h3 hjt
  rw [Int.toNat_natCast] at hjt
  have hnet : sumTo (fun i => getI (getLL b (w : Int)) (getI O (i : Int))) j ≤ net b.length (ed b) t w := by
    rw [← hsum]
    refine sumTo_mono fun u hu => ?_
    have he := g.nn w u hwn hu
    obtain ⟨k, hkn, hku⟩ := hall u hu
    have hle : t u ≤ t w := by
      have := hmax k hkn
      try dsimp only at this
      rw [hku, Int.toNat_natCast] at this
      omega
    by_cases hp : preS O j u = true
    · rw [if_pos hp]
      simp only [preS, decide_eq_true_eq] at hp
      obtain ⟨i, hi, e⟩ := (mem_take (by omega)).1 hp
      have := hfirst i hi
      rw [e, Int.toNat_natCast] at this
      have h4 : 1 ≤ t w - t u := by omega
      have := Int.mul_le_mul_of_nonneg_left h4 he
      rw [Int.mul_one] at this
      exact this
    · rw [if_neg hp]
      exact Int.mul_nonneg he (by omega)
  have := hc w hwn
  unfold ap at this
  have h5 : gf l w = getI l (w : Int) := rfl
  omega
theorem sum_perm {b : List (List Int)} {l O : List Int} (hO : O.length = b.length) (hk : ∀ k : Nat, k < b.length → OkAt b l O k) (f : Nat → Int) : sumTo (fun k => f (getI O (k : Int)).toNat) b.length = sumTo f b.length := by
  have hs := preS_sum (O := O) (n := b.length) (fun u => f u.toNat) (k := b.length) (by omega) fun j hj => ⟨(hk j hj).1, (hk j hj).2.1⟩
  rw [← hs]
  have hnd : ((List.range b.length).map fun k => (getI O ((k : Nat) : Int)).toNat).Nodup := by
    rw [List.nodup_iff_pairwise_ne, List.pairwise_map]
    refine (List.pairwise_iff_getElem).2 fun i j hi hj hij => ?_
    simp only [List.length_range] at hi hj
    simp only [List.getElem_range]
    have a := (hk j hj).2.1 i hij
    have c := (hk i hi).1
    have d := (hk j hj).1
    omega
  refine sumTo_congr fun v hv => ?_
  have : preS O b.length v = true := by
    apply Classical.byContradiction
    intro hno
    have hm : ¬ (v : Int) ∈ O.take b.length := by simpa [preS] using hno
    have hnd2 : (v :: ((List.range b.length).map fun k => (getI O ((k : Nat) : Int)).toNat)).Nodup := List.nodup_cons.2 ⟨fun hmem => by
      obtain ⟨k, hkm, e⟩ := List.mem_map.1 hmem
      have hkn := List.mem_range.1 hkm
      have := (hk k hkn).1
      exact hm ((mem_take (by omega)).2 ⟨k, hkn, by omega⟩), hnd⟩
    have := nodup_len hnd2 (l2 := List.range b.length) fun w hw => by
      rcases List.mem_cons.1 hw with rfl | hw
      · exact List.mem_range.2 hv
      · obtain ⟨k, hkm, rfl⟩ := List.mem_map.1 hw
        have := (hk k (List.mem_range.1 hkm)).1
        exact List.mem_range.2 (by omega)
    simp at this
    omega
  rw [if_pos this, Int.toNat_natCast]
/-- twice the sum over earlier pairs is the sum over all pairs -/
theorem tri {F : Nat → Nat → Int} : ∀ {n : Nat}, (∀ i j, i < n → j < n → F i j = F j i) → (∀ i, i < n → F i i = 0) → 2 * sumTo (fun k => sumTo (fun j => F k j) k) n = sumTo (fun k => sumTo (fun j => F k j) n) n
  | 0, _, _ => rfl
  | n + 1, hs, hz => by
    have ih := tri (F := F) (n := n) (fun i j hi hj => hs i j (by omega) (by omega)) fun i hi => hz i (by omega)
    have e1 : sumTo (fun k => sumTo (fun j => F k j) (n + 1)) n = sumTo (fun k => sumTo (fun j => F k j) n) n + sumTo (fun k => F k n) n := by rw [← sumTo_add]; rfl
    have e2 : sumTo (fun k => F k n) n = sumTo (fun j => F n j) n := sumTo_congr fun k hk => hs k n (by omega) (by omega)
    have e3 := hz n (by omega)
    simp only [sumTo] at e1 ⊢
    rw [e1, e2, e3]
    omega
def degs (b : List (List Int)) : Int := sumTo (fun v => deg b.length (ed b) v) b.length
/-- a list that burns all has a small sum -/
theorem ok_sum {b : List (List Int)} (hB : IsB b) {l O : List Int} (hO : O.length = b.length) (hk : ∀ k : Nat, k < b.length → OkAt b l O k) : 2 * sumTo (gf l) b.length + 2 * b.length ≤ degs b := by
  have g := gr_of hB
  have h1 := sum_perm hO hk (gf l)
  have h2 : sumTo (fun k => gf l (getI O (k : Int)).toNat) b.length ≤ sumTo (fun k => sumTo (fun j => ed b (getI O (k : Int)).toNat (getI O (j : Int)).toNat) k - 1) b.length := sumTo_mono fun k hkn => by
    obtain ⟨a, c, d⟩ := hk k hkn
    have e : gf l (getI O (k : Int)).toNat = getI l (getI O (k : Int)) := by unfold gf; rw [Int.toNat_of_nonneg a.1]
    have e2 : sumTo (fun j => getI (getLL b (getI O (k : Int))) (getI O (j : Int))) k = sumTo (fun j => ed b (getI O (k : Int)).toNat (getI O (j : Int)).toNat) k := sumTo_congr fun j hj => by
      have := (hk j (by omega)).1
      unfold ed
      rw [Int.toNat_of_nonneg a.1, Int.toNat_of_nonneg this.1]
    try dsimp only
    omega
  have h3 : sumTo (fun k => sumTo (fun j => ed b (getI O (k : Int)).toNat (getI O (j : Int)).toNat) k - 1) b.length = sumTo (fun k => sumTo (fun j => ed b (getI O (k : Int)).toNat (getI O (j : Int)).toNat) k) b.length - sumTo (fun _ => 1) b.length := sumTo_sub _ _ _
  have h4 : ∀ n : Nat, sumTo (fun _ => (1 : Int)) n = n := fun n => by
    induction n with
    | zero => rfl
    | succ n ih => simp only [sumTo, ih]; omega
  have h5 := tri (F := fun k j => ed b (getI O ((k : Nat) : Int)).toNat (getI O ((j : Nat) : Int)).toNat) (n := b.length) (fun i j hi hj => by
    have a := (hk i hi).1
    have c := (hk j hj).1
    exact g.sy _ _ (by omega) (by omega)) (fun i hi => by
    have a := (hk i hi).1
    have := (hB.ed (getI O (i : Int)).toNat (getI O (i : Int)).toNat (by omega) (by omega)).2.2 rfl
    exact this)
  have h6 : sumTo (fun k => sumTo (fun j => ed b (getI O ((k : Nat) : Int)).toNat (getI O ((j : Nat) : Int)).toNat) b.length) b.length = degs b := by
    have e1 : ∀ k, sumTo (fun j => ed b (getI O ((k : Nat) : Int)).toNat (getI O ((j : Nat) : Int)).toNat) b.length = deg b.length (ed b) (getI O ((k : Nat) : Int)).toNat := fun k => sum_perm hO hk (fun u => ed b (getI O ((k : Nat) : Int)).toNat u)
    rw [show (fun k => sumTo (fun j => ed b (getI O ((k : Nat) : Int)).toNat (getI O ((j : Nat) : Int)).toNat) b.length) = fun k => deg b.length (ed b) (getI O ((k : Nat) : Int)).toNat from funext e1]
    exact sum_perm hO hk (fun v => deg b.length (ed b) v)
  rw [h4] at h3
  omega
/-- the order of what is not won -/
theorem ord_ok {b : List (List Int)} (hB : IsB b) {s : List Int} (hs : InR b.length 1048576 s) (hw : wonB b s = false) : ∀ k : Nat, k < b.length → OkAt b (redL b s 0) (ordB b s) k := by
  have h := win_right hB hs
  rw [hw] at h
  obtain ⟨-, ⟨h1, -⟩ | ⟨-, -, h2⟩⟩ := h
  · cases h1
  · exact h2
theorem sum_apl {b : List (List Int)} (hB : IsB b) (s t : List Int) : sumTo (gf (apl b s t)) b.length = sumTo (gf s) b.length := by
  rw [← ap_sum (gr_of hB) (gf s) (gf t)]
  exact sumTo_congr fun v hv => apl_ap hB s t hv
/-- the other kind of winning is wrong -/
theorem once {b : List (List Int)} (hB : IsB b) {s : List Int} (hs : InR b.length 1048576 s) (F O : List Int) : ¬ RightW b s (!wonB b s) F O := by
  rintro ⟨hF, h⟩
  have hq : 0 < b.length := hB.n1
  cases hw : wonB b s with
  | true =>
    rw [hw] at h
    obtain ⟨h1, -⟩ | ⟨-, h2, h3⟩ := h
    · cases h1
    · have hr := redL_red hB s hq
      have h0 : 0 ≤ getI (redL b s 0) ((0 : Nat) : Int) := by unfold wonB at hw; simpa using hw
      refine no_eff hB h2 h3 (fun j => gf (redT b s 0) j + (- gf F j)) fun v hv => ?_
      have e : ap b.length (ed b) (gf (apl b s F)) (fun j => gf (redT b s 0) j + (- gf F j)) v = gf (redL b s 0) v := by
        have e1 : gf (apl b s F) v = ap b.length (ed b) (gf s) (gf F) v := apl_ap hB s F hv
        have e2 : gf (redL b s 0) v = ap b.length (ed b) (gf s) (gf (redT b s 0)) v := apl_ap hB s _ hv
        unfold ap at e1 e2 ⊢
        rw [net_add, net_neg, e1, e2]
        omega
      rw [e]
      by_cases e0 : v = 0
      · subst e0; exact h0
      · exact hr.1 v hv e0
  | false =>
    rw [hw] at h
    obtain ⟨-, -, h2⟩ | ⟨h1, -⟩ := h
    · refine no_eff hB (ordB_len hB s) (ord_ok hB hs hw) (fun j => gf F j + (- gf (redT b s 0) j)) fun v hv => ?_
      have e : ap b.length (ed b) (gf (redL b s 0)) (fun j => gf F j + (- gf (redT b s 0) j)) v = gf (apl b s F) v := by
        have e1 : gf (apl b s F) v = ap b.length (ed b) (gf s) (gf F) v := apl_ap hB s F hv
        have e2 : gf (redL b s 0) v = ap b.length (ed b) (gf s) (gf (redT b s 0)) v := apl_ap hB s _ hv
        unfold ap at e1 e2 ⊢
        rw [net_add, net_neg, e1, e2]
        omega
      rw [e]
      exact h2 v hv
    · cases h1
theorem won_sum {b : List (List Int)} (hB : IsB b) {s : List Int} (hs : InR b.length 1048576 s) : (degs b < 2 * sumTo (gf s) b.length + 2 * b.length → wonB b s = true) ∧ (sumTo (gf s) b.length < 0 → wonB b s = false) := by
  have hq : 0 < b.length := hB.n1
  have hsum : sumTo (gf (redL b s 0)) b.length = sumTo (gf s) b.length := sum_apl hB s _
  constructor
  · intro h
    cases hw : wonB b s with
    | true => rfl
    | false =>
      have := ok_sum hB (ordB_len hB s) (ord_ok hB hs hw)
      omega
  · intro h
    cases hw : wonB b s with
    | false => rfl
    | true =>
      exfalso
      have h0 : 0 ≤ getI (redL b s 0) ((0 : Nat) : Int) := by unfold wonB at hw; simpa using hw
      have hr := redL_red hB s hq
      have : 0 ≤ sumTo (gf (redL b s 0)) b.length := sumTo_nn fun v hv => by
        by_cases e : v = 0
        · subst e; exact h0
        · exact hr.1 v hv e
      omega
/-- Genus -/
theorem c42 {x : AV} {b : List (List Int)} (hx : IsLL x b) (hB : IsB b) {m : Nat} (hm : 1100 ≤ m) (H : Heap) : callPure (evF tab it m) true 42 [x] H = some (.int .i64 (degs b / 2 - b.length + 1), H) := by
  have f42 : evF tab it m 42 [x] [] = some (.int .i64 (degs b / 2 - b.length + 1), []) := by
    obtain ⟨m, rfl⟩ : ∃ j, m = j + 1 := ⟨m - 1, by omega⟩
    have fx := hx.free
    have hn2 := hB.n2
    have g := gr_of hB
    have lx : ∀ H, evP H .len [x] = some (.int .i64 ((b.length : Nat) : Int)) := fun H => by cases hx <;> rfl
    have e35 := fun (i : Nat) (hi : i < b.length) H => c35d hx hB hi (m := m) (by omega) H
    refine f_enter rfl rfl ?_
    generalize evF tab it m = call at *
    repeat' first
 | (apply s_mov; (focus ((conv => lhs; whnf); done)))
 | (apply c_nil)
 | (apply c_seq)
 | (apply c_reg)
 | (apply c_block)
 | (with_reducible apply k_c)
    refine c_loop ?_
    refine loop_gc (σ := Nat) (fun k => [x, .int .i64 (sumTo (fun v => deg b.length (ed b) v) k), .int .i64 (k : Int)]) (fun _ => []) (fun k => k ≤ b.length) (fun k => b.length - k) ?_ _ 0 _ _ (by omega) (by omega) (gc_to rfl (by simp [idFreeL, AV.idFree, *]; done))
    intro k hk K hK
    have hs1 := sumTo_nn (f := fun v => deg b.length (ed b) v) (n := k) fun j hj => (deg_nn g (by omega)).1
    have hs2 := sumTo_le (f := fun v => deg b.length (ed b) v) (M := 36) (n := k) fun j hj => by have := deg_nn g (i := j) (by omega); omega
    have hK1 := hK (k + 1)
    simp only [sumTo] at hK1
    have hd : k = b.length → sumTo (fun v => deg b.length (ed b) v) k = degs b := fun e => by subst e; rfl
    generalize sumTo (fun v => deg b.length (ed b) v) k = Z at *
    by_cases hkn : k < b.length
    · have e35' := e35 k hkn
      have hdg := deg_nn g hkn
      repeat' first
 | (apply s_mov; (focus ((conv => lhs; whnf); done)))
 | (apply c_nil)
 | ((first | apply s_lss | apply s_leq | apply s_gtr | apply s_geq | apply s_eql | apply s_neq); exact rfl; all_goals (intro _; try (exfalso; omega)))
 | ((first | apply s_add | apply s_sub); exact rfl; omega)
 | (apply s_pn; (focus (repeat (first | apply opds_nil | (apply opds_cons; (first | (focus ((conv => lhs; whnf); done)) | exact rfl))))); exact lx _)
 | (apply s_cn; (focus (repeat (first | apply opds_nil | (apply opds_cons; (first | (focus ((conv => lhs; whnf); done)) | exact rfl))))); exact e35' _)
 | (apply c_seq)
 | (apply c_reg)
 | (apply c_block)
 | (apply c_skip)
 | (apply c_condT; exact rfl)
 | (with_reducible apply k_c)
      exact hK1 _ _ (by omega) (by omega) (gc_to rfl (by simp [idFreeL, AV.idFree, *]; done))
    · obtain rfl : k = b.length := by omega
      have quo := fun H => p_quo (H := H) (a := Z) (c := 2) (by omega) (by omega)
      have he := hd rfl
      rw [← he]
      repeat' first
 | (apply s_mov; (focus ((conv => lhs; whnf); done)))
 | (apply c_nil)
 | ((first | apply s_lss | apply s_leq | apply s_gtr | apply s_geq | apply s_eql | apply s_neq); exact rfl; all_goals (intro _; try (exfalso; omega)))
 | ((first | apply s_add | apply s_sub); exact rfl; omega)
 | (apply s_pn; (focus (repeat (first | apply opds_nil | (apply opds_cons; (first | (focus ((conv => lhs; whnf); done)) | exact rfl))))); exact lx _)
 | (apply s_pn; (focus (repeat (first | apply opds_nil | (apply opds_cons; (first | (focus ((conv => lhs; whnf); done)) | exact rfl))))); exact quo _)
 | (apply c_seq)
 | (apply c_reg)
 | (apply c_exitH)
 | (apply c_ret)
 | (apply c_condF; exact rfl)
 | (apply c_preF; (focus (repeat (first | apply looks_nil | (apply looks_cons; (focus ((conv => lhs; whnf); done)))))); (focus (simp [idFreeL, AV.idFree, *]; done)))
 | (with_reducible apply k_c)
      exact fin_t (by (conv => lhs; whnf)) (by rfl) rfl
  exact callPure_free (by simp [idFreeL, AV.idFree, hx.free]) (by simp) f42 rfl
end Go.AM.Ch

set_option linter.unusedSectionVars false
set_option linter.unusedVariables false
set_option linter.unusedSimpArgs false
namespace Go.AM.Ch
theorem T4 : T 4 = some ⟨.bool, 1, 1, [.bool false]⟩ := rfl
theorem T48 : T 48 = some ⟨.struct [(0, 4), (1, 23), (2, 23)], 3, 56, [.bool false, .nilS, .nilS]⟩ := rfl
theorem ty_bool {k : Nat} {cs : List AV} (h : TyAV T k 4 cs) : ∃ v : Bool, cs = [.bool v] := by
  cases k with
  | zero => exact h.elim
  | succ k =>
    obtain ⟨s, hs, hm⟩ := h
    rw [T4] at hs; cases hs
    exact hm
theorem arg_winning {k : Nat} {x : AV} (h : TyArg T k 48 x) : ∃ (won : Bool) (fv ov : AV) (F O : List Int), x = .agg [.bool won, fv, ov] ∧ IsL fv F ∧ IsL ov O := by
  rcases h with ⟨s, xs, hs, ha, rfl, h⟩ | ⟨s, hs, ha, h⟩
  · cases k with
    | zero => exact h.elim
    | succ k =>
      obtain ⟨s', hs', hm0⟩ := h
      rw [T48] at hs'; cases hs'
      obtain ⟨hl, hm⟩ := hm0
      obtain ⟨s0, e0, t0⟩ := hm (0, 4) (by simp)
      obtain ⟨s1, e1, t1⟩ := hm (1, 23) (by simp)
      obtain ⟨s2, e2, t2⟩ := hm (2, 23) (by simp)
      simp only at e0 e1 e2 hl
      rw [T4] at e0; rw [T23] at e1 e2
      cases e0; cases e1; cases e2
      match xs, hl with
      | [a, b, c], _ =>
        simp at t0 t1 t2
        obtain ⟨w, hw⟩ := ty_bool t0
        obtain ⟨y, F, hy, hF⟩ := ty_ints t1
        obtain ⟨z, O, hz, hO⟩ := ty_ints t2
        simp only [List.cons.injEq, and_true] at hw hy hz
        subst hw; subst hy; subst hz
        exact ⟨w, b, c, F, O, rfl, hF, hO⟩
  · rw [T48] at hs; cases hs; cases ha
end Go.AM.Ch

set_option linter.unusedSectionVars false
set_option linter.unusedVariables false
set_option linter.unusedSimpArgs false
namespace Go.AM.Ch
theorem ty_rowsB {k : Nat} {cs : List AV} (h : TyAV T k 22 cs) : ∃ x l, cs = [x] ∧ IsLL x l ∧ l.length < 2 ^ 63 := by
  cases k with
  | zero => exact h.elim
  | succ k =>
    obtain ⟨s, hs, hm⟩ := h
    rw [T22] at hs; cases hs
    rcases hm with rfl | ⟨len, cells, se, h1, rfl, h3, h5, h4⟩
    · exact ⟨_, [], rfl, .nil, by simp⟩
    · rw [T23] at h1; cases h1
      simp only [Nat.mul_one] at h3 h4
      have key : ∀ (cs : List AV), (∀ i, i < cs.length → ∃ l, IsL (cs.getD i .undef) l) → ∃ ll : List (List Int), cs.length = ll.length ∧ ∀ i, i < ll.length → IsL (cs.getD i .undef) (ll.getD i []) := by
        intro cs
        induction cs with
        | nil => intro _; exact ⟨[], rfl, fun i hi => by simp at hi⟩
        | cons c cs ih =>
          intro h
          obtain ⟨l, hl⟩ := h 0 (by simp)
          obtain ⟨ll, h1, h2⟩ := ih fun i hi => by simpa using h (i + 1) (by simpa using hi)
          refine ⟨l :: ll, by simp [h1], fun i hi => ?_⟩
          cases i with
          | zero => simpa using hl
          | succ i => simpa using h2 i (by simpa using hi)
      obtain ⟨ll, e1, e2⟩ := key cells fun i hi => by
        obtain ⟨x, l, hx, hl⟩ := ty_ints (h4 i (by omega))
        rw [take1 hi] at hx
        simp only [List.cons.injEq, and_true] at hx
        exact ⟨l, by rw [hx]; exact hl⟩
      have e3 : len = ll.length := by omega
      subst e3
      exact ⟨_, ll, rfl, .rd cells ll e1 e2, h5⟩
theorem arg_rowsB {k : Nat} {x : AV} (h : TyArg T k 22 x) : ∃ l, IsLL x l ∧ l.length < 9223372036854775808 := by
  rcases h with ⟨s, xs, hs, ha, _⟩ | ⟨s, hs, ha, h⟩
  · rw [T22] at hs; cases hs; cases ha
  · obtain ⟨y, l, hy, hl, hb⟩ := ty_rowsB h
    simp only [List.cons.injEq, and_true] at hy
    exact ⟨l, by rw [hy]; exact hl, hb⟩
end Go.AM.Ch
