/- A part of the proof: U20 U49. -/
import Derived.Test.YtmegimhfoedcdaaU36
import Derived.Test.YtmegimhfoedcdaaU33b
set_option linter.unusedSectionVars false
set_option linter.unusedVariables false
set_option linter.unusedSimpArgs false
namespace Go.AM.Ch
attribute [local go_sem] gc subHeap reach_skip ren_free reach_new reach_newp reach_end rangeL roots boxCells nodupB posOf renL AV.ren pickO renH renO looks look bindEnv envOf reach_int reach_bool reach_nilS reach_rd putRow cells_sl cells_int cells_bool cells_nilS cells_rd cells_agg reach_agg reach_tup idFreeL idf_sl idf_ptr idf_int idf_bool idf_nilS idf_rd reach_fn reach_mp cells_fn cells_ptr cells_mp idf_mp idf_fn idf_agg idf_tup
set_option maxHeartbeats 8000000
theorem row_all {b : List (List Int)} (hb : Bd b) {i : Nat} (hi : i < b.length) : ∀ v ∈ getLL b (i : Int), 0 ≤ v ∧ v ≤ 3 := fun v hv => by
  obtain ⟨k, hk, e⟩ := List.getElem_of_mem hv
  have := hb.val i k hi (by rw [← hb.row i hi]; exact hk)
  rw [getI_nat] at this
  simpa [List.getD, hk, e] using this
theorem f79 {x y fv ov : AV} {b : List (List Int)} {s F O : List Int} {won : Bool} (hx : IsLL x b) (hy : IsL y s) (hF : IsL fv F) (hO : IsL ov O) (hB : IsB b) (hs : InR b.length 1048576 s) (hFl : F.length ≤ 1000) (hOl : O.length ≤ 1000) {m : Nat} (hm : 2100 ≤ m) :
    evF tab it m 79 [x, y, .agg [.bool won, fv, ov]] [] = some (.bool (decide (RightW b s won F O)), []) := by
  obtain ⟨m, rfl⟩ : ∃ j, m = j + 3 := ⟨m - 3, by omega⟩
  have fx := hx.free; have fy := hy.free; have ff := hF.free; have fo := hO.free
  have hn1 := hB.n1; have hn2 := hB.n2
  have hbd := hB.bd
  have e69 := fun H => callPure_free (H := H) (by simp [idFreeL, AV.idFree, ff]) (by simp) (f69 (g := 102) hF hFl (m := m) (by omega) (fun v H => c102 (by omega) v H)) rfl
  have key := inR_of b.length 1099511627776 F
  have e55 := fun (h : InR b.length 1099511627776 F) H => c55 hx hy hF hbd hs.1 h.1 (fun v hv => by have := inR_get h v hv; omega) (fun v hv => by have := inR_get hs v hv; omega) (m := m + 2) (by omega) H
  have lx : ∀ H, evP H .len [x] = some (.int .i64 ((b.length : Nat) : Int)) := fun H => by cases hx <;> rfl
  have lf : ∀ H, evP H .len [fv] = some (.int .i64 ((F.length : Nat) : Int)) := fun H => p_lenI hF
  have lo : ∀ H, evP H .len [ov] = some (.int .i64 ((O.length : Nat) : Int)) := fun H => p_lenI hO
  have e103 := fun H => c103 (isL_apl b s F) (by rw [apl_len]; omega) (by rw [apl_len]; omega) (m := m + 2) (by omega) H
  have hmin := minTo_ge (apl b s F) 0 ((apl b s F).length - 1)
  have e53 := fun (a lo hi : Int) H => c53 (m := m + 2) (by omega) a lo hi H
  have e83 := fun {t : AV} {T : List Int} (ht : IsL t T) (hl : T.length ≤ 1000) (w : Int) H => c83 (w := w) ht hl (m := m + 2) (by omega) H
  refine f_enter rfl rfl ?_
  generalize evF tab it (m + 2) = call at *
  have o1 : ∀ x : Bool, (AV.bool x).one = true := fun _ => rfl
  have of : fv.one = true := by cases hF <;> rfl
  have oo : ov.one = true := by cases hO <;> rfl
  have ob : evE call [] (.box false) [.agg [.bool won, fv, ov]] = some (.ptr 0 0, [some (.box [.bool won, fv, ov])]) := by
    simp [evE, cells_agg, oneL, o1, of, oo, mkHO]
  have d0 : ∀ H, evP H (.fldA 0) [.ptr 0 0] = some (.ptr 0 0) := fun _ => rfl
  have d1 : ∀ H, evP H (.fldA 1) [.ptr 0 0] = some (.ptr 0 1) := fun _ => rfl
  have d2 : ∀ H, evP H (.fldA 2) [.ptr 0 0] = some (.ptr 0 2) := fun _ => rfl
  have l0 : evP [some (.box [.bool won, fv, ov])] (.ld false 1) [.ptr 0 0] = some (.bool won) := rfl
  have l1 : evP [some (.box [.bool won, fv, ov])] (.ld false 1) [.ptr 0 1] = some fv := rfl
  have l2 : evP [some (.box [.bool won, fv, ov])] (.ld false 1) [.ptr 0 2] = some ov := rfl
  by_cases hR : InR b.length 1099511627776 F
  · have k2 := key.2 hR
    have e55' := e55 hR
    simp only [k2.2, decide_false] at e69
    have lF := k2.1
    have isA := isL_apl b s F
    have lA := apl_len b s F
    have hRW : RightW b s won F O ↔ ((won = true ∧ O.length = 0 ∧ ∀ i : Nat, i < b.length → 0 ≤ getI (apl b s F) (i : Int)) ∨ (won = false ∧ O.length = b.length ∧ ∀ k : Nat, k < b.length → OkAt b (apl b s F) O k)) := ⟨fun h => h.2, fun h => ⟨hR, h⟩⟩
    generalize apl b s F = A at *
    generalize hvA : AV.rd 1 A.length (iL A) = vA at *
    have fA := isA.free
    cases won with
    | true =>
      repeat' first
 | (apply s_mov; (focus ((conv => lhs; whnf); done)))
 | (apply s_gT; exact rfl)
 | (apply s_gF; exact rfl)
 | (apply s_gFD; exact rfl)
 | (apply c_nil)
 | (apply s_pickT; exact rfl; (focus ((conv => lhs; whnf); done)))
 | (apply s_pickF; exact rfl; (focus ((conv => lhs; whnf); done)))
 | ((first | apply s_lss | apply s_leq | apply s_gtr | apply s_geq | apply s_eql | apply s_neq); exact rfl; all_goals (intro _; try (exfalso; omega)))
 | (apply s_pn; (focus (repeat (first | apply opds_nil | (apply opds_cons; (first | (focus ((conv => lhs; whnf); done)) | exact rfl))))); exact lx _)
 | (apply s_pn; (focus (repeat (first | apply opds_nil | (apply opds_cons; (first | (focus ((conv => lhs; whnf); done)) | exact rfl))))); exact lf _)
 | (apply s_pn; (focus (repeat (first | apply opds_nil | (apply opds_cons; (first | (focus ((conv => lhs; whnf); done)) | exact rfl))))); exact lo _)
 | (apply s_en; (focus (repeat (first | apply opds_nil | (apply opds_cons; (first | (focus ((conv => lhs; whnf); done)) | exact rfl))))); exact ob)
 | (apply s_pn; (focus (repeat (first | apply opds_nil | (apply opds_cons; (first | (focus ((conv => lhs; whnf); done)) | exact rfl))))); exact d0 _)
 | (apply s_pn; (focus (repeat (first | apply opds_nil | (apply opds_cons; (first | (focus ((conv => lhs; whnf); done)) | exact rfl))))); exact d1 _)
 | (apply s_pn; (focus (repeat (first | apply opds_nil | (apply opds_cons; (first | (focus ((conv => lhs; whnf); done)) | exact rfl))))); exact d2 _)
 | (apply s_pn; (focus (repeat (first | apply opds_nil | (apply opds_cons; (first | (focus ((conv => lhs; whnf); done)) | exact rfl))))); exact l0)
 | (apply s_pn; (focus (repeat (first | apply opds_nil | (apply opds_cons; (first | (focus ((conv => lhs; whnf); done)) | exact rfl))))); exact l1)
 | (apply s_pn; (focus (repeat (first | apply opds_nil | (apply opds_cons; (first | (focus ((conv => lhs; whnf); done)) | exact rfl))))); exact l2)
 | (apply s_cn; (focus (repeat (first | apply opds_nil | (apply opds_cons; (first | (focus ((conv => lhs; whnf); done)) | exact rfl))))); exact e69 _)
 | (apply s_cn; (focus (repeat (first | apply opds_nil | (apply opds_cons; (first | (focus ((conv => lhs; whnf); done)) | exact rfl))))); exact e55' _)
 | (apply s_cn; (focus (repeat (first | apply opds_nil | (apply opds_cons; (first | (focus ((conv => lhs; whnf); done)) | exact rfl))))); exact e103 _)
 | (apply c_seq)
 | (apply c_reg)
 | (apply c_skip)
 | (apply c_ret)
 | (apply c_condT; exact rfl)
 | (apply c_condF; exact rfl)
 | (with_reducible apply k_c)
      all_goals refine fin_t (by (conv => lhs; whnf)) (by rfl) ?_
      all_goals first
        | exact leafT (hRW.2 (.inl ⟨rfl, by omega, fun i hi => hmin.1 (by omega) i (by omega)⟩))
        | exact leafF (fun h => by
            rcases hRW.1 h with ⟨-, h1, h2⟩ | ⟨h1, -⟩
            · have := hmin.2 fun j hj => h2 j (by omega)
              omega
            · cases h1)
    | false =>
      repeat' first
 | (apply s_mov; (focus ((conv => lhs; whnf); done)))
 | (apply s_gT; exact rfl)
 | (apply c_nil)
 | (apply s_pickF; exact rfl; (focus ((conv => lhs; whnf); done)))
 | ((first | apply s_lss | apply s_leq | apply s_gtr | apply s_geq | apply s_eql | apply s_neq); exact rfl; all_goals (intro _; try (exfalso; omega)))
 | (apply s_pn; (focus (repeat (first | apply opds_nil | (apply opds_cons; (first | (focus ((conv => lhs; whnf); done)) | exact rfl))))); exact lx _)
 | (apply s_pn; (focus (repeat (first | apply opds_nil | (apply opds_cons; (first | (focus ((conv => lhs; whnf); done)) | exact rfl))))); exact lf _)
 | (apply s_pn; (focus (repeat (first | apply opds_nil | (apply opds_cons; (first | (focus ((conv => lhs; whnf); done)) | exact rfl))))); exact lo _)
 | (apply s_en; (focus (repeat (first | apply opds_nil | (apply opds_cons; (first | (focus ((conv => lhs; whnf); done)) | exact rfl))))); exact ob)
 | (apply s_pn; (focus (repeat (first | apply opds_nil | (apply opds_cons; (first | (focus ((conv => lhs; whnf); done)) | exact rfl))))); exact d0 _)
 | (apply s_pn; (focus (repeat (first | apply opds_nil | (apply opds_cons; (first | (focus ((conv => lhs; whnf); done)) | exact rfl))))); exact d1 _)
 | (apply s_pn; (focus (repeat (first | apply opds_nil | (apply opds_cons; (first | (focus ((conv => lhs; whnf); done)) | exact rfl))))); exact d2 _)
 | (apply s_pn; (focus (repeat (first | apply opds_nil | (apply opds_cons; (first | (focus ((conv => lhs; whnf); done)) | exact rfl))))); exact l0)
 | (apply s_pn; (focus (repeat (first | apply opds_nil | (apply opds_cons; (first | (focus ((conv => lhs; whnf); done)) | exact rfl))))); exact l1)
 | (apply s_pn; (focus (repeat (first | apply opds_nil | (apply opds_cons; (first | (focus ((conv => lhs; whnf); done)) | exact rfl))))); exact l2)
 | (apply s_cn; (focus (repeat (first | apply opds_nil | (apply opds_cons; (first | (focus ((conv => lhs; whnf); done)) | exact rfl))))); exact e69 _)
 | (apply s_cn; (focus (repeat (first | apply opds_nil | (apply opds_cons; (first | (focus ((conv => lhs; whnf); done)) | exact rfl))))); exact e55' _)
 | (apply c_seq)
 | (apply c_reg)
 | (apply c_block)
 | (apply c_skip)
 | (apply c_ret)
 | (apply c_condT; exact rfl)
 | (apply c_condF; exact rfl)
 | (with_reducible apply k_c)
      · have gcO : ∀ i : Nat, gc 0 [x, .ptr 0 0, vA, ov, .int .i64 ((O.length : Nat) : Int), .int .i64 (i : Int)] [some (.box [.bool false, fv, ov])] = some ([x, .ptr 0 0, vA, ov, .int .i64 ((O.length : Nat) : Int), .int .i64 (i : Int)], [some (.box [.bool false, fv, ov])]) := fun i => by simp [go_sem, fx, ff, fo, fA]
        have hOn : O.length = b.length := by omega
        have hRW' : RightW b s false F O ↔ ∀ k : Nat, k < b.length → OkAt b A O k := ⟨fun h => by
          rcases hRW.1 h with ⟨h1, -⟩ | ⟨-, -, h1⟩
          · cases h1
          · exact h1, fun h => hRW.2 (.inr ⟨rfl, hOn, h⟩)⟩
        refine c_loop ?_
        refine loop_gc (σ := Nat) (fun i => [x, .ptr 0 0, vA, ov, .int .i64 ((O.length : Nat) : Int), .int .i64 (i : Int)]) (fun _ => [some (.box [.bool false, fv, ov])]) (fun i => i ≤ O.length ∧ ∀ k : Nat, k < i → OkAt b A O k) (fun i => O.length - i) ?_ _ 0 _ _ ⟨by omega, by omega⟩ (by omega) (gcO 0)
        intro i ⟨hi, hok⟩ K hK
        by_cases hin : i < O.length
        · have htk := isL_tk (h := (i : Int)) hO ⟨by omega, by omega⟩
          have htl : (O.take ((i : Int)).toNat).length = i := by rw [Int.toNat_natCast, List.length_take]; omega
          have e83' := e83 htk (by omega) (getI O (i : Int))
          have hmt := mem_take (O := O) (k := i) (v := getI O (i : Int)) (by omega)
          rw [Int.toNat_natCast] at e83'
          have sl := fun H => p_slc0 (H := H) (q := .i64) (h := (i : Int)) hO ⟨by omega, by omega⟩
          have lt := fun H => p_lenI (H := H) htk
          rw [htl] at lt
          have ft := htk.free
          repeat' first
 | (apply s_mov; (focus ((conv => lhs; whnf); done)))
 | (apply s_gT; exact rfl)
 | (apply s_gF; exact rfl)
 | (apply s_gFD; exact rfl)
 | (apply c_nil)
 | (apply s_pickT; exact rfl; (focus ((conv => lhs; whnf); done)))
 | (apply s_pickF; exact rfl; (focus ((conv => lhs; whnf); done)))
 | (apply s_notT; exact rfl)
 | (apply s_notF; exact rfl)
 | ((first | apply s_lss | apply s_leq | apply s_gtr | apply s_geq | apply s_eql | apply s_neq); exact rfl; all_goals (intro _; try (exfalso; omega)))
 | ((first | apply s_add | apply s_sub); exact rfl; omega)
 | (apply s_pn; (focus (repeat (first | apply opds_nil | (apply opds_cons; (first | (focus ((conv => lhs; whnf); done)) | exact rfl))))); exact lx _)
 | (apply s_pn; (focus (repeat (first | apply opds_nil | (apply opds_cons; (first | (focus ((conv => lhs; whnf); done)) | exact rfl))))); exact d2 _)
 | (apply s_pn; (focus (repeat (first | apply opds_nil | (apply opds_cons; (first | (focus ((conv => lhs; whnf); done)) | exact rfl))))); exact l2)
 | (apply s_pn; (focus (repeat (first | apply opds_nil | (apply opds_cons; (first | (focus ((conv => lhs; whnf); done)) | exact rfl))))); exact sl _)
 | (apply s_pn; (focus (repeat (first | apply opds_nil | (apply opds_cons; (first | (focus ((conv => lhs; whnf); done)) | exact rfl))))); exact lt _)
 | (apply isE; refine s_cB (by (focus (repeat (first | apply opds_nil | (apply opds_cons; (first | (focus ((conv => lhs; whnf); done)) | exact rfl)))))) (e53 _ _ _ _) (fun _ => ?_) (fun _ => ?_))
 | (apply isE; refine s_cB (by (focus (repeat (first | apply opds_nil | (apply opds_cons; (first | (focus ((conv => lhs; whnf); done)) | exact rfl)))))) (e83' _) (fun _ => ?_) (fun _ => ?_))
 | (apply s_idx; (focus ((conv => lhs; whnf); done)); exact rfl; (first | assumption | (apply IsLL.at; assumption; omega)); omega)
 | (apply s_ldI; exact rfl; omega)
 | (apply c_seq)
 | (apply c_reg)
 | (apply c_block)
 | (apply c_skip)
 | (apply c_ret)
 | (apply c_condT; exact rfl)
 | (apply c_condF; exact rfl)
 | (with_reducible apply k_c)
          all_goals first
            | (refine fin_t (by (conv => lhs; whnf)) (by rfl) (leafF fun h => ?_)
               have h1 := hRW'.1 h i (by omega)
               have h2 := h1.1
               have h3 := h1.2.1
               first
                 | omega
                 | (obtain ⟨j, hj, e⟩ := hmt.1 (by assumption)
                    exact h3 j hj e))
            | skip
          rename_i hin1 hnm
          have hV : 0 ≤ getI O (i : Int) ∧ getI O (i : Int) < b.length := by omega
          have hne : ∀ j : Nat, j < i → getI O (j : Int) ≠ getI O (i : Int) := fun j hj e => hnm (hmt.2 ⟨j, hj, e⟩)
          have hT : ∀ k : Nat, k < i → getI (O.take i) (k : Int) = getI O (k : Int) := fun k hk => by
            rw [getI_nat, getI_nat]
            simp [List.getD, List.getElem?_take, hk]
          rw [Int.toNat_natCast] at htk htl
          have hsum : sumTo (fun j => getI (getLL b (getI O (i : Int))) (getI O (j : Int))) i = sumTo (fun j => getI (getLL b (getI O (i : Int))) (getI (O.take i) (j : Int))) i := sumTo_congr fun j hj => by rw [hT j hj]
          have hOk : OkAt b A O i ↔ getI A (getI O (i : Int)) < sumTo (fun j => getI (getLL b (getI O (i : Int))) (getI (O.take i) (j : Int))) i := by
            rw [← hsum]
            exact ⟨fun h => h.2.2, fun h => ⟨hV, hne, h⟩⟩
          have hTr : ∀ k : Nat, k < i → 0 ≤ getI (O.take i) (k : Int) ∧ getI (O.take i) (k : Int) < b.length := fun k hk => by
            rw [hT k hk]; exact (hok k hk).1
          have hw : getI O (i : Int) = (((getI O (i : Int)).toNat : Nat) : Int) := by omega
          have hrl := hbd.row (getI O (i : Int)).toNat (by omega)
          rw [← hw] at hrl
          have hval : ∀ k : Nat, k < i → 0 ≤ getI (getLL b (getI O (i : Int))) (getI (O.take i) (k : Int)) ∧ getI (getLL b (getI O (i : Int))) (getI (O.take i) (k : Int)) ≤ 3 := fun k hk => by
            have h1 := hTr k hk
            have h2 : getI (O.take i) (k : Int) = (((getI (O.take i) (k : Int)).toNat : Nat) : Int) := by omega
            rw [hw, h2]
            exact hbd.val _ _ (by omega) (by omega)
          have hrow := hx.at (i := getI O (i : Int)) ⟨by omega, by omega⟩
          have hsl := fun (k : Nat) (hk : k ≤ i) => sumTo_le (f := fun j => getI (getLL b (getI O (i : Int))) (getI (O.take i) (j : Int))) (M := 3) (n := k) fun j hj => by have := hval j (by omega); omega
          generalize getI O (i : Int) = V at *
          generalize O.take i = T at *
          generalize tkL ov (i : Int) = tv at *
          have gcI : ∀ (k : Nat) (z : Int), gc 0 [x, .ptr 0 0, vA, .int .i64 V, .int .i64 z, ov, .int .i64 ((O.length : Nat) : Int), .int .i64 (i : Int), tv, .int .i64 (i : Int), .int .i64 (k : Int)] [some (.box [.bool false, fv, ov])] = some ([x, .ptr 0 0, vA, .int .i64 V, .int .i64 z, ov, .int .i64 ((O.length : Nat) : Int), .int .i64 (i : Int), tv, .int .i64 (i : Int), .int .i64 (k : Int)], [some (.box [.bool false, fv, ov])]) := fun k z => by simp [go_sem, fx, ff, fo, fA, ft]
          have gcJ : ∀ (z : Int), gc 0 [x, .ptr 0 0, vA, .int .i64 V, .int .i64 z, ov, .int .i64 ((O.length : Nat) : Int), .int .i64 (i : Int)] [some (.box [.bool false, fv, ov])] = some ([x, .ptr 0 0, vA, .int .i64 V, .int .i64 z, ov, .int .i64 ((O.length : Nat) : Int), .int .i64 (i : Int)], [some (.box [.bool false, fv, ov])]) := fun z => by simp [go_sem, fx, ff, fo, fA]
          refine c_loop ?_
          refine loop_gc (σ := Nat) (fun k => [x, .ptr 0 0, vA, .int .i64 V, .int .i64 (sumTo (fun j => getI (getLL b V) (getI T (j : Int))) k), ov, .int .i64 ((O.length : Nat) : Int), .int .i64 (i : Int), tv, .int .i64 (i : Int), .int .i64 (k : Int)]) (fun _ => [some (.box [.bool false, fv, ov])]) (fun k => k ≤ i) (fun k => i - k) ?_ _ 0 _ _ (by omega) (by omega) (gcI 0 0)
          intro k hk K2 hK2
          have hsk := hsl k hk
          have hK21 := hK2 (k + 1)
          simp only [sumTo] at hK21
          by_cases hki : k < i
          · have h1 := hTr k hki
            have h2 := hval k hki
            repeat' first
 | (apply s_mov; (focus ((conv => lhs; whnf); done)))
 | (apply c_nil)
 | ((first | apply s_lss | apply s_leq | apply s_gtr | apply s_geq | apply s_eql | apply s_neq); exact rfl; all_goals (intro _; try (exfalso; omega)))
 | ((first | apply s_add | apply s_sub); exact rfl; omega)
 | (apply s_idx; (focus ((conv => lhs; whnf); done)); exact rfl; (first | assumption | (apply IsLL.at; assumption; omega)); omega)
 | (apply s_idxLL; (focus ((conv => lhs; whnf); done)); exact rfl; assumption; omega)
 | (apply s_ldI; exact rfl; omega)
 | (apply s_ldLL; exact rfl; assumption; omega)
 | (apply c_seq)
 | (apply c_reg)
 | (apply c_block)
 | (apply c_skip)
 | (apply c_condT; exact rfl)
 | (with_reducible apply k_c)
            exact hK21 _ _ (by omega) (by omega) (gcI (k + 1) _)
          · obtain rfl : k = i := by omega
            have hvA : IsL vA A := isA
            repeat' first
 | (apply c_nil)
 | ((first | apply s_lss | apply s_leq | apply s_gtr | apply s_geq | apply s_eql | apply s_neq); exact rfl; all_goals (intro _; try (exfalso; omega)))
 | (apply c_seq)
 | (apply c_reg)
 | (apply c_exitH)
 | (apply c_condF; exact rfl)
 | (with_reducible apply k_c)
            apply c_pre
            · exact gcJ _
            repeat' first
 | (apply s_mov; (focus ((conv => lhs; whnf); done)))
 | (apply c_nil)
 | ((first | apply s_lss | apply s_leq | apply s_gtr | apply s_geq | apply s_eql | apply s_neq); exact rfl; all_goals (intro _; try (exfalso; omega)))
 | (apply s_idx; (focus ((conv => lhs; whnf); done)); exact rfl; (first | assumption | (apply IsLL.at; assumption; omega)); omega)
 | (apply s_ldI; exact rfl; omega)
 | (apply c_seq)
 | (apply c_reg)
 | (apply c_skip)
 | (apply c_ret)
 | (apply c_condT; exact rfl)
 | (apply c_condF; exact rfl)
 | (with_reducible apply k_c)
            · refine fin_t (by (conv => lhs; whnf)) (by rfl) (leafF fun h => ?_)
              have := hOk.1 (hRW'.1 h k (by omega))
              omega
            · apply c_pre (vs := [x, .ptr 0 0, vA, ov, .int .i64 ((O.length : Nat) : Int), .int .i64 (k : Int)]) (H' := [some (.box [.bool false, fv, ov])])
              · exact gcO k
              repeat' first
 | (apply s_mov; (focus ((conv => lhs; whnf); done)))
 | (apply c_nil)
 | ((first | apply s_add | apply s_sub); exact rfl; omega)
 | (apply c_reg)
              refine hK (k + 1) _ _ ⟨by omega, fun j hj => ?_⟩ (by omega) (gcO (k + 1))
              rcases (by omega : j < k ∨ j = k) with h | rfl
              · exact hok j h
              · exact hOk.2 (by omega)
        · obtain rfl : i = O.length := by omega
          repeat' first
 | (apply s_mov; (focus ((conv => lhs; whnf); done)))
 | (apply c_nil)
 | ((first | apply s_lss | apply s_leq | apply s_gtr | apply s_geq | apply s_eql | apply s_neq); exact rfl; all_goals (intro _; try (exfalso; omega)))
 | (apply c_seq)
 | (apply c_reg)
 | (apply c_exitH)
 | (apply c_ret)
 | (apply c_condF; exact rfl)
 | (apply c_preF; (focus (repeat (first | apply looks_nil | (apply looks_cons; (focus ((conv => lhs; whnf); done)))))); (focus (simp [idFreeL, AV.idFree, *]; done)))
 | (with_reducible apply k_c)
          all_goals exact fin_t (by (conv => lhs; whnf)) (by rfl) (leafT (hRW'.2 fun k hk => hok k (by omega)))
      · refine fin_t (by (conv => lhs; whnf)) (by rfl) (leafF fun h => ?_)
        rcases hRW.1 h with ⟨h1, -⟩ | ⟨-, h1, -⟩
        · cases h1
        · omega
  · have hnr : ¬ RightW b s won F O := fun h => hR h.1
    repeat' first
 | (apply s_mov; (focus ((conv => lhs; whnf); done)))
 | (apply s_gT; exact rfl)
 | (apply s_gF; exact rfl)
 | (apply s_gFD; exact rfl)
 | (apply c_nil)
 | (apply s_pickT; exact rfl; (focus ((conv => lhs; whnf); done)))
 | (apply s_pickF; exact rfl; (focus ((conv => lhs; whnf); done)))
 | ((first | apply s_lss | apply s_leq | apply s_gtr | apply s_geq | apply s_eql | apply s_neq); exact rfl; all_goals (intro _; try (exfalso; omega)))
 | (apply s_pn; (focus (repeat (first | apply opds_nil | (apply opds_cons; (first | (focus ((conv => lhs; whnf); done)) | exact rfl))))); exact lx _)
 | (apply s_pn; (focus (repeat (first | apply opds_nil | (apply opds_cons; (first | (focus ((conv => lhs; whnf); done)) | exact rfl))))); exact lf _)
 | (apply s_en; (focus (repeat (first | apply opds_nil | (apply opds_cons; (first | (focus ((conv => lhs; whnf); done)) | exact rfl))))); exact ob)
 | (apply s_pn; (focus (repeat (first | apply opds_nil | (apply opds_cons; (first | (focus ((conv => lhs; whnf); done)) | exact rfl))))); exact d1 _)
 | (apply s_pn; (focus (repeat (first | apply opds_nil | (apply opds_cons; (first | (focus ((conv => lhs; whnf); done)) | exact rfl))))); exact l1)
 | (apply isE; refine s_cB (by (focus (repeat (first | apply opds_nil | (apply opds_cons; (first | (focus ((conv => lhs; whnf); done)) | exact rfl)))))) (e69 _) (fun _ => ?_) (fun _ => ?_))
 | (apply c_seq)
 | (apply c_reg)
 | (apply c_skip)
 | (apply c_ret)
 | (apply c_condT; exact rfl)
 | (apply c_condF; exact rfl)
 | (with_reducible apply k_c)
    all_goals first
      | (refine fin_t (by (conv => lhs; whnf)) (by rfl) (leafF hnr); done)
      | (exfalso; exact hR (key.1 ⟨by omega, by assumption⟩))
end Go.AM.Ch

set_option linter.unusedSectionVars false
set_option linter.unusedVariables false
set_option linter.unusedSimpArgs false
namespace Go.AM.Ch
set_option maxHeartbeats 8000000
theorem e_stA' {call : CallF} {H : Heap} {id n : Nat} {c vs : List AV} (hH : H[id]? = some (some (.box c))) (h1 : (AV.agg vs).cells = vs) (h2 : vs.length = n) (h3 : oneL vs = true) (h4 : c.length = n) : evE call H (.st n) [.ptr id 0, .agg vs] = some (.undef, H.set id (some (.box vs))) := by
  subst h2
  simp [evE, stAt, hH, h1, h3, h4, putRow, List.drop_of_length_le]
/-- won: no debt is left at 0 -/
noncomputable def wonB (b : List (List Int)) (s : List Int) : Bool := decide (0 ≤ getI (redL b s 0) ((0 : Nat) : Int))
/-- the order in which all burns -/
noncomputable def ordB (b : List (List Int)) (s : List Int) : List Int := nI (burnL b (redL b s 0) 0)
theorem ordB_len {b : List (List Int)} (hB : IsB b) (s : List Int) : (ordB b s).length = b.length := by
  have hq : 0 < b.length := hB.n1
  have hr := redL_red hB s hq
  obtain ⟨h1, h2⟩ := burnL_ok (b := b) (l := redL b s 0) hq
  have hl := h1.len
  have hleg := burn_leg (b := b) (l := redL b s 0) hq
  unfold ordB
  rw [nI_len]
  apply Classical.byContradiction
  intro hne
  have hqm : (fun u => !(burnL b (redL b s 0) 0).contains u) 0 = false := by
    have : 0 ∈ burnL b (redL b s 0) 0 := List.mem_of_getElem? h1.hd
    simp [this]
  have hex : ∃ w, w < b.length ∧ (fun u => !(burnL b (redL b s 0) 0).contains u) w = true := by
    apply Classical.byContradiction
    intro hc
    have hall : ∀ w ∈ List.range b.length, w ∈ burnL b (redL b s 0) 0 := fun w hw => by
      apply Classical.byContradiction
      intro hm
      exact hc ⟨w, List.mem_range.1 hw, by simp [hm]⟩
    have := nodup_len List.nodup_range hall
    rw [List.length_range] at this
    omega
  obtain ⟨v, hv, hs, hlt⟩ := hr.2 _ hqm hex
  have := hleg v hv hs
  omega
/-- win's winning is right -/
theorem win_right {b : List (List Int)} (hB : IsB b) {s : List Int} (hs : InR b.length 1048576 s) : RightW b s (wonB b s) (redT b s 0) (if wonB b s = true then [] else ordB b s) := by
  have hq : 0 < b.length := hB.n1
  have hr := redL_red hB s hq
  have hRb := redT_st hB hs hq
  have hRl := (redT_ok hB s hq).1
  refine ⟨⟨hRl, fun v hv => ?_⟩, ?_⟩
  · obtain ⟨k, hk, e⟩ := List.getElem_of_mem hv
    have := hRb k (by omega)
    rw [getI_nat] at this
    have h2 : (redT b s 0).getD k 0 = v := by simp [List.getD, hk, e]
    rw [h2] at this
    omega
  · show (_ ∧ _ ∧ ∀ i : Nat, i < b.length → 0 ≤ getI (redL b s 0) (i : Int)) ∨ (_ ∧ _ ∧ ∀ k : Nat, k < b.length → OkAt b (redL b s 0) _ k)
    cases hw : wonB b s with
    | true =>
      left
      refine ⟨rfl, by simp, fun i hi => ?_⟩
      by_cases e : i = 0
      · subst e
        unfold wonB at hw
        simpa using hw
      · exact hr.1 i hi e
    | false =>
      right
      have hol := ordB_len hB s
      refine ⟨rfl, by simpa using hol, fun k hk => ?_⟩
      simp only [Bool.false_eq_true, if_false]
      obtain ⟨h1, -⟩ := burnL_ok (b := b) (l := redL b s 0) hq
      have hlow : ¬ 0 ≤ getI (redL b s 0) ((0 : Nat) : Int) := by unfold wonB at hw; simpa using hw
      unfold ordB at hol ⊢
      generalize burnL b (redL b s 0) 0 = ord at *
      rw [nI_len] at hol
      have hko : k < ord.length := by omega
      have hkl := h1.lt _ (List.getElem_mem hko)
      unfold OkAt
      rw [nI_get hko]
      refine ⟨by omega, fun j hj => ?_, ?_⟩
      · rw [nI_get (by omega)]
        have := (List.pairwise_iff_getElem.1 h1.nd) j k (by omega) hko hj
        omega
      · by_cases e : k = 0
        · subst e
          have h0 := h1.hd
          rw [List.getElem?_eq_getElem hko] at h0
          simp only [Option.some.injEq] at h0
          rw [h0]
          simp only [sumTo]
          omega
        · have := h1.low k (by omega) hko
          unfold brn at this
          rw [List.length_take, Nat.min_eq_left (by omega)] at this
          have e2 : sumTo (fun j => getI (getLL b ((ord[k] : Nat) : Int)) (getI (nI (ord.take k)) (j : Int))) k = sumTo (fun j => getI (getLL b ((ord[k] : Nat) : Int)) (getI (nI ord) (j : Int))) k := sumTo_congr fun j hj => by
            rw [nI_get (by rw [List.length_take]; omega), nI_get (by omega)]
            simp
          rw [e2] at this
          exact this
theorem c99o {args : List AV} {x y : AV} {b : List (List Int)} {l : List Int} {q : Nat} (hx : IsLL x b) (hy : IsL y l) (hB : IsB b) (hq : q < b.length) (hln : l.length = b.length) {m : Nat} (hm : 300 ≤ m) (H : Heap) (ha : frzL H 40 args = some [x, y, .int .i64 (q : Int)]) :
    callPure (evF tab it m) false 99 args H = some (.tup [.sl H.length 1 0 b.length, .sl (H.length + 1) 1 0 (burnL b l q).length], H ++ [some (.data (bL (leftB b.length (burnL b l q)))), some (.data (iL (nI (burnL b l q))))]) := by
  unfold callPure
  rw [ha, Option.bind_some, f99 hx hy hB hq hln hm, Option.bind_some]
  simp [AV.hasRd, hasRdL, HO.hasRd, iL_noRd, bL_noRd, shiftH, AV.ren, renL, idFreeL, idf_sl, renH, renO]
theorem fin_cell3 {p id : Nat} {env : Env} {H H' : Heap} {a c d r : AV} (h : look env p = .ptr id 0) (hH : H.cells? id = some [a, c, d]) (hg : gc 0 [.agg [a, c, d]] H = some ([r], H')) : finish 0 [.cell p true 3] env H = some (r, H') := by
  simp [finish, ress, resOf, h, ldc, getRow, hH, wholeOf, tupOf, hg]
theorem fin_cell3t {p id n : Nat} {env : Env} {H H' : Heap} {a c d v r : AV} (h : look env p = .ptr id 0) (hv : look env n = v) (hH : H.cells? id = some [a, c, d]) (hg : gc 0 [.tup [.agg [a, c, d], v]] H = some ([r], H')) : finish 0 [.cell p true 3, .t n] env H = some (r, H') := by
  simp [finish, ress, resOf, h, hv, ldc, getRow, hH, wholeOf, tupOf, hg]
/-- win -/
theorem f71 {x y : AV} {b : List (List Int)} {s : List Int} (hx : IsLL x b) (hy : IsL y s) (hB : IsB b) (hs : InR b.length 1048576 s) {m : Nat} (hm : smK + 23 ≤ m) :
    evF tab it m 71 [x, y] [] = some (.agg [.bool (wonB b s), .sl 0 1 0 b.length, if wonB b s = true then .nilS else .sl 1 1 0 b.length], some (.data (iL (redT b s 0))) :: (if wonB b s = true then [] else [some (.data (iL (ordB b s)))])) := by
  have hm1 : 100000 ≤ m := by have := smK_big; omega
  obtain ⟨m, rfl⟩ : ∃ j, m = j + 1 := ⟨m - 1, by omega⟩
  have fx := hx.free; have fy := hy.free
  have hn1 := hB.n1; have hn2 := hB.n2
  have hRl := (redT_ok hB s hn1).1
  have hRb := redT_st hB hs hn1
  have e54 := fun H => c54o (q := 0) hx hy hB hs hn1 (m := m) (by omega) H
  have e55 := c55p hx hy (rd_isL hRl) hB.bd hs.1 hRl (fun v hv => by have := hRb v hv; omega) (fun v hv => by have := inR_get hs v hv; omega) (m := m) (by omega) [some (.box [.bool false, .nilS, .nilS]), some (.data (iL (redT b s 0)))] (args := [x, y, .sl 1 1 0 b.length]) (frzL_cons (frzV_of fx) (frzL_cons (frzV_of fy) (frzL_cons (frz_sl rfl hRl) frzL_nil)))
  rw [show apl b s (redT b s 0) = redL b s 0 from rfl] at e55
  have hAl : (redL b s 0).length = b.length := redL_len b s 0
  have iA := rd_isL hAl
  have fA := iA.free
  have e99 := c99o (q := 0) hx iA hB hn1 hAl (m := m) (by omega) [some (.box [.bool false, .nilS, .nilS]), some (.data (iL (redT b s 0)))] (args := [x, .rd 1 b.length (iL (redL b s 0)), .int .i64 ((0 : Nat) : Int)]) (frzL_cons (frzV_of fx) (frzL_cons (frzV_of fA) (frzL_cons rfl frzL_nil)))
  have hol := ordB_len hB s
  have hob : nI (burnL b (redL b s 0) 0) = ordB b s := rfl
  rw [hob] at e99
  rw [show (burnL b (redL b s 0) 0).length = b.length from by rw [← nI_len, hob]; exact hol] at e99
  have hw : wonB b s = decide (0 ≤ getI (redL b s 0) 0) := rfl
  generalize leftB b.length (burnL b (redL b s 0) 0) = LB at *
  generalize redT b s 0 = R at *
  generalize ordB b s = O at *
  generalize wonB b s = W at *
  clear hm
  refine f_enter rfl rfl ?_
  generalize evF tab it m = call at *
  have al : ∀ H, evE call H (.alloc false [.bool false, .nilS, .nilS]) [] = some (.ptr H.length 0, H ++ [some (.box [.bool false, .nilS, .nilS])]) := fun H => rfl
  have bl1 : ∀ H, evP H (.bld [.bool false, .nilS, .nilS] [(0, 1), (1, 1)]) [.bool true, .sl 1 1 0 b.length] = some (.agg [.bool true, .sl 1 1 0 b.length, .nilS]) := fun H => rfl
  have bl2 : ∀ H, evP H (.bld [.bool false, .nilS, .nilS] [(1, 1), (2, 1)]) [.sl 1 1 0 b.length, .sl 3 1 0 b.length] = some (.agg [.bool false, .sl 1 1 0 b.length, .sl 3 1 0 b.length]) := fun H => rfl
  generalize redL b s 0 = A at *
  generalize hvA : AV.rd 1 b.length (iL A) = vA at *
  by_cases h0 : 0 ≤ getI A 0
  · obtain rfl : W = true := by rw [hw]; simpa using h0
    repeat' first
 | (apply s_mov; (focus ((conv => lhs; whnf); done)))
 | (apply c_nil)
 | ((first | apply s_lss | apply s_leq | apply s_gtr | apply s_geq | apply s_eql | apply s_neq); exact rfl; all_goals (intro _; try (exfalso; omega)))
 | (apply s_en; (focus (repeat (first | apply opds_nil | (apply opds_cons; (first | (focus ((conv => lhs; whnf); done)) | exact rfl))))); exact al _)
 | (apply s_en; (focus (repeat (first | apply opds_nil | (apply opds_cons; (first | (focus ((conv => lhs; whnf); done)) | exact rfl))))); exact e54 _)
 | (apply s_cn; (focus (repeat (first | apply opds_nil | (apply opds_cons; (first | (focus ((conv => lhs; whnf); done)) | exact rfl))))); exact e55)
 | (apply s_pn; (focus (repeat (first | apply opds_nil | (apply opds_cons; (first | (focus ((conv => lhs; whnf); done)) | exact rfl))))); exact bl1 _)
 | (apply s_st; (focus (repeat (first | apply opds_nil | (apply opds_cons; (first | (focus ((conv => lhs; whnf); done)) | exact rfl))))); exact e_stA' rfl rfl rfl rfl rfl)
 | (apply s_idx; (focus ((conv => lhs; whnf); done)); exact rfl; (first | assumption | (apply IsLL.at; assumption; omega)); omega)
 | (apply s_ldI; exact rfl; omega)
 | (apply c_seq)
 | (apply c_reg)
 | (apply c_ret)
 | (apply c_condT; exact rfl)
 | (with_reducible apply k_c)
    all_goals first
      | (exfalso; omega)
      | skip
    all_goals exact fin_cell3 (by rfl) (by rfl) (by rfl)
  · obtain rfl : W = false := by rw [hw]; simpa using h0
    repeat' first
 | (apply s_mov; (focus ((conv => lhs; whnf); done)))
 | (apply c_nil)
 | ((first | apply s_lss | apply s_leq | apply s_gtr | apply s_geq | apply s_eql | apply s_neq); exact rfl; all_goals (intro _; try (exfalso; omega)))
 | (apply s_en; (focus (repeat (first | apply opds_nil | (apply opds_cons; (first | (focus ((conv => lhs; whnf); done)) | exact rfl))))); exact al _)
 | (apply s_en; (focus (repeat (first | apply opds_nil | (apply opds_cons; (first | (focus ((conv => lhs; whnf); done)) | exact rfl))))); exact e54 _)
 | (apply s_cn; (focus (repeat (first | apply opds_nil | (apply opds_cons; (first | (focus ((conv => lhs; whnf); done)) | exact rfl))))); exact e55)
 | (apply s_en; (focus (repeat (first | apply opds_nil | (apply opds_cons; (first | (focus ((conv => lhs; whnf); done)) | exact rfl))))); exact e99)
 | (apply s_pn; (focus (repeat (first | apply opds_nil | (apply opds_cons; (first | (focus ((conv => lhs; whnf); done)) | exact rfl))))); exact bl2 _)
 | (apply s_st; (focus (repeat (first | apply opds_nil | (apply opds_cons; (first | (focus ((conv => lhs; whnf); done)) | exact rfl))))); exact e_stA' rfl rfl rfl rfl rfl)
 | (apply s_idx; (focus ((conv => lhs; whnf); done)); exact rfl; (first | assumption | (apply IsLL.at; assumption; omega)); omega)
 | (apply s_ldI; exact rfl; omega)
 | (apply s_pd; (focus ((conv => lhs; whnf); done)))
 | (apply c_seq)
 | (apply c_reg)
 | (apply c_skip)
 | (apply c_ret)
 | (apply c_condF; exact rfl)
 | (with_reducible apply k_c)
    all_goals first
      | (exfalso; omega)
      | skip
    all_goals exact fin_cell3 (by rfl) (by rfl) (by rfl)
theorem c71o {x y : AV} {b : List (List Int)} {s : List Int} (hx : IsLL x b) (hy : IsL y s) (hB : IsB b) (hs : InR b.length 1048576 s) {m : Nat} (hm : smK + 23 ≤ m) (H : Heap) :
    callPure (evF tab it m) false 71 [x, y] H = some (.agg [.bool (wonB b s), .sl H.length 1 0 b.length, if wonB b s = true then .nilS else .sl (H.length + 1) 1 0 b.length], H ++ some (.data (iL (redT b s 0))) :: (if wonB b s = true then [] else [some (.data (iL (ordB b s)))])) := by
  have ff : idFreeL [x, y] = true := by simp [idFreeL, AV.idFree, hx.free, hy.free]
  have f := f71 hx hy hB hs hm
  cases hw : wonB b s <;> rw [hw] at f <;> simp [callPure, frzL_free H 40 [x, y] (by simp) ff, f, ff, AV.hasRd, hasRdL, HO.hasRd, iL_noRd, shiftH, AV.ren, renL, idFreeL, idf_sl, AV.idFree, renH, renO]
/-- Win -/
theorem f39 {x y : AV} {b : List (List Int)} {s : List Int} (hx : IsLL x b) (hy : IsL y s) (hB : IsB b) (hs : InR b.length 1048576 s) {m : Nat} (hm : smK + 24 ≤ m) :
    evF tab it m 39 [x, y] [] = some (.tup [.agg [.bool (wonB b s), .sl 0 1 0 b.length, if wonB b s = true then .nilS else .sl 1 1 0 b.length], .int .i64 0], some (.data (iL (redT b s 0))) :: (if wonB b s = true then [] else [some (.data (iL (ordB b s)))])) := by
  have hm1 : 100000 ≤ m := by have := smK_big; omega
  obtain ⟨m, rfl⟩ : ∃ j, m = j + 1 := ⟨m - 1, by omega⟩
  have fx := hx.free; have fy := hy.free
  have hn1 := hB.n1; have hn2 := hB.n2
  have hsl := hs.1
  have e52 := fun H => c52 hx hy (by omega) (by omega) (m := m) (by omega) H
  rw [if_pos ⟨hB, hs⟩] at e52
  have e71 := fun H => c71o hx hy hB hs (m := m) (by omega) H
  have al : ∀ call H, evE call H (.alloc false [.bool false, .nilS, .nilS]) [] = some (.ptr H.length 0, H ++ [some (.box [.bool false, .nilS, .nilS])]) := fun call H => rfl
  clear hm
  refine f_enter rfl rfl ?_
  generalize evF tab it m = call at *
  generalize redT b s 0 = R at *
  generalize ordB b s = O at *
  cases hw : wonB b s <;> rw [hw] at e71 <;> simp only [if_true, Bool.false_eq_true, if_false] at e71 ⊢
  all_goals
    repeat' first
 | (apply s_mov; (focus ((conv => lhs; whnf); done)))
 | (apply c_nil)
 | ((first | apply s_lss | apply s_leq | apply s_gtr | apply s_geq | apply s_eql | apply s_neq); exact rfl; all_goals (intro _; try (exfalso; omega)))
 | (apply s_en; (focus (repeat (first | apply opds_nil | (apply opds_cons; (first | (focus ((conv => lhs; whnf); done)) | exact rfl))))); exact al _ _)
 | (apply s_cn; (focus (repeat (first | apply opds_nil | (apply opds_cons; (first | (focus ((conv => lhs; whnf); done)) | exact rfl))))); exact e52 _)
 | (apply s_en; (focus (repeat (first | apply opds_nil | (apply opds_cons; (first | (focus ((conv => lhs; whnf); done)) | exact rfl))))); exact e71 _)
 | (apply s_st; (focus (repeat (first | apply opds_nil | (apply opds_cons; (first | (focus ((conv => lhs; whnf); done)) | exact rfl))))); exact e_stA' rfl rfl rfl rfl rfl)
 | (apply c_seq)
 | (apply c_reg)
 | (apply c_skip)
 | (apply c_ret)
 | (apply c_condF; exact rfl)
 | (with_reducible apply k_c)
  all_goals first
    | (exfalso; omega)
    | exact fin_cell3t (by rfl) (by rfl) (by rfl) (by rfl)
theorem f39e {x y : AV} {b : List (List Int)} {s : List Int} (hx : IsLL x b) (hy : IsL y s) (hl : b.length < 100) (hsl : s.length ≤ 1000) (h : ¬ (IsB b ∧ InR b.length 1048576 s)) {m : Nat} (hm : 5000 ≤ m) :
    evF tab it m 39 [x, y] [] = some (.tup [.agg [.bool false, .nilS, .nilS], .int .i64 2], []) := by
  obtain ⟨m, rfl⟩ : ∃ j, m = j + 1 := ⟨m - 1, by omega⟩
  have fx := hx.free; have fy := hy.free
  have e52 := fun H => c52 hx hy hl hsl (m := m) (by omega) H
  rw [if_neg h] at e52
  have al : ∀ call H, evE call H (.alloc false [.bool false, .nilS, .nilS]) [] = some (.ptr H.length 0, H ++ [some (.box [.bool false, .nilS, .nilS])]) := fun call H => rfl
  have bl0 : ∀ H, evP H (.bld [.bool false, .nilS, .nilS] []) [] = some (.agg [.bool false, .nilS, .nilS]) := fun H => rfl
  refine f_enter rfl rfl ?_
  generalize evF tab it m = call at *
  repeat' first
 | (apply s_mov; (focus ((conv => lhs; whnf); done)))
 | (apply c_nil)
 | ((first | apply s_lss | apply s_leq | apply s_gtr | apply s_geq | apply s_eql | apply s_neq); exact rfl; all_goals (intro _; try (exfalso; omega)))
 | (apply s_en; (focus (repeat (first | apply opds_nil | (apply opds_cons; (first | (focus ((conv => lhs; whnf); done)) | exact rfl))))); exact al _ _)
 | (apply s_cn; (focus (repeat (first | apply opds_nil | (apply opds_cons; (first | (focus ((conv => lhs; whnf); done)) | exact rfl))))); exact e52 _)
 | (apply s_pn; (focus (repeat (first | apply opds_nil | (apply opds_cons; (first | (focus ((conv => lhs; whnf); done)) | exact rfl))))); exact bl0 _)
 | (apply s_st; (focus (repeat (first | apply opds_nil | (apply opds_cons; (first | (focus ((conv => lhs; whnf); done)) | exact rfl))))); exact e_stA' rfl rfl rfl rfl rfl)
 | (apply c_seq)
 | (apply c_reg)
 | (apply c_ret)
 | (apply c_condT; exact rfl)
 | (with_reducible apply k_c)
  all_goals first
    | (exfalso; omega)
    | exact fin_cell3t (by rfl) (by rfl) (by rfl) (by rfl)
/-- the winning, to be read only -/
theorem c39 {x y : AV} {b : List (List Int)} {s : List Int} (hx : IsLL x b) (hy : IsL y s) (hB : IsB b) (hs : InR b.length 1048576 s) {m : Nat} (hm : smK + 24 ≤ m) (H : Heap) :
    callPure (evF tab it m) true 39 [x, y] H = some (.tup [.agg [.bool (wonB b s), .rd 1 b.length (iL (redT b s 0)), if wonB b s = true then .nilS else .rd 1 b.length (iL (ordB b s))], .int .i64 0], H) := by
  refine callPure_frz (by simp [idFreeL, AV.idFree, hx.free, hy.free]) (by simp) (f39 hx hy hB hs hm) ?_
  have h1 := iL_len (redT b s 0)
  rw [(redT_ok hB s hB.n1).1] at h1
  have h2 := iL_len (ordB b s)
  rw [ordB_len hB s] at h2
  cases hw : wonB b s <;> simp [frzV, frzL, idFreeL, AV.idFree, Heap.data?, h1, h2, List.take_of_length_le]
end Go.AM.Ch
