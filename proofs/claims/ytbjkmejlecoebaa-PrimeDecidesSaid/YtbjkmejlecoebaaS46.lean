/- A part of the proof: S46. -/
import Derived.Test.YtbjkmejlecoebaaS45
set_option linter.unusedSectionVars false
set_option linter.unusedVariables false
set_option linter.unusedSimpArgs false
namespace Go.AM.Pr
attribute [local go_sem] gc subHeap reach_skip ren_free reach_new reach_newp reach_end rangeL roots boxCells nodupB posOf renL AV.ren pickO renH renO looks look bindEnv envOf reach_int reach_bool reach_nilS reach_rd putRow cells_sl cells_int cells_bool cells_nilS cells_rd cells_agg reach_agg reach_tup idFreeL idf_sl idf_ptr idf_int idf_bool idf_nilS idf_rd reach_fn reach_mp cells_fn cells_ptr cells_mp idf_mp idf_fn idf_agg idf_tup
open Go.AM.Num
set_option maxHeartbeats 4000000
abbrev evZ : Nat → CallF := evS spS tab it
theorem callsZ (n : Nat) : CallOk Go.Proofs.Try.prog (evZ n) := evS_sound spS_ok mix it_ok tok tab_ok n
theorem f56 {M : List (AV × AV)} {m : Nat} (hm : 1 ≤ m) : evF tab it m 56 [.mp 0] [some (.map M)] = some (.fn 69 [.ptr 1 0], [some (.map M), some (.box [.mp 0])]) := by
  obtain ⟨m, rfl⟩ : ∃ j, m = j + 1 := ⟨m - 1, by omega⟩
  refine f_enterH rfl rfl ?_
  generalize evF tab it m = call at *
  have ob : evE call [some (.map M)] (.box false) [.mp 0] = some (.ptr 1 0, [some (.map M), some (.box [.mp 0])]) := rfl
  repeat' first
 | (apply s_mov; (focus ((conv => lhs; whnf); done)))
 | (apply c_nil)
 | (apply s_en; (focus (repeat (first | apply opds_nil | (apply opds_cons; (first | (focus ((conv => lhs; whnf); done)) | exact rfl))))); exact ob)
 | (apply s_pn; (focus (repeat (first | apply opds_nil | (apply opds_cons; (first | (focus ((conv => lhs; whnf); done)) | exact rfl))))); exact p_mkfn)
 | (apply c_seq)
 | (apply c_reg)
 | (apply c_ret)
 | (with_reducible apply k_c)
  simp [finish, ress, resOf, look, tupOf, go_sem]
theorem p_idxO {H : Heap} {id n : Nat} {l : List Int} {i : Nat} (h : H.data? id = some (iL l)) (hn : n = l.length) (hi : i < n) : evP H (.idxA 1) [.sl id 1 0 n, .int .i64 (i : Int)] = some (.ptr id i) := by
  subst hn
  have : H.cells? id = some (iL l) := cells_of_data h
  have hl := iL_len l
  simp [evP, idxSl, getRow, this]
  omega
theorem p_ldO {H : Heap} {id : Nat} {l : List Int} {i : Nat} (h : H.data? id = some (iL l)) (hi : i < l.length) : evP H (.ld false 1) [.ptr id i] = some (.int .i64 l[i]) := by
  have : H.cells? id = some (iL l) := cells_of_data h
  have hl := iL_len l
  have e : ((iL l).drop i).take 1 = [.int .i64 l[i]] := by
    rw [List.drop_eq_getElem_cons (by omega)]
    simp [iL]
  have hg : getRow H id i 1 = some [.int .i64 l[i]] := by
    unfold getRow
    rw [this, Option.bind_some, if_pos (by omega), e]
  simp [evP, ldc, hg, wholeOf]
theorem e_st2 {call : CallF} {H : Heap} {id : Nat} {a b d : AV} {e : Int} (hH : H[id]? = some (some (.box [a, b]))) (h3 : d.one = true) (h4 : d.cells = [d]) : evE call H (.st 2) [.ptr id 0, .agg [.int .i64 e, d]] = some (.undef, H.set id (some (.box [.int .i64 e, d]))) := by
  have o1 : ∀ y : Int, (AV.int .i64 y).one = true := fun _ => rfl
  exact e_stA hH (by simp [go_sem, h4]) rfl (by simp [oneL, o1, h3]) rfl
theorem fin_cellT {p q n : Nat} {a v v' u : AV} {env : Env} {H H' : Heap} (h : look env p = a) (hu : look env q = u) (hl : evP H (.ld true n) [a] = some v) (hg : gc 0 [.tup [v, u]] H = some ([v'], H')) : finish 0 [.cell p true n, .t q] env H = some (v', H') := by
  simp only [evP] at hl
  simp [finish, ress, resOf, h, hu, hl, tupOf, hg]
/-- Decide, where the number is none, one, or composite -/
theorem f30e {n : Int} (hn : ¬ IsNum n) {m : Nat} (hm : 50000 ≤ m) : evZ m 30 [.int .i64 n] [] = some (.tup [.agg [.int .i64 0, .nilS], .int .i64 2], []) := by
  obtain ⟨m, rfl⟩ : ∃ j, m = j + 1 := ⟨m - 1, by omega⟩
  have e41 := fun H => callPure_up (sp := spS) (Nat.le_refl _) (c41 (m := m) (by omega) n H)
  simp only [hn, decide_false] at e41
  refine s_enter rfl rfl ?_
  generalize evS spS tab it m = call at *
  repeat' first
 | (apply s_mov; (focus ((conv => lhs; whnf); done)))
 | (apply c_nil)
 | (apply s_notF; exact rfl)
 | (apply s_cn; (focus (repeat (first | apply opds_nil | (apply opds_cons; (first | (focus ((conv => lhs; whnf); done)) | exact rfl))))); exact e41 _)
 | (apply s_st; (focus (repeat (first | apply opds_nil | (apply opds_cons; (first | (focus ((conv => lhs; whnf); done)) | exact rfl))))); exact e_st2 rfl rfl rfl)
 | (apply s_pd; exact rfl)
 | (apply isE; apply s_ed; (focus ((conv => lhs; whnf); done)))
 | (apply c_seq)
 | (apply c_reg)
 | (apply c_ret)
 | (apply c_condT; exact rfl)
 | (with_reducible apply k_c)
  all_goals exact fin_cellT (by rfl) (by rfl) (by rfl) (by simp [go_sem])
theorem f30o {m : Nat} (hm : 50000 ≤ m) : evZ m 30 [.int .i64 1] [] = some (.tup [.agg [.int .i64 1, .nilS], .int .i64 0], []) := by
  obtain ⟨m, rfl⟩ : ∃ j, m = j + 1 := ⟨m - 1, by omega⟩
  have e41 := fun H => callPure_up (sp := spS) (Nat.le_refl _) (c41 (m := m) (by omega) 1 H)
  have h1 : IsNum 1 := ⟨by omega, by omega⟩
  simp only [h1, decide_true] at e41
  refine s_enter rfl rfl ?_
  generalize evS spS tab it m = call at *
  repeat' first
 | (apply s_mov; (focus ((conv => lhs; whnf); done)))
 | (apply c_nil)
 | (apply s_notT; exact rfl)
 | ((first | apply s_lss | apply s_leq | apply s_gtr | apply s_geq | apply s_eql | apply s_neq); exact rfl; all_goals (intro _; try (exfalso; omega)))
 | (apply s_cn; (focus (repeat (first | apply opds_nil | (apply opds_cons; (first | (focus ((conv => lhs; whnf); done)) | exact rfl))))); exact e41 _)
 | (apply s_st; (focus (repeat (first | apply opds_nil | (apply opds_cons; (first | (focus ((conv => lhs; whnf); done)) | exact rfl))))); exact e_st2 rfl rfl rfl)
 | (apply s_pd; exact rfl)
 | (apply isE; apply s_ed; (focus ((conv => lhs; whnf); done)))
 | (apply c_seq)
 | (apply c_reg)
 | (apply c_skip)
 | (apply c_ret)
 | (apply c_condT; exact rfl)
 | (apply c_condF; exact rfl)
 | (with_reducible apply k_c)
  all_goals exact fin_cellT (by rfl) (by rfl) (by rfl) (by simp [go_sem])
theorem f30c {N q : Nat} {L : List (Nat × Nat)} {e : Nat} {r : List (Nat × Nat)} (hN : 2 ≤ N) (hN2 : N ≤ 2147483647) (hL : Fac L N) (hr : L = (q, e) :: r) (hq : q < N) {m : Nat} (hm : 50000 ≤ m) : evZ m 30 [.int .i64 (N : Int)] [] = some (.tup [.agg [.int .i64 (q : Int), .nilS], .int .i64 0], []) := by
  obtain ⟨m, rfl⟩ : ∃ j, m = j + 1 := ⟨m - 1, by omega⟩
  have e41 := fun H => callPure_up (sp := spS) (Nat.le_refl _) (c41 (m := m) (by omega) N H)
  have e42 := fun H => callPure_up (sp := spS) (Nat.le_refl _) (c42 (by omega) hN2 hL (m := m) (by omega) H)
  have h1 : IsNum (N : Int) := ⟨by omega, by omega⟩
  simp only [h1, decide_true] at e41
  have hlen : 0 < L.length := by rw [hr]; simp
  have i1 := fun H => p_idxG (H := H) (l := L) (i := 0) hlen
  have l1 := fun H => p_ld0 (H := H) (l := L) (i := 0) hlen
  have g1 : gp L 0 = (q, e) := by rw [hr]; rfl
  rw [g1] at l1
  simp only [Nat.zero_mul] at i1 l1
  have fl := fun H => p_fld0 (H := H) (l := L) (i := 0)
  simp only [Nat.zero_mul] at fl
  refine s_enter rfl rfl ?_
  generalize evS spS tab it m = call at *
  generalize fzP L = fz at *
  repeat' first
 | (apply s_mov; (focus ((conv => lhs; whnf); done)))
 | (apply c_nil)
 | (apply s_notT; exact rfl)
 | ((first | apply s_lss | apply s_leq | apply s_gtr | apply s_geq | apply s_eql | apply s_neq); exact rfl; all_goals (intro _; try (exfalso; omega)))
 | (apply s_cn; (focus (repeat (first | apply opds_nil | (apply opds_cons; (first | (focus ((conv => lhs; whnf); done)) | exact rfl))))); exact e41 _)
 | (apply s_cn; (focus (repeat (first | apply opds_nil | (apply opds_cons; (first | (focus ((conv => lhs; whnf); done)) | exact rfl))))); exact e42 _)
 | (apply s_pn; (focus (repeat (first | apply opds_nil | (apply opds_cons; (first | (focus ((conv => lhs; whnf); done)) | exact rfl))))); exact i1 _)
 | (apply s_pn; (focus (repeat (first | apply opds_nil | (apply opds_cons; (first | (focus ((conv => lhs; whnf); done)) | exact rfl))))); exact l1 _)
 | (apply s_pn; (focus (repeat (first | apply opds_nil | (apply opds_cons; (first | (focus ((conv => lhs; whnf); done)) | exact rfl))))); exact fl _)
 | (apply s_st; (focus (repeat (first | apply opds_nil | (apply opds_cons; (first | (focus ((conv => lhs; whnf); done)) | exact rfl))))); exact e_st2 rfl rfl rfl)
 | (apply s_pd; exact rfl)
 | (apply isE; apply s_ed; (focus ((conv => lhs; whnf); done)))
 | (apply c_seq)
 | (apply c_reg)
 | (apply c_skip)
 | (apply c_ret)
 | (apply c_condT; exact rfl)
 | (apply c_condF; exact rfl)
 | (with_reducible apply k_c)
  all_goals exact fin_cellT (by rfl) (by rfl) (by rfl) (by simp [go_sem])
end Go.AM.Pr
