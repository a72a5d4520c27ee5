/- A part of the proof: S13. -/
import Derived.Test.YtbjkmejlecoebaaS12
set_option linter.unusedSectionVars false
set_option linter.unusedVariables false
set_option linter.unusedSimpArgs false
namespace Go.AM.Pr
attribute [local go_sem] gc subHeap reach_skip ren_free reach_new reach_newp reach_end rangeL roots boxCells nodupB posOf renL AV.ren pickO renH renO looks look bindEnv envOf reach_int reach_bool reach_nilS reach_rd putRow cells_sl cells_int cells_bool cells_nilS cells_rd cells_agg reach_agg reach_tup idFreeL idf_sl idf_ptr idf_int idf_bool idf_nilS idf_rd reach_fn reach_mp cells_fn cells_ptr cells_mp idf_mp idf_fn idf_agg idf_tup
open Go.AM.Num
theorem ordS_le (a m q : Nat) : ∀ t n, ordS a m q t n ≤ n
  | 0, n => Nat.le_refl n
  | t + 1, n => by
    simp only [ordS]
    split
    · exact Nat.le_trans (ordS_le a m q t _) (Nat.div_le_self n q)
    · exact Nat.le_refl n
theorem ordF_le (a m : Nat) : ∀ (l : List (Nat × Nat)) (T : Nat), ordF a m T l ≤ T
  | [], T => Nat.le_refl T
  | x :: l, T => Nat.le_trans (ordF_le a m l _) (ordS_le a m x.1 x.2 T)
theorem f65 {q t a n M : Nat} (hq : 2 ≤ q) (hqm : q ≤ 2147483647) (ht : t ≤ 1000) (hn : n ≤ 2147483647) (hM : 0 < M) (hM2 : M ≤ 2147483647) (ha : a < M) {m : Nat} (hm : 2000 ≤ m) :
    evF tab it m 65 [.int .i64 (q : Int), .int .i64 (t : Int), .ptr 0 0, .ptr 1 0, .ptr 2 0] [some (.data [.int .i64 (a : Int)]), some (.data [.int .i64 (n : Int)]), some (.data [.int .i64 (M : Int)])] =
      some (.tup [], [some (.data [.int .i64 (a : Int)]), some (.data [.int .i64 ((ordS a M q t n : Nat) : Int)]), some (.data [.int .i64 (M : Int)])]) := by
  obtain ⟨m, rfl⟩ : ∃ j, m = j + 1 := ⟨m - 1, by omega⟩
  have h47 := fun {E : Nat} (hE : E ≤ 2147483647) H => c47 (A := a) (E := E) hM hM2 ha (by omega) (m := m) (by omega) H
  generalize hR : ordS a M q t n = R
  refine f_enterH rfl rfl ?_
  generalize evF tab it m = call at *
  repeat' first
 | (apply c_block)
  refine c_loop ?_
  refine loop_gc (σ := Nat × Nat) (fun s => [.int .i64 (q : Int), .int .i64 (s.1 : Int), .ptr 0 0, .ptr 1 0, .ptr 2 0]) (fun s => [some (.data [.int .i64 (a : Int)]), some (.data [.int .i64 (s.2 : Int)]), some (.data [.int .i64 (M : Int)])]) (fun s => s.1 ≤ 1000 ∧ s.2 ≤ 2147483647 ∧ ordS a M q s.1 s.2 = R) (fun s => s.1) ?_ _ (t, n) _ _ ⟨ht, hn, hR⟩ (by show t < _; omega) (by simp [go_sem]; done)
  intro ⟨j, v⟩ ⟨h1, h2, h3⟩ K hK
  dsimp only at h1 h2 h3 hK ⊢
  have hvq : v / q ≤ v := Nat.div_le_self v q
  have h47' := h47 (E := v / q) (by omega) [some (.data [.int .i64 (a : Int)]), some (.data [.int .i64 (v : Int)]), some (.data [.int .i64 (M : Int)])]
  repeat' first
 | (apply s_mov; (focus ((conv => lhs; whnf); done)))
 | (apply s_gT; exact rfl)
 | (apply s_gF; exact rfl)
 | (apply s_gFD; exact rfl)
 | (apply c_nil)
 | (apply s_pickT; exact rfl; (focus ((conv => lhs; whnf); done)))
 | (apply s_pickF; exact rfl; (focus ((conv => lhs; whnf); done)))
 | ((first | apply s_lss | apply s_leq | apply s_gtr | apply s_geq | apply s_eql | apply s_neq); exact rfl; all_goals (intro _; try (exfalso; omega)))
 | (apply s_pn; (focus (repeat (first | apply opds_nil | (apply opds_cons; (first | (focus ((conv => lhs; whnf); done)) | exact rfl))))); exact p_ldI1 rfl)
 | (apply s_cn; (focus (repeat (first | apply opds_nil | (apply opds_cons; (first | (focus ((conv => lhs; whnf); done)) | exact rfl))))); exact h47')
 | (apply s_st; (focus (repeat (first | apply opds_nil | (apply opds_cons; (first | (focus ((conv => lhs; whnf); done)) | exact rfl))))); exact e_stI1 rfl)
 | (apply s_remN (a := 1); exact rfl; omega)
 | (apply s_subN (b := 1); exact rfl; omega; omega)
 | (apply s_quoN; exact rfl; omega; omega)
 | (apply c_seq)
 | (apply c_reg)
 | (apply c_block)
 | (apply c_exitH)
 | (apply c_skip)
 | (apply c_condT; exact rfl)
 | (apply c_condF; exact rfl)
 | (with_reducible apply k_c)
  · obtain ⟨i, rfl⟩ : ∃ i, j = i + 1 := ⟨j - 1, by omega⟩
    have h1' : Pow1 a M (v / q) := by unfold Pow1; omega
    simp only [ordS, if_pos h1'] at h3
    exact hK (i, v / q) _ _ ⟨by show i ≤ _; omega, by show v / q ≤ _; omega, h3⟩ (by show i < i + 1; omega) (by simp [go_sem]; done)
  · obtain ⟨i, rfl⟩ : ∃ i, j = i + 1 := ⟨j - 1, by omega⟩
    have h1' : ¬ Pow1 a M (v / q) := by unfold Pow1; omega
    simp only [ordS, if_neg h1'] at h3
    subst h3
    simp [finish, ress, tupOf, go_sem]
  · obtain rfl : j = 0 := by omega
    simp only [ordS] at h3
    subst h3
    simp [finish, ress, tupOf, go_sem]
theorem clo65 {L : List (Nat × Nat)} {N a M : Nat} (hL : Fac L N) (hN : N ≤ 2147483647) (hM : 0 < M) (hM2 : M ≤ 2147483647) (ha : a < M) {m : Nat} (hm : 2000 ≤ m) : Clo m 65 [.ptr 0 0, .ptr 1 0, .ptr 2 0] 3 (fun l => [some (.data [.int .i64 (a : Int)]), some (.data [.int .i64 ((ordF a M N l : Nat) : Int)]), some (.data [.int .i64 (M : Int)])]) L where
  hk := rfl
  g2 l x := by simp [go_sem]
  g3 l x y := by simp [go_sem]
  g4 l x y z := by simp [go_sem]
  fin l := by simp [go_sem]
  call l q t r h := by
    have he := exp_lt hL hN (i := l.length) (by rw [h]; simp)
    rw [gp_lt (by rw [h]; simp)] at he
    simp [h] at he
    have hle := ordF_le a M l N
    have hc := f65 (q := q) (t := t) (a := a) (n := ordF a M N l) (M := M) he.2.2.1 (by omega) (by omega) (by omega) hM hM2 ha hm
    have e : ordF a M N (l ++ [(q, t)]) = ordS a M q t (ordF a M N l) := ordF_app a M N l (q, t)
    rw [e]
    refine ⟨[some (.data [.int .i64 (a : Int)]), some (.data [.int .i64 ((ordS a M q t (ordF a M N l) : Nat) : Int)]), some (.data [.int .i64 (M : Int)])], ?_, fun x y => ?_, ?_⟩
    · generalize evF tab it m = call at *
      simp [callMut, subHeap, backOf, writeBack, hc, go_sem]
    · simp [go_sem]
    · simp [go_sem]
/-- the order -/
noncomputable def facOf (n : Nat) : List (Nat × Nat) := if h : 1 ≤ n then (fac_ex h).choose else []
theorem facOf_fac {n : Nat} (h : 1 ≤ n) : Fac (facOf n) n := by
  unfold facOf
  rw [dif_pos h]
  exact (fac_ex h).choose_spec
noncomputable def totN (n : Nat) : Nat := totL (facOf n)
noncomputable def ordN (a m : Nat) : Nat := ordF a m (totN m) (facOf (totN m))
theorem totN_le {n : Nat} (h : 1 ≤ n) : 1 ≤ totN n ∧ totN n ≤ n := by
  have hL := facOf_fac h
  have := totL_le hL.toFacR
  rw [hL.prod] at this
  exact this
theorem ordN_spec {a m : Nat} (h1 : 1 ≤ m) (hg : Nat.gcd a m = 1) : Pow1 a m (ordN a m) ∧ 1 ≤ ordN a m ∧ ordN a m ∣ totN m ∧ ∀ p, IsPr p → p ∣ ordN a m → ¬ Pow1 a m (ordN a m / p) :=
  ord_done (facOf_fac (totN_le h1).1) (euler_one h1 (facOf_fac h1) hg)
theorem e_boxI {call : CallF} {H : Heap} {v : Int} : evE call H (.box true) [.int .i64 v] = some (.ptr H.length 0, H ++ [some (.data [.int .i64 v])]) := rfl
theorem f48 {a M : Nat} (hM : 1 ≤ M) (hM2 : M ≤ 2147483647) (ha : a < M) {m : Nat} (hm : 46404 ≤ m) : evF tab it m 48 [.int .i64 (a : Int), .int .i64 (M : Int)] [] = some (.int .i64 ((ordN a M : Nat) : Int), []) := by
  obtain ⟨m, rfl⟩ : ∃ j, m = j + 1 := ⟨m - 1, by omega⟩
  obtain ⟨m', rfl⟩ : ∃ j, m = j + 1 := ⟨m - 1, by omega⟩
  have ht := totN_le hM
  have hL := facOf_fac hM
  have hL2 := facOf_fac ht.1
  have h58 := f58 ht.1 (by omega) hL2 (clo65 hL2 (by omega) hM hM2 ha (m := m') (by omega)) (by omega)
  have e1 : ordF a M (totN M) [] = totN M := rfl
  have e2 : ordF a M (totN M) (facOf (totN M)) = ordN a M := rfl
  simp only [e1, e2] at h58
  have h64 := fun H => c64 hM hM2 hL (m := m' + 1) (by omega) H
  have e3 : totL (facOf M) = totN M := rfl
  rw [e3] at h64
  refine f_enter rfl rfl ?_
  generalize evF tab it (m' + 1) = call at *
  generalize totN M = T at *
  generalize ordN a M = R at *
  have hc : callMut call 58 [.int .i64 (T : Int), .fn 65 [.ptr 0 0, .ptr 2 0, .ptr 1 0]] [some (.data [.int .i64 (a : Int)]), some (.data [.int .i64 (M : Int)]), some (.data [.int .i64 (T : Int)])] = some (.tup [], [some (.data [.int .i64 (a : Int)]), some (.data [.int .i64 (M : Int)]), some (.data [.int .i64 (R : Int)])]) := by
    simp [callMut, subHeap, backOf, writeBack, h58, go_sem]
  have b1 : evE call [] (.box true) [.int .i64 (a : Int)] = some (.ptr 0 0, [some (.data [.int .i64 (a : Int)])]) := rfl
  have b2 : evE call [some (.data [.int .i64 (a : Int)])] (.box true) [.int .i64 (M : Int)] = some (.ptr 1 0, [some (.data [.int .i64 (a : Int)]), some (.data [.int .i64 (M : Int)])]) := rfl
  have b3 : evE call [some (.data [.int .i64 (a : Int)]), some (.data [.int .i64 (M : Int)])] (.alloc true [.int .i64 0]) [] = some (.ptr 2 0, [some (.data [.int .i64 (a : Int)]), some (.data [.int .i64 (M : Int)]), some (.data [.int .i64 0])]) := rfl
  repeat' first
 | (apply s_mov; (focus ((conv => lhs; whnf); done)))
 | (apply c_nil)
 | (apply s_en; (focus (repeat (first | apply opds_nil | (apply opds_cons; (first | (focus ((conv => lhs; whnf); done)) | exact rfl))))); exact b1)
 | (apply s_en; (focus (repeat (first | apply opds_nil | (apply opds_cons; (first | (focus ((conv => lhs; whnf); done)) | exact rfl))))); exact b2)
 | (apply s_en; (focus (repeat (first | apply opds_nil | (apply opds_cons; (first | (focus ((conv => lhs; whnf); done)) | exact rfl))))); exact b3)
 | (apply s_cn; (focus (repeat (first | apply opds_nil | (apply opds_cons; (first | (focus ((conv => lhs; whnf); done)) | exact rfl))))); exact h64 _)
 | (apply s_en; (focus (repeat (first | apply opds_nil | (apply opds_cons; (first | (focus ((conv => lhs; whnf); done)) | exact rfl))))); exact hc)
 | (apply s_pn; (focus (repeat (first | apply opds_nil | (apply opds_cons; (first | (focus ((conv => lhs; whnf); done)) | exact rfl))))); exact p_mkfn)
 | (apply s_pn; (focus (repeat (first | apply opds_nil | (apply opds_cons; (first | (focus ((conv => lhs; whnf); done)) | exact rfl))))); exact p_ldI1 rfl)
 | (apply s_st; (focus (repeat (first | apply opds_nil | (apply opds_cons; (first | (focus ((conv => lhs; whnf); done)) | exact rfl))))); exact e_stI1 rfl)
 | (apply c_seq)
 | (apply c_reg)
 | (apply c_ret)
 | (with_reducible apply k_c)
  exact fin_t (by (conv => lhs; whnf)) (by rfl) rfl
theorem c48 {a M : Nat} (hM : 1 ≤ M) (hM2 : M ≤ 2147483647) (ha : a < M) {m : Nat} (hm : 46404 ≤ m) (H : Heap) : callPure (evF tab it m) true 48 [.int .i64 (a : Int), .int .i64 (M : Int)] H = some (.int .i64 ((ordN a M : Nat) : Int), H) :=
  callPure_free rfl (by simp) (f48 hM hM2 ha hm) rfl
end Go.AM.Pr
