/- A part of the proof: U66 U67 U56 U68. -/
import Derived.Test.YtmegimhfoedcdaaU42
import Derived.Test.YtmegimhfoedcdaaU64
import Derived.Test.YtmegimhfoedcdaaU61
import Derived.Test.YtmegimhfoedcdaaU36
set_option linter.unusedSectionVars false
set_option linter.unusedVariables false
set_option linter.unusedSimpArgs false
namespace Go.AM.Ch
set_option maxHeartbeats 8000000
/-- sum -/
theorem f63 {x : AV} {l : List Int} (hx : IsL x l) (hl : l.length ≤ 1000) (hb : ∀ j : Nat, j < l.length → -1099511627776 ≤ getI l (j : Int) ∧ getI l (j : Int) ≤ 1099511627776) {m : Nat} (hm : 1010 ≤ m) : evF tab it m 63 [x] [] = some (.int .i64 (sumTo (gf l) l.length), []) := by
  obtain ⟨m, rfl⟩ : ∃ j, m = j + 1 := ⟨m - 1, by omega⟩
  have fx := hx.free
  have lx : ∀ H, evP H .len [x] = some (.int .i64 ((l.length : Nat) : Int)) := fun H => p_lenI hx
  refine f_enter rfl rfl ?_
  generalize evF tab it m = call at *
  repeat' first
 | (apply s_mov; (focus ((conv => lhs; whnf); done)))
 | (apply c_nil)
 | (apply s_pn; (focus (repeat (first | apply opds_nil | (apply opds_cons; (first | (focus ((conv => lhs; whnf); done)) | exact rfl))))); exact lx _)
 | (apply c_seq)
 | (apply c_reg)
 | (apply c_block)
 | (with_reducible apply k_c)
  refine c_loop ?_
  refine loop_gc (σ := Nat) (fun i => [.int .i64 (sumTo (fun j => getI l (j : Int)) i), x, .int .i64 ((l.length : Nat) : Int), .int .i64 (i : Int)]) (fun _ => []) (fun i => i ≤ l.length) (fun i => l.length - i) ?_ _ 0 _ _ (by omega) (by omega) (gc_to rfl (by simp [idFreeL, AV.idFree, *]; done))
  intro i hi K hK
  have hbd := sumTo_le (f := fun j => getI l (j : Int)) (M := 1099511627776) (n := i) fun j hj => hb j (by omega)
  by_cases hil : i < l.length
  · have hgi := hb i hil
    repeat' first
 | (apply s_mov; (focus ((conv => lhs; whnf); done)))
 | (apply c_nil)
 | ((first | apply s_lss | apply s_leq | apply s_gtr | apply s_geq | apply s_eql | apply s_neq); exact rfl; all_goals (intro _; try (exfalso; omega)))
 | ((first | apply s_add | apply s_sub); exact rfl; omega)
 | (apply s_idx; (focus ((conv => lhs; whnf); done)); exact rfl; (first | assumption | (apply IsLL.at; assumption; omega)); omega)
 | (apply s_ldI; exact rfl; omega)
 | (apply c_seq)
 | (apply c_reg)
 | (apply c_block)
 | (apply c_skip)
 | (apply c_condT; exact rfl)
 | (with_reducible apply k_c)
    all_goals exact hK (i + 1) _ _ (by omega) (by omega) (gc_to rfl (by simp [idFreeL, AV.idFree, *]; done))
  · obtain rfl : i = l.length := by omega
    repeat' first
 | (apply s_mov; (focus ((conv => lhs; whnf); done)))
 | (apply c_nil)
 | ((first | apply s_lss | apply s_leq | apply s_gtr | apply s_geq | apply s_eql | apply s_neq); exact rfl; all_goals (intro _; try (exfalso; omega)))
 | (apply c_seq)
 | (apply c_reg)
 | (apply c_exitH)
 | (apply c_ret)
 | (apply c_condF; exact rfl)
 | (apply c_preF; (focus (repeat (first | apply looks_nil | (apply looks_cons; (focus ((conv => lhs; whnf); done)))))); (focus (simp [idFreeL, AV.idFree, *]; done)))
 | (with_reducible apply k_c)
    exact fin_t (v := .int .i64 (sumTo (gf l) l.length)) (by rfl) (by rfl) rfl
theorem c63 {x : AV} {l : List Int} (hx : IsL x l) (hl : l.length ≤ 1000) (hb : ∀ j : Nat, j < l.length → -1099511627776 ≤ getI l (j : Int) ∧ getI l (j : Int) ≤ 1099511627776) {m : Nat} (hm : 1010 ≤ m) (H : Heap) : callPure (evF tab it m) true 63 [x] H = some (.int .i64 (sumTo (gf l) l.length), H) :=
  callPure_free (by simp [idFreeL, hx.free]) (by simp) (f63 hx hl hb hm) rfl
theorem c63p {id n : Nat} {l : List Int} (hn : l.length = n) (hl : l.length ≤ 1000) (hb : ∀ j : Nat, j < l.length → -1099511627776 ≤ getI l (j : Int) ∧ getI l (j : Int) ≤ 1099511627776) {m : Nat} (hm : 1010 ≤ m) {H : Heap} (h : H.data? id = some (iL l)) : callPure (evF tab it m) true 63 [.sl id 1 0 n] H = some (.int .i64 (sumTo (gf l) n), H) := by
  have f := f63 (rd_isL hn) hl hb hm
  rw [hn] at f
  exact callPure_own (frzL_cons (frz_sl h hn) frzL_nil) f rfl (by simp) rfl
theorem ex_first {Q : Nat → Prop} : ∀ {n : Nat}, Q n → ∃ k, Q k ∧ ∀ j, j < k → ¬ Q j := fun {n} => by
  induction n using Nat.strongRecOn with
  | ind n ih =>
    intro h
    by_cases hex : ∃ j, j < n ∧ Q j
    · obtain ⟨j, hj, hq⟩ := hex
      exact ih j hj hq
    · exact ⟨n, h, fun j hj hq => hex ⟨j, hj, hq⟩⟩
theorem isRk_of {b : List (List Int)} {s : List Int} {k : Nat} (h : ∀ j : Nat, j < k → (j : Int) ≤ sumTo (gf s) b.length ∧ ¬ Ls b j (redL b s 0) 0) (he : sumTo (gf s) b.length < k ∨ Ls b k (redL b s 0) 0) : IsRk b s ((k : Int) - 1) := by
  refine ⟨by omega, fun j hj => h j (by omega), ?_⟩
  have e : ((k : Int) - 1 + 1).toNat = k := by omega
  rw [e]
  rcases he with h | h
  · left; omega
  · right; exact h
theorem rk_ex (b : List (List Int)) (s : List Int) : ∃ r, IsRk b s r := by
  obtain ⟨k, hk, hno⟩ := ex_first (Q := fun k : Nat => sumTo (gf s) b.length < k ∨ Ls b k (redL b s 0) 0) (n := (sumTo (gf s) b.length + 1).toNat) (.inl (by omega))
  exact ⟨_, isRk_of (fun j hj => by
    have := hno j hj
    exact ⟨by
      apply Classical.byContradiction
      intro h
      exact this (.inl (by omega)), fun h => this (.inr h)⟩) hk⟩
/-- the rank -/
noncomputable def rkI (b : List (List Int)) (s : List Int) : Int := Classical.choose (rk_ex b s)
theorem rk_eq {b : List (List Int)} {s : List Int} {r : Int} (h : IsRk b s r) : r = rkI b s := h.uniq (Classical.choose_spec (rk_ex b s))
/-- the numbers of a reduced list -/
theorem red_own {b : List (List Int)} (hB : IsB b) (s : List Int) : (∀ v : Nat, v < b.length → v ≠ 0 → 0 ≤ getI (redL b s 0) (v : Int) ∧ getI (redL b s 0) (v : Int) < 36) ∧ sumTo (gf s) b.length - 360 ≤ getI (redL b s 0) ((0 : Nat) : Int) ∧ getI (redL b s 0) ((0 : Nat) : Int) ≤ sumTo (gf s) b.length := by
  have hn1 := hB.n1; have hn2 := hB.n2
  have g := gr_of hB
  have hrs : sumTo (gf (redL b s 0)) b.length = sumTo (gf s) b.length := sum_apl hB s _
  have hr := redL_red hB s hn1
  have hrl := redL_len b s 0
  rw [← hrs]
  generalize redL b s 0 = R at *
  have hRo : ∀ v : Nat, v < b.length → v ≠ 0 → 0 ≤ getI R (v : Int) ∧ getI R (v : Int) < 36 := fun v hv h0 => by
    have := red_lt g hr hv h0
    have e : gf R v = getI R (v : Int) := rfl
    omega
  refine ⟨hRo, ?_⟩
  have e := sum_set (l := R) (n := b.length) (v := 0) hrl (by omega) (getI R ((0 : Nat) : Int))
  have h1 := sumTo_nn (f := gf (R.set 0 (getI R ((0 : Nat) : Int) - getI R ((0 : Nat) : Int)))) (n := b.length) fun v hv => by
    show 0 ≤ getI _ (v : Int)
    rw [getI_set (by omega)]
    by_cases h0 : v = 0
    · rw [if_pos h0]; omega
    · rw [if_neg h0]; exact (hRo v hv h0).1
  have h2 := sumTo_le (f := gf (R.set 0 (getI R ((0 : Nat) : Int) - getI R ((0 : Nat) : Int)))) (M := 36) (n := b.length) fun v hv => by
    show -36 ≤ getI _ (v : Int) ∧ getI _ (v : Int) ≤ 36
    rw [getI_set (by omega)]
    by_cases h0 : v = 0
    · rw [if_pos h0]; omega
    · rw [if_neg h0]; have := hRo v hv h0; omega
  omega
theorem red_tk {b : List (List Int)} (hB : IsB b) {s : List Int} {k : Nat} (hk : (k : Int) ≤ sumTo (gf s) b.length) (hs : sumTo (gf s) b.length ≤ 12) : Tk b.length k (redL b s 0) := by
  obtain ⟨h1, h2⟩ := red_own hB s
  exact ⟨redL_len b s 0, fun v hv h0 => by have := h1 v hv h0; omega, by omega⟩
theorem sum_in {b : List (List Int)} {s : List Int} {n : Nat} (hn : n ≤ 12) (hs : ∀ v : Nat, v < n → -1048576 ≤ getI s (v : Int) ∧ getI s (v : Int) ≤ 1048576) : -12582912 ≤ sumTo (gf s) n ∧ sumTo (gf s) n ≤ 12582912 := by
  have := sumTo_le (f := gf s) (M := 1048576) (n := n) hs
  omega
/-- the reference's Rank -/
theorem f43 {x y : AV} {b : List (List Int)} {s : List Int} (hx : IsLL x b) (hy : IsL y s) (hB : IsB b) (hs : InR b.length 1048576 s) (h12 : sumTo (gf s) b.length ≤ 12) {m : Nat} (hm : smK + 30 ≤ m) :
    evF tab it m 43 [x, y] [] = some (.int .i64 (rkI b s), []) := by
  obtain ⟨m, rfl⟩ : ∃ j, m = j + 1 := ⟨m - 1, by omega⟩
  have hm1 : 2300 ≤ m := by have := smK_big; omega
  have fx := hx.free
  have hn1 := hB.n1; have hn2 := hB.n2
  have e28 := fun H => c28 hx hy hB hs (q := 0) (by omega) (m := m) (by omega) H
  have hRl := redL_len b s 0
  obtain ⟨o1, o2⟩ := red_own hB s
  have hS := sum_in (b := b) (by omega) (inR_get hs)
  have hRb : ∀ j : Nat, j < b.length → -1099511627776 ≤ getI (redL b s 0) (j : Int) ∧ getI (redL b s 0) (j : Int) ≤ 1099511627776 := fun j hj => by
    by_cases e : j = 0
    · subst e; omega
    · have := o1 j hj e; omega
  have e32 := fun H => c32 (isL_fz (redL b s 0)) (by omega) (fun v hv => by
    obtain ⟨k, hk, e⟩ := List.getElem_of_mem hv
    have := hRb k (by omega)
    rw [getI_nat] at this
    simpa [List.getD, hk, e] using this) (m := m) (by omega) H
  have hsum : sumI (redL b s 0) = sumTo (gf s) b.length := by
    show sumTo (gf (redL b s 0)) (redL b s 0).length = _
    rw [hRl]
    exact sum_apl hB s _
  rw [hsum] at e32
  have e75 : ∀ (k : Nat) (hk : (k : Int) ≤ sumTo (gf s) b.length) (H : Heap), callPure (evF tab it m) true 75 [x, fzL (redL b s 0), .int .i64 (k : Int), .int .i64 0] H = some (.bool (decide (¬ Ls b k (redL b s 0) 0)), H) := fun k hk H =>
    callPure_free (by simp [idFreeL, AV.idFree, fx, (isL_fz (redL b s 0)).free]) (by simp) (f75 hx hB k (fr := 0) (isL_fz _) (by omega) (red_tk hB hk h12) (by omega) (m := m) (by omega)) rfl
  have hrk := fun (k : Nat) h he => rk_eq (b := b) (s := s) (isRk_of (k := k) h he)
  refine f_enter rfl rfl ?_
  have fR := (isL_fz (redL b s 0)).free
  generalize evF tab it m = call at *
  generalize hS' : sumTo (gf s) b.length = S at *
  generalize redL b s 0 = R at *
  generalize fzL R = vR at *
  repeat' first
 | (apply s_mov; (focus ((conv => lhs; whnf); done)))
 | (apply c_nil)
 | (apply s_cn; (focus (repeat (first | apply opds_nil | (apply opds_cons; (first | (focus ((conv => lhs; whnf); done)) | exact rfl))))); exact e28 _)
 | (apply c_seq)
 | (apply c_reg)
 | (apply c_block)
 | (with_reducible apply k_c)
  refine c_loop ?_
  refine loop_gc (σ := Nat) (fun k => [x, vR, .int .i64 ((k : Int) - 1)]) (fun _ => []) (fun k => ∀ j : Nat, j < k → (j : Int) ≤ S ∧ ¬ Ls b j R 0) (fun k => 14 - k) ?_ _ 0 _ _ (fun j hj => by omega) (by omega) (gc_to rfl (by simp [idFreeL, AV.idFree, *]; done))
  intro k hk K hK
  have hk12 : k ≤ 13 := by
    rcases Nat.eq_zero_or_pos k with h | h
    · omega
    · have := (hk (k - 1) (by omega)).1; omega
  have hK1 := hK (k + 1)
  have hkk : ((k + 1 : Nat) : Int) - 1 = (k : Int) - 1 + 1 := by omega
  rw [hkk] at hK1
  by_cases hkS : (k : Int) ≤ S
  · have e75' := e75 k hkS
    rw [show (k : Int) = (k : Int) - 1 + 1 by omega] at e75'
    by_cases hd : Ls b k R 0
    · rw [decide_eq_false (fun h => h hd)] at e75'
      have hr := hrk k hk (.inr hd)
      repeat' first
 | (apply s_mov; (focus ((conv => lhs; whnf); done)))
 | (apply s_gT; exact rfl)
 | (apply c_nil)
 | (apply s_pickT; exact rfl; (focus ((conv => lhs; whnf); done)))
 | ((first | apply s_lss | apply s_leq | apply s_gtr | apply s_geq | apply s_eql | apply s_neq); exact rfl; all_goals (intro _; try (exfalso; omega)))
 | ((first | apply s_add | apply s_sub); exact rfl; omega)
 | (apply s_cn; (focus (repeat (first | apply opds_nil | (apply opds_cons; (first | (focus ((conv => lhs; whnf); done)) | exact rfl))))); exact e32 _)
 | (apply s_cn; (focus (repeat (first | apply opds_nil | (apply opds_cons; (first | (focus ((conv => lhs; whnf); done)) | exact rfl))))); exact e75' _)
 | (apply c_seq)
 | (apply c_reg)
 | (apply c_exitH)
 | (apply c_ret)
 | (apply c_condF; exact rfl)
 | (apply c_preF; (focus (repeat (first | apply looks_nil | (apply looks_cons; (focus ((conv => lhs; whnf); done)))))); (focus (simp [idFreeL, AV.idFree, *]; done)))
 | (with_reducible apply k_c)
      all_goals first
        | (exfalso; omega)
        | (refine fin_t (by (conv => lhs; whnf)) (by rfl) ?_; rw [hr])
    · rw [decide_eq_true hd] at e75'
      repeat' first
 | (apply s_mov; (focus ((conv => lhs; whnf); done)))
 | (apply s_gT; exact rfl)
 | (apply c_nil)
 | (apply s_pickT; exact rfl; (focus ((conv => lhs; whnf); done)))
 | ((first | apply s_lss | apply s_leq | apply s_gtr | apply s_geq | apply s_eql | apply s_neq); exact rfl; all_goals (intro _; try (exfalso; omega)))
 | ((first | apply s_add | apply s_sub); exact rfl; omega)
 | (apply s_cn; (focus (repeat (first | apply opds_nil | (apply opds_cons; (first | (focus ((conv => lhs; whnf); done)) | exact rfl))))); exact e32 _)
 | (apply s_cn; (focus (repeat (first | apply opds_nil | (apply opds_cons; (first | (focus ((conv => lhs; whnf); done)) | exact rfl))))); exact e75' _)
 | (apply c_seq)
 | (apply c_reg)
 | (apply c_block)
 | (apply c_skip)
 | (apply c_condT; exact rfl)
 | (with_reducible apply k_c)
      all_goals first
        | (exfalso; omega)
        | (refine hK1 _ _ (fun j hj => ?_) (by omega) (gc_to rfl (by simp [idFreeL, AV.idFree, *]; done))
           rcases (by omega : j < k ∨ j = k) with h | rfl
           · exact hk j h
           · exact ⟨hkS, hd⟩)
  · have hr := hrk k hk (.inl (by omega))
    repeat' first
 | (apply s_mov; (focus ((conv => lhs; whnf); done)))
 | (apply s_gF; exact rfl)
 | (apply s_gFD; exact rfl)
 | (apply c_nil)
 | (apply s_pickF; exact rfl; (focus ((conv => lhs; whnf); done)))
 | ((first | apply s_lss | apply s_leq | apply s_gtr | apply s_geq | apply s_eql | apply s_neq); exact rfl; all_goals (intro _; try (exfalso; omega)))
 | ((first | apply s_add | apply s_sub); exact rfl; omega)
 | (apply s_cn; (focus (repeat (first | apply opds_nil | (apply opds_cons; (first | (focus ((conv => lhs; whnf); done)) | exact rfl))))); exact e32 _)
 | (apply c_seq)
 | (apply c_reg)
 | (apply c_exitH)
 | (apply c_ret)
 | (apply c_condF; exact rfl)
 | (apply c_preF; (focus (repeat (first | apply looks_nil | (apply looks_cons; (focus ((conv => lhs; whnf); done)))))); (focus (simp [idFreeL, AV.idFree, *]; done)))
 | (with_reducible apply k_c)
    all_goals first
      | (exfalso; omega)
      | (refine fin_t (by (conv => lhs; whnf)) (by rfl) ?_; rw [hr])
theorem c43 {x y : AV} {b : List (List Int)} {s : List Int} (hx : IsLL x b) (hy : IsL y s) (hB : IsB b) (hs : InR b.length 1048576 s) (h12 : sumTo (gf s) b.length ≤ 12) {m : Nat} (hm : smK + 30 ≤ m) (H : Heap) :
    callPure (evF tab it m) true 43 [x, y] H = some (.int .i64 (rkI b s), H) :=
  callPure_free (by simp [idFreeL, AV.idFree, hx.free, hy.free]) (by simp) (f43 hx hy hB hs h12 hm) rfl
end Go.AM.Ch

set_option linter.unusedSectionVars false
set_option linter.unusedVariables false
set_option linter.unusedSimpArgs false
namespace Go.AM.Ch
attribute [local go_sem] gc subHeap reach_skip ren_free reach_new reach_newp reach_end rangeL roots boxCells nodupB posOf renL AV.ren pickO renH renO looks look bindEnv envOf reach_int reach_bool reach_nilS reach_rd putRow cells_sl cells_int cells_bool cells_nilS cells_rd cells_agg reach_agg reach_tup idFreeL idf_sl idf_ptr idf_int idf_bool idf_nilS idf_rd reach_fn reach_mp cells_fn cells_ptr cells_mp idf_mp idf_fn idf_agg idf_tup
set_option maxHeartbeats 8000000
/-- Rank -/
theorem f40 {x y : AV} {b : List (List Int)} {s : List Int} (hx : IsLL x b) (hy : IsL y s) (hB : IsB b) (hs : InR b.length 1048576 s) (hn6 : b.length ≤ 6) (h12 : sumTo (gf s) b.length ≤ 12) {m : Nat} (hm : smK + 40 ≤ m) :
    evF tab it m 40 [x, y] [] = some (.tup [.int .i64 (rkI b s), .int .i64 0], []) := by
  obtain ⟨m, rfl⟩ : ∃ j, m = j + 1 := ⟨m - 1, by omega⟩
  have hm1 : 100000 ≤ m := by have := smK_big; omega
  have fx := hx.free; have fy := hy.free
  have hn1 := hB.n1; have hn2 := hB.n2
  have hsl := hs.1
  have hsb := inR_get hs
  have lx : ∀ H, evP H .len [x] = some (.int .i64 ((b.length : Nat) : Int)) := fun H => by cases hx <;> rfl
  have e52 := fun H => c52 hx hy (by omega) (by omega) (m := m) (by omega) H
  rw [if_pos ⟨hB, hs⟩] at e52
  have e63 := fun H => c63 hy (by omega) (fun j hj => by have := hsb j (by omega); omega) (m := m) (by omega) H
  rw [hsl] at e63
  have e72 := fun H => c72 hx hB (m := m) (by omega) H
  have e54 := fun H => c54 hx hy hB hs (q := 0) (by omega) (m := m) (by omega) H
  have hTl := (redT_ok hB s (q := 0) (by omega)).1
  have hTb := redT_st hB hs (q := 0) (by omega)
  have iT := rd_isL hTl
  have e55 := fun H => c55q (args := [x, y, .rd 1 b.length (iL (redT b s 0))]) hx hy iT hB.bd hsl hTl (fun v hv => by have := hTb v hv; omega) (fun v hv => by have := hsb v hv; omega) (m := m) (by omega) H (frzL_cons (frzV_of fx) (frzL_cons (frzV_of fy) (frzL_cons (frzV_of iT.free) frzL_nil)))
  have hR : apl b s (redT b s 0) = redL b s 0 := rfl
  rw [hR] at e55
  have hRl := redL_len b s 0
  obtain ⟨o1, o2⟩ := red_own hB s
  have hS := sum_in (b := b) (by omega) hsb
  have hRb : ∀ j : Nat, j < b.length → -1099511627776 ≤ getI (redL b s 0) (j : Int) ∧ getI (redL b s 0) (j : Int) ≤ 1099511627776 := fun j hj => by
    by_cases e : j = 0
    · subst e; omega
    · have := o1 j hj e; omega
  have e63p := c63p (id := 0) (l := redL b s 0) hRl (by omega) (fun j hj => hRb j (by omega)) (m := m) (by omega) (H := [some (.data (iL (redL b s 0)))]) rfl
  have hsum : sumTo (gf (redL b s 0)) b.length = sumTo (gf s) b.length := sum_apl hB s _
  rw [hsum] at e63p
  have e73 : ∀ (k : Nat) (hk : (k : Int) ≤ sumTo (gf s) b.length), callMut (evF tab it m) 73 [x, .sl 0 1 0 b.length, .int .i64 (k : Int), .int .i64 0] [some (.data (iL (redL b s 0)))] = some (.bool (decide (Ls b k (redL b s 0) 0)), [some (.data (iL (redL b s 0)))]) := fun k hk =>
    mut73 fx (f73 hx hB k (fr := 0) (by omega) (red_tk hB hk h12) (by omega) (m := m) (by omega))
  have hrk := fun (k : Nat) h he => rk_eq (b := b) (s := s) (isRk_of (k := k) h he)
  have hhi := fun h => rk_eq (rank_high hB (s := s) (by omega) h)
  have hdd : degs b = degsB b := rfl
  rw [hdd] at hhi
  have hdn : 0 ≤ degsB b := by have := genus_nn hB; omega
  have hdm : degsB b ≤ 360 := by
    have := sumTo_le (f := fun v => deg b.length (ed b) v) (M := 36) (n := b.length) fun j hj => by have := deg_nn (gr_of hB) (i := j) (by omega); omega
    show sumTo _ _ ≤ 360
    omega
  refine f_enter rfl rfl ?_
  generalize evF tab it m = call at *
  generalize hS' : sumTo (gf s) b.length = S at *
  generalize hG' : degsB b / 2 - (b.length : Int) + 1 = G at *
  have hGb : -20 ≤ G ∧ G ≤ 200 := by omega
  generalize hRR : redL b s 0 = R at *
  generalize AV.rd 1 b.length (iL (redT b s 0)) = vT at *
  have gcO : ∀ (a : Int) (C : List AV), gc 0 [x, .sl 0 1 0 b.length, .int .i64 a] [some (.data C)] = some ([x, .sl 0 1 0 b.length, .int .i64 a], [some (.data C)]) := fun a C => by simp [go_sem, fx]
  have mul : ∀ H, evP H (.bin .mul) [.int .i64 2, .int .i64 G] = some (.int .i64 (2 * G)) := fun H => by
    show some (AV.int .i64 (IntKind.i64.wrap (2 * G))) = _
    rw [wrapI (by omega)]
  by_cases hlow : S > 2 * G - 2
  · have hr := hhi hlow
    have mx : (if S - G > -1 then S - G else -1) = rkI b s := by
      rw [← hr]
      split <;> split <;> omega
    repeat' first
 | (apply s_mov; (focus ((conv => lhs; whnf); done)))
 | (apply s_gT; exact rfl)
 | (apply c_nil)
 | (apply s_pickF; exact rfl; (focus ((conv => lhs; whnf); done)))
 | ((first | apply s_lss | apply s_leq | apply s_gtr | apply s_geq | apply s_eql | apply s_neq); exact rfl; all_goals (intro _; try (exfalso; omega)))
 | ((first | apply s_add | apply s_sub); exact rfl; omega)
 | (apply s_pn; (focus (repeat (first | apply opds_nil | (apply opds_cons; (first | (focus ((conv => lhs; whnf); done)) | exact rfl))))); exact lx _)
 | (apply s_cn; (focus (repeat (first | apply opds_nil | (apply opds_cons; (first | (focus ((conv => lhs; whnf); done)) | exact rfl))))); exact e52 _)
 | (apply s_cn; (focus (repeat (first | apply opds_nil | (apply opds_cons; (first | (focus ((conv => lhs; whnf); done)) | exact rfl))))); exact e63 _)
 | (apply s_cn; (focus (repeat (first | apply opds_nil | (apply opds_cons; (first | (focus ((conv => lhs; whnf); done)) | exact rfl))))); exact e72 _)
 | (apply s_pn; (focus (repeat (first | apply opds_nil | (apply opds_cons; (first | (focus ((conv => lhs; whnf); done)) | exact rfl))))); exact mul _)
 | (apply s_mx; exact rfl; exact rfl)
 | (apply c_seq)
 | (apply c_reg)
 | (apply c_skip)
 | (apply c_ret)
 | (apply c_condT; exact rfl)
 | (apply c_condF; exact rfl)
 | (with_reducible apply k_c)
    all_goals try (exfalso; omega)
    rw [mx]
    exact fin_tt (by (conv => lhs; whnf)) (by (conv => lhs; whnf)) (by rfl) (by rfl) rfl
  · clear hhi
    repeat' first
 | (apply s_mov; (focus ((conv => lhs; whnf); done)))
 | (apply s_gT; exact rfl)
 | (apply c_nil)
 | (apply s_pickF; exact rfl; (focus ((conv => lhs; whnf); done)))
 | ((first | apply s_lss | apply s_leq | apply s_gtr | apply s_geq | apply s_eql | apply s_neq); exact rfl; all_goals (intro _; try (exfalso; omega)))
 | ((first | apply s_add | apply s_sub); exact rfl; omega)
 | (apply s_pn; (focus (repeat (first | apply opds_nil | (apply opds_cons; (first | (focus ((conv => lhs; whnf); done)) | exact rfl))))); exact lx _)
 | (apply s_cn; (focus (repeat (first | apply opds_nil | (apply opds_cons; (first | (focus ((conv => lhs; whnf); done)) | exact rfl))))); exact e52 _)
 | (apply s_cn; (focus (repeat (first | apply opds_nil | (apply opds_cons; (first | (focus ((conv => lhs; whnf); done)) | exact rfl))))); exact e63 _)
 | (apply s_cn; (focus (repeat (first | apply opds_nil | (apply opds_cons; (first | (focus ((conv => lhs; whnf); done)) | exact rfl))))); exact e72 _)
 | (apply s_pn; (focus (repeat (first | apply opds_nil | (apply opds_cons; (first | (focus ((conv => lhs; whnf); done)) | exact rfl))))); exact mul _)
 | (apply s_cn; (focus (repeat (first | apply opds_nil | (apply opds_cons; (first | (focus ((conv => lhs; whnf); done)) | exact rfl))))); exact e54 _)
 | (apply s_en; (focus (repeat (first | apply opds_nil | (apply opds_cons; (first | (focus ((conv => lhs; whnf); done)) | exact rfl))))); exact e55 _)
 | (apply c_seq)
 | (apply c_reg)
 | (apply c_block)
 | (apply c_skip)
 | (apply c_condF; exact rfl)
 | (with_reducible apply k_c)
    all_goals try (exfalso; omega)
    refine c_loop ?_
    refine loop_gc (σ := Nat) (fun k => [x, .sl 0 1 0 b.length, .int .i64 ((k : Int) - 1)]) (fun _ => [some (.data (iL R))]) (fun k => ∀ j : Nat, j < k → (j : Int) ≤ S ∧ ¬ Ls b j R 0) (fun k => 14 - k) ?_ _ 0 _ _ (fun j hj => by omega) (by omega) (gcO _ _)
    intro k hk K hK
    have hk12 : k ≤ 13 := by
      rcases Nat.eq_zero_or_pos k with h | h
      · omega
      · have := (hk (k - 1) (by omega)).1; omega
    have hK1 := hK (k + 1)
    have hkk : ((k + 1 : Nat) : Int) - 1 = (k : Int) - 1 + 1 := by omega
    rw [hkk] at hK1
    by_cases hkS : (k : Int) ≤ S
    · have e73' := e73 k hkS
      rw [show (k : Int) = (k : Int) - 1 + 1 by omega] at e73'
      by_cases hd : Ls b k R 0
      · rw [decide_eq_true hd] at e73'
        have hr := hrk k hk (.inr hd)
        repeat' first
 | (apply s_mov; (focus ((conv => lhs; whnf); done)))
 | (apply s_gT; exact rfl)
 | (apply c_nil)
 | (apply s_pickT; exact rfl; (focus ((conv => lhs; whnf); done)))
 | (apply s_notT; exact rfl)
 | ((first | apply s_lss | apply s_leq | apply s_gtr | apply s_geq | apply s_eql | apply s_neq); exact rfl; all_goals (intro _; try (exfalso; omega)))
 | ((first | apply s_add | apply s_sub); exact rfl; omega)
 | (apply s_cn; (focus (repeat (first | apply opds_nil | (apply opds_cons; (first | (focus ((conv => lhs; whnf); done)) | exact rfl))))); exact e63p)
 | (apply s_en; (focus (repeat (first | apply opds_nil | (apply opds_cons; (first | (focus ((conv => lhs; whnf); done)) | exact rfl))))); exact e73')
 | (apply c_seq)
 | (apply c_reg)
 | (apply c_exitH)
 | (apply c_ret)
 | (apply c_condF; exact rfl)
 | (apply c_preF; (focus (repeat (first | apply looks_nil | (apply looks_cons; (focus ((conv => lhs; whnf); done)))))); (focus (simp [idFreeL, AV.idFree, *]; done)))
 | (with_reducible apply k_c)
        all_goals try (exfalso; omega)
        refine fin_tt (by (conv => lhs; whnf)) (by (conv => lhs; whnf)) (by rfl) (by rfl) ?_
        rw [hr]
      · rw [decide_eq_false hd] at e73'
        repeat' first
 | (apply s_mov; (focus ((conv => lhs; whnf); done)))
 | (apply s_gT; exact rfl)
 | (apply c_nil)
 | (apply s_pickT; exact rfl; (focus ((conv => lhs; whnf); done)))
 | (apply s_notF; exact rfl)
 | ((first | apply s_lss | apply s_leq | apply s_gtr | apply s_geq | apply s_eql | apply s_neq); exact rfl; all_goals (intro _; try (exfalso; omega)))
 | ((first | apply s_add | apply s_sub); exact rfl; omega)
 | (apply s_cn; (focus (repeat (first | apply opds_nil | (apply opds_cons; (first | (focus ((conv => lhs; whnf); done)) | exact rfl))))); exact e63p)
 | (apply s_en; (focus (repeat (first | apply opds_nil | (apply opds_cons; (first | (focus ((conv => lhs; whnf); done)) | exact rfl))))); exact e73')
 | (apply c_seq)
 | (apply c_reg)
 | (apply c_block)
 | (apply c_skip)
 | (apply c_condT; exact rfl)
 | (with_reducible apply k_c)
        all_goals first
          | (exfalso; omega)
          | (refine hK1 _ _ (fun j hj => ?_) (by omega) ?_
             rotate_left
             · exact gcO _ _
             rcases (by omega : j < k ∨ j = k) with h | rfl
             · exact hk j h
             · exact ⟨hkS, hd⟩)
    · have hr := hrk k hk (.inl (by omega))
      repeat' first
 | (apply s_mov; (focus ((conv => lhs; whnf); done)))
 | (apply s_gF; exact rfl)
 | (apply s_gFD; exact rfl)
 | (apply c_nil)
 | (apply s_pickF; exact rfl; (focus ((conv => lhs; whnf); done)))
 | ((first | apply s_lss | apply s_leq | apply s_gtr | apply s_geq | apply s_eql | apply s_neq); exact rfl; all_goals (intro _; try (exfalso; omega)))
 | (apply s_cn; (focus (repeat (first | apply opds_nil | (apply opds_cons; (first | (focus ((conv => lhs; whnf); done)) | exact rfl))))); exact e63p)
 | (apply c_seq)
 | (apply c_reg)
 | (apply c_exitH)
 | (apply c_ret)
 | (apply c_condF; exact rfl)
 | (apply c_preF; (focus (repeat (first | apply looks_nil | (apply looks_cons; (focus ((conv => lhs; whnf); done)))))); (focus (simp [idFreeL, AV.idFree, *]; done)))
 | (with_reducible apply k_c)
      all_goals try (exfalso; omega)
      refine fin_tt (by (conv => lhs; whnf)) (by (conv => lhs; whnf)) (by rfl) (by rfl) ?_
      rw [hr]
theorem f40e {x y : AV} {b : List (List Int)} {s : List Int} (hx : IsLL x b) (hy : IsL y s) (hl : b.length < 100) (hsl : s.length ≤ 1000) (h : ¬ (IsB b ∧ InR b.length 1048576 s)) {m : Nat} (hm : 5000 ≤ m) :
    evF tab it m 40 [x, y] [] = some (.tup [.int .i64 0, .int .i64 2], []) := by
  obtain ⟨m, rfl⟩ : ∃ j, m = j + 1 := ⟨m - 1, by omega⟩
  have e52 := fun H => c52 hx hy hl hsl (m := m) (by omega) H
  rw [if_neg h] at e52
  refine f_enter rfl rfl ?_
  generalize evF tab it m = call at *
  repeat' first
 | (apply s_mov; (focus ((conv => lhs; whnf); done)))
 | (apply c_nil)
 | ((first | apply s_lss | apply s_leq | apply s_gtr | apply s_geq | apply s_eql | apply s_neq); exact rfl; all_goals (intro _; try (exfalso; omega)))
 | (apply s_cn; (focus (repeat (first | apply opds_nil | (apply opds_cons; (first | (focus ((conv => lhs; whnf); done)) | exact rfl))))); exact e52 _)
 | (apply c_seq)
 | (apply c_reg)
 | (apply c_ret)
 | (apply c_condT; exact rfl)
 | (with_reducible apply k_c)
  all_goals exact fin_tt (by (conv => lhs; whnf)) (by (conv => lhs; whnf)) (by rfl) (by rfl) rfl
theorem f40f {x y : AV} {b : List (List Int)} {s : List Int} (hx : IsLL x b) (hy : IsL y s) (hB : IsB b) (hs : InR b.length 1048576 s) (hh : 6 < b.length ∨ 12 < sumTo (gf s) b.length) {m : Nat} (hm : 5000 ≤ m) :
    evF tab it m 40 [x, y] [] = some (.tup [.int .i64 0, .int .i64 5], []) := by
  obtain ⟨m, rfl⟩ : ∃ j, m = j + 1 := ⟨m - 1, by omega⟩
  have hsl := hs.1
  have hsb := inR_get hs
  have hn1 := hB.n1; have hn2 := hB.n2
  have lx : ∀ H, evP H .len [x] = some (.int .i64 ((b.length : Nat) : Int)) := fun H => by cases hx <;> rfl
  have e52 := fun H => c52 hx hy (by omega) (by omega) (m := m) (by omega) H
  rw [if_pos ⟨hB, hs⟩] at e52
  have e63 := fun H => c63 hy (by omega) (fun j hj => by have := hsb j (by omega); omega) (m := m) (by omega) H
  rw [hsl] at e63
  refine f_enter rfl rfl ?_
  generalize evF tab it m = call at *
  generalize sumTo (gf s) b.length = S at *
  repeat' first
 | (apply s_mov; (focus ((conv => lhs; whnf); done)))
 | (apply s_gT; exact rfl)
 | (apply s_gF; exact rfl)
 | (apply s_gFD; exact rfl)
 | (apply c_nil)
 | (apply s_pickT; exact rfl; (focus ((conv => lhs; whnf); done)))
 | (apply s_pickF; exact rfl; (focus ((conv => lhs; whnf); done)))
 | ((first | apply s_lss | apply s_leq | apply s_gtr | apply s_geq | apply s_eql | apply s_neq); exact rfl; all_goals (intro _; try (exfalso; omega)))
 | (apply s_pn; (focus (repeat (first | apply opds_nil | (apply opds_cons; (first | (focus ((conv => lhs; whnf); done)) | exact rfl))))); exact lx _)
 | (apply s_cn; (focus (repeat (first | apply opds_nil | (apply opds_cons; (first | (focus ((conv => lhs; whnf); done)) | exact rfl))))); exact e52 _)
 | (apply s_cn; (focus (repeat (first | apply opds_nil | (apply opds_cons; (first | (focus ((conv => lhs; whnf); done)) | exact rfl))))); exact e63 _)
 | (apply c_seq)
 | (apply c_reg)
 | (apply c_skip)
 | (apply c_ret)
 | (apply c_condT; exact rfl)
 | (apply c_condF; exact rfl)
 | (with_reducible apply k_c)
  all_goals first
    | (exfalso; omega)
    | exact fin_tt (by (conv => lhs; whnf)) (by (conv => lhs; whnf)) (by rfl) (by rfl) rfl
end Go.AM.Ch

set_option linter.unusedSectionVars false
set_option linter.unusedVariables false
set_option linter.unusedSimpArgs false
namespace Go.AM.Ch
theorem ty_rowsB {k : Nat} {cs : List AV} (h : TyAV T k 22 cs) : ∃ x l, cs = [x] ∧ IsLL x l ∧ l.length < 2 ^ 63 := by
  cases k with
  | zero => exact h.elim
  | succ k =>
    obtain ⟨s, hs, hm⟩ := h
    rw [T22] at hs; cases hs
    rcases hm with rfl | ⟨len, cells, se, h1, rfl, h3, h5, h4⟩
    · exact ⟨_, [], rfl, .nil, by simp⟩
    · rw [T23] at h1; cases h1
      simp only [Nat.mul_one] at h3 h4
      have key : ∀ (cs : List AV), (∀ i, i < cs.length → ∃ l, IsL (cs.getD i .undef) l) → ∃ ll : List (List Int), cs.length = ll.length ∧ ∀ i, i < ll.length → IsL (cs.getD i .undef) (ll.getD i []) := by
        intro cs
        induction cs with
        | nil => intro _; exact ⟨[], rfl, fun i hi => by simp at hi⟩
        | cons c cs ih =>
          intro h
          obtain ⟨l, hl⟩ := h 0 (by simp)
          obtain ⟨ll, h1, h2⟩ := ih fun i hi => by simpa using h (i + 1) (by simpa using hi)
          refine ⟨l :: ll, by simp [h1], fun i hi => ?_⟩
          cases i with
          | zero => simpa using hl
          | succ i => simpa using h2 i (by simpa using hi)
      obtain ⟨ll, e1, e2⟩ := key cells fun i hi => by
        obtain ⟨x, l, hx, hl⟩ := ty_ints (h4 i (by omega))
        rw [take1 hi] at hx
        simp only [List.cons.injEq, and_true] at hx
        exact ⟨l, by rw [hx]; exact hl⟩
      have e3 : len = ll.length := by omega
      subst e3
      exact ⟨_, ll, rfl, .rd cells ll e1 e2, h5⟩
theorem arg_rowsB {k : Nat} {x : AV} (h : TyArg T k 22 x) : ∃ l, IsLL x l ∧ l.length < 9223372036854775808 := by
  rcases h with ⟨s, xs, hs, ha, _⟩ | ⟨s, hs, ha, h⟩
  · rw [T22] at hs; cases hs; cases ha
  · obtain ⟨y, l, hy, hl, hb⟩ := ty_rowsB h
    simp only [List.cons.injEq, and_true] at hy
    exact ⟨l, by rw [hy]; exact hl, hb⟩
end Go.AM.Ch

set_option linter.unusedSectionVars false
set_option linter.unusedVariables false
set_option linter.unusedSimpArgs false
namespace Go.AM.Ch
attribute [local go_sem] gc subHeap reach_skip ren_free reach_new reach_newp reach_end rangeL roots boxCells nodupB posOf renL AV.ren pickO renH renO looks look bindEnv envOf reach_int reach_bool reach_nilS reach_rd putRow cells_sl cells_int cells_bool cells_nilS cells_rd cells_agg reach_agg reach_tup idFreeL idf_sl idf_ptr idf_int idf_bool idf_nilS idf_rd reach_fn reach_mp cells_fn cells_ptr cells_mp idf_mp idf_fn idf_agg idf_tup
set_option maxHeartbeats 8000000
theorem c41e {x : AV} {b : List (List Int)} (hx : IsLL x b) (hl : b.length < 100) (h : ¬ IsB b) {m : Nat} (hm : 3000 ≤ m) (H : Heap) :
    callPure (evF tab it m) true 41 [x] H = some (.tup [.nilS, .int .i64 0, .int .i64 2], H) := by
  have f : evF tab it m 41 [x] [] = some (.tup [.nilS, .int .i64 0, .int .i64 2], []) := by
    obtain ⟨m, rfl⟩ : ∃ j, m = j + 1 := ⟨m - 1, by omega⟩
    have e60 := fun H => c60 hx hl (m := m) (by omega) H
    simp only [h, decide_false] at e60
    refine f_enter rfl rfl ?_
    generalize evF tab it m = call at *
    repeat' first
 | (apply s_mov; (focus ((conv => lhs; whnf); done)))
 | (apply c_nil)
 | (apply s_notF; exact rfl)
 | (apply s_cn; (focus (repeat (first | apply opds_nil | (apply opds_cons; (first | (focus ((conv => lhs; whnf); done)) | exact rfl))))); exact e60 _)
 | (apply c_seq)
 | (apply c_reg)
 | (apply c_ret)
 | (apply c_condT; exact rfl)
 | (with_reducible apply k_c)
    simp [finish, ress, resOf, look, tupOf, go_sem]
  exact callPure_free (by simp [idFreeL, AV.idFree, hx.free]) (by simp) f rfl
/-- law 9 -/
theorem f9 {x y : AV} {b : List (List Int)} {s : List Int} (hx : IsLL x b) (hy : IsL y s) : ∃ m H', evF tab it m 9 [x, y] [] = some (.bool true, H') := by
  obtain ⟨M, hM⟩ : ∃ M, M = smK + 100 := ⟨_, rfl⟩
  have hM1 : 100000 ≤ M := by have := smK_big; omega
  refine ⟨M + 1, [], ?_⟩
  have h25 := fun H => awakeN (m := M) (by omega) H
  have fx := hx.free; have fy := hy.free
  have a1 := fun H => c18 hx (m := M) (by omega) H
  have a2 := fun H => c19 hy (m := M) (by omega) H
  have b1 := fun H => c18 (isLL_fz (b12 b)) (m := M) (by omega) H
  have b2' := fun H => c19 (isL_fz (s.take 12)) (m := M) (by omega) H
  rw [b12_idem] at b1
  simp only [List.take_take, Nat.min_self] at b2'
  have lb : (b12 b).length ≤ 12 := by simp [b12]; omega
  have lb2 : ∀ l ∈ b12 b, l.length < 100 := fun l hl => by
    obtain ⟨r, _, rfl⟩ := List.mem_map.1 hl
    simp; omega
  have ls : (s.take 12).length ≤ 12 := by simp; omega
  generalize b12 b = B at *
  generalize s.take 12 = S at *
  have iB := isLL_fz B; have iS := isL_fz S
  have e21 := fun H => c21 iB iB ⟨by omega, lb2⟩ (m := M) (by omega) H
  have e22s := fun H => c22 iS iS (by omega) (m := M) (by omega) H
  have e23 := fun H => c23 iB (by omega) (m := M) (by omega) H
  have e24 := fun H => c24 iB iS (by omega) (m := M) (by omega) H
  simp only [decide_true] at e21 e22s
  have fB := iB.free; have fS := iS.free
  have lLL : ∀ (x : AV), IsLL x B → ∀ H, evP H .len [x] = some (.int .i64 ((B.length : Nat) : Int)) := fun x h H => by cases h <;> rfl
  have lB := lLL _ iB
  by_cases h1 : IsB B
  · have hn1 := h1.n1; have hn2 := h1.n2
    have g := gr_of h1
    simp only [h1, decide_true] at e23
    have e41 := fun H => c41 iB h1 (m := M) (by omega) H
    have e42 := fun H => c42 iB h1 (m := M) (by omega) H
    have hdd : degs B = degsB B := rfl
    rw [hdd] at e42
    have e35 := fun (i : Nat) (hi : i < B.length) H => c35d iB h1 hi (m := M) (by omega) H
    have hCl := canL_len B
    have hCg := fun (i : Nat) (h : i < B.length) => canL_get h
    have e22c : ∀ (H : Heap), H.data? 0 = some (iL (canL B)) → callPure (evF tab it M) true 22 [.rd 1 B.length (iL (canL B)), .sl 0 1 0 B.length] H = some (.bool true, H) := fun H h => by
      have f := f22 (rd_isL hCl) (rd_isL hCl) (by omega) M (by omega)
      simp only [decide_true] at f
      exact callPure_own (frzL_cons (frzV_of (rd_isL hCl).free) (frzL_cons (frz_sl h hCl) frzL_nil)) f rfl rfl rfl
    have fC := (rd_isL hCl).free
    -- what Rank answers
    obtain ⟨r, e, e40, hre⟩ : ∃ r e : Int, (∀ H, callPure (evF tab it M) true 40 [fzLL B, fzL S] H = some (.tup [.int .i64 r, .int .i64 e], H)) ∧
        ((InR B.length 1048576 S ∧ B.length ≤ 6 ∧ sumTo (gf S) B.length ≤ 12 ∧ r = rkI B S ∧ e = 0) ∨ (InR B.length 1048576 S ∧ (6 < B.length ∨ 12 < sumTo (gf S) B.length) ∧ r = 0 ∧ e = 5) ∨ (¬ InR B.length 1048576 S ∧ r = 0 ∧ e = 2)) := by
      have fa : idFreeL [fzLL B, fzL S] = true := by simp [idFreeL, AV.idFree, fB, fS]
      by_cases h2 : InR B.length 1048576 S
      · by_cases h3 : B.length ≤ 6 ∧ sumTo (gf S) B.length ≤ 12
        · exact ⟨_, _, fun H => callPure_free fa (by simp) (f40 iB iS h1 h2 h3.1 h3.2 (m := M) (by omega)) rfl, .inl ⟨h2, h3.1, h3.2, rfl, rfl⟩⟩
        · exact ⟨_, _, fun H => callPure_free fa (by simp) (f40f iB iS h1 h2 (by omega) (m := M) (by omega)) rfl, .inr (.inl ⟨h2, by omega, rfl, rfl⟩)⟩
      · exact ⟨_, _, fun H => callPure_free fa (by simp) (f40e iB iS (by omega) (by omega) (fun h => h2 h.2) (m := M) (by omega)) rfl, .inr (.inr ⟨h2, rfl, rfl⟩)⟩
    have e43 := fun h2 h12 H => c43 iB iS h1 h2 h12 (m := M) (by omega) H
    have e32 : InR B.length 1048576 S → ∀ H, callPure (evF tab it M) true 32 [fzL S] H = some (.int .i64 (sumTo (gf S) B.length), H) := fun h2 H => by
      have := c32 iS (by omega) (fun v hv => by have := h2.2 v hv; omega) (m := M) (by omega) H
      have e : sumI S = sumTo (gf S) B.length := by rw [← h2.1]; rfl
      rw [e] at this
      exact this
    generalize hR : canL B = R at *
    clear hM
    refine f_enter rfl rfl ?_
    generalize evF tab it M = call at *
    generalize degsB B / 2 - (B.length : Int) + 1 = G at *
    generalize hvC : AV.rd 1 B.length (iL R) = vC at *
    generalize hvB : fzLL B = vB at *
    generalize hvS : fzL S = vS at *
    have gA : ∀ (i : Nat) (C : List AV), gc 0 [vB, vS, .int .i64 r, .int .i64 e, vC, .int .i64 G, .int .i64 0, ownV 0 C, .int .i64 (i : Int)] (owH C) = some ([vB, vS, .int .i64 r, .int .i64 e, vC, .int .i64 G, .int .i64 0, ownV 0 C, .int .i64 (i : Int)], owH C) := fun i C => by
      cases C <;> simp [ownV, owH, go_sem, fB, fS, fC]
    repeat' first
 | (apply s_mov; (focus ((conv => lhs; whnf); done)))
 | (apply s_gT; exact rfl)
 | (apply c_nil)
 | (apply s_pickF; exact rfl; (focus ((conv => lhs; whnf); done)))
 | (apply s_notT; exact rfl)
 | (apply s_cn; (focus (repeat (first | apply opds_nil | (apply opds_cons; (first | (focus ((conv => lhs; whnf); done)) | exact rfl))))); exact a1 _)
 | (apply s_cn; (focus (repeat (first | apply opds_nil | (apply opds_cons; (first | (focus ((conv => lhs; whnf); done)) | exact rfl))))); exact a2 _)
 | (apply s_cn; (focus (repeat (first | apply opds_nil | (apply opds_cons; (first | (focus ((conv => lhs; whnf); done)) | exact rfl))))); exact b1 _)
 | (apply s_cn; (focus (repeat (first | apply opds_nil | (apply opds_cons; (first | (focus ((conv => lhs; whnf); done)) | exact rfl))))); exact b2' _)
 | (apply s_cn; (focus (repeat (first | apply opds_nil | (apply opds_cons; (first | (focus ((conv => lhs; whnf); done)) | exact rfl))))); exact e40 _)
 | (apply s_cn; (focus (repeat (first | apply opds_nil | (apply opds_cons; (first | (focus ((conv => lhs; whnf); done)) | exact rfl))))); exact e21 _)
 | (apply s_cn; (focus (repeat (first | apply opds_nil | (apply opds_cons; (first | (focus ((conv => lhs; whnf); done)) | exact rfl))))); exact e22s _)
 | (apply s_cn; (focus (repeat (first | apply opds_nil | (apply opds_cons; (first | (focus ((conv => lhs; whnf); done)) | exact rfl))))); exact e41 _)
 | (apply s_cn; (focus (repeat (first | apply opds_nil | (apply opds_cons; (first | (focus ((conv => lhs; whnf); done)) | exact rfl))))); exact e23 _)
 | (apply s_pd; (focus ((conv => lhs; whnf); done)))
 | (apply c_seq)
 | (apply c_reg)
 | (apply c_block)
 | (apply c_skip)
 | (apply c_condF; exact rfl)
 | (with_reducible apply k_c)
    refine c_loop ?_
    refine loop_gc (σ := Nat) (fun i => [vB, vS, .int .i64 r, .int .i64 e, vC, .int .i64 G, .int .i64 0, ownV 0 (iL (R.take i)), .int .i64 (i : Int)]) (fun i => owH (iL (R.take i))) (fun i => i ≤ B.length) (fun i => B.length - i) ?_ _ 0 _ _ (by omega) (by omega) (gA 0 [])
    intro i hi K hK
    by_cases hin : i < B.length
    · have h3 := hCg i hin
      have e35' := e35 i hin
      have hdg := deg_nn g hin
      have hstep : R.take (i + 1) = R.take i ++ [deg B.length (ed B) i - 2] := by
        rw [← List.take_append_getElem (by omega : i < R.length)]
        congr 1
        rw [getI_nat] at h3
        simpa [List.getD, show i < R.length by omega] using h3
      have hK1 := hK (i + 1)
      rw [hstep] at hK1
      have e1 : ∀ z : Int, iL (R.take i ++ [z]) = iL (R.take i) ++ [.int .i64 z] := fun z => by simp [iL]
      rw [e1] at hK1
      have hAl : (iL (R.take i)).length ≤ 12 := by rw [iL_len]; simp; omega
      generalize iL (R.take i) = A at *
      rcases A with _ | ⟨u, us⟩
      · simp only [ownV, owH] at *
        repeat' first
 | (apply s_mov; (focus ((conv => lhs; whnf); done)))
 | (apply c_nil)
 | ((first | apply s_lss | apply s_leq | apply s_gtr | apply s_geq | apply s_eql | apply s_neq); exact rfl; all_goals (intro _; try (exfalso; omega)))
 | ((first | apply s_add | apply s_sub); exact rfl; omega)
 | (apply s_pn; (focus (repeat (first | apply opds_nil | (apply opds_cons; (first | (focus ((conv => lhs; whnf); done)) | exact rfl))))); exact lB _)
 | (apply s_cn; (focus (repeat (first | apply opds_nil | (apply opds_cons; (first | (focus ((conv => lhs; whnf); done)) | exact rfl))))); exact e35' _)
 | (apply s_en; (focus (repeat (first | apply opds_nil | (apply opds_cons; (first | (focus ((conv => lhs; whnf); done)) | exact rfl))))); exact e_bld1 rfl rfl rfl rfl)
 | (apply s_en; (focus (repeat (first | apply opds_nil | (apply opds_cons; (first | (focus ((conv => lhs; whnf); done)) | exact rfl))))); exact e_app_nil rfl (by omega) (by decide))
 | (apply c_seq)
 | (apply c_reg)
 | (apply c_block)
 | (apply c_skip)
 | (apply c_condT; exact rfl)
 | (with_reducible apply k_c)
        all_goals first | (exfalso; omega) | exact hK1 _ _ (by omega) (by omega) (by simp [ownV, owH, go_sem, fB, fS, fC])
      · simp only [ownV, owH] at *
        repeat' first
 | (apply s_mov; (focus ((conv => lhs; whnf); done)))
 | (apply c_nil)
 | ((first | apply s_lss | apply s_leq | apply s_gtr | apply s_geq | apply s_eql | apply s_neq); exact rfl; all_goals (intro _; try (exfalso; omega)))
 | ((first | apply s_add | apply s_sub); exact rfl; omega)
 | (apply s_pn; (focus (repeat (first | apply opds_nil | (apply opds_cons; (first | (focus ((conv => lhs; whnf); done)) | exact rfl))))); exact lB _)
 | (apply s_cn; (focus (repeat (first | apply opds_nil | (apply opds_cons; (first | (focus ((conv => lhs; whnf); done)) | exact rfl))))); exact e35' _)
 | (apply s_en; (focus (repeat (first | apply opds_nil | (apply opds_cons; (first | (focus ((conv => lhs; whnf); done)) | exact rfl))))); exact e_bld1 rfl rfl rfl rfl)
 | (apply s_en; (focus (repeat (first | apply opds_nil | (apply opds_cons; (first | (focus ((conv => lhs; whnf); done)) | exact rfl))))); exact e_app_sl rfl rfl (by omega) (by simp at hAl; unfold most; omega))
 | (apply c_seq)
 | (apply c_reg)
 | (apply c_block)
 | (apply c_skip)
 | (apply c_condT; exact rfl)
 | (with_reducible apply k_c)
        all_goals first | (exfalso; omega) | exact hK1 _ _ (by omega) (by omega) (by simp [ownV, owH, go_sem, fB, fS, fC])
    · obtain rfl : i = B.length := by omega
      have hall : R.take B.length = R := List.take_of_length_le (by omega)
      rw [hall]
      have hown : ownV 0 (iL R) = .sl 0 1 0 B.length ∧ owH (iL R) = [some (.data (iL R))] := by
        have h1 := iL_len R
        rw [hCl] at h1
        generalize iL R = C at *
        cases C with
        | nil => simp at h1; omega
        | cons c cs => simp only [List.length_cons] at h1; constructor <;> simp [ownV, owH]; omega
      rw [hown.1, hown.2]
      have e22c' := e22c [some (.data (iL R))] rfl
      have gE : gc 0 [vB, vS, .int .i64 r, .int .i64 e, vC, .int .i64 G, .int .i64 0, .sl 0 1 0 B.length] [some (.data (iL R))] = some ([vB, vS, .int .i64 r, .int .i64 e, vC, .int .i64 G, .int .i64 0, .sl 0 1 0 B.length], [some (.data (iL R))]) := by
        simp [go_sem, fB, fS, fC]
      skip
      repeat' first
 | (apply s_mov; (focus ((conv => lhs; whnf); done)))
 | (apply c_nil)
 | ((first | apply s_lss | apply s_leq | apply s_gtr | apply s_geq | apply s_eql | apply s_neq); exact rfl; all_goals (intro _; try (exfalso; omega)))
 | (apply s_pn; (focus (repeat (first | apply opds_nil | (apply opds_cons; (first | (focus ((conv => lhs; whnf); done)) | exact rfl))))); exact lB _)
 | (apply c_seq)
 | (apply c_reg)
 | (apply c_exitH)
 | (apply c_condF; exact rfl)
 | (with_reducible apply k_c)
      all_goals try (exfalso; omega)
      apply c_pre
      · exact gE
      rcases hre with ⟨h2, h6, h12, rfl, rfl⟩ | ⟨h2, hh, rfl, rfl⟩ | ⟨h2, rfl, rfl⟩
      · have e43' := e43 h2 h12
        have e32' := e32 h2
        simp only [h2, decide_true] at e24
        repeat' first
 | (apply s_mov; (focus ((conv => lhs; whnf); done)))
 | (apply s_gT; exact rfl)
 | (apply c_nil)
 | (apply s_pickT; exact rfl; (focus ((conv => lhs; whnf); done)))
 | (apply s_pickF; exact rfl; (focus ((conv => lhs; whnf); done)))
 | (apply s_notT; exact rfl)
 | ((first | apply s_lss | apply s_leq | apply s_gtr | apply s_geq | apply s_eql | apply s_neq); exact rfl; all_goals (intro _; try (exfalso; omega)))
 | (apply s_pn; (focus (repeat (first | apply opds_nil | (apply opds_cons; (first | (focus ((conv => lhs; whnf); done)) | exact rfl))))); exact lB _)
 | (apply s_cn; (focus (repeat (first | apply opds_nil | (apply opds_cons; (first | (focus ((conv => lhs; whnf); done)) | exact rfl))))); exact e22c')
 | (apply s_cn; (focus (repeat (first | apply opds_nil | (apply opds_cons; (first | (focus ((conv => lhs; whnf); done)) | exact rfl))))); exact e42 _)
 | (apply s_cn; (focus (repeat (first | apply opds_nil | (apply opds_cons; (first | (focus ((conv => lhs; whnf); done)) | exact rfl))))); exact e24 _)
 | (apply s_cn; (focus (repeat (first | apply opds_nil | (apply opds_cons; (first | (focus ((conv => lhs; whnf); done)) | exact rfl))))); exact e32' _)
 | (apply s_cn; (focus (repeat (first | apply opds_nil | (apply opds_cons; (first | (focus ((conv => lhs; whnf); done)) | exact rfl))))); exact e43' _)
 | (apply s_cn; (focus (repeat (first | apply opds_nil | (apply opds_cons; (first | (focus ((conv => lhs; whnf); done)) | exact rfl))))); exact h25 _)
 | (apply c_seq)
 | (apply c_reg)
 | (apply c_skip)
 | (apply c_ret)
 | (apply c_condF; exact rfl)
 | (with_reducible apply k_c)
        all_goals first
          | (exfalso; omega)
          | exact fin_t (by (conv => lhs; whnf)) (by rfl) rfl
      · have e32' := e32 h2
        simp only [h2, decide_true] at e24
        repeat' first
 | (apply s_mov; (focus ((conv => lhs; whnf); done)))
 | (apply s_gT; exact rfl)
 | (apply s_gF; exact rfl)
 | (apply s_gFD; exact rfl)
 | (apply c_nil)
 | (apply s_pickT; exact rfl; (focus ((conv => lhs; whnf); done)))
 | (apply s_pickF; exact rfl; (focus ((conv => lhs; whnf); done)))
 | (apply s_notT; exact rfl)
 | ((first | apply s_lss | apply s_leq | apply s_gtr | apply s_geq | apply s_eql | apply s_neq); exact rfl; all_goals (intro _; try (exfalso; omega)))
 | (apply s_pn; (focus (repeat (first | apply opds_nil | (apply opds_cons; (first | (focus ((conv => lhs; whnf); done)) | exact rfl))))); exact lB _)
 | (apply s_cn; (focus (repeat (first | apply opds_nil | (apply opds_cons; (first | (focus ((conv => lhs; whnf); done)) | exact rfl))))); exact e22c')
 | (apply s_cn; (focus (repeat (first | apply opds_nil | (apply opds_cons; (first | (focus ((conv => lhs; whnf); done)) | exact rfl))))); exact e42 _)
 | (apply s_cn; (focus (repeat (first | apply opds_nil | (apply opds_cons; (first | (focus ((conv => lhs; whnf); done)) | exact rfl))))); exact e24 _)
 | (apply s_cn; (focus (repeat (first | apply opds_nil | (apply opds_cons; (first | (focus ((conv => lhs; whnf); done)) | exact rfl))))); exact e32' _)
 | (apply s_cn; (focus (repeat (first | apply opds_nil | (apply opds_cons; (first | (focus ((conv => lhs; whnf); done)) | exact rfl))))); exact h25 _)
 | (apply c_seq)
 | (apply c_reg)
 | (apply c_skip)
 | (apply c_ret)
 | (apply c_condT; exact rfl)
 | (apply c_condF; exact rfl)
 | (with_reducible apply k_c)
        all_goals first
          | (exfalso; omega)
          | exact fin_t (by (conv => lhs; whnf)) (by rfl) rfl
      · simp only [h2, decide_false] at e24
        repeat' first
 | (apply s_mov; (focus ((conv => lhs; whnf); done)))
 | (apply s_gT; exact rfl)
 | (apply c_nil)
 | (apply s_pickT; exact rfl; (focus ((conv => lhs; whnf); done)))
 | (apply s_pickF; exact rfl; (focus ((conv => lhs; whnf); done)))
 | (apply s_notT; exact rfl)
 | (apply s_notF; exact rfl)
 | ((first | apply s_lss | apply s_leq | apply s_gtr | apply s_geq | apply s_eql | apply s_neq); exact rfl; all_goals (intro _; try (exfalso; omega)))
 | (apply s_cn; (focus (repeat (first | apply opds_nil | (apply opds_cons; (first | (focus ((conv => lhs; whnf); done)) | exact rfl))))); exact e22c')
 | (apply s_cn; (focus (repeat (first | apply opds_nil | (apply opds_cons; (first | (focus ((conv => lhs; whnf); done)) | exact rfl))))); exact e42 _)
 | (apply s_cn; (focus (repeat (first | apply opds_nil | (apply opds_cons; (first | (focus ((conv => lhs; whnf); done)) | exact rfl))))); exact e24 _)
 | (apply s_cn; (focus (repeat (first | apply opds_nil | (apply opds_cons; (first | (focus ((conv => lhs; whnf); done)) | exact rfl))))); exact h25 _)
 | (apply c_seq)
 | (apply c_reg)
 | (apply c_skip)
 | (apply c_ret)
 | (apply c_condT; exact rfl)
 | (apply c_condF; exact rfl)
 | (with_reducible apply k_c)
        all_goals first
          | (exfalso; omega)
          | exact fin_t (by (conv => lhs; whnf)) (by rfl) rfl
  · have e40 : ∀ H, callPure (evF tab it M) true 40 [fzLL B, fzL S] H = some (.tup [.int .i64 0, .int .i64 2], H) := fun H => callPure_free (by simp [idFreeL, AV.idFree, fB, fS]) (by simp) (f40e iB iS (by omega) (by omega) (fun h => h1 h.1) (m := M) (by omega)) rfl
    have e41 := fun H => c41e iB (by omega) h1 (m := M) (by omega) H
    simp only [h1, decide_false] at e23
    clear hM
    refine f_enter rfl rfl ?_
    generalize evF tab it M = call at *
    generalize fzLL B = vB at *
    generalize fzL S = vS at *
    repeat' first
 | (apply s_mov; (focus ((conv => lhs; whnf); done)))
 | (apply s_gT; exact rfl)
 | (apply c_nil)
 | (apply s_pickT; exact rfl; (focus ((conv => lhs; whnf); done)))
 | (apply s_pickF; exact rfl; (focus ((conv => lhs; whnf); done)))
 | (apply s_notT; exact rfl)
 | (apply s_notF; exact rfl)
 | ((first | apply s_lss | apply s_leq | apply s_gtr | apply s_geq | apply s_eql | apply s_neq); exact rfl; all_goals (intro _; try (exfalso; omega)))
 | (apply s_cn; (focus (repeat (first | apply opds_nil | (apply opds_cons; (first | (focus ((conv => lhs; whnf); done)) | exact rfl))))); exact a1 _)
 | (apply s_cn; (focus (repeat (first | apply opds_nil | (apply opds_cons; (first | (focus ((conv => lhs; whnf); done)) | exact rfl))))); exact a2 _)
 | (apply s_cn; (focus (repeat (first | apply opds_nil | (apply opds_cons; (first | (focus ((conv => lhs; whnf); done)) | exact rfl))))); exact b1 _)
 | (apply s_cn; (focus (repeat (first | apply opds_nil | (apply opds_cons; (first | (focus ((conv => lhs; whnf); done)) | exact rfl))))); exact b2' _)
 | (apply s_cn; (focus (repeat (first | apply opds_nil | (apply opds_cons; (first | (focus ((conv => lhs; whnf); done)) | exact rfl))))); exact e40 _)
 | (apply s_cn; (focus (repeat (first | apply opds_nil | (apply opds_cons; (first | (focus ((conv => lhs; whnf); done)) | exact rfl))))); exact e21 _)
 | (apply s_cn; (focus (repeat (first | apply opds_nil | (apply opds_cons; (first | (focus ((conv => lhs; whnf); done)) | exact rfl))))); exact e22s _)
 | (apply s_cn; (focus (repeat (first | apply opds_nil | (apply opds_cons; (first | (focus ((conv => lhs; whnf); done)) | exact rfl))))); exact e41 _)
 | (apply s_cn; (focus (repeat (first | apply opds_nil | (apply opds_cons; (first | (focus ((conv => lhs; whnf); done)) | exact rfl))))); exact e23 _)
 | (apply s_cn; (focus (repeat (first | apply opds_nil | (apply opds_cons; (first | (focus ((conv => lhs; whnf); done)) | exact rfl))))); exact h25 _)
 | (apply s_pd; (focus ((conv => lhs; whnf); done)))
 | (apply c_seq)
 | (apply c_reg)
 | (apply c_skip)
 | (apply c_ret)
 | (apply c_condT; exact rfl)
 | (apply c_condF; exact rfl)
 | (with_reducible apply k_c)
    all_goals first
      | (exfalso; omega)
      | exact fin_t (by (conv => lhs; whnf)) (by rfl) rfl
end Go.AM.Ch
