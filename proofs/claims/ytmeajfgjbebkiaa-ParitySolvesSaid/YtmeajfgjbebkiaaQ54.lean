/- A part of the proof: Q54. -/
import Derived.Test.YtmeajfgjbebkiaaQ53
set_option linter.unusedSectionVars false
set_option linter.unusedVariables false
set_option linter.unusedSimpArgs false
namespace Go.AM.Pa
attribute [local go_sem] gc subHeap reach_skip ren_free reach_new reach_newp reach_end rangeL roots boxCells nodupB posOf renL AV.ren pickO renH renO looks look bindEnv envOf reach_int reach_bool reach_nilS reach_rd putRow cells_sl cells_int cells_bool cells_nilS cells_rd cells_agg reach_agg reach_tup idFreeL idf_sl idf_ptr idf_int idf_bool idf_nilS idf_rd
/-! ref.solve -/
theorem frzV_rd {H : Heap} {k a b : Nat} {c : List AV} : frzV H (k + 1) (.rd a b c) = some (.rd a b c) := by simp only [frzV]
theorem pb_tt {H : Heap} : evP H (.beq false) [.bool true, .bool true] = some (.bool true) := rfl
theorem pb_tf {H : Heap} : evP H (.beq false) [.bool true, .bool false] = some (.bool false) := rfl
theorem pb_ft {H : Heap} : evP H (.beq false) [.bool false, .bool true] = some (.bool false) := rfl
theorem pb_ff {H : Heap} : evP H (.beq false) [.bool false, .bool false] = some (.bool true) := rfl
def outL (n : Nat) (inn z : List Bool) : List Bool := (List.range n).map fun (i : Nat) => getB inn i && !getB z i
theorem outL_len (n : Nat) (inn z : List Bool) : (outL n inn z).length = n := by simp [outL]
theorem getB_outside {b : List Bool} {i : Nat} (h : b.length ≤ i) : getB b i = false := by
  rw [getB_nat]; simp [List.getD, List.getElem?_eq_none h]
theorem getB_mapN (n : Nat) (f : Nat → Bool) (i : Nat) : getB ((List.range n).map f) i = (decide (i < n) && f i) := by
  by_cases h : i < n
  · rw [getB_map h]; simp [h]
  · rw [getB_outside (by simp; omega)]; simp [h]
theorem getB_outL {n : Nat} {inn z : List Bool} (hlt : ∀ i : Nat, getB inn i = true → i < n) (i : Nat) : getB (outL n inn z) i = (getB inn i && !getB z i) := by
  rw [outL, getB_mapN]
  by_cases h : i < n
  · simp [h]
  · have : getB inn i = false := Bool.eq_false_iff.2 fun e => h (hlt i e)
    simp [this]
theorem ct_zero {b : List Bool} (hb : b.length = 24) (h : ∀ i : Nat, getB b i = false) : b = z24 := by
  refine Classical.byContradiction fun hne => ?_
  obtain ⟨i, hi⟩ := ne_z hb hne
  rw [h i] at hi; cases hi
set_option maxHeartbeats 8000000
theorem walk61 {call : CallF} {it : IterF} {m n : Nat} {xo xr xn : AV} {rk : List Int} {reg SET NEAR REST INNER LOST FAR REST2 INNER2 RES : List Bool} {top P : Int}
    (ho1 : xo.one = true) (hr : IsL xr rk) (hn1 : xn.one = true) (fo : xo.idFree = true) (fn : xn.idFree = true) (hm : 30 ≤ m) (hn24 : n ≤ 24) (hrkl : rk.length = n) (hrl : reg.length = n)
    (huniq : ∀ t : Int, (∀ j : Nat, j < n → getB reg j = true → getI rk j ≤ t) → (t = -1 ∨ ∃ j : Nat, j < n ∧ getB reg j = true ∧ getI rk j = t) → t = top)
    (h0 : top < 0 → RES = List.replicate n false) (hP : top.tmod 2 = P) (hSET : (List.range n).map (fun (j : Nat) => getB reg j && decide (getI rk j = top)) = SET)
    (hLOST : (List.range n).map (fun (j : Nat) => getB REST j && (getB INNER j == decide (P = 0))) = LOST) (hRl : REST.length = n) (hIl : INNER.length = n)
    (h48a : ¬ top < 0 → ∀ args H, frzL H 40 args = some [.agg [xo, xr, xn], .int .i64 P, .rd 1 n (bL SET), .rd 1 n (bL reg)] → callPure call true 48 args H = some (.rd 1 n (bL NEAR), H))
    (h69a : ¬ top < 0 → ∀ H, callPure call true 69 [.rd 1 n (bL reg), .rd 1 n (bL NEAR)] H = some (.rd 1 n (bL REST), H))
    (h61a : ¬ top < 0 → ∀ H, callPure call true 61 [.agg [xo, xr, xn], .rd 1 n (bL REST)] H = some (.rd 1 n (bL INNER), H))
    (hA : ¬ top < 0 → (¬ ∃ j : Nat, j < n ∧ (getB REST j && (getB INNER j == decide (P = 0))) = true) → (List.range n).map (fun (j : Nat) => getB reg j && decide (P = 1)) = RES)
    (h48b : ¬ top < 0 → (∃ j : Nat, j < n ∧ (getB REST j && (getB INNER j == decide (P = 0))) = true) → ∀ args H, frzL H 40 args = some [.agg [xo, xr, xn], .int .i64 (1 - P), .rd 1 n (bL LOST), .rd 1 n (bL reg)] → callPure call true 48 args H = some (.rd 1 n (bL FAR), H))
    (h69b : ¬ top < 0 → (∃ j : Nat, j < n ∧ (getB REST j && (getB INNER j == decide (P = 0))) = true) → ∀ H, callPure call true 69 [.rd 1 n (bL reg), .rd 1 n (bL FAR)] H = some (.rd 1 n (bL REST2), H))
    (h61b : ¬ top < 0 → (∃ j : Nat, j < n ∧ (getB REST j && (getB INNER j == decide (P = 0))) = true) → ∀ H, callPure call true 61 [.agg [xo, xr, xn], .rd 1 n (bL REST2)] H = some (.rd 1 n (bL INNER2), H))
    (hFl : ¬ top < 0 → (∃ j : Nat, j < n ∧ (getB REST j && (getB INNER j == decide (P = 0))) = true) → FAR.length = n ∧ INNER2.length = n)
    (hB : ¬ top < 0 → (∃ j : Nat, j < n ∧ (getB REST j && (getB INNER j == decide (P = 0))) = true) → (List.range n).map (fun (j : Nat) => getB reg j && ((getB FAR j && decide (P = 0)) || (!getB FAR j && getB INNER2 j))) = RES)
    (hp : ¬ top < 0 → P = 0 ∨ P = 1) :
    RC call it m af61.body 0 (finish 0 [.t 4]) (fun _ _ _ => none) (finish 0 [.t 4]) (envOf 0 [.agg [xo, xr, xn], .rd 1 n (bL reg)]) [] (some (.sl 0 1 0 n, [some (.data (bL RES))])) := by
  have fr := hr.free
  have ob : ∀ call, evE call [] (.box false) [.agg [xo, xr, xn]] = some (.ptr 0 0, [some (.box [xo, xr, xn])]) := fun call => by simp [evE, AV.cells, oneL, ho1, hr.one, hn1, mkHO]
  repeat' first
 | (apply s_mov; (focus ((conv => lhs; whnf); done)))
 | (apply c_nil)
 | (apply s_en; (focus (repeat (first | apply opds_nil | (apply opds_cons; (first | (focus ((conv => lhs; whnf); done)) | exact rfl))))); exact ob _)
 | (apply s_en; (focus (repeat (first | apply opds_nil | (apply opds_cons; (first | (focus ((conv => lhs; whnf); done)) | exact rfl))))); exact e_mkB (by unfold most; omega))
 | (apply s_lenRd; exact rfl)
 | (apply c_seq)
 | (apply c_reg)
 | (apply c_block)
 | (with_reducible apply k_c)
  refine c_loop ?_
  refine loop_gc (σ := Nat × Int) (fun s => [.rd 1 n (bL reg), .ptr 0 0, .int .i64 n, .sl 1 1 0 n, .int .i64 s.2, .int .i64 s.1]) (fun s => [some (.box [xo, xr, xn]), some (.data (bL (List.replicate n false)))]) (fun s => s.1 ≤ n ∧ (∀ j : Nat, j < s.1 → getB reg j = true → getI rk j ≤ s.2) ∧ (s.2 = -1 ∨ ∃ j : Nat, j < n ∧ getB reg j = true ∧ getI rk j = s.2)) (fun s => n - s.1) ?_ _ (0, -1) _ _ ⟨by simp, fun j hj => by simp at hj, .inl rfl⟩ (by simp only; omega) (by simp [go_sem, fo, fr, fn]; done)
  intro ⟨i, t⟩ ⟨hi, ht1, ht2⟩ K hK
  simp only at hi ht1 ht2 hK ⊢
  repeat' first
 | (apply s_mov; (focus ((conv => lhs; whnf); done)))
 | (apply c_nil)
 | ((first | apply s_lss | apply s_leq | apply s_gtr | apply s_geq | apply s_eql | apply s_neq); exact rfl; all_goals (intro _; try (exfalso; omega)))
 | ((first | apply s_add | apply s_sub); exact rfl; omega)
 | (apply s_idx; (focus ((conv => lhs; whnf); done)); exact rfl; (first | assumption | (apply IsLL.at; assumption; omega)); omega)
 | (apply s_ldRB; exact rfl; omega; all_goals intro _)
 | (apply s_idxRB; exact rfl; exact rfl; omega)
 | (apply s_mx; exact rfl; exact rfl)
 | (apply s_ldI; exact rfl; omega)
 | (apply s_pd; (focus ((conv => lhs; whnf); done)))
 | (apply c_seq)
 | (apply c_reg)
 | (apply c_block)
 | (apply c_exitH)
 | (apply c_skip)
 | (apply c_condT; exact rfl)
 | (apply c_condF; exact rfl)
 | (with_reducible apply k_c)
  · rename_i q1 q2
    refine hK (i + 1, if getI rk i > t then getI rk i else t) _ _ ⟨by simp only; omega, fun j hj hr => ?_, ?_⟩ (by simp only; omega) (by simp [go_sem, fo, fr, fn]; done)
    · simp only at hj ⊢
      rcases (by omega : j < i ∨ j = i) with h | rfl
      · have := ht1 j h hr
        split <;> omega
      · split <;> omega
    · simp only
      split
      · exact .inr ⟨i, by omega, q2, rfl⟩
      · exact ht2
  · rename_i q1 q2
    refine hK (i + 1, t) _ _ ⟨by simp only; omega, fun j hj hr => ?_, ht2⟩ (by simp only; omega) (by simp [go_sem, fo, fr, fn]; done)
    simp only at hj
    rcases (by omega : j < i ∨ j = i) with h | rfl
    · exact ht1 j h hr
    · rw [q2] at hr; cases hr
  have hin : i = n := by omega
  subst hin
  obtain rfl := huniq t ht1 ht2
  clear hK ht1 ht2 huniq hi
  refine c_pre (vs := [.rd 1 i (bL reg), .ptr 0 0, .int .i64 i, .sl 1 1 0 i, .int .i64 t]) (H' := [some (.box [xo, xr, xn]), some (.data (bL (List.replicate i false)))]) (by simp [go_sem, fo, fr, fn]; done) ?_
  have hz0 := upto_zero i fun (j : Nat) => getB reg j && decide (getI rk j = t)
  by_cases ht0 : t < 0
  · rw [h0 ht0]
    repeat' first
 | (apply s_mov; (focus ((conv => lhs; whnf); done)))
 | (apply c_nil)
 | ((first | apply s_lss | apply s_leq | apply s_gtr | apply s_geq | apply s_eql | apply s_neq); exact rfl; all_goals (intro _; try (exfalso; omega)))
 | (apply c_seq)
 | (apply c_reg)
 | (apply c_ret)
 | (apply c_condT; exact rfl)
 | (with_reducible apply k_c)
    simp [finish, ress, resOf, look, tupOf, gc, subHeap, reach_new, reach_end, rangeL, roots, boxCells, nodupB, posOf, renL, AV.ren, pickO, renH, renO, bindEnv]
  have a1 := h48a ht0; have a2 := h69a ht0; have a3 := h61a ht0; have a4 := hA ht0; have b1 := h48b ht0; have b2 := h69b ht0; have b3 := h61b ht0; have b4 := hFl ht0; have b5 := hB ht0; have hp01 : 0 ≤ P ∧ P ≤ 1 := by have := hp ht0; omega
  clear h0 h48a h69a h61a hA h48b h69b h61b hFl hB hp
  repeat' first
 | (apply s_mov; (focus ((conv => lhs; whnf); done)))
 | (apply c_nil)
 | ((first | apply s_lss | apply s_leq | apply s_gtr | apply s_geq | apply s_eql | apply s_neq); exact rfl; all_goals (intro _; try (exfalso; omega)))
 | (apply s_en; (focus (repeat (first | apply opds_nil | (apply opds_cons; (first | (focus ((conv => lhs; whnf); done)) | exact rfl))))); exact e_mkB (by unfold most; omega))
 | (apply s_rem2; exact rfl)
 | (apply c_seq)
 | (apply c_reg)
 | (apply c_block)
 | (apply c_skip)
 | (apply c_condF; exact rfl)
 | (with_reducible apply k_c)
  refine c_loop ?_
  refine loop_gc (σ := Nat) (fun v => [.rd 1 i (bL reg), .ptr 0 0, .int .i64 i, .sl 1 1 0 i, .int .i64 t, .int .i64 (t.tmod 2), .sl 2 1 0 i, .int .i64 v]) (fun v => [some (.box [xo, xr, xn]), some (.data (bL (List.replicate i false))), some (.data (bL (upto i (fun (j : Nat) => getB reg j && decide (getI rk j = t)) v)))]) (fun v => v ≤ i) (fun v => i - v) ?_ _ 0 _ _ (by omega) (by omega) (by simp [go_sem, fo, fr, fn, hz0]; done)
  intro v hv K hK
  have hul := upto_len i (fun (j : Nat) => getB reg j && decide (getI rk j = t)) v
  repeat' first
 | (apply s_mov; (focus ((conv => lhs; whnf); done)))
 | (apply s_gT; exact rfl)
 | (apply s_gF; exact rfl)
 | (apply c_nil)
 | (apply s_pickT; exact rfl; (focus ((conv => lhs; whnf); done)))
 | (apply s_pickF; exact rfl; (focus ((conv => lhs; whnf); done)))
 | ((first | apply s_lss | apply s_leq | apply s_gtr | apply s_geq | apply s_eql | apply s_neq); exact rfl; all_goals (intro _; try (exfalso; omega)))
 | ((first | apply s_add | apply s_sub); exact rfl; omega)
 | (apply s_st; (focus (repeat (first | apply opds_nil | (apply opds_cons; (first | (focus ((conv => lhs; whnf); done)) | exact rfl))))); exact e_stB rfl (by omega))
 | (apply s_idx; (focus ((conv => lhs; whnf); done)); exact rfl; (first | assumption | (apply IsLL.at; assumption; omega)); omega)
 | (apply s_ldRB; exact rfl; omega; all_goals intro _)
 | (apply s_idxRB; exact rfl; exact rfl; omega)
 | (apply s_idxS; exact rfl; exact rfl; omega)
 | (apply s_ldI; exact rfl; omega)
 | (apply s_pd; (focus ((conv => lhs; whnf); done)))
 | (apply c_seq)
 | (apply c_reg)
 | (apply c_block)
 | (apply c_exitH)
 | (apply c_skip)
 | (apply c_condT; exact rfl)
 | (apply c_condF; exact rfl)
 | (with_reducible apply k_c)
  · rename_i q1 q2 q3
    refine hK (v + 1) _ _ (by omega) (by omega) ?_
    rw [← upto_set (b := true) (by simp [q2, q3])]
    exact (by simp [go_sem, fo, fr, fn, Int.toNat_natCast]; done)
  · rename_i q1 q2 q3
    refine hK (v + 1) _ _ (by omega) (by omega) ?_
    rw [← upto_set (b := false) (by simp [q2, q3])]
    exact (by simp [go_sem, fo, fr, fn, Int.toNat_natCast]; done)
  · rename_i q1 q2
    refine hK (v + 1) _ _ (by omega) (by omega) ?_
    rw [← upto_set (b := false) (by simp [q2])]
    exact (by simp [go_sem, fo, fr, fn, Int.toNat_natCast]; done)
  have hin : v = i := by omega
  clear hK hul hz0
  rw [hin, upto_all, hSET, hP]
  have hSl : (bL SET).length = i := by rw [bL_len, ← hSET]; simp
  have hSt : (bL SET).take i = bL SET := List.take_of_length_le (by omega)
  have a1' := a1 [.agg [xo, xr, xn], .int .i64 P, .sl 2 1 0 i, .rd 1 i (bL reg)] [some (.box [xo, xr, xn]), some (.data (bL (List.replicate i false))), some (.data (bL SET))] (by simp [frzL_cons, frzL_nil, frzV_free, frzV_int, frzV_sl, frzV_rd, AV.idFree, idFreeL, fo, fr, fn, Heap.data?, hSl, hSt])
  clear a1 hSl hSt hSET hP ht0 hv hin hrkl
  have hz1 := upto_zero i fun (j : Nat) => getB REST j && (getB INNER j == decide (P = 0))
  refine c_pre (vs := [.rd 1 i (bL reg), .ptr 0 0, .int .i64 i, .sl 1 1 0 i, .int .i64 P, .sl 2 1 0 i]) (H' := [some (.box [xo, xr, xn]), some (.data (bL (List.replicate i false))), some (.data (bL SET))]) (by simp [go_sem, fo, fr, fn]; done) ?_
  repeat' first
 | (apply s_mov; (focus ((conv => lhs; whnf); done)))
 | (apply c_nil)
 | (apply s_cn; (focus (repeat (first | apply opds_nil | (apply opds_cons; (first | (focus ((conv => lhs; whnf); done)) | exact rfl))))); exact a1')
 | (apply s_cn; (focus (repeat (first | apply opds_nil | (apply opds_cons; (first | (focus ((conv => lhs; whnf); done)) | exact rfl))))); exact a2 _)
 | (apply s_cn; (focus (repeat (first | apply opds_nil | (apply opds_cons; (first | (focus ((conv => lhs; whnf); done)) | exact rfl))))); exact a3 _)
 | (apply s_en; (focus (repeat (first | apply opds_nil | (apply opds_cons; (first | (focus ((conv => lhs; whnf); done)) | exact rfl))))); exact e_mkB (by unfold most; omega))
 | (apply s_pd; (focus ((conv => lhs; whnf); done)))
 | (apply c_seq)
 | (apply c_reg)
 | (apply c_block)
 | (with_reducible apply k_c)
  clear a1' a2 a3
  refine c_loop ?_
  refine loop_gc (σ := Nat × Bool) (fun s => [.rd 1 i (bL reg), .ptr 0 0, .int .i64 i, .sl 1 1 0 i, .int .i64 P, .rd 1 i (bL REST), .sl 2 1 0 i, .bool s.2, .rd 1 i (bL INNER), .int .i64 s.1]) (fun s => [some (.box [xo, xr, xn]), some (.data (bL (List.replicate i false))), some (.data (bL (upto i (fun (j : Nat) => getB REST j && (getB INNER j == decide (P = 0))) s.1)))]) (fun s => s.1 ≤ i ∧ (s.2 = true ↔ ∃ j : Nat, j < s.1 ∧ (getB REST j && (getB INNER j == decide (P = 0))) = true)) (fun s => i - s.1) ?_ _ (0, false) _ _ ⟨by simp, by simp⟩ (by simp only; omega) (by simp [go_sem, fo, fr, fn, hz1]; done)
  clear hz1
  intro ⟨v, one⟩ ⟨hv, hone⟩ K hK
  simp only at hv hone hK ⊢
  have hul := upto_len i (fun (j : Nat) => getB REST j && (getB INNER j == decide (P = 0))) v
  have hsuc : ∀ b, (getB REST v && (getB INNER v == decide (P = 0))) = b → ((one || b) = true ↔ ∃ j : Nat, j < v + 1 ∧ (getB REST j && (getB INNER j == decide (P = 0))) = true) := fun b hb => by
    constructor
    · intro h
      rw [Bool.or_eq_true] at h
      rcases h with h | h
      · obtain ⟨j, h1, h2⟩ := hone.1 h
        exact ⟨j, by omega, h2⟩
      · exact ⟨v, by omega, hb.trans h⟩
    · rintro ⟨j, h1, h2⟩
      rw [Bool.or_eq_true]
      rcases (by omega : j < v ∨ j = v) with h | rfl
      · exact .inl (hone.2 ⟨j, h, h2⟩)
      · exact .inr (hb.symm.trans h2)
  have ldS : ∀ (B1 : Option HO) b, v < i → evP [some (.box [xo, xr, xn]), B1, some (.data (bL ((upto i (fun (j : Nat) => getB REST j && (getB INNER j == decide (P = 0))) v).set ((v : Nat) : Int).toNat b)))] (.ld false 1) [.ptr 2 (0 + ((v : Nat) : Int).toNat * 1)] = some (.bool b) := fun B1 b h => by
    rw [p_ldB rfl (by rw [List.length_set, hul]; omega)]
    rw [Int.toNat_natCast, getB_set, if_pos ⟨rfl, by omega⟩]
  rcases one with _ | _
  · skip
    repeat' first
 | (apply s_mov; (focus ((conv => lhs; whnf); done)))
 | (apply s_gT; exact rfl)
 | (apply s_gF; exact rfl)
 | (apply c_nil)
 | (apply s_pickT; exact rfl; (focus ((conv => lhs; whnf); done)))
 | (apply s_pickF; exact rfl; (focus ((conv => lhs; whnf); done)))
 | ((first | apply s_lss | apply s_leq | apply s_gtr | apply s_geq | apply s_eql | apply s_neq); exact rfl; all_goals (intro _; try (exfalso; omega)))
 | ((first | apply s_add | apply s_sub); exact rfl; omega)
 | (apply s_pn; (focus (repeat (first | apply opds_nil | (apply opds_cons; (first | (focus ((conv => lhs; whnf); done)) | exact rfl))))); exact pb_tt)
 | (apply s_pn; (focus (repeat (first | apply opds_nil | (apply opds_cons; (first | (focus ((conv => lhs; whnf); done)) | exact rfl))))); exact pb_tf)
 | (apply s_pn; (focus (repeat (first | apply opds_nil | (apply opds_cons; (first | (focus ((conv => lhs; whnf); done)) | exact rfl))))); exact pb_ft)
 | (apply s_pn; (focus (repeat (first | apply opds_nil | (apply opds_cons; (first | (focus ((conv => lhs; whnf); done)) | exact rfl))))); exact pb_ff)
 | (apply s_pn; (focus (repeat (first | apply opds_nil | (apply opds_cons; (first | (focus ((conv => lhs; whnf); done)) | exact rfl))))); exact ldS _ _ (by omega))
 | (apply s_st; (focus (repeat (first | apply opds_nil | (apply opds_cons; (first | (focus ((conv => lhs; whnf); done)) | exact rfl))))); exact e_stB rfl (by omega))
 | (apply s_ldRB; exact rfl; omega; all_goals intro _)
 | (apply s_idxRB; exact rfl; exact rfl; omega)
 | (apply s_idxS; exact rfl; exact rfl; omega)
 | (apply c_seq)
 | (apply c_reg)
 | (apply c_block)
 | (apply c_exitH)
 | (apply c_skip)
 | (apply c_condT; exact rfl)
 | (apply c_condF; exact rfl)
 | (with_reducible apply k_c)
    · rename_i q1 q2 q3 q4
      have hv2 : (getB REST v && (getB INNER v == decide (P = 0))) = true := by simp [q2, q3, q4]
      refine hK (v + 1, true) _ _ ⟨by simp only; omega, hsuc true hv2⟩ (by simp only; omega) ?_
      rw [← upto_set (b := true) hv2]
      exact (by simp [go_sem, fo, fr, fn, Int.toNat_natCast]; done)
    · rename_i q1 q2 q3 q4
      have hv2 : (getB REST v && (getB INNER v == decide (P = 0))) = false := by simp [q2, q3, q4]
      refine hK (v + 1, false) _ _ ⟨by simp only; omega, hsuc false hv2⟩ (by simp only; omega) ?_
      rw [← upto_set (b := false) hv2]
      exact (by simp [go_sem, fo, fr, fn, Int.toNat_natCast]; done)
    · rename_i q1 q2 q3 q4
      have hv2 : (getB REST v && (getB INNER v == decide (P = 0))) = false := by simp [q2, q3, q4]
      refine hK (v + 1, false) _ _ ⟨by simp only; omega, hsuc false hv2⟩ (by simp only; omega) ?_
      rw [← upto_set (b := false) hv2]
      exact (by simp [go_sem, fo, fr, fn, Int.toNat_natCast]; done)
    · rename_i q1 q2 q3 q4
      have hv2 : (getB REST v && (getB INNER v == decide (P = 0))) = true := by simp [q2, q3, q4]
      refine hK (v + 1, true) _ _ ⟨by simp only; omega, hsuc true hv2⟩ (by simp only; omega) ?_
      rw [← upto_set (b := true) hv2]
      exact (by simp [go_sem, fo, fr, fn, Int.toNat_natCast]; done)
    · rename_i q1 q2
      have hv2 : (getB REST v && (getB INNER v == decide (P = 0))) = false := by simp [q2]
      refine hK (v + 1, false) _ _ ⟨by simp only; omega, hsuc false hv2⟩ (by simp only; omega) ?_
      rw [← upto_set (b := false) hv2]
      exact (by simp [go_sem, fo, fr, fn, Int.toNat_natCast]; done)
    · have hvn : v = i := by omega
      subst hvn
      have hno : ¬ ∃ j : Nat, j < v ∧ (getB REST j && (getB INNER j == decide (P = 0))) = true := fun h => by have := hone.2 h; cases this
      have a4' := a4 hno
      rw [upto_all, hLOST]
      clear hK hone hsuc ldS hul a4 b1 b2 b3 b4 b5 hno
      have hz4 := upto_zero v fun (j : Nat) => getB reg j && decide (P = 1)
      refine c_pre (vs := [.rd 1 v (bL reg), .ptr 0 0, .int .i64 v, .sl 1 1 0 v, .int .i64 P, .sl 2 1 0 v, .bool false]) (H' := [some (.box [xo, xr, xn]), some (.data (bL (List.replicate v false))), some (.data (bL LOST))]) (by simp [go_sem, fo, fr, fn]; done) ?_
      repeat' first
 | (apply s_mov; (focus ((conv => lhs; whnf); done)))
 | (apply c_nil)
 | (apply s_notF; exact rfl)
 | (apply c_seq)
 | (apply c_reg)
 | (apply c_block)
 | (apply c_condT; exact rfl)
 | (with_reducible apply k_c)
      refine c_loop ?_
      refine loop_gc (σ := Nat) (fun w => [.rd 1 v (bL reg), .int .i64 v, .sl 0 1 0 v, .int .i64 P, .int .i64 w]) (fun w => [some (.data (bL (upto v (fun (j : Nat) => getB reg j && decide (P = 1)) w)))]) (fun w => w ≤ v) (fun w => v - w) ?_ _ 0 _ _ (by omega) (by omega) (by simp [go_sem, fo, fr, fn, hz4]; done)
      intro w hw K hK
      have hul := upto_len v (fun (j : Nat) => getB reg j && decide (P = 1)) w
      repeat' first
 | (apply s_mov; (focus ((conv => lhs; whnf); done)))
 | (apply s_gT; exact rfl)
 | (apply s_gF; exact rfl)
 | (apply c_nil)
 | (apply s_pickT; exact rfl; (focus ((conv => lhs; whnf); done)))
 | (apply s_pickF; exact rfl; (focus ((conv => lhs; whnf); done)))
 | ((first | apply s_lss | apply s_leq | apply s_gtr | apply s_geq | apply s_eql | apply s_neq); exact rfl; all_goals (intro _; try (exfalso; omega)))
 | ((first | apply s_add | apply s_sub); exact rfl; omega)
 | (apply s_st; (focus (repeat (first | apply opds_nil | (apply opds_cons; (first | (focus ((conv => lhs; whnf); done)) | exact rfl))))); exact e_stB rfl (by omega))
 | (apply s_ldRB; exact rfl; omega; all_goals intro _)
 | (apply s_idxRB; exact rfl; exact rfl; omega)
 | (apply s_idxS; exact rfl; exact rfl; omega)
 | (apply c_seq)
 | (apply c_reg)
 | (apply c_block)
 | (apply c_exitH)
 | (apply c_skip)
 | (apply c_condT; exact rfl)
 | (apply c_condF; exact rfl)
 | (with_reducible apply k_c)
      · rename_i q1 q2 q3
        refine hK (w + 1) _ _ (by omega) (by omega) ?_
        rw [← upto_set (b := true) (by simp [q2, q3])]
        exact (by simp [go_sem, fo, fr, fn, Int.toNat_natCast]; done)
      · rename_i q1 q2 q3
        refine hK (w + 1) _ _ (by omega) (by omega) ?_
        rw [← upto_set (b := false) (by simp [q2, q3])]
        exact (by simp [go_sem, fo, fr, fn, Int.toNat_natCast]; done)
      · rename_i q1 q2
        refine hK (w + 1) _ _ (by omega) (by omega) ?_
        rw [← upto_set (b := false) (by simp [q2])]
        exact (by simp [go_sem, fo, fr, fn, Int.toNat_natCast]; done)
      · have hwn : w = v := by omega
        rw [hwn, upto_all, a4']
        refine c_pre (vs := [.sl 0 1 0 v]) (H' := [some (.data (bL RES))]) (by simp [go_sem, fo, fr, fn]; done) ?_
        repeat' first
 | (apply s_mov; (focus ((conv => lhs; whnf); done)))
 | (apply c_nil)
 | (apply c_seq)
 | (apply c_reg)
 | (apply c_ret)
 | (with_reducible apply k_c)
        simp [finish, ress, resOf, look, tupOf, gc, subHeap, reach_new, reach_end, rangeL, roots, boxCells, nodupB, posOf, renL, AV.ren, pickO, renH, renO, bindEnv]
  · skip
    repeat' first
 | (apply s_mov; (focus ((conv => lhs; whnf); done)))
 | (apply s_gT; exact rfl)
 | (apply s_gF; exact rfl)
 | (apply c_nil)
 | (apply s_pickT; exact rfl; (focus ((conv => lhs; whnf); done)))
 | (apply s_pickF; exact rfl; (focus ((conv => lhs; whnf); done)))
 | ((first | apply s_lss | apply s_leq | apply s_gtr | apply s_geq | apply s_eql | apply s_neq); exact rfl; all_goals (intro _; try (exfalso; omega)))
 | ((first | apply s_add | apply s_sub); exact rfl; omega)
 | (apply s_pn; (focus (repeat (first | apply opds_nil | (apply opds_cons; (first | (focus ((conv => lhs; whnf); done)) | exact rfl))))); exact pb_tt)
 | (apply s_pn; (focus (repeat (first | apply opds_nil | (apply opds_cons; (first | (focus ((conv => lhs; whnf); done)) | exact rfl))))); exact pb_tf)
 | (apply s_pn; (focus (repeat (first | apply opds_nil | (apply opds_cons; (first | (focus ((conv => lhs; whnf); done)) | exact rfl))))); exact pb_ft)
 | (apply s_pn; (focus (repeat (first | apply opds_nil | (apply opds_cons; (first | (focus ((conv => lhs; whnf); done)) | exact rfl))))); exact pb_ff)
 | (apply s_st; (focus (repeat (first | apply opds_nil | (apply opds_cons; (first | (focus ((conv => lhs; whnf); done)) | exact rfl))))); exact e_stB rfl (by omega))
 | (apply s_ldRB; exact rfl; omega; all_goals intro _)
 | (apply s_idxRB; exact rfl; exact rfl; omega)
 | (apply s_idxS; exact rfl; exact rfl; omega)
 | (apply c_seq)
 | (apply c_reg)
 | (apply c_block)
 | (apply c_exitH)
 | (apply c_skip)
 | (apply c_condT; exact rfl)
 | (apply c_condF; exact rfl)
 | (with_reducible apply k_c)
    · rename_i q1 q2 q3 q4
      have hv2 : (getB REST v && (getB INNER v == decide (P = 0))) = true := by simp [q2, q3, q4]
      refine hK (v + 1, true) _ _ ⟨by simp only; omega, hsuc true hv2⟩ (by simp only; omega) ?_
      rw [← upto_set (b := true) hv2]
      exact (by simp [go_sem, fo, fr, fn, Int.toNat_natCast]; done)
    · rename_i q1 q2 q3 q4
      have hv2 : (getB REST v && (getB INNER v == decide (P = 0))) = false := by simp [q2, q3, q4]
      refine hK (v + 1, true) _ _ ⟨by simp only; omega, hsuc false hv2⟩ (by simp only; omega) ?_
      rw [← upto_set (b := false) hv2]
      exact (by simp [go_sem, fo, fr, fn, Int.toNat_natCast]; done)
    · rename_i q1 q2 q3 q4
      have hv2 : (getB REST v && (getB INNER v == decide (P = 0))) = false := by simp [q2, q3, q4]
      refine hK (v + 1, true) _ _ ⟨by simp only; omega, hsuc false hv2⟩ (by simp only; omega) ?_
      rw [← upto_set (b := false) hv2]
      exact (by simp [go_sem, fo, fr, fn, Int.toNat_natCast]; done)
    · rename_i q1 q2 q3 q4
      have hv2 : (getB REST v && (getB INNER v == decide (P = 0))) = true := by simp [q2, q3, q4]
      refine hK (v + 1, true) _ _ ⟨by simp only; omega, hsuc true hv2⟩ (by simp only; omega) ?_
      rw [← upto_set (b := true) hv2]
      exact (by simp [go_sem, fo, fr, fn, Int.toNat_natCast]; done)
    · rename_i q1 q2
      have hv2 : (getB REST v && (getB INNER v == decide (P = 0))) = false := by simp [q2]
      refine hK (v + 1, true) _ _ ⟨by simp only; omega, hsuc false hv2⟩ (by simp only; omega) ?_
      rw [← upto_set (b := false) hv2]
      exact (by simp [go_sem, fo, fr, fn, Int.toNat_natCast]; done)
    · have hvn : v = i := by omega
      subst hvn
      have hyes : ∃ j : Nat, j < v ∧ (getB REST j && (getB INNER j == decide (P = 0))) = true := hone.1 rfl
      have b1' := b1 hyes; have b2' := b2 hyes; have b3' := b3 hyes; have b4' := b4 hyes; have b5' := b5 hyes
      rw [upto_all, hLOST]
      clear hK hone hsuc ldS hul a4 b1 b2 b3 b4 b5 hyes
      have hSl : (bL LOST).length = v := by rw [bL_len, ← hLOST]; simp
      have hSt : (bL LOST).take v = bL LOST := List.take_of_length_le (by omega)
      have c1 := b1' [.agg [xo, xr, xn], .int .i64 (1 - P), .sl 2 1 0 v, .rd 1 v (bL reg)] [some (.box [xo, xr, xn]), some (.data (bL (List.replicate v false))), some (.data (bL LOST))] (by simp [frzL_cons, frzL_nil, frzV_free, frzV_int, frzV_sl, frzV_rd, AV.idFree, idFreeL, fo, fr, fn, Heap.data?, hSl, hSt])
      clear b1' hSl hSt hLOST
      obtain ⟨hFl, hI2l⟩ := b4'
      have hz4 := upto_zero v fun (j : Nat) => getB reg j && ((getB FAR j && decide (P = 0)) || (!getB FAR j && getB INNER2 j))
      refine c_pre (vs := [.rd 1 v (bL reg), .ptr 0 0, .int .i64 v, .sl 1 1 0 v, .int .i64 P, .sl 2 1 0 v, .bool true]) (H' := [some (.box [xo, xr, xn]), some (.data (bL (List.replicate v false))), some (.data (bL LOST))]) (by simp [go_sem, fo, fr, fn]; done) ?_
      repeat' first
 | (apply s_mov; (focus ((conv => lhs; whnf); done)))
 | (apply c_nil)
 | (apply s_notT; exact rfl)
 | (apply c_seq)
 | (apply c_reg)
 | (apply c_skip)
 | (apply c_condF; exact rfl)
 | (with_reducible apply k_c)
      refine c_pre (vs := [.rd 1 v (bL reg), .ptr 0 0, .int .i64 v, .sl 1 1 0 v, .int .i64 P, .sl 2 1 0 v]) (H' := [some (.box [xo, xr, xn]), some (.data (bL (List.replicate v false))), some (.data (bL LOST))]) (by simp [go_sem, fo, fr, fn]; done) ?_
      repeat' first
 | (apply s_mov; (focus ((conv => lhs; whnf); done)))
 | (apply c_nil)
 | ((first | apply s_add | apply s_sub); exact rfl; omega)
 | (apply s_cn; (focus (repeat (first | apply opds_nil | (apply opds_cons; (first | (focus ((conv => lhs; whnf); done)) | exact rfl))))); exact c1)
 | (apply s_cn; (focus (repeat (first | apply opds_nil | (apply opds_cons; (first | (focus ((conv => lhs; whnf); done)) | exact rfl))))); exact b2' _)
 | (apply s_cn; (focus (repeat (first | apply opds_nil | (apply opds_cons; (first | (focus ((conv => lhs; whnf); done)) | exact rfl))))); exact b3' _)
 | (apply s_pd; (focus ((conv => lhs; whnf); done)))
 | (apply c_seq)
 | (apply c_reg)
 | (apply c_block)
 | (with_reducible apply k_c)
      refine c_loop ?_
      refine loop_gc (σ := Nat) (fun w => [.rd 1 v (bL reg), .int .i64 v, .sl 0 1 0 v, .int .i64 P, .rd 1 v (bL INNER2), .rd 1 v (bL FAR), .int .i64 w]) (fun w => [some (.data (bL (upto v (fun (j : Nat) => getB reg j && ((getB FAR j && decide (P = 0)) || (!getB FAR j && getB INNER2 j))) w)))]) (fun w => w ≤ v) (fun w => v - w) ?_ _ 0 _ _ (by omega) (by omega) (by simp [go_sem, fo, fr, fn, hz4]; done)
      intro w hw K hK
      have hul := upto_len v (fun (j : Nat) => getB reg j && ((getB FAR j && decide (P = 0)) || (!getB FAR j && getB INNER2 j))) w
      repeat' first
 | (apply s_mov; (focus ((conv => lhs; whnf); done)))
 | (apply s_gT; exact rfl)
 | (apply s_gF; exact rfl)
 | (apply c_nil)
 | (apply s_pickT; exact rfl; (focus ((conv => lhs; whnf); done)))
 | (apply s_pickF; exact rfl; (focus ((conv => lhs; whnf); done)))
 | (apply s_notT; exact rfl)
 | (apply s_notF; exact rfl)
 | ((first | apply s_lss | apply s_leq | apply s_gtr | apply s_geq | apply s_eql | apply s_neq); exact rfl; all_goals (intro _; try (exfalso; omega)))
 | ((first | apply s_add | apply s_sub); exact rfl; omega)
 | (apply s_st; (focus (repeat (first | apply opds_nil | (apply opds_cons; (first | (focus ((conv => lhs; whnf); done)) | exact rfl))))); exact e_stB rfl (by omega))
 | (apply s_ldRB; exact rfl; omega; all_goals intro _)
 | (apply s_idxRB; exact rfl; exact rfl; omega)
 | (apply s_idxS; exact rfl; exact rfl; omega)
 | (apply c_seq)
 | (apply c_reg)
 | (apply c_block)
 | (apply c_exitH)
 | (apply c_skip)
 | (apply c_condT; exact rfl)
 | (apply c_condF; exact rfl)
 | (with_reducible apply k_c)
      · rename_i q1 q2 q3 q4
        refine hK (w + 1) _ _ (by omega) (by omega) ?_
        rw [← upto_set (b := true) (by simp [q2, q3, q4])]
        exact (by simp [go_sem, fo, fr, fn, Int.toNat_natCast]; done)
      · rename_i q1 q2 q3 q4 q5
        refine hK (w + 1) _ _ (by omega) (by omega) ?_
        rw [← upto_set (b := false) (by simp [q2, q3, q4, q5])]
        exact (by simp [go_sem, fo, fr, fn, Int.toNat_natCast]; done)
      · rename_i q1 q2 q3 q4 q5 q6
        rw [q3] at q5; cases q5
      · rename_i q1 q2 q3 q4 q5 q6
        rw [q3] at q5; cases q5
      · rename_i q1 q2 q3 q4
        rw [q3] at q4; cases q4
      · rename_i q1 q2 q3 q4 q5
        refine hK (w + 1) _ _ (by omega) (by omega) ?_
        rw [← upto_set (b := true) (by simp [q2, q3, q4, q5])]
        exact (by simp [go_sem, fo, fr, fn, Int.toNat_natCast]; done)
      · rename_i q1 q2 q3 q4 q5
        refine hK (w + 1) _ _ (by omega) (by omega) ?_
        rw [← upto_set (b := false) (by simp [q2, q3, q4, q5])]
        exact (by simp [go_sem, fo, fr, fn, Int.toNat_natCast]; done)
      · rename_i q1 q2
        refine hK (w + 1) _ _ (by omega) (by omega) ?_
        rw [← upto_set (b := false) (by simp [q2])]
        exact (by simp [go_sem, fo, fr, fn, Int.toNat_natCast]; done)
      have hwn : w = v := by omega
      rw [hwn, upto_all, b5']
      refine c_pre (vs := [.sl 0 1 0 v]) (H' := [some (.data (bL RES))]) (by simp [go_sem, fo, fr, fn]; done) ?_
      repeat' first
 | (apply s_mov; (focus ((conv => lhs; whnf); done)))
 | (apply c_nil)
 | (apply c_seq)
 | (apply c_reg)
 | (apply c_ret)
 | (with_reducible apply k_c)
      simp [finish, ress, resOf, look, tupOf, gc, subHeap, reach_new, reach_end, rangeL, roots, boxCells, nodupB, posOf, renL, AV.ren, pickO, renH, renO, bindEnv]
end Go.AM.Pa
