/- A part of the proof: Q18. -/
import Derived.Test.YtmeajfgjbebkiaaQ17
set_option linter.unusedSectionVars false
set_option linter.unusedVariables false
set_option linter.unusedSimpArgs false
namespace Go.AM.Pa
attribute [local go_sem] gc subHeap reach_skip ren_free reach_new reach_newp reach_end rangeL roots boxCells nodupB posOf renL AV.ren pickO renH renO looks look bindEnv envOf reach_int reach_bool reach_nilS reach_rd putRow cells_sl cells_int cells_bool cells_nilS cells_rd cells_agg reach_agg reach_tup idFreeL idf_sl idf_ptr idf_int idf_bool idf_nilS idf_rd
theorem idxOf_get : ∀ (l : List Int) (v : Int), v ∈ l → getI l (l.idxOf v) = v ∧ ∀ j : Nat, j < l.idxOf v → getI l j ≠ v
  | [], v, h => by simp at h
  | a :: l, v, h => by
    rw [List.idxOf_cons]
    by_cases e : a = v
    · subst e
      simp only [beq_self_eq_true, cond_true]
      exact ⟨getI_zero a l, fun j hj => by omega⟩
    · have e' : (a == v) = false := by simp [e]
      rw [e']
      simp only [cond_false]
      have ih := idxOf_get l v (by rcases List.mem_cons.1 h with h | h; exact absurd h.symm e; exact h)
      refine ⟨?_, fun j hj => ?_⟩
      · rw [Int.natCast_add, Int.natCast_one, getI_succ]; exact ih.1
      · rcases j with _ | j
        · intro h; exact e (by rw [← h]; exact (getI_zero a l).symm)
        · rw [Int.natCast_add, Int.natCast_one, getI_succ]; exact ih.2 j (by omega)
theorem rd_free {a b : Nat} {c : List AV} : (AV.rd a b c).idFree = true := rfl
theorem c25 {x t : AV} {a : Gm} {pl : List Int} {p : Int} (hx : IsG x a) (ht : IsL t pl) (ha : a.next.length < 50 ∧ ∀ l ∈ a.next, l.length < 50) (hp : pl.length < 50) {m : Nat} (hm : 107 ≤ m) (H : Heap) :
    callPure (evF tab it m) true 25 [x, .int .i64 p, t] H = some (if Good a ∧ (0 ≤ p ∧ p ≤ (a.next.length : Int) - 1) ∧ OkPlan a pl then
      .tup [playV (walk pl 30 [] p).1 (walk pl 30 [] p).2, playW (walk pl 30 [] p).1 (walk pl 30 [] p).2, .int .i64 ((topR a.rank (playB (walk pl 30 [] p).1 (walk pl 30 [] p).2) 0).tmod 2), .int .i64 0]
      else .tup [.nilS, .nilS, .int .i64 0, .int .i64 2], H) := by
  refine callPure_free (by simp [idFreeL, hx.free, ht.free, idf_int]) (by simp) (f25 hx ht ha hp m hm) ?_
  split <;> rfl
set_option maxHeartbeats 4000000
/-- ref.Play -/
theorem c27 {x t : AV} {a : Gm} {pl : List Int} {p : Int} (hx : IsG x a) (ht : IsL t pl) (hg : Good a) (hp0 : 0 ≤ p ∧ p ≤ (a.next.length : Int) - 1) (hpl : OkPlan a pl) (ha : ∀ l ∈ a.next, l.length < 50) {m : Nat} (hm : 107 ≤ m) (H : Heap) :
    callPure (evF tab it m) true 27 [x, .int .i64 p, t] H = some (.tup [playV (walk pl 30 [] p).1 (walk pl 30 [] p).2, playW (walk pl 30 [] p).1 (walk pl 30 [] p).2, .int .i64 ((topR a.rank (playB (walk pl 30 [] p).1 (walk pl 30 [] p).2) 0).tmod 2)], H) ∧
    (walk pl 30 [] p).1.idxOf (walk pl 30 [] p).2 < (walk pl 30 [] p).1.length ∧ (walk pl 30 [] p).1.length ≤ 24 := by
  have hg1 := hg.1; have hg2 := hg.2.1; have hg3 := hg.2.2.1
  have hpl1 := hpl.1
  generalize hnn : a.next.length = n at *
  have hrange : ∀ v : Int, 0 ≤ v ∧ v < n → 0 ≤ getI pl v ∧ getI pl v < n := fun v hv => by
    obtain ⟨k, rfl⟩ : ∃ k : Nat, v = (k : Int) := ⟨v.toNat, by omega⟩
    exact row_mem hg hnn (v := k) (by omega) _ (hpl.2 k (by omega))
  have hend : ∀ (k : Nat) (l : List Int) (v : Int), Way n l v → cf (mk n l) < k → (walk pl k l v).2 ∈ (walk pl k l v).1 ∧ Way n (walk pl k l v).1 (walk pl k l v).2 := by
    intro k
    induction k with
    | zero => intro l v _ h; omega
    | succ k ih =>
      intro l v hw hc
      simp only [walk]
      split
      · exact ⟨by assumption, hw⟩
      · rename_i hnv
        have := cf_app hw.2.1 hw.1 hnv
        exact ih _ _ (way_succ hw hnv (hrange v hw.1)) (by omega)
  have hcf0 : cf (mk n []) < 30 := by
    have := cf_le (mk n [])
    rw [mk_len] at this
    omega
  obtain ⟨hv2, hwF⟩ := hend 30 [] p (way_zero (by omega)) hcf0
  generalize hF : walk pl 30 [] p = FIN at *
  have hix : FIN.1.idxOf FIN.2 < FIN.1.length := List.idxOf_lt_length_of_mem hv2
  have hl24 : FIN.1.length ≤ 24 := by have := hwF.2.2; omega
  refine ⟨?_, hix, hl24⟩
  have hFq := idxOf_get _ _ hv2
  obtain ⟨m, rfl⟩ : ∃ j, m = j + 1 := ⟨m - 1, by omega⟩
  have hx' := hx
  obtain ⟨xo, xr, xn, rfl, ho, hr, hn⟩ := hx
  have fo := ho.free; have fr := hr.free; have fn := hn.free; have ft := ht.free
  have ob : ∀ call, evE call [] (.box false) [.agg [xo, xr, xn]] = some (.ptr 0 0, [some (.box [xo, xr, xn])]) := fun call => by simp [evE, AV.cells, oneL, ho.one, hr.one, hn.one, mkHO]
  obtain ⟨L, W⟩ := FIN
  simp only [playV, playW, playA, playB] at *
  generalize hat : L.idxOf W = q at *
  refine callPure_frz (by simp [idFreeL, hx'.free, ht.free, idf_int]) (by simp) (v := .tup [.sl 0 1 0 q, .sl 0 1 q (L.length - q), .int .i64 ((topR a.rank (L.drop q) 0).tmod 2)]) (H1 := [some (.data (iL L))]) ?_ ?_
  · refine f_enter rfl rfl ?_
    repeat' first
 | (apply s_mov; (focus ((conv => lhs; whnf); done)))
 | (apply c_nil)
 | (apply s_en; (focus (repeat (first | apply opds_nil | (apply opds_cons; (first | (focus ((conv => lhs; whnf); done)) | exact rfl))))); exact ob _)
 | (apply c_seq)
 | (apply c_reg)
 | (apply c_block)
 | (with_reducible apply k_c)
    refine c_loop ?_
    refine loop_gc (σ := Nat × List Int × Int) (fun s => [t, .ptr 0 0, wayV s.2.1, .int .i64 s.2.2]) (fun s => wayH (some (.box [xo, xr, xn])) s.2.1) (fun s => Way n s.2.1 s.2.2 ∧ walk pl s.1 s.2.1 s.2.2 = (L, W) ∧ cf (mk n s.2.1) < s.1) (fun s => s.1) ?_ _ (30, [], p) _ _ ⟨way_zero (by simp only; omega), hF, by simp only; omega⟩ (by simp; omega) (by simp [go_sem, fo, fr, fn, ft, wayH, wayV]; done)
    intro ⟨k, l, v⟩ ⟨hw, hwk, hcf⟩ K hK
    simp only at hw hwk hcf hK ⊢
    obtain ⟨k, rfl⟩ : ∃ j, k = j + 1 := ⟨k - 1, by omega⟩
    simp only [walk] at hwk
    have hws := fun h => @way_succ n l v (getI pl v) hw h (hrange v hw.1)
    have hcs := fun h => @cf_app n l hw.2.1 v hw.1 h
    have hlen := hw.2.2
    have hv := hw.1
    rcases l with _ | ⟨c, cs⟩
    · simp only [wayV, wayH]
      repeat' first
 | (apply s_mov; (focus ((conv => lhs; whnf); done)))
 | (apply c_nil)
 | (apply s_notT; exact rfl)
 | (apply s_notF; exact rfl)
 | (apply isE; refine s_cB (by (focus (repeat (first | apply opds_nil | (apply opds_cons; (first | (focus ((conv => lhs; whnf); done)) | exact rfl)))))) (c47 .nil (by simp) (by omega) _) (fun _ => ?_) (fun _ => ?_))
 | (apply s_en; (focus (repeat (first | apply opds_nil | (apply opds_cons; (first | (focus ((conv => lhs; whnf); done)) | exact rfl))))); exact e_bld1 rfl rfl rfl rfl)
 | (apply s_en; (focus (repeat (first | apply opds_nil | (apply opds_cons; (first | (focus ((conv => lhs; whnf); done)) | exact rfl))))); exact e_app_nil rfl (by omega) (by decide))
 | (apply s_idx; (focus ((conv => lhs; whnf); done)); exact rfl; (first | assumption | (apply IsLL.at; assumption; omega)); omega)
 | (apply s_ldI; exact rfl; omega)
 | (apply c_seq)
 | (apply c_reg)
 | (apply c_block)
 | (apply c_exitH)
 | (apply c_skip)
 | (apply c_condT; exact rfl)
 | (apply c_condF; exact rfl)
 | (with_reducible apply k_c)
      · exact absurd ‹v ∈ []› (by simp)
      · rename_i hnv
        rw [if_neg hnv] at hwk
        refine hK (k, [] ++ [v], getI pl v) _ _ ⟨hws hnv, hwk, ?_⟩ (by simp) ?_
        · have := hcs hnv; simp only; omega
        · exact (by simp [go_sem, fo, fr, fn, ft, wayH, wayV, iL]; done)
    · have hlen' : cs.length + 1 ≤ 24 := by simp at hlen; omega
      have hil : (iL (c :: cs)).length = cs.length + 1 := by rw [iL_len]; rfl
      simp only [wayV, wayH]
      repeat' first
 | (apply s_mov; (focus ((conv => lhs; whnf); done)))
 | (apply c_nil)
 | (apply s_notT; exact rfl)
 | (apply s_notF; exact rfl)
 | (apply isE; refine s_cB (by (focus (repeat (first | apply opds_nil | (apply opds_cons; (first | (focus ((conv => lhs; whnf); done)) | exact rfl)))))) (c47s (l := c :: cs) rfl (by simp) (by simp; omega) (by omega)) (fun _ => ?_) (fun _ => ?_))
 | (apply s_en; (focus (repeat (first | apply opds_nil | (apply opds_cons; (first | (focus ((conv => lhs; whnf); done)) | exact rfl))))); exact e_bld1 rfl rfl rfl rfl)
 | (apply s_en; (focus (repeat (first | apply opds_nil | (apply opds_cons; (first | (focus ((conv => lhs; whnf); done)) | exact rfl))))); exact e_app_sl rfl hil (by omega) (by unfold most; omega))
 | (apply s_idx; (focus ((conv => lhs; whnf); done)); exact rfl; (first | assumption | (apply IsLL.at; assumption; omega)); omega)
 | (apply s_ldI; exact rfl; omega)
 | (apply c_seq)
 | (apply c_reg)
 | (apply c_block)
 | (apply c_exitH)
 | (apply c_skip)
 | (apply c_condT; exact rfl)
 | (apply c_condF; exact rfl)
 | (with_reducible apply k_c)
      · rename_i hv3
        clear hK hws hcs
        rw [if_pos hv3] at hwk
        cases hwk
        have hl1 : (c :: cs).length = cs.length + 1 := rfl
        generalize c :: cs = L at *
        rw [← hl1] at hil hlen' ⊢
        have hmem : ∀ j : Nat, j < L.length → 0 ≤ getI L j ∧ getI L j < n := fun j hj => by
          exact hw.2.1 (getI L j) (by rw [getI_nat]; simp [List.getD, hj])
        refine c_pre (vs := [.ptr 0 0, .sl 1 1 0 L.length, .int .i64 W]) (H' := [some (.box [xo, xr, xn]), some (.data (iL L))]) (by simp [go_sem, fo, fr, fn]; done) ?_
        repeat' first
 | (apply s_mov; (focus ((conv => lhs; whnf); done)))
 | (apply c_nil)
 | (apply c_seq)
 | (apply c_reg)
 | (apply c_block)
 | (with_reducible apply k_c)
        refine c_loop ?_
        refine loop_gc (σ := Nat) (fun k => [.ptr 0 0, .sl 1 1 0 L.length, .int .i64 W, .int .i64 k]) (fun _ => [some (.box [xo, xr, xn]), some (.data (iL L))]) (fun k => k ≤ q) (fun k => q - k) ?_ _ 0 _ _ (by omega) (by omega) (by simp [go_sem, fo, fr, fn]; done)
        intro k hk K hK
        have hm2 := hFq.2 k
        repeat' first
 | (apply s_mov; (focus ((conv => lhs; whnf); done)))
 | (apply c_nil)
 | ((first | apply s_lss | apply s_leq | apply s_gtr | apply s_geq | apply s_eql | apply s_neq); exact rfl; all_goals (intro _; try (exfalso; omega)))
 | ((first | apply s_add | apply s_sub); exact rfl; omega)
 | (apply s_pn; (focus (repeat (first | apply opds_nil | (apply opds_cons; (first | (focus ((conv => lhs; whnf); done)) | exact rfl))))); exact p_ldS rfl (by omega))
 | (apply s_idxS; exact rfl; exact rfl; omega)
 | (apply c_seq)
 | (apply c_reg)
 | (apply c_block)
 | (apply c_exitH)
 | (apply c_skip)
 | (apply c_condT; exact rfl)
 | (apply c_condF; exact rfl)
 | (with_reducible apply k_c)
        · obtain rfl : k = q := by omega
          clear hK
          generalize hT : topR a.rank (L.drop k) 0 = T
          refine c_pre (vs := [.ptr 0 0, .sl 1 1 0 L.length, .int .i64 k]) (H' := [some (.box [xo, xr, xn]), some (.data (iL L))]) (by simp [go_sem, fo, fr, fn]; done) ?_
          repeat' first
 | (apply s_mov; (focus ((conv => lhs; whnf); done)))
 | (apply c_nil)
 | (apply c_seq)
 | (apply c_reg)
 | (apply c_block)
 | (with_reducible apply k_c)
          refine c_loop ?_
          refine loop_gc (σ := Nat × Int) (fun s => [.ptr 0 0, .sl 1 1 0 L.length, .int .i64 k, .int .i64 s.2, .int .i64 s.1]) (fun _ => [some (.box [xo, xr, xn]), some (.data (iL L))])
            (fun s => k ≤ s.1 ∧ s.1 ≤ L.length ∧ topR a.rank (L.drop s.1) s.2 = T) (fun s => L.length - s.1) ?_ _ (k, 0) _ _ ⟨by simp, by simp only; omega, hT⟩ (by simp; omega) (by simp [go_sem, fo, fr, fn]; done)
          intro ⟨i, top⟩ ⟨hi0, hi, htp⟩ K hK
          simp only at hi0 hi htp hK ⊢
          have hu := hmem i
          repeat' first
 | (apply s_mov; (focus ((conv => lhs; whnf); done)))
 | (apply c_nil)
 | ((first | apply s_lss | apply s_leq | apply s_gtr | apply s_geq | apply s_eql | apply s_neq); exact rfl; all_goals (intro _; try (exfalso; omega)))
 | ((first | apply s_add | apply s_sub); exact rfl; omega)
 | (apply s_pn; (focus (repeat (first | apply opds_nil | (apply opds_cons; (first | (focus ((conv => lhs; whnf); done)) | exact rfl))))); exact p_ldS rfl (by omega))
 | (apply s_lenSl; exact rfl)
 | (apply s_idx; (focus ((conv => lhs; whnf); done)); exact rfl; (first | assumption | (apply IsLL.at; assumption; omega)); omega)
 | (apply s_idxS; exact rfl; exact rfl; omega)
 | (apply s_mx; exact rfl; exact rfl)
 | (apply s_ldI; exact rfl; omega)
 | (apply s_pd; (focus ((conv => lhs; whnf); done)))
 | (apply c_seq)
 | (apply c_reg)
 | (apply c_block)
 | (apply c_exitH)
 | (apply c_skip)
 | (apply c_condT; exact rfl)
 | (apply c_condF; exact rfl)
 | (with_reducible apply k_c)
          · refine hK (i + 1, if getI a.rank (getI L (i : Int)) > top then getI a.rank (getI L (i : Int)) else top) _ _ ⟨by simp; omega, by simp; omega, ?_⟩ (by simp; omega) (by simp [go_sem, fo, fr, fn]; done)
            rw [← htp, drop_getI (i := i) (by omega)]
            simp only [topR]
          · obtain rfl : i = L.length := by omega
            rw [List.drop_length] at htp
            simp only [topR] at htp
            subst htp
            clear hK hu
            refine c_pre (vs := [.sl 0 1 0 L.length, .int .i64 k, .int .i64 top]) (H' := [some (.data (iL L))]) (by simp [go_sem, fo, fr, fn]; done) ?_
            repeat' first
 | (apply s_mov; (focus ((conv => lhs; whnf); done)))
 | (apply c_nil)
 | (apply s_slcT; exact rfl; exact rfl; omega)
 | (apply s_slcF; exact rfl; exact rfl; omega)
 | (apply s_rem2; exact rfl)
 | (apply c_seq)
 | (apply c_reg)
 | (apply c_ret)
 | (with_reducible apply k_c)
            simp [finish, ress, resOf, look, tupOf, bindEnv, gc, subHeap, reach_tup, reach_int, idFreeL, idf_sl, reach_new, reach_end, rangeL, roots, boxCells, nodupB, posOf, renL, AV.ren, pickO, renH, renO]
        · have hkq : k < q := by
            rcases Nat.lt_or_ge k q with h | h
            · exact h
            · obtain rfl : k = q := by omega
              exact absurd hFq.1 (by assumption)
          exact hK (k + 1) _ _ (by omega) (by omega) (by simp [go_sem, fo, fr, fn]; done)
      · rename_i hnv
        rw [if_neg hnv] at hwk
        refine hK (k, c :: cs ++ [v], getI pl v) _ _ ⟨hws hnv, hwk, ?_⟩ (by simp) ?_
        · have := hcs hnv; simp only; omega
        · simp only [List.cons_append, wayH, wayV]
          rw [← List.cons_append, ← iL_app1]
          exact (by simp [go_sem, fo, fr, fn, ft]; done)
  · have h1 : q ≤ L.length := by omega
    have h2 : q + (L.length - q) ≤ L.length := by omega
    simp [frzV_tup, frzL_cons, frzL_nil, frzV_sl, frzV_int, idFreeL, idf_sl, Heap.data?, iL_len, h1, h2]
    simp [iL, List.map_take, List.map_drop]
    exact List.take_of_length_le (by simp)
end Go.AM.Pa
