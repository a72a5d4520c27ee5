/- A part of the proof: H1 H2 H3. -/
import Derived.Test.YtmegimhfoedcdaaE8
import Derived.Test.YtmegimhfoedcdaaD2
set_option linter.unusedVariables false
set_option linter.unusedSimpArgs false
set_option linter.unusedSectionVars false
namespace Go.AM.Ch
attribute [local go_sem] gc subHeap reach_skip ren_free reach_new reach_newp reach_end rangeL roots boxCells nodupB posOf renL AV.ren pickO renH renO looks look bindEnv envOf reach_int reach_bool reach_nilS reach_rd putRow cells_sl cells_int cells_bool cells_nilS cells_rd cells_agg reach_agg reach_tup idFreeL idf_sl idf_ptr idf_int idf_bool idf_nilS idf_rd reach_fn reach_mp cells_fn cells_ptr cells_mp idf_mp idf_fn idf_agg idf_tup
set_option maxHeartbeats 8000000
theorem fz_cells (l : List Int) : (fzL l).cells = [fzL l] := by cases l <;> simp [fzL, AV.cells]
theorem fz_one (l : List Int) : (fzL l).one = true := by cases l <;> simp [fzL, AV.one]
theorem fz_solid (l : List Int) : (fzL l).solid = true := by cases l <;> simp [fzL, AV.solid]
theorem dr_ld {H : Heap} {id i : Nat} {rows : List (List Int)} (h : H[id]? = some (some (.data (rows.map fzL)))) (hi : i < rows.length) : evP H (.ld false 1) [.ptr id i] = some (fzL (getLL rows (i : Int))) := by
  have hc : Heap.cells? H id = some (rows.map fzL) := cells?_iff.2 (.inl h)
  have hr : (rows.map fzL)[i]? = some (fzL (getLL rows (i : Int))) := by rw [getLL_nat]; simp [List.getD, hi]
  generalize rows.map fzL = cs at *
  obtain ⟨h1, h2⟩ := List.getElem?_eq_some_iff.1 hr
  have h5 : i + 1 ≤ cs.length := by omega
  simp only [evP, ldc, getRow, hc, Option.bind_some, if_pos h5]
  rw [List.drop_eq_getElem_cons h1, h2]
  simp [wholeOf]
theorem dr_st {call : CallF} {H : Heap} {id i : Nat} {rows : List (List Int)} {r : List Int} (h : H[id]? = some (some (.data (rows.map fzL)))) (hi : i < rows.length) : evE call H (.st 1) [.ptr id i, fzL r] = some (.undef, H.set id (some (.data ((rows.set i r).map fzL)))) := by
  have hb : i + 1 ≤ (rows.map fzL).length := by rw [List.length_map]; omega
  have hf : idFreeL [fzL r] = true := by simp [idFreeL, (isL_fz r).free]
  have hstep : stAt H 1 (.ptr id i) (fzL r) = some (H.set id (some (.data (putRow (rows.map fzL) i [fzL r])))) := by
    simp only [stAt, h, fz_cells, List.length_singleton, oneL, fz_one, Bool.and_self, and_self, if_true, hf, if_pos hb, and_true]
  have e : putRow (rows.map fzL) i [fzL r] = (rows.set i r).map fzL := by
    rw [List.map_set]
    unfold putRow
    rw [List.set_eq_take_append_cons_drop, if_pos (by rw [List.length_map]; exact hi)]
    simp
  simp only [evE, hstep, Option.map_some, e]
theorem e_frzO {call : CallF} {H : Heap} {id n : Nat} {l : List Int} (h : H.data? id = some (iL l)) (hl : l.length = n) (hn : 1 ≤ n) : evE call H .frz [.sl id 1 0 n] = some (fzL l, H.set id none) := by
  have := iL_len l
  rw [fzL_ne hl hn]
  simp [evE, h, this, hl, List.take_of_length_le]
def nxL (p t : Int) (ri R : List Int) (k : Nat) : List Int := (List.range k).map fun (v : Nat) => (getI ri (v : Int) + (p - t) * getI R (v : Int)).tmod p
theorem nxL_len (p t : Int) (ri R : List Int) (k : Nat) : (nxL p t ri R k).length = k := by simp [nxL]
theorem nxL_succ (p t : Int) (ri R : List Int) (k : Nat) : nxL p t ri R (k + 1) = nxL p t ri R k ++ [(getI ri (k : Int) + (p - t) * getI R (k : Int)).tmod p] := by
  unfold nxL
  rw [List.range_succ, List.map_append]
  rfl
theorem nxL_get {p t : Int} {ri R : List Int} {k v : Nat} (h : v < k) : getI (nxL p t ri R k) (v : Int) = (getI ri (v : Int) + (p - t) * getI R (v : Int)).tmod p := by
  rw [getI_nat]
  simp [nxL, List.getD, h]
theorem LR20 {call : CallF} {N : Nat} {K0 : KT} {X : Nat → KT} {Rt : KT} {res : R} {env : Env} {H : Heap} {n c i : Nat} {p out lead t : Int} {rows : List (List Int)} {R1 : List Int}
    (hN : 100 ≤ N) (hn : n ≤ 12) (hr : Rows n rows) (hin : i < n) (hR : R1.length = n) (hp : 2 ≤ p ∧ p ≤ 2147483647) (ht : 0 ≤ t ∧ t < p) (hb : ∀ v : Nat, v < n → 0 ≤ getI (getLL rows (i : Int)) (v : Int) ∧ getI (getLL rows (i : Int)) (v : Int) < p) (hb2 : ∀ v : Nat, v < n → 0 ≤ getI R1 (v : Int) ∧ getI R1 (v : Int) < p)
    (h0 : gc 0 (looks env [1, 6, 10, 11, 13, 14, 16, 17, 18, 19]) H = some ([.int .i64 p, .sl 0 1 0 n, .int .i64 out, .int .i64 (c : Int), fzL R1, .int .i64 lead, .int .i64 (i : Int), .int .i64 t, .nilS, .int .i64 0], [some (.data (rows.map fzL))]))
    (hK : ∀ env' H', gc 0 (looks env' [1, 6, 10, 11, 13, 14, 16, 18]) H' = some ([.int .i64 p, .sl 0 1 0 n, .int .i64 out, .int .i64 (c : Int), fzL R1, .int .i64 lead, .int .i64 (i : Int), .sl 1 1 0 n], [some (.data (rows.map fzL)), some (.data (iL (nxL p t (getLL rows (i : Int)) R1 n)))]) → K0 env' H' = res) :
    loopIt N (fun K => evC call it N lb66_20 0 K (blkX 10 K0 X) Rt) env H = res := by
  have hI1 := isL_fz R1
  have hI2 := isL_fz (getLL rows (i : Int))
  have f1 := hI1.free
  have hl2 := hr.get hin
  have hrl := hr.len
  have g0 : ∀ (k : Int) (U : List AV), gc 0 [.int .i64 p, .sl 0 1 0 n, .int .i64 out, .int .i64 (c : Int), fzL R1, .int .i64 lead, .int .i64 (i : Int), .int .i64 t, .nilS, .int .i64 k] [some (.data U)] = some ([.int .i64 p, .sl 0 1 0 n, .int .i64 out, .int .i64 (c : Int), fzL R1, .int .i64 lead, .int .i64 (i : Int), .int .i64 t, .nilS, .int .i64 k], [some (.data U)]) := fun k U => by simp [go_sem, f1]
  have g1 : ∀ (k : Int) (z : Nat) (U V : List AV), gc 0 [.int .i64 p, .sl 0 1 0 n, .int .i64 out, .int .i64 (c : Int), fzL R1, .int .i64 lead, .int .i64 (i : Int), .int .i64 t, .sl 1 1 0 z, .int .i64 k] [some (.data U), some (.data V)] = some ([.int .i64 p, .sl 0 1 0 n, .int .i64 out, .int .i64 (c : Int), fzL R1, .int .i64 lead, .int .i64 (i : Int), .int .i64 t, .sl 1 1 0 z, .int .i64 k], [some (.data U), some (.data V)]) := fun k z U V => by simp [go_sem, f1]
  have g2 : ∀ (k : Int) (z : Nat) (U V : List AV), gc 0 [.int .i64 p, .sl 0 1 0 n, .int .i64 out, .int .i64 (c : Int), fzL R1, .int .i64 lead, .int .i64 (i : Int), .int .i64 t, .sl 2 1 0 z, .int .i64 k] [some (.data U), none, some (.data V)] = some ([.int .i64 p, .sl 0 1 0 n, .int .i64 out, .int .i64 (c : Int), fzL R1, .int .i64 lead, .int .i64 (i : Int), .int .i64 t, .sl 1 1 0 z, .int .i64 k], [some (.data U), some (.data V)]) := fun k z U V => by simp [go_sem, f1]
  have g3 : ∀ (z : Nat) (U V : List AV), gc 0 [.int .i64 p, .sl 0 1 0 n, .int .i64 out, .int .i64 (c : Int), fzL R1, .int .i64 lead, .int .i64 (i : Int), .sl 1 1 0 z] [some (.data U), some (.data V)] = some ([.int .i64 p, .sl 0 1 0 n, .int .i64 out, .int .i64 (c : Int), fzL R1, .int .i64 lead, .int .i64 (i : Int), .sl 1 1 0 z], [some (.data U), some (.data V)]) := fun z U V => by simp [go_sem, f1]
  refine loop_gc (σ := Nat) (fun k => [.int .i64 p, .sl 0 1 0 n, .int .i64 out, .int .i64 (c : Int), fzL R1, .int .i64 lead, .int .i64 (i : Int), .int .i64 t, if k = 0 then .nilS else .sl 1 1 0 k, .int .i64 (k : Int)]) (fun k => if k = 0 then [some (.data (rows.map fzL))] else [some (.data (rows.map fzL)), some (.data (iL (nxL p t (getLL rows (i : Int)) R1 k)))]) (fun k => k ≤ n) (fun k => n - k) ?_ _ 0 _ _ (by omega) (by show n - 0 < _; omega) (by rw [if_pos rfl, if_pos rfl]; exact h0)
  clear h0
  intro k hk K hKl
  by_cases hkn : k < n
  · have b1 := hb k hkn
    have b2 := hb2 k hkn
    have hprod := mul_in (a := p - t) hp (by omega) b2
    have hmul : -9223372036854775808 ≤ (p - t) * getI R1 (k : Int) ∧ (p - t) * getI R1 (k : Int) < 9223372036854775808 := by omega
    have hK1 := hKl (k + 1)
    rw [if_neg (by omega), if_neg (by omega), nxL_succ] at hK1
    have bl1 : ∀ H (a : Int), evE call H (.bldS true true 1 1 [.int .i64 0] [(0, 1)]) [.int .i64 a] = some (.rd 1 1 (iL [a]), H) := fun H a => rfl
    have hnl := nxL_len p t (getLL rows (i : Int)) R1 k
    clear hKl hb hb2 hK
    by_cases h0 : k = 0
    · subst h0
      rw [if_pos rfl, if_pos rfl]
      have e0 : nxL p t (getLL rows (i : Int)) R1 0 = [] := rfl
      rw [e0] at hK1
      have l1 := dr_ld (H := [some (.data (rows.map fzL))]) (id := 0) (i := i) (rows := rows) rfl (by omega)
      have ap : ∀ a : Int, evE call [some (.data (rows.map fzL))] (.app false 1 8) [.nilS, .rd 1 1 (iL [a])] = some (.sl 1 1 0 1, [some (.data (rows.map fzL)), some (.data (iL [a]))]) := fun a => e_app_nil rfl (by decide) (by decide)
      repeat' first
 | (apply s_mov; exact aW)
 | (apply c_nil)
 | (apply s_lss; exact rfl; all_goals (intro _; try (exfalso; omega)))
 | (apply s_add; exact rfl; omega)
 | (apply s_sub; exact rfl; omega)
 | (apply s_pn; exact aO; exact p_ixO hin)
 | (apply s_pn; exact aO; exact l1)
 | (apply s_mul; exact rfl; exact hmul)
 | (apply s_rem; exact rfl; omega)
 | (apply s_en; exact aO; exact bl1 _ _)
 | (apply s_en; exact aO; exact ap _)
 | (apply s_len; exact aW; exact aI)
 | (apply s_idx; exact aW; exact rfl; exact aI; omega)
 | (apply s_ldI; exact rfl; omega)
 | (apply c_seq)
 | (apply c_reg)
 | (apply c_block)
 | (apply c_skip)
 | (apply c_condT; exact rfl)
 | (with_reducible apply k_c)
      all_goals try (exfalso; omega)
      refine hK1 _ _ (by omega) (by omega) ?_
      exact g1 _ _ _ _
    · rw [if_neg h0, if_neg h0]
      have l1 := dr_ld (H := [some (.data (rows.map fzL)), some (.data (iL (nxL p t (getLL rows (i : Int)) R1 k)))]) (id := 0) (i := i) (rows := rows) rfl (by omega)
      have ap : ∀ a : Int, evE call [some (.data (rows.map fzL)), some (.data (iL (nxL p t (getLL rows (i : Int)) R1 k)))] (.app false 1 8) [.sl 1 1 0 k, .rd 1 1 (iL [a])] = some (.sl 2 1 0 (k + 1), [some (.data (rows.map fzL)), none, some (.data (iL (nxL p t (getLL rows (i : Int)) R1 k ++ [a])))]) := fun a => by
        have := e_app_sl (call := call) (q := 8) (id := 1) (H := [some (.data (rows.map fzL)), some (.data (iL (nxL p t (getLL rows (i : Int)) R1 k)))]) (cs := iL (nxL p t (getLL rows (i : Int)) R1 k)) (bs := iL [a]) (n := 1) (k := k) rfl (by rw [iL_len]; exact hnl) (by decide) (by unfold most; omega)
        rw [this]
        simp [iL]
      repeat' first
 | (apply s_mov; exact aW)
 | (apply c_nil)
 | (apply s_lss; exact rfl; all_goals (intro _; try (exfalso; omega)))
 | (apply s_add; exact rfl; omega)
 | (apply s_sub; exact rfl; omega)
 | (apply s_pn; exact aO; exact p_ixO hin)
 | (apply s_pn; exact aO; exact l1)
 | (apply s_mul; exact rfl; exact hmul)
 | (apply s_rem; exact rfl; omega)
 | (apply s_en; exact aO; exact bl1 _ _)
 | (apply s_en; exact aO; exact ap _)
 | (apply s_len; exact aW; exact aI)
 | (apply s_idx; exact aW; exact rfl; exact aI; omega)
 | (apply s_ldI; exact rfl; omega)
 | (apply c_seq)
 | (apply c_reg)
 | (apply c_block)
 | (apply c_skip)
 | (apply c_condT; exact rfl)
 | (with_reducible apply k_c)
      all_goals try (exfalso; omega)
      refine hK1 _ _ (by omega) (by omega) ?_
      exact g2 _ _ _ _
  · obtain rfl : k = n := by omega
    rw [if_neg (by omega), if_neg (by omega)]
    clear hKl
    repeat' first
 | (apply s_mov; exact aW)
 | (apply c_nil)
 | (apply s_lss; exact rfl; all_goals (intro _; try (exfalso; omega)))
 | (apply s_len; exact aW; exact aI)
 | (apply c_seq)
 | (apply c_reg)
 | (apply c_exitH)
 | (apply c_condF; exact rfl)
 | (with_reducible apply k_c)
    all_goals try (exfalso; omega)
    refine hK _ _ ?_
    exact g3 _ _ _
def rU (p lead : Int) (c i : Nat) (rows0 : List (List Int)) (u v : Nat) : Int := if c < u ∧ u < i then (getI (getLL rows0 (u : Int)) (v : Int) + (p - (getI (getLL rows0 (u : Int)) (c : Int) * lead).tmod p) * getI (getLL rows0 (c : Int)) (v : Int)).tmod p else getI (getLL rows0 (u : Int)) (v : Int)
theorem rU_in {n c : Nat} {p lead : Int} {rows0 : List (List Int)} (hp : 2 ≤ p ∧ p ≤ 2147483647) (hcn : c < n) (hlead : 0 ≤ lead ∧ lead < p) (hb : ∀ u v : Nat, u < n → v < n → 0 ≤ getI (getLL rows0 (u : Int)) (v : Int) ∧ getI (getLL rows0 (u : Int)) (v : Int) < p) (i : Nat) : ∀ u v : Nat, u < n → v < n → 0 ≤ rU p lead c i rows0 u v ∧ rU p lead c i rows0 u v < p := fun u v hu hv => by
  unfold rU
  split
  · have b1 := hb u v hu hv
    have b2 := hb c v hcn hv
    have b3 := hb u c hu hcn
    have q1 := mul_in (a := getI (getLL rows0 (u : Int)) (c : Int)) (c := lead) hp (by omega) hlead
    have q2 := tmod_in (p := p) hp.1 q1.1
    have q3 := mul_in (a := p - (getI (getLL rows0 (u : Int)) (c : Int) * lead).tmod p) (c := getI (getLL rows0 (c : Int)) (v : Int)) hp (by omega) b2
    have q4 := tmod_in (p := p) (x := getI (getLL rows0 (u : Int)) (v : Int) + (p - (getI (getLL rows0 (u : Int)) (c : Int) * lead).tmod p) * getI (getLL rows0 (c : Int)) (v : Int)) hp.1 (by omega)
    exact ⟨q4.1, q4.2.1⟩
  · exact hb u v hu hv
theorem setR_rows {n i : Nat} {r : List Int} {rows : List (List Int)} (h : Rows n rows) (hr : r.length = n) : Rows n (rows.set i r) := by
  refine ⟨by simp [h.len], fun x hx => ?_⟩
  rcases List.mem_or_eq_of_mem_set hx with hx | hx
  · exact h.each x hx
  · rw [hx]; exact hr
theorem setR_get {n i u : Nat} {r : List Int} {rows : List (List Int)} (h : Rows n rows) (hi : i < n) : getLL (rows.set i r) (u : Int) = if u = i then r else getLL rows (u : Int) := by
  have hl := h.len
  rw [getLL_nat, getLL_nat]
  by_cases e : u = i
  · subst e; rw [if_pos rfl]; simp [List.getD, hl, hi]
  · rw [if_neg e]; unfold List.getD; rw [List.getElem?_set_ne (Ne.symm e)]
theorem LR26 {call : CallF} {N : Nat} {K0 : KT} {X : Nat → KT} {Rt : KT} {res : R} {env : Env} {H : Heap} {n c : Nat} {p out lead : Int} {rows0 : List (List Int)}
    (hN : 100 ≤ N) (hn : n ≤ 12) (hr0 : Rows n rows0) (hcn : c < n) (hp : 2 ≤ p ∧ p ≤ 2147483647) (hlead : 0 ≤ lead ∧ lead < p) (hb : ∀ u v : Nat, u < n → v < n → 0 ≤ getI (getLL rows0 (u : Int)) (v : Int) ∧ getI (getLL rows0 (u : Int)) (v : Int) < p)
    (h0 : gc 0 (looks env [1, 6, 10, 11, 13, 14, 16]) H = some ([.int .i64 p, .sl 0 1 0 n, .int .i64 out, .int .i64 (c : Int), fzL (getLL rows0 (c : Int)), .int .i64 lead, .int .i64 ((c + 1 : Nat) : Int)], [some (.data (rows0.map fzL))]))
    (hK : ∀ rows, Rows n rows → (∀ u v : Nat, u < n → v < n → getI (getLL rows (u : Int)) (v : Int) = rU p lead c n rows0 u v) → ∀ env' H', gc 0 (looks env' [1, 6, 10, 11]) H' = some ([.int .i64 p, .sl 0 1 0 n, .int .i64 out, .int .i64 (c : Int)], [some (.data (rows.map fzL))]) → K0 env' H' = res) :
    loopIt N (fun K => evC call it N lb66_26 0 K (blkX 8 K0 X) Rt) env H = res := by
  have hI1 := isL_fz (getLL rows0 (c : Int))
  have f1 := hI1.free
  have hRl := hr0.get hcn
  have hb0 := fun v hv => hb c v hcn hv
  refine loop_gc (σ := Nat × List (List Int)) (fun s => [.int .i64 p, .sl 0 1 0 n, .int .i64 out, .int .i64 (c : Int), fzL (getLL rows0 (c : Int)), .int .i64 lead, .int .i64 (s.1 : Int)]) (fun s => [some (.data (s.2.map fzL))]) (fun s => c + 1 ≤ s.1 ∧ s.1 ≤ n ∧ Rows n s.2 ∧ ∀ u v : Nat, u < n → v < n → getI (getLL s.2 (u : Int)) (v : Int) = rU p lead c s.1 rows0 u v) (fun s => n - s.1) ?_ _ (c + 1, rows0) _ _ ⟨by dsimp only; omega, by dsimp only; omega, hr0, fun u v hu hv => by dsimp only; unfold rU; rw [if_neg (by omega)]⟩ (by show n - (c + 1) < _; omega) h0
  clear h0
  intro ⟨i, rows⟩ ⟨hi1, hi2, hr, hv⟩ K hKl
  dsimp only at hi1 hi2 hr hv hKl ⊢
  have hrl := hr.len
  by_cases hin : i < n
  · have hbi : ∀ v : Nat, v < n → 0 ≤ getI (getLL rows (i : Int)) (v : Int) ∧ getI (getLL rows (i : Int)) (v : Int) < p := fun v hv' => by
      rw [hv i v hin hv']; exact rU_in hp hcn hlead hb i i v hin hv'
    have hI2 := isL_fz (getLL rows (i : Int))
    have hl2 := hr.get hin
    have b1 := hbi c hcn
    have hprod := mul_in (a := getI (getLL rows (i : Int)) (c : Int)) (c := lead) hp (by omega) hlead
    have hmul : -9223372036854775808 ≤ getI (getLL rows (i : Int)) (c : Int) * lead ∧ getI (getLL rows (i : Int)) (c : Int) * lead < 9223372036854775808 := by omega
    have ht := tmod_in (p := p) hp.1 hprod.1
    have eT : ∀ v : Nat, v < n → getI (getLL rows (i : Int)) (v : Int) = getI (getLL rows0 (i : Int)) (v : Int) := fun v hv' => by
      rw [hv i v hin hv']
      unfold rU
      rw [if_neg (by omega)]
    have l1 := dr_ld (H := [some (.data (rows.map fzL))]) (id := 0) (i := i) (rows := rows) rfl (by omega)
    have hL := fun (K0 : KT) (X : Nat → KT) (env : Env) (H : Heap) => LR20 (call := call) (N := N) (K0 := K0) (X := X) (Rt := Rt) (res := res) (env := env) (H := H) (c := c) (out := out) (lead := lead) (t := (getI (getLL rows (i : Int)) (c : Int) * lead).tmod p) hN hn hr hin hRl hp ⟨ht.1, ht.2.1⟩ hbi hb0
    have hnl := nxL_len p ((getI (getLL rows (i : Int)) (c : Int) * lead).tmod p) (getLL rows (i : Int)) (getLL rows0 (c : Int)) n
    have hr' := setR_rows (i := i) hr hnl
    have hnext : ∀ u v : Nat, u < n → v < n → getI (getLL (rows.set i (nxL p ((getI (getLL rows (i : Int)) (c : Int) * lead).tmod p) (getLL rows (i : Int)) (getLL rows0 (c : Int)) n)) (u : Int)) (v : Int) = rU p lead c (i + 1) rows0 u v := fun u v hu hv' => by
      rw [setR_get hr hin]
      by_cases e : u = i
      · subst e
        rw [if_pos rfl, nxL_get hv', eT v hv', eT c hcn]
        unfold rU
        rw [if_pos (by omega)]
      · rw [if_neg e, hv u v hu hv']
        unfold rU
        by_cases c2 : c < u ∧ u < i
        · rw [if_pos c2, if_pos (by omega)]
        · rw [if_neg c2, if_neg (by omega)]
    have fz1 := fun call => e_frzO (call := call) (H := [some (.data (rows.map fzL)), some (.data (iL (nxL p ((getI (getLL rows (i : Int)) (c : Int) * lead).tmod p) (getLL rows (i : Int)) (getLL rows0 (c : Int)) n)))]) (id := 1) rfl hnl (by omega)
    have st1 := fun call => dr_st (call := call) (H := [some (.data (rows.map fzL)), none]) (id := 0) (i := i) (rows := rows) (r := nxL p ((getI (getLL rows (i : Int)) (c : Int) * lead).tmod p) (getLL rows (i : Int)) (getLL rows0 (c : Int)) n) rfl (by omega)
    have hK1 := fun rows => hKl (i + 1, rows)
    dsimp only at hK1
    have g1 : ∀ (k : Int) (U : List AV), gc 0 [.int .i64 p, .sl 0 1 0 n, .int .i64 out, .int .i64 (c : Int), fzL (getLL rows0 (c : Int)), .int .i64 lead, .int .i64 k] [some (.data U), none] = some ([.int .i64 p, .sl 0 1 0 n, .int .i64 out, .int .i64 (c : Int), fzL (getLL rows0 (c : Int)), .int .i64 lead, .int .i64 k], [some (.data U)]) := fun k U => by simp [go_sem, f1]
    have g1' : ∀ (k : Int) (U : List AV), gc 0 [.int .i64 p, .sl 0 1 0 n, .int .i64 out, .int .i64 (c : Int), fzL (getLL rows0 (c : Int)), .int .i64 lead, .int .i64 k] [some (.data U)] = some ([.int .i64 p, .sl 0 1 0 n, .int .i64 out, .int .i64 (c : Int), fzL (getLL rows0 (c : Int)), .int .i64 lead, .int .i64 k], [some (.data U)]) := fun k U => by simp [go_sem, f1]
    have g2 : ∀ (k t : Int) (U : List AV), gc 0 [.int .i64 p, .sl 0 1 0 n, .int .i64 out, .int .i64 (c : Int), fzL (getLL rows0 (c : Int)), .int .i64 lead, .int .i64 k, .int .i64 t, .nilS, .int .i64 0] [some (.data U)] = some ([.int .i64 p, .sl 0 1 0 n, .int .i64 out, .int .i64 (c : Int), fzL (getLL rows0 (c : Int)), .int .i64 lead, .int .i64 k, .int .i64 t, .nilS, .int .i64 0], [some (.data U)]) := fun k t U => by simp [go_sem, f1]
    clear hv hb hKl hK hb0 hbi eT
    generalize nxL p ((getI (getLL rows (i : Int)) (c : Int) * lead).tmod p) (getLL rows (i : Int)) (getLL rows0 (c : Int)) n = NX at *
    generalize hA : getI (getLL rows (i : Int)) (c : Int) = A at *
    have hA' : ∀ H', evP H' (.ld false 1) [.rp (iL ((getLL rows (i : Int)).drop c))] = some (.int .i64 A) := fun H' => by
      rw [← hA]
      have : (getLL rows (i : Int)).drop c = getI (getLL rows (i : Int)) (c : Int) :: (getLL rows (i : Int)).drop (c + 1) := drop_getI (by omega)
      rw [this]
      simp [evP, ldc, getRow, wholeOf, iL]
    repeat' first
 | (apply s_mov; exact aW)
 | (apply c_nil)
 | (apply s_lss; exact rfl; all_goals (intro _; try (exfalso; omega)))
 | (apply s_pn; exact aO; exact p_ixO hin)
 | (apply s_pn; exact aO; exact l1)
 | (apply s_pn; exact aO; exact hA' _)
 | (apply s_mul; exact rfl; exact hmul)
 | (apply s_rem; exact rfl; omega)
 | (apply s_lenSl; exact rfl)
 | (apply s_idx; exact aW; exact rfl; exact aI; omega)
 | (apply c_seq)
 | (apply c_reg)
 | (apply c_block)
 | (apply c_skip)
 | (apply c_condT; exact rfl)
 | (with_reducible apply k_c)
    all_goals try (exfalso; omega)
    refine c_loop ?_
    refine hL _ _ _ _ ?_ ?_
    · exact g2 _ _ _
    · intro env' H' hgc
      refine k_c (c_pre hgc ?_)
      repeat' first
 | (apply s_mov; exact aW)
 | (apply c_nil)
 | (apply s_en; exact aO; exact (fz1 _))
 | (apply s_pn; exact aO; exact p_ixO hin)
 | (apply s_st; exact aO; exact (st1 _))
 | (apply c_reg)
 | (with_reducible apply k_c)
      refine c_pre (g1 _ _) ?_
      repeat' first
 | (apply s_mov; exact aW)
 | (apply c_nil)
 | (apply s_add; exact rfl; omega)
 | (apply c_reg)
      refine hK1 _ _ _ ⟨by omega, by omega, hr', hnext⟩ (by omega) ?_
      exact g1' _ _
  · obtain rfl : i = n := by omega
    clear hKl hb
    repeat' first
 | (apply s_mov; exact aW)
 | (apply c_nil)
 | (apply s_lss; exact rfl; all_goals (intro _; try (exfalso; omega)))
 | (apply s_lenSl; exact rfl)
 | (apply c_seq)
 | (apply c_reg)
 | (apply c_exitH)
 | (apply c_condF; exact rfl)
 | (with_reducible apply k_c)
    all_goals try (exfalso; omega)
    refine hK rows hr hv _ _ ?_
    simp [go_sem]
set_option maxHeartbeats 8000000
theorem LR13 {call : CallF} {N : Nat} {K0 : KT} {X : Nat → KT} {Rt : KT} {res : R} {env : Env} {H : Heap} {n c : Nat} {p out : Int} {rows : List (List Int)}
    (hN : 100 ≤ N) (hn : n ≤ 12) (hr : Rows n rows) (hcn : c < n)
    (h0 : gc 0 (looks env [1, 6, 10, 11, 12]) H = some ([.int .i64 p, .sl 0 1 0 n, .int .i64 out, .int .i64 (c : Int), .int .i64 (c : Int)], [some (.data (rows.map fzL))]))
    (hK : ∀ k : Nat, c ≤ k → k ≤ n → (∀ u : Nat, c ≤ u → u < k → getI (getLL rows (u : Int)) (c : Int) = 0) → (k < n → getI (getLL rows (k : Int)) (c : Int) ≠ 0) → ∀ env' H', gc 0 (looks env' [1, 6, 10, 11, 12]) H' = some ([.int .i64 p, .sl 0 1 0 n, .int .i64 out, .int .i64 (c : Int), .int .i64 (k : Int)], [some (.data (rows.map fzL))]) → K0 env' H' = res) :
    loopIt N (fun K => evC call it N lb66_13 0 K (blkX 6 K0 X) Rt) env H = res := by
  have hrl := hr.len
  have g1 : ∀ (k : Int) (U : List AV), gc 0 [.int .i64 p, .sl 0 1 0 n, .int .i64 out, .int .i64 (c : Int), .int .i64 k] [some (.data U)] = some ([.int .i64 p, .sl 0 1 0 n, .int .i64 out, .int .i64 (c : Int), .int .i64 k], [some (.data U)]) := fun k U => by simp [go_sem]
  refine loop_gc (σ := Nat) (fun k => [.int .i64 p, .sl 0 1 0 n, .int .i64 out, .int .i64 (c : Int), .int .i64 (k : Int)]) (fun k => [some (.data (rows.map fzL))]) (fun k => c ≤ k ∧ k ≤ n ∧ ∀ u : Nat, c ≤ u → u < k → getI (getLL rows (u : Int)) (c : Int) = 0) (fun k => n - k) ?_ _ c _ _ ⟨by omega, by omega, fun u h1 h2 => by omega⟩ (by show n - c < _; omega) h0
  clear h0
  intro k ⟨hk1, hk2, hz⟩ K hKl
  have hKk := hK k hk1 hk2 hz
  by_cases hkn : k < n
  · have hI2 := isL_fz (getLL rows (k : Int))
    have hl2 := hr.get hkn
    have l1 := dr_ld (H := [some (.data (rows.map fzL))]) (id := 0) (i := k) (rows := rows) rfl (by omega)
    have hA' : ∀ H', evP H' (.ld false 1) [.rp (iL ((getLL rows (k : Int)).drop c))] = some (.int .i64 (getI (getLL rows (k : Int)) (c : Int))) := fun H' => by
      have : (getLL rows (k : Int)).drop c = getI (getLL rows (k : Int)) (c : Int) :: (getLL rows (k : Int)).drop (c + 1) := drop_getI (by omega)
      rw [this]
      simp [evP, ldc, getRow, wholeOf, iL]
    have hK1 := hKl (k + 1)
    by_cases hzk : getI (getLL rows (k : Int)) (c : Int) = 0
    · have hz2 : ∀ u : Nat, c ≤ u → u < k + 1 → getI (getLL rows (u : Int)) (c : Int) = 0 := fun u h1 h2 => by
        rcases (by omega : u < k ∨ u = k) with h | h
        · exact hz u h1 h
        · rw [h]; exact hzk
      clear hKl hKk hK hz
      generalize getI (getLL rows (k : Int)) (c : Int) = A at *
      repeat' first
 | (apply s_mov; exact aW)
 | (apply s_gT; exact rfl)
 | (apply c_nil)
 | (apply s_pickT; exact rfl; exact aW)
 | (apply s_lss; exact rfl; all_goals (intro _; try (exfalso; omega)))
 | (apply s_eql; exact rfl; all_goals (intro _; try (exfalso; omega)))
 | (apply s_add; exact rfl; omega)
 | (apply s_pn; exact aO; exact p_ixO hkn)
 | (apply s_pn; exact aO; exact l1)
 | (apply s_pn; exact aO; exact hA' _)
 | (apply s_lenSl; exact rfl)
 | (apply s_idx; exact aW; exact rfl; exact aI; omega)
 | (apply c_seq)
 | (apply c_reg)
 | (apply c_block)
 | (apply c_skip)
 | (apply c_condT; exact rfl)
 | (with_reducible apply k_c)
      all_goals first
        | (exfalso; omega)
        | (refine hK1 _ _ ⟨by omega, by omega, hz2⟩ (by omega) ?_
           exact g1 _ _)
    · have hK2 := hKk fun _ => hzk
      clear hKl hKk hK hz hK1
      generalize getI (getLL rows (k : Int)) (c : Int) = A at *
      repeat' first
 | (apply s_mov; exact aW)
 | (apply s_gT; exact rfl)
 | (apply c_nil)
 | (apply s_pickT; exact rfl; exact aW)
 | (apply s_lss; exact rfl; all_goals (intro _; try (exfalso; omega)))
 | (apply s_eql; exact rfl; all_goals (intro _; try (exfalso; omega)))
 | (apply s_pn; exact aO; exact p_ixO hkn)
 | (apply s_pn; exact aO; exact l1)
 | (apply s_pn; exact aO; exact hA' _)
 | (apply s_lenSl; exact rfl)
 | (apply s_idx; exact aW; exact rfl; exact aI; omega)
 | (apply c_seq)
 | (apply c_reg)
 | (apply c_exitH)
 | (apply c_condF; exact rfl)
 | (with_reducible apply k_c)
      all_goals first
        | (exfalso; omega)
        | (refine hK2 _ _ ?_
           exact g1 _ _)
  · obtain rfl : k = n := by omega
    have hK2 := hKk fun h => absurd h (by omega)
    clear hKl hKk hK hz
    repeat' first
 | (apply s_mov; exact aW)
 | (apply s_gF; exact rfl)
 | (apply c_nil)
 | (apply s_pickF; exact rfl; exact aW)
 | (apply s_lss; exact rfl; all_goals (intro _; try (exfalso; omega)))
 | (apply s_lenSl; exact rfl)
 | (apply c_seq)
 | (apply c_reg)
 | (apply c_exitH)
 | (apply c_condF; exact rfl)
 | (with_reducible apply k_c)
    all_goals first
      | (exfalso; omega)
      | (refine hK2 _ _ ?_
         exact g1 _ _)
theorem inv_in2 {p : Int} (hp : 2 ≤ p ∧ p ≤ 2147483647) (hnd : allND p.toNat 16 2 = true) {A : Int} (h1 : 0 ≤ A ∧ A < p) (h0 : A ≠ 0) {m : Nat} (hm : 203 ≤ m) :
    ∃ lead : Int, (0 ≤ lead ∧ lead < p) ∧ p ∣ lead * A - 1 ∧ ∀ H, callPure (evF tab it m) true 97 [.int .i64 A, .int .i64 p] H = some (.tup [.int .i64 lead, .bool true], H) := by
  have hg : Nat.gcd A.toNat p.toNat = 1 := cop_of (by omega) hnd (by omega) (by omega)
  obtain ⟨a, b, c⟩ := invOf_spec (a := A.toNat) (n := p.toNat) (by omega) hg
  have hp0 : ((p.toNat : Nat) : Int) = p := Int.toNat_of_nonneg (by omega)
  have hA0 : ((A.toNat : Nat) : Int) = A := Int.toNat_of_nonneg h1.1
  rw [hp0] at b c
  rw [hA0] at c
  refine ⟨_, ⟨a, b⟩, c, fun H => ?_⟩
  have := c97 (A := A.toNat) (B := p.toNat) (by omega) (by omega) (by omega) hm H
  rw [if_pos hg, hp0, hA0] at this
  exact this
theorem LR36 {N : Nat} {m : Nat} {K0 : KT} {X : Nat → KT} {Rt : KT} {res : R} {env : Env} {H : Heap} {n : Nat} {p D : Int} {rows0 : List (List Int)}
    (hN : 100 ≤ N) (hm : 300 ≤ m) (hn : n ≤ 12) (hp : 2 ≤ p ∧ p ≤ 2147483647) (hnd : allND p.toNat 16 2 = true) (hG : Gau n p D 0 rows0 1)
    (h0 : gc 0 (looks env [1, 6, 10, 11]) H = some ([.int .i64 p, .sl 0 1 0 n, .int .i64 1, .int .i64 0], [some (.data (rows0.map fzL))]))
    (hR : p ∣ D - 0 → ∀ env' H', look env' 4 = .int .i64 0 → Rt env' H' = res)
    (hK : ∀ rows out, Gau n p D n rows out → ∀ env' H', gc 0 (looks env' [10]) H' = some ([.int .i64 out], []) → K0 env' H' = res) :
    loopIt N (fun K => evC (evF tab it m) it N lb66_36 0 K (blkX 4 K0 X) Rt) env H = res := by
  have g1 : ∀ (o c : Int) (U : List AV), gc 0 [.int .i64 p, .sl 0 1 0 n, .int .i64 o, .int .i64 c] [some (.data U)] = some ([.int .i64 p, .sl 0 1 0 n, .int .i64 o, .int .i64 c], [some (.data U)]) := fun o k U => by simp [go_sem]
  have g2 : ∀ (o c k : Int) (U : List AV), gc 0 [.int .i64 p, .sl 0 1 0 n, .int .i64 o, .int .i64 c, .int .i64 k] [some (.data U)] = some ([.int .i64 p, .sl 0 1 0 n, .int .i64 o, .int .i64 c, .int .i64 k], [some (.data U)]) := fun o c k U => by simp [go_sem]
  have g3 : ∀ (o c l i : Int) (r : List Int) (U : List AV), gc 0 [.int .i64 p, .sl 0 1 0 n, .int .i64 o, .int .i64 c, fzL r, .int .i64 l, .int .i64 i] [some (.data U)] = some ([.int .i64 p, .sl 0 1 0 n, .int .i64 o, .int .i64 c, fzL r, .int .i64 l, .int .i64 i], [some (.data U)]) := fun o c l i r U => by
    have := (isL_fz r).free
    simp [go_sem, this]
  refine loop_gc (σ := Nat × List (List Int) × Int) (fun s => [.int .i64 p, .sl 0 1 0 n, .int .i64 s.2.2, .int .i64 (s.1 : Int)]) (fun s => [some (.data (s.2.1.map fzL))]) (fun s => s.1 ≤ n ∧ Gau n p D s.1 s.2.1 s.2.2) (fun s => n - s.1) ?_ _ (0, rows0, 1) _ _ ⟨by dsimp only; omega, hG⟩ (by show n - 0 < _; omega) h0
  clear h0 hG
  intro ⟨c, rows, out⟩ ⟨hcn', hG⟩ K hKl
  dsimp only at hcn' hG hKl ⊢
  have hr := hG.r
  have hrl := hr.len
  by_cases hcn : c < n
  · have hK1 := fun rows out => hKl (c + 1, rows, out)
    dsimp only at hK1
    have ho := hG.o
    have hL13 := fun (K0 : KT) (X : Nat → KT) (env : Env) (H : Heap) => LR13 (call := evF tab it m) (N := N) (K0 := K0) (X := X) (Rt := Rt) (res := res) (env := env) (H := H) (p := p) (out := out) hN hn hr hcn
    have hL := fun (K0 : KT) (X : Nat → KT) (env : Env) (H : Heap) (out lead : Int) (rows1 : List (List Int)) (h : Gau n p D c rows1 out) (hl : 0 ≤ lead ∧ lead < p) (out1 : Int) => LR26 (call := evF tab it m) (N := N) (K0 := K0) (X := X) (Rt := Rt) (res := res) (env := env) (out := out1) (lead := lead) (H := H) (c := c) hN hn h.r hcn hp hl h.b
    have hrnd : ∀ (rows1 : List (List Int)) (out1 lead : Int), Gau n p D c rows1 out1 → (0 ≤ lead ∧ lead < p) → p ∣ lead * getI (getLL rows1 (c : Int)) (c : Int) - 1 → ∀ rows2, Rows n rows2 → (∀ u v : Nat, u < n → v < n → getI (getLL rows2 (u : Int)) (v : Int) = rU p lead c n rows1 u v) → Gau n p D (c + 1) rows2 ((out1 * getI (getLL rows1 (c : Int)) (c : Int)).tmod p) := fun rows1 out1 lead h1 h2 h3 rows2 h4 h5 =>
      gau_next2 hp hcn h2 h1 h4 (fun u v hu hv => by rw [h5 u v hu hv]; exact rU_in hp hcn h2 h1.b n u v hu hv) (fun u v a1 a2 hu hv => by
        rw [h5 u v hu hv]
        unfold rU rT
        rw [if_pos ⟨a1, hu⟩, if_pos ⟨a1, hu, a2⟩]) h3
    have e87 := fun (A : Int) (h1 : 0 ≤ A ∧ A < p) (h0 : A ≠ 0) => inv_in2 hp hnd h1 h0 (m := m) (by omega)
    generalize hcall : evF tab it m = call at *
    clear hKl
    repeat' first
 | (apply s_mov; exact aW)
 | (apply c_nil)
 | (apply s_lss; exact rfl; all_goals (intro _; try (exfalso; omega)))
 | (apply s_lenSl; exact rfl)
 | (apply c_seq)
 | (apply c_reg)
 | (apply c_block)
 | (apply c_skip)
 | (apply c_condT; exact rfl)
 | (with_reducible apply k_c)
    all_goals try (exfalso; omega)
    refine c_loop ?_
    refine hL13 _ _ _ _ ?_ ?_
    · exact g2 _ _ _ _
    intro k hk1 hk2 hz hnz env' H' hgc
    refine k_c (c_pre hgc ?_)
    clear hL13 hgc
    by_cases hkn : k < n
    · have hnzk := hnz hkn
      have hIk := isL_fz (getLL rows (k : Int))
      have hlk := hr.get hkn
      have lk := dr_ld (H := [some (.data (rows.map fzL))]) (id := 0) (i := k) (rows := rows) rfl (by omega)
      have hA' : ∀ H', evP H' (.ld false 1) [.rp (iL ((getLL rows (k : Int)).drop c))] = some (.int .i64 (getI (getLL rows (k : Int)) (c : Int))) := fun H' => by
        have : (getLL rows (k : Int)).drop c = getI (getLL rows (k : Int)) (c : Int) :: (getLL rows (k : Int)).drop (c + 1) := drop_getI (by omega)
        rw [this]
        simp [evP, ldc, getRow, wholeOf, iL]
      have b0 := hG.b k c hkn hcn
      obtain ⟨lead, hl1, hl2, e97⟩ := e87 _ b0 hnzk
      by_cases hkc : k = c
      · subst hkc
        have hprod := mul_in (a := out) (c := getI (getLL rows (k : Int)) (k : Int)) hp (by omega) b0
        have hmul : -9223372036854775808 ≤ out * getI (getLL rows (k : Int)) (k : Int) ∧ out * getI (getLL rows (k : Int)) (k : Int) < 9223372036854775808 := by omega
        have hLL := fun K0 X env H => hL K0 X env H out lead rows hG hl1 ((out * getI (getLL rows (k : Int)) (k : Int)).tmod p)
        have hnx := hrnd rows out lead hG hl1 hl2
        clear hL hrnd e87 hz hnz hl2 hG
        generalize getI (getLL rows (k : Int)) (k : Int) = A at *
        repeat' first
 | (apply s_mov; exact aW)
 | (apply c_nil)
 | (apply s_eql; exact rfl; all_goals (intro _; try (exfalso; omega)))
 | (apply s_neq; exact rfl; all_goals (intro _; try (exfalso; omega)))
 | (apply s_add; exact rfl; omega)
 | (apply s_pn; exact aO; exact p_ixO hkn)
 | (apply s_pn; exact aO; exact lk)
 | (apply s_pn; exact aO; exact hA' _)
 | (apply s_mul; exact rfl; exact hmul)
 | (apply s_rem; exact rfl; omega)
 | (apply s_cn; exact aO; exact e97 _)
 | (apply s_lenSl; exact rfl)
 | (apply s_idx; exact aW; exact rfl; exact aI; omega)
 | (apply s_pd; exact aW)
 | (apply c_seq)
 | (apply c_reg)
 | (apply c_block)
 | (apply c_skip)
 | (apply c_condF; exact rfl)
 | (with_reducible apply k_c)
        all_goals try (exfalso; omega)
        refine c_loop ?_
        refine hLL _ _ _ _ ?_ ?_
        · exact g3 _ _ _ _ _ _
        · intro rows' hr' hv' env' H' hgc
          refine k_c (c_pre hgc ?_)
          repeat' first
 | (apply s_mov; exact aW)
 | (apply c_nil)
 | (apply s_add; exact rfl; omega)
 | (apply c_reg)
          refine hK1 rows' _ _ _ ⟨by omega, hnx rows' hr' hv'⟩ (by omega) ?_
          exact g1 _ _ _
      · have hck : c < k := by omega
        have hG2 := gau_sw hp hcn hkn hck hG
        have e0 : getLL (swL c k rows) (c : Int) = getLL rows (k : Int) := by rw [swL_get hr hcn hkn, if_neg (by omega), if_pos rfl]
        have lc := dr_ld (H := [some (.data (rows.map fzL))]) (id := 0) (i := c) (rows := rows) rfl (by omega)
        have st1 := fun call => dr_st (call := call) (H := [some (.data (rows.map fzL))]) (id := 0) (i := k) (rows := rows) (r := getLL rows (c : Int)) rfl (by omega)
        have st2 := fun call => dr_st (call := call) (H := [some (.data ((rows.set k (getLL rows (c : Int))).map fzL))]) (id := 0) (i := c) (rows := rows.set k (getLL rows (c : Int))) (r := getLL rows (k : Int)) rfl (by rw [List.length_set]; omega)
        have esw : (rows.set k (getLL rows (c : Int))).set c (getLL rows (k : Int)) = swL c k rows := by
          unfold swL
          exact List.set_comm _ _ (by omega)
        rw [esw] at st2
        have ho2 := hG2.o
        have hprod := mul_in (a := (p - out).tmod p) (c := getI (getLL rows (k : Int)) (c : Int)) hp (by omega) b0
        have hmul : -9223372036854775808 ≤ (p - out).tmod p * getI (getLL rows (k : Int)) (c : Int) ∧ (p - out).tmod p * getI (getLL rows (k : Int)) (c : Int) < 9223372036854775808 := by omega
        have hLL := fun K0 X env H => hL K0 X env H ((p - out).tmod p) lead _ hG2 hl1 (((p - out).tmod p * getI (getLL rows (k : Int)) (c : Int)).tmod p)
        have hnx := hrnd (swL c k rows) ((p - out).tmod p) lead hG2 hl1
        rw [e0] at hLL hnx
        have hnx := hnx hl2
        clear hL hrnd e87 hz hnz hl2 hG hG2 e0
        generalize getI (getLL rows (k : Int)) (c : Int) = A at *
        repeat' first
 | (apply s_mov; exact aW)
 | (apply c_nil)
 | (apply s_eql; exact rfl; all_goals (intro _; try (exfalso; omega)))
 | (apply s_neq; exact rfl; all_goals (intro _; try (exfalso; omega)))
 | (apply s_add; exact rfl; omega)
 | (apply s_sub; exact rfl; omega)
 | (apply s_pn; exact aO; exact p_ixO hkn)
 | (apply s_pn; exact aO; exact p_ixO hcn)
 | (apply s_pn; exact aO; exact lk)
 | (apply s_pn; exact aO; exact lc)
 | (apply s_pn; exact aO; exact hA' _)
 | (apply s_st; exact aO; exact (st1 _))
 | (apply s_st; exact aO; exact (st2 _))
 | (apply s_mul; exact rfl; exact hmul)
 | (apply s_rem; exact rfl; omega)
 | (apply s_cn; exact aO; exact e97 _)
 | (apply s_lenSl; exact rfl)
 | (apply s_idx; exact aW; exact rfl; exact aI; omega)
 | (apply s_pd; exact aW)
 | (apply c_seq)
 | (apply c_reg)
 | (apply c_block)
 | (apply c_skip)
 | (apply c_condT; exact rfl)
 | (apply c_condF; exact rfl)
 | (with_reducible apply k_c)
        all_goals try (exfalso; omega)
        refine c_loop ?_
        refine hLL _ _ _ _ ?_ ?_
        · exact g3 _ _ _ _ _ _
        · intro rows' hr' hv' env' H' hgc
          refine k_c (c_pre hgc ?_)
          repeat' first
 | (apply s_mov; exact aW)
 | (apply c_nil)
 | (apply s_add; exact rfl; omega)
 | (apply c_reg)
          refine hK1 rows' _ _ _ ⟨by omega, hnx rows' hr' hv'⟩ (by omega) ?_
          exact g1 _ _ _
    · obtain rfl : k = n := by omega
      have hdv := gau_none hcn hG hz
      clear hL hrnd e87 hz hnz hK1 hG
      repeat' first
 | (apply s_mov; exact aW)
 | (apply c_nil)
 | (apply s_eql; exact rfl; all_goals (intro _; try (exfalso; omega)))
 | (apply s_lenSl; exact rfl)
 | (apply c_seq)
 | (apply c_reg)
 | (apply c_ret)
 | (apply c_condT; exact rfl)
 | (with_reducible apply k_c)
      all_goals first
        | (exfalso; omega)
        | exact hR hdv _ _ rfl
  · obtain rfl : c = n := by omega
    clear hKl
    repeat' first
 | (apply s_mov; exact aW)
 | (apply c_nil)
 | (apply s_lss; exact rfl; all_goals (intro _; try (exfalso; omega)))
 | (apply s_lenSl; exact rfl)
 | (apply c_seq)
 | (apply c_reg)
 | (apply c_exitH)
 | (apply c_condF; exact rfl)
 | (with_reducible apply k_c)
    all_goals try (exfalso; omega)
    refine hK rows out hG _ _ ?_
    exact gc_to rfl rfl
set_option maxHeartbeats 8000000
def rwL (p : Int) (b : List (List Int)) (i k : Nat) : List Int := (List.range k).map fun (v : Nat) => if i = v + 1 then deg b.length (ed b) i else (p - ed b i (v + 1)).tmod p
theorem rwL_len (p : Int) (b : List (List Int)) (i k : Nat) : (rwL p b i k).length = k := by simp [rwL]
theorem rwL_succ (p : Int) (b : List (List Int)) (i k : Nat) : rwL p b i (k + 1) = rwL p b i k ++ [if i = k + 1 then deg b.length (ed b) i else (p - ed b i (k + 1)).tmod p] := by
  unfold rwL
  rw [List.range_succ, List.map_append]
  rfl
theorem rwL_get {p : Int} {b : List (List Int)} {i k v : Nat} (h : v < k) : getI (rwL p b i k) (v : Int) = if i = v + 1 then deg b.length (ed b) i else (p - ed b i (v + 1)).tmod p := by
  rw [getI_nat]
  simp [rwL, List.getD, h]
structure RV (x : AV) (p nb : Int) (V : AV) (P : Heap) : Prop where
  g0 : ∀ i j : Int, gc 0 [x, .int .i64 p, .int .i64 nb, V, .int .i64 i, .nilS, .int .i64 j] P = some ([x, .int .i64 p, .int .i64 nb, V, .int .i64 i, .nilS, .int .i64 j], P)
  g1 : ∀ (i j : Int) (k : Nat) (L : List AV), gc 0 [x, .int .i64 p, .int .i64 nb, V, .int .i64 i, .sl P.length 1 0 k, .int .i64 j] (P ++ [some (.data L)]) = some ([x, .int .i64 p, .int .i64 nb, V, .int .i64 i, .sl P.length 1 0 k, .int .i64 j], P ++ [some (.data L)])
  g2 : ∀ (i j : Int) (k : Nat) (L : List AV), gc 0 [x, .int .i64 p, .int .i64 nb, V, .int .i64 i, .sl (P.length + 1) 1 0 k, .int .i64 j] (P ++ [none, some (.data L)]) = some ([x, .int .i64 p, .int .i64 nb, V, .int .i64 i, .sl P.length 1 0 k, .int .i64 j], P ++ [some (.data L)])
  g3 : ∀ (i : Int) (k : Nat) (L : List AV), gc 0 [x, .int .i64 p, .int .i64 nb, V, .int .i64 i, .sl P.length 1 0 k] (P ++ [some (.data L)]) = some ([x, .int .i64 p, .int .i64 nb, V, .int .i64 i, .sl P.length 1 0 k], P ++ [some (.data L)])
theorem rv_nil {x : AV} (fx : x.idFree = true) (p nb : Int) : RV x p nb .nilS [] :=
  ⟨fun i j => by simp [go_sem, fx], fun i j k L => by simp [go_sem, fx], fun i j k L => by simp [go_sem, fx], fun i k L => by simp [go_sem, fx]⟩
theorem rv_sl {x : AV} (fx : x.idFree = true) (p nb : Int) (M : Nat) (C : List AV) : RV x p nb (.sl 0 1 0 M) [some (.data C)] :=
  ⟨fun i j => by simp [go_sem, fx], fun i j k L => by simp [go_sem, fx], fun i j k L => by simp [go_sem, fx], fun i k L => by simp [go_sem, fx]⟩
theorem LR5 {m N : Nat} {K0 : KT} {X : Nat → KT} {Rt : KT} {res : R} {env : Env} {H : Heap} {x V : AV} {P : Heap} {b : List (List Int)} {n i : Nat} {p : Int}
    (hN : 100 ≤ N) (hm : 1100 ≤ m) (hx : IsLL x b) (hB : IsB b) (hbn : b.length = n + 1) (hi : 1 ≤ i) (hin : i < n + 1) (hp : 40 ≤ p ∧ p ≤ 2147483647) (hV : RV x p (b.length : Int) V P)
    (h0 : gc 0 (looks env [0, 1, 5, 6, 7, 8, 9]) H = some ([x, .int .i64 p, .int .i64 (b.length : Int), V, .int .i64 (i : Int), .nilS, .int .i64 1], P))
    (hK : ∀ env' H', gc 0 (looks env' [0, 1, 5, 6, 7, 8]) H' = some ([x, .int .i64 p, .int .i64 (b.length : Int), V, .int .i64 (i : Int), .sl P.length 1 0 n], P ++ [some (.data (iL (rwL p b i n)))]) → K0 env' H' = res) :
    loopIt N (fun K => evC (evF tab it m) it N lb66_5 0 K (blkX 2 K0 X) Rt) env H = res := by
  have fx := hx.free
  have hn10 := hB.n2
  have e35 := fun H => c35d hx hB (i := i) (by omega) (m := m) (by omega) H
  refine loop_gc (σ := Nat) (fun k => [x, .int .i64 p, .int .i64 (b.length : Int), V, .int .i64 (i : Int), if k = 0 then .nilS else .sl P.length 1 0 k, .int .i64 ((k + 1 : Nat) : Int)]) (fun k => if k = 0 then P else P ++ [some (.data (iL (rwL p b i k)))]) (fun k => k ≤ n) (fun k => n - k) ?_ _ 0 _ _ (by omega) (by show n - 0 < _; omega) (by rw [if_pos rfl, if_pos rfl]; exact h0)
  clear h0
  intro k hk K hKl
  by_cases hkn : k < n
  · have hrow : (getLL b (i : Int)).length = b.length := hB.row i (by omega)
    have he := hB.ed i (k + 1) (by omega) (by omega)
    have he2 : 0 ≤ ed b i (k + 1) ∧ ed b i (k + 1) ≤ 3 := ⟨he.1.1, he.1.2⟩
    have hee : getI (getLL b (i : Int)) ((k + 1 : Nat) : Int) = ed b i (k + 1) := rfl
    have hI := hx.at (i := (i : Int)) ⟨by omega, by omega⟩
    have hK1 := hKl (k + 1)
    rw [if_neg (by omega), if_neg (by omega), rwL_succ] at hK1
    have bl1 : ∀ call H (a : Int), evE call H (.bldS true true 1 1 [.int .i64 0] [(0, 1)]) [.int .i64 a] = some (.rd 1 1 (iL [a]), H) := fun call H a => rfl
    have ap0 : ∀ call (a : Int), evE call P (.app false 1 8) [.nilS, .rd 1 1 (iL [a])] = some (.sl P.length 1 0 1, P ++ [some (.data (iL [a]))]) := fun call a => e_app_nil rfl (by decide) (by decide)
    have hlk := rwL_len p b i k
    have ap1 : ∀ call (a : Int), evE call (P ++ [some (.data (iL (rwL p b i k)))]) (.app false 1 8) [.sl P.length 1 0 k, .rd 1 1 (iL [a])] = some (.sl (P.length + 1) 1 0 (k + 1), P ++ [none, some (.data (iL (rwL p b i k ++ [a])))]) := fun call a => by
      have hd : Heap.data? (P ++ [some (HO.data (iL (rwL p b i k)))]) P.length = some (iL (rwL p b i k)) := data?_iff.2 (by rw [List.getElem?_append_right (Nat.le_refl _), Nat.sub_self]; rfl)
      have := e_app_sl (call := call) (q := 8) (id := P.length) (H := P ++ [some (.data (iL (rwL p b i k)))]) (cs := iL (rwL p b i k)) (bs := iL [a]) (n := 1) (k := k) hd (by rw [iL_len]; exact hlk) (by decide) (by unfold most; omega)
      rw [this]
      simp [iL]
    have g1 := hV.g1
    have g2 := hV.g2
    clear hKl hK he hV
    generalize hcall : evF tab it m = call at *
    by_cases hik : i = k + 1
    · rw [if_pos hik] at hK1
      generalize deg b.length (ed b) i = dg at *
      by_cases h0 : k = 0
      · subst h0
        rw [if_pos rfl, if_pos rfl]
        have e0 : rwL p b i 0 = [] := rfl
        rw [e0] at hK1
        repeat' first
 | (apply s_mov; exact aW)
 | (apply c_nil)
 | (apply s_lss; exact rfl; all_goals (intro _; try (exfalso; omega)))
 | (apply s_eql; exact rfl; all_goals (intro _; try (exfalso; omega)))
 | (apply s_add; exact rfl; omega)
 | (apply s_cn; exact aO; exact e35 _)
 | (apply s_en; exact aO; exact bl1 _ _ _)
 | (apply s_en; exact aO; exact ap0 _ _)
 | (apply c_seq)
 | (apply c_reg)
 | (apply c_block)
 | (apply c_skip)
 | (apply c_condT; exact rfl)
 | (with_reducible apply k_c)
        all_goals first
          | (exfalso; omega)
          | (refine hK1 _ _ (by omega) (by omega) ?_
             exact g1 _ _ _ _)
      · rw [if_neg h0, if_neg h0]
        repeat' first
 | (apply s_mov; exact aW)
 | (apply c_nil)
 | (apply s_lss; exact rfl; all_goals (intro _; try (exfalso; omega)))
 | (apply s_eql; exact rfl; all_goals (intro _; try (exfalso; omega)))
 | (apply s_add; exact rfl; omega)
 | (apply s_cn; exact aO; exact e35 _)
 | (apply s_en; exact aO; exact bl1 _ _ _)
 | (apply s_en; exact aO; exact ap1 _ _)
 | (apply c_seq)
 | (apply c_reg)
 | (apply c_block)
 | (apply c_skip)
 | (apply c_condT; exact rfl)
 | (with_reducible apply k_c)
        all_goals first
          | (exfalso; omega)
          | (refine hK1 _ _ (by omega) (by omega) ?_
             exact g2 _ _ _ _)
    · rw [if_neg hik] at hK1
      by_cases h0 : k = 0
      · subst h0
        rw [if_pos rfl, if_pos rfl]
        have e0 : rwL p b i 0 = [] := rfl
        rw [e0] at hK1
        repeat' first
 | (apply s_mov; exact aW)
 | (apply c_nil)
 | (apply s_lss; exact rfl; all_goals (intro _; try (exfalso; omega)))
 | (apply s_eql; exact rfl; all_goals (intro _; try (exfalso; omega)))
 | (apply s_add; exact rfl; omega)
 | (apply s_sub; exact rfl; omega)
 | (apply s_rem; exact rfl; omega)
 | (apply s_en; exact aO; exact bl1 _ _ _)
 | (apply s_en; exact aO; exact ap0 _ _)
 | (apply s_idx; exact aW; exact rfl; exact aI; omega)
 | (apply s_idxLL; exact aW; exact rfl; assumption; omega)
 | (apply s_ldI; exact rfl; omega)
 | (apply s_ldLL; exact rfl; assumption; omega)
 | (apply c_seq)
 | (apply c_reg)
 | (apply c_block)
 | (apply c_skip)
 | (apply c_condT; exact rfl)
 | (apply c_condF; exact rfl)
 | (with_reducible apply k_c)
        all_goals first
          | (exfalso; omega)
          | (refine hK1 _ _ (by omega) (by omega) ?_
             exact g1 _ _ _ _)
      · rw [if_neg h0, if_neg h0]
        repeat' first
 | (apply s_mov; exact aW)
 | (apply c_nil)
 | (apply s_lss; exact rfl; all_goals (intro _; try (exfalso; omega)))
 | (apply s_eql; exact rfl; all_goals (intro _; try (exfalso; omega)))
 | (apply s_add; exact rfl; omega)
 | (apply s_sub; exact rfl; omega)
 | (apply s_rem; exact rfl; omega)
 | (apply s_en; exact aO; exact bl1 _ _ _)
 | (apply s_en; exact aO; exact ap1 _ _)
 | (apply s_idx; exact aW; exact rfl; exact aI; omega)
 | (apply s_idxLL; exact aW; exact rfl; assumption; omega)
 | (apply s_ldI; exact rfl; omega)
 | (apply s_ldLL; exact rfl; assumption; omega)
 | (apply c_seq)
 | (apply c_reg)
 | (apply c_block)
 | (apply c_skip)
 | (apply c_condT; exact rfl)
 | (apply c_condF; exact rfl)
 | (with_reducible apply k_c)
        all_goals first
          | (exfalso; omega)
          | (refine hK1 _ _ (by omega) (by omega) ?_
             exact g2 _ _ _ _)
  · obtain rfl : k = n := by omega
    rw [if_neg (by omega), if_neg (by omega)]
    have g3 := hV.g3
    clear hKl
    repeat' first
 | (apply s_mov; exact aW)
 | (apply c_nil)
 | (apply s_lss; exact rfl; all_goals (intro _; try (exfalso; omega)))
 | (apply c_seq)
 | (apply c_reg)
 | (apply c_exitH)
 | (apply c_condF; exact rfl)
 | (with_reducible apply k_c)
    all_goals first
      | (exfalso; omega)
      | (refine hK _ _ ?_
         exact g3 _ _ _)
theorem mod_of {D p r : Int} (h1 : 0 ≤ r ∧ r < p) (h2 : p ∣ D - r) : r = D % p := by
  rw [← Int.emod_eq_of_lt h1.1 h1.2]
  exact Int.emod_eq_emod_iff_emod_sub_eq_zero.2 (by
    have : p ∣ r - D := by obtain ⟨z, hz⟩ := h2; exact ⟨-z, by rw [Int.mul_neg]; omega⟩
    exact Int.emod_eq_zero_of_dvd this) |>.trans rfl
theorem f66 {x : AV} {b : List (List Int)} {p : Int} (hx : IsLL x b) (hB : IsB b) (hp : 40 ≤ p ∧ p ≤ 2147483647) (hnd : allND p.toNat 16 2 = true) {m : Nat} (hm : 1200 ≤ m) :
    evF tab it m 66 [x, .int .i64 p] [] = some (.int .i64 (trN b % p), []) := by
  obtain ⟨m, rfl⟩ : ∃ j, m = j + 1 := ⟨m - 1, by omega⟩
  have fx := hx.free
  have hn1 := hB.n1
  have hn10 := hB.n2
  obtain ⟨n, hbn⟩ : ∃ n, b.length = n + 1 := ⟨b.length - 1, by omega⟩
  have lx : ∀ H, evP H .len [x] = some (.int .i64 ((b.length : Nat) : Int)) := fun H => by cases hx <;> rfl
  have hfin : ∀ (env : Env) (H : Heap) (r : Int), look env 4 = .int .i64 r → 0 ≤ r ∧ r < p → p ∣ trN b - r → finish 0 [.t 4] env H = some (.int .i64 (trN b % p), []) := fun env H r h1 h2 h3 => fin_t h1 rfl (by rw [mod_of h2 h3])
  have hL36 := fun (K0 : KT) (X : Nat → KT) (env : Env) (H : Heap) (rows : List (List Int)) (hr : Rows n rows) (h : MatB n p b rows n) => LR36 (N := m) (m := m) (K0 := K0) (X := X) (Rt := finish 0 [.t 4]) (res := some (.int .i64 (trN b % p), [])) (env := env) (H := H) (n := n) (by omega) (by omega) (by omega) ⟨by omega, hp.2⟩ hnd (gau_mat hB hbn hp.1 hr h)
  have hL5 := fun (K0 : KT) (X : Nat → KT) (Rt : KT) (res : R) (env : Env) (H : Heap) (V : AV) (P : Heap) (i : Nat) (hi : 1 ≤ i) (hin : i < n + 1) => LR5 (N := m) (m := m) (K0 := K0) (X := X) (Rt := Rt) (res := res) (env := env) (H := H) (V := V) (P := P) (i := i) (by omega) (by omega) hx hB hbn hi hin hp
  have hpos := trN_le hB
  refine f_enter rfl rfl ?_
  generalize hcall : evF tab it m = call at *
  repeat' first
 | (apply s_mov; exact aW)
 | (apply c_nil)
 | (apply s_pn; exact aO; exact lx _)
 | (apply c_seq)
 | (apply c_reg)
 | (apply c_block)
 | (with_reducible apply k_c)
  refine c_loop ?_
  refine loop_gc (σ := Nat × List (List Int)) (fun s => [x, .int .i64 p, .int .i64 (b.length : Int), if s.1 = 0 then .nilS else .sl 0 1 0 s.1, .int .i64 ((s.1 + 1 : Nat) : Int)]) (fun s => if s.1 = 0 then [] else [some (.data (s.2.map fzL))]) (fun s => s.1 ≤ n ∧ RowsP s.1 n s.2 ∧ MatB n p b s.2 s.1) (fun s => n - s.1) ?_ _ (0, []) _ _ ⟨by dsimp only; omega, ⟨rfl, fun r hr => by cases hr⟩, fun u v hu hv => by dsimp only at hu; omega⟩ (by show n - 0 < _; omega) (gc_to rfl (by simp [idFreeL, AV.idFree, fx]))
  intro ⟨k, rows⟩ ⟨hk, hr, hv⟩ K hKl
  dsimp only at hk hr hv hKl ⊢
  have hrl := hr.len
  by_cases hkn : k < n
  · have hK1 := fun rows => hKl (k + 1, rows)
    dsimp only at hK1
    simp only [if_neg (show ¬ k + 1 = 0 by omega)] at hK1
    have hnl := rwL_len p b (k + 1) n
    have hr1 : RowsP (k + 1) n (rows ++ [rwL p b (k + 1) n]) := ⟨by simp [hrl], fun r h => by
      rcases List.mem_append.1 h with h | h
      · exact hr.each r h
      · rw [List.mem_singleton.1 h]; exact hnl⟩
    have hM1 : MatB n p b (rows ++ [rwL p b (k + 1) n]) (k + 1) := fun u v hu hv' => by
      rcases (by omega : u < k ∨ u = k) with h | h
      · rw [getLL_app (by omega)]
        exact hv u v h hv'
      · subst h
        have e : getLL (rows ++ [rwL p b (u + 1) n]) (u : Int) = rwL p b (u + 1) n := by
          rw [getLL_nat]
          simp [List.getD, hrl]
        rw [e, rwL_get hv']
        by_cases e2 : u = v
        · subst e2; rw [if_pos rfl, if_pos rfl]
        · rw [if_neg e2, if_neg (by omega)]
    have blr : ∀ call H, evE call H (.bldS true true 1 1 [.nilS] [(0, 1)]) [fzL (rwL p b (k + 1) n)] = some (.rd 1 1 [fzL (rwL p b (k + 1) n)], H) := fun call H => e_bld1 (fz_cells _) (fz_solid _) (fz_one _) (isL_fz _).free
    have hdp : ∀ P : Heap, Heap.data? (P ++ [some (HO.data (iL (rwL p b (k + 1) n)))]) P.length = some (iL (rwL p b (k + 1) n)) := fun P => data?_iff.2 (by rw [List.getElem?_append_right (Nat.le_refl _), Nat.sub_self]; rfl)
    clear hL36 hfin hKl hv
    by_cases h0 : k = 0
    · subst h0
      have hrn : rows = [] := List.length_eq_zero_iff.1 hrl
      subst hrn
      rw [if_pos rfl, if_pos rfl]
      have hL5k := fun K0 X Rt res env H => hL5 K0 X Rt res env H .nilS [] (0 + 1) (by omega) (by omega) (rv_nil fx _ _)
      have fz1 := fun call => e_frzO (call := call) (H := [some (.data (iL (rwL p b (0 + 1) n)))]) (id := 0) rfl hnl (by omega)
      have ap : ∀ call, evE call [none] (.app false 1 24) [.nilS, .rd 1 1 [fzL (rwL p b (0 + 1) n)]] = some (.sl 1 1 0 1, [none, some (.data [fzL (rwL p b (0 + 1) n)])]) := fun call => e_app_nil rfl (by decide) (by decide)
      repeat' first
 | (apply s_mov; exact aW)
 | (apply c_nil)
 | (apply s_lss; exact rfl; all_goals (intro _; try (exfalso; omega)))
 | (apply c_seq)
 | (apply c_reg)
 | (apply c_block)
 | (apply c_skip)
 | (apply c_condT; exact rfl)
 | (with_reducible apply k_c)
      all_goals try (exfalso; omega)
      refine c_loop ?_
      refine hL5k _ _ _ _ _ _ ?_ ?_
      · exact (rv_nil fx _ _).g0 _ _
      intro env' H' hgc
      refine k_c (c_pre hgc ?_)
      repeat' first
 | (apply s_mov; exact aW)
 | (apply c_nil)
 | (apply s_en; exact aO; exact (fz1 _))
 | (apply s_en; exact aO; exact blr _ _)
 | (apply s_en; exact aO; exact ap _)
 | (apply c_reg)
 | (with_reducible apply k_c)
      refine c_pre (vs := [x, .int .i64 p, .int .i64 (b.length : Int), .sl 0 1 0 1, .int .i64 ((0 + 1 : Nat) : Int)]) (H' := [some (.data [fzL (rwL p b (0 + 1) n)])]) (by simp [go_sem, fx]; done) ?_
      repeat' first
 | (apply s_mov; exact aW)
 | (apply c_nil)
 | (apply s_add; exact rfl; omega)
 | (apply c_reg)
      refine hK1 _ _ _ ⟨by omega, hr1, hM1⟩ (by omega) ?_
      exact (by simp [go_sem, fx]; done)
    · rw [if_neg h0, if_neg h0]
      have hL5k := fun K0 X Rt res env H => hL5 K0 X Rt res env H (.sl 0 1 0 k) [some (.data (rows.map fzL))] (k + 1) (by omega) (by omega) (rv_sl fx _ _ _ _)
      have fz1 := fun call => e_frzO (call := call) (H := [some (.data (rows.map fzL)), some (.data (iL (rwL p b (k + 1) n)))]) (id := 1) rfl hnl (by omega)
      have ap : ∀ call, evE call [some (.data (rows.map fzL)), none] (.app false 1 24) [.sl 0 1 0 k, .rd 1 1 [fzL (rwL p b (k + 1) n)]] = some (.sl 2 1 0 (k + 1), [none, none, some (.data ((rows ++ [rwL p b (k + 1) n]).map fzL))]) := fun call => by
        have := e_app_sl (call := call) (q := 24) (id := 0) (H := [some (.data (rows.map fzL)), none]) (cs := rows.map fzL) (bs := [fzL (rwL p b (k + 1) n)]) (n := 1) (k := k) rfl (by rw [List.length_map]; exact hrl) (by decide) (by unfold most; omega)
        rw [this]
        simp
      have g1 : ∀ (z : Nat) (i : Int) (U : List AV), gc 0 [x, .int .i64 p, .int .i64 (b.length : Int), .sl 2 1 0 z, .int .i64 i] [none, none, some (.data U)] = some ([x, .int .i64 p, .int .i64 (b.length : Int), .sl 0 1 0 z, .int .i64 i], [some (.data U)]) := fun z i U => by simp [go_sem, fx]
      have g2 : ∀ (z : Nat) (i : Int) (U : List AV), gc 0 [x, .int .i64 p, .int .i64 (b.length : Int), .sl 0 1 0 z, .int .i64 i] [some (.data U)] = some ([x, .int .i64 p, .int .i64 (b.length : Int), .sl 0 1 0 z, .int .i64 i], [some (.data U)]) := fun z i U => by simp [go_sem, fx]
      repeat' first
 | (apply s_mov; exact aW)
 | (apply c_nil)
 | (apply s_lss; exact rfl; all_goals (intro _; try (exfalso; omega)))
 | (apply c_seq)
 | (apply c_reg)
 | (apply c_block)
 | (apply c_skip)
 | (apply c_condT; exact rfl)
 | (with_reducible apply k_c)
      all_goals try (exfalso; omega)
      refine c_loop ?_
      refine hL5k _ _ _ _ _ _ ?_ ?_
      · exact (rv_sl fx _ _ _ _).g0 _ _
      intro env' H' hgc
      refine k_c (c_pre hgc ?_)
      repeat' first
 | (apply s_mov; exact aW)
 | (apply c_nil)
 | (apply s_en; exact aO; exact (fz1 _))
 | (apply s_en; exact aO; exact blr _ _)
 | (apply s_en; exact aO; exact ap _)
 | (apply c_reg)
 | (with_reducible apply k_c)
      refine c_pre (g1 _ _ _) ?_
      repeat' first
 | (apply s_mov; exact aW)
 | (apply c_nil)
 | (apply s_add; exact rfl; omega)
 | (apply c_reg)
      refine hK1 _ _ _ ⟨by omega, hr1, hM1⟩ (by omega) ?_
      exact g2 _ _ _
  · obtain rfl : k = n := by omega
    clear hKl hL5
    by_cases h0 : k = 0
    · subst h0
      rw [if_pos rfl, if_pos rfl]
      clear hL36
      have e1 : trN b = 1 := by unfold trN; rw [hbn]; rfl
      repeat' first
 | (apply s_mov; exact aW)
 | (apply c_nil)
 | (apply s_lss; exact rfl; all_goals (intro _; try (exfalso; omega)))
 | (apply c_seq)
 | (apply c_reg)
 | (apply c_block)
 | (apply c_exitH)
 | (apply c_condF; exact rfl)
 | (apply c_preF; exact aK; exact aF)
 | (with_reducible apply k_c)
      all_goals try (exfalso; omega)
      refine c_loop ?_
      refine loop_gc (σ := Unit) (fun s => [.int .i64 p, .nilS, .int .i64 1, .int .i64 0]) (fun s => []) (fun s => True) (fun s => 0) ?_ _ () _ _ trivial (by omega) (gc_to rfl rfl)
      intro _ _ K2 hK2
      clear hK2
      have lnil : ∀ H, evP H .len [.nilS] = some (.int .i64 0) := fun H => rfl
      repeat' first
 | (apply s_mov; exact aW)
 | (apply c_nil)
 | (apply s_lss; exact rfl; all_goals (intro _; try (exfalso; omega)))
 | (apply s_pn; exact aO; exact lnil _)
 | (apply c_seq)
 | (apply c_reg)
 | (apply c_exitH)
 | (apply c_ret)
 | (apply c_condF; exact rfl)
 | (apply c_preF; exact aK; exact aF)
 | (with_reducible apply k_c)
      all_goals try (exfalso; omega)
      exact hfin _ _ 1 rfl ⟨by omega, by omega⟩ (by rw [e1]; simp)
    · rw [if_neg h0, if_neg h0]
      have hrr : Rows k rows := ⟨hr.len, hr.each⟩
      have hLr := fun K0 X env H => hL36 K0 X env H rows hrr hv
      clear hL36
      subst hcall
      repeat' first
 | (apply s_mov; exact aW)
 | (apply c_nil)
 | (apply s_lss; exact rfl; all_goals (intro _; try (exfalso; omega)))
 | (apply c_seq)
 | (apply c_reg)
 | (apply c_exitH)
 | (apply c_condF; exact rfl)
 | (with_reducible apply k_c)
      all_goals try (exfalso; omega)
      refine c_pre (vs := [.int .i64 p, .sl 0 1 0 k]) (H' := [some (.data (rows.map fzL))]) (by simp [go_sem, fx]; done) ?_
      repeat' first
 | (apply s_mov; exact aW)
 | (apply c_nil)
 | (apply c_seq)
 | (apply c_reg)
 | (apply c_block)
 | (with_reducible apply k_c)
      refine c_loop ?_
      refine hLr _ _ _ _ ?_ ?_ ?_
      · exact (by simp [go_sem, fx]; done)
      · intro hd env' H' hl
        exact hfin _ _ 0 hl ⟨by omega, by omega⟩ hd
      · intro rows' out hG env' H' hgc
        refine k_c (c_pre hgc ?_)
        have hd := hG.d
        rw [Nat.sub_self] at hd
        have e1 : det 0 (blk k rows') = 1 := rfl
        rw [e1, Int.mul_one] at hd
        repeat' first
 | (apply s_mov; exact aW)
 | (apply c_nil)
 | (apply c_seq)
 | (apply c_reg)
 | (apply c_ret)
 | (with_reducible apply k_c)
        exact hfin _ _ out rfl hG.o hd
end Go.AM.Ch
