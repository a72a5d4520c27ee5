/- A part of the proof: Q48. -/
import Derived.Test.YtmeajfgjbebkiaaQ47
set_option linter.unusedSectionVars false
set_option linter.unusedVariables false
set_option linter.unusedSimpArgs false
namespace Go.AM.Pa
attribute [local go_sem] gc subHeap reach_skip ren_free reach_new reach_newp reach_end rangeL roots boxCells nodupB posOf renL AV.ren pickO renH renO looks look bindEnv envOf reach_int reach_bool reach_nilS reach_rd putRow cells_sl cells_int cells_bool cells_nilS cells_rd cells_agg reach_agg reach_tup idFreeL idf_sl idf_ptr idf_int idf_bool idf_nilS idf_rd
/-! isRight -/
def cpI (g : Gm) (p : Int) (M : List Int) (i : Nat) : List Int := (List.range g.next.length).map fun j => if j < i then cpA g p M j else getI M j
theorem cpI_len (g : Gm) (p : Int) (M : List Int) (i : Nat) : (cpI g p M i).length = g.next.length := by simp [cpI]
theorem cpI_get {g : Gm} {p : Int} {M : List Int} {i j : Nat} (h : j < g.next.length) : getI (cpI g p M i) j = if j < i then cpA g p M j else getI M j := getLL_rngI h
theorem cpI_zero {g : Gm} {M : List Int} (p : Int) (h : M.length = g.next.length) : cpI g p M 0 = M := by
  refine List.ext_getElem (by simp [cpI, h]) fun i h1 h2 => ?_
  simp [cpI, getI_nat, h2]
theorem cpI_all (g : Gm) (p : Int) (M : List Int) : cpI g p M g.next.length = cpL g p M := by
  refine List.ext_getElem (by simp [cpI, cpL]) fun i h1 h2 => ?_
  simp [cpL] at h2
  simp [cpI, cpL, h2]
theorem cpI_set {g : Gm} {p : Int} {M : List Int} {i : Nat} {x : Int} (hx : cpA g p M i = x) : (cpI g p M i).set i x = cpI g p M (i + 1) := by
  refine List.ext_getElem (by simp [cpI]) fun j h1 h2 => ?_
  rw [List.getElem_set]
  simp only [cpI, List.getElem_map, List.getElem_range]
  by_cases e : i = j
  · subst e; simp [hx]
  · rw [if_neg e]
    by_cases h : j < i
    · rw [if_pos h, if_pos (by omega)]
    · rw [if_neg h, if_neg (by omega)]
theorem cpI_same {g : Gm} {p : Int} {M : List Int} {i : Nat} (hx : cpA g p M i = getI M i) : cpI g p M i = cpI g p M (i + 1) := by
  refine List.ext_getElem (by simp [cpI]) fun j h1 h2 => ?_
  simp only [cpI, List.getElem_map, List.getElem_range]
  by_cases h : j < i
  · rw [if_pos h, if_pos (by omega)]
  · rw [if_neg h]
    by_cases e : j = i
    · subst e; rw [if_pos (by omega), hx]
    · rw [if_neg (by omega)]
theorem c53o {l : List Int} {n : Nat} (hn : l.length = n) (hl : n < 100) {m : Nat} (hm : 2 ≤ m) (H : Heap) : callPure (evF tab it m) false 53 [.rd 1 n (iL l)] H = some (.sl H.length 1 0 n, H ++ [some (.data (iL l))]) := by
  have ff : idFreeL [.rd 1 n (iL l)] = true := rfl
  simp [callPure, frzL_free H 40 [.rd 1 n (iL l)] (by simp) ff, f53 hn hl hm, ff, shiftH, AV.ren, renH, renO]
set_option maxHeartbeats 8000000
theorem f60 {x w mo : AV} {g : Gm} {W M : List Int} (hx : IsG x g) (hw : IsL w W) (hm : IsL mo M) (hg : Good g) (hr : ∀ l ∈ g.next, l.length < 50) (hl : W.length < 50 ∧ M.length < 50) {m : Nat} (hmm : 196 ≤ m) :
    evF tab it m 60 [x, .agg [w, mo]] [] = some (.bool (rightB g W M), []) := by
  obtain ⟨m, rfl⟩ : ∃ j, m = j + 1 := ⟨m - 1, by omega⟩
  have hx' := hx
  obtain ⟨xo, xr, xn, rfl, ho, hrr, hn⟩ := hx
  have fo := ho.free; have fr := hrr.free; have fn := hn.free; have fw := hw.free; have fm := hm.free
  have hg1 := hg.1; have hg2 := hg.2.1
  have ob : ∀ call, evE call [] (.box false) [.agg [xo, xr, xn]] = some (.ptr 0 0, [some (.box [xo, xr, xn])]) := fun call => by simp [evE, AV.cells, oneL, ho.one, hrr.one, hn.one, mkHO]
  have ob2 : ∀ call H, evE call H (.box false) [.agg [w, mo]] = some (.ptr H.length 0, H ++ [some (.box [w, mo])]) := fun call H => by simp [evE, AV.cells, oneL, hw.one, hm.one, mkHO]
  have hrow : ∀ v : Nat, v < g.next.length → IsL (llAt xn v) (getLL g.next v) ∧ (getLL g.next v).length < 50 ∧ 1 ≤ (getLL g.next v).length := fun v hv => ⟨hn.at (by omega), getLL_lt hr (by omega) _, List.length_pos_iff.2 (row_ne hg rfl hv)⟩
  by_cases hlen : W.length = g.next.length ∧ M.length = g.next.length
  · obtain ⟨hWl, hMl⟩ := hlen
    have hmz : mo = .rd 1 g.next.length (iL M) := by
      rw [isL_ne hm (by intro e; rw [e] at hMl; simp at hMl; omega), fzL_ne hMl hg1.1]
    have h53 := fun H => c53o hMl (by omega) (m := m) (by omega) H
    rw [← hmz] at h53
    have h58 := fun (p : Int) (pl : List Int) (hpl : pl.length = g.next.length) (hp : OkB g p pl) (id : Nat) (H : Heap) (hH : H.data? id = some (iL pl)) => c58s (p := p) hx' hg hr hpl (by omega) hp (m := m) (by omega) hH
    have h67 := fun (v : Nat) (hv : v < W.length) (y : AV) (l : List Int) (hy : IsL y l) (hl : l.length < 50) (hu : ∀ u ∈ l, 0 ≤ u ∧ u < W.length) (a b : Nat) (H : Heap) h1 h2 => c67 (mo := mo) hy hw fm hl hv hu (a := a) (b := b) (m := m) (by omega) (H := H) h1 h2
    have h51 := fun (y : AV) (l : List Int) (hy : IsL y l) (hl : l.length < 50) (v : Int) (H : Heap) => c51 hy (v := v) (by omega) (m := m) (by omega) H
    have h40 := fun (a : Int) (H : Heap) => c40 (m := m) (by omega) a 0 1 H
    refine f_enter rfl rfl ?_
    generalize evF tab it m = call at *
    repeat' first
 | (apply s_mov; (focus ((conv => lhs; whnf); done)))
 | (apply s_gT; exact rfl)
 | (apply c_nil)
 | (apply s_pickF; exact rfl; (focus ((conv => lhs; whnf); done)))
 | ((first | apply s_lss | apply s_leq | apply s_gtr | apply s_geq | apply s_eql | apply s_neq); exact rfl; all_goals (intro _; try (exfalso; omega)))
 | (apply s_en; (focus (repeat (first | apply opds_nil | (apply opds_cons; (first | (focus ((conv => lhs; whnf); done)) | exact rfl))))); exact ob _)
 | (apply s_en; (focus (repeat (first | apply opds_nil | (apply opds_cons; (first | (focus ((conv => lhs; whnf); done)) | exact rfl))))); exact ob2 _ _)
 | (apply s_len; (focus ((conv => lhs; whnf); done)); (first | assumption | (apply IsLL.at; assumption; omega)))
 | (apply s_lenLL; (focus ((conv => lhs; whnf); done)); assumption)
 | (apply s_pd; (focus ((conv => lhs; whnf); done)))
 | (apply c_seq)
 | (apply c_reg)
 | (apply c_block)
 | (apply c_skip)
 | (apply c_condF; exact rfl)
 | (with_reducible apply k_c)
    refine c_loop ?_
    refine loop_gc (σ := Nat) (fun v => [.ptr 0 0, .ptr 1 0, xn, .int .i64 g.next.length, .int .i64 v]) (fun v => [some (.box [xo, xr, xn]), some (.box [w, mo])]) (fun v => v ≤ g.next.length ∧ ∀ j : Nat, j < v → okV g W M j) (fun v => g.next.length - v) ?_ _ 0 _ _ ⟨by omega, fun j hj => by omega⟩ (by omega) (by simp [go_sem, fo, fr, fn, fw, fm]; done)
    intro v ⟨hv, hok⟩ K hK
    have al1 : ∀ call H, evE call H (.alloc true [.int .i64 0]) [] = some (.ptr H.length 0, H ++ [some (.data [.int .i64 0])]) := fun call H => rfl
    have st1 : ∀ call, evE call ([some (.box [xo, xr, xn]), some (.box [w, mo])] ++ [some (.data [.int .i64 0])]) (.st 1) [.ptr 2 0, .int .i64 (v : Int)] = some (.undef, [some (.box [xo, xr, xn]), some (.box [w, mo]), some (.data [.int .i64 v])]) := fun call => rfl
    have hrv := hrow v
    have hrm := fun (h : v < g.next.length) => row_mem hg rfl h
    repeat' first
 | (apply s_mov; (focus ((conv => lhs; whnf); done)))
 | (apply s_gT; exact rfl)
 | (apply s_gF; exact rfl)
 | (apply s_gFD; exact rfl)
 | (apply c_nil)
 | (apply s_pickT; exact rfl; (focus ((conv => lhs; whnf); done)))
 | (apply s_pickF; exact rfl; (focus ((conv => lhs; whnf); done)))
 | (apply s_notT; exact rfl)
 | (apply s_notF; exact rfl)
 | ((first | apply s_lss | apply s_leq | apply s_gtr | apply s_geq | apply s_eql | apply s_neq); exact rfl; all_goals (intro _; try (exfalso; omega)))
 | ((first | apply s_add | apply s_sub); exact rfl; omega)
 | (apply s_en; (focus (repeat (first | apply opds_nil | (apply opds_cons; (first | (focus ((conv => lhs; whnf); done)) | exact rfl))))); exact al1 _ _)
 | (apply s_st; (focus (repeat (first | apply opds_nil | (apply opds_cons; (first | (focus ((conv => lhs; whnf); done)) | exact rfl))))); exact st1 _)
 | (apply isE; refine s_cB (by (focus (repeat (first | apply opds_nil | (apply opds_cons; (first | (focus ((conv => lhs; whnf); done)) | exact rfl)))))) (h40 _ _) (fun _ => ?_) (fun _ => ?_))
 | (apply isE; refine s_cB (by (focus (repeat (first | apply opds_nil | (apply opds_cons; (first | (focus ((conv => lhs; whnf); done)) | exact rfl)))))) (h51 _ _ (hrv (by omega)).1 (hrv (by omega)).2.1 _ _) (fun _ => ?_) (fun _ => ?_))
 | (apply s_en; (focus (repeat (first | apply opds_nil | (apply opds_cons; (first | (focus ((conv => lhs; whnf); done)) | exact rfl))))); exact e_bld1 rfl rfl rfl rfl)
 | (apply isE; refine s_cB (by (focus (repeat (first | apply opds_nil | (apply opds_cons; (first | (focus ((conv => lhs; whnf); done)) | exact rfl)))))) (h67 v (by omega) _ _ (.rd [getI M v]) (by simp) (fun u hu => by simp at hu; rw [hu, hWl]; exact hrm (by omega) _ (by assumption)) _ _ _ rfl rfl) (fun _ => ?_) (fun _ => ?_))
 | (apply isE; refine s_cB (by (focus (repeat (first | apply opds_nil | (apply opds_cons; (first | (focus ((conv => lhs; whnf); done)) | exact rfl)))))) (h67 v (by omega) _ _ (hrv (by omega)).1 (hrv (by omega)).2.1 (fun u hu => by rw [hWl]; exact hrm (by omega) u hu) _ _ _ rfl rfl) (fun _ => ?_) (fun _ => ?_))
 | (apply s_idx; (focus ((conv => lhs; whnf); done)); exact rfl; (first | assumption | (apply IsLL.at; assumption; omega)); omega)
 | (apply s_idxLL; (focus ((conv => lhs; whnf); done)); exact rfl; assumption; omega)
 | (apply s_ldI; exact rfl; omega)
 | (apply s_ldLL; exact rfl; assumption; omega)
 | (apply s_pd; (focus ((conv => lhs; whnf); done)))
 | (apply c_seq)
 | (apply c_reg)
 | (apply c_block)
 | (apply c_exitH)
 | (apply c_skip)
 | (apply c_ret)
 | (apply c_condT; exact rfl)
 | (apply c_condF; exact rfl)
 | (with_reducible apply k_c)
    · rename_i q0 q1 q2 q3 q4
      have hvn : v < g.next.length := by omega
      have hf : rightB g W M = false := rightB_f fun h => by
        have h2 := h.1.2.2 v hvn
        exact absurd (h2.2.1 q2).2 (by obtain ⟨u, hu, hn⟩ := q4; simp at hu; rw [hu] at hn; exact hn)
      exact fin_t (v := .bool false) rfl rfl (by rw [hf])
    · rename_i q0 q1 q2 q3 q4
      have hvn : v < g.next.length := by omega
      refine hK (v + 1) _ _ ⟨by omega, fun j hj => ?_⟩ (by omega) (by simp [go_sem, fo, fr, fn, fw, fm]; done)
      rcases (by omega : j < v ∨ j = v) with h | rfl
      · exact hok j h
      · exact ⟨q1, fun _ => ⟨q3, Classical.byContradiction fun hn => q4 ⟨_, List.mem_cons_self, hn⟩⟩, fun h => absurd q2 h⟩
    · rename_i q0 q1 q2 q3
      have hvn : v < g.next.length := by omega
      have hf : rightB g W M = false := rightB_f fun h => by
        have h2 := h.1.2.2 v hvn
        exact q3 (h2.2.1 q2).1
      exact fin_t (v := .bool false) rfl rfl (by rw [hf])
    · rename_i q0 q1 q2 q3 q4
      have hvn : v < g.next.length := by omega
      have hf : rightB g W M = false := rightB_f fun h => by
        have h2 := h.1.2.2 v hvn
        exact absurd (h2.2.2 q2).2 (by obtain ⟨u, hu, hn⟩ := q4; exact fun h => hn (h u hu))
      exact fin_t (v := .bool false) rfl rfl (by rw [hf])
    · rename_i q0 q1 q2 q3 q4
      have hvn : v < g.next.length := by omega
      refine hK (v + 1) _ _ ⟨by omega, fun j hj => ?_⟩ (by omega) (by simp [go_sem, fo, fr, fn, fw, fm]; done)
      rcases (by omega : j < v ∨ j = v) with h | rfl
      · exact hok j h
      · exact ⟨q1, fun h => absurd h q2, fun _ => ⟨q3, fun u hu => Classical.byContradiction fun hn => q4 ⟨u, hu, hn⟩⟩⟩
    · rename_i q0 q1 q2 q3
      have hvn : v < g.next.length := by omega
      have hf : rightB g W M = false := rightB_f fun h => by
        have h2 := h.1.2.2 v hvn
        exact absurd (h2.2.2 q2).1 q3
      exact fin_t (v := .bool false) rfl rfl (by rw [hf])
    · rename_i q0 q1
      have hvn : v < g.next.length := by omega
      have hf : rightB g W M = false := rightB_f fun h => by
        have h2 := h.1.2.2 v hvn
        exact q1 h2.1
      exact fin_t (v := .bool false) rfl rfl (by rw [hf])
    have hpre : Pre g W M := ⟨hWl, hMl, fun j hj => hok j (by omega)⟩
    clear hK hok hrv hrm st1 al1 h67 h40
    have hMm : (iL M).length = g.next.length := by rw [iL_len, hMl]
    refine c_pre (vs := [.ptr 0 0, .ptr 1 0]) (H' := [some (.box [xo, xr, xn]), some (.box [w, mo])]) (by simp [go_sem, fo, fr, fn, fw, fm]; done) ?_
    repeat' first
 | (apply s_mov; (focus ((conv => lhs; whnf); done)))
 | (apply c_nil)
 | (apply c_seq)
 | (apply c_reg)
 | (apply c_block)
 | (with_reducible apply k_c)
    refine c_loop ?_
    refine loop_gc (σ := Nat) (fun p => [.ptr 0 0, .ptr 1 0, .int .i64 p]) (fun p => [some (.box [xo, xr, xn]), some (.box [w, mo])]) (fun p => p ≤ 2 ∧ ∀ q : Nat, q < p → WinW g W M q) (fun p => 2 - p) ?_ _ 0 _ _ ⟨by omega, fun j hj => by omega⟩ (by omega) (by simp [go_sem, fo, fr, fn, fw, fm]; done)
    clear hv
    intro p ⟨hp, hwin⟩ K hK
    repeat' first
 | (apply s_mov; (focus ((conv => lhs; whnf); done)))
 | (apply c_nil)
 | ((first | apply s_lss | apply s_leq | apply s_gtr | apply s_geq | apply s_eql | apply s_neq); exact rfl; all_goals (intro _; try (exfalso; omega)))
 | (apply s_cn; (focus (repeat (first | apply opds_nil | (apply opds_cons; (first | (focus ((conv => lhs; whnf); done)) | exact rfl))))); exact h53 _)
 | (apply s_lenLL; (focus ((conv => lhs; whnf); done)); assumption)
 | (apply s_pd; (focus ((conv => lhs; whnf); done)))
 | (apply c_seq)
 | (apply c_reg)
 | (apply c_block)
 | (apply c_exitH)
 | (apply c_skip)
 | (apply c_ret)
 | (apply c_condT; exact rfl)
 | (apply c_condF; exact rfl)
 | (apply c_preF; (focus (repeat (first | apply looks_nil | (apply looks_cons; (focus ((conv => lhs; whnf); done)))))); (focus (simp [idFreeL, AV.idFree, *]; done)))
 | (with_reducible apply k_c)
    · rename_i q0
      have hp01 : (p : Int) = 0 ∨ (p : Int) = 1 := by omega
      have hcz := cpI_zero (g := g) p hMl
      have hrow0 : ∀ v : Nat, v < g.next.length → IsL (llAt xn v) (getLL g.next v) ∧ 1 ≤ (getLL g.next v).length := fun v hv => ⟨(hrow v hv).1, (hrow v hv).2.2⟩
      refine c_loop ?_
      refine loop_gc (σ := Nat) (fun v => [.ptr 0 0, .ptr 1 0, .int .i64 p, .sl 2 1 0 g.next.length, .int .i64 p, xn, .int .i64 g.next.length, .int .i64 v]) (fun v => [some (.box [xo, xr, xn]), some (.box [w, mo]), some (.data (iL (cpI g p M v)))]) (fun v => v ≤ g.next.length) (fun v => g.next.length - v) ?_ _ 0 _ _ (by omega) (by omega) (by simp [go_sem, fo, fr, fn, fw, fm, hcz]; done)
      intro v hv K2 hK2
      have hcl := cpI_len g p M v
      have hcg := cpI_get (g := g) (p := p) (M := M) (i := v) (j := v)
      rw [if_neg (Nat.lt_irrefl v)] at hcg
      have hrv := hrow0 v
      repeat' first
 | (apply s_mov; (focus ((conv => lhs; whnf); done)))
 | (apply s_gT; exact rfl)
 | (apply s_gF; exact rfl)
 | (apply c_nil)
 | (apply s_pickT; exact rfl; (focus ((conv => lhs; whnf); done)))
 | (apply s_pickF; exact rfl; (focus ((conv => lhs; whnf); done)))
 | ((first | apply s_lss | apply s_leq | apply s_gtr | apply s_geq | apply s_eql | apply s_neq); exact rfl; all_goals (intro _; try (exfalso; omega)))
 | ((first | apply s_add | apply s_sub); exact rfl; omega)
 | (apply s_pn; (focus (repeat (first | apply opds_nil | (apply opds_cons; (first | (focus ((conv => lhs; whnf); done)) | exact rfl))))); exact p_ldS rfl (by omega))
 | (apply s_idx; (focus ((conv => lhs; whnf); done)); exact rfl; (exact (hrv (by omega)).1); (have := (hrv (by omega)).2; omega))
 | (apply s_ldI; exact rfl; (have := (hrv (by omega)).2; omega))
 | (apply s_st; (focus (repeat (first | apply opds_nil | (apply opds_cons; (first | (focus ((conv => lhs; whnf); done)) | exact rfl))))); exact e_stI rfl (by omega))
 | (apply s_idx; (focus ((conv => lhs; whnf); done)); exact rfl; (first | assumption | (apply IsLL.at; assumption; omega)); omega)
 | (apply s_idxLL; (focus ((conv => lhs; whnf); done)); exact rfl; assumption; omega)
 | (apply s_idxS; exact rfl; exact rfl; omega)
 | (apply s_ldLL; exact rfl; assumption; omega)
 | (apply s_pd; (focus ((conv => lhs; whnf); done)))
 | (apply c_seq)
 | (apply c_reg)
 | (apply c_block)
 | (apply c_exitH)
 | (apply c_skip)
 | (apply c_condT; exact rfl)
 | (apply c_condF; exact rfl)
 | (with_reducible apply k_c)
      · rename_i q1 q2 q3
        have hvn : v < g.next.length := by omega
        refine hK2 (v + 1) _ _ (by omega) (by omega) ?_
        rw [hcg hvn] at q3
        rw [← cpI_set (x := getI (getLL g.next v) 0) (by rw [cpA, if_pos ⟨q2, q3⟩])]
        exact (by simp [go_sem, fo, fr, fn, fw, fm]; done)
      · rename_i q1 q2 q3
        have hvn : v < g.next.length := by omega
        refine hK2 (v + 1) _ _ (by omega) (by omega) ?_
        rw [hcg hvn] at q3
        rw [← cpI_same (i := v) (by rw [cpA, if_neg fun h => q3 h.2])]
        exact (by simp [go_sem, fo, fr, fn, fw, fm]; done)
      · rename_i q1 q2
        refine hK2 (v + 1) _ _ (by omega) (by omega) ?_
        rw [← cpI_same (i := v) (by rw [cpA, if_neg fun h => q2 h.1])]
        exact (by simp [go_sem, fo, fr, fn, fw, fm]; done)
      have hvn : v = g.next.length := by omega
      rw [hvn, cpI_all]
      have hok := cp_ok hg hpre p
      have hiff := cp_win hg hpre hp01
      have hcl2 : (cpL g p M).length = g.next.length := by simp [cpL]
      have h58p := fun H hH => h58 p _ hcl2 hok 2 H hH
      clear hK2 hcl hcg hrv hcz
      generalize cpL g p M = CP at *
      have hbz := isL_fz (beatsL g p CP)
      have hbl := beatsL_len g p CP
      generalize beatsL g p CP = b at *
      have gb := hbz.free
      refine c_pre (vs := [.ptr 0 0, .ptr 1 0, .int .i64 p, .sl 2 1 0 g.next.length, .int .i64 p]) (H' := [some (.box [xo, xr, xn]), some (.box [w, mo]), some (.data (iL CP))]) (by simp [go_sem, fo, fr, fn, fw, fm]; done) ?_
      repeat' first
 | (apply s_mov; (focus ((conv => lhs; whnf); done)))
 | (apply c_nil)
 | (apply s_cn; (focus (repeat (first | apply opds_nil | (apply opds_cons; (first | (focus ((conv => lhs; whnf); done)) | exact rfl))))); exact h58p _ rfl)
 | (apply s_len; (focus ((conv => lhs; whnf); done)); (first | assumption | (apply IsLL.at; assumption; omega)))
 | (apply s_pd; (focus ((conv => lhs; whnf); done)))
 | (apply c_seq)
 | (apply c_reg)
 | (apply c_block)
 | (with_reducible apply k_c)
      refine c_loop ?_
      refine loop_gc (σ := Nat) (fun v => [.ptr 0 0, .ptr 1 0, .int .i64 p, fzL b, .int .i64 p, w, .int .i64 W.length, .int .i64 v]) (fun v => [some (.box [xo, xr, xn]), some (.box [w, mo])]) (fun v => v ≤ g.next.length ∧ ∀ j : Nat, j < v → getI W j = p → (j : Int) ∈ b) (fun v => g.next.length - v) ?_ _ 0 _ _ ⟨by omega, fun j hj => by omega⟩ (by omega) (by simp [go_sem, fo, fr, fn, fw, fm, gb]; done)
      clear hvn hv
      intro v ⟨hv, hin⟩ K3 hK3
      repeat' first
 | (apply s_mov; (focus ((conv => lhs; whnf); done)))
 | (apply s_gT; exact rfl)
 | (apply s_gF; exact rfl)
 | (apply s_gFD; exact rfl)
 | (apply c_nil)
 | (apply s_pickT; exact rfl; (focus ((conv => lhs; whnf); done)))
 | (apply s_pickF; exact rfl; (focus ((conv => lhs; whnf); done)))
 | (apply s_notT; exact rfl)
 | (apply s_notF; exact rfl)
 | ((first | apply s_lss | apply s_leq | apply s_gtr | apply s_geq | apply s_eql | apply s_neq); exact rfl; all_goals (intro _; try (exfalso; omega)))
 | ((first | apply s_add | apply s_sub); exact rfl; omega)
 | (apply isE; refine s_cB (by (focus (repeat (first | apply opds_nil | (apply opds_cons; (first | (focus ((conv => lhs; whnf); done)) | exact rfl)))))) (h51 _ _ hbz (by omega) _ _) (fun _ => ?_) (fun _ => ?_))
 | (apply s_idx; (focus ((conv => lhs; whnf); done)); exact rfl; (first | assumption | (apply IsLL.at; assumption; omega)); omega)
 | (apply s_ldI; exact rfl; omega)
 | (apply c_seq)
 | (apply c_reg)
 | (apply c_block)
 | (apply c_exitH)
 | (apply c_skip)
 | (apply c_ret)
 | (apply c_condT; exact rfl)
 | (apply c_condF; exact rfl)
 | (with_reducible apply k_c)
      · rename_i q1 q2 q3
        refine hK3 (v + 1) _ _ ⟨by omega, fun j hj hw => ?_⟩ (by omega) (by simp [go_sem, fo, fr, fn, fw, fm, gb]; done)
        rcases (by omega : j < v ∨ j = v) with h | rfl
        · exact hin j h hw
        · exact q3
      · rename_i q1 q2 q3
        have hf : rightB g W M = false := rightB_f fun h => q3 (hiff.2 (h.2 p hp01) v (by omega) q2)
        exact fin_t (v := .bool false) rfl rfl (by rw [hf])
      · rename_i q1 q2
        refine hK3 (v + 1) _ _ ⟨by omega, fun j hj hw => ?_⟩ (by omega) (by simp [go_sem, fo, fr, fn, fw, fm, gb]; done)
        rcases (by omega : j < v ∨ j = v) with h | rfl
        · exact hin j h hw
        · exact absurd hw q2
      · refine c_pre (vs := [.ptr 0 0, .ptr 1 0, .int .i64 p]) (H' := [some (.box [xo, xr, xn]), some (.box [w, mo])]) (by simp [go_sem, fo, fr, fn, fw, fm, gb]; done) ?_
        repeat' first
 | (apply s_mov; (focus ((conv => lhs; whnf); done)))
 | (apply c_nil)
 | ((first | apply s_add | apply s_sub); exact rfl; omega)
 | (apply c_reg)
        refine hK (p + 1) _ _ ⟨by omega, fun q hq => ?_⟩ (by omega) (by simp [go_sem, fo, fr, fn, fw, fm]; done)
        rcases (by omega : q < p ∨ q = p) with h | rfl
        · exact hwin q h
        · exact hiff.1 fun j hj hw => hin j (by omega) hw
    · have ht : rightB g W M = true := rightB_t ⟨hpre, fun q hq => by
        rcases hq with rfl | rfl
        · exact hwin 0 (by omega)
        · exact hwin 1 (by omega)⟩
      exact fin_t (v := .bool true) rfl rfl (by rw [ht])
  · refine f_enter rfl rfl ?_
    generalize evF tab it m = call at *
    have hfal : rightB g W M = false := rightB_f fun h => hlen ⟨h.1.1, h.1.2.1⟩
    repeat' first
 | (apply s_mov; (focus ((conv => lhs; whnf); done)))
 | (apply s_gT; exact rfl)
 | (apply s_gF; exact rfl)
 | (apply c_nil)
 | (apply s_pickT; exact rfl; (focus ((conv => lhs; whnf); done)))
 | (apply s_pickF; exact rfl; (focus ((conv => lhs; whnf); done)))
 | ((first | apply s_lss | apply s_leq | apply s_gtr | apply s_geq | apply s_eql | apply s_neq); exact rfl; all_goals (intro _; try (exfalso; omega)))
 | (apply s_en; (focus (repeat (first | apply opds_nil | (apply opds_cons; (first | (focus ((conv => lhs; whnf); done)) | exact rfl))))); exact ob _)
 | (apply s_en; (focus (repeat (first | apply opds_nil | (apply opds_cons; (first | (focus ((conv => lhs; whnf); done)) | exact rfl))))); exact ob2 _ _)
 | (apply s_len; (focus ((conv => lhs; whnf); done)); (first | assumption | (apply IsLL.at; assumption; omega)))
 | (apply s_lenLL; (focus ((conv => lhs; whnf); done)); assumption)
 | (apply s_pd; (focus ((conv => lhs; whnf); done)))
 | (apply c_seq)
 | (apply c_reg)
 | (apply c_ret)
 | (apply c_condT; exact rfl)
 | (with_reducible apply k_c)
    all_goals first
      | (exfalso; exact hlen ⟨by omega, by omega⟩)
      | exact fin_t (v := .bool false) rfl rfl (by rw [hfal])
/-! Check -/
noncomputable def chkV (g : Gm) (W M : List Int) : Int := if Good g then (if rightB g W M = true then 0 else 10) else 2
theorem f37 {x w mo : AV} {g : Gm} {W M : List Int} (hx : IsG x g) (hw : IsL w W) (hm : IsL mo M) (ha : g.next.length < 50 ∧ ∀ l ∈ g.next, l.length < 50) (hl : W.length < 50 ∧ M.length < 50) {m : Nat} (hmm : 198 ≤ m) :
    evF tab it m 37 [x, .agg [w, mo]] [] = some (.int .i64 (chkV g W M), []) := by
  obtain ⟨m, rfl⟩ : ∃ j, m = j + 1 := ⟨m - 1, by omega⟩
  have hx' := hx
  obtain ⟨xo, xr, xn, rfl, ho, hrr, hn⟩ := hx
  have fo := ho.free; have fr := hrr.free; have fn := hn.free; have fw := hw.free; have fm := hm.free
  have ob : ∀ call, evE call [] (.box false) [.agg [xo, xr, xn]] = some (.ptr 0 0, [some (.box [xo, xr, xn])]) := fun call => by simp [evE, AV.cells, oneL, ho.one, hrr.one, hn.one, mkHO]
  have ob2 : ∀ call H, evE call H (.box false) [.agg [w, mo]] = some (.ptr H.length 0, H ++ [some (.box [w, mo])]) := fun call H => by simp [evE, AV.cells, oneL, hw.one, hm.one, mkHO]
  have h39 := fun H => c39 hx' ⟨by omega, fun l hl => by have := ha.2 l hl; omega⟩ (m := m) (by omega) H
  unfold chkV
  by_cases hg : Good g
  · have h60 := fun H => callPure_free (H := H) (args := [.agg [xo, xr, xn], .agg [w, mo]]) (by simp [idFreeL, AV.idFree, fo, fr, fn, fw, fm]) (by simp) (f60 hx' hw hm hg ha.2 hl (m := m) (by omega)) rfl
    rw [if_pos hg]
    simp only [decide_eq_true hg] at h39
    cases hrb : rightB g W M
    · rw [hrb] at h60
      refine f_enter rfl rfl ?_
      generalize evF tab it m = call at *
      repeat' first
 | (apply s_mov; (focus ((conv => lhs; whnf); done)))
 | (apply c_nil)
 | (apply s_notT; exact rfl)
 | (apply s_notF; exact rfl)
 | (apply s_en; (focus (repeat (first | apply opds_nil | (apply opds_cons; (first | (focus ((conv => lhs; whnf); done)) | exact rfl))))); exact ob _)
 | (apply s_en; (focus (repeat (first | apply opds_nil | (apply opds_cons; (first | (focus ((conv => lhs; whnf); done)) | exact rfl))))); exact ob2 _ _)
 | (apply s_cn; (focus (repeat (first | apply opds_nil | (apply opds_cons; (first | (focus ((conv => lhs; whnf); done)) | exact rfl))))); exact h39 _)
 | (apply s_cn; (focus (repeat (first | apply opds_nil | (apply opds_cons; (first | (focus ((conv => lhs; whnf); done)) | exact rfl))))); exact h60 _)
 | (apply s_pd; (focus ((conv => lhs; whnf); done)))
 | (apply c_seq)
 | (apply c_reg)
 | (apply c_block)
 | (apply c_ret)
 | (apply c_condT; exact rfl)
 | (apply c_condF; exact rfl)
 | (with_reducible apply k_c)
      exact fin_t rfl rfl rfl
    · rw [hrb] at h60
      refine f_enter rfl rfl ?_
      generalize evF tab it m = call at *
      repeat' first
 | (apply s_mov; (focus ((conv => lhs; whnf); done)))
 | (apply c_nil)
 | (apply s_notT; exact rfl)
 | (apply s_en; (focus (repeat (first | apply opds_nil | (apply opds_cons; (first | (focus ((conv => lhs; whnf); done)) | exact rfl))))); exact ob _)
 | (apply s_en; (focus (repeat (first | apply opds_nil | (apply opds_cons; (first | (focus ((conv => lhs; whnf); done)) | exact rfl))))); exact ob2 _ _)
 | (apply s_cn; (focus (repeat (first | apply opds_nil | (apply opds_cons; (first | (focus ((conv => lhs; whnf); done)) | exact rfl))))); exact h39 _)
 | (apply s_cn; (focus (repeat (first | apply opds_nil | (apply opds_cons; (first | (focus ((conv => lhs; whnf); done)) | exact rfl))))); exact h60 _)
 | (apply s_pd; (focus ((conv => lhs; whnf); done)))
 | (apply c_seq)
 | (apply c_reg)
 | (apply c_block)
 | (apply c_skip)
 | (apply c_ret)
 | (apply c_condF; exact rfl)
 | (with_reducible apply k_c)
      exact fin_t rfl rfl rfl
  · rw [if_neg hg]
    simp only [decide_eq_false hg] at h39
    refine f_enter rfl rfl ?_
    generalize evF tab it m = call at *
    repeat' first
 | (apply s_mov; (focus ((conv => lhs; whnf); done)))
 | (apply c_nil)
 | (apply s_notF; exact rfl)
 | (apply s_en; (focus (repeat (first | apply opds_nil | (apply opds_cons; (first | (focus ((conv => lhs; whnf); done)) | exact rfl))))); exact ob _)
 | (apply s_en; (focus (repeat (first | apply opds_nil | (apply opds_cons; (first | (focus ((conv => lhs; whnf); done)) | exact rfl))))); exact ob2 _ _)
 | (apply s_cn; (focus (repeat (first | apply opds_nil | (apply opds_cons; (first | (focus ((conv => lhs; whnf); done)) | exact rfl))))); exact h39 _)
 | (apply s_pd; (focus ((conv => lhs; whnf); done)))
 | (apply c_seq)
 | (apply c_reg)
 | (apply c_block)
 | (apply c_ret)
 | (apply c_condT; exact rfl)
 | (with_reducible apply k_c)
    exact fin_t rfl rfl rfl
theorem c37 {x w mo : AV} {g : Gm} {W M : List Int} (hx : IsG x g) (hw : IsL w W) (hm : IsL mo M) (ha : g.next.length < 50 ∧ ∀ l ∈ g.next, l.length < 50) (hl : W.length < 50 ∧ M.length < 50) {m : Nat} (hmm : 198 ≤ m) (H : Heap) :
    callPure (evF tab it m) true 37 [x, .agg [w, mo]] H = some (.int .i64 (chkV g W M), H) :=
  callPure_free (by simp [idFreeL, AV.idFree, hx.free, hw.free, hm.free]) (by simp) (f37 hx hw hm ha hl hmm) rfl
/-- Check, of lists that are its caller's own -/
theorem c37f {x w mo : AV} {g : Gm} {W M : List Int} {args : List AV} {H : Heap} (e : frzL H 40 args = some [x, .agg [w, mo]]) (hx : IsG x g) (hw : IsL w W) (hm : IsL mo M) (ha : g.next.length < 50 ∧ ∀ l ∈ g.next, l.length < 50) (hl : W.length < 50 ∧ M.length < 50) {m : Nat} (hmm : 198 ≤ m) :
    callPure (evF tab it m) true 37 args H = some (.int .i64 (chkV g W M), H) := by
  simp only [callPure, e, Option.bind_some, f37 hx hw hm ha hl hmm]
  simp [AV.hasRd, frzV_int]
end Go.AM.Pa
