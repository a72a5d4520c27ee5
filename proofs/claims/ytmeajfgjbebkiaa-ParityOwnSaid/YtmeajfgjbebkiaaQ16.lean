/- A part of the proof: Q16. -/
import Derived.Test.YtmeajfgjbebkiaaQ14
set_option linter.unusedSectionVars false
set_option linter.unusedVariables false
set_option linter.unusedSimpArgs false
namespace Go.AM.Pa
attribute [local go_sem] gc subHeap reach_skip ren_free reach_new reach_newp reach_end rangeL roots boxCells nodupB posOf renL AV.ren pickO renH renO looks look bindEnv envOf reach_int reach_bool reach_nilS reach_rd putRow cells_sl cells_int cells_bool cells_nilS cells_rd cells_agg reach_agg reach_tup idFreeL idf_sl idf_ptr idf_int idf_bool idf_nilS idf_rd
theorem frz_slI {H : Heap} {id k : Nat} {l : List Int} {n : Nat} (h : H.data? id = some (iL l)) (hn : l.length = n) : frzV H (k + 1) (.sl id 1 0 n) = some (.rd 1 n (iL l)) := by
  subst hn
  simp [frzV_sl, h, iL_len, List.take_of_length_le]
theorem isL_rd {l : List Int} {n : Nat} (hn : l.length = n) : IsL (.rd 1 n (iL l)) l := by subst hn; exact .rd l
/-- a call that looks at a list in memory and answers something plain -/
theorem look_sl {call : CallF} {f : Nat} {H : Heap} {id n : Nat} {l : List Int} {q : IntKind} {v : Int} {w : AV} (h : H.data? id = some (iL l)) (hn : l.length = n) (hw : w.idFree = true) (hw2 : w.hasRd = false) (hc : call f [.rd 1 n (iL l), .int q v] [] = some (w, [])) :
    callPure call true f [.sl id 1 0 n, .int q v] H = some (w, H) := by
  have e : frzL H 40 [.sl id 1 0 n, .int q v] = some [.rd 1 n (iL l), .int q v] := by
    simp [frzL_cons, frzL_nil, frz_slI h hn, frzV_int]
  simp [callPure, e, hc, hw2, frzV_free, hw]
theorem c51s {H : Heap} {id n : Nat} {l : List Int} {v : Int} (h : H.data? id = some (iL l)) (hn : l.length = n) (hl : l.length < 100) {m : Nat} (hm : 103 ≤ m) : callPure (evF tab it m) true 51 [.sl id 1 0 n, .int .i64 v] H = some (.bool (decide (v ∈ l)), H) :=
  look_sl h hn rfl rfl (f51 (isL_rd hn) v hl m hm)
theorem c47s {H : Heap} {id n : Nat} {l : List Int} {v : Int} (h : H.data? id = some (iL l)) (hn : l.length = n) (hl : l.length < 100) {m : Nat} (hm : 103 ≤ m) : callPure (evF tab it m) true 47 [.sl id 1 0 n, .int .i64 v] H = some (.bool (decide (v ∈ l)), H) :=
  look_sl h hn rfl rfl (f47 (isL_rd hn) v hl m (by omega))
theorem c52s {H : Heap} {id n : Nat} {l : List Int} {v : Int} (h : H.data? id = some (iL l)) (hn : l.length = n) (hl : l.length < 100) {m : Nat} (hm : 103 ≤ m) : callPure (evF tab it m) true 52 [.sl id 1 0 n, .int .i64 v] H = some (.int .i64 (if v ∈ l then (l.idxOf v : Int) else -1), H) :=
  look_sl h hn rfl rfl (f52 (isL_rd hn) v hl m (by omega))
/-- Clone of a list that is there -/
theorem f53 {l : List Int} {n : Nat} (hn : l.length = n) (hl : n < 100) {m : Nat} (hm : 2 ≤ m) : evF tab it m 53 [.rd 1 n (iL l)] [] = some (.sl 0 1 0 n, [some (.data (iL l))]) := by
  obtain ⟨m, rfl⟩ : ∃ j, m = j + 1 := ⟨m - 1, by omega⟩
  have bl : ∀ call, evE call [] (.bldS true false 1 0 [.int .i64 0] []) [] = some (.sl 0 1 0 0, [some (.data [])]) := fun call => rfl
  rcases l with _ | ⟨c, cs⟩
  · simp at hn; subst hn
    have ap : ∀ call q, evE call [some (.data [])] (.app false 1 q) [.sl 0 1 0 0, .rd 1 0 []] = some (.sl 0 1 0 0, [some (.data [])]) := fun call q => rfl
    refine f_enter rfl rfl ?_
    repeat' first
 | (apply s_mov; (focus ((conv => lhs; whnf); done)))
 | (apply c_nil)
 | (apply s_en; (focus (repeat (first | apply opds_nil | (apply opds_cons; (first | (focus ((conv => lhs; whnf); done)) | exact rfl))))); exact bl _)
 | (apply s_en; (focus (repeat (first | apply opds_nil | (apply opds_cons; (first | (focus ((conv => lhs; whnf); done)) | exact rfl))))); exact ap _ _)
 | (apply s_pd; (focus ((conv => lhs; whnf); done)))
 | (apply c_seq)
 | (apply c_reg)
 | (apply c_skip)
 | (apply c_ret)
 | (apply c_condF; exact rfl)
 | (with_reducible apply k_c)
    simp [finish, ress, resOf, look, tupOf, iL, gc, subHeap, reach_new, reach_end, rangeL, roots, boxCells, nodupB, posOf, renL, AV.ren, pickO, renH, renO]
  · have hn0 : n ≠ 0 := by simp at hn; omega
    refine f_enter rfl rfl ?_
    repeat' first
 | (apply s_mov; (focus ((conv => lhs; whnf); done)))
 | (apply c_nil)
 | (apply s_en; (focus (repeat (first | apply opds_nil | (apply opds_cons; (first | (focus ((conv => lhs; whnf); done)) | exact rfl))))); exact bl _)
 | (apply s_en; (focus (repeat (first | apply opds_nil | (apply opds_cons; (first | (focus ((conv => lhs; whnf); done)) | exact rfl))))); exact e_app_sl rfl rfl hn0 (by unfold most; omega))
 | (apply s_pd; (focus ((conv => lhs; whnf); done)))
 | (apply c_seq)
 | (apply c_reg)
 | (apply c_skip)
 | (apply c_ret)
 | (apply c_condF; exact rfl)
 | (with_reducible apply k_c)
    simp [finish, ress, resOf, look, tupOf, iL, ownV, owH, gc, subHeap, reach_new, reach_end, rangeL, roots, boxCells, nodupB, posOf, renL, AV.ren, pickO, renH, renO]
theorem c53s {H : Heap} {id off n : Nat} {l r : List Int} (h : H.data? id = some (iL l)) (hn : off + n ≤ l.length) (hr : r = (l.drop off).take n) (hl : n < 100) {m : Nat} (hm : 2 ≤ m) : callPure (evF tab it m) true 53 [.sl id 1 off n] H = some (.rd 1 n (iL r), H) := by
  have hrl : r.length = n := by subst hr; simp; omega
  have hri : iL r = (((iL l).drop off).take n) := by subst hr; simp [iL, List.map_take, List.map_drop]
  have e : frzL H 40 [.sl id 1 off n] = some [.rd 1 n (iL r)] := by
    rw [hri]
    simp [frzL_cons, frzL_nil, frzV_sl, h, iL_len, hn]
  simp [callPure, e, f53 hrl hl hm, AV.hasRd, HO.hasRd, iL_noRd, frzV_sl, Heap.data?, iL_len, hrl, List.take_of_length_le]
def OkPlan (g : Gm) (pl : List Int) : Prop := pl.length = g.next.length ∧ ∀ v, v < g.next.length → getI pl v ∈ getLL g.next v
instance (g : Gm) (pl : List Int) : Decidable (OkPlan g pl) := by unfold OkPlan; infer_instance
theorem c50 {v : Int} {m : Nat} (hm : 1 ≤ m) (H : Heap) : callPure (evF tab it m) true 50 [.int .i64 v] H = some (.bool true, H) := by
  refine callPure_free rfl (by simp) (H1 := []) ?_ rfl
  obtain ⟨m, rfl⟩ : ∃ j, m = j + 1 := ⟨m - 1, by omega⟩
  refine f_enter rfl rfl ?_
  repeat' first
 | (apply s_mov; (focus ((conv => lhs; whnf); done)))
 | (apply c_nil)
 | (apply c_seq)
 | (apply c_reg)
 | (apply c_ret)
 | (with_reducible apply k_c)
  exact fin_t rfl rfl rfl
/-- isPlan, of all positions -/
theorem c49 {x t : AV} {a : Gm} {pl : List Int} (hx : IsG x a) (ht : IsL t pl) (ha : a.next.length < 50 ∧ ∀ l ∈ a.next, l.length < 50) (hp : pl.length < 50) {m : Nat} (hm : 105 ≤ m) (H : Heap) :
    callPure (evF tab it m) true 49 [x, t, .fn 50 []] H = some (.bool (decide (OkPlan a pl)), H) := by
  refine callPure_free (by simp [idFreeL, hx.free, ht.free, AV.idFree]) (by simp) (H1 := []) ?_ rfl
  obtain ⟨m, rfl⟩ : ∃ j, m = j + 1 := ⟨m - 1, by omega⟩
  obtain ⟨xo, xr, xn, rfl, ho, hr, hn⟩ := hx
  have fo := ho.free; have fr := hr.free; have fn := hn.free; have ft := ht.free
  have ob : ∀ call, evE call [] (.box false) [.agg [xo, xr, xn]] = some (.ptr 0 0, [some (.box [xo, xr, xn])]) := fun call => by simp [evE, AV.cells, oneL, ho.one, hr.one, hn.one, mkHO]
  have hrow := getLL_lt ha.2 (by omega)
  have cv : ∀ H v, evE (evF tab it m) H (.callv true true) [.fn 50 [], .int .i64 v] = some (.bool true, H) := fun H v => c50 (by omega) H
  have ff : AV.idFree (.fn 50 []) = true := rfl
  refine f_enter rfl rfl ?_
  repeat' first
 | (apply s_mov; (focus ((conv => lhs; whnf); done)))
 | (apply c_nil)
 | ((first | apply s_lss | apply s_leq | apply s_gtr | apply s_geq | apply s_eql | apply s_neq); exact rfl; all_goals (intro _; try (exfalso; omega)))
 | (apply s_en; (focus (repeat (first | apply opds_nil | (apply opds_cons; (first | (focus ((conv => lhs; whnf); done)) | exact rfl))))); exact ob _)
 | (apply s_len; (focus ((conv => lhs; whnf); done)); (first | assumption | (apply IsLL.at; assumption; omega)))
 | (apply s_lenLL; (focus ((conv => lhs; whnf); done)); assumption)
 | (apply s_pd; (focus ((conv => lhs; whnf); done)))
 | (apply c_seq)
 | (apply c_reg)
 | (apply c_block)
 | (apply c_skip)
 | (apply c_ret)
 | (apply c_condT; exact rfl)
 | (apply c_condF; exact rfl)
 | (with_reducible apply k_c)
  · refine c_loop ?_
    refine loop_gc (σ := Nat) (fun i => [t, .fn 50 [], xn, .int .i64 a.next.length, .int .i64 i]) (fun _ => []) (fun i => i ≤ a.next.length ∧ ∀ j : Nat, j < i → getI pl j ∈ getLL a.next j) (fun i => a.next.length - i) ?_ _ 0 _ _ ⟨by omega, by omega⟩ (by omega) (gc_to rfl (by simp [idFreeL, AV.idFree, *]; done))
    intro i ⟨hi, hb⟩ K hK
    repeat' first
 | (apply s_mov; (focus ((conv => lhs; whnf); done)))
 | (apply s_gT; exact rfl)
 | (apply c_nil)
 | (apply s_pickT; exact rfl; (focus ((conv => lhs; whnf); done)))
 | (apply s_notT; exact rfl)
 | (apply s_notF; exact rfl)
 | ((first | apply s_lss | apply s_leq | apply s_gtr | apply s_geq | apply s_eql | apply s_neq); exact rfl; all_goals (intro _; try (exfalso; omega)))
 | ((first | apply s_add | apply s_sub); exact rfl; omega)
 | (apply s_en; (focus (repeat (first | apply opds_nil | (apply opds_cons; (first | (focus ((conv => lhs; whnf); done)) | exact rfl))))); exact cv _ _)
 | (apply isE; refine s_cB (by (focus (repeat (first | apply opds_nil | (apply opds_cons; (first | (focus ((conv => lhs; whnf); done)) | exact rfl)))))) (c51 (by first | assumption | exact IsLL.at (by assumption) (by omega)) (by have := hrow i; omega) (by omega) _) (fun _ => ?_) (fun _ => ?_))
 | (apply s_idx; (focus ((conv => lhs; whnf); done)); exact rfl; (first | assumption | (apply IsLL.at; assumption; omega)); omega)
 | (apply s_idxLL; (focus ((conv => lhs; whnf); done)); exact rfl; assumption; omega)
 | (apply s_ldI; exact rfl; omega)
 | (apply s_ldLL; exact rfl; assumption; omega)
 | (apply c_seq)
 | (apply c_reg)
 | (apply c_block)
 | (apply c_exitH)
 | (apply c_skip)
 | (apply c_ret)
 | (apply c_condT; exact rfl)
 | (apply c_condF; exact rfl)
 | (apply c_preF; (focus (repeat (first | apply looks_nil | (apply looks_cons; (focus ((conv => lhs; whnf); done)))))); (focus (simp [idFreeL, AV.idFree, *]; done)))
 | (with_reducible apply k_c)
    · refine hK (i + 1) _ _ ⟨by omega, fun j hj => ?_⟩ (by omega) (gc_to rfl (by simp [idFreeL, AV.idFree, *]; done))
      rcases (by omega : j < i ∨ j = i) with h | rfl
      · exact hb j h
      · assumption
    · refine fin_t rfl rfl (leafF fun h => ?_)
      exact absurd (h.2 i (by omega)) (by assumption)
    · exact fin_t rfl rfl (leafT ⟨by omega, fun j hj => hb j (by omega)⟩)
  · refine fin_t (by (conv => lhs; whnf)) (by rfl) (leafF fun h => ?_)
    have := h.1
    omega
/-- ref.Plan of one player -/
def OkPl (g : Gm) (p : Int) (pl : List Int) : Prop := pl.length = g.owner.length ∧ ∀ v, v < pl.length → getI g.owner v = p → getI pl v ∈ getLL g.next v
instance (g : Gm) (p : Int) (pl : List Int) : Decidable (OkPl g p pl) := by unfold OkPl; infer_instance
theorem c26 {x t : AV} {a : Gm} {pl : List Int} {p : Int} (hx : IsG x a) (ht : IsL t pl) (hg : Good a) (ha : ∀ l ∈ a.next, l.length < 50) (hp : pl.length < 50) {m : Nat} (hm : 105 ≤ m) (H : Heap) :
    callPure (evF tab it m) true 26 [x, .int .i64 p, t] H = some (.bool (decide (OkPl a p pl)), H) := by
  refine callPure_free (by simp [idFreeL, hx.free, ht.free, idf_int]) (by simp) (H1 := []) ?_ rfl
  obtain ⟨m, rfl⟩ : ∃ j, m = j + 1 := ⟨m - 1, by omega⟩
  obtain ⟨xo, xr, xn, rfl, ho, hr, hn⟩ := hx
  have fo := ho.free; have fr := hr.free; have fn := hn.free; have ft := ht.free
  have ob : ∀ call, evE call [] (.box false) [.agg [xo, xr, xn]] = some (.ptr 0 0, [some (.box [xo, xr, xn])]) := fun call => by simp [evE, AV.cells, oneL, ho.one, hr.one, hn.one, mkHO]
  have hrow := getLL_lt ha (by omega)
  have hg2 := hg.2.1
  refine f_enter rfl rfl ?_
  repeat' first
 | (apply s_mov; (focus ((conv => lhs; whnf); done)))
 | (apply c_nil)
 | ((first | apply s_lss | apply s_leq | apply s_gtr | apply s_geq | apply s_eql | apply s_neq); exact rfl; all_goals (intro _; try (exfalso; omega)))
 | (apply s_en; (focus (repeat (first | apply opds_nil | (apply opds_cons; (first | (focus ((conv => lhs; whnf); done)) | exact rfl))))); exact ob _)
 | (apply s_len; (focus ((conv => lhs; whnf); done)); (first | assumption | (apply IsLL.at; assumption; omega)))
 | (apply s_pd; (focus ((conv => lhs; whnf); done)))
 | (apply c_seq)
 | (apply c_reg)
 | (apply c_block)
 | (apply c_skip)
 | (apply c_ret)
 | (apply c_condT; exact rfl)
 | (apply c_condF; exact rfl)
 | (with_reducible apply k_c)
  · refine c_loop ?_
    refine loop_gc (σ := Nat) (fun i => [.int .i64 p, t, .ptr 0 0, .int .i64 i]) (fun _ => [some (.box [xo, xr, xn])]) (fun i => i ≤ pl.length ∧ ∀ j : Nat, j < i → getI a.owner j = p → getI pl j ∈ getLL a.next j) (fun i => pl.length - i) ?_ _ 0 _ _ ⟨by omega, by omega⟩ (by omega) (by simp [go_sem, fo, fr, fn, ft]; done)
    intro i ⟨hi, hb⟩ K hK
    repeat' first
 | (apply s_mov; (focus ((conv => lhs; whnf); done)))
 | (apply s_gT; exact rfl)
 | (apply s_gF; exact rfl)
 | (apply s_gFD; exact rfl)
 | (apply c_nil)
 | (apply s_pickT; exact rfl; (focus ((conv => lhs; whnf); done)))
 | (apply s_pickF; exact rfl; (focus ((conv => lhs; whnf); done)))
 | (apply s_notT; exact rfl)
 | (apply s_notF; exact rfl)
 | ((first | apply s_lss | apply s_leq | apply s_gtr | apply s_geq | apply s_eql | apply s_neq); exact rfl; all_goals (intro _; try (exfalso; omega)))
 | ((first | apply s_add | apply s_sub); exact rfl; omega)
 | (apply isE; refine s_cB (by (focus (repeat (first | apply opds_nil | (apply opds_cons; (first | (focus ((conv => lhs; whnf); done)) | exact rfl)))))) (c47 (by first | assumption | exact IsLL.at (by assumption) (by omega)) (by have := hrow i; omega) (by omega) _) (fun _ => ?_) (fun _ => ?_))
 | (apply s_len; (focus ((conv => lhs; whnf); done)); (first | assumption | (apply IsLL.at; assumption; omega)))
 | (apply s_idx; (focus ((conv => lhs; whnf); done)); exact rfl; (first | assumption | (apply IsLL.at; assumption; omega)); omega)
 | (apply s_idxLL; (focus ((conv => lhs; whnf); done)); exact rfl; assumption; omega)
 | (apply s_ldI; exact rfl; omega)
 | (apply s_ldLL; exact rfl; assumption; omega)
 | (apply s_pd; (focus ((conv => lhs; whnf); done)))
 | (apply c_seq)
 | (apply c_reg)
 | (apply c_block)
 | (apply c_exitH)
 | (apply c_skip)
 | (apply c_ret)
 | (apply c_condT; exact rfl)
 | (apply c_condF; exact rfl)
 | (apply c_preF; (focus (repeat (first | apply looks_nil | (apply looks_cons; (focus ((conv => lhs; whnf); done)))))); (focus (simp [idFreeL, AV.idFree, *]; done)))
 | (with_reducible apply k_c)
    · refine hK (i + 1) _ _ ⟨by omega, fun j hj => ?_⟩ (by omega) (by simp [go_sem, fo, fr, fn, ft]; done)
      rcases (by omega : j < i ∨ j = i) with h | rfl
      · exact hb j h
      · intro _; assumption
    · refine fin_t rfl rfl (leafF fun h => ?_)
      exact absurd (h.2 i (by omega) (by assumption)) (by assumption)
    · refine hK (i + 1) _ _ ⟨by omega, fun j hj => ?_⟩ (by omega) (by simp [go_sem, fo, fr, fn, ft]; done)
      rcases (by omega : j < i ∨ j = i) with h | rfl
      · exact hb j h
      · intro h; contradiction
    · exact fin_t rfl rfl (leafT ⟨by omega, fun j hj => hb j (by omega)⟩)
  · refine fin_t (by (conv => lhs; whnf)) (by rfl) (leafF fun h => ?_)
    have := h.1
    omega
theorem plans {g : Gm} (hg : Good g) (pl : List Int) : OkPlan g pl ↔ (OkPl g 0 pl ∧ OkPl g 1 pl) := by
  have hg2 := hg.2.1
  constructor
  · intro h
    exact ⟨⟨by have := h.1; omega, fun v hv _ => h.2 v (by have := h.1; omega)⟩, ⟨by have := h.1; omega, fun v hv _ => h.2 v (by have := h.1; omega)⟩⟩
  · intro ⟨h0, h1⟩
    refine ⟨by have := h0.1; omega, fun v hv => ?_⟩
    have ho := (hg.2.2.2 v hv).1
    have hl := h0.1
    rcases (by omega : getI g.owner v = 0 ∨ getI g.owner v = 1) with h | h
    · exact h0.2 v (by omega) h
    · exact h1.2 v (by omega) h
end Go.AM.Pa
