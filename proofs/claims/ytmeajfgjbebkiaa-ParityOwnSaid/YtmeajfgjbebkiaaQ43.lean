/- A part of the proof: Q43. -/
import Derived.Test.YtmeajfgjbebkiaaQ42
set_option linter.unusedSectionVars false
set_option linter.unusedVariables false
set_option linter.unusedSimpArgs false
namespace Go.AM.Pa
attribute [local go_sem] gc subHeap reach_skip ren_free reach_new reach_newp reach_end rangeL roots boxCells nodupB posOf renL AV.ren pickO renH renO looks look bindEnv envOf reach_int reach_bool reach_nilS reach_rd putRow cells_sl cells_int cells_bool cells_nilS cells_rd cells_agg reach_agg reach_tup idFreeL idf_sl idf_ptr idf_int idf_bool idf_nilS idf_rd
theorem frzV_fn {H : Heap} {k g : Nat} {cs : List AV} : frzV H (k + 1) (.fn g cs) = if idFreeL cs then some (.fn g cs) else (frzL H k cs).map (.fn g) := by simp only [frzV]
theorem frzV_ptr {H : Heap} {k id off : Nat} : frzV H (k + 1) (.ptr id off) = match H[id]? with
    | some (some (.data c)) => some (.rp (c.drop off))
    | some (some (.box c)) => (frzL H k c).map fun c => .rp (c.drop off)
    | _ => none := by
  simp only [frzV]
  rfl
theorem e_boxI {call : CallF} {H : Heap} {k : IntKind} (n : Int) : evE call H (.box true) [.int k n] = some (.ptr H.length 0, H ++ [some (.data [.int k n])]) := rfl
/-! Beats -/
instance (g : Gm) (p : Int) (pl : List Int) : Decidable (OkB g p pl) := by unfold OkB; infer_instance
theorem c57 {xo xr xn : AV} {l : List Int} (ho : IsL xo l) (fr : xr.idFree = true) (fn : xn.idFree = true) {p : Int} {v : Nat} (hv : v < l.length) {m : Nat} (hm : 1 ≤ m) (H : Heap) :
    callPure (evF tab it m) true 57 [.int .i64 (v : Int), .rp [xo, xr, xn], .rp [.int .i64 p]] H = some (.bool (decide (getI l v = p)), H) := by
  have fo := ho.free
  refine callPure_free (by simp [idFreeL, AV.idFree]) (by simp) (H1 := []) ?_ rfl
  obtain ⟨m, rfl⟩ : ∃ j, m = j + 1 := ⟨m - 1, by omega⟩
  refine f_enter rfl rfl ?_
  repeat' first
 | (apply s_mov; (focus ((conv => lhs; whnf); done)))
 | (apply c_nil)
 | ((first | apply s_lss | apply s_leq | apply s_gtr | apply s_geq | apply s_eql | apply s_neq); exact rfl; all_goals (intro _; try (exfalso; omega)))
 | (apply s_idx; (focus ((conv => lhs; whnf); done)); exact rfl; (first | assumption | (apply IsLL.at; assumption; omega)); omega)
 | (apply s_ldI; exact rfl; omega)
 | (apply s_pd; (focus ((conv => lhs; whnf); done)))
 | (apply c_seq)
 | (apply c_reg)
 | (apply c_ret)
 | (with_reducible apply k_c)
  · exact fin_t rfl rfl (leafT (by assumption))
  · exact fin_t rfl rfl (leafF (by assumption))
/-- isPlan, of a player's positions -/
theorem f49p {xo xr xn t : AV} {a : Gm} {p : Int} {pl : List Int} (hx : IsG (.agg [xo, xr, xn]) a) (ht : IsL t pl) (hg : Good a) (ha : a.next.length < 50 ∧ ∀ l ∈ a.next, l.length < 50) (hp : pl.length < 50) {m : Nat} (hm : 105 ≤ m) :
    evF tab it m 49 [.agg [xo, xr, xn], t, .fn 57 [.rp [xo, xr, xn], .rp [.int .i64 p]]] [] = some (.bool (decide (pl.length = a.next.length ∧ OkB a p pl)), []) := by
  obtain ⟨m, rfl⟩ : ∃ j, m = j + 1 := ⟨m - 1, by omega⟩
  obtain ⟨_, _, _, he, ho, hr, hn⟩ := hx
  cases he
  have fo := ho.free; have fr := hr.free; have fn := hn.free; have ft := ht.free
  have hg2 := hg.2.1
  have ob : ∀ call, evE call [] (.box false) [.agg [xo, xr, xn]] = some (.ptr 0 0, [some (.box [xo, xr, xn])]) := fun call => by simp [evE, AV.cells, oneL, ho.one, hr.one, hn.one, mkHO]
  have hrow := getLL_lt ha.2 (by omega)
  have cv : ∀ H (v : Nat), v < a.owner.length → evE (evF tab it m) H (.callv true true) [.fn 57 [.rp [xo, xr, xn], .rp [.int .i64 p]], .int .i64 (v : Int)] = some (.bool (decide (getI a.owner v = p)), H) := fun H v hv => c57 ho fr fn hv (by omega) H
  have ff : AV.idFree (.fn 57 [.rp [xo, xr, xn], .rp [.int .i64 p]]) = true := by simp [AV.idFree, idFreeL]
  refine f_enter rfl rfl ?_
  repeat' first
 | (apply s_mov; (focus ((conv => lhs; whnf); done)))
 | (apply c_nil)
 | ((first | apply s_lss | apply s_leq | apply s_gtr | apply s_geq | apply s_eql | apply s_neq); exact rfl; all_goals (intro _; try (exfalso; omega)))
 | (apply s_en; (focus (repeat (first | apply opds_nil | (apply opds_cons; (first | (focus ((conv => lhs; whnf); done)) | exact rfl))))); exact ob _)
 | (apply s_len; (focus ((conv => lhs; whnf); done)); (first | assumption | (apply IsLL.at; assumption; omega)))
 | (apply s_lenLL; (focus ((conv => lhs; whnf); done)); assumption)
 | (apply s_pd; (focus ((conv => lhs; whnf); done)))
 | (apply c_seq)
 | (apply c_reg)
 | (apply c_block)
 | (apply c_skip)
 | (apply c_ret)
 | (apply c_condT; exact rfl)
 | (apply c_condF; exact rfl)
 | (with_reducible apply k_c)
  · refine c_loop ?_
    refine loop_gc (σ := Nat) (fun i => [t, .fn 57 [.rp [xo, xr, xn], .rp [.int .i64 p]], xn, .int .i64 a.next.length, .int .i64 i]) (fun _ => []) (fun i => i ≤ a.next.length ∧ ∀ j : Nat, j < i → getI a.owner j = p → getI pl j ∈ getLL a.next j) (fun i => a.next.length - i) ?_ _ 0 _ _ ⟨by omega, by omega⟩ (by omega) (gc_to rfl (by simp [idFreeL, AV.idFree, *]; done))
    intro i ⟨hi, hb⟩ K hK
    have cvi := fun H h => cv H i h
    by_cases hop : getI a.owner i = p
    · simp only [hop, decide_true] at cvi
      repeat' first
 | (apply s_mov; (focus ((conv => lhs; whnf); done)))
 | (apply s_gT; exact rfl)
 | (apply c_nil)
 | (apply s_pickT; exact rfl; (focus ((conv => lhs; whnf); done)))
 | (apply s_notT; exact rfl)
 | (apply s_notF; exact rfl)
 | ((first | apply s_lss | apply s_leq | apply s_gtr | apply s_geq | apply s_eql | apply s_neq); exact rfl; all_goals (intro _; try (exfalso; omega)))
 | ((first | apply s_add | apply s_sub); exact rfl; omega)
 | (apply s_en; (focus (repeat (first | apply opds_nil | (apply opds_cons; (first | (focus ((conv => lhs; whnf); done)) | exact rfl))))); exact cvi _ (by omega))
 | (apply isE; refine s_cB (by (focus (repeat (first | apply opds_nil | (apply opds_cons; (first | (focus ((conv => lhs; whnf); done)) | exact rfl)))))) (c51 (by first | assumption | exact IsLL.at (by assumption) (by omega)) (by have := hrow i; omega) (by omega) _) (fun _ => ?_) (fun _ => ?_))
 | (apply s_idx; (focus ((conv => lhs; whnf); done)); exact rfl; (first | assumption | (apply IsLL.at; assumption; omega)); omega)
 | (apply s_idxLL; (focus ((conv => lhs; whnf); done)); exact rfl; assumption; omega)
 | (apply s_ldI; exact rfl; omega)
 | (apply s_ldLL; exact rfl; assumption; omega)
 | (apply c_seq)
 | (apply c_reg)
 | (apply c_block)
 | (apply c_exitH)
 | (apply c_skip)
 | (apply c_ret)
 | (apply c_condT; exact rfl)
 | (apply c_condF; exact rfl)
 | (apply c_preF; (focus (repeat (first | apply looks_nil | (apply looks_cons; (focus ((conv => lhs; whnf); done)))))); (focus (simp [idFreeL, AV.idFree, *]; done)))
 | (with_reducible apply k_c)
      · refine hK (i + 1) _ _ ⟨by omega, fun j hj ho => ?_⟩ (by omega) (gc_to rfl (by simp [idFreeL, AV.idFree, *]; done))
        rcases (by omega : j < i ∨ j = i) with h | rfl
        · exact hb j h ho
        · assumption
      · refine fin_t rfl rfl (leafF fun h => ?_)
        exact absurd (h.2 i (by omega) hop) (by assumption)
      · exact fin_t rfl rfl (leafT ⟨by omega, fun j hj => hb j (by omega)⟩)
    · simp only [hop, decide_false] at cvi
      repeat' first
 | (apply s_mov; (focus ((conv => lhs; whnf); done)))
 | (apply s_gF; exact rfl)
 | (apply s_gFD; exact rfl)
 | (apply c_nil)
 | (apply s_pickF; exact rfl; (focus ((conv => lhs; whnf); done)))
 | ((first | apply s_lss | apply s_leq | apply s_gtr | apply s_geq | apply s_eql | apply s_neq); exact rfl; all_goals (intro _; try (exfalso; omega)))
 | ((first | apply s_add | apply s_sub); exact rfl; omega)
 | (apply s_en; (focus (repeat (first | apply opds_nil | (apply opds_cons; (first | (focus ((conv => lhs; whnf); done)) | exact rfl))))); exact cvi _ (by omega))
 | (apply s_idxLL; (focus ((conv => lhs; whnf); done)); exact rfl; assumption; omega)
 | (apply s_ldLL; exact rfl; assumption; omega)
 | (apply c_seq)
 | (apply c_reg)
 | (apply c_block)
 | (apply c_exitH)
 | (apply c_skip)
 | (apply c_ret)
 | (apply c_condT; exact rfl)
 | (apply c_condF; exact rfl)
 | (apply c_preF; (focus (repeat (first | apply looks_nil | (apply looks_cons; (focus ((conv => lhs; whnf); done)))))); (focus (simp [idFreeL, AV.idFree, *]; done)))
 | (with_reducible apply k_c)
      · refine hK (i + 1) _ _ ⟨by omega, fun j hj ho => ?_⟩ (by omega) (gc_to rfl (by simp [idFreeL, AV.idFree, *]; done))
        rcases (by omega : j < i ∨ j = i) with h | rfl
        · exact hb j h ho
        · exact absurd ho hop
      · exact fin_t rfl rfl (leafT ⟨by omega, fun j hj => hb j (by omega)⟩)
  · refine fin_t (by (conv => lhs; whnf)) (by rfl) (leafF fun h => ?_)
    have := h.1
    omega
theorem c35 {x t : AV} {g : Gm} {p : Int} {pl : List Int} (hx : IsG x g) (ht : IsL t pl) (ha : g.next.length < 50 ∧ ∀ l ∈ g.next, l.length < 50) (hp : pl.length < 50) {m : Nat} (hm : 194 ≤ m) (H : Heap) :
    callPure (evF tab it m) true 35 [x, .int .i64 p, t] H = some (if Good g ∧ (0 ≤ p ∧ p ≤ 1) ∧ pl.length = g.next.length ∧ OkB g p pl then .tup [fzL (beatsL g p pl), .int .i64 0] else .tup [.nilS, .int .i64 2], H) := by
  refine callPure_free (by simp [idFreeL, AV.idFree, hx.free, ht.free]) (by simp) (H1 := []) ?_ (by split <;> simp [AV.idFree, idFreeL, fzL_free])
  obtain ⟨m, rfl⟩ : ∃ j, m = j + 1 := ⟨m - 1, by omega⟩
  have hx' := hx
  obtain ⟨xo, xr, xn, rfl, ho, hr, hn⟩ := hx
  have fo := ho.free; have fr := hr.free; have fn := hn.free; have ft := ht.free
  have ob : ∀ call, evE call [] (.box false) [.agg [xo, xr, xn]] = some (.ptr 0 0, [some (.box [xo, xr, xn])]) := fun call => by simp [evE, AV.cells, oneL, ho.one, hr.one, hn.one, mkHO]
  have h39 := fun H => c39 hx' ⟨by omega, fun l hl => by have := ha.2 l hl; omega⟩ (m := m) (by omega) H
  have h49 : Good g → callPure (evF tab it m) true 49 [.agg [xo, xr, xn], t, .fn 57 [.ptr 0 0, .ptr 1 0]] [some (.box [xo, xr, xn]), some (.data [.int .i64 p])] = some (.bool (decide (pl.length = g.next.length ∧ OkB g p pl)), [some (.box [xo, xr, xn]), some (.data [.int .i64 p])]) := fun hg => by
    have e1 : frzL [some (.box [xo, xr, xn]), some (.data [.int .i64 p])] 40 [.agg [xo, xr, xn], t, .fn 57 [.ptr 0 0, .ptr 1 0]] = some [.agg [xo, xr, xn], t, .fn 57 [.rp [xo, xr, xn], .rp [.int .i64 p]]] := by
      simp [frzL_cons, frzL_nil, frzV_fn, frzV_ptr, frzV_int, frzV_free, AV.idFree, idFreeL, fo, fr, fn, ft]
    simp only [callPure, e1, Option.bind_some, f49p hx' ht hg ha hp (m := m) (by omega)]
    simp [AV.hasRd, frzV_bool]
  have h40 := fun H => c40 (m := m) (by omega) p 0 1 H
  by_cases hg : Good g
  · have h49' := h49 hg
    clear h49
    simp only [decide_eq_true hg] at h39
    by_cases hp01 : 0 ≤ p ∧ p ≤ 1
    · simp only [decide_eq_true hp01] at h40
      by_cases hok : pl.length = g.next.length ∧ OkB g p pl
      · have h58 := fun H => c58 (p := p) hx' ht hg ha.2 (by omega) hok.2 (m := m) (by omega) H
        rw [decide_eq_true hok] at h49'
        rw [if_pos ⟨hg, hp01, hok⟩]
        have fr := fzL_free (beatsL g p pl)
        generalize fzL (beatsL g p pl) = r at *
        refine f_enter rfl rfl ?_
        generalize evF tab it m = call at *
        repeat' first
 | (apply s_mov; (focus ((conv => lhs; whnf); done)))
 | (apply s_gT; exact rfl)
 | (apply c_nil)
 | (apply s_pickF; exact rfl; (focus ((conv => lhs; whnf); done)))
 | (apply s_notT; exact rfl)
 | (apply s_en; (focus (repeat (first | apply opds_nil | (apply opds_cons; (first | (focus ((conv => lhs; whnf); done)) | exact rfl))))); exact ob _)
 | (apply s_en; (focus (repeat (first | apply opds_nil | (apply opds_cons; (first | (focus ((conv => lhs; whnf); done)) | exact rfl))))); exact e_boxI _)
 | (apply s_cn; (focus (repeat (first | apply opds_nil | (apply opds_cons; (first | (focus ((conv => lhs; whnf); done)) | exact rfl))))); exact h39 _)
 | (apply s_cn; (focus (repeat (first | apply opds_nil | (apply opds_cons; (first | (focus ((conv => lhs; whnf); done)) | exact rfl))))); exact h40 _)
 | (apply s_cn; (focus (repeat (first | apply opds_nil | (apply opds_cons; (first | (focus ((conv => lhs; whnf); done)) | exact rfl))))); exact h49')
 | (apply s_cn; (focus (repeat (first | apply opds_nil | (apply opds_cons; (first | (focus ((conv => lhs; whnf); done)) | exact rfl))))); exact h58 _)
 | (apply s_pd; (focus ((conv => lhs; whnf); done)))
 | (apply c_seq)
 | (apply c_reg)
 | (apply c_skip)
 | (apply c_ret)
 | (apply c_condF; exact rfl)
 | (with_reducible apply k_c)
        exact fin_tt rfl rfl fr rfl rfl
      · rw [decide_eq_false hok] at h49'
        rw [if_neg fun h => hok h.2.2]
        refine f_enter rfl rfl ?_
        generalize evF tab it m = call at *
        repeat' first
 | (apply s_mov; (focus ((conv => lhs; whnf); done)))
 | (apply s_gT; exact rfl)
 | (apply c_nil)
 | (apply s_pickF; exact rfl; (focus ((conv => lhs; whnf); done)))
 | (apply s_notT; exact rfl)
 | (apply s_notF; exact rfl)
 | (apply s_en; (focus (repeat (first | apply opds_nil | (apply opds_cons; (first | (focus ((conv => lhs; whnf); done)) | exact rfl))))); exact ob _)
 | (apply s_en; (focus (repeat (first | apply opds_nil | (apply opds_cons; (first | (focus ((conv => lhs; whnf); done)) | exact rfl))))); exact e_boxI _)
 | (apply s_cn; (focus (repeat (first | apply opds_nil | (apply opds_cons; (first | (focus ((conv => lhs; whnf); done)) | exact rfl))))); exact h39 _)
 | (apply s_cn; (focus (repeat (first | apply opds_nil | (apply opds_cons; (first | (focus ((conv => lhs; whnf); done)) | exact rfl))))); exact h40 _)
 | (apply s_cn; (focus (repeat (first | apply opds_nil | (apply opds_cons; (first | (focus ((conv => lhs; whnf); done)) | exact rfl))))); exact h49')
 | (apply s_pd; (focus ((conv => lhs; whnf); done)))
 | (apply c_seq)
 | (apply c_reg)
 | (apply c_ret)
 | (apply c_condT; exact rfl)
 | (with_reducible apply k_c)
        exact fin_tt rfl rfl rfl rfl rfl
    · simp only [decide_eq_false hp01] at h40
      rw [if_neg fun h => hp01 h.2.1]
      refine f_enter rfl rfl ?_
      generalize evF tab it m = call at *
      repeat' first
 | (apply s_mov; (focus ((conv => lhs; whnf); done)))
 | (apply s_gT; exact rfl)
 | (apply s_gF; exact rfl)
 | (apply s_gFD; exact rfl)
 | (apply c_nil)
 | (apply s_pickT; exact rfl; (focus ((conv => lhs; whnf); done)))
 | (apply s_pickF; exact rfl; (focus ((conv => lhs; whnf); done)))
 | (apply s_notT; exact rfl)
 | (apply s_notF; exact rfl)
 | (apply s_en; (focus (repeat (first | apply opds_nil | (apply opds_cons; (first | (focus ((conv => lhs; whnf); done)) | exact rfl))))); exact ob _)
 | (apply s_en; (focus (repeat (first | apply opds_nil | (apply opds_cons; (first | (focus ((conv => lhs; whnf); done)) | exact rfl))))); exact e_boxI _)
 | (apply s_cn; (focus (repeat (first | apply opds_nil | (apply opds_cons; (first | (focus ((conv => lhs; whnf); done)) | exact rfl))))); exact h39 _)
 | (apply s_cn; (focus (repeat (first | apply opds_nil | (apply opds_cons; (first | (focus ((conv => lhs; whnf); done)) | exact rfl))))); exact h40 _)
 | (apply s_pd; (focus ((conv => lhs; whnf); done)))
 | (apply c_seq)
 | (apply c_reg)
 | (apply c_ret)
 | (apply c_condT; exact rfl)
 | (with_reducible apply k_c)
      exact fin_tt rfl rfl rfl rfl rfl
  · simp only [decide_eq_false hg] at h39
    rw [if_neg fun h => hg h.1]
    refine f_enter rfl rfl ?_
    generalize evF tab it m = call at *
    repeat' first
 | (apply s_mov; (focus ((conv => lhs; whnf); done)))
 | (apply s_gF; exact rfl)
 | (apply s_gFD; exact rfl)
 | (apply c_nil)
 | (apply s_pickT; exact rfl; (focus ((conv => lhs; whnf); done)))
 | (apply s_notF; exact rfl)
 | (apply s_en; (focus (repeat (first | apply opds_nil | (apply opds_cons; (first | (focus ((conv => lhs; whnf); done)) | exact rfl))))); exact ob _)
 | (apply s_en; (focus (repeat (first | apply opds_nil | (apply opds_cons; (first | (focus ((conv => lhs; whnf); done)) | exact rfl))))); exact e_boxI _)
 | (apply s_cn; (focus (repeat (first | apply opds_nil | (apply opds_cons; (first | (focus ((conv => lhs; whnf); done)) | exact rfl))))); exact h39 _)
 | (apply s_pd; (focus ((conv => lhs; whnf); done)))
 | (apply c_seq)
 | (apply c_reg)
 | (apply c_ret)
 | (apply c_condT; exact rfl)
 | (with_reducible apply k_c)
    exact fin_tt rfl rfl rfl rfl rfl
/-! ref.Follow, ref.Beats -/
theorem c59 {x t : AV} {g : Gm} {p : Int} {pl : List Int} (hx : IsG x g) (ht : IsL t pl) (hg : Good g) (hl : pl.length = g.next.length) {m : Nat} (hm : 40 ≤ m) (H : Heap) :
    callPure (evF tab it m) true 59 [x, .int .i64 p, t] H = some (fzLL (bndG g p pl).next, H) := by
  obtain ⟨xo, xr, xn, rfl, ho, hr, hn⟩ := id hx
  have fo := ho.free; have fr := hr.free; have fn := hn.free; have ft := ht.free
  have hg1 := hg.1; have hg2 := hg.2.1
  have hbl := bnd_len g p pl
  refine callPure_frz (by simp [idFreeL, AV.idFree, fo, fr, fn, ft]) (by simp) (v := .sl 0 1 0 g.next.length) (H1 := [some (.data (brs g p pl g.next.length))]) ?_ ?_
  · obtain ⟨m, rfl⟩ : ∃ j, m = j + 1 := ⟨m - 1, by omega⟩
    have ob : ∀ call, evE call [] (.box false) [.agg [xo, xr, xn]] = some (.ptr 0 0, [some (.box [xo, xr, xn])]) := fun call => by simp [evE, AV.cells, oneL, ho.one, hr.one, hn.one, mkHO]
    have hrow : ∀ v : Nat, v < g.next.length → IsL (llAt xn v) (getLL g.next v) ∧ llAt xn v = fzL (getLL g.next v) := fun v hv => by
      have := hn.at (i := (v : Int)) (by omega)
      exact ⟨this, isL_ne this (row_ne hg rfl hv)⟩
    refine f_enter rfl rfl ?_
    generalize evF tab it m = call
    repeat' first
 | (apply s_mov; (focus ((conv => lhs; whnf); done)))
 | (apply c_nil)
 | (apply s_en; (focus (repeat (first | apply opds_nil | (apply opds_cons; (first | (focus ((conv => lhs; whnf); done)) | exact rfl))))); exact ob _)
 | (apply c_seq)
 | (apply c_reg)
 | (apply c_block)
 | (with_reducible apply k_c)
    refine c_loop ?_
    refine loop_gc (σ := Nat) (fun v => [.int .i64 p, t, .ptr 0 0, ownV 1 (brs g p pl v), .int .i64 v]) (fun v => [some (.box [xo, xr, xn])] ++ owH (brs g p pl v)) (fun v => v ≤ g.next.length) (fun v => g.next.length - v) ?_ _ 0 _ _ (by omega) (by omega) (by simp [go_sem, fo, fr, fn, ft, brs, ownV, owH]; done)
    intro v hv K hK
    have hsi := brs_succ g p pl v
    have hsl := brs_len g p pl v
    have hsn : v = g.next.length → brs g p pl v = brs g p pl g.next.length := fun e => by rw [e]
    have hrv := hrow v
    generalize brs g p pl v = l at *
    have hap : ∀ call y, evE call ([some (.box [xo, xr, xn])] ++ owH l) (.app false 1 24) [ownV 1 l, .rd 1 1 [y]] = _ := fun call y => e_app_own rfl (by omega)
    repeat' first
 | (apply s_mov; (focus ((conv => lhs; whnf); done)))
 | (apply c_nil)
 | ((first | apply s_lss | apply s_leq | apply s_gtr | apply s_geq | apply s_eql | apply s_neq); exact rfl; all_goals (intro _; try (exfalso; omega)))
 | ((first | apply s_add | apply s_sub); exact rfl; omega)
 | (apply s_en; (focus (repeat (first | apply opds_nil | (apply opds_cons; (first | (focus ((conv => lhs; whnf); done)) | exact rfl))))); exact e_bld1 rfl rfl rfl rfl)
 | (apply s_en; (focus (repeat (first | apply opds_nil | (apply opds_cons; (first | (focus ((conv => lhs; whnf); done)) | exact rfl))))); exact e_bld1 (hrv (by omega)).1.cellsV (hrv (by omega)).1.solid (hrv (by omega)).1.one (hrv (by omega)).1.free)
 | (apply s_en; (focus (repeat (first | apply opds_nil | (apply opds_cons; (first | (focus ((conv => lhs; whnf); done)) | exact rfl))))); exact hap _ _)
 | (apply s_len; (focus ((conv => lhs; whnf); done)); (first | assumption | (apply IsLL.at; assumption; omega)))
 | (apply s_idx; (focus ((conv => lhs; whnf); done)); exact rfl; (first | assumption | (apply IsLL.at; assumption; omega)); omega)
 | (apply s_idxLL; (focus ((conv => lhs; whnf); done)); exact rfl; assumption; omega)
 | (apply s_ldI; exact rfl; omega)
 | (apply s_ldLL; exact rfl; assumption; omega)
 | (apply s_pd; (focus ((conv => lhs; whnf); done)))
 | (apply c_seq)
 | (apply c_reg)
 | (apply c_block)
 | (apply c_exitH)
 | (apply c_skip)
 | (apply c_condT; exact rfl)
 | (apply c_condF; exact rfl)
 | (with_reducible apply k_c)
    · rename_i q1 q2
      refine hK (v + 1) _ _ (by omega) (by omega) ?_
      rw [hsi, bRow, if_pos q2, fzL_one]
      rcases l with _ | ⟨c, cs⟩ <;> exact (by simp [go_sem, fo, fr, fn, ft, ownV, owH, owK]; done)
    · rename_i q1 q2
      refine hK (v + 1) _ _ (by omega) (by omega) ?_
      rw [hsi, bRow, if_neg q2, ← (hrv (by omega)).2]
      rcases l with _ | ⟨c, cs⟩ <;> exact (by simp [go_sem, fo, fr, fn, ft, ownV, owH, owK]; done)
    have hin : v = g.next.length := by omega
    rw [← hsn hin]
    rw [hin] at hsl
    rcases l with _ | ⟨c, cs⟩
    · simp at hsl; omega
    · simp only [List.length_cons] at hsl
      refine c_pre (vs := [.sl 0 1 0 (cs.length + 1)]) (H' := [some (.data (c :: cs))]) (by simp [go_sem, fo, fr, fn, ft, ownV, owH]; done) ?_
      repeat' first
 | (apply s_mov; (focus ((conv => lhs; whnf); done)))
 | (apply c_nil)
 | (apply c_seq)
 | (apply c_reg)
 | (apply c_ret)
 | (with_reducible apply k_c)
      rw [← hsl]
      simp [finish, ress, resOf, look, tupOf, gc, subHeap, reach_new, reach_end, rangeL, roots, boxCells, nodupB, posOf, renL, AV.ren, pickO, renH, renO, bindEnv]
  · have h1 := brs_len g p pl g.next.length
    have h2 : (brs g p pl g.next.length).take g.next.length = brs g p pl g.next.length := List.take_of_length_le (by omega)
    rw [fzLL_ne hbl hg1.1, ← brs_all]
    simp [frzV_sl, Heap.data?, h1, h2]
theorem c36 {x t : AV} {g : Gm} {p : Int} {pl : List Int} (hx : IsG x g) (ht : IsL t pl) (hg : Good g) (hp01 : p = 0 ∨ p = 1) (hrow : ∀ l ∈ g.next, l.length < 50) (hl : pl.length = g.next.length) (hp : OkB g p pl) {m : Nat} (hm : 72 ≤ m) (H : Heap) :
    callPure (evF tab it m) true 36 [x, .int .i64 p, t] H = some (fzL (beatsL g p pl), H) := by
  refine callPure_frz (by simp [idFreeL, AV.idFree, hx.free, ht.free]) (by simp) (v := ownV 0 (iL (beatsL g p pl))) (H1 := owH (iL (beatsL g p pl))) ?_ (frz_own _)
  obtain ⟨m, rfl⟩ : ∃ j, m = j + 1 := ⟨m - 1, by omega⟩
  have h59 := fun H => c59 (p := p) hx ht hg hl (m := m) (by omega) H
  obtain ⟨xo, xr, xn, rfl, ho, hr, hn⟩ := id hx
  have fo := ho.free; have fr := hr.free; have fn := hn.free; have ft := ht.free
  have ob : ∀ call, evE call [] (.box false) [.agg [xo, xr, xn]] = some (.ptr 0 0, [some (.box [xo, xr, xn])]) := fun call => by simp [evE, AV.cells, oneL, ho.one, hr.one, hn.one, mkHO]
  have hg1 := hg.1
  have hbl := bnd_len g p pl
  have hnz := isLL_fz (bndG g p pl).next
  have h56 := fun H => c56 (p := p) hnz hr (bnd_gra hg hrow hp) (m := m) (by omega) H
  have hBl : (badL (bndG g p pl).next g.rank p).length = g.next.length := by simp [badL, hbl]
  have hBg : ∀ v : Nat, v < g.next.length → getB (badL (bndG g p pl).next g.rank p) v = !decide (winA (zAll (bndG g p pl)).1 v = p) := fun v hv => by
    rw [badL, getB_map (by rw [hbl]; exact hv), beats_eq hg hp01 hrow hp hv, Bool.not_not]
  rw [hbl] at h56
  have fz := hnz.free
  generalize badL (bndG g p pl).next g.rank p = B at *
  generalize fzLL (bndG g p pl).next = zn at *
  refine f_enter rfl rfl ?_
  generalize evF tab it m = call at *
  repeat' first
 | (apply s_mov; (focus ((conv => lhs; whnf); done)))
 | (apply c_nil)
 | (apply s_en; (focus (repeat (first | apply opds_nil | (apply opds_cons; (first | (focus ((conv => lhs; whnf); done)) | exact rfl))))); exact ob _)
 | (apply s_cn; (focus (repeat (first | apply opds_nil | (apply opds_cons; (first | (focus ((conv => lhs; whnf); done)) | exact rfl))))); exact h59 _)
 | (apply s_cn; (focus (repeat (first | apply opds_nil | (apply opds_cons; (first | (focus ((conv => lhs; whnf); done)) | exact rfl))))); exact h56 _)
 | (apply s_pd; (focus ((conv => lhs; whnf); done)))
 | (apply c_seq)
 | (apply c_reg)
 | (apply c_block)
 | (with_reducible apply k_c)
  refine c_loop ?_
  refine loop_gc (σ := Nat) (fun v => [.rd 1 g.next.length (bL B), ownV 0 (iL (fil v fun v => decide (winA (zAll (bndG g p pl)).1 v = p))), .int .i64 v]) (fun v => owH (iL (fil v fun v => decide (winA (zAll (bndG g p pl)).1 v = p)))) (fun v => v ≤ g.next.length) (fun v => g.next.length - v) ?_ _ 0 _ _ (by omega) (by omega) (by simp [go_sem, fil, ownV, owH, iL]; done)
  intro v hv K hK
  have hsi := fil_succ v fun v => decide (winA (zAll (bndG g p pl)).1 v = p)
  have hsl := fil_len v fun v => decide (winA (zAll (bndG g p pl)).1 v = p)
  have hsn : v = g.next.length → fil v (fun v => decide (winA (zAll (bndG g p pl)).1 v = p)) = beatsL g p pl := fun e => by rw [e]; rfl
  have hBv := hBg v
  generalize fil v (fun v => decide (winA (zAll (bndG g p pl)).1 v = p)) = l at *
  have hap : ∀ call y, evE call (owH (iL l)) (.app false 1 8) [ownV 0 (iL l), .rd 1 1 [y]] = some (.sl (0 + (owK (iL l)).length) 1 0 ((iL l).length + 1), owK (iL l) ++ [some (.data (iL l ++ [y]))]) := fun call y => by
    have := e_app_own (call := call) (Pr := []) (l := iL l) (v := y) (q := 8) (id := 0) rfl (by rw [iL_len]; omega)
    simpa using this
  repeat' first
 | (apply s_mov; (focus ((conv => lhs; whnf); done)))
 | (apply c_nil)
 | (apply s_notT; exact rfl)
 | (apply s_notF; exact rfl)
 | ((first | apply s_lss | apply s_leq | apply s_gtr | apply s_geq | apply s_eql | apply s_neq); exact rfl; all_goals (intro _; try (exfalso; omega)))
 | ((first | apply s_add | apply s_sub); exact rfl; omega)
 | (apply s_en; (focus (repeat (first | apply opds_nil | (apply opds_cons; (first | (focus ((conv => lhs; whnf); done)) | exact rfl))))); exact e_bld1 rfl rfl rfl rfl)
 | (apply s_en; (focus (repeat (first | apply opds_nil | (apply opds_cons; (first | (focus ((conv => lhs; whnf); done)) | exact rfl))))); exact hap _ _)
 | (apply s_lenRd; exact rfl)
 | (apply s_ldRB; exact rfl; omega; all_goals intro _)
 | (apply s_idxRB; exact rfl; exact rfl; omega)
 | (apply c_seq)
 | (apply c_reg)
 | (apply c_block)
 | (apply c_exitH)
 | (apply c_skip)
 | (apply c_condT; exact rfl)
 | (apply c_condF; exact rfl)
 | (with_reducible apply k_c)
  · rename_i q1 q2
    refine hK (v + 1) _ _ (by omega) (by omega) ?_
    rw [hBv (by omega)] at q2
    rw [hsi, if_neg (by simpa using q2)]
    rcases l with _ | ⟨c, cs⟩ <;> exact (by simp [go_sem, ownV, owH, owK, iL]; done)
  · rename_i q1 q2
    refine hK (v + 1) _ _ (by omega) (by omega) ?_
    rw [hBv (by omega)] at q2
    rw [hsi, if_pos (by simpa using q2)]
    rcases l with _ | ⟨c, cs⟩ <;> exact (by simp [go_sem, ownV, owH, owK, iL]; done)
  rw [← hsn (by omega)]
  refine c_pre (vs := [ownV 0 (iL l)]) (H' := owH (iL l)) (by rcases l with _ | ⟨c, cs⟩ <;> exact (by simp [go_sem, ownV, owH, owK, iL]; done)) ?_
  repeat' first
 | (apply s_mov; (focus ((conv => lhs; whnf); done)))
 | (apply c_nil)
 | (apply c_seq)
 | (apply c_reg)
 | (apply c_ret)
 | (with_reducible apply k_c)
  rcases l with _ | ⟨c, cs⟩ <;> simp [finish, ress, resOf, look, tupOf, gc, subHeap, reach_new, reach_nilS, reach_end, rangeL, roots, boxCells, nodupB, posOf, renL, AV.ren, pickO, renH, renO, bindEnv, ownV, owH, iL]
end Go.AM.Pa

