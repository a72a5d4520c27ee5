/- A part of the proof: Q3. -/
import Derived.Test.YtmeajfgjbebkiaaQ2
set_option linter.unusedSectionVars false
set_option linter.unusedVariables false
set_option linter.unusedSimpArgs false
namespace Go.AM.Pa
attribute [local go_sem] gc subHeap reach_skip ren_free reach_new reach_newp reach_end rangeL roots boxCells nodupB posOf renL AV.ren pickO renH renO looks look bindEnv envOf reach_int reach_bool reach_nilS reach_rd putRow cells_sl cells_int cells_bool cells_nilS cells_rd cells_agg reach_agg reach_tup idFreeL idf_sl idf_ptr idf_int idf_bool idf_nilS idf_rd
/-- isGame -/
def okAt (g : Gm) (i : Nat) : Prop := (0 ≤ getI g.owner i ∧ getI g.owner i ≤ 1) ∧ (0 ≤ getI g.rank i ∧ getI g.rank i ≤ 9) ∧ getLL g.next i ≠ [] ∧ Asc (getLL g.next i) g.next.length
instance (g : Gm) (i : Nat) : Decidable (okAt g i) := by unfold okAt; infer_instance
def Good (g : Gm) : Prop := (1 ≤ g.next.length ∧ g.next.length ≤ 24) ∧ g.owner.length = g.next.length ∧ g.rank.length = g.next.length ∧ ∀ i, i < g.next.length → okAt g i
instance (g : Gm) : Decidable (Good g) := by unfold Good; infer_instance
theorem f39 {x : AV} {a : Gm} (hx : IsG x a) (ha : a.next.length < 100 ∧ ∀ l ∈ a.next, l.length < 100) (m : Nat) (hm : 103 ≤ m) : evF tab it m 39 [x] [] = some (.bool (decide (Good a)), []) := by
  obtain ⟨m, rfl⟩ : ∃ j, m = j + 1 := ⟨m - 1, by omega⟩
  obtain ⟨xo, xr, xn, rfl, ho, hr, hn⟩ := hx
  have fo := ho.free; have fr := hr.free; have fn := hn.free
  have ob : ∀ call, evE call [] (.box false) [.agg [xo, xr, xn]] = some (.ptr 0 0, [some (.box [xo, xr, xn])]) := fun call => by simp [evE, AV.cells, oneL, ho.one, hr.one, hn.one, mkHO]
  refine f_enter rfl rfl ?_
  refine c_seq (c_reg ?_)
  refine s_en (by (focus (repeat (first | apply opds_nil | (apply opds_cons; (first | (focus ((conv => lhs; whnf); done)) | exact rfl)))))) (ob _) ?_
  repeat' first
 | (apply s_mov; (focus ((conv => lhs; whnf); done)))
 | (apply s_gT; exact rfl)
 | (apply s_gF; exact rfl)
 | (apply c_nil)
 | (apply s_pickT; exact rfl; (focus ((conv => lhs; whnf); done)))
 | (apply s_pickF; exact rfl; (focus ((conv => lhs; whnf); done)))
 | (apply s_notT; exact rfl)
 | (apply s_notF; exact rfl)
 | ((first | apply s_lss | apply s_leq | apply s_gtr | apply s_geq | apply s_eql | apply s_neq); exact rfl; all_goals (intro _; try (exfalso; omega)))
 | (apply isE; refine s_cB (by (focus (repeat (first | apply opds_nil | (apply opds_cons; (first | (focus ((conv => lhs; whnf); done)) | exact rfl)))))) (c40 (by omega) _ _ _ _) (fun _ => ?_) (fun _ => ?_))
 | (apply s_len; (focus ((conv => lhs; whnf); done)); (first | assumption | (apply IsLL.at; assumption; omega)))
 | (apply s_lenLL; (focus ((conv => lhs; whnf); done)); assumption)
 | (apply s_pd; (focus ((conv => lhs; whnf); done)))
 | (apply c_seq)
 | (apply c_reg)
 | (apply c_block)
 | (apply c_skip)
 | (apply c_ret)
 | (apply c_condT; exact rfl)
 | (apply c_condF; exact rfl)
 | (with_reducible apply k_c)
  · refine c_loop ?_
    have hrow := getLL_lt ha.2 (by omega)
    refine loop_gc (σ := Nat) (fun i => [.ptr 0 0, .int .i64 a.next.length, xn, .int .i64 a.next.length, .int .i64 i]) (fun _ => [some (.box [xo, xr, xn])]) (fun i => i ≤ a.next.length ∧ ∀ j : Nat, j < i → okAt a j) (fun i => a.next.length - i) ?_ _ 0 _ _ ⟨by omega, by omega⟩ (by omega) (by simp [go_sem, fo, fr, fn]; done)
    intro i ⟨hi, hb⟩ K hK
    repeat' first
 | (apply s_mov; (focus ((conv => lhs; whnf); done)))
 | (apply s_gT; exact rfl)
 | (apply s_gF; exact rfl)
 | (apply s_gFD; exact rfl)
 | (apply c_nil)
 | (apply s_pickT; exact rfl; (focus ((conv => lhs; whnf); done)))
 | (apply s_pickF; exact rfl; (focus ((conv => lhs; whnf); done)))
 | (apply s_notT; exact rfl)
 | (apply s_notF; exact rfl)
 | ((first | apply s_lss | apply s_leq | apply s_gtr | apply s_geq | apply s_eql | apply s_neq); exact rfl; all_goals (intro _; try (exfalso; omega)))
 | ((first | apply s_add | apply s_sub); exact rfl; omega)
 | (apply isE; refine s_cB (by (focus (repeat (first | apply opds_nil | (apply opds_cons; (first | (focus ((conv => lhs; whnf); done)) | exact rfl)))))) (c40 (by omega) _ _ _ _) (fun _ => ?_) (fun _ => ?_))
 | (apply isE; refine s_cB (by (focus (repeat (first | apply opds_nil | (apply opds_cons; (first | (focus ((conv => lhs; whnf); done)) | exact rfl)))))) (c41 (by first | assumption | exact IsLL.at (by assumption) (by omega)) (by omega) (hrow _) (by omega) _) (fun _ => ?_) (fun _ => ?_))
 | (apply s_len; (focus ((conv => lhs; whnf); done)); (first | assumption | (apply IsLL.at; assumption; omega)))
 | (apply s_idx; (focus ((conv => lhs; whnf); done)); exact rfl; (first | assumption | (apply IsLL.at; assumption; omega)); omega)
 | (apply s_idxLL; (focus ((conv => lhs; whnf); done)); exact rfl; assumption; omega)
 | (apply s_ldI; exact rfl; omega)
 | (apply s_ldLL; exact rfl; assumption; omega)
 | (apply s_pd; (focus ((conv => lhs; whnf); done)))
 | (apply c_seq)
 | (apply c_reg)
 | (apply c_block)
 | (apply c_exitH)
 | (apply c_skip)
 | (apply c_ret)
 | (apply c_condT; exact rfl)
 | (apply c_condF; exact rfl)
 | (apply c_preF; (focus (repeat (first | apply looks_nil | (apply looks_cons; (focus ((conv => lhs; whnf); done)))))); (focus (simp [idFreeL, AV.idFree, *]; done)))
 | (with_reducible apply k_c)
    all_goals first
      | (refine hK (i + 1) _ _ ⟨by omega, fun j hj => ?_⟩ (by omega) (by simp [go_sem, fo, fr, fn]; done)
         rcases (by omega : j < i ∨ j = i) with h | rfl
         · exact hb j h
         · refine ⟨by assumption, by assumption, fun h => ?_, by assumption⟩
           have := congrArg List.length h
           simp only [List.length_nil] at this
           omega)
      | (refine fin_t (by (conv => lhs; whnf)) (by rfl) (leafF fun h => ?_)
         have h' := h.2.2.2 i (by omega)
         first
         | exact absurd h'.1 (by assumption)
         | exact absurd h'.2.1 (by assumption)
         | exact absurd h'.2.2.2 (by assumption)
         | exact h'.2.2.1 (List.eq_nil_of_length_eq_zero (by omega)))
      | exact fin_t (by (conv => lhs; whnf)) (by rfl) (leafT ⟨by omega, by omega, by omega, fun j hj => hb j (by omega)⟩)
  all_goals
    refine fin_t (by (conv => lhs; whnf)) (by rfl) (leafF fun h => ?_)
    obtain ⟨h1, h2, h3, -⟩ := h
    omega
theorem c39 {x : AV} {a : Gm} (hx : IsG x a) (ha : a.next.length < 100 ∧ ∀ l ∈ a.next, l.length < 100) {m : Nat} (hm : 103 ≤ m) (H : Heap) : callPure (evF tab it m) true 39 [x] H = some (.bool (decide (Good a)), H) :=
  callPure_free (by simp [idFreeL, hx.free]) (by simp) (f39 hx ha m hm) rfl

/-- ref.Game -/
theorem f21 {x : AV} {a : Gm} (hx : IsG x a) (ha : a.owner.length < 100 ∧ ∀ l ∈ a.next, l.length < 100) (m : Nat) (hm : 103 ≤ m) : evF tab it m 21 [x] [] = some (.bool (decide (Good a)), []) := by
  obtain ⟨m, rfl⟩ : ∃ j, m = j + 1 := ⟨m - 1, by omega⟩
  obtain ⟨xo, xr, xn, rfl, ho, hr, hn⟩ := hx
  have fo := ho.free; have fr := hr.free; have fn := hn.free
  have ob : ∀ call, evE call [] (.box false) [.agg [xo, xr, xn]] = some (.ptr 0 0, [some (.box [xo, xr, xn])]) := fun call => by simp [evE, AV.cells, oneL, ho.one, hr.one, hn.one, mkHO]
  refine f_enter rfl rfl ?_
  refine c_seq (c_reg ?_)
  refine s_en (by (focus (repeat (first | apply opds_nil | (apply opds_cons; (first | (focus ((conv => lhs; whnf); done)) | exact rfl)))))) (ob _) ?_
  repeat' first
 | (apply s_mov; (focus ((conv => lhs; whnf); done)))
 | (apply s_gT; exact rfl)
 | (apply s_gF; exact rfl)
 | (apply c_nil)
 | (apply s_pickT; exact rfl; (focus ((conv => lhs; whnf); done)))
 | (apply s_pickF; exact rfl; (focus ((conv => lhs; whnf); done)))
 | ((first | apply s_lss | apply s_leq | apply s_gtr | apply s_geq | apply s_eql | apply s_neq); exact rfl; all_goals (intro _; try (exfalso; omega)))
 | (apply s_len; (focus ((conv => lhs; whnf); done)); (first | assumption | (apply IsLL.at; assumption; omega)))
 | (apply s_lenLL; (focus ((conv => lhs; whnf); done)); assumption)
 | (apply s_pd; (focus ((conv => lhs; whnf); done)))
 | (apply c_seq)
 | (apply c_reg)
 | (apply c_block)
 | (apply c_skip)
 | (apply c_ret)
 | (apply c_condT; exact rfl)
 | (apply c_condF; exact rfl)
 | (with_reducible apply k_c)
  any_goals (refine fin_t (by (conv => lhs; whnf)) (by rfl) (leafF fun h => ?_); obtain ⟨h1, h2, h3, -⟩ := h; omega)
  · refine c_loop ?_
    have hrow := getLL_lt ha.2 (by omega)
    refine loop_gc (σ := Nat) (fun i => [.ptr 0 0, .int .i64 a.owner.length, .int .i64 i]) (fun _ => [some (.box [xo, xr, xn])]) (fun i => i ≤ a.next.length ∧ ∀ j : Nat, j < i → okAt a j) (fun i => a.next.length - i) ?_ _ 0 _ _ ⟨by omega, by omega⟩ (by omega) (by simp [go_sem, fo, fr, fn]; done)
    intro i ⟨hi, hb⟩ K hK
    have el : (a.owner.length : Int) = a.next.length := by omega
    repeat' first
 | (apply s_mov; (focus ((conv => lhs; whnf); done)))
 | (apply s_gT; exact rfl)
 | (apply s_gF; exact rfl)
 | (apply s_gFD; exact rfl)
 | (apply c_nil)
 | (apply s_pickT; exact rfl; (focus ((conv => lhs; whnf); done)))
 | (apply s_pickF; exact rfl; (focus ((conv => lhs; whnf); done)))
 | (apply s_notT; exact rfl)
 | (apply s_notF; exact rfl)
 | ((first | apply s_lss | apply s_leq | apply s_gtr | apply s_geq | apply s_eql | apply s_neq); exact rfl; all_goals (intro _; try (exfalso; omega)))
 | ((first | apply s_add | apply s_sub); exact rfl; omega)
 | (apply isE; refine s_cB (by (focus (repeat (first | apply opds_nil | (apply opds_cons; (first | (focus ((conv => lhs; whnf); done)) | exact rfl)))))) (c22 (by first | assumption | exact IsLL.at (by assumption) (by omega)) (by omega) (hrow _) (by omega) _) (fun _ => ?_) (fun _ => ?_))
 | (apply s_len; (focus ((conv => lhs; whnf); done)); (first | assumption | (apply IsLL.at; assumption; omega)))
 | (apply s_idx; (focus ((conv => lhs; whnf); done)); exact rfl; (first | assumption | (apply IsLL.at; assumption; omega)); omega)
 | (apply s_idxLL; (focus ((conv => lhs; whnf); done)); exact rfl; assumption; omega)
 | (apply s_ldI; exact rfl; omega)
 | (apply s_ldLL; exact rfl; assumption; omega)
 | (apply s_pd; (focus ((conv => lhs; whnf); done)))
 | (apply c_seq)
 | (apply c_reg)
 | (apply c_block)
 | (apply c_exitH)
 | (apply c_skip)
 | (apply c_ret)
 | (apply c_condT; exact rfl)
 | (apply c_condF; exact rfl)
 | (apply c_preF; (focus (repeat (first | apply looks_nil | (apply looks_cons; (focus ((conv => lhs; whnf); done)))))); (focus (simp [idFreeL, AV.idFree, *]; done)))
 | (with_reducible apply k_c)
    all_goals first
      | (refine hK (i + 1) _ _ ⟨by omega, fun j hj => ?_⟩ (by omega) (by simp [go_sem, fo, fr, fn]; done)
         rcases (by omega : j < i ∨ j = i) with h | rfl
         · exact hb j h
         · refine ⟨by omega, by omega, fun h => ?_, by rw [← el]; assumption⟩
           have := congrArg List.length h
           simp only [List.length_nil] at this
           omega)
      | (refine fin_t (by (conv => lhs; whnf)) (by rfl) (leafF fun h => ?_)
         have h' := h.2.2.2 i (by omega)
         first
         | (have := h'.1; omega)
         | (have := h'.2.1; omega)
         | exact absurd h'.2.2.2 (by rw [← el]; assumption)
         | exact h'.2.2.1 (List.eq_nil_of_length_eq_zero (by omega)))
      | exact fin_t (by (conv => lhs; whnf)) (by rfl) (leafT ⟨by omega, by omega, by omega, fun j hj => hb j (by omega)⟩)
theorem c21 {x : AV} {a : Gm} (hx : IsG x a) (ha : a.owner.length < 100 ∧ ∀ l ∈ a.next, l.length < 100) {m : Nat} (hm : 103 ≤ m) (H : Heap) : callPure (evF tab it m) true 21 [x] H = some (.bool (decide (Good a)), H) :=
  callPure_free (by simp [idFreeL, hx.free]) (by simp) (f21 hx ha m hm) rfl
end Go.AM.Pa
