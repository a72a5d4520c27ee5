/- A part of the proof: S36. -/
import Derived.Test.YtbjkmejlecoebaaS35
import Derived.Test.YtbjkmejlecoebaaS20
set_option linter.unusedSectionVars false
set_option linter.unusedVariables false
set_option linter.unusedSimpArgs false
namespace Go.AM.Pr
attribute [local go_sem] gc subHeap reach_skip ren_free reach_new reach_newp reach_end rangeL roots boxCells nodupB posOf renL AV.ren pickO renH renO looks look bindEnv envOf reach_int reach_bool reach_nilS reach_rd putRow cells_sl cells_int cells_bool cells_nilS cells_rd cells_agg reach_agg reach_tup idFreeL idf_sl idf_ptr idf_int idf_bool idf_nilS idf_rd reach_fn reach_mp cells_fn cells_ptr cells_mp idf_mp idf_fn idf_agg idf_tup
open Go.AM.Num
set_option maxHeartbeats 4000000
theorem p_fldE1 {H : Heap} {l : List En} {i : Nat} : evP H (.fldA 1) [.rp ((pcE l).drop (i * 3))] = some (.rp ((pcE l).drop (i * 3 + 1))) := by simp [evP, fldAt]
theorem p_fldE2 {H : Heap} {l : List En} {i : Nat} : evP H (.fldA 2) [.rp ((pcE l).drop (i * 3))] = some (.rp ((pcE l).drop (i * 3 + 2))) := by simp [evP, fldAt]
theorem p_ldE1 {H : Heap} {l : List En} {i : Nat} (hi : i < l.length) : evP H (.ld false 1) [.rp ((pcE l).drop (i * 3 + 1))] = some (.int .i64 (ge l i).w) := by
  obtain ⟨r, hr⟩ := pcE_at hi
  have : (pcE l).drop (i * 3 + 1) = .int .i64 (ge l i).w :: (ge l i).fv :: r := by rw [← List.drop_drop, hr]; rfl
  rw [this]
  simp [evP, ldc, wholeOf]
theorem p_ldE2 {H : Heap} {l : List En} {i : Nat} (hi : i < l.length) : evP H (.ld false 1) [.rp ((pcE l).drop (i * 3 + 2))] = some (ge l i).fv := by
  obtain ⟨r, hr⟩ := pcE_at hi
  have : (pcE l).drop (i * 3 + 2) = (ge l i).fv :: r := by rw [← List.drop_drop, hr]; rfl
  rw [this]
  simp [evP, ldc, wholeOf]
/-- equal: a verdict and itself -/
theorem f40 {d : Int} {pv : AV} {l : List En} (hv : IsP pv l) (hs : l.length ≤ 60) (hfl : ∀ e ∈ l, e.f.length < 100) {m : Nat} (hm : 200 ≤ m) : evF tab it m 40 [.agg [.int .i64 d, pv], .agg [.int .i64 d, pv]] [] = some (.bool true, []) := by
  obtain ⟨m, rfl⟩ : ∃ j, m = j + 1 := ⟨m - 1, by omega⟩
  have fv := hv.free
  have le := fun H => p_lenE (H := H) hv
  have ie := fun H i h => p_idxE (H := H) hv (i := i) h
  have e27 := fun {x : AV} {a : List Int} (hx : IsL x a) (ha : a.length < 100) H => c27 hx hx ha (m := m) (by omega) H
  refine f_enter rfl rfl ?_
  generalize evF tab it m = call at *
  have fo : pv.one = true := by obtain ⟨_, ⟨rfl, _⟩ | rfl⟩ := hv <;> rfl
  have o1 : ∀ x : Int, (AV.int .i64 x).one = true := fun _ => rfl
  have oa : evE call [] (.box false) [.agg [.int .i64 d, pv]] = some (.ptr 0 0, [some (.box [.int .i64 d, pv])]) := by
    simp [evE, cells_agg, oneL, o1, fo, mkHO]
  have ob : evE call [some (.box [.int .i64 d, pv])] (.box false) [.agg [.int .i64 d, pv]] = some (.ptr 1 0, [some (.box [.int .i64 d, pv]), some (.box [.int .i64 d, pv])]) := by
    simp [evE, cells_agg, oneL, o1, fo, mkHO]
  have d0 : ∀ i H, evP H (.fldA 0) [.ptr i 0] = some (.ptr i 0) := fun _ _ => rfl
  have d1 : ∀ i H, evP H (.fldA 1) [.ptr i 0] = some (.ptr i 1) := fun _ _ => rfl
  have l0 : evP [some (.box [.int .i64 d, pv]), some (.box [.int .i64 d, pv])] (.ld false 1) [.ptr 0 0] = some (.int .i64 d) := rfl
  have l0' : evP [some (.box [.int .i64 d, pv]), some (.box [.int .i64 d, pv])] (.ld false 1) [.ptr 1 0] = some (.int .i64 d) := rfl
  have l1 : evP [some (.box [.int .i64 d, pv]), some (.box [.int .i64 d, pv])] (.ld false 1) [.ptr 0 1] = some pv := rfl
  have l1' : evP [some (.box [.int .i64 d, pv]), some (.box [.int .i64 d, pv])] (.ld false 1) [.ptr 1 1] = some pv := rfl
  have gcX : ∀ a : Int, gc 0 [.ptr 0 0, .ptr 1 0, .int .i64 a] [some (.box [.int .i64 d, pv]), some (.box [.int .i64 d, pv])] = some ([.ptr 0 0, .ptr 1 0, .int .i64 a], [some (.box [.int .i64 d, pv]), some (.box [.int .i64 d, pv])]) := fun a => by simp [go_sem, fv]
  repeat' first
 | (apply s_mov; (focus ((conv => lhs; whnf); done)))
 | (apply s_gT; exact rfl)
 | (apply c_nil)
 | (apply s_pickF; exact rfl; (focus ((conv => lhs; whnf); done)))
 | ((first | apply s_lss | apply s_leq | apply s_gtr | apply s_geq | apply s_eql | apply s_neq); exact rfl; all_goals (intro _; try (exfalso; omega)))
 | (apply s_en; (focus (repeat (first | apply opds_nil | (apply opds_cons; (first | (focus ((conv => lhs; whnf); done)) | exact rfl))))); exact oa)
 | (apply s_en; (focus (repeat (first | apply opds_nil | (apply opds_cons; (first | (focus ((conv => lhs; whnf); done)) | exact rfl))))); exact ob)
 | (apply s_pn; (focus (repeat (first | apply opds_nil | (apply opds_cons; (first | (focus ((conv => lhs; whnf); done)) | exact rfl))))); exact d0 _ _)
 | (apply s_pn; (focus (repeat (first | apply opds_nil | (apply opds_cons; (first | (focus ((conv => lhs; whnf); done)) | exact rfl))))); exact d1 _ _)
 | (apply s_pn; (focus (repeat (first | apply opds_nil | (apply opds_cons; (first | (focus ((conv => lhs; whnf); done)) | exact rfl))))); exact l0)
 | (apply s_pn; (focus (repeat (first | apply opds_nil | (apply opds_cons; (first | (focus ((conv => lhs; whnf); done)) | exact rfl))))); exact l1)
 | (apply s_pn; (focus (repeat (first | apply opds_nil | (apply opds_cons; (first | (focus ((conv => lhs; whnf); done)) | exact rfl))))); exact le _)
 | (apply c_seq)
 | (apply c_reg)
 | (apply c_block)
 | (apply c_skip)
 | (apply c_condF; exact rfl)
 | (with_reducible apply k_c)
  refine c_loop ?_
  refine loop_gc (σ := Nat) (fun i => [.ptr 0 0, .ptr 1 0, .int .i64 (i : Int)]) (fun _ => [some (.box [.int .i64 d, pv]), some (.box [.int .i64 d, pv])]) (fun i => i ≤ l.length) (fun i => l.length - i) ?_ _ 0 _ _ (by omega) (by omega) (gcX _)
  intro i hi K hK
  by_cases hil : i < l.length
  · have hmem := ge_mem hil
    have hfe := hv.1 _ hmem
    have i1 := ie [some (.box [.int .i64 d, pv]), some (.box [.int .i64 d, pv])] i hil
    have k0 := p_ldE0 (H := [some (.box [.int .i64 d, pv]), some (.box [.int .i64 d, pv])]) hil
    have k1 := p_ldE1 (H := [some (.box [.int .i64 d, pv]), some (.box [.int .i64 d, pv])]) hil
    have k2 := p_ldE2 (H := [some (.box [.int .i64 d, pv]), some (.box [.int .i64 d, pv])]) hil
    have q27 := e27 hfe (hfl _ hmem) [some (.box [.int .i64 d, pv]), some (.box [.int .i64 d, pv])]
    simp only [decide_true] at q27
    generalize (ge l i).fv = efv at *
    generalize (ge l i).p = ep at *
    generalize (ge l i).w = ew at *
    repeat' first
 | (apply s_mov; (focus ((conv => lhs; whnf); done)))
 | (apply s_gT; exact rfl)
 | (apply c_nil)
 | (apply s_pickF; exact rfl; (focus ((conv => lhs; whnf); done)))
 | (apply s_notT; exact rfl)
 | ((first | apply s_lss | apply s_leq | apply s_gtr | apply s_geq | apply s_eql | apply s_neq); exact rfl; all_goals (intro _; try (exfalso; omega)))
 | ((first | apply s_add | apply s_sub); exact rfl; omega)
 | (apply s_pn; (focus (repeat (first | apply opds_nil | (apply opds_cons; (first | (focus ((conv => lhs; whnf); done)) | exact rfl))))); exact d1 _ _)
 | (apply s_pn; (focus (repeat (first | apply opds_nil | (apply opds_cons; (first | (focus ((conv => lhs; whnf); done)) | exact rfl))))); exact l1)
 | (apply s_pn; (focus (repeat (first | apply opds_nil | (apply opds_cons; (first | (focus ((conv => lhs; whnf); done)) | exact rfl))))); exact le _)
 | (apply s_pn; (focus (repeat (first | apply opds_nil | (apply opds_cons; (first | (focus ((conv => lhs; whnf); done)) | exact rfl))))); exact i1)
 | (apply s_pn; (focus (repeat (first | apply opds_nil | (apply opds_cons; (first | (focus ((conv => lhs; whnf); done)) | exact rfl))))); exact p_fldE0)
 | (apply s_pn; (focus (repeat (first | apply opds_nil | (apply opds_cons; (first | (focus ((conv => lhs; whnf); done)) | exact rfl))))); exact p_fldE1)
 | (apply s_pn; (focus (repeat (first | apply opds_nil | (apply opds_cons; (first | (focus ((conv => lhs; whnf); done)) | exact rfl))))); exact p_fldE2)
 | (apply s_pn; (focus (repeat (first | apply opds_nil | (apply opds_cons; (first | (focus ((conv => lhs; whnf); done)) | exact rfl))))); exact k0)
 | (apply s_pn; (focus (repeat (first | apply opds_nil | (apply opds_cons; (first | (focus ((conv => lhs; whnf); done)) | exact rfl))))); exact k1)
 | (apply s_pn; (focus (repeat (first | apply opds_nil | (apply opds_cons; (first | (focus ((conv => lhs; whnf); done)) | exact rfl))))); exact k2)
 | (apply s_cn; (focus (repeat (first | apply opds_nil | (apply opds_cons; (first | (focus ((conv => lhs; whnf); done)) | exact rfl))))); exact q27)
 | (apply c_seq)
 | (apply c_reg)
 | (apply c_block)
 | (apply c_skip)
 | (apply c_condT; exact rfl)
 | (apply c_condF; exact rfl)
 | (with_reducible apply k_c)
    all_goals exact hK (i + 1) _ _ (by omega) (by omega) (gcX _)
  · obtain rfl : l.length = i := by omega
    repeat' first
 | (apply s_mov; (focus ((conv => lhs; whnf); done)))
 | (apply c_nil)
 | ((first | apply s_lss | apply s_leq | apply s_gtr | apply s_geq | apply s_eql | apply s_neq); exact rfl; all_goals (intro _; try (exfalso; omega)))
 | (apply s_pn; (focus (repeat (first | apply opds_nil | (apply opds_cons; (first | (focus ((conv => lhs; whnf); done)) | exact rfl))))); exact d1 _ _)
 | (apply s_pn; (focus (repeat (first | apply opds_nil | (apply opds_cons; (first | (focus ((conv => lhs; whnf); done)) | exact rfl))))); exact l1)
 | (apply s_pn; (focus (repeat (first | apply opds_nil | (apply opds_cons; (first | (focus ((conv => lhs; whnf); done)) | exact rfl))))); exact le _)
 | (apply c_seq)
 | (apply c_reg)
 | (apply c_exitH)
 | (apply c_ret)
 | (apply c_condF; exact rfl)
 | (apply c_preF; (focus (repeat (first | apply looks_nil | (apply looks_cons; (focus ((conv => lhs; whnf); done)))))); (focus (simp [idFreeL, AV.idFree, *]; done)))
 | (with_reducible apply k_c)
    exact fin_t (by (conv => lhs; whnf)) (by rfl) rfl
theorem c40 {d : Int} {pv : AV} {l : List En} (hv : IsP pv l) (hs : l.length ≤ 60) (hfl : ∀ e ∈ l, e.f.length < 100) {m : Nat} (hm : 200 ≤ m) (H : Heap) : callPure (evF tab it m) true 40 [.agg [.int .i64 d, pv], .agg [.int .i64 d, pv]] H = some (.bool true, H) :=
  callPure_free (by simp [idFreeL, AV.idFree, hv.free]) (by simp) (f40 hv hs hfl hm) rfl
end Go.AM.Pr
