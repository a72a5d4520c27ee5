/- A part of the proof: S37. -/
import Derived.Test.YtbjkmejlecoebaaS36
set_option linter.unusedSectionVars false
set_option linter.unusedVariables false
set_option linter.unusedSimpArgs false
namespace Go.AM.Pr
attribute [local go_sem] gc subHeap reach_skip ren_free reach_new reach_newp reach_end rangeL roots boxCells nodupB posOf renL AV.ren pickO renH renO looks look bindEnv envOf reach_int reach_bool reach_nilS reach_rd putRow cells_sl cells_int cells_bool cells_nilS cells_rd cells_agg reach_agg reach_tup idFreeL idf_sl idf_ptr idf_int idf_bool idf_nilS idf_rd reach_fn reach_mp cells_fn cells_ptr cells_mp idf_mp idf_fn idf_agg idf_tup
open Go.AM.Num
set_option maxHeartbeats 4000000
def cpE (e : En) : En := ⟨e.p, e.w, fzL (e.f.take 20), e.f.take 20⟩
def cpl (l : List En) : List En := l.map cpE
def ownH (d : Int) (pv : AV) (C : List AV) : Nat → Heap
  | 0 => [some (.box [.int .i64 d, pv]), some (.box [.int .i64 0, .nilS]), some (.box [.int .i64 d, .nilS])]
  | n + 1 => [some (.box [.int .i64 d, pv]), some (.box [.int .i64 0, .nilS]), some (.box [.int .i64 d, .sl 3 3 0 (n + 1)]), some (.data C)]
theorem e_stB {call : CallF} {H : Heap} {id off : Nat} {c : List AV} {v : AV} (hH : H[id]? = some (some (.box c))) (h1 : v.cells = [v]) (h3 : v.one = true) (ho : off + 1 ≤ c.length) : evE call H (.st 1) [.ptr id off, v] = some (.undef, H.set id (some (.box (putRow c off [v])))) := by
  simp [evE, stAt, hH, h1, oneL, h3, ho]
theorem e_stA {call : CallF} {H : Heap} {id n : Nat} {c vs : List AV} (hH : H[id]? = some (some (.box c))) (h1 : (AV.agg vs).cells = vs) (h2 : vs.length = n) (h3 : oneL vs = true) (h4 : c.length = n) : evE call H (.st n) [.ptr id 0, .agg vs] = some (.undef, H.set id (some (.box vs))) := by
  subst h2
  simp [evE, stAt, hH, h1, h3, h4, putRow, List.drop_of_length_le]
theorem e_bldE {call : CallF} {H : Heap} {p w : Int} {v : AV} (hv : v.idFree = true) (h1 : v.one = true) (h2 : v.cells = [v]) : evE call H (.bldS true true 3 1 [.int .i64 0, .int .i64 0, .nilS] [(0, 3)]) [.agg [.int .i64 p, .int .i64 w, v]] = some (.rd 3 1 [.int .i64 p, .int .i64 w, v], H) := by
  simp [evE, go_sem, hv, h1, h2, oneL, fillParts, repl, newRow, AV.one, AV.solid, putPart]
  cases v <;> simp_all [AV.one]
theorem p_mn20 {H : Heap} {n : Nat} {k : Nat} (h : k = min n 20) : evP H .mn [.int .i64 (n : Int), .int .i64 20] = some (.int .i64 (k : Int)) := by
  subst h
  simp only [evP, mnOf]
  split
  · rename_i h; congr 2; omega
  · rename_i h; congr 2; omega
theorem p_bldW {H : Heap} {a b : Int} : evP H (.bld [.int .i64 0, .int .i64 0, .nilS] [(0, 1), (1, 1)]) [.int .i64 a, .int .i64 b] = some (.agg [.int .i64 a, .int .i64 b, .nilS]) := rfl
theorem isL_one {x : AV} {l : List Int} (h : IsL x l) : x.one = true ∧ x.cells = [x] := by
  cases h <;> exact ⟨rfl, rfl⟩
theorem cpl_take (l : List En) {i : Nat} (h : i < l.length) : cpl (l.take (i + 1)) = cpl (l.take i) ++ [cpE (ge l i)] := by
  rw [List.take_add_one, ge_lt h]
  simp only [cpl, List.getElem?_eq_getElem h, Option.toList_some, List.map_append, List.map_cons, List.map_nil]
theorem cpl_len (l : List En) (i : Nat) : (cpl (l.take i)).length = min i l.length := by simp [cpl]
theorem fin_cellA {p n : Nat} {a v v' : AV} {env : Env} {H H' : Heap} (h : look env p = a) (hl : evP H (.ld true n) [a] = some v) (hg : gc 0 [v] H = some ([v'], H')) : finish 0 [.cell p true n] env H = some (v', H') := by
  simp only [evP] at hl
  simp [finish, ress, resOf, h, hl, tupOf, hg]
theorem f39 {d : Int} {pv : AV} {l : List En} (hv : IsP pv l) {m : Nat} (hm : 100 ≤ m) : evF tab it m 39 [.agg [.int .i64 d, pv]] [] = some (match min l.length 60 with
    | 0 => (.agg [.int .i64 d, .nilS], [])
    | n + 1 => (.agg [.int .i64 d, .sl 0 3 0 (n + 1)], [some (.data (pcE (cpl (l.take 60))))])) := by
  obtain ⟨m, rfl⟩ : ∃ j, m = j + 1 := ⟨m - 1, by omega⟩
  have fv := hv.free
  have le := fun H => p_lenE (H := H) hv
  have ie := fun H i h => p_idxE (H := H) hv (i := i) h
  refine f_enter rfl rfl ?_
  generalize evF tab it m = call at *
  have fo : pv.one = true := by obtain ⟨_, ⟨rfl, _⟩ | rfl⟩ := hv <;> rfl
  have o1 : ∀ x : Int, (AV.int .i64 x).one = true := fun _ => rfl
  have oa : evE call [] (.box false) [.agg [.int .i64 d, pv]] = some (.ptr 0 0, [some (.box [.int .i64 d, pv])]) := by
    simp [evE, cells_agg, oneL, o1, fo, mkHO]
  have gcX : ∀ (i : Nat) C, gc 0 [.ptr 0 0, .ptr 1 0, .ptr 2 0, .int .i64 (i : Int)] (ownH d pv C i) = some ([.ptr 0 0, .ptr 1 0, .ptr 2 0, .int .i64 (i : Int)], ownH d pv C i) := by
    intro i C
    cases i <;> simp [go_sem, fv, ownH]
  repeat' first
 | (apply s_mov; (focus ((conv => lhs; whnf); done)))
 | (apply c_nil)
 | (apply s_en; (focus (repeat (first | apply opds_nil | (apply opds_cons; (first | (focus ((conv => lhs; whnf); done)) | exact rfl))))); exact oa)
 | (apply s_st; (focus (repeat (first | apply opds_nil | (apply opds_cons; (first | (focus ((conv => lhs; whnf); done)) | exact rfl))))); exact e_stA rfl rfl rfl rfl rfl)
 | (apply isE; apply s_ed; (focus ((conv => lhs; whnf); done)))
 | (apply s_pd; (focus ((conv => lhs; whnf); done)))
 | (apply c_seq)
 | (apply c_reg)
 | (apply c_block)
 | (with_reducible apply k_c)
  refine c_loop ?_
  refine loop_gc (σ := Nat) (fun i => [.ptr 0 0, .ptr 1 0, .ptr 2 0, .int .i64 (i : Int)]) (fun i => ownH d pv (pcE (cpl (l.take i))) i) (fun i => i ≤ min l.length 60) (fun i => 60 - i) ?_ _ 0 _ _ (by omega) (by omega) (gcX 0 _)
  intro i hi K hK
  by_cases hil : i < min l.length 60
  · have hi2 : i < l.length := by omega
    have hmem := ge_mem hi2
    have hfe := hv.1 _ hmem
    have i1 := fun H => ie H i hi2
    have k0 := fun H => p_ldE0 (H := H) hi2
    have k1 := fun H => p_ldE1 (H := H) hi2
    have k2 := fun H => p_ldE2 (H := H) hi2
    have m1 := fun H => p_mn20 (H := H) (n := (ge l i).f.length) rfl
    have s1 := fun H => p_slc0 (H := H) (q := .i64) (h := ((min (ge l i).f.length 20 : Nat) : Int)) hfe ⟨by omega, by omega⟩
    have j1 := isL_tk (h := ((min (ge l i).f.length 20 : Nat) : Int)) hfe ⟨by omega, by omega⟩
    have ht : (ge l i).f.take ((min (ge l i).f.length 20 : Nat) : Int).toNat = (ge l i).f.take 20 := by
      rw [Int.toNat_natCast]
      rcases Nat.le_total (ge l i).f.length 20 with h | h
      · rw [Nat.min_eq_left h, List.take_of_length_le (by omega), List.take_of_length_le h]
      · rw [Nat.min_eq_right h]
    rw [ht] at j1
    have hlen : ((ge l i).f.take 20).length ≤ most := by unfold most; simp; omega
    have a1 := fun call H => e_appT (call := call) (H := H) j1 hlen
    have hz := (isL_fz ((ge l i).f.take 20))
    obtain ⟨z1, z2⟩ := isL_one hz
    have z3 := hz.free
    have hnx := cpl_take l hi2
    have hpc : pcE (cpl (l.take (i + 1))) = pcE (cpl (l.take i)) ++ [.int .i64 (ge l i).p, .int .i64 (ge l i).w, fzL ((ge l i).f.take 20)] := by
      rw [hnx, pcE_app]; rfl
    have hln := pcE_len (cpl (l.take i))
    rw [cpl_len, Nat.min_eq_left (by omega)] at hln
    have hgc := gcX (i + 1) (pcE (cpl (l.take (i + 1))))
    rw [hpc] at hgc
    generalize fzL ((ge l i).f.take 20) = fz at *
    generalize tkL (ge l i).fv ((min (ge l i).f.length 20 : Nat) : Int) = tk at *
    generalize (ge l i).fv = efv at *
    generalize (ge l i).p = ep at *
    generalize (ge l i).w = ew at *
    generalize min (ge l i).f.length 20 = mn at *
    have hlf := hfe
    generalize (ge l i).f = lf at *
    have hK1 := hK (i + 1)
    rw [hpc] at hK1
    generalize pcE (cpl (l.take i)) = C at *
    have hgc2 := gcX (i + 1) (C ++ [.int .i64 ep, .int .i64 ew, fz])
    cases i with
    | zero =>
      obtain rfl : C = [] := List.eq_nil_of_length_eq_zero (by omega)
      simp only [ownH] at *
      repeat' first
 | (apply s_mov; (focus ((conv => lhs; whnf); done)))
 | (apply s_gT; exact rfl)
 | (apply c_nil)
 | (apply s_pickT; exact rfl; (focus ((conv => lhs; whnf); done)))
 | ((first | apply s_lss | apply s_leq | apply s_gtr | apply s_geq | apply s_eql | apply s_neq); exact rfl; all_goals (intro _; try (exfalso; omega)))
 | ((first | apply s_add | apply s_sub); exact rfl; omega)
 | (apply s_pn; (focus (repeat (first | apply opds_nil | (apply opds_cons; (first | (focus ((conv => lhs; whnf); done)) | exact rfl))))); exact p_bldW)
 | (apply s_pn; (focus (repeat (first | apply opds_nil | (apply opds_cons; (first | (focus ((conv => lhs; whnf); done)) | exact rfl))))); exact le _)
 | (apply s_pn; (focus (repeat (first | apply opds_nil | (apply opds_cons; (first | (focus ((conv => lhs; whnf); done)) | exact rfl))))); exact i1 _)
 | (apply s_pn; (focus (repeat (first | apply opds_nil | (apply opds_cons; (first | (focus ((conv => lhs; whnf); done)) | exact rfl))))); exact p_fldE0)
 | (apply s_pn; (focus (repeat (first | apply opds_nil | (apply opds_cons; (first | (focus ((conv => lhs; whnf); done)) | exact rfl))))); exact p_fldE1)
 | (apply s_pn; (focus (repeat (first | apply opds_nil | (apply opds_cons; (first | (focus ((conv => lhs; whnf); done)) | exact rfl))))); exact p_fldE2)
 | (apply s_pn; (focus (repeat (first | apply opds_nil | (apply opds_cons; (first | (focus ((conv => lhs; whnf); done)) | exact rfl))))); exact k0 _)
 | (apply s_pn; (focus (repeat (first | apply opds_nil | (apply opds_cons; (first | (focus ((conv => lhs; whnf); done)) | exact rfl))))); exact k1 _)
 | (apply s_pn; (focus (repeat (first | apply opds_nil | (apply opds_cons; (first | (focus ((conv => lhs; whnf); done)) | exact rfl))))); exact k2 _)
 | (apply s_len; exact rfl; exact hlf)
 | (apply s_pn; (focus (repeat (first | apply opds_nil | (apply opds_cons; (first | (focus ((conv => lhs; whnf); done)) | exact rfl))))); exact m1 _)
 | (apply s_pn; (focus (repeat (first | apply opds_nil | (apply opds_cons; (first | (focus ((conv => lhs; whnf); done)) | exact rfl))))); exact s1 _)
 | (apply s_en; (focus (repeat (first | apply opds_nil | (apply opds_cons; (first | (focus ((conv => lhs; whnf); done)) | exact rfl))))); exact a1 _ _)
 | (apply s_st; (focus (repeat (first | apply opds_nil | (apply opds_cons; (first | (focus ((conv => lhs; whnf); done)) | exact rfl))))); exact e_stA rfl rfl rfl rfl rfl)
 | (apply s_st; (focus (repeat (first | apply opds_nil | (apply opds_cons; (first | (focus ((conv => lhs; whnf); done)) | exact rfl))))); exact e_stB rfl z2 z1 (Nat.le_of_ble_eq_true rfl))
 | (apply s_en; (focus (repeat (first | apply opds_nil | (apply opds_cons; (first | (focus ((conv => lhs; whnf); done)) | exact rfl))))); exact e_bldE z3 z1 z2)
 | (apply s_en; (focus (repeat (first | apply opds_nil | (apply opds_cons; (first | (focus ((conv => lhs; whnf); done)) | exact rfl))))); exact e_appz_nil (by omega) (by decide))
 | (apply s_st; (focus (repeat (first | apply opds_nil | (apply opds_cons; (first | (focus ((conv => lhs; whnf); done)) | exact rfl))))); exact e_stB rfl rfl rfl (Nat.le_of_ble_eq_true rfl))
 | (apply isE; apply s_ed; (focus ((conv => lhs; whnf); done)))
 | (apply s_pd; (focus ((conv => lhs; whnf); done)))
 | (apply c_seq)
 | (apply c_reg)
 | (apply c_block)
 | (apply c_skip)
 | (apply c_condT; exact rfl)
 | (with_reducible apply k_c)
      all_goals refine hK1 _ _ (by omega) (by omega) ?_
      simp only [looks, look, bindEnv, envOf, beq_self_eq_true, if_true, ite_false, Nat.reduceBEq, Bool.false_eq_true]
      simp [go_sem, fv, z3]
    | succ k =>
      simp only [ownH] at *
      repeat' first
 | (apply s_mov; (focus ((conv => lhs; whnf); done)))
 | (apply s_gT; exact rfl)
 | (apply c_nil)
 | (apply s_pickT; exact rfl; (focus ((conv => lhs; whnf); done)))
 | ((first | apply s_lss | apply s_leq | apply s_gtr | apply s_geq | apply s_eql | apply s_neq); exact rfl; all_goals (intro _; try (exfalso; omega)))
 | ((first | apply s_add | apply s_sub); exact rfl; omega)
 | (apply s_pn; (focus (repeat (first | apply opds_nil | (apply opds_cons; (first | (focus ((conv => lhs; whnf); done)) | exact rfl))))); exact p_bldW)
 | (apply s_pn; (focus (repeat (first | apply opds_nil | (apply opds_cons; (first | (focus ((conv => lhs; whnf); done)) | exact rfl))))); exact le _)
 | (apply s_pn; (focus (repeat (first | apply opds_nil | (apply opds_cons; (first | (focus ((conv => lhs; whnf); done)) | exact rfl))))); exact i1 _)
 | (apply s_pn; (focus (repeat (first | apply opds_nil | (apply opds_cons; (first | (focus ((conv => lhs; whnf); done)) | exact rfl))))); exact p_fldE0)
 | (apply s_pn; (focus (repeat (first | apply opds_nil | (apply opds_cons; (first | (focus ((conv => lhs; whnf); done)) | exact rfl))))); exact p_fldE1)
 | (apply s_pn; (focus (repeat (first | apply opds_nil | (apply opds_cons; (first | (focus ((conv => lhs; whnf); done)) | exact rfl))))); exact p_fldE2)
 | (apply s_pn; (focus (repeat (first | apply opds_nil | (apply opds_cons; (first | (focus ((conv => lhs; whnf); done)) | exact rfl))))); exact k0 _)
 | (apply s_pn; (focus (repeat (first | apply opds_nil | (apply opds_cons; (first | (focus ((conv => lhs; whnf); done)) | exact rfl))))); exact k1 _)
 | (apply s_pn; (focus (repeat (first | apply opds_nil | (apply opds_cons; (first | (focus ((conv => lhs; whnf); done)) | exact rfl))))); exact k2 _)
 | (apply s_len; exact rfl; exact hlf)
 | (apply s_pn; (focus (repeat (first | apply opds_nil | (apply opds_cons; (first | (focus ((conv => lhs; whnf); done)) | exact rfl))))); exact m1 _)
 | (apply s_pn; (focus (repeat (first | apply opds_nil | (apply opds_cons; (first | (focus ((conv => lhs; whnf); done)) | exact rfl))))); exact s1 _)
 | (apply s_en; (focus (repeat (first | apply opds_nil | (apply opds_cons; (first | (focus ((conv => lhs; whnf); done)) | exact rfl))))); exact a1 _ _)
 | (apply s_st; (focus (repeat (first | apply opds_nil | (apply opds_cons; (first | (focus ((conv => lhs; whnf); done)) | exact rfl))))); exact e_stA rfl rfl rfl rfl rfl)
 | (apply s_st; (focus (repeat (first | apply opds_nil | (apply opds_cons; (first | (focus ((conv => lhs; whnf); done)) | exact rfl))))); exact e_stB rfl z2 z1 (Nat.le_of_ble_eq_true rfl))
 | (apply s_en; (focus (repeat (first | apply opds_nil | (apply opds_cons; (first | (focus ((conv => lhs; whnf); done)) | exact rfl))))); exact e_bldE z3 z1 z2)
 | (apply s_en; (focus (repeat (first | apply opds_nil | (apply opds_cons; (first | (focus ((conv => lhs; whnf); done)) | exact rfl))))); exact e_appz_sl rfl hln (by omega) (by unfold most; omega))
 | (apply s_st; (focus (repeat (first | apply opds_nil | (apply opds_cons; (first | (focus ((conv => lhs; whnf); done)) | exact rfl))))); exact e_stB rfl rfl rfl (Nat.le_of_ble_eq_true rfl))
 | (apply isE; apply s_ed; (focus ((conv => lhs; whnf); done)))
 | (apply s_pd; (focus ((conv => lhs; whnf); done)))
 | (apply c_seq)
 | (apply c_reg)
 | (apply c_block)
 | (apply c_skip)
 | (apply c_condT; exact rfl)
 | (with_reducible apply k_c)
      all_goals refine hK1 _ _ (by omega) (by omega) ?_
      simp only [looks, look, bindEnv, envOf, beq_self_eq_true, if_true, ite_false, Nat.reduceBEq, Bool.false_eq_true]
      simp [go_sem, fv, z3]
  · obtain rfl : i = min l.length 60 := by omega
    have hc : l.take (min l.length 60) = l.take 60 := by
      rcases Nat.le_total l.length 60 with h | h
      · rw [Nat.min_eq_left h, List.take_of_length_le (Nat.le_refl _), List.take_of_length_le h]
      · rw [Nat.min_eq_right h]
    rw [hc]
    generalize hC : pcE (cpl (l.take 60)) = C at *
    cases hq : min l.length 60 with
    | zero =>
      rw [hq] at hil
      obtain hl0 : l.length = 0 := by omega
      rw [hl0] at le
      simp only [ownH] at *
      repeat' first
 | (apply s_mov; (focus ((conv => lhs; whnf); done)))
 | (apply s_gF; exact rfl)
 | (apply c_nil)
 | (apply s_pickF; exact rfl; (focus ((conv => lhs; whnf); done)))
 | ((first | apply s_lss | apply s_leq | apply s_gtr | apply s_geq | apply s_eql | apply s_neq); exact rfl; all_goals (intro _; try (exfalso; omega)))
 | (apply s_pn; (focus (repeat (first | apply opds_nil | (apply opds_cons; (first | (focus ((conv => lhs; whnf); done)) | exact rfl))))); exact le _)
 | (apply s_pd; (focus ((conv => lhs; whnf); done)))
 | (apply c_seq)
 | (apply c_reg)
 | (apply c_exitH)
 | (apply c_condF; exact rfl)
 | (with_reducible apply k_c)
      all_goals apply c_pre (vs := [.ptr 0 0, .ptr 1 0]) (H' := [some (.box [.int .i64 0, .nilS]), some (.box [.int .i64 d, .nilS])])
      all_goals first | (simp [go_sem, fv]; done) | skip
      repeat' first
 | (apply c_nil)
 | (apply s_st; (focus (repeat (first | apply opds_nil | (apply opds_cons; (first | (focus ((conv => lhs; whnf); done)) | exact rfl))))); exact e_stA rfl rfl rfl rfl rfl)
 | (apply s_pd; exact rfl)
 | (apply c_seq)
 | (apply c_reg)
 | (apply c_ret)
 | (with_reducible apply k_c)
      all_goals exact fin_cellA (by rfl) (by rfl) (by simp [go_sem, fv])
    | succ k =>
      rw [hq] at hil
      simp only [ownH] at *
      repeat' first
 | (apply s_mov; (focus ((conv => lhs; whnf); done)))
 | (apply s_gT; exact rfl)
 | (apply s_gF; exact rfl)
 | (apply c_nil)
 | (apply s_pickT; exact rfl; (focus ((conv => lhs; whnf); done)))
 | (apply s_pickF; exact rfl; (focus ((conv => lhs; whnf); done)))
 | ((first | apply s_lss | apply s_leq | apply s_gtr | apply s_geq | apply s_eql | apply s_neq); exact rfl; all_goals (intro _; try (exfalso; omega)))
 | (apply s_pn; (focus (repeat (first | apply opds_nil | (apply opds_cons; (first | (focus ((conv => lhs; whnf); done)) | exact rfl))))); exact le _)
 | (apply s_pd; (focus ((conv => lhs; whnf); done)))
 | (apply c_seq)
 | (apply c_reg)
 | (apply c_exitH)
 | (apply c_condF; exact rfl)
 | (with_reducible apply k_c)
      all_goals apply c_pre (vs := [.ptr 0 0, .ptr 1 0]) (H' := [some (.box [.int .i64 0, .nilS]), some (.box [.int .i64 d, .sl 2 3 0 (k + 1)]), some (.data C)])
      all_goals first | (simp [go_sem, fv]; done) | skip
      repeat' first
 | (apply c_nil)
 | (apply s_st; (focus (repeat (first | apply opds_nil | (apply opds_cons; (first | (focus ((conv => lhs; whnf); done)) | exact rfl))))); exact e_stA rfl rfl rfl rfl rfl)
 | (apply s_pd; exact rfl)
 | (apply c_seq)
 | (apply c_reg)
 | (apply c_ret)
 | (with_reducible apply k_c)
      all_goals exact fin_cellA (by rfl) (by rfl) (by simp [go_sem, fv])
end Go.AM.Pr
