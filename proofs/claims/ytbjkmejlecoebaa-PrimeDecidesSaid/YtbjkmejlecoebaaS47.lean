/- A part of the proof: S47. -/
import Derived.Test.YtbjkmejlecoebaaS46
set_option linter.unusedSectionVars false
set_option linter.unusedVariables false
set_option linter.unusedSimpArgs false
namespace Go.AM.Pr
attribute [local go_sem] gc subHeap reach_skip ren_free reach_new reach_newp reach_end rangeL roots boxCells nodupB posOf renL AV.ren pickO renH renO looks look bindEnv envOf reach_int reach_bool reach_nilS reach_rd putRow cells_sl cells_int cells_bool cells_nilS cells_rd cells_agg reach_agg reach_tup idFreeL idf_sl idf_ptr idf_int idf_bool idf_nilS idf_rd reach_fn reach_mp cells_fn cells_ptr cells_mp idf_mp idf_fn idf_agg idf_tup
open Go.AM.Num
set_option maxHeartbeats 4000000
theorem keysI_mE : ∀ {s : List Nat}, (∀ y ∈ s, y ≤ 2147483647) → keysI (mE (KM s)) = some (s.map fun (p : Nat) => (p : Int))
  | [], _ => rfl
  | x :: s, h => by
    have ih := keysI_mE (s := s) fun y hy => h y (List.mem_cons_of_mem _ hy)
    have e : mE (KM (x :: s)) = (.int .i64 (x : Int), ent x) :: mE (KM s) := rfl
    have hx := h x List.mem_cons_self
    rw [e]
    simp only [keysI]
    have hw : (Lit.int .i64 (x : Int)).wf = true := by
      have h1 : (x : Int) ≤ 2147483647 := by omega
      have h2 : (0 : Int) ≤ x := by omega
      generalize (x : Int) = z at *
      have m1 : IntKind.i64.min = -9223372036854775808 := rfl
      have m2 : IntKind.i64.max = 9223372036854775807 := rfl
      simp [Lit.wf, m1, m2]
      omega
    rw [if_pos hw, ih]
    rfl
def oV : Nat → AV
  | 0 => .nilS
  | j + 1 => .sl 2 3 0 (j + 1)
def kV (n : Nat) : Nat → AV
  | 0 => .sl 2 1 0 n
  | _ + 1 => .sl 3 1 0 n
def oH (M : List (AV × AV)) (S C : List AV) : Nat → Heap
  | 0 => [some (.box [.int .i64 0, .nilS]), some (.map M), some (.data S)]
  | _ + 1 => [some (.box [.int .i64 0, .nilS]), some (.map M), some (.data C), some (.data S)]
theorem p_bldS {H : Heap} {id sz o n : Nat} : evP H (.bld [.int .i64 0, .nilS] [(1, 1)]) [.sl id sz o n] = some (.agg [.int .i64 0, .sl id sz o n]) := rfl
theorem prf_take {s : List Nat} {i : Nat} (h : i < (srt s).length) : pcE ((prf s).take (i + 1)) = pcE ((prf s).take i) ++ [.int .i64 (entE (srt s)[i]).p, .int .i64 (entE (srt s)[i]).w, (entE (srt s)[i]).fv] := by
  have h' : i < (prf s).length := by unfold prf; rw [List.length_map]; exact h
  rw [← List.take_append_getElem h', pcE_app]
  simp [prf, pcE]
theorem f30p {p : Nat} (hp : IsPr p) (hp2 : p ≤ 2147483647) {m : Nat} (hm : 50010 + 3 * p ≤ m) : ∃ k, (prf (pvF p p [])).length = k + 1 ∧
    evZ m 30 [.int .i64 (p : Int)] [] = some (.tup [.agg [.int .i64 0, .sl 0 3 0 (k + 1)], .int .i64 0], [some (.data (pcE (prf (pvF p p []))))]) := by
  obtain ⟨m, rfl⟩ : ∃ j, m = j + 2 := ⟨m - 2, by omega⟩
  have hp1 := hp.1
  obtain ⟨hg, hmem, _⟩ := pvF_good p p [] (Nat.le_refl _) hp Gd.nil
  have hle : ∀ y ∈ pvF p p [], y ≤ p := fun y hy => by
    rcases pvF_le p p [] y hy with h | h
    · cases h
    · exact h
  have hlen := pv_len hp hp2
  have hf := f54 p p [] (m + 1) (Nat.le_refl _) hp hp2 (by omega)
  generalize pvF p p [] = s at *
  obtain ⟨k, hk⟩ : ∃ k, s.length = k + 1 := ⟨s.length - 1, by have := List.length_pos_of_mem hmem; omega⟩
  refine ⟨k, by rw [prf_len, hk], ?_⟩
  have hsl := srt_len s
  have hpl := prf_len s
  have hgood := prf_goodE s
  have e41 := fun H => callPure_up (sp := spS) (Nat.le_refl _) (c41 (m := m + 1) (by omega) p H)
  have h1 : IsNum (p : Int) := ⟨by omega, by omega⟩
  simp only [h1, decide_true] at e41
  have hL : Fac [(p, 1)] p := fac_pr hp
  have e42 := fun H => callPure_up (sp := spS) (Nat.le_refl _) (c42 (by omega) hp2 hL (m := m + 1) (by omega) H)
  have i1 := fun H => p_idxG (H := H) (l := [(p, 1)]) (i := 0) (by simp)
  have l1 := fun H => p_ld0 (H := H) (l := [(p, 1)]) (i := 0) (by simp)
  have g1 : gp [(p, 1)] 0 = (p, 1) := rfl
  rw [g1] at l1
  simp only [Nat.zero_mul] at i1 l1
  have fl := fun H => p_fld0 (H := H) (l := [(p, 1)]) (i := 0)
  simp only [Nat.zero_mul] at fl
  have h54 : callMut (evS spS tab it (m + 1)) 54 [.int .i64 (p : Int), .mp 1] [some (.box [.int .i64 0, .nilS]), some (.map [])] = some (.tup [], [some (.box [.int .i64 0, .nilS]), some (.map (mE (KM s)))]) := by
    refine callMut_up (Nat.le_refl _) ?_
    have hf' : evF tab it (m + 1) 54 [.int .i64 (p : Int), .mp 0] [some (.map [])] = some (.tup [], [some (.map (mE (KM s)))]) := hf
    simp [callMut, subHeap, backOf, writeBack, hf', go_sem]
  have h56 : callMut (evS spS tab it (m + 1)) 56 [.mp 1] [some (.box [.int .i64 0, .nilS]), some (.map (mE (KM s)))] = some (.fn 69 [.ptr 2 0], [some (.box [.int .i64 0, .nilS]), some (.map (mE (KM s))), some (.box [.mp 1])]) := by
    refine callMut_up (Nat.le_refl _) ?_
    have := f56 (M := mE (KM s)) (m := m + 1) (by omega)
    simp [callMut, subHeap, backOf, writeBack, this, go_sem]
  have hksI := keysI_mE (s := s) fun y hy => Nat.le_trans (hle y hy) hp2
  have h55 : callMut (evS spS tab it (m + 1)) 55 [.fn 69 [.ptr 2 0]] [some (.box [.int .i64 0, .nilS]), some (.map (mE (KM s))), some (.box [.mp 1])] = some (.sl 3 1 0 (k + 1), [some (.box [.int .i64 0, .nilS]), some (.map (mE (KM s))), some (.box [.mp 1]), some (.data (iL (srt s)))]) := by
    have hs : spS 55 [.fn 69 [.ptr 0 0]] [some (.box [.mp 1]), some (.map (mE (KM s)))] = some (.sl 2 1 0 (k + 1), [some (.box [.mp 1]), some (.map (mE (KM s))), some (.data (iL (srt s)))]) := by
      have hne : s.map (fun (p : Nat) => (p : Int)) ≠ [] := fun e => by
        have := congrArg List.length e
        simp [hk] at this
      have hl2 : (s.map (fun (p : Nat) => (p : Int))).length = k + 1 := by rw [List.length_map, hk]
      simp only [spS, if_true, hksI, Option.bind_some]
      rw [if_pos ⟨hne, by omega⟩, hl2]
      rfl
    have hs' := evS_sp (it := it) (tab := tab) (m := m) (f := 55) rfl hs
    simp [callMut, subHeap, backOf, writeBack, hs', go_sem]
  have hdS : (iL (srt s)).length = k + 1 := by rw [iL_len]; omega
  have lk : ∀ (i : Nat) (hi : i < (srt s).length) (call : CallF) (H : Heap), H[1]? = some (some (.map (mE (KM s)))) → evE call H (.lkM [some .i64] false (.agg [.int .i64 0, .int .i64 0, .nilS])) [.mp 1, .int .i64 (srt s)[i]] = some (.agg [.int .i64 (entE (srt s)[i]).p, .int .i64 (entE (srt s)[i]).w, (entE (srt s)[i]).fv], H) := fun i hi call H h => by
    obtain ⟨P, hP, hPx⟩ := srt_mem.1 (List.getElem_mem hi)
    rw [e_lkMf h, ← hPx, KM_find, if_pos hP, Option.getD_some, ent_E]
  refine s_enter rfl rfl ?_
  generalize evS spS tab it (m + 1) = call at *
  generalize hM : mE (KM s) = M at *
  have gcX : ∀ (i : Nat) C, gc 0 [.ptr 0 0, .mp 1, oV i, kV (k + 1) i, .int .i64 ((k + 1 : Nat) : Int), .int .i64 (i : Int)] (oH M (iL (srt s)) C i) = some ([.ptr 0 0, .mp 1, oV i, kV (k + 1) i, .int .i64 ((k + 1 : Nat) : Int), .int .i64 (i : Int)], oH M (iL (srt s)) C i) := fun i C => by
    cases i <;> simp [oV, kV, oH, go_sem]
  generalize hS : iL (srt s) = S at *
  generalize fzP [(p, 1)] = fz at *
  repeat' first
 | (apply s_mov; (focus ((conv => lhs; whnf); done)))
 | (apply c_nil)
 | (apply s_notT; exact rfl)
 | ((first | apply s_lss | apply s_leq | apply s_gtr | apply s_geq | apply s_eql | apply s_neq); exact rfl; all_goals (intro _; try (exfalso; omega)))
 | (apply s_cn; (focus (repeat (first | apply opds_nil | (apply opds_cons; (first | (focus ((conv => lhs; whnf); done)) | exact rfl))))); exact e41 _)
 | (apply s_cn; (focus (repeat (first | apply opds_nil | (apply opds_cons; (first | (focus ((conv => lhs; whnf); done)) | exact rfl))))); exact e42 _)
 | (apply s_pn; (focus (repeat (first | apply opds_nil | (apply opds_cons; (first | (focus ((conv => lhs; whnf); done)) | exact rfl))))); exact i1 _)
 | (apply s_pn; (focus (repeat (first | apply opds_nil | (apply opds_cons; (first | (focus ((conv => lhs; whnf); done)) | exact rfl))))); exact l1 _)
 | (apply s_pn; (focus (repeat (first | apply opds_nil | (apply opds_cons; (first | (focus ((conv => lhs; whnf); done)) | exact rfl))))); exact fl _)
 | (apply s_en; (focus (repeat (first | apply opds_nil | (apply opds_cons; (first | (focus ((conv => lhs; whnf); done)) | exact rfl))))); exact h54)
 | (apply s_en; (focus (repeat (first | apply opds_nil | (apply opds_cons; (first | (focus ((conv => lhs; whnf); done)) | exact rfl))))); exact h56)
 | (apply s_en; (focus (repeat (first | apply opds_nil | (apply opds_cons; (first | (focus ((conv => lhs; whnf); done)) | exact rfl))))); exact h55)
 | (apply isE; apply s_ed; (focus ((conv => lhs; whnf); done)))
 | (apply s_lenSl; exact rfl)
 | (apply c_seq)
 | (apply c_reg)
 | (apply c_block)
 | (apply c_skip)
 | (apply c_condF; exact rfl)
 | (with_reducible apply k_c)
  refine c_loop ?_
  refine loop_gc (σ := Nat) (fun i => [.ptr 0 0, .mp 1, oV i, kV (k + 1) i, .int .i64 ((k + 1 : Nat) : Int), .int .i64 (i : Int)]) (fun i => oH M S (pcE ((prf s).take i)) i) (fun i => i ≤ k + 1) (fun i => k + 1 - i) ?_ _ 0 _ _ (by omega) (by omega) (by simp [go_sem, oV, kV, oH])
  intro i hi K hK
  have hCl := pcE_len ((prf s).take i)
  rw [List.length_take, hpl, hk, Nat.min_eq_left hi] at hCl
  by_cases hik : i < k + 1
  · have hi' : i < (srt s).length := by omega
    have lki := lk i hi'
    have hz := entE_good (srt s)[i]
    obtain ⟨z1, z2⟩ := isL_one hz
    have z3 := hz.free
    have hpt := prf_take hi'
    have ix := fun (H : Heap) (id : Nat) (h : H.data? id = some S) => p_idxO (H := H) (id := id) (n := k + 1) (l := srt s) (i := i) (by rw [hS]; exact h) (by omega) hik
    have lx := fun (H : Heap) (id : Nat) (h : H.data? id = some S) => p_ldO (H := H) (id := id) (l := srt s) (i := i) (by rw [hS]; exact h) hi'
    have hg2 := gcX (i + 1) (pcE ((prf s).take (i + 1)))
    have hK1 := hK (i + 1)
    rw [hpt] at hg2 hK1
    generalize (srt s)[i] = xi at *
    generalize (entE xi).p = ep at *
    generalize (entE xi).w = ew at *
    generalize (entE xi).fv = ef at *
    generalize pcE ((prf s).take i) = C at *
    cases i with
    | zero =>
      obtain rfl : C = [] := List.eq_nil_of_length_eq_zero (by omega)
      simp only [oV, kV, oH] at *
      repeat' first
 | (apply s_mov; (focus ((conv => lhs; whnf); done)))
 | (apply c_nil)
 | ((first | apply s_lss | apply s_leq | apply s_gtr | apply s_geq | apply s_eql | apply s_neq); exact rfl; all_goals (intro _; try (exfalso; omega)))
 | ((first | apply s_add | apply s_sub); exact rfl; omega)
 | (apply s_pn; (focus (repeat (first | apply opds_nil | (apply opds_cons; (first | (focus ((conv => lhs; whnf); done)) | exact rfl))))); exact ix _ _ rfl)
 | (apply s_pn; (focus (repeat (first | apply opds_nil | (apply opds_cons; (first | (focus ((conv => lhs; whnf); done)) | exact rfl))))); exact lx _ _ rfl)
 | (apply s_en; (focus (repeat (first | apply opds_nil | (apply opds_cons; (first | (focus ((conv => lhs; whnf); done)) | exact rfl))))); exact lki _ _ rfl)
 | (apply s_en; (focus (repeat (first | apply opds_nil | (apply opds_cons; (first | (focus ((conv => lhs; whnf); done)) | exact rfl))))); exact e_bldE z3 z1 z2)
 | (apply s_en; (focus (repeat (first | apply opds_nil | (apply opds_cons; (first | (focus ((conv => lhs; whnf); done)) | exact rfl))))); exact e_appz_nil (by omega) (by decide))
 | (apply c_seq)
 | (apply c_reg)
 | (apply c_block)
 | (apply c_skip)
 | (apply c_condT; exact rfl)
 | (with_reducible apply k_c)
      exact hK1 _ _ (by omega) (by omega) (by simp [go_sem])
    | succ j =>
      simp only [oV, kV, oH] at *
      repeat' first
 | (apply s_mov; (focus ((conv => lhs; whnf); done)))
 | (apply c_nil)
 | ((first | apply s_lss | apply s_leq | apply s_gtr | apply s_geq | apply s_eql | apply s_neq); exact rfl; all_goals (intro _; try (exfalso; omega)))
 | ((first | apply s_add | apply s_sub); exact rfl; omega)
 | (apply s_pn; (focus (repeat (first | apply opds_nil | (apply opds_cons; (first | (focus ((conv => lhs; whnf); done)) | exact rfl))))); exact ix _ _ rfl)
 | (apply s_pn; (focus (repeat (first | apply opds_nil | (apply opds_cons; (first | (focus ((conv => lhs; whnf); done)) | exact rfl))))); exact lx _ _ rfl)
 | (apply s_en; (focus (repeat (first | apply opds_nil | (apply opds_cons; (first | (focus ((conv => lhs; whnf); done)) | exact rfl))))); exact lki _ _ rfl)
 | (apply s_en; (focus (repeat (first | apply opds_nil | (apply opds_cons; (first | (focus ((conv => lhs; whnf); done)) | exact rfl))))); exact e_bldE z3 z1 z2)
 | (apply s_en; (focus (repeat (first | apply opds_nil | (apply opds_cons; (first | (focus ((conv => lhs; whnf); done)) | exact rfl))))); exact e_appz_sl rfl hCl (by omega) (by unfold most; omega))
 | (apply c_seq)
 | (apply c_reg)
 | (apply c_block)
 | (apply c_skip)
 | (apply c_condT; exact rfl)
 | (with_reducible apply k_c)
      exact hK1 _ _ (by omega) (by omega) (by simp [go_sem])
  · obtain rfl : i = k + 1 := by omega
    have hall : (prf s).take (k + 1) = prf s := List.take_of_length_le (by omega)
    rw [hall] at hCl ⊢
    generalize pcE (prf s) = C at *
    simp only [oV, kV, oH]
    repeat' first
 | (apply c_nil)
 | ((first | apply s_lss | apply s_leq | apply s_gtr | apply s_geq | apply s_eql | apply s_neq); exact rfl; all_goals (intro _; try (exfalso; omega)))
 | (apply c_seq)
 | (apply c_reg)
 | (apply c_exitH)
 | (apply c_condF; exact rfl)
 | (with_reducible apply k_c)
    apply c_pre (vs := [.ptr 0 0, .sl 1 3 0 (k + 1)]) (H' := [some (.box [.int .i64 0, .nilS]), some (.data C)])
    · simp [go_sem]
    repeat' first
 | (apply s_mov; (focus ((conv => lhs; whnf); done)))
 | (apply c_nil)
 | (apply s_pn; (focus (repeat (first | apply opds_nil | (apply opds_cons; (first | (focus ((conv => lhs; whnf); done)) | exact rfl))))); exact p_bldS)
 | (apply s_st; (focus (repeat (first | apply opds_nil | (apply opds_cons; (first | (focus ((conv => lhs; whnf); done)) | exact rfl))))); exact e_st2 rfl rfl rfl)
 | (apply c_seq)
 | (apply c_reg)
 | (apply c_ret)
 | (with_reducible apply k_c)
    exact fin_cellT (by rfl) (by rfl) (by rfl) (by simp [go_sem])
end Go.AM.Pr
