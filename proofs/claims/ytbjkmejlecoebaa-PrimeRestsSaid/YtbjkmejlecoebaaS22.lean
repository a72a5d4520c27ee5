/- A part of the proof: S22. -/
import Derived.Test.YtbjkmejlecoebaaS21
set_option linter.unusedSectionVars false
set_option linter.unusedVariables false
set_option linter.unusedSimpArgs false
namespace Go.AM.Pr
attribute [local go_sem] gc subHeap reach_skip ren_free reach_new reach_newp reach_end rangeL roots boxCells nodupB posOf renL AV.ren pickO renH renO looks look bindEnv envOf reach_int reach_bool reach_nilS reach_rd putRow cells_sl cells_int cells_bool cells_nilS cells_rd cells_agg reach_agg reach_tup idFreeL idf_sl idf_ptr idf_int idf_bool idf_nilS idf_rd reach_fn reach_mp cells_fn cells_ptr cells_mp idf_mp idf_fn idf_agg idf_tup
open Go.AM.Num
def v5 (l : List Int) : AV := match l with
  | [] => .nilS
  | _ :: r => .sl 0 1 0 (r.length + 1)
def v6 (l : List Int) : AV := match l with
  | [] => .nilS
  | _ :: r => .sl 1 1 0 (r.length + 1)
def hp2 (R M : List Int) : Heap := match M with
  | [] => []
  | x :: r => [some (.data (iL R)), some (.data (iL (x :: r)))]
theorem stp2 {call : CallF} {R M : List Int} {r m N : Int} {y : AV} (fy : y.idFree = true) (hl : R.length = M.length) (hm : M.length ≤ 100) : ∃ w6 H1 w5 H2, evE call (hp2 R M) (.app false 1 8) [v6 M, .rd 1 1 [.int .i64 m]] = some (w6, H1) ∧ evE call H1 (.app false 1 8) [v5 R, .rd 1 1 [.int .i64 r]] = some (w5, H2) ∧
    ∀ z : Int, gc 0 [.int .i64 N, y, w5, w6, .int .i64 z] H2 = some ([.int .i64 N, y, v5 (R ++ [r]), v6 (M ++ [m]), .int .i64 z], hp2 (R ++ [r]) (M ++ [m])) := by
  rcases M with _ | ⟨a, M⟩
  · obtain rfl : R = [] := List.length_eq_zero_iff.1 hl
    refine ⟨_, _, _, _, e_appz_nil (by omega) (by decide), e_appz_nil (by omega) (by decide), fun z => ?_⟩
    simp [v5, v6, hp2, go_sem, fy, iL]
  · rcases R with _ | ⟨b, R⟩
    · simp at hl
    · have h1 : (iL (a :: M)).length = (M.length + 1) * 1 := by simp [iL]
      have h2 : (iL (b :: R)).length = (R.length + 1) * 1 := by simp [iL]
      simp at hl hm
      refine ⟨_, _, _, _, e_appz_sl (k := M.length + 1) rfl h1 (by omega) (by unfold most; omega), e_appz_sl (k := R.length + 1) rfl h2 (by omega) (by unfold most; omega), fun z => ?_⟩
      simp [v5, v6, hp2, go_sem, fy, iL, hl]
def hp1 (R M : List Int) : Heap := match M with
  | [] => []
  | x :: r => [none, some (.data (iL (x :: r)))]
def hp0 (M : List Int) : Heap := match M with
  | [] => []
  | _ :: _ => [none, none]
theorem fz5 {env : Env} {R M : List Int} (hl : R.length = M.length) (hs : look env 5 = v5 R) : fzS env (hp2 R M) 5 none = some ((5, fzL R) :: env, hp1 R M) := by
  rcases M with _ | ⟨a, M⟩
  · obtain rfl : R = [] := List.length_eq_zero_iff.1 hl
    have e : look env 5 = .nilS := hs
    simp [fzS, e, evE, hp2, hp1, fzL]
  · rcases R with _ | ⟨b, R⟩
    · simp at hl
    · have e : look env 5 = .sl 0 1 0 (R.length + 1) := hs
      simp [fzS, e, evE, hp2, hp1, fzL, Heap.data?, iL, List.take_of_length_le]
theorem fz6 {env : Env} {R M : List Int} (hs : look env 6 = v6 M) : fzS env (hp1 R M) 6 none = some ((6, fzL M) :: env, hp0 M) := by
  rcases M with _ | ⟨a, M⟩
  · have e : look env 6 = .nilS := hs
    simp [fzS, e, evE, hp0, hp1, fzL]
  · have e : look env 6 = .sl 1 1 0 (M.length + 1) := hs
    simp [fzS, e, evE, hp0, hp1, fzL, Heap.data?, iL, List.take_of_length_le]
theorem take_snoc {l : List Int} {i : Nat} (h : i < l.length) : l.take (i + 1) = l.take i ++ [getI l i] := by
  rw [getI_nat]
  simp [List.getD, h, List.take_append_getElem]
set_option maxHeartbeats 4000000
theorem f8 {n : Int} {y : AV} {Y : List Int} (hy : IsL y Y) : ∃ m H', evF tab it m 8 [.int .i64 n, y] [] = some (.bool true, H') := by
  refine ⟨60001, [], ?_⟩
  have h18 := c18
  have fy := hy.free
  have e29 := fun H => c29 (x := n) (n := 1152921504606846976) (by omega) (by omega) (m := 60000) (by omega) H
  have e28 := fun (x : Int) H => c28 (x := x) (n := 5000) (by omega) (by omega) (m := 60000) (by omega) H
  have hN : modN n 1152921504606846976 < 1152921504606846976 := Nat.mod_lt _ (by omega)
  generalize modN n 1152921504606846976 = N at *
  -- the lists
  obtain ⟨M, hM⟩ : ∃ M : List Int, M = (List.range (min Y.length 5)).map fun j : Nat => ((numN (getI Y (j : Int)) 5000 : Nat) : Int) := ⟨_, rfl⟩
  obtain ⟨R, hR⟩ : ∃ R : List Int, R = (List.range (min Y.length 5)).map fun j : Nat => ((N % numN (getI Y (j : Int)) 5000 : Nat) : Int) := ⟨_, rfl⟩
  have lM : M.length = min Y.length 5 := by rw [hM]; simp
  have lR : R.length = min Y.length 5 := by rw [hR]; simp
  have gM : ∀ i : Nat, i < min Y.length 5 → getI M i = (numN (getI Y i) 5000 : Nat) := fun i hi => by
    rw [getI_nat, hM]; simp only [List.getD, List.getElem?_map, List.getElem?_range hi, Option.map_some, Option.getD_some]
  have gR : ∀ i : Nat, i < min Y.length 5 → getI R i = (N % numN (getI Y i) 5000 : Nat) := fun i hi => by
    rw [getI_nat, hR]; simp only [List.getD, List.getElem?_map, List.getElem?_range hi, Option.map_some, Option.getD_some]
  have hnum := fun i : Nat => numN_le (x := getI Y i) (most := 5000) (by omega)
  have e25 := fun H => c25 (isL_fz R) (isL_fz M) (m := 60000) (by omega) H
  have hcom : ∃ (x all : Nat), comR R M = [.int .i64 (x : Int), .int .i64 (all : Int), .int .i64 0] ∧ x < all ∧ all ≤ 4611686018427387904 ∧ N % all = x ∧ ∀ i : Nat, i < min Y.length 5 → ((x % numN (getI Y i) 5000 : Nat) : Int) = getI R i ∧ all % numN (getI Y i) 5000 = 0 := by
    have moM : ∀ i : Nat, i < min Y.length 5 → mo M i = numN (getI Y i) 5000 := fun i hi => by unfold mo; rw [gM i hi]; rfl
    have mo5 : ∀ i, mo M i ≤ 5000 := fun i => by
      rcases Nat.lt_or_ge i (min Y.length 5) with h | h
      · rw [moM i h]; exact (hnum i).2
      · unfold mo
        rw [getI_nat, List.getD, List.getElem?_eq_none (by omega)]
        simp
    have moP : ∀ i, i < R.length → 1 ≤ mo M i := fun i hi => by rw [moM i (by omega)]; exact (hnum i).1
    have hall : okAll R M := by
      refine ⟨⟨by omega, by omega⟩, fun i hi => ⟨⟨?_, ?_, ?_⟩, ?_⟩⟩
      · rw [gM i (by omega)]; have := hnum i; unfold IsNum; omega
      · rw [gR i (by omega)]; omega
      · rw [gR i (by omega), gM i (by omega)]
        have := Nat.mod_lt N (show numN (getI Y i) 5000 > 0 by have := hnum i; omega)
        omega
      · refine Nat.le_trans (hv_5000 mo5 (i + 1)) (Nat.le_trans (Nat.pow_le_pow_right (by omega) (show i + 1 ≤ 5 by omega)) (by decide))
    obtain ⟨r1, r2⟩ := rest_all (n := (N : Int)) R.length moP (fun k hk => by rw [gR k (by omega), moM k (by omega)]; rfl) R.length (Nat.le_refl _)
    have hlt := xs_lt (R := R) (M := M) (k := R.length) moP
    refine ⟨xs R M R.length, hv M R.length, ?_, hlt, hv_le hall.2, ?_, fun i hi => ⟨?_, ?_⟩⟩
    · unfold comR; rw [if_pos hall, if_pos r1]
    · have e : ((N : Nat) : Int) % ((hv M R.length : Nat) : Int) = ((xs R M R.length : Nat) : Int) % ((hv M R.length : Nat) : Int) := Int.emod_eq_emod_iff_emod_sub_eq_zero.2 (Int.emod_eq_zero_of_dvd r2)
      have e2 : N % hv M R.length = xs R M R.length % hv M R.length := by exact_mod_cast e
      rw [e2, Nat.mod_eq_of_lt hlt]
    · rw [gR i hi, ← moM i hi]
      have d : ((mo M i : Nat) : Int) ∣ ((N : Nat) : Int) - ((xs R M R.length : Nat) : Int) := Int.dvd_trans (by exact_mod_cast mo_dvd (M := M) (k := i) (L := R.length) (by omega)) r2
      have e : ((N : Nat) : Int) % ((mo M i : Nat) : Int) = ((xs R M R.length : Nat) : Int) % ((mo M i : Nat) : Int) := Int.emod_eq_emod_iff_emod_sub_eq_zero.2 (Int.emod_eq_zero_of_dvd d)
      exact e.symm
    · rw [← moM i hi]
      exact Nat.mod_eq_zero_of_dvd (mo_dvd (by omega))
  obtain ⟨x, all, hc, c1, c2, c3, c4⟩ := hcom
  rw [hc] at e25
  refine f_enter rfl rfl ?_
  generalize evF tab it 60000 = call at *
  repeat' first
 | (apply s_mov; (focus ((conv => lhs; whnf); done)))
 | (apply s_gT; exact rfl)
 | (apply s_gF; exact rfl)
 | (apply s_gFD; exact rfl)
 | (apply s_gFE; exact rfl)
 | apply c_nil
 | (apply s_pickT; exact rfl; (focus ((conv => lhs; whnf); done)))
 | (apply s_pickF; exact rfl; (focus ((conv => lhs; whnf); done)))
 | (apply s_notT; exact rfl)
 | (apply s_notF; exact rfl)
 | ((first | apply s_lss | apply s_leq | apply s_gtr | apply s_geq | apply s_eql | apply s_neq); exact rfl; all_goals (intro _; try (exfalso; omega)))
 | ((first | apply s_add | apply s_sub); exact rfl; omega)
 | (apply s_cn; (focus (repeat (first | apply opds_nil | (apply opds_cons; (first | (focus ((conv => lhs; whnf); done)) | exact rfl))))); exact e29 _)
 | (apply s_len; (focus ((conv => lhs; whnf); done)); (first | assumption | (apply IsLL.at; assumption; omega)))
 | (apply s_lenLL; (focus ((conv => lhs; whnf); done)); assumption)
 | (apply s_lenRd; exact rfl)
 | (apply s_lenSl; exact rfl)
 | (apply s_idx; (focus ((conv => lhs; whnf); done)); exact rfl; (first | assumption | (apply IsLL.at; assumption; omega)); omega)
 | (apply s_idxLL; (focus ((conv => lhs; whnf); done)); exact rfl; assumption; omega)
 | (apply s_idxP; exact rfl; exact rfl; omega)
 | (apply s_ldB; exact rfl; exact rfl; omega; all_goals intro _)
 | (apply s_ldRB; exact rfl; omega; all_goals intro _)
 | (apply s_idxRB; exact rfl; exact rfl; omega)
 | (apply s_idxS; exact rfl; exact rfl; omega)
 | (apply s_slcT; exact rfl; exact rfl; omega)
 | (apply s_slcF; exact rfl; exact rfl; omega)
 | (apply s_mx; exact rfl; exact rfl)
 | (apply s_rem2; exact rfl)
 | (apply s_ldI; exact rfl; omega)
 | (apply s_ldLL; exact rfl; assumption; omega)
 | (apply s_pd; (focus ((conv => lhs; whnf); done)))
 | apply c_seq
 | apply c_reg
 | apply c_block
 | apply c_exitH
 | apply c_skip
 | apply c_ret
 | (apply c_condT; exact rfl)
 | (apply c_condF; exact rfl)
 | (apply c_exitM; exact rfl)
 | (apply c_preF; (focus (repeat (first | apply looks_nil | (apply looks_cons; (focus ((conv => lhs; whnf); done)))))); (focus (simp [idFreeL, AV.idFree, *]; done)))
 | (with_reducible apply k_c)
  refine c_loop ?_
  refine loop_gc (σ := Nat) (fun i => [.int .i64 (N : Int), y, v5 (R.take i), v6 (M.take i), .int .i64 (i : Int)]) (fun i => hp2 (R.take i) (M.take i)) (fun i => i ≤ min Y.length 5) (fun i => 5 - i) ?_ _ 0 _ _ (by omega) (by omega) (by simp [looks, look, v5, v6, hp2, go_sem, fy])
  intro i hi K hK
  by_cases hiL : i < min Y.length 5
  · have s1 := stp2 (call := call) (R := R.take i) (M := M.take i) (r := getI R i) (m := getI M i) (N := N) fy (by simp; omega) (by simp; omega)
    rw [← take_snoc (by omega), ← take_snoc (by omega), gM i hiL, gR i hiL] at s1
    obtain ⟨w6, H1, w5, H2, a1, a2, a3⟩ := s1
    have h1 := hnum i
    have e28' := e28 (getI Y i)
    generalize numN (getI Y i) 5000 = mm at *
    generalize hv5 : v5 (R.take i) = q5 at *
    generalize hv6 : v6 (M.take i) = q6 at *
    generalize hhp : hp2 (R.take i) (M.take i) = hh at *
    repeat' first
 | (apply s_mov; (focus ((conv => lhs; whnf); done)))
 | (apply s_gT; exact rfl)
 | (apply s_gF; exact rfl)
 | (apply s_gFD; exact rfl)
 | (apply s_gFE; exact rfl)
 | apply c_nil
 | (apply s_pickT; exact rfl; (focus ((conv => lhs; whnf); done)))
 | (apply s_pickF; exact rfl; (focus ((conv => lhs; whnf); done)))
 | (apply s_notT; exact rfl)
 | (apply s_notF; exact rfl)
 | ((first | apply s_lss | apply s_leq | apply s_gtr | apply s_geq | apply s_eql | apply s_neq); exact rfl; all_goals (intro _; try (exfalso; omega)))
 | (apply s_cn; (focus (repeat (first | apply opds_nil | (apply opds_cons; (first | (focus ((conv => lhs; whnf); done)) | exact rfl))))); exact e28' _)
 | (apply s_en; (focus (repeat (first | apply opds_nil | (apply opds_cons; (first | (focus ((conv => lhs; whnf); done)) | exact rfl))))); exact e_bld1 rfl rfl rfl rfl)
 | (apply s_en; (focus (repeat (first | apply opds_nil | (apply opds_cons; (first | (focus ((conv => lhs; whnf); done)) | exact rfl))))); exact a1)
 | (apply s_en; (focus (repeat (first | apply opds_nil | (apply opds_cons; (first | (focus ((conv => lhs; whnf); done)) | exact rfl))))); exact a2)
 | ((first | apply s_add | apply s_sub); exact rfl; omega)
 | (apply s_mulN; exact rfl; omega)
 | (apply s_quoN; exact rfl; omega; omega)
 | (apply s_remN; exact rfl; omega)
 | (apply s_and1; exact rfl; omega)
 | (apply s_shr1; exact rfl)
 | (apply s_len; (focus ((conv => lhs; whnf); done)); (first | assumption | (apply IsLL.at; assumption; omega)))
 | (apply s_lenLL; (focus ((conv => lhs; whnf); done)); assumption)
 | (apply s_lenRd; exact rfl)
 | (apply s_lenSl; exact rfl)
 | (apply s_idx; (focus ((conv => lhs; whnf); done)); exact rfl; (first | assumption | (apply IsLL.at; assumption; omega)); omega)
 | (apply s_idxLL; (focus ((conv => lhs; whnf); done)); exact rfl; assumption; omega)
 | (apply s_idxP; exact rfl; exact rfl; omega)
 | (apply s_ldB; exact rfl; exact rfl; omega; all_goals intro _)
 | (apply s_ldRB; exact rfl; omega; all_goals intro _)
 | (apply s_idxRB; exact rfl; exact rfl; omega)
 | (apply s_idxS; exact rfl; exact rfl; omega)
 | (apply s_slcT; exact rfl; exact rfl; omega)
 | (apply s_slcF; exact rfl; exact rfl; omega)
 | (apply s_mx; exact rfl; exact rfl)
 | (apply s_rem2; exact rfl)
 | (apply s_ldI; exact rfl; omega)
 | (apply s_ldLL; exact rfl; assumption; omega)
 | (apply s_pd; (focus ((conv => lhs; whnf); done)))
 | apply c_seq
 | apply c_reg
 | apply c_block
 | apply c_exitH
 | apply c_skip
 | apply c_ret
 | (apply c_condT; exact rfl)
 | (apply c_condF; exact rfl)
 | (apply c_exitM; exact rfl)
 | (apply c_preF; (focus (repeat (first | apply looks_nil | (apply looks_cons; (focus ((conv => lhs; whnf); done)))))); (focus (simp [idFreeL, AV.idFree, *]; done)))
 | (with_reducible apply k_c)
    exact hK (i + 1) _ _ (by omega) (by omega) (a3 _)
  · obtain rfl : i = min Y.length 5 := by omega
    rw [List.take_of_length_le (by omega), List.take_of_length_le (by omega)]
    have fR := (isL_fz R).free; have fM := (isL_fz M).free
    have hlRM : R.length = M.length := by omega
    have hf5 := fun {env : Env} h => fz5 (env := env) hlRM h
    have hf6 := fun {env : Env} h => fz6 (env := env) (R := R) (M := M) h
    have hlen : ∀ H, evP H .len [fzL M] = some (.int .i64 ((min Y.length 5 : Nat) : Int)) := fun H => by rw [← lM]; cases M <;> simp [evP, fzL, lenOf]
    generalize hv5 : v5 R = q5 at *
    generalize hv6 : v6 M = q6 at *
    generalize hh2 : hp2 R M = g2 at *
    generalize hh1 : hp1 R M = g1 at *
    generalize hh0 : hp0 M = g0 at *
    have iR := isL_fz R
    have iM := isL_fz M
    generalize fzL R = fR' at *
    generalize fzL M = fM' at *
    have e25' := e25 []
    have hx : ∀ k, k < min Y.length 5 → _ := fun k hk => hnum k
    repeat' first
 | (apply s_mov; (focus ((conv => lhs; whnf); done)))
 | (apply s_gT; exact rfl)
 | (apply s_gF; exact rfl)
 | (apply s_gFD; exact rfl)
 | (apply s_gFE; exact rfl)
 | apply c_nil
 | (apply s_pickT; exact rfl; (focus ((conv => lhs; whnf); done)))
 | (apply s_pickF; exact rfl; (focus ((conv => lhs; whnf); done)))
 | (apply s_notT; exact rfl)
 | (apply s_notF; exact rfl)
 | ((first | apply s_lss | apply s_leq | apply s_gtr | apply s_geq | apply s_eql | apply s_neq); exact rfl; all_goals (intro _; try (exfalso; omega)))
 | ((first | apply s_add | apply s_sub); exact rfl; omega)
 | (apply s_len; (focus ((conv => lhs; whnf); done)); (first | assumption | (apply IsLL.at; assumption; omega)))
 | (apply s_lenLL; (focus ((conv => lhs; whnf); done)); assumption)
 | (apply s_lenRd; exact rfl)
 | (apply s_lenSl; exact rfl)
 | (apply s_idx; (focus ((conv => lhs; whnf); done)); exact rfl; (first | assumption | (apply IsLL.at; assumption; omega)); omega)
 | (apply s_idxLL; (focus ((conv => lhs; whnf); done)); exact rfl; assumption; omega)
 | (apply s_idxP; exact rfl; exact rfl; omega)
 | (apply s_ldB; exact rfl; exact rfl; omega; all_goals intro _)
 | (apply s_ldRB; exact rfl; omega; all_goals intro _)
 | (apply s_idxRB; exact rfl; exact rfl; omega)
 | (apply s_idxS; exact rfl; exact rfl; omega)
 | (apply s_slcT; exact rfl; exact rfl; omega)
 | (apply s_slcF; exact rfl; exact rfl; omega)
 | (apply s_mx; exact rfl; exact rfl)
 | (apply s_rem2; exact rfl)
 | (apply s_ldI; exact rfl; omega)
 | (apply s_ldLL; exact rfl; assumption; omega)
 | (apply s_pd; (focus ((conv => lhs; whnf); done)))
 | apply c_seq
 | apply c_reg
 | apply c_block
 | apply c_exitH
 | apply c_skip
 | apply c_ret
 | (apply c_condT; exact rfl)
 | (apply c_condF; exact rfl)
 | (apply c_exitM; exact rfl)
 | (apply c_preF; (focus (repeat (first | apply looks_nil | (apply looks_cons; (focus ((conv => lhs; whnf); done)))))); (focus (simp [idFreeL, AV.idFree, *]; done)))
 | (with_reducible apply k_c)
    all_goals
      refine c_fz (hf5 (by (conv => lhs; whnf))) ?_
      refine c_fz (hf6 (by (conv => lhs; whnf))) ?_
      apply c_pre (vs := [.int .i64 (N : Int), fR', fM']) (H' := [])
      · exact gc_to rfl (by simp [idFreeL, AV.idFree, fR, fM])
      repeat' first
 | (apply s_mov; (focus ((conv => lhs; whnf); done)))
 | (apply s_gT; exact rfl)
 | (apply s_gF; exact rfl)
 | (apply s_gFD; exact rfl)
 | (apply s_gFE; exact rfl)
 | apply c_nil
 | (apply s_pickT; exact rfl; (focus ((conv => lhs; whnf); done)))
 | (apply s_pickF; exact rfl; (focus ((conv => lhs; whnf); done)))
 | (apply s_notT; exact rfl)
 | (apply s_notF; exact rfl)
 | ((first | apply s_lss | apply s_leq | apply s_gtr | apply s_geq | apply s_eql | apply s_neq); exact rfl; all_goals (intro _; try (exfalso; omega)))
 | ((first | apply s_add | apply s_sub); exact rfl; omega)
 | (apply s_cn; (focus (repeat (first | apply opds_nil | (apply opds_cons; (first | (focus ((conv => lhs; whnf); done)) | exact rfl))))); exact e25')
 | (apply s_len; (focus ((conv => lhs; whnf); done)); (first | assumption | (apply IsLL.at; assumption; omega)))
 | (apply s_lenLL; (focus ((conv => lhs; whnf); done)); assumption)
 | (apply s_lenRd; exact rfl)
 | (apply s_lenSl; exact rfl)
 | (apply s_idx; (focus ((conv => lhs; whnf); done)); exact rfl; (first | assumption | (apply IsLL.at; assumption; omega)); omega)
 | (apply s_idxLL; (focus ((conv => lhs; whnf); done)); exact rfl; assumption; omega)
 | (apply s_idxP; exact rfl; exact rfl; omega)
 | (apply s_ldB; exact rfl; exact rfl; omega; all_goals intro _)
 | (apply s_ldRB; exact rfl; omega; all_goals intro _)
 | (apply s_idxRB; exact rfl; exact rfl; omega)
 | (apply s_idxS; exact rfl; exact rfl; omega)
 | (apply s_slcT; exact rfl; exact rfl; omega)
 | (apply s_slcF; exact rfl; exact rfl; omega)
 | (apply s_mx; exact rfl; exact rfl)
 | (apply s_rem2; exact rfl)
 | (apply s_ldI; exact rfl; omega)
 | (apply s_ldLL; exact rfl; assumption; omega)
 | (apply s_pd; (focus ((conv => lhs; whnf); done)))
 | apply c_seq
 | apply c_reg
 | apply c_block
 | apply c_exitH
 | apply c_skip
 | apply c_ret
 | (apply c_condT; exact rfl)
 | (apply c_condF; exact rfl)
 | (apply c_exitM; exact rfl)
 | (apply c_preF; (focus (repeat (first | apply looks_nil | (apply looks_cons; (focus ((conv => lhs; whnf); done)))))); (focus (simp [idFreeL, AV.idFree, *]; done)))
 | (with_reducible apply k_c)
      refine c_loop ?_
      refine loop_gc (σ := Nat) (fun k => [.int .i64 (N : Int), fR', fM', .int .i64 (x : Int), .int .i64 (all : Int), .int .i64 (k : Int)]) (fun _ => []) (fun k => k ≤ min Y.length 5) (fun k => 5 - k) ?_ _ 0 _ _ (by omega) (by omega) (gc_to rfl (by simp [idFreeL, AV.idFree, fR, fM]))
      intro k hk K2 hK2
      by_cases hkL : k < min Y.length 5
      · have h1 := hnum k
        obtain ⟨k1, k2⟩ := c4 k hkL
        have hM' : ∀ H, evP H (.ld false 1) [.rp (iL (M.drop ((k : Int).toNat)))] = some (.int .i64 (numN (getI Y k) 5000 : Nat)) := fun H => by
          rw [p_ld ⟨by omega, by omega⟩, gM k hkL]
        generalize numN (getI Y k) 5000 = mm at *
        repeat' first
 | (apply s_mov; (focus ((conv => lhs; whnf); done)))
 | (apply s_gT; exact rfl)
 | (apply s_gF; exact rfl)
 | (apply s_gFD; exact rfl)
 | (apply s_gFE; exact rfl)
 | apply c_nil
 | (apply s_pickT; exact rfl; (focus ((conv => lhs; whnf); done)))
 | (apply s_pickF; exact rfl; (focus ((conv => lhs; whnf); done)))
 | (apply s_notT; exact rfl)
 | (apply s_notF; exact rfl)
 | ((first | apply s_lss | apply s_leq | apply s_gtr | apply s_geq | apply s_eql | apply s_neq); exact rfl; all_goals (intro _; try (exfalso; omega)))
 | (apply s_pn; (focus (repeat (first | apply opds_nil | (apply opds_cons; (first | (focus ((conv => lhs; whnf); done)) | exact rfl))))); exact hlen _)
 | (apply s_pn; (focus (repeat (first | apply opds_nil | (apply opds_cons; (first | (focus ((conv => lhs; whnf); done)) | exact rfl))))); exact hM' _)
 | (apply s_remN; exact rfl; omega)
 | ((first | apply s_add | apply s_sub); exact rfl; omega)
 | (apply s_mulN; exact rfl; omega)
 | (apply s_quoN; exact rfl; omega; omega)
 | (apply s_remN; exact rfl; omega)
 | (apply s_and1; exact rfl; omega)
 | (apply s_shr1; exact rfl)
 | (apply s_len; (focus ((conv => lhs; whnf); done)); (first | assumption | (apply IsLL.at; assumption; omega)))
 | (apply s_lenLL; (focus ((conv => lhs; whnf); done)); assumption)
 | (apply s_lenRd; exact rfl)
 | (apply s_lenSl; exact rfl)
 | (apply s_idx; (focus ((conv => lhs; whnf); done)); exact rfl; (first | assumption | (apply IsLL.at; assumption; omega)); omega)
 | (apply s_idxLL; (focus ((conv => lhs; whnf); done)); exact rfl; assumption; omega)
 | (apply s_idxP; exact rfl; exact rfl; omega)
 | (apply s_ldB; exact rfl; exact rfl; omega; all_goals intro _)
 | (apply s_ldRB; exact rfl; omega; all_goals intro _)
 | (apply s_idxRB; exact rfl; exact rfl; omega)
 | (apply s_idxS; exact rfl; exact rfl; omega)
 | (apply s_slcT; exact rfl; exact rfl; omega)
 | (apply s_slcF; exact rfl; exact rfl; omega)
 | (apply s_mx; exact rfl; exact rfl)
 | (apply s_rem2; exact rfl)
 | (apply s_ldI; exact rfl; omega)
 | (apply s_ldLL; exact rfl; assumption; omega)
 | (apply s_pd; (focus ((conv => lhs; whnf); done)))
 | apply c_seq
 | apply c_reg
 | apply c_block
 | apply c_exitH
 | apply c_skip
 | apply c_ret
 | (apply c_condT; exact rfl)
 | (apply c_condF; exact rfl)
 | (apply c_exitM; exact rfl)
 | (apply c_preF; (focus (repeat (first | apply looks_nil | (apply looks_cons; (focus ((conv => lhs; whnf); done)))))); (focus (simp [idFreeL, AV.idFree, *]; done)))
 | (with_reducible apply k_c)
        exact hK2 (k + 1) _ _ (by omega) (by omega) (gc_to rfl (by simp [idFreeL, AV.idFree, fR, fM]))
      · have hc3 : ((N % all : Nat) : Int) = x := by rw [c3]
        repeat' first
 | (apply s_mov; (focus ((conv => lhs; whnf); done)))
 | (apply s_gT; exact rfl)
 | (apply s_gF; exact rfl)
 | (apply s_gFD; exact rfl)
 | (apply s_gFE; exact rfl)
 | apply c_nil
 | (apply s_pickT; exact rfl; (focus ((conv => lhs; whnf); done)))
 | (apply s_pickF; exact rfl; (focus ((conv => lhs; whnf); done)))
 | (apply s_notT; exact rfl)
 | (apply s_notF; exact rfl)
 | ((first | apply s_lss | apply s_leq | apply s_gtr | apply s_geq | apply s_eql | apply s_neq); exact rfl; all_goals (intro _; try (exfalso; omega)))
 | (apply s_pn; (focus (repeat (first | apply opds_nil | (apply opds_cons; (first | (focus ((conv => lhs; whnf); done)) | exact rfl))))); exact hlen _)
 | (apply s_cn; (focus (repeat (first | apply opds_nil | (apply opds_cons; (first | (focus ((conv => lhs; whnf); done)) | exact rfl))))); exact h18 _)
 | (apply s_remN; exact rfl; omega)
 | ((first | apply s_add | apply s_sub); exact rfl; omega)
 | (apply s_mulN; exact rfl; omega)
 | (apply s_quoN; exact rfl; omega; omega)
 | (apply s_remN; exact rfl; omega)
 | (apply s_and1; exact rfl; omega)
 | (apply s_shr1; exact rfl)
 | (apply s_len; (focus ((conv => lhs; whnf); done)); (first | assumption | (apply IsLL.at; assumption; omega)))
 | (apply s_lenLL; (focus ((conv => lhs; whnf); done)); assumption)
 | (apply s_lenRd; exact rfl)
 | (apply s_lenSl; exact rfl)
 | (apply s_idx; (focus ((conv => lhs; whnf); done)); exact rfl; (first | assumption | (apply IsLL.at; assumption; omega)); omega)
 | (apply s_idxLL; (focus ((conv => lhs; whnf); done)); exact rfl; assumption; omega)
 | (apply s_idxP; exact rfl; exact rfl; omega)
 | (apply s_ldB; exact rfl; exact rfl; omega; all_goals intro _)
 | (apply s_ldRB; exact rfl; omega; all_goals intro _)
 | (apply s_idxRB; exact rfl; exact rfl; omega)
 | (apply s_idxS; exact rfl; exact rfl; omega)
 | (apply s_slcT; exact rfl; exact rfl; omega)
 | (apply s_slcF; exact rfl; exact rfl; omega)
 | (apply s_mx; exact rfl; exact rfl)
 | (apply s_rem2; exact rfl)
 | (apply s_ldI; exact rfl; omega)
 | (apply s_ldLL; exact rfl; assumption; omega)
 | (apply s_pd; (focus ((conv => lhs; whnf); done)))
 | apply c_seq
 | apply c_reg
 | apply c_block
 | apply c_exitH
 | apply c_skip
 | apply c_ret
 | (apply c_condT; exact rfl)
 | (apply c_condF; exact rfl)
 | (apply c_exitM; exact rfl)
 | (apply c_preF; (focus (repeat (first | apply looks_nil | (apply looks_cons; (focus ((conv => lhs; whnf); done)))))); (focus (simp [idFreeL, AV.idFree, *]; done)))
 | (with_reducible apply k_c)
        exact fin_t (by (conv => lhs; whnf)) (by rfl) rfl
end Go.AM.Pr
