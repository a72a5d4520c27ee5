/- A part of the proof: Q50. -/
import Derived.Test.YtmeajfgjbebkiaaQ48
import Derived.Test.YtmeajfgjbebkiaaQ37
set_option linter.unusedSectionVars false
set_option linter.unusedVariables false
set_option linter.unusedSimpArgs false
namespace Go.AM.Pa
attribute [local go_sem] gc subHeap reach_skip ren_free reach_new reach_newp reach_end rangeL roots boxCells nodupB posOf renL AV.ren pickO renH renO looks look bindEnv envOf reach_int reach_bool reach_nilS reach_rd putRow cells_sl cells_int cells_bool cells_nilS cells_rd cells_agg reach_agg reach_tup idFreeL idf_sl idf_ptr idf_int idf_bool idf_nilS idf_rd
/-- list, its caller's own -/
theorem c17o {x : AV} {l : List Int} {n : Nat} (hx : IsL x l) (hn : l.length = n) (h1 : 1 ≤ n ∧ n ≤ 30) {m : Nat} (hm : 1 ≤ m) (H : Heap) : callPure (evF tab it m) false 17 [x] H = some (.sl H.length 1 0 n, H ++ [some (.data (iL l))]) := by
  have ff : idFreeL [x] = true := by simp [idFreeL, hx.free]
  have f := f17 hx m hm
  rw [List.take_of_length_le (by omega)] at f
  have e : ownV 0 (iL l) = .sl 0 1 0 n ∧ owH (iL l) = [some (.data (iL l))] := by
    rcases l with _ | ⟨c, cs⟩
    · simp at hn; omega
    · subst hn; simp [iL, ownV, owH]
  rw [e.1, e.2] at f
  simp [callPure, frzL_free H 40 [x] (by simp) ff, f, ff, shiftH, AV.ren, renH, renO]
theorem getI_set2 {l : List Int} {v : Nat} {x : Int} {i : Nat} : getI (l.set v x) i = if v = i ∧ v < l.length then x else getI l i := getI_set l v x i
set_option maxHeartbeats 4000000
theorem f14 {x t : AV} {a : Gm} {l : List Int} {at_ : Int} (hx : IsG x a) (ht : IsL t l) : ∃ m H', evF tab it m 14 [x, .int .i64 at_, t] [] = some (.bool true, H') := by
  refine ⟨401, [], ?_⟩
  obtain ⟨xo, xr, xn, rfl, ho, hr, hn⟩ := id hx
  have fo := ho.free; have fr := hr.free; have fn := hn.free; have ft := ht.free
  have ob : ∀ call, evE call [] (.box false) [.agg [xo, xr, xn]] = some (.ptr 0 0, [some (.box [xo, xr, xn])]) := fun call => by simp [evE, AV.cells, oneL, ho.one, hr.one, hn.one, mkHO]
  have h28 := fun H => c28 hx (hi := 10) (by omega) (m := 400) (by omega) H
  have hg := tame_good a (hi := 10) (by omega)
  obtain ⟨ha1, ha2⟩ := tame_rows a 10
  have hzo := isL_fz (tameG a 10).owner
  have hzr := isL_fz (tameG a 10).rank
  have hzn := isLL_fz (tameG a 10).next
  have hG := isG_fz (tameG a 10)
  unfold fzG at h28 hG
  generalize tameG a 10 = g at *
  have h29 := fun H => c29 hG ⟨ha1, ha2⟩ (m := 400) (by omega) H
  simp only [if_pos hg] at h29
  have hg1 := hg.1; have hg2 := hg.2.1; have hg3 := hg.2.2.1
  have h32 := fun H => c32 hG ht hg ha2 (m := 400) (by omega) H
  have hpl := plL_ok hg ha2 l
  generalize plL g l g.next.length = pl at *
  have hpll := hpl.1
  have hzp := isL_fz pl
  have h31 := fun H => c31 (x := at_) (n := g.owner.length) (by omega) (m := 400) (by omega) H
  have r0 := mdF_range (x := at_) (n := g.owner.length) (by omega)
  obtain ⟨kN, hkN⟩ : ∃ k : Nat, mdF at_ g.owner.length = k := ⟨_, (Int.toNat_of_nonneg r0.1).symm⟩
  rw [hkN] at h31 r0
  have hk : kN < g.next.length := by omega
  have hw := isL_fz (winL (zAll g).1 g.next.length)
  have hwl : (winL (zAll g).1 g.next.length).length = g.next.length := by simp [winL]
  have hwa : ∀ j : Nat, j < g.next.length → getI (winL (zAll g).1 g.next.length) (j : Nat) = winA (zAll g).1 j := fun j hj => by rw [winL, getI_map hj]
  have hmo := isL_fz (movL g (zAll g).1 (zAll g).2 g.next.length)
  have hmol : (movL g (zAll g).1 (zAll g).2 g.next.length).length = g.next.length := by simp [movL]
  generalize movL g (zAll g).1 (zAll g).2 g.next.length = MO at *
  generalize fzL MO = mo at *
  generalize winL (zAll g).1 g.next.length = W at *
  generalize fzL W = w at *
  have h17w := fun H => c17o hw hwl ⟨by omega, by omega⟩ (m := 400) (by omega) H
  have h17m := fun H => c17o hmo hmol ⟨by omega, by omega⟩ (m := 400) (by omega) H
  generalize fzL g.owner = zo at *
  generalize fzL g.rank = zr at *
  generalize fzLL g.next = zn at *
  have go := hzo.free; have gr := hzr.free; have gn := hzn.free; have gw := hw.free; have gm := hmo.free; have gp := hzp.free
  have h37 := fun {args : List AV} {H : Heap} (W' M' : List Int) (hW : W'.length = g.next.length) (hM : M'.length = g.next.length) (e : frzL H 40 args = some [.agg [zo, zr, zn], .agg [.rd 1 g.next.length (iL W'), .rd 1 g.next.length (iL M')]]) => c37f e hG (isL_rd hW) (isL_rd hM) ⟨ha1, ha2⟩ ⟨by omega, by omega⟩ (m := 400) (by omega)
  have hchk : ∀ W' M', getI W' kN = 1 - getI W kN → chkV g W' M' = 10 := fun W' M' h => by
    have hnr : ¬ RightW g W' M' := fun hr => by
      have h1 := right_uniq hg hr hk
      have h2 := hwa kN hk
      omega
    unfold chkV
    rw [if_pos hg, rightB_f hnr]
    rfl
  have h23 := fun H => c23m (m := 400) (by omega) H
  have al2 : ∀ call H, evE call H (.alloc false [.nilS, .nilS]) [] = some (.ptr H.length 0, H ++ [some (.box [.nilS, .nilS])]) := fun call H => rfl
  have al3 : ∀ call H, evE call H (.alloc false [.nilS, .nilS, .nilS]) [] = some (.ptr H.length 0, H ++ [some (.box [.nilS, .nilS, .nilS])]) := fun call H => rfl
  have stG : ∀ call H id, H[id]? = some (some (.box [.nilS, .nilS, .nilS])) → evE call H (.st 3) [.ptr id 0, .agg [zo, zr, zn]] = some (.undef, H.set id (some (.box [zo, zr, zn]))) := fun call H id h => e_st3 hzo.one hzr.one hzn.one h
  have st2g : ∀ (a b : AV), a.one = true → b.one = true → ∀ call H id, H[id]? = some (some (.box [.nilS, .nilS])) → evE call H (.st 2) [.ptr id 0, .agg [a, b]] = some (.undef, H.set id (some (.box [a, b]))) := fun a b h1 h2 call H id h => by
    simp [evE, stAt, cells_agg, oneL, h1, h2, h, putRow]
  have st2 := st2g w mo hw.one hmo.one
  have st2s : ∀ a b c d e f, _ := fun a b c d e f => st2g (.sl a 1 0 b) (.sl c 1 0 d) rfl rfl e f
  refine f_enter rfl rfl ?_
  generalize evF tab it 400 = call at *
  repeat' first
 | (apply s_mov; (focus ((conv => lhs; whnf); done)))
 | (apply s_gT; exact rfl)
 | (apply c_nil)
 | (apply s_pickF; exact rfl; (focus ((conv => lhs; whnf); done)))
 | ((first | apply s_lss | apply s_leq | apply s_gtr | apply s_geq | apply s_eql | apply s_neq); exact rfl; all_goals (intro _; try (exfalso; omega)))
 | (apply s_en; (focus (repeat (first | apply opds_nil | (apply opds_cons; (first | (focus ((conv => lhs; whnf); done)) | exact rfl))))); exact ob _)
 | (apply s_en; (focus (repeat (first | apply opds_nil | (apply opds_cons; (first | (focus ((conv => lhs; whnf); done)) | exact rfl))))); exact al2 _ _)
 | (apply s_en; (focus (repeat (first | apply opds_nil | (apply opds_cons; (first | (focus ((conv => lhs; whnf); done)) | exact rfl))))); exact al3 _ _)
 | (apply s_cn; (focus (repeat (first | apply opds_nil | (apply opds_cons; (first | (focus ((conv => lhs; whnf); done)) | exact rfl))))); exact h28 _)
 | (apply s_cn; (focus (repeat (first | apply opds_nil | (apply opds_cons; (first | (focus ((conv => lhs; whnf); done)) | exact rfl))))); exact h29 _)
 | (apply s_cn; (focus (repeat (first | apply opds_nil | (apply opds_cons; (first | (focus ((conv => lhs; whnf); done)) | exact rfl))))); exact h32 _)
 | (apply s_cn; (focus (repeat (first | apply opds_nil | (apply opds_cons; (first | (focus ((conv => lhs; whnf); done)) | exact rfl))))); exact h17w _)
 | (apply s_cn; (focus (repeat (first | apply opds_nil | (apply opds_cons; (first | (focus ((conv => lhs; whnf); done)) | exact rfl))))); exact h17m _)
 | (apply s_st; (focus (repeat (first | apply opds_nil | (apply opds_cons; (first | (focus ((conv => lhs; whnf); done)) | exact rfl))))); exact stG _ _ _ rfl)
 | (apply s_st; (focus (repeat (first | apply opds_nil | (apply opds_cons; (first | (focus ((conv => lhs; whnf); done)) | exact rfl))))); exact st2 _ _ _ rfl)
 | (apply s_st; (focus (repeat (first | apply opds_nil | (apply opds_cons; (first | (focus ((conv => lhs; whnf); done)) | exact rfl))))); exact st2s _ _ _ _ _ _ _ rfl)
 | (apply s_len; (focus ((conv => lhs; whnf); done)); (first | assumption | (apply IsLL.at; assumption; omega)))
 | (apply s_pd; (focus ((conv => lhs; whnf); done)))
 | (apply c_seq)
 | (apply c_reg)
 | (apply c_block)
 | (apply c_skip)
 | (apply c_condF; exact rfl)
 | (with_reducible apply k_c)
  refine c_loop ?_
  refine loop_gc (σ := List Int × List Int × Nat) (fun s => [.int .i64 at_, .ptr 0 0, fzL pl, .ptr 1 0, .int .i64 s.2.2]) (fun s => [some (.box [zo, zr, zn]), some (.box [.sl 2 1 0 g.next.length, .sl 3 1 0 g.next.length]), some (.data (iL s.1)), some (.data (iL s.2.1))]) (fun s => s.2.2 ≤ g.next.length ∧ s.1.length = g.next.length ∧ s.2.1.length = g.next.length ∧ (∀ j : Nat, s.2.2 ≤ j → getI s.1 j = getI W j) ∧ (kN < s.2.2 → getI s.1 kN = 1 - getI W kN)) (fun s => g.next.length - s.2.2) ?_ _ (W, MO, 0) _ _ ⟨by simp only; omega, hwl, hmol, fun j _ => rfl, fun h => by simp only at h; omega⟩ (by simp only; omega) (by simp [go_sem, go, gr, gn, gw, gm, gp]; done)
  intro ⟨W', M', k⟩ ⟨hkn, hWl, hMl, hsame, hflip⟩ K hK
  simp only at hkn hWl hMl hsame hflip hK ⊢
  have hWk := hsame k (Nat.le_refl _)
  have hw01 : k < g.next.length → 0 ≤ getI W k ∧ getI W k ≤ 1 := fun h => by
    rw [hwa k h]; unfold winA; split <;> omega
  have cvk : ∀ H, evP H (.conv .u64) [.int .i64 (k : Int)] = some (.int .u64 (IntKind.u64.wrap k)) := fun H => rfl
  have cva : ∀ H, evP H (.conv .u64) [.int .i64 at_] = some (.int .u64 (IntKind.u64.wrap at_)) := fun H => rfl
  have shr : ∀ H, evP H (.bin .shr) [.int .u64 (IntKind.u64.wrap at_), .int .u64 (IntKind.u64.wrap k)] = some (.int .u64 ((IntKind.u64.wrap at_).fdiv (2 ^ (min (IntKind.u64.wrap k).toNat 64)))) := fun H => by
    have := (u64_pos (k : Int)).1
    simp [evP, binV, isShift, shiftInt, show ¬ IntKind.u64.wrap (k : Int) < 0 by omega, IntKind.bits]
  generalize (IntKind.u64.wrap at_).fdiv (2 ^ (min (IntKind.u64.wrap k).toNat 64)) = X at *
  have rem : ∀ H, evP H (.bin .rem) [.int .u64 X, .int .u64 2] = some (.int .u64 (X.tmod 2)) := fun H => rfl
  generalize X.tmod 2 = Y at *
  repeat' first
 | (apply s_mov; (focus ((conv => lhs; whnf); done)))
 | (apply s_gT; exact rfl)
 | (apply s_gF; exact rfl)
 | (apply s_gFD; exact rfl)
 | (apply c_nil)
 | (apply s_pickT; exact rfl; (focus ((conv => lhs; whnf); done)))
 | (apply s_pickF; exact rfl; (focus ((conv => lhs; whnf); done)))
 | ((first | apply s_lss | apply s_leq | apply s_gtr | apply s_geq | apply s_eql | apply s_neq); exact rfl; all_goals (intro _; try (exfalso; omega)))
 | ((first | apply s_add | apply s_sub); exact rfl; omega)
 | (apply s_pn; (focus (repeat (first | apply opds_nil | (apply opds_cons; (first | (focus ((conv => lhs; whnf); done)) | exact rfl))))); exact cvk _)
 | (apply s_pn; (focus (repeat (first | apply opds_nil | (apply opds_cons; (first | (focus ((conv => lhs; whnf); done)) | exact rfl))))); exact cva _)
 | (apply s_pn; (focus (repeat (first | apply opds_nil | (apply opds_cons; (first | (focus ((conv => lhs; whnf); done)) | exact rfl))))); exact shr _)
 | (apply s_pn; (focus (repeat (first | apply opds_nil | (apply opds_cons; (first | (focus ((conv => lhs; whnf); done)) | exact rfl))))); exact rem _)
 | (apply s_cn; (focus (repeat (first | apply opds_nil | (apply opds_cons; (first | (focus ((conv => lhs; whnf); done)) | exact rfl))))); exact h31 _)
 | (apply s_pn; (focus (repeat (first | apply opds_nil | (apply opds_cons; (first | (focus ((conv => lhs; whnf); done)) | exact rfl))))); exact p_ldS rfl (by first | omega | (simp; omega)))
 | (apply s_st; (focus (repeat (first | apply opds_nil | (apply opds_cons; (first | (focus ((conv => lhs; whnf); done)) | exact rfl))))); exact e_stI rfl (by first | omega | (simp; omega)))
 | (apply s_len; (focus ((conv => lhs; whnf); done)); (first | assumption | (apply IsLL.at; assumption; omega)))
 | (apply s_idx; (focus ((conv => lhs; whnf); done)); exact rfl; (first | assumption | (apply IsLL.at; assumption; omega)); omega)
 | (apply s_idxS; exact rfl; exact rfl; omega)
 | (apply s_ldI; exact rfl; omega)
 | (apply s_pd; (focus ((conv => lhs; whnf); done)))
 | (apply c_seq)
 | (apply c_reg)
 | (apply c_block)
 | (apply c_exitH)
 | (apply c_skip)
 | (apply c_condT; exact rfl)
 | (apply c_condF; exact rfl)
 | (with_reducible apply k_c)
  · refine hK (W'.set k (1 - getI W' k), (M'.set k (-1)).set k (getI pl k), k + 1) _ _ ⟨by simp only; omega, by simp [hWl], by simp [hMl], fun j hj => ?_, fun hlt => ?_⟩ (by simp only; omega) (by simp [go_sem, go, gr, gn, gw, gm, gp, Int.toNat_natCast]; done)
    · simp only at hj ⊢
      rw [getI_set2, if_neg (by omega)]
      exact hsame j (by omega)
    · simp only at hlt ⊢
      rw [getI_set2]
      by_cases e : k = kN
      · subst e
        rw [if_pos ⟨rfl, by omega⟩, hWk]
      · rw [if_neg fun h => e h.1]
        exact hflip (by omega)
  · refine hK (W'.set k (1 - getI W' k), M'.set k (-1), k + 1) _ _ ⟨by simp only; omega, by simp [hWl], by simp [hMl], fun j hj => ?_, fun hlt => ?_⟩ (by simp only; omega) (by simp [go_sem, go, gr, gn, gw, gm, gp, Int.toNat_natCast]; done)
    · simp only at hj ⊢
      rw [getI_set2, if_neg (by omega)]
      exact hsame j (by omega)
    · simp only at hlt ⊢
      rw [getI_set2]
      by_cases e : k = kN
      · subst e
        rw [if_pos ⟨rfl, by omega⟩, hWk]
      · rw [if_neg fun h => e h.1]
        exact hflip (by omega)
  · refine hK (W'.set k (1 - getI W' k), (M'.set k (-1)).set k (getI pl k), k + 1) _ _ ⟨by simp only; omega, by simp [hWl], by simp [hMl], fun j hj => ?_, fun hlt => ?_⟩ (by simp only; omega) (by simp [go_sem, go, gr, gn, gw, gm, gp, Int.toNat_natCast]; done)
    · simp only at hj ⊢
      rw [getI_set2, if_neg (by omega)]
      exact hsame j (by omega)
    · simp only at hlt ⊢
      rw [getI_set2]
      by_cases e : k = kN
      · subst e
        rw [if_pos ⟨rfl, by omega⟩, hWk]
      · rw [if_neg fun h => e h.1]
        exact hflip (by omega)
  · refine hK (W'.set k (1 - getI W' k), M'.set k (-1), k + 1) _ _ ⟨by simp only; omega, by simp [hWl], by simp [hMl], fun j hj => ?_, fun hlt => ?_⟩ (by simp only; omega) (by simp [go_sem, go, gr, gn, gw, gm, gp, Int.toNat_natCast]; done)
    · simp only at hj ⊢
      rw [getI_set2, if_neg (by omega)]
      exact hsame j (by omega)
    · simp only at hlt ⊢
      rw [getI_set2]
      by_cases e : k = kN
      · subst e
        rw [if_pos ⟨rfl, by omega⟩, hWk]
      · rw [if_neg fun h => e h.1]
        exact hflip (by omega)
  · refine hK (W', M', k + 1) _ _ ⟨by simp only; omega, hWl, hMl, fun j hj => hsame j (by simp only at hj; omega), fun hlt => hflip (by simp only at hlt; omega)⟩ (by simp only; omega) (by simp [go_sem, go, gr, gn, gw, gm, gp]; done)
  have hWz : (iL W').length = g.next.length := by rw [iL_len, hWl]
  have hMz : (iL M').length = g.next.length := by rw [iL_len, hMl]
  have hfl := hchk W' M' (hflip (by omega))
  refine c_pre (vs := [.ptr 0 0, .ptr 1 0]) (H' := [some (.box [zo, zr, zn]), some (.box [.sl 2 1 0 g.next.length, .sl 3 1 0 g.next.length]), some (.data (iL W')), some (.data (iL M'))]) (by simp [go_sem, go, gr, gn, gw, gm, gp]; done) ?_
  have hc37 := h37 (args := [.agg [zo, zr, zn], .agg [.sl 2 1 0 g.next.length, .sl 3 1 0 g.next.length]]) (H := [some (.box [zo, zr, zn]), some (.box [.sl 2 1 0 g.next.length, .sl 3 1 0 g.next.length]), some (.data (iL W')), some (.data (iL M'))]) W' M' hWl hMl (by
    have h2 : (iL W').take g.next.length = iL W' := List.take_of_length_le (by omega)
    have h3 : (iL M').take g.next.length = iL M' := List.take_of_length_le (by omega)
    simp [frzL_cons, frzL_nil, frzV_agg, frzV_sl, frzV_free, idFreeL, idf_sl, go, gr, gn, Heap.data?, hWz, hMz, h2, h3])
  rw [hfl] at hc37
  repeat' first
 | (apply s_mov; (focus ((conv => lhs; whnf); done)))
 | (apply s_gT; exact rfl)
 | (apply c_nil)
 | (apply s_pickT; exact rfl; (focus ((conv => lhs; whnf); done)))
 | ((first | apply s_lss | apply s_leq | apply s_gtr | apply s_geq | apply s_eql | apply s_neq); exact rfl; all_goals (intro _; try (exfalso; omega)))
 | (apply s_cn; (focus (repeat (first | apply opds_nil | (apply opds_cons; (first | (focus ((conv => lhs; whnf); done)) | exact rfl))))); exact hc37)
 | (apply s_cn; (focus (repeat (first | apply opds_nil | (apply opds_cons; (first | (focus ((conv => lhs; whnf); done)) | exact rfl))))); exact h23 _)
 | (apply s_pd; (focus ((conv => lhs; whnf); done)))
 | (apply c_seq)
 | (apply c_reg)
 | (apply c_ret)
 | (with_reducible apply k_c)
  exact fin_t rfl rfl rfl
end Go.AM.Pa
