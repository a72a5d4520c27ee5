/- A part of the proof: S38. -/
import Derived.Test.YtbjkmejlecoebaaS37
set_option linter.unusedSectionVars false
set_option linter.unusedVariables false
set_option linter.unusedSimpArgs false
namespace Go.AM.Pr
open Go.AM.Num
set_option maxHeartbeats 4000000
theorem T51 : T 51 = some ⟨.struct [(0, 3), (1, 3), (2, 38)], 3, 40, [.int .i64 0, .int .i64 0, .nilS]⟩ := rfl
theorem T45 : T 45 = some ⟨.slice 51, 1, 24, [.nilS]⟩ := rfl
theorem T47 : T 47 = some ⟨.struct [(0, 3), (1, 45)], 2, 32, [.int .i64 0, .nilS]⟩ := rfl
theorem ty_en {k : Nat} {cs : List AV} (h : TyAV T k 51 cs) : ∃ e : En, cs = [.int .i64 e.p, .int .i64 e.w, e.fv] ∧ IsL e.fv e.f := by
  cases k with
  | zero => exact h.elim
  | succ k =>
    obtain ⟨s', hs', hm0⟩ := h
    rw [T51] at hs'; cases hs'
    obtain ⟨hl, hm⟩ := hm0
    obtain ⟨s0, e0, t0⟩ := hm (0, 3) (by simp)
    obtain ⟨s1, e1, t1⟩ := hm (1, 3) (by simp)
    obtain ⟨s2, e2, t2⟩ := hm (2, 38) (by simp)
    simp only at e0 e1 e2 hl
    rw [T3] at e0 e1; rw [T38] at e2
    cases e0; cases e1; cases e2
    match cs, hl with
    | [a, b, c], _ =>
      simp at t0 t1 t2
      obtain ⟨p, hp, -⟩ := ty_int t0
      obtain ⟨w, hw, -⟩ := ty_int t1
      obtain ⟨z, f, hz, hf⟩ := ty_ints t2
      simp only [List.cons.injEq, and_true] at hp hw hz
      subst hp; subst hw; subst hz
      exact ⟨⟨p, w, c, f⟩, rfl, hf⟩
theorem ens_of : ∀ (len : Nat) (cs : List AV), cs.length = len * 3 → (∀ i, i < len → ∃ e : En, (cs.drop (i * 3)).take 3 = [.int .i64 e.p, .int .i64 e.w, e.fv] ∧ IsL e.fv e.f) → ∃ l : List En, l.length = len ∧ cs = pcE l ∧ GoodE l
  | 0, cs, hl, _ => ⟨[], rfl, by simpa [pcE] using hl, by intro e he; cases he⟩
  | n + 1, cs, hl, h => by
    match cs, hl with
    | [], hl => simp at hl
    | [_], hl => simp at hl; omega
    | [_, _], hl => simp at hl; omega
    | a :: b :: c :: r, hl =>
      obtain ⟨e, he, hf⟩ := h 0 (by omega)
      obtain ⟨l, h1, h2, h3⟩ := ens_of n r (by simp only [List.length_cons] at hl; omega) fun i hi => by
        obtain ⟨e, he, hf⟩ := h (i + 1) (by omega)
        rw [show (i + 1) * 3 = i * 3 + 1 + 1 + 1 by omega] at he
        exact ⟨e, he, hf⟩
      simp at he
      obtain ⟨rfl, rfl, rfl⟩ := he
      refine ⟨e :: l, by simp [h1], by rw [h2]; rfl, fun x hx => ?_⟩
      rcases List.mem_cons.1 hx with rfl | hx
      · exact hf
      · exact h3 x hx
theorem ty_ens {k : Nat} {cs : List AV} (h : TyAV T k 45 cs) : ∃ x l, cs = [x] ∧ IsP x l := by
  cases k with
  | zero => exact h.elim
  | succ k =>
    obtain ⟨s, hs, hm⟩ := h
    rw [T45] at hs; cases hs
    rcases hm with rfl | ⟨len, cells, se, h1, rfl, h3, h5, h4⟩
    · exact ⟨_, [], rfl, (by intro e he; cases he), .inl ⟨rfl, rfl⟩⟩
    · rw [T51] at h1; cases h1
      obtain ⟨l, e1, e2, e3⟩ := ens_of len cells h3 fun i hi => ty_en (h4 i hi)
      exact ⟨_, l, rfl, e3, .inr (by rw [e1, e2])⟩
theorem arg_verdict {k : Nat} {x : AV} (h : TyArg T k 47 x) : ∃ (d : Int) (pv : AV) (l : List En), x = .agg [.int .i64 d, pv] ∧ IsP pv l := by
  rcases h with ⟨s, xs, hs, ha, rfl, h⟩ | ⟨s, hs, ha, h⟩
  · cases k with
    | zero => exact h.elim
    | succ k =>
      obtain ⟨s', hs', hm0⟩ := h
      rw [T47] at hs'; cases hs'
      obtain ⟨hl, hm⟩ := hm0
      obtain ⟨s0, e0, t0⟩ := hm (0, 3) (by simp)
      obtain ⟨s1, e1, t1⟩ := hm (1, 45) (by simp)
      simp only at e0 e1 hl
      rw [T3] at e0; rw [T45] at e1
      cases e0; cases e1
      match xs, hl with
      | [a, b], _ =>
        simp at t0 t1
        obtain ⟨d, hd, -⟩ := ty_int t0
        obtain ⟨y, m, hy, h1⟩ := ty_ens t1
        simp only [List.cons.injEq, and_true] at hd hy
        subst hd; subst hy
        exact ⟨d, b, m, rfl, h1⟩
  · rw [T47] at hs; cases hs; cases ha
theorem callPure_of {call : CallF} {f : Nat} {args args' : List AV} {H : Heap} {r : AV × Heap} {v : AV} (ha : frzL H 40 args = some args') (hf : call f args' [] = some r) (hi : idFreeL args = true) (hz : frzV r.2 40 r.1 = some v) : callPure call true f args H = some (v, H) := by
  unfold callPure
  rw [ha, Option.bind_some, hf, Option.bind_some, hi, Bool.true_or, if_pos rfl, if_pos rfl, hz]
  rfl
theorem c39 {d : Int} {pv : AV} {l : List En} (hv : IsP pv l) {m : Nat} (hm : 100 ≤ m) : ∃ pv', IsP pv' (cpl (l.take 60)) ∧ ∀ H, callPure (evF tab it m) true 39 [.agg [.int .i64 d, pv]] H = some (.agg [.int .i64 d, pv'], H) := by
  have fv := hv.free
  have e : frzL [] 40 [AV.agg [.int .i64 d, pv]] = some [AV.agg [.int .i64 d, pv]] := by simp [frzL, frzV, idFreeL, AV.idFree, fv]
  have e' : ∀ H, frzL H 40 [AV.agg [.int .i64 d, pv]] = some [AV.agg [.int .i64 d, pv]] := fun H => by simp [frzL, frzV, idFreeL, AV.idFree, fv]
  have hg : GoodE (cpl (l.take 60)) := by
    intro x hx
    obtain ⟨y, -, rfl⟩ := List.mem_map.1 hx
    exact isL_fz _
  have hlen := cpl_len l 60
  have f := f39 (d := d) hv hm
  cases hq : min l.length 60 with
  | zero =>
    rw [hq] at f
    have f' : evF tab it m 39 [.agg [.int .i64 d, pv]] [] = some (.agg [.int .i64 d, .nilS], []) := f
    clear f
    refine ⟨.nilS, ⟨hg, .inl ⟨rfl, List.eq_nil_of_length_eq_zero (by omega)⟩⟩, fun H => ?_⟩
    exact callPure_of (e' H) f' (by simp [idFreeL, AV.idFree, fv]) rfl
  | succ n =>
    rw [hq] at f
    have f' : evF tab it m 39 [.agg [.int .i64 d, pv]] [] = some (.agg [.int .i64 d, .sl 0 3 0 (n + 1)], [some (.data (pcE (cpl (l.take 60))))]) := f
    clear f
    have hp := pcE_len (cpl (l.take 60))
    refine ⟨_, ⟨hg, .inr rfl⟩, fun H => ?_⟩
    rw [hlen, Nat.min_comm, hq] at hp ⊢
    refine callPure_of (e' H) f' (by simp [idFreeL, AV.idFree, fv]) ?_
    simp [idFreeL, AV.idFree, frzV, frzL, Heap.data?, hp, List.take_of_length_le]
theorem cpl_small (l : List En) : (cpl (l.take 60)).length ≤ 60 ∧ ∀ e ∈ cpl (l.take 60), e.f.length ≤ 20 := by
  refine ⟨by simp [cpl]; omega, fun e he => ?_⟩
  obtain ⟨y, -, rfl⟩ := List.mem_map.1 he
  simp [cpE]; omega
/-- law 14 -/
theorem f14 {n d : Int} {pv : AV} {l : List En} (hv : IsP pv l) : ∃ m H', evF tab it m 14 [.int .i64 n, .agg [.int .i64 d, pv]] [] = some (.bool true, H') := by
  refine ⟨60001, [], ?_⟩
  have h18 := c18
  have fv := hv.free
  obtain ⟨py, hy, e39⟩ := c39 (d := d) hv (m := 60000) (by omega)
  obtain ⟨s1, s2⟩ := cpl_small l
  generalize cpl (l.take 60) = L at *
  have hs : Small L := ⟨by omega, fun e he => by have := s2 e he; omega⟩
  have e40 := fun H => c40 (d := d) hy s1 (fun e he => by have := s2 e he; omega) (m := 60000) (by omega) H
  have e17 := fun H => c17 (m := 60000) (by omega) n H
  have hx : (AV.agg [.int .i64 d, py]).idFree = true := by simp [AV.idFree, idFreeL, hy.free]
  have ha : idFreeL [AV.int .i64 n, .agg [.int .i64 d, py]] = true := by simp [AV.idFree, idFreeL, hy.free]
  by_cases hn : IsNum n
  · have e38 := fun H => callPure_free (H := H) ha (by simp) (f38 (d := d) hn hy hs (m := 60000) (by omega)) rfl
    have e31 := fun H => callPure_free (H := H) ha (by simp) (f31 (d := d) hn hy hs (m := 60000) (by omega)) rfl
    simp only [hn, decide_true] at e17
    refine f_enter rfl rfl ?_
    generalize evF tab it 60000 = call at *
    have fo : pv.one = true := by obtain ⟨_, ⟨rfl, _⟩ | rfl⟩ := hv <;> rfl
    have fy : py.one = true := by obtain ⟨_, ⟨rfl, _⟩ | rfl⟩ := hy <;> rfl
    have o1 : ∀ x : Int, (AV.int .i64 x).one = true := fun _ => rfl
    have oa : evE call [] (.box false) [.agg [.int .i64 d, pv]] = some (.ptr 0 0, [some (.box [.int .i64 d, pv])]) := by
      simp [evE, cells_agg, oneL, o1, fo, mkHO]
    have b1 : (AV.agg [.int .i64 d, py]).cells = [.int .i64 d, py] := by obtain ⟨_, ⟨rfl, _⟩ | rfl⟩ := hy <;> rfl
    have b2 : oneL [.int .i64 d, py] = true := by simp [oneL, o1, fy]
    by_cases hR : RV n d L
    · simp only [hR, if_true, decide_true] at e38 e31
      repeat' first
 | (apply s_mov; (focus ((conv => lhs; whnf); done)))
 | (apply s_gT; exact rfl)
 | (apply c_nil)
 | (apply s_pickT; exact rfl; (focus ((conv => lhs; whnf); done)))
 | (apply s_notT; exact rfl)
 | ((first | apply s_lss | apply s_leq | apply s_gtr | apply s_geq | apply s_eql | apply s_neq); exact rfl; all_goals (intro _; try (exfalso; omega)))
 | (apply s_en; (focus (repeat (first | apply opds_nil | (apply opds_cons; (first | (focus ((conv => lhs; whnf); done)) | exact rfl))))); exact oa)
 | (apply s_st; (focus (repeat (first | apply opds_nil | (apply opds_cons; (first | (focus ((conv => lhs; whnf); done)) | exact rfl))))); exact e_stA rfl b1 rfl b2 rfl)
 | (apply s_cn; (focus (repeat (first | apply opds_nil | (apply opds_cons; (first | (focus ((conv => lhs; whnf); done)) | exact rfl))))); exact e39 _)
 | (apply s_cn; (focus (repeat (first | apply opds_nil | (apply opds_cons; (first | (focus ((conv => lhs; whnf); done)) | exact rfl))))); exact e40 _)
 | (apply s_cn; (focus (repeat (first | apply opds_nil | (apply opds_cons; (first | (focus ((conv => lhs; whnf); done)) | exact rfl))))); exact e17 _)
 | (apply s_cn; (focus (repeat (first | apply opds_nil | (apply opds_cons; (first | (focus ((conv => lhs; whnf); done)) | exact rfl))))); exact e38 _)
 | (apply s_cn; (focus (repeat (first | apply opds_nil | (apply opds_cons; (first | (focus ((conv => lhs; whnf); done)) | exact rfl))))); exact e31 _)
 | (apply s_cn; (focus (repeat (first | apply opds_nil | (apply opds_cons; (first | (focus ((conv => lhs; whnf); done)) | exact rfl))))); exact h18 _)
 | (apply isE; apply s_ed; (focus ((conv => lhs; whnf); done)))
 | (apply s_pd; (focus ((conv => lhs; whnf); done)))
 | (apply c_seq)
 | (apply c_reg)
 | (apply c_skip)
 | (apply c_ret)
 | (apply c_condF; exact rfl)
 | (with_reducible apply k_c)
      all_goals first | exact fin_t (by (conv => lhs; whnf)) (by rfl) rfl | (exfalso; omega)
    · simp only [hR, if_false, decide_false] at e38 e31
      repeat' first
 | (apply s_mov; (focus ((conv => lhs; whnf); done)))
 | (apply s_gT; exact rfl)
 | (apply c_nil)
 | (apply s_pickT; exact rfl; (focus ((conv => lhs; whnf); done)))
 | (apply s_notT; exact rfl)
 | (apply s_notF; exact rfl)
 | ((first | apply s_lss | apply s_leq | apply s_gtr | apply s_geq | apply s_eql | apply s_neq); exact rfl; all_goals (intro _; try (exfalso; omega)))
 | (apply s_en; (focus (repeat (first | apply opds_nil | (apply opds_cons; (first | (focus ((conv => lhs; whnf); done)) | exact rfl))))); exact oa)
 | (apply s_st; (focus (repeat (first | apply opds_nil | (apply opds_cons; (first | (focus ((conv => lhs; whnf); done)) | exact rfl))))); exact e_stA rfl b1 rfl b2 rfl)
 | (apply s_cn; (focus (repeat (first | apply opds_nil | (apply opds_cons; (first | (focus ((conv => lhs; whnf); done)) | exact rfl))))); exact e39 _)
 | (apply s_cn; (focus (repeat (first | apply opds_nil | (apply opds_cons; (first | (focus ((conv => lhs; whnf); done)) | exact rfl))))); exact e40 _)
 | (apply s_cn; (focus (repeat (first | apply opds_nil | (apply opds_cons; (first | (focus ((conv => lhs; whnf); done)) | exact rfl))))); exact e17 _)
 | (apply s_cn; (focus (repeat (first | apply opds_nil | (apply opds_cons; (first | (focus ((conv => lhs; whnf); done)) | exact rfl))))); exact e38 _)
 | (apply s_cn; (focus (repeat (first | apply opds_nil | (apply opds_cons; (first | (focus ((conv => lhs; whnf); done)) | exact rfl))))); exact e31 _)
 | (apply s_cn; (focus (repeat (first | apply opds_nil | (apply opds_cons; (first | (focus ((conv => lhs; whnf); done)) | exact rfl))))); exact h18 _)
 | (apply isE; apply s_ed; (focus ((conv => lhs; whnf); done)))
 | (apply s_pd; (focus ((conv => lhs; whnf); done)))
 | (apply c_seq)
 | (apply c_reg)
 | (apply c_skip)
 | (apply c_ret)
 | (apply c_condT; exact rfl)
 | (apply c_condF; exact rfl)
 | (with_reducible apply k_c)
      all_goals first | exact fin_t (by (conv => lhs; whnf)) (by rfl) rfl | (exfalso; omega)
  · have e38 := fun H => callPure_free (H := H) ha (by simp) (f38e (d := d) hn hy (m := 60000) (by omega)) rfl
    simp only [hn, decide_false] at e17
    refine f_enter rfl rfl ?_
    generalize evF tab it 60000 = call at *
    have fo : pv.one = true := by obtain ⟨_, ⟨rfl, _⟩ | rfl⟩ := hv <;> rfl
    have fy : py.one = true := by obtain ⟨_, ⟨rfl, _⟩ | rfl⟩ := hy <;> rfl
    have o1 : ∀ x : Int, (AV.int .i64 x).one = true := fun _ => rfl
    have oa : evE call [] (.box false) [.agg [.int .i64 d, pv]] = some (.ptr 0 0, [some (.box [.int .i64 d, pv])]) := by
      simp [evE, cells_agg, oneL, o1, fo, mkHO]
    have b1 : (AV.agg [.int .i64 d, py]).cells = [.int .i64 d, py] := by obtain ⟨_, ⟨rfl, _⟩ | rfl⟩ := hy <;> rfl
    have b2 : oneL [.int .i64 d, py] = true := by simp [oneL, o1, fy]
    repeat' first
 | (apply s_mov; (focus ((conv => lhs; whnf); done)))
 | (apply s_gT; exact rfl)
 | (apply c_nil)
 | (apply s_pickT; exact rfl; (focus ((conv => lhs; whnf); done)))
 | (apply s_notT; exact rfl)
 | (apply s_notF; exact rfl)
 | ((first | apply s_lss | apply s_leq | apply s_gtr | apply s_geq | apply s_eql | apply s_neq); exact rfl; all_goals (intro _; try (exfalso; omega)))
 | (apply s_en; (focus (repeat (first | apply opds_nil | (apply opds_cons; (first | (focus ((conv => lhs; whnf); done)) | exact rfl))))); exact oa)
 | (apply s_st; (focus (repeat (first | apply opds_nil | (apply opds_cons; (first | (focus ((conv => lhs; whnf); done)) | exact rfl))))); exact e_stA rfl b1 rfl b2 rfl)
 | (apply s_cn; (focus (repeat (first | apply opds_nil | (apply opds_cons; (first | (focus ((conv => lhs; whnf); done)) | exact rfl))))); exact e39 _)
 | (apply s_cn; (focus (repeat (first | apply opds_nil | (apply opds_cons; (first | (focus ((conv => lhs; whnf); done)) | exact rfl))))); exact e40 _)
 | (apply s_cn; (focus (repeat (first | apply opds_nil | (apply opds_cons; (first | (focus ((conv => lhs; whnf); done)) | exact rfl))))); exact e17 _)
 | (apply s_cn; (focus (repeat (first | apply opds_nil | (apply opds_cons; (first | (focus ((conv => lhs; whnf); done)) | exact rfl))))); exact e38 _)
 | (apply s_cn; (focus (repeat (first | apply opds_nil | (apply opds_cons; (first | (focus ((conv => lhs; whnf); done)) | exact rfl))))); exact h18 _)
 | (apply isE; apply s_ed; (focus ((conv => lhs; whnf); done)))
 | (apply s_pd; (focus ((conv => lhs; whnf); done)))
 | (apply c_seq)
 | (apply c_reg)
 | (apply c_skip)
 | (apply c_ret)
 | (apply c_condT; exact rfl)
 | (apply c_condF; exact rfl)
 | (with_reducible apply k_c)
    all_goals first | exact fin_t (by (conv => lhs; whnf)) (by rfl) rfl | (exfalso; omega)
end Go.AM.Pr
