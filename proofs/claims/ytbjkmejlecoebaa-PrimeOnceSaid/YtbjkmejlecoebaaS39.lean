/- A part of the proof: S38 S41 S42 S43 S44 S39. -/
import Derived.Test.YtbjkmejlecoebaaS37
import Derived.Test.YtbjkmejlecoebaaPc
import Derived.Test.YtbjkmejlecoebaaM3
import Derived.Shelf.SlIterI.Nil
import Derived.Shelf.SortM.Plain
import Derived.Shelf.SortM.SortNone
import Derived.Test.YtbjkmejlecoebaaProg
set_option linter.unusedSectionVars false
set_option linter.unusedVariables false
set_option linter.unusedSimpArgs false
namespace Go.AM.Pr
open Go.AM.Num
set_option maxHeartbeats 4000000
theorem T51 : T 51 = some ⟨.struct [(0, 3), (1, 3), (2, 38)], 3, 40, [.int .i64 0, .int .i64 0, .nilS]⟩ := rfl
theorem T45 : T 45 = some ⟨.slice 51, 1, 24, [.nilS]⟩ := rfl
theorem T47 : T 47 = some ⟨.struct [(0, 3), (1, 45)], 2, 32, [.int .i64 0, .nilS]⟩ := rfl
theorem ty_en {k : Nat} {cs : List AV} (h : TyAV T k 51 cs) : ∃ e : En, cs = [.int .i64 e.p, .int .i64 e.w, e.fv] ∧ IsL e.fv e.f := by
  cases k with
  | zero => exact h.elim
  | succ k =>
    obtain ⟨s', hs', hm0⟩ := h
    rw [T51] at hs'; cases hs'
    obtain ⟨hl, hm⟩ := hm0
    obtain ⟨s0, e0, t0⟩ := hm (0, 3) (by simp)
    obtain ⟨s1, e1, t1⟩ := hm (1, 3) (by simp)
    obtain ⟨s2, e2, t2⟩ := hm (2, 38) (by simp)
    simp only at e0 e1 e2 hl
    rw [T3] at e0 e1; rw [T38] at e2
    cases e0; cases e1; cases e2
    match cs, hl with
    | [a, b, c], _ =>
      simp at t0 t1 t2
      obtain ⟨p, hp, -⟩ := ty_int t0
      obtain ⟨w, hw, -⟩ := ty_int t1
      obtain ⟨z, f, hz, hf⟩ := ty_ints t2
      simp only [List.cons.injEq, and_true] at hp hw hz
      subst hp; subst hw; subst hz
      exact ⟨⟨p, w, c, f⟩, rfl, hf⟩
theorem ens_of : ∀ (len : Nat) (cs : List AV), cs.length = len * 3 → (∀ i, i < len → ∃ e : En, (cs.drop (i * 3)).take 3 = [.int .i64 e.p, .int .i64 e.w, e.fv] ∧ IsL e.fv e.f) → ∃ l : List En, l.length = len ∧ cs = pcE l ∧ GoodE l
  | 0, cs, hl, _ => ⟨[], rfl, by simpa [pcE] using hl, by intro e he; cases he⟩
  | n + 1, cs, hl, h => by
    match cs, hl with
    | [], hl => simp at hl
    | [_], hl => simp at hl; omega
    | [_, _], hl => simp at hl; omega
    | a :: b :: c :: r, hl =>
      obtain ⟨e, he, hf⟩ := h 0 (by omega)
      obtain ⟨l, h1, h2, h3⟩ := ens_of n r (by simp only [List.length_cons] at hl; omega) fun i hi => by
        obtain ⟨e, he, hf⟩ := h (i + 1) (by omega)
        rw [show (i + 1) * 3 = i * 3 + 1 + 1 + 1 by omega] at he
        exact ⟨e, he, hf⟩
      simp at he
      obtain ⟨rfl, rfl, rfl⟩ := he
      refine ⟨e :: l, by simp [h1], by rw [h2]; rfl, fun x hx => ?_⟩
      rcases List.mem_cons.1 hx with rfl | hx
      · exact hf
      · exact h3 x hx
theorem ty_ens {k : Nat} {cs : List AV} (h : TyAV T k 45 cs) : ∃ x l, cs = [x] ∧ IsP x l := by
  cases k with
  | zero => exact h.elim
  | succ k =>
    obtain ⟨s, hs, hm⟩ := h
    rw [T45] at hs; cases hs
    rcases hm with rfl | ⟨len, cells, se, h1, rfl, h3, h5, h4⟩
    · exact ⟨_, [], rfl, (by intro e he; cases he), .inl ⟨rfl, rfl⟩⟩
    · rw [T51] at h1; cases h1
      obtain ⟨l, e1, e2, e3⟩ := ens_of len cells h3 fun i hi => ty_en (h4 i hi)
      exact ⟨_, l, rfl, e3, .inr (by rw [e1, e2])⟩
theorem arg_verdict {k : Nat} {x : AV} (h : TyArg T k 47 x) : ∃ (d : Int) (pv : AV) (l : List En), x = .agg [.int .i64 d, pv] ∧ IsP pv l := by
  rcases h with ⟨s, xs, hs, ha, rfl, h⟩ | ⟨s, hs, ha, h⟩
  · cases k with
    | zero => exact h.elim
    | succ k =>
      obtain ⟨s', hs', hm0⟩ := h
      rw [T47] at hs'; cases hs'
      obtain ⟨hl, hm⟩ := hm0
      obtain ⟨s0, e0, t0⟩ := hm (0, 3) (by simp)
      obtain ⟨s1, e1, t1⟩ := hm (1, 45) (by simp)
      simp only at e0 e1 hl
      rw [T3] at e0; rw [T45] at e1
      cases e0; cases e1
      match xs, hl with
      | [a, b], _ =>
        simp at t0 t1
        obtain ⟨d, hd, -⟩ := ty_int t0
        obtain ⟨y, m, hy, h1⟩ := ty_ens t1
        simp only [List.cons.injEq, and_true] at hd hy
        subst hd; subst hy
        exact ⟨d, b, m, rfl, h1⟩
  · rw [T47] at hs; cases hs; cases ha
theorem callPure_of {call : CallF} {f : Nat} {args args' : List AV} {H : Heap} {r : AV × Heap} {v : AV} (ha : frzL H 40 args = some args') (hf : call f args' [] = some r) (hi : idFreeL args = true) (hz : frzV r.2 40 r.1 = some v) : callPure call true f args H = some (v, H) := by
  unfold callPure
  rw [ha, Option.bind_some, hf, Option.bind_some, hi, Bool.true_or, if_pos rfl, if_pos rfl, hz]
  rfl
theorem c39 {d : Int} {pv : AV} {l : List En} (hv : IsP pv l) {m : Nat} (hm : 100 ≤ m) : ∃ pv', IsP pv' (cpl (l.take 60)) ∧ ∀ H, callPure (evF tab it m) true 39 [.agg [.int .i64 d, pv]] H = some (.agg [.int .i64 d, pv'], H) := by
  have fv := hv.free
  have e : frzL [] 40 [AV.agg [.int .i64 d, pv]] = some [AV.agg [.int .i64 d, pv]] := by simp [frzL, frzV, idFreeL, AV.idFree, fv]
  have e' : ∀ H, frzL H 40 [AV.agg [.int .i64 d, pv]] = some [AV.agg [.int .i64 d, pv]] := fun H => by simp [frzL, frzV, idFreeL, AV.idFree, fv]
  have hg : GoodE (cpl (l.take 60)) := by
    intro x hx
    obtain ⟨y, -, rfl⟩ := List.mem_map.1 hx
    exact isL_fz _
  have hlen := cpl_len l 60
  have f := f39 (d := d) hv hm
  cases hq : min l.length 60 with
  | zero =>
    rw [hq] at f
    have f' : evF tab it m 39 [.agg [.int .i64 d, pv]] [] = some (.agg [.int .i64 d, .nilS], []) := f
    clear f
    refine ⟨.nilS, ⟨hg, .inl ⟨rfl, List.eq_nil_of_length_eq_zero (by omega)⟩⟩, fun H => ?_⟩
    exact callPure_of (e' H) f' (by simp [idFreeL, AV.idFree, fv]) rfl
  | succ n =>
    rw [hq] at f
    have f' : evF tab it m 39 [.agg [.int .i64 d, pv]] [] = some (.agg [.int .i64 d, .sl 0 3 0 (n + 1)], [some (.data (pcE (cpl (l.take 60))))]) := f
    clear f
    have hp := pcE_len (cpl (l.take 60))
    refine ⟨_, ⟨hg, .inr rfl⟩, fun H => ?_⟩
    rw [hlen, Nat.min_comm, hq] at hp ⊢
    refine callPure_of (e' H) f' (by simp [idFreeL, AV.idFree, fv]) ?_
    simp [idFreeL, AV.idFree, frzV, frzL, Heap.data?, hp, List.take_of_length_le]
theorem cpl_small (l : List En) : (cpl (l.take 60)).length ≤ 60 ∧ ∀ e ∈ cpl (l.take 60), e.f.length ≤ 20 := by
  refine ⟨by simp [cpl]; omega, fun e he => ?_⟩
  obtain ⟨y, -, rfl⟩ := List.mem_map.1 he
  simp [cpE]; omega
/-- law 14 -/
theorem f14 {n d : Int} {pv : AV} {l : List En} (hv : IsP pv l) : ∃ m H', evF tab it m 14 [.int .i64 n, .agg [.int .i64 d, pv]] [] = some (.bool true, H') := by
  refine ⟨60001, [], ?_⟩
  have h18 := c18
  have fv := hv.free
  obtain ⟨py, hy, e39⟩ := c39 (d := d) hv (m := 60000) (by omega)
  obtain ⟨s1, s2⟩ := cpl_small l
  generalize cpl (l.take 60) = L at *
  have hs : Small L := ⟨by omega, fun e he => by have := s2 e he; omega⟩
  have e40 := fun H => c40 (d := d) hy s1 (fun e he => by have := s2 e he; omega) (m := 60000) (by omega) H
  have e17 := fun H => c17 (m := 60000) (by omega) n H
  have hx : (AV.agg [.int .i64 d, py]).idFree = true := by simp [AV.idFree, idFreeL, hy.free]
  have ha : idFreeL [AV.int .i64 n, .agg [.int .i64 d, py]] = true := by simp [AV.idFree, idFreeL, hy.free]
  by_cases hn : IsNum n
  · have e38 := fun H => callPure_free (H := H) ha (by simp) (f38 (d := d) hn hy hs (m := 60000) (by omega)) rfl
    have e31 := fun H => callPure_free (H := H) ha (by simp) (f31 (d := d) hn hy hs (m := 60000) (by omega)) rfl
    simp only [hn, decide_true] at e17
    refine f_enter rfl rfl ?_
    generalize evF tab it 60000 = call at *
    have fo : pv.one = true := by obtain ⟨_, ⟨rfl, _⟩ | rfl⟩ := hv <;> rfl
    have fy : py.one = true := by obtain ⟨_, ⟨rfl, _⟩ | rfl⟩ := hy <;> rfl
    have o1 : ∀ x : Int, (AV.int .i64 x).one = true := fun _ => rfl
    have oa : evE call [] (.box false) [.agg [.int .i64 d, pv]] = some (.ptr 0 0, [some (.box [.int .i64 d, pv])]) := by
      simp [evE, cells_agg, oneL, o1, fo, mkHO]
    have b1 : (AV.agg [.int .i64 d, py]).cells = [.int .i64 d, py] := by obtain ⟨_, ⟨rfl, _⟩ | rfl⟩ := hy <;> rfl
    have b2 : oneL [.int .i64 d, py] = true := by simp [oneL, o1, fy]
    by_cases hR : RV n d L
    · simp only [hR, if_true, decide_true] at e38 e31
      repeat' first
 | (apply s_mov; (focus ((conv => lhs; whnf); done)))
 | (apply s_gT; exact rfl)
 | (apply c_nil)
 | (apply s_pickT; exact rfl; (focus ((conv => lhs; whnf); done)))
 | (apply s_notT; exact rfl)
 | ((first | apply s_lss | apply s_leq | apply s_gtr | apply s_geq | apply s_eql | apply s_neq); exact rfl; all_goals (intro _; try (exfalso; omega)))
 | (apply s_en; (focus (repeat (first | apply opds_nil | (apply opds_cons; (first | (focus ((conv => lhs; whnf); done)) | exact rfl))))); exact oa)
 | (apply s_st; (focus (repeat (first | apply opds_nil | (apply opds_cons; (first | (focus ((conv => lhs; whnf); done)) | exact rfl))))); exact e_stA rfl b1 rfl b2 rfl)
 | (apply s_cn; (focus (repeat (first | apply opds_nil | (apply opds_cons; (first | (focus ((conv => lhs; whnf); done)) | exact rfl))))); exact e39 _)
 | (apply s_cn; (focus (repeat (first | apply opds_nil | (apply opds_cons; (first | (focus ((conv => lhs; whnf); done)) | exact rfl))))); exact e40 _)
 | (apply s_cn; (focus (repeat (first | apply opds_nil | (apply opds_cons; (first | (focus ((conv => lhs; whnf); done)) | exact rfl))))); exact e17 _)
 | (apply s_cn; (focus (repeat (first | apply opds_nil | (apply opds_cons; (first | (focus ((conv => lhs; whnf); done)) | exact rfl))))); exact e38 _)
 | (apply s_cn; (focus (repeat (first | apply opds_nil | (apply opds_cons; (first | (focus ((conv => lhs; whnf); done)) | exact rfl))))); exact e31 _)
 | (apply s_cn; (focus (repeat (first | apply opds_nil | (apply opds_cons; (first | (focus ((conv => lhs; whnf); done)) | exact rfl))))); exact h18 _)
 | (apply isE; apply s_ed; (focus ((conv => lhs; whnf); done)))
 | (apply s_pd; (focus ((conv => lhs; whnf); done)))
 | (apply c_seq)
 | (apply c_reg)
 | (apply c_skip)
 | (apply c_ret)
 | (apply c_condF; exact rfl)
 | (with_reducible apply k_c)
      all_goals first | exact fin_t (by (conv => lhs; whnf)) (by rfl) rfl | (exfalso; omega)
    · simp only [hR, if_false, decide_false] at e38 e31
      repeat' first
 | (apply s_mov; (focus ((conv => lhs; whnf); done)))
 | (apply s_gT; exact rfl)
 | (apply c_nil)
 | (apply s_pickT; exact rfl; (focus ((conv => lhs; whnf); done)))
 | (apply s_notT; exact rfl)
 | (apply s_notF; exact rfl)
 | ((first | apply s_lss | apply s_leq | apply s_gtr | apply s_geq | apply s_eql | apply s_neq); exact rfl; all_goals (intro _; try (exfalso; omega)))
 | (apply s_en; (focus (repeat (first | apply opds_nil | (apply opds_cons; (first | (focus ((conv => lhs; whnf); done)) | exact rfl))))); exact oa)
 | (apply s_st; (focus (repeat (first | apply opds_nil | (apply opds_cons; (first | (focus ((conv => lhs; whnf); done)) | exact rfl))))); exact e_stA rfl b1 rfl b2 rfl)
 | (apply s_cn; (focus (repeat (first | apply opds_nil | (apply opds_cons; (first | (focus ((conv => lhs; whnf); done)) | exact rfl))))); exact e39 _)
 | (apply s_cn; (focus (repeat (first | apply opds_nil | (apply opds_cons; (first | (focus ((conv => lhs; whnf); done)) | exact rfl))))); exact e40 _)
 | (apply s_cn; (focus (repeat (first | apply opds_nil | (apply opds_cons; (first | (focus ((conv => lhs; whnf); done)) | exact rfl))))); exact e17 _)
 | (apply s_cn; (focus (repeat (first | apply opds_nil | (apply opds_cons; (first | (focus ((conv => lhs; whnf); done)) | exact rfl))))); exact e38 _)
 | (apply s_cn; (focus (repeat (first | apply opds_nil | (apply opds_cons; (first | (focus ((conv => lhs; whnf); done)) | exact rfl))))); exact e31 _)
 | (apply s_cn; (focus (repeat (first | apply opds_nil | (apply opds_cons; (first | (focus ((conv => lhs; whnf); done)) | exact rfl))))); exact h18 _)
 | (apply isE; apply s_ed; (focus ((conv => lhs; whnf); done)))
 | (apply s_pd; (focus ((conv => lhs; whnf); done)))
 | (apply c_seq)
 | (apply c_reg)
 | (apply c_skip)
 | (apply c_ret)
 | (apply c_condT; exact rfl)
 | (apply c_condF; exact rfl)
 | (with_reducible apply k_c)
      all_goals first | exact fin_t (by (conv => lhs; whnf)) (by rfl) rfl | (exfalso; omega)
  · have e38 := fun H => callPure_free (H := H) ha (by simp) (f38e (d := d) hn hy (m := 60000) (by omega)) rfl
    simp only [hn, decide_false] at e17
    refine f_enter rfl rfl ?_
    generalize evF tab it 60000 = call at *
    have fo : pv.one = true := by obtain ⟨_, ⟨rfl, _⟩ | rfl⟩ := hv <;> rfl
    have fy : py.one = true := by obtain ⟨_, ⟨rfl, _⟩ | rfl⟩ := hy <;> rfl
    have o1 : ∀ x : Int, (AV.int .i64 x).one = true := fun _ => rfl
    have oa : evE call [] (.box false) [.agg [.int .i64 d, pv]] = some (.ptr 0 0, [some (.box [.int .i64 d, pv])]) := by
      simp [evE, cells_agg, oneL, o1, fo, mkHO]
    have b1 : (AV.agg [.int .i64 d, py]).cells = [.int .i64 d, py] := by obtain ⟨_, ⟨rfl, _⟩ | rfl⟩ := hy <;> rfl
    have b2 : oneL [.int .i64 d, py] = true := by simp [oneL, o1, fy]
    repeat' first
 | (apply s_mov; (focus ((conv => lhs; whnf); done)))
 | (apply s_gT; exact rfl)
 | (apply c_nil)
 | (apply s_pickT; exact rfl; (focus ((conv => lhs; whnf); done)))
 | (apply s_notT; exact rfl)
 | (apply s_notF; exact rfl)
 | ((first | apply s_lss | apply s_leq | apply s_gtr | apply s_geq | apply s_eql | apply s_neq); exact rfl; all_goals (intro _; try (exfalso; omega)))
 | (apply s_en; (focus (repeat (first | apply opds_nil | (apply opds_cons; (first | (focus ((conv => lhs; whnf); done)) | exact rfl))))); exact oa)
 | (apply s_st; (focus (repeat (first | apply opds_nil | (apply opds_cons; (first | (focus ((conv => lhs; whnf); done)) | exact rfl))))); exact e_stA rfl b1 rfl b2 rfl)
 | (apply s_cn; (focus (repeat (first | apply opds_nil | (apply opds_cons; (first | (focus ((conv => lhs; whnf); done)) | exact rfl))))); exact e39 _)
 | (apply s_cn; (focus (repeat (first | apply opds_nil | (apply opds_cons; (first | (focus ((conv => lhs; whnf); done)) | exact rfl))))); exact e40 _)
 | (apply s_cn; (focus (repeat (first | apply opds_nil | (apply opds_cons; (first | (focus ((conv => lhs; whnf); done)) | exact rfl))))); exact e17 _)
 | (apply s_cn; (focus (repeat (first | apply opds_nil | (apply opds_cons; (first | (focus ((conv => lhs; whnf); done)) | exact rfl))))); exact e38 _)
 | (apply s_cn; (focus (repeat (first | apply opds_nil | (apply opds_cons; (first | (focus ((conv => lhs; whnf); done)) | exact rfl))))); exact h18 _)
 | (apply isE; apply s_ed; (focus ((conv => lhs; whnf); done)))
 | (apply s_pd; (focus ((conv => lhs; whnf); done)))
 | (apply c_seq)
 | (apply c_reg)
 | (apply c_skip)
 | (apply c_ret)
 | (apply c_condT; exact rfl)
 | (apply c_condF; exact rfl)
 | (with_reducible apply k_c)
    all_goals first | exact fin_t (by (conv => lhs; whnf)) (by rfl) rfl | (exfalso; omega)
end Go.AM.Pr

set_option linter.unusedSectionVars false
set_option linter.unusedVariables false
set_option linter.unusedSimpArgs false
namespace Go.AM.Pr
open Go.AM.Num
/-- the least witness -/
noncomputable def witN (p : Nat) : Nat := if h : IsPr p then (least_wit h).choose else 0
theorem witN_spec {p : Nat} (h : IsPr p) : 1 ≤ witN p ∧ witN p < p ∧ Wit (witN p) p (ps (facOf (p - 1))) ∧ ∀ k, 1 ≤ k → k < witN p → ¬ Wit k p (ps (facOf (p - 1))) := by
  unfold witN
  rw [dif_pos h]
  exact (least_wit h).choose_spec
theorem wit_two {p : Nat} (h : IsPr p) (h3 : 3 ≤ p) : 2 ≤ witN p := by
  obtain ⟨w1, w2, w3, w4⟩ := witN_spec h
  rcases (by omega : witN p = 1 ∨ 2 ≤ witN p) with e | e
  · exfalso
    rw [e] at w3
    have := (wit_iff.1 w3).2
    have hL := fac_pm h
    have hne : facOf (p - 1) ≠ [] := fun e' => by
      have := hL.prod
      rw [e'] at this
      simp [prodL] at this
      omega
    obtain ⟨x, r, hx⟩ := List.exists_cons_of_ne_nil hne
    refine this x (by rw [hx]; exact List.mem_cons_self) ?_
    rw [Nat.one_pow]
    exact Nat.mod_eq_of_lt (by omega)
  · exact e
noncomputable def ent (p : Nat) : AV := if p = 2 then .agg [.int .i64 2, .int .i64 1, .nilS] else .agg [.int .i64 (p : Int), .int .i64 (witN p : Int), fzL (ps (facOf (p - 1)))]
theorem ent_free (p : Nat) : (ent p).idFree = true := by
  unfold ent
  split
  · rfl
  · have := (isL_fz (ps (facOf (p - 1)))).free
    simp [AV.idFree, idFreeL, this]
noncomputable def KM (s : List Nat) : List (Int × AV) := s.map fun (p : Nat) => ((p : Int), ent p)
theorem KM_find (p : Nat) : ∀ s, findL (p : Int) (KM s) = if p ∈ s then some (ent p) else none
  | [] => by simp [KM, findL]
  | x :: s => by
    have ih := KM_find p s
    have e : KM (x :: s) = ((x : Int), ent x) :: KM s := rfl
    rw [e]
    simp only [findL, ih, List.mem_cons]
    by_cases h : p = x
    · subst h; simp
    · rw [if_neg (by omega)]
      simp [h]
theorem KM_put (p : Nat) : ∀ s, p ∉ s → putL (p : Int) (ent p) (KM s) = KM (s ++ [p])
  | [], _ => rfl
  | x :: s, h => by
    have e : KM (x :: s) = ((x : Int), ent x) :: KM s := rfl
    rw [e]
    simp only [putL]
    simp only [List.mem_cons, not_or] at h
    rw [if_neg (by omega), KM_put p s h.2]
    rfl
/-- prove: the primes that are known behind it -/
noncomputable def pvF : Nat → Nat → List Nat → List Nat
  | 0, _, s => s
  | n + 1, p, s => if p ∈ s then s else (if p = 2 then s else (facOf (p - 1)).foldl (fun s x => pvF n x.1 s) s) ++ [p]
noncomputable def pvL (n : Nat) (s : List Nat) (l : List (Nat × Nat)) : List Nat := l.foldl (fun s x => pvF n x.1 s) s
theorem pvL_app (n : Nat) (s : List Nat) (l : List (Nat × Nat)) (x : Nat × Nat) : pvL n s (l ++ [x]) = pvF n x.1 (pvL n s l) := by simp [pvL]
theorem pvL_le {n : Nat} {B : Nat} (hB : ∀ p s y, y ∈ pvF n p s → y ∈ s ∨ y ≤ p) : ∀ (l : List (Nat × Nat)) (s : List Nat) y, y ∈ pvL n s l → (∀ x ∈ l, x.1 ≤ B) → y ∈ s ∨ y ≤ B
  | [], s, y, h, _ => .inl h
  | x :: l, s, y, h, hb => by
    have h' : y ∈ pvL n (pvF n x.1 s) l := h
    rcases pvL_le hB l _ y h' (fun z hz => hb z (List.mem_cons_of_mem _ hz)) with h1 | h1
    · rcases hB _ _ _ h1 with h2 | h2
      · exact .inl h2
      · exact .inr (Nat.le_trans h2 (hb x List.mem_cons_self))
    · exact .inr h1
theorem fac_lt {p : Nat} (hp : 2 ≤ p) : ∀ x ∈ facOf (p - 1), IsPr x.1 ∧ x.1 ≤ p - 1 ∧ x.1 ∣ p - 1 := fun x hx => by
  have hL := facOf_fac (n := p - 1) (by omega)
  have hd : x.1 ∣ p - 1 := by
    have := mem_dvd_prod hx
    rw [hL.prod] at this
    exact Nat.dvd_trans (Nat.dvd_of_pow_dvd (hL.all x hx).2 (Nat.dvd_refl _)) this
  exact ⟨(hL.all x hx).1, Nat.le_of_dvd (by omega) hd, hd⟩
theorem pvF_le : ∀ (n p : Nat) (s : List Nat) y, y ∈ pvF n p s → y ∈ s ∨ y ≤ p
  | 0, p, s, y, h => .inl h
  | n + 1, p, s, y, h => by
    unfold pvF at h
    split at h
    · exact .inl h
    · rcases List.mem_append.1 h with h | h
      · split at h
        · exact .inl h
        · rcases Nat.lt_or_ge p 2 with h2 | h2
          · have : facOf (p - 1) = [] := by
              rw [show p - 1 = 0 by omega]
              simp [facOf]
            rw [this] at h
            exact .inl h
          · refine pvL_le (fun p s y => pvF_le n p s y) _ s y h fun x hx => ?_
            have := (fac_lt h2 x hx).2.1
            omega
      · simp at h; subst h; exact .inr (Nat.le_refl _)
end Go.AM.Pr

set_option linter.unusedSectionVars false
set_option linter.unusedVariables false
set_option linter.unusedSimpArgs false
namespace Go.AM.Pr
attribute [local go_sem] gc subHeap reach_skip ren_free reach_new reach_newp reach_end rangeL roots boxCells nodupB posOf renL AV.ren pickO renH renO looks look bindEnv envOf reach_int reach_bool reach_nilS reach_rd putRow cells_sl cells_int cells_bool cells_nilS cells_rd cells_agg reach_agg reach_tup idFreeL idf_sl idf_ptr idf_int idf_bool idf_nilS idf_rd reach_fn reach_mp cells_fn cells_ptr cells_mp idf_mp idf_fn idf_agg idf_tup
open Go.AM.Num
set_option maxHeartbeats 4000000
def cellG (k : Nat) (C : List AV) (M : List (AV × AV)) : Heap := match k with
  | 0 => [some (.box [.nilS]), some (.box [.mp 2]), some (.map M)]
  | k + 1 => [some (.box [.sl 3 1 0 (k + 1)]), some (.box [.mp 2]), some (.map M), some (.data C)]
theorem e_bld1 {call : CallF} {H : Heap} {a : Int} : evE call H (.bldS true true 1 1 [.int .i64 0] [(0, 1)]) [.int .i64 a] = some (.rd 1 1 [.int .i64 a], H) := rfl
theorem f66 {m q t k : Nat} {C : List AV} {M M' : List (AV × AV)} (hC : C.length = k) (hk : k < 1000) (h54 : evF tab it m 54 [.int .i64 (q : Int), .mp 0] [some (.map M)] = some (.tup [], [some (.map M')])) :
    ∃ H', callMut (evF tab it (m + 1)) 66 [.int .i64 (q : Int), .int .i64 (t : Int), .ptr 0 0, .ptr 1 0] (cellG k C M) = some (.tup [], H') ∧
      (∀ a b : Int, gc 3 [.int .i64 a, .fn 66 [.ptr 0 0, .ptr 1 0], .int .i64 b] H' = some ([.int .i64 a, .fn 66 [.ptr 0 0, .ptr 1 0], .int .i64 b], cellG (k + 1) (C ++ [.int .i64 (q : Int)]) M')) ∧
      gc 3 [.tup []] H' = some ([.tup []], cellG (k + 1) (C ++ [.int .i64 (q : Int)]) M') := by
  cases k with
  | zero =>
    obtain rfl : C = [] := List.eq_nil_of_length_eq_zero hC
    have hf : evF tab it (m + 1) 66 [.int .i64 (q : Int), .int .i64 (t : Int), .ptr 0 0, .ptr 1 0] [some (.box [.nilS]), some (.box [.mp 2]), some (.map M)] = some (.tup [], [some (.box [.sl 3 1 0 1]), some (.box [.mp 2]), some (.map M'), some (.data [.int .i64 (q : Int)])]) := by
      have h1 : callMut (evF tab it m) 54 [.int .i64 (q : Int), .mp 2] [some (.box [.sl 3 1 0 1]), some (.box [.mp 2]), some (.map M), some (.data [.int .i64 (q : Int)])] = some (.tup [], [some (.box [.sl 3 1 0 1]), some (.box [.mp 2]), some (.map M'), some (.data [.int .i64 (q : Int)])]) := by
        simp [callMut, subHeap, backOf, writeBack, h54, go_sem]
      refine f_enterH rfl rfl ?_
      generalize evF tab it m = call at *
      repeat' first
 | (apply s_mov; (focus ((conv => lhs; whnf); done)))
 | (apply c_nil)
 | (apply s_en; (focus (repeat (first | apply opds_nil | (apply opds_cons; (first | (focus ((conv => lhs; whnf); done)) | exact rfl))))); exact e_bld1)
 | (apply s_en; (focus (repeat (first | apply opds_nil | (apply opds_cons; (first | (focus ((conv => lhs; whnf); done)) | exact rfl))))); exact e_appz_nil (by omega) (by decide))
 | (apply s_st; (focus (repeat (first | apply opds_nil | (apply opds_cons; (first | (focus ((conv => lhs; whnf); done)) | exact rfl))))); exact e_stBox rfl rfl rfl rfl)
 | (apply s_en; (focus (repeat (first | apply opds_nil | (apply opds_cons; (first | (focus ((conv => lhs; whnf); done)) | exact rfl))))); exact h1)
 | (apply s_pd; exact rfl)
 | (apply c_seq)
 | (apply c_reg)
 | (with_reducible apply k_c)
      simp [finish, ress, tupOf, go_sem]
    refine ⟨[some (.box [.sl 3 1 0 1]), some (.box [.mp 2]), some (.map M'), some (.data [.int .i64 (q : Int)])], ?_, fun a b => ?_, ?_⟩
    · simp [callMut, subHeap, backOf, writeBack, hf, go_sem, cellG]
    · simp [go_sem, cellG]
    · simp [go_sem, cellG]
  | succ k =>
    have hf : evF tab it (m + 1) 66 [.int .i64 (q : Int), .int .i64 (t : Int), .ptr 0 0, .ptr 2 0] [some (.box [.sl 1 1 0 (k + 1)]), some (.data C), some (.box [.mp 3]), some (.map M)] = some (.tup [], [some (.box [.sl 4 1 0 (k + 2)]), none, some (.box [.mp 3]), some (.map M'), some (.data (C ++ [.int .i64 (q : Int)]))]) := by
      have h1 : callMut (evF tab it m) 54 [.int .i64 (q : Int), .mp 3] [some (.box [.sl 4 1 0 (k + 2)]), none, some (.box [.mp 3]), some (.map M), some (.data (C ++ [.int .i64 (q : Int)]))] = some (.tup [], [some (.box [.sl 4 1 0 (k + 2)]), none, some (.box [.mp 3]), some (.map M'), some (.data (C ++ [.int .i64 (q : Int)]))]) := by
        simp [callMut, subHeap, backOf, writeBack, h54, go_sem]
      refine f_enterH rfl rfl ?_
      generalize evF tab it m = call at *
      have hC1 : C.length = (k + 1) * 1 := by omega
      repeat' first
 | (apply s_mov; (focus ((conv => lhs; whnf); done)))
 | (apply c_nil)
 | (apply s_en; (focus (repeat (first | apply opds_nil | (apply opds_cons; (first | (focus ((conv => lhs; whnf); done)) | exact rfl))))); exact e_bld1)
 | (apply s_en; (focus (repeat (first | apply opds_nil | (apply opds_cons; (first | (focus ((conv => lhs; whnf); done)) | exact rfl))))); exact e_appz_sl rfl hC1 (by omega) (by unfold most; omega))
 | (apply s_st; (focus (repeat (first | apply opds_nil | (apply opds_cons; (first | (focus ((conv => lhs; whnf); done)) | exact rfl))))); exact e_stBox rfl rfl rfl rfl)
 | (apply s_en; (focus (repeat (first | apply opds_nil | (apply opds_cons; (first | (focus ((conv => lhs; whnf); done)) | exact rfl))))); exact h1)
 | (apply s_pd; exact rfl)
 | (apply c_seq)
 | (apply c_reg)
 | (with_reducible apply k_c)
      simp [finish, ress, tupOf, go_sem]
    refine ⟨[some (.box [.sl 4 1 0 (k + 2)]), some (.box [.mp 2]), some (.map M'), none, some (.data (C ++ [.int .i64 (q : Int)]))], ?_, fun a b => ?_, ?_⟩
    · simp [callMut, subHeap, backOf, writeBack, hf, go_sem, cellG]
    · simp [go_sem, cellG]
    · simp [go_sem, cellG]
theorem clo66 {n m : Nat} {s : List Nat} {L : List (Nat × Nat)} (hL : L.length ≤ 30)
    (h54 : ∀ l q t r, L = l ++ (q, t) :: r → evF tab it m 54 [.int .i64 ((q : Nat) : Int), .mp 0] [some (.map (mE (KM (pvL n s l))))] = some (.tup [], [some (.map (mE (KM (pvF n q (pvL n s l)))))])) :
    Clo (m + 1) 66 [.ptr 0 0, .ptr 1 0] 3 (fun l => cellG l.length (iL (ps l)) (mE (KM (pvL n s l)))) L where
  hk := rfl
  g2 l a := by cases l <;> simp [cellG, go_sem]
  g3 l a b := by cases l <;> simp [cellG, go_sem]
  g4 l a b c := by cases l <;> simp [cellG, go_sem]
  fin l := by cases l <;> simp [cellG, go_sem]
  call l q t r h := by
    have hl : l.length < 1000 := by rw [h] at hL; simp at hL; omega
    have := f66 (t := t) (C := iL (ps l)) (k := l.length) (by rw [iL_len, ps_len]) hl (h54 l q t r h)
    have e1 : iL (ps (l ++ [(q, t)])) = iL (ps l) ++ [.int .i64 (q : Int)] := by rw [ps_app]; simp [iL, ps]
    simp only [e1, pvL_app, List.length_append, List.length_cons, List.length_nil, Nat.zero_add]
    exact this
end Go.AM.Pr

set_option linter.unusedSectionVars false
set_option linter.unusedVariables false
set_option linter.unusedSimpArgs false
namespace Go.AM.Pr
attribute [local go_sem] gc subHeap reach_skip ren_free reach_new reach_newp reach_end rangeL roots boxCells nodupB posOf renL AV.ren pickO renH renO looks look bindEnv envOf reach_int reach_bool reach_nilS reach_rd putRow cells_sl cells_int cells_bool cells_nilS cells_rd cells_agg reach_agg reach_tup idFreeL idf_sl idf_ptr idf_int idf_bool idf_nilS idf_rd reach_fn reach_mp cells_fn cells_ptr cells_mp idf_mp idf_fn idf_agg idf_tup
open Go.AM.Num
set_option maxHeartbeats 4000000
theorem fz_nil {env : Env} {H : Heap} {s id : Nat} (h : look env s = .ptr id 0) (hH : H[id]? = some (some (.box [.nilS]))) : fzS env H s (some 0) = some (env, H.set id (some (.box [.nilS]))) := by
  simp [fzS, h, hH, evE, AV.one]
theorem fz_sl {env : Env} {H : Heap} {s id j n : Nat} {cs : List AV} (h : look env s = .ptr id 0) (hH : H[id]? = some (some (.box [.sl j 1 0 n]))) (hj : H.data? j = some cs) (hn : cs.length = n) (hne : j ≠ id) :
    fzS env H s (some 0) = some (env, (H.set j none).set id (some (.box [.rd 1 n cs]))) := by
  have hH' : (H.set j none)[id]? = some (some (.box [.sl j 1 0 n])) := by rw [List.getElem?_set_ne hne]; exact hH
  subst hn
  simp [fzS, h, hH, evE, AV.one, hj, hH', List.take_of_length_le]
theorem ent_agg (p : Nat) : ∃ (a b : Int) (x : AV), ent p = .agg [.int .i64 a, .int .i64 b, x] ∧ x.idFree = true ∧ x.one = true ∧ x.cells = [x] := by
  unfold ent
  split
  · exact ⟨_, _, _, rfl, rfl, rfl, rfl⟩
  · have h := isL_fz (ps (facOf (p - 1)))
    obtain ⟨a, b⟩ := isL_one h
    exact ⟨_, _, _, rfl, h.free, a, b⟩
theorem cells3 {a b : Int} {x : AV} (h : x.cells = [x]) : (AV.agg [.int .i64 a, .int .i64 b, x]).cells = [.int .i64 a, .int .i64 b, x] := by
  simp [go_sem, h]
theorem one3 {a b : Int} {x : AV} (h : x.one = true) : oneL [.int .i64 a, .int .i64 b, x] = true := by
  have o1 : ∀ y : Int, (AV.int .i64 y).one = true := fun _ => rfl
  simp [oneL, o1, h]
theorem f54 : ∀ (n p : Nat) (s : List Nat) (m : Nat), p ≤ n → IsPr p → p ≤ 2147483647 → 46500 + 3 * p ≤ m →
    evF tab it m 54 [.int .i64 (p : Int), .mp 0] [some (.map (mE (KM s)))] = some (.tup [], [some (.map (mE (KM (pvF n p s))))])
  | 0, p, s, m, hn, hp, _, _ => by have := hp.1; omega
  | n + 1, p, s, m, hn, hp, hp2, hm => by
    have hp1 := hp.1
    obtain ⟨m, rfl⟩ : ∃ j, m = j + 3 := ⟨m - 3, by omega⟩
    have hfd := KM_find p s
    by_cases hs : p ∈ s
    · have e : pvF (n + 1) p s = s := by simp [pvF, hs]
      rw [e]
      rw [if_pos hs] at hfd
      have lk : ∀ (call : CallF) (H : Heap), H[0]? = some (some (.map (mE (KM s)))) → evE call H (.lkM [some .i64] true (.agg [.int .i64 0, .int .i64 0, .nilS])) [.mp 0, .int .i64 (p : Int)] = some (.tup [ent p, .bool true], H) := fun call H h => by
        rw [e_lkMt h, hfd]; rfl
      obtain ⟨a, b, x, hx, x1, x2, x3⟩ := ent_agg p
      rw [hx] at lk
      refine f_enterH rfl rfl ?_
      generalize evF tab it (m + 2) = call at *
      generalize mE (KM s) = M at *
      repeat' first
 | (apply s_mov; (focus ((conv => lhs; whnf); done)))
 | (apply c_nil)
 | (apply s_en; (focus (repeat (first | apply opds_nil | (apply opds_cons; (first | (focus ((conv => lhs; whnf); done)) | exact rfl))))); exact lk _ _ rfl)
 | (apply s_st; (focus (repeat (first | apply opds_nil | (apply opds_cons; (first | (focus ((conv => lhs; whnf); done)) | exact rfl))))); exact e_stA rfl (cells3 x3) rfl (one3 x2) rfl)
 | (apply isE; apply s_ed; (focus ((conv => lhs; whnf); done)))
 | (apply s_pd; (focus ((conv => lhs; whnf); done)))
 | (apply c_seq)
 | (apply c_reg)
 | (apply c_ret)
 | (apply c_condT; exact rfl)
 | (with_reducible apply k_c)
      simp [finish, ress, tupOf, go_sem]
    · rw [if_neg hs] at hfd
      have lk : ∀ (call : CallF) (H : Heap), H[0]? = some (some (.map (mE (KM s)))) → evE call H (.lkM [some .i64] true (.agg [.int .i64 0, .int .i64 0, .nilS])) [.mp 0, .int .i64 (p : Int)] = some (.tup [.agg [.int .i64 0, .int .i64 0, .nilS], .bool false], H) := fun call H h => by
        rw [e_lkMt h, hfd]; rfl
      by_cases h2 : p = 2
      · subst h2
        have e : pvF (n + 1) 2 s = s ++ [2] := by simp [pvF, hs]
        rw [e]
        have up : ∀ (call : CallF) (H : Heap), H[0]? = some (some (.map (mE (KM s)))) → evE call H (.upM [some .i64]) [.mp 0, .int .i64 ((2 : Nat) : Int), .agg [.int .i64 2, .int .i64 1, .nilS]] = some (.undef, H.set 0 (some (.map (mE (KM (s ++ [2])))))) := fun call H h => by
          rw [e_upM h rfl, ← KM_put 2 s hs]
          rfl
        refine f_enterH rfl rfl ?_
        generalize evF tab it (m + 2) = call at *
        generalize mE (KM s) = M at *
        generalize mE (KM (s ++ [2])) = M' at *
        repeat' first
 | (apply s_mov; (focus ((conv => lhs; whnf); done)))
 | (apply c_nil)
 | ((first | apply s_lss | apply s_leq | apply s_gtr | apply s_geq | apply s_eql | apply s_neq); exact rfl; all_goals (intro _; try (exfalso; omega)))
 | (apply s_en; (focus (repeat (first | apply opds_nil | (apply opds_cons; (first | (focus ((conv => lhs; whnf); done)) | exact rfl))))); exact lk _ _ rfl)
 | (apply s_st; (focus (repeat (first | apply opds_nil | (apply opds_cons; (first | (focus ((conv => lhs; whnf); done)) | exact rfl))))); exact up _ _ rfl)
 | (apply s_st; (focus (repeat (first | apply opds_nil | (apply opds_cons; (first | (focus ((conv => lhs; whnf); done)) | exact rfl))))); exact e_stA rfl rfl rfl rfl rfl)
 | (apply s_pn; (focus (repeat (first | apply opds_nil | (apply opds_cons; (first | (focus ((conv => lhs; whnf); done)) | exact rfl))))); exact p_bldW)
 | (apply isE; apply s_ed; (focus ((conv => lhs; whnf); done)))
 | (apply s_pd; (focus ((conv => lhs; whnf); done)))
 | (apply c_seq)
 | (apply c_reg)
 | (apply c_skip)
 | (apply c_ret)
 | (apply c_condT; exact rfl)
 | (apply c_condF; exact rfl)
 | (with_reducible apply k_c)
        all_goals simp [finish, ress, tupOf, go_sem]
      · have h3 : 3 ≤ p := by omega
        have hq1 : ((p - 1 : Nat) : Int) = (p : Int) - 1 := by omega
        have hL := fac_pm hp
        have hLn := fac_len31 hL (by omega)
        have hlt := fac_lt (p := p) (by omega)
        have hne : facOf (p - 1) ≠ [] := fun e' => by
          have := hL.prod
          rw [e'] at this
          simp [prodL] at this
          omega
        have hps := ps_pos hL.toFacR
        have hpl := ps_len (facOf (p - 1))
        have e : pvF (n + 1) p s = pvL n s (facOf (p - 1)) ++ [p] := by simp [pvF, hs, h2, pvL]
        have hnm : p ∉ pvL n s (facOf (p - 1)) := fun hc => by
          rcases pvL_le (fun p s y => pvF_le n p s y) _ s p hc (fun x hx => (hlt x hx).2.1) with h | h
          · exact hs h
          · omega
        obtain ⟨w1, w2, w3, w4⟩ := witN_spec hp
        have w5 := wit_two hp h3
        have hent : ent p = .agg [.int .i64 (p : Int), .int .i64 (witN p : Int), fzL (ps (facOf (p - 1)))] := by unfold ent; rw [if_neg h2]
        have hput := KM_put p _ hnm
        rw [hent] at hput
        have clo := clo66 (n := n) (m := m) (s := s) (L := facOf (p - 1)) hLn fun l q t r h => by
          have hm' : (q, t) ∈ facOf (p - 1) := by rw [h]; simp
          obtain ⟨q1, q2, _⟩ := hlt _ hm'
          simp only at q1 q2
          exact f54 n q _ m (by omega) q1 (by omega) (by omega)
        have hc := f58 (N := p - 1) (by omega) (by omega) hL clo (by omega)
        simp only [List.length_nil] at hc
        have hfree := (isL_fz (ps (facOf (p - 1)))).free
        have h60 := fun (w : Nat) (hw : w < p) (H : Heap) => c60 (isL_fz (ps (facOf (p - 1)))) (p := p) (by omega) hp2 hw hps (by omega) (m := m + 2) (by omega) H
        rw [e]
        generalize pvL n s (facOf (p - 1)) = s' at *
        obtain ⟨k, hk⟩ : ∃ k, (facOf (p - 1)).length = k + 1 := ⟨(facOf (p - 1)).length - 1, by
          have := List.length_pos_iff.2 hne
          omega⟩
        rw [hk] at hc
        have hfz : fzL (ps (facOf (p - 1))) = .rd 1 (k + 1) (iL (ps (facOf (p - 1)))) := by
          have : (ps (facOf (p - 1))).length = k + 1 := by omega
          cases hq : ps (facOf (p - 1)) with
          | nil => rw [hq] at this; simp at this
          | cons a r => rw [hq] at this; simp at this; simp [fzL, this]
        have hcl : (iL (ps (facOf (p - 1)))).length = k + 1 := by rw [iL_len]; omega
        rw [hfz] at h60 hput hfree hent
        have hc1 : callMut (evF tab it (m + 2)) 58 [.int .i64 ((p : Int) - 1), .fn 66 [.ptr 3 0, .ptr 1 0]] [some (.map (mE (KM s))), some (.box [.mp 0]), some (.box [.int .i64 0, .int .i64 0, .nilS]), some (.box [.nilS])] =
            some (.tup [], [some (.map (mE (KM s'))), some (.box [.mp 0]), some (.box [.int .i64 0, .int .i64 0, .nilS]), some (.box [.sl 4 1 0 (k + 1)]), some (.data (iL (ps (facOf (p - 1)))))]) := by
          rw [← hq1]
          have hc' : evF tab it (m + 2) 58 [.int .i64 ((p - 1 : Nat) : Int), .fn 66 [.ptr 0 0, .ptr 1 0]] [some (.box [.nilS]), some (.box [.mp 2]), some (.map (mE (KM s)))] = some (.tup [], [some (.box [.sl 3 1 0 (k + 1)]), some (.box [.mp 2]), some (.map (mE (KM s'))), some (.data (iL (ps (facOf (p - 1)))))]) := hc
          simp [callMut, subHeap, backOf, writeBack, hc', go_sem]
        have up : ∀ (call : CallF) (H : Heap), H[0]? = some (some (.map (mE (KM s')))) → evE call H (.upM [some .i64]) [.mp 0, .int .i64 (p : Int), .agg [.int .i64 (p : Int), .int .i64 (witN p : Int), .rd 1 (k + 1) (iL (ps (facOf (p - 1))))]] = some (.undef, H.set 0 (some (.map (mE (KM (s' ++ [p])))))) := fun call H h => by
          rw [e_upM h (by simp [AV.idFree, idFreeL]), hput]
        generalize iL (ps (facOf (p - 1))) = C at *
        refine f_enterH rfl rfl ?_
        generalize evF tab it (m + 2) = call at *
        generalize mE (KM s) = M at *
        generalize mE (KM s') = M' at *
        generalize mE (KM (s' ++ [p])) = M2 at *
        repeat' first
 | (apply s_mov; (focus ((conv => lhs; whnf); done)))
 | (apply c_nil)
 | ((first | apply s_lss | apply s_leq | apply s_gtr | apply s_geq | apply s_eql | apply s_neq); exact rfl; all_goals (intro _; try (exfalso; omega)))
 | ((first | apply s_add | apply s_sub); exact rfl; omega)
 | (apply s_en; (focus (repeat (first | apply opds_nil | (apply opds_cons; (first | (focus ((conv => lhs; whnf); done)) | exact rfl))))); exact lk _ _ rfl)
 | (apply s_st; (focus (repeat (first | apply opds_nil | (apply opds_cons; (first | (focus ((conv => lhs; whnf); done)) | exact rfl))))); exact e_stA rfl rfl rfl rfl rfl)
 | (refine c_fz (fz_nil (by rfl) (by rfl)) ?_)
 | (apply s_en; (focus (repeat (first | apply opds_nil | (apply opds_cons; (first | (focus ((conv => lhs; whnf); done)) | exact rfl))))); exact hc1)
 | (apply s_pn; (focus (repeat (first | apply opds_nil | (apply opds_cons; (first | (focus ((conv => lhs; whnf); done)) | exact rfl))))); exact p_mkfn)
 | (apply isE; apply s_ed; (focus ((conv => lhs; whnf); done)))
 | (apply s_pd; (focus ((conv => lhs; whnf); done)))
 | (apply c_seq)
 | (apply c_reg)
 | (apply c_skip)
 | (apply c_condF; exact rfl)
 | (with_reducible apply k_c)
        refine c_fz (fz_sl (id := 3) (j := 4) (n := k + 1) (cs := C) (by rfl) (by rfl) (by rfl) hcl (by decide)) ?_
        have gcW : ∀ w : Nat, gc 1 [.int .i64 (p : Int), .ptr 1 0, .ptr 2 0, .int .i64 (w : Int)] [some (.map M'), some (.box [.mp 0]), some (.box [.rd 1 (k + 1) C])] = some ([.int .i64 (p : Int), .ptr 1 0, .ptr 2 0, .int .i64 (w : Int)], [some (.map M'), some (.box [.mp 0]), some (.box [.rd 1 (k + 1) C])]) := fun w => by simp [go_sem]
        repeat' first
 | (apply s_mov; (focus ((conv => lhs; whnf); done)))
 | (apply c_nil)
 | (apply c_seq)
 | (apply c_reg)
 | (apply c_block)
 | (with_reducible apply k_c)
        refine c_loop ?_
        refine loop_gc (σ := Nat) (fun w => [.int .i64 (p : Int), .ptr 1 0, .ptr 2 0, .int .i64 (w : Int)]) (fun _ => [some (.map M'), some (.box [.mp 0]), some (.box [.rd 1 (k + 1) C])]) (fun w => 2 ≤ w ∧ w ≤ witN p) (fun w => witN p - w) ?_ _ 2 _ _ ⟨by omega, w5⟩ (by omega) (by simp [go_sem])
        intro w ⟨hw1, hw2⟩ K hK
        have h60w := h60 w (by omega)
        by_cases hW : Wit w p (ps (facOf (p - 1)))
        · obtain rfl : w = witN p := by
            rcases (by omega : w = witN p ∨ w < witN p) with h | h
            · exact h
            · exact absurd hW (w4 w (by omega) h)
          simp only [hW, decide_true] at h60w
          repeat' first
 | (apply s_mov; (focus ((conv => lhs; whnf); done)))
 | (apply c_nil)
 | (apply s_notT; exact rfl)
 | (apply s_cn; (focus (repeat (first | apply opds_nil | (apply opds_cons; (first | (focus ((conv => lhs; whnf); done)) | exact rfl))))); exact h60w _)
 | (apply s_pn; (focus (repeat (first | apply opds_nil | (apply opds_cons; (first | (focus ((conv => lhs; whnf); done)) | exact rfl))))); exact p_ldBox rfl)
 | (apply c_seq)
 | (apply c_reg)
 | (apply c_exitH)
 | (apply c_condF; exact rfl)
 | (with_reducible apply k_c)
          apply c_pre
          · exact gcW _
          repeat' first
 | (apply s_mov; (focus ((conv => lhs; whnf); done)))
 | (apply c_nil)
 | (apply s_pn; (focus (repeat (first | apply opds_nil | (apply opds_cons; (first | (focus ((conv => lhs; whnf); done)) | exact rfl))))); exact p_ldBox rfl)
 | (apply s_st; (focus (repeat (first | apply opds_nil | (apply opds_cons; (first | (focus ((conv => lhs; whnf); done)) | exact rfl))))); exact up _ _ rfl)
 | (apply s_pd; (focus ((conv => lhs; whnf); done)))
 | (apply c_reg)
          simp [finish, ress, tupOf, go_sem]
        · simp only [hW, decide_false] at h60w
          have hlt2 : w < witN p := by
            rcases (by omega : w = witN p ∨ w < witN p) with h | h
            · exact absurd (h ▸ w3) hW
            · exact h
          repeat' first
 | (apply s_mov; (focus ((conv => lhs; whnf); done)))
 | (apply c_nil)
 | (apply s_notF; exact rfl)
 | ((first | apply s_add | apply s_sub); exact rfl; omega)
 | (apply s_cn; (focus (repeat (first | apply opds_nil | (apply opds_cons; (first | (focus ((conv => lhs; whnf); done)) | exact rfl))))); exact h60w _)
 | (apply s_pn; (focus (repeat (first | apply opds_nil | (apply opds_cons; (first | (focus ((conv => lhs; whnf); done)) | exact rfl))))); exact p_ldBox rfl)
 | (apply c_seq)
 | (apply c_reg)
 | (apply c_block)
 | (apply c_skip)
 | (apply c_condT; exact rfl)
 | (with_reducible apply k_c)
          exact hK (w + 1) _ _ ⟨by omega, by omega⟩ (by omega) (gcW (w + 1))
end Go.AM.Pr

set_option linter.unusedSectionVars false
set_option linter.unusedVariables false
set_option linter.unusedSimpArgs false
namespace Go.AM.Pr
open Go.AM.Num
structure Gd (s : List Nat) : Prop where
  pr : ∀ q ∈ s, IsPr q
  nd : s.Nodup
  cl : ∀ q ∈ s, q ≠ 2 → ∀ x ∈ facOf (q - 1), x.1 ∈ s
theorem Gd.nil : Gd [] := ⟨by simp, List.nodup_nil, by simp⟩
theorem Gd.add {s : List Nat} {p : Nat} (h : Gd s) (hp : IsPr p) (hn : p ∉ s) (hc : p ≠ 2 → ∀ x ∈ facOf (p - 1), x.1 ∈ s) : Gd (s ++ [p]) := by
  refine ⟨fun q hq => ?_, ?_, fun q hq h2 x hx => ?_⟩
  · rcases List.mem_append.1 hq with hq | hq
    · exact h.pr q hq
    · simp at hq; subst hq; exact hp
  · rw [List.nodup_append]
    exact ⟨h.nd, by simp, fun a ha b hb e => by simp at hb; subst hb; subst e; exact hn ha⟩
  · rcases List.mem_append.1 hq with hq | hq
    · exact List.mem_append_left _ (h.cl q hq h2 x hx)
    · simp at hq; subst hq; exact List.mem_append_left _ (hc h2 x hx)
theorem pvL_good {n : Nat} (ih : ∀ p s, p ≤ n → IsPr p → Gd s → Gd (pvF n p s) ∧ p ∈ pvF n p s ∧ ∀ y ∈ s, y ∈ pvF n p s) : ∀ (l : List (Nat × Nat)) (s : List Nat), (∀ x ∈ l, IsPr x.1 ∧ x.1 ≤ n) → Gd s →
    Gd (pvL n s l) ∧ (∀ x ∈ l, x.1 ∈ pvL n s l) ∧ ∀ y ∈ s, y ∈ pvL n s l
  | [], s, _, h => ⟨h, by simp, fun y hy => hy⟩
  | x :: l, s, hl, h => by
    obtain ⟨a1, a2, a3⟩ := ih x.1 s (hl x List.mem_cons_self).2 (hl x List.mem_cons_self).1 h
    obtain ⟨b1, b2, b3⟩ := pvL_good ih l (pvF n x.1 s) (fun y hy => hl y (List.mem_cons_of_mem _ hy)) a1
    refine ⟨b1, fun y hy => ?_, fun y hy => b3 y (a3 y hy)⟩
    rcases List.mem_cons.1 hy with rfl | hy
    · exact b3 _ a2
    · exact b2 y hy
theorem pvF_good : ∀ (n p : Nat) (s : List Nat), p ≤ n → IsPr p → Gd s → Gd (pvF n p s) ∧ p ∈ pvF n p s ∧ ∀ y ∈ s, y ∈ pvF n p s
  | 0, p, s, hn, hp, _ => by have := hp.1; omega
  | n + 1, p, s, hn, hp, h => by
    have h1 := hp.1
    by_cases hs : p ∈ s
    · have e : pvF (n + 1) p s = s := by simp [pvF, hs]
      rw [e]
      exact ⟨h, hs, fun y hy => hy⟩
    · by_cases h2 : p = 2
      · have e : pvF (n + 1) p s = s ++ [p] := by subst h2; simp [pvF, hs]
        rw [e]
        exact ⟨h.add hp hs (fun h => absurd h2 h), by simp, fun y hy => List.mem_append_left _ hy⟩
      · have e : pvF (n + 1) p s = pvL n s (facOf (p - 1)) ++ [p] := by simp [pvF, hs, h2, pvL]
        have hlt := fac_lt h1
        obtain ⟨a1, a2, a3⟩ := pvL_good (pvF_good n) (facOf (p - 1)) s (fun x hx => ⟨(hlt x hx).1, by have := (hlt x hx).2.1; omega⟩) h
        have hnm : p ∉ pvL n s (facOf (p - 1)) := fun hc => by
          rcases pvL_le (fun p s y => pvF_le n p s y) _ s p hc (fun x hx => (hlt x hx).2.1) with h | h
          · exact hs h
          · omega
        rw [e]
        exact ⟨a1.add hp hnm (fun _ => a2), by simp, fun y hy => List.mem_append_left _ (a3 y hy)⟩
theorem pvL_size {n : Nat} (ih : ∀ p s, p ≤ n → IsPr p → 2 ^ ((pvF n p s).length + 1) ≤ p ^ 2 * 2 ^ s.length) : ∀ (l : List (Nat × Nat)) (s : List Nat), (∀ x ∈ l, IsPr x.1 ∧ 1 ≤ x.2 ∧ x.1 ≤ n) →
    2 ^ ((pvL n s l).length + l.length) ≤ (prodL l) ^ 2 * 2 ^ s.length
  | [], s, _ => by simp [pvL, prodL]
  | x :: l, s, hl => by
    obtain ⟨x1, x2, x3⟩ := hl x List.mem_cons_self
    have a := ih x.1 s x3 x1
    have b := pvL_size ih l (pvF n x.1 s) (fun y hy => hl y (List.mem_cons_of_mem _ hy))
    have e : pvL n s (x :: l) = pvL n (pvF n x.1 s) l := rfl
    rw [e, List.length_cons, prodL_cons]
    have c : x.1 ≤ x.1 ^ x.2 := by
      have := Nat.pow_le_pow_right (show 0 < x.1 by have := x1.1; omega) x2
      simpa using this
    have c2 : x.1 ^ 2 ≤ (x.1 ^ x.2) ^ 2 := Nat.pow_le_pow_left c 2
    calc 2 ^ ((pvL n (pvF n x.1 s) l).length + (l.length + 1)) = 2 ^ ((pvL n (pvF n x.1 s) l).length + l.length) * 2 := by rw [← Nat.add_assoc, Nat.pow_succ]
      _ ≤ (prodL l ^ 2 * 2 ^ (pvF n x.1 s).length) * 2 := Nat.mul_le_mul_right _ b
      _ = prodL l ^ 2 * 2 ^ ((pvF n x.1 s).length + 1) := by rw [Nat.mul_assoc, ← Nat.pow_succ]
      _ ≤ prodL l ^ 2 * (x.1 ^ 2 * 2 ^ s.length) := Nat.mul_le_mul_left _ a
      _ ≤ prodL l ^ 2 * ((x.1 ^ x.2) ^ 2 * 2 ^ s.length) := Nat.mul_le_mul_left _ (Nat.mul_le_mul_right _ c2)
      _ = (x.1 ^ x.2 * prodL l) ^ 2 * 2 ^ s.length := by rw [Nat.mul_pow]; simp only [Nat.mul_comm, Nat.mul_left_comm, Nat.mul_assoc]
theorem odd_pr {p : Nat} (hp : IsPr p) (h3 : 3 ≤ p) : 2 ∣ p - 1 := by
  have : ¬ 2 ∣ p := fun h => by
    rcases hp.2 2 h with e | e <;> omega
  omega
theorem pvF_size : ∀ (n p : Nat) (s : List Nat), p ≤ n → IsPr p → 2 ^ ((pvF n p s).length + 1) ≤ p ^ 2 * 2 ^ s.length
  | 0, p, s, hn, hp => by have := hp.1; omega
  | n + 1, p, s, hn, hp => by
    have h1 := hp.1
    have h4 : 2 ^ 2 ≤ p ^ 2 := Nat.pow_le_pow_left h1 2
    by_cases hs : p ∈ s
    · have e : pvF (n + 1) p s = s := by simp [pvF, hs]
      rw [e, Nat.pow_succ, Nat.mul_comm]
      exact Nat.mul_le_mul_right _ (by omega)
    · by_cases h2 : p = 2
      · have e : pvF (n + 1) p s = s ++ [p] := by subst h2; simp [pvF, hs]
        rw [e, List.length_append, List.length_singleton, Nat.add_assoc, Nat.pow_add, Nat.mul_comm]
        exact Nat.mul_le_mul_right _ h4
      · have e : pvF (n + 1) p s = pvL n s (facOf (p - 1)) ++ [p] := by simp [pvF, hs, h2, pvL]
        have hL := fac_pm hp
        have hlt := fac_lt h1
        have a := pvL_size (pvF_size n) (facOf (p - 1)) s (fun x hx => ⟨(hlt x hx).1, (hL.all x hx).2, by have := (hlt x hx).2.1; omega⟩)
        rw [hL.prod] at a
        rw [e, List.length_append, List.length_singleton]
        have hd : 2 ∣ p - 1 := odd_pr hp (by omega)
        have h2p : IsPr 2 := ⟨by omega, fun d hd => by
          have := Nat.le_of_dvd (by decide) hd
          rcases (by omega : d = 0 ∨ d = 1 ∨ d = 2) with rfl | h | h
          · obtain ⟨c, hc⟩ := hd; omega
          · exact .inl h
          · exact .inr h⟩
        obtain ⟨e2, he2⟩ := pr_dvd_prod h2p hL.all (by rw [hL.prod]; exact hd)
        rcases Nat.lt_or_ge (facOf (p - 1)).length 2 with hk | hk
        · have hk1 : facOf (p - 1) = [(2, e2)] := by
            cases hq : facOf (p - 1) with
            | nil => rw [hq] at he2; cases he2
            | cons y r =>
              rw [hq] at hk he2
              have : r = [] := List.eq_nil_of_length_eq_zero (by simp at hk; omega)
              subst this
              simp at he2
              rw [← he2]
          rw [hk1] at a ⊢
          have b := pvF_size n 2 s (by omega) h2p
          have e' : pvL n s [(2, e2)] = pvF n 2 s := rfl
          rw [e']
          have h9 : 3 ^ 2 ≤ p ^ 2 := Nat.pow_le_pow_left (by omega) 2
          rw [Nat.pow_succ]
          have := Nat.mul_le_mul_right (2 ^ s.length) h9
          omega
        · have c : (pvL n s (facOf (p - 1))).length + 1 + 1 ≤ (pvL n s (facOf (p - 1))).length + (facOf (p - 1)).length := by omega
          refine Nat.le_trans (Nat.pow_le_pow_right (by omega) c) (Nat.le_trans a (Nat.mul_le_mul_right _ (Nat.pow_le_pow_left (by omega) 2)))
theorem pv_len {p : Nat} (hp : IsPr p) (hp2 : p ≤ 2147483647) : (pvF p p []).length ≤ 100 := by
  have a := pvF_size p p [] (Nat.le_refl _) hp
  rcases Nat.lt_or_ge 100 (pvF p p []).length with h | h
  · exfalso
    have b := Nat.pow_le_pow_right (show 0 < 2 by omega) (show 100 ≤ (pvF p p []).length + 1 by omega)
    have c := Nat.pow_le_pow_left hp2 2
    simp only [List.length_nil, Nat.pow_zero, Nat.mul_one] at a
    have : 2 ^ 100 ≤ 2147483647 ^ 2 := Nat.le_trans b (Nat.le_trans a c)
    exact absurd this (by decide)
  · exact h
end Go.AM.Pr

set_option linter.unusedSectionVars false
set_option linter.unusedVariables false
set_option linter.unusedSimpArgs false
namespace Go.Proofs
open Go.RowKit Go.Maps Go.Sort Go.Shelf
def OlvSorted_ren : Go.Shelf.Ren := ⟨fun | 6 => 55 | 8 => 67 | 9 => 68 | 11 => 75 | 13 => 77 | 12 => 76 | 23 => 88 | 24 => 89 | 14 => 79 | 15 => 80 | 16 => 81 | 17 => 82 | 18 => 83 | 19 => 84 | 20 => 85 | 21 => 86 | 22 => 87 | 25 => 90 | 26 => 91 | 27 => 92 | 28 => 93 | 29 => 94 | 30 => 95 | 31 => 96 | n => n, fun | 26 => 3 | 28 => 73 | 24 => 38 | 0 => 0 | 3 => 3 | 37 => 68 | 48 => 97 | 50 => 64 | 4 => 4 | 40 => 91 | 39 => 90 | 45 => 55 | 5 => 5 | 9 => 9 | 51 => 99 | 55 => 103 | 57 => 105 | 58 => 62 | 33 => 26 | n => n, fun n => n⟩
theorem OlvSorted : SlLaysZI.n6 Try.prog OlvSorted_ren where
  mixed := by kernel_rfl
  f6 := ⟨"slices.Sorted[int]", by decide, Try.func55.trans (congrArg some (by kernel_rfl))⟩
  f8 := ⟨"slices.Collect[int]", by decide, Try.func67.trans (congrArg some (by kernel_rfl))⟩
  f11 := ⟨"slices.AppendSeq[[]int,int]", by decide, Try.func75.trans (congrArg some (by kernel_rfl))⟩
  t0 := Try.underlying0
  a0 := Try.isAgg0
  z0 := Try.sizeOf0
  v0 := Try.zeroValue0
  t24 := Try.underlying38
  a24 := Try.isAgg38
  z24 := Try.sizeOf38
  v24 := Try.zeroValue38
  t26 := Try.underlying3
  a26 := Try.isAgg3
  z26 := Try.sizeOf3
  v26 := Try.zeroValue3
  t28 := Try.underlying73
  a28 := Try.isAgg73
  z28 := Try.sizeOf73
  v28 := Try.zeroValue73
  i26 := by kernel_rfl
def OlvSort_ren : Go.Shelf.Ren := ⟨fun | 5 => 68 | 8 => 77 | 7 => 76 | 19 => 88 | 20 => 89 | 10 => 79 | 11 => 80 | 12 => 81 | 13 => 82 | 14 => 83 | 15 => 84 | 16 => 85 | 17 => 86 | 18 => 87 | 30 => 90 | 31 => 91 | 32 => 92 | 33 => 93 | 34 => 94 | 35 => 95 | 40 => 96 | n => n, fun | 23 => 38 | 25 => 3 | 3 => 3 | 32 => 68 | 22 => 38 | 0 => 0 | 44 => 97 | 46 => 64 | 4 => 4 | 36 => 91 | 35 => 90 | 41 => 55 | 5 => 5 | 9 => 9 | 53 => 99 | 57 => 103 | 63 => 105 | 64 => 62 | n => n, fun n => n⟩
theorem OlvSort : SlLaysM.n5 Try.prog OlvSort_ren where
  mixed := by kernel_rfl
  f5 := ⟨"slices.Sort[[]int,int]", by decide, Try.func68.trans (congrArg some (by kernel_rfl))⟩
  f7 := ⟨"slices.pdqsortOrdered[int]", by decide, Try.func76.trans (congrArg some (by kernel_rfl))⟩
  f8 := Try.func77.trans (congrArg some (by kernel_rfl))
  f10 := ⟨"slices.insertionSortOrdered[int]", by decide, Try.func79.trans (congrArg some (by kernel_rfl))⟩
  f11 := ⟨"slices.heapSortOrdered[int]", by decide, Try.func80.trans (congrArg some (by kernel_rfl))⟩
  f12 := ⟨"slices.breakPatternsOrdered[int]", by decide, Try.func81.trans (congrArg some (by kernel_rfl))⟩
  f13 := ⟨"slices.choosePivotOrdered[int]", by decide, Try.func82.trans (congrArg some (by kernel_rfl))⟩
  f14 := ⟨"slices.reverseRangeOrdered[int]", by decide, Try.func83.trans (congrArg some (by kernel_rfl))⟩
  f15 := ⟨"slices.partialInsertionSortOrdered[int]", by decide, Try.func84.trans (congrArg some (by kernel_rfl))⟩
  f16 := ⟨"cmp.Less[int]", by decide, Try.func85.trans (congrArg some (by kernel_rfl))⟩
  f17 := ⟨"slices.partitionEqualOrdered[int]", by decide, Try.func86.trans (congrArg some (by kernel_rfl))⟩
  f18 := ⟨"slices.partitionOrdered[int]", by decide, Try.func87.trans (congrArg some (by kernel_rfl))⟩
  f19 := Try.func88.trans (congrArg some (by kernel_rfl))
  f20 := Try.func89.trans (congrArg some (by kernel_rfl))
  f30 := ⟨"slices.siftDownOrdered[int]", by decide, Try.func90.trans (congrArg some (by kernel_rfl))⟩
  f31 := Try.func91.trans (congrArg some (by kernel_rfl))
  f32 := Try.func92.trans (congrArg some (by kernel_rfl))
  f33 := ⟨"slices.medianAdjacentOrdered[int]", by decide, Try.func93.trans (congrArg some (by kernel_rfl))⟩
  f34 := ⟨"slices.medianOrdered[int]", by decide, Try.func94.trans (congrArg some (by kernel_rfl))⟩
  f35 := ⟨"cmp.isNaN[int]", by decide, Try.func95.trans (congrArg some (by kernel_rfl))⟩
  f40 := ⟨"slices.order2Ordered[int]", by decide, Try.func96.trans (congrArg some (by kernel_rfl))⟩
  t0 := Try.underlying0
  a0 := Try.isAgg0
  z0 := Try.sizeOf0
  v0 := Try.zeroValue0
  t3 := Try.underlying3
  a3 := Try.isAgg3
  z3 := Try.sizeOf3
  v3 := Try.zeroValue3
  t4 := Try.underlying4
  a4 := Try.isAgg4
  z4 := Try.sizeOf4
  v4 := Try.zeroValue4
  t5 := Try.underlying5
  a5 := Try.isAgg5
  z5 := Try.sizeOf5
  v5 := Try.zeroValue5
  t9 := Try.underlying9
  a9 := Try.isAgg9
  z9 := Try.sizeOf9
  v9 := Try.zeroValue9
  t22 := Try.underlying38
  a22 := Try.isAgg38
  z22 := Try.sizeOf38
  v22 := Try.zeroValue38
  t23 := Try.underlying38
  a23 := Try.isAgg38
  z23 := Try.sizeOf38
  v23 := Try.zeroValue38
  t25 := Try.underlying3
  a25 := Try.isAgg3
  z25 := Try.sizeOf3
  v25 := Try.zeroValue3
  t32 := Try.underlying68
  a32 := Try.isAgg68
  z32 := Try.sizeOf68
  v32 := Try.zeroValue68
  t35 := Try.underlying90
  a35 := Try.isAgg90
  z35 := Try.sizeOf90
  v35 := Try.zeroValue90
  t36 := Try.underlying91
  a36 := Try.isAgg91
  z36 := Try.sizeOf91
  v36 := Try.zeroValue91
  t41 := Try.underlying55
  a41 := Try.isAgg55
  z41 := Try.sizeOf55
  v41 := Try.zeroValue55
  t44 := Try.underlying97
  a44 := Try.isAgg97
  z44 := Try.sizeOf97
  v44 := Try.zeroValue97
  t46 := Try.underlying64
  a46 := Try.isAgg64
  z46 := Try.sizeOf64
  v46 := Try.zeroValue64
  t53 := Try.underlying99
  a53 := Try.isAgg99
  z53 := Try.sizeOf99
  v53 := Try.zeroValue99
  t57 := Try.underlying103
  a57 := Try.isAgg103
  z57 := Try.sizeOf103
  v57 := Try.zeroValue103
  t63 := Try.underlying105
  a63 := Try.isAgg105
  z63 := Try.sizeOf105
  v63 := Try.zeroValue105
  t64 := Try.underlying62
  a64 := Try.isAgg62
  z64 := Try.sizeOf62
  v64 := Try.zeroValue62
theorem OlvSorts (m : Nat) : AnyZI.SortsIn Try.prog OlvSorted_ren Fence.wide m :=
  ⟨fun blk off cap ss W hH hblk hsz => callsIn_wide.2 (AnyM.slices_Sort_int OlvSort blk off cap ss W hH hblk hsz),
   fun p cap W => callsIn_wide.2 (AnyM.slices_Sort_int_none OlvSort p cap W)⟩
set_option maxRecDepth 100000 in
set_option maxHeartbeats 2000000 in
/-- the keys come, each once, in some order; the captured map lies at any offset -/
theorem OlvKeys {H : Type} (l Bm bo b nn : Nat) (D0 : DataW H) {R : Value → Option (DataW H × List MemPlace)} (J : List Int → World → Prop)
    (hY : ∀ pre x W, J pre W → pre.length < Maps.size D0 → YieldAt Fence.wide 1 Try.prog l #[encZ x] W fun e W' => e = .returned (.bool true) ∧ J (pre ++ [x]) W' ∧ KeepsWalks W W')
    (W : World) (hJ : AbidesFrom W.heap.size J) (hm : W.cell? ⟨Bm, bo, none⟩ = some (.map (some b))) (hown : W.ownsMap Try.prog 3 R b nn D0) (h0 : J [] W) :
    CallsIn Fence.wide 2 Try.prog 69 #[.func (.yield l) #[] #[], .pointer (some ⟨Bm, bo, none⟩)] W fun e W' => (∃ v, e = .returned v) ∧ ∃ ss : List Int, ss.Perm (intKeys D0) ∧ J ss W' := by
  have hint3 : Try.prog.underlying 3 = some (.int .i64) := Try.underlying3
  refine callsIn_of_wp Try.func69 rfl trivial ?_ rfl
  simp only [Try.ntmps69, List.size_toArray, List.length_cons, List.length_nil, Nat.reduceAdd, Nat.reduceSub, Array.replicate_succ, Array.replicate_zero, List.push_toArray, List.append_toArray, List.nil_append, List.cons_append]
  gi_wp2_with (first
    | (gi_at_range; refine wpListIn_range_own _ rfl _ 69 rfl 3 51 (int_keyed hint3) Try.underlying69 _ b nn _ rfl hown ?_; intro w0 hrg0 hg0 hs0)
    | gi_in)
  go_frame
  gi_loopw [3] (fun _ wr => ∃ (left : Lit → Bool) (cnt : Nat) (ss : List Int), wr.ranges Try.prog 3 R b W.heap.size nn D0 left cnt ∧ ss.length + cnt ≤ Maps.size D0 ∧ CollectedI D0 left ss ∧ J ss wr)
    (fun _ wr => wr.rangeLeft b W.heap.size)
  case atStart =>
    exact ⟨_, _, [], hrg0, by simp, CollectedI.start D0, hJ [] W w0 none h0 hg0 (fun r e => by cases e)⟩
  case round =>
    obtain ⟨left, cnt, ss, hrg, hcs, hC, hJs⟩ := hrel
    gi_wp2_with (first
      | (gi_at_next; refine wpListIn_next_ranges _ rfl _ rfl 3 (int_keyed hint3) R encZ id (fun key kl hk => by obtain ⟨x, hx, _⟩ := Maps.keyOf_i64 hint3 hk; exact ⟨x, hx⟩) (fun v _ _ => ⟨v, rfl⟩) b W.heap.size nn _ _ _ rfl hrg ?_ ?_)
      | gi_in)
    · intro hc0 hl0
      gi_wp2
      go_end0
      exact ⟨⟨_, rfl⟩, ss, hC.perm hown (int_keyed hint3) hint3 hl0, hJs⟩
    · intro x c kl yd yp w2 cnt2 hkey hlk hv hat hrg2 hlt hg2 hs2 hen
      obtain ⟨x', ex, rfl, _⟩ := Maps.keyOf_i64 hint3 hkey
      obtain rfl : x = x' := encZ_inj ex
      have hJ2 : J ss w2 := hJ ss wr w2 (some W.heap.size) hJs hg2 (fun r e => by cases e; exact ⟨Nat.le_refl _, hrg.iter_walk⟩)
      obtain ⟨fn, tmps, assign, body, hy, hR⟩ := hY ss x w2 hJ2 (by omega)
      clear hs2
      gi_wp2
      refine hR.mono ?_
      rintro e W3 ⟨rfl, hJ3, hk3⟩
      gi_wp2
      have hrg3 := hrg2.of_walks hk3
      go_roundw
      case rel => exact ⟨_, cnt2, ss ++ [x], hrg3, by simp; omega, hC.step hlk hat, hJ3⟩
      case measure => rw [hrg3.left_eq, hrg.left_eq]; exact hlt
/-- what the iterator over the keys gives, sorted -/
theorem OlvSortedKeys {H : Type} (Bm bo b nn : Nat) (D0 : DataW H) {R : Value → Option (DataW H × List MemPlace)} (w : World) (hBm : Bm < w.heap.size) (hm : w.cell? ⟨Bm, bo, none⟩ = some (.map (some b)))
    (hown : w.ownsMap Try.prog 3 R b nn D0) (hmax : Maps.size D0 ≤ maxLen) (hbytes : Maps.size D0 * 8 ≤ 140737488355328) :
    Calls Try.prog 55 #[.func (.func 69) #[] #[.pointer (some ⟨Bm, bo, none⟩)]] w fun e w' => ∃ (v : Value) (ss : List Int), e = .returned v ∧ ss.Perm (intKeys D0) ∧
      w'.ownsRow w.heap.size 3 1 v ss.length ((ss.mergeSort (fun x y => decide (x ≤ y))).map encZ) ∧ (v = .slice none 0 0 ↔ ss = []) ∧ Below w.heap.size w w' := by
  refine (callsIn_wide (n := 5)).1 ?_
  have hseq : SeqGives Fence.wide 2 Try.prog 69 #[.pointer (some ⟨Bm, bo, none⟩)] encZ (fun ss => ss.Perm (intKeys D0)) (Maps.size D0) w := fun l J W hW hJ hY h0 => by
    have hown' : W.ownsMap Try.prog 3 R b nn D0 := by
      have hbl := hown.lt
      obtain ⟨es, clock, hb, Ft, hs, hD⟩ := hown
      exact ⟨es, clock, (hW.block b hbl).trans hb, Ft, hs, hD⟩
    exact OlvKeys l Bm bo b nn D0 J hY W hJ ((hW.cell (p := ⟨Bm, bo, none⟩) hBm).trans hm) hown' h0
  exact AnyZI.sorted_in OlvSorted Fence.wide 5 trivial trivial trivial trivial rfl (by omega) (OlvSorts _) (enters_of Try.func68 (by kernel_rfl) rfl) 69 #[.pointer (some ⟨Bm, bo, none⟩)] trivial (enters_of Try.func69 (by kernel_rfl) rfl) _ _ hmax hbytes _ hseq
end Go.Proofs
