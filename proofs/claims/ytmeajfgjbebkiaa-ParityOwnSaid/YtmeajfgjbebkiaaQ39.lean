/- A part of the proof: Q39. -/
import Derived.Test.YtmeajfgjbebkiaaQ34
import Derived.Test.YtmeajfgjbebkiaaQ14
set_option linter.unusedSectionVars false
set_option linter.unusedVariables false
set_option linter.unusedSimpArgs false
namespace Go.AM.Pa
attribute [local go_sem] gc subHeap reach_skip ren_free reach_new reach_newp reach_end rangeL roots boxCells nodupB posOf renL AV.ren pickO renH renO looks look bindEnv envOf reach_int reach_bool reach_nilS reach_rd putRow cells_sl cells_int cells_bool cells_nilS cells_rd cells_agg reach_agg reach_tup idFreeL idf_sl idf_ptr idf_int idf_bool idf_nilS idf_rd
/-! what can be reached in a graph -/
inductive Rch (nx : List (List Int)) (rk : List Int) (mx : Int) (from_ : Nat) : Nat → Prop
  | one {u : Nat} (h : (u : Int) ∈ getLL nx from_) (hr : getI rk u ≤ mx) : Rch nx rk mx from_ u
  | more {v u : Nat} (hv : Rch nx rk mx from_ v) (h : (u : Int) ∈ getLL nx v) (hr : getI rk u ≤ mx) : Rch nx rk mx from_ u
open Classical in
noncomputable def rchL (nx : List (List Int)) (rk : List Int) (from_ : Nat) (mx : Int) : List Bool := (List.range nx.length).map fun u => decide (Rch nx rk mx from_ u)
theorem rchL_len (nx : List (List Int)) (rk : List Int) (f : Nat) (mx : Int) : (rchL nx rk f mx).length = nx.length := by simp [rchL]
theorem getB_map {n : Nat} {f : Nat → Bool} {i : Nat} (h : i < n) : getB ((List.range n).map f) i = f i := by rw [getB_nat]; simp [h]
theorem rchL_get {nx : List (List Int)} {rk : List Int} {f : Nat} {mx : Int} {u : Nat} (h : u < nx.length) : getB (rchL nx rk f mx) u = true ↔ Rch nx rk mx f u := by
  rw [rchL, getB_map h]; simp
/-- a graph -/
def Gra (nx : List (List Int)) (rk : List Int) : Prop := (nx.length ≤ 24 ∧ rk.length = nx.length) ∧ (∀ v : Nat, v < nx.length → ∀ u ∈ getLL nx v, 0 ≤ u ∧ u < nx.length) ∧ ∀ l ∈ nx, l.length < 50
/-- what holds in the search -/
structure Bas (nx : List (List Int)) (rk : List Int) (f : Nat) (mx : Int) (seen : List Bool) (qu : List Int) : Prop where
  sl : seen.length = nx.length
  hd : getI qu 0 = f
  pos : 1 ≤ qu.length
  lim : qu.length + cf seen ≤ nx.length + 1
  inn : ∀ i : Nat, i < qu.length → 0 ≤ getI qu i ∧ getI qu i < nx.length
  sn : ∀ u : Nat, getB seen u = true → ∃ i : Nat, 1 ≤ i ∧ i < qu.length ∧ getI qu i = u
  rch : ∀ u : Nat, getB seen u = true → Rch nx rk mx f u
  back : ∀ i : Nat, 1 ≤ i → i < qu.length → getB seen (getI qu i) = true
/-- all steps from a position are known -/
def Don (nx : List (List Int)) (rk : List Int) (mx : Int) (seen : List Bool) (v : Int) (k : Nat) : Prop := ∀ j : Nat, j < k → getI rk (getI (getLL nx v) j) ≤ mx → getB seen (getI (getLL nx v) j) = true
theorem bas_zero {nx : List (List Int)} {rk : List Int} {f : Nat} {mx : Int} (hf : f < nx.length) : Bas nx rk f mx (List.replicate nx.length false) [(f : Int)] := by
  have hz : ∀ u : Nat, getB (List.replicate nx.length false) u = false := fun u => by
    rw [getB_nat]
    simp only [List.getD]
    rw [List.getElem?_replicate]
    split <;> rfl
  refine ⟨by simp, by simp [getI], by simp, ?_, fun i hi => ?_, fun u h => ?_, fun u h => ?_, fun i h1 h2 => ?_⟩
  · have := cf_le (List.replicate nx.length false)
    simp at this ⊢; omega
  · simp at hi; subst hi; simp [getI]; omega
  · rw [hz] at h; cases h
  · rw [hz] at h; cases h
  · simp at h2; omega
theorem bas_step {nx : List (List Int)} {rk : List Int} {f : Nat} {mx : Int} {seen : List Bool} {qu : List Int} (hg : Gra nx rk) (h : Bas nx rk f mx seen qu) {q k : Nat} (hq : q < qu.length) (hk : k < (getLL nx (getI qu q)).length)
    (hn : getB seen (getI (getLL nx (getI qu q)) k) = false) (hr : getI rk (getI (getLL nx (getI qu q)) k) ≤ mx) :
    Bas nx rk f mx (seen.set (getI (getLL nx (getI qu q)) k).toNat true) (qu ++ [getI (getLL nx (getI qu q)) k]) ∧ (∀ v : Int, getB seen v = true → getB (seen.set (getI (getLL nx (getI qu q)) k).toNat true) v = true) ∧ getB (seen.set (getI (getLL nx (getI qu q)) k).toNat true) (getI (getLL nx (getI qu q)) k) = true := by
  obtain ⟨c, hc⟩ : ∃ c : Nat, getI qu q = c := ⟨_, (Int.toNat_of_nonneg (h.inn q hq).1).symm⟩
  have hcn : c < nx.length := by have := (h.inn q hq).2; omega
  rw [hc] at hk hn hr ⊢
  have hm : getI (getLL nx c) k ∈ getLL nx c := by rw [getI_nat]; simp [hk]
  have hu := hg.2.1 c hcn _ hm
  obtain ⟨u, he⟩ : ∃ u : Nat, getI (getLL nx c) k = u := ⟨_, (Int.toNat_of_nonneg hu.1).symm⟩
  rw [he] at hm hu hn hr ⊢
  have hun : u < nx.length := by omega
  have hsl := h.sl
  have gs : ∀ i : Nat, getB (seen.set u true) i = if u = i then true else getB seen i := fun i => by
    rw [getB_set]
    by_cases e : u = i
    · subst e; simp [hsl, hun]
    · simp [e]
  have gsI : ∀ v : Int, getB seen v = true → getB (seen.set u true) v = true := fun v hv => by
    rw [getB_nonneg] at hv ⊢
    rw [gs]; split <;> simp_all
  have a1 : ∀ {l : List Int} {v : Int} {i : Nat}, i < l.length → getI (l ++ [v]) i = getI l i := fun {l v i} h => by
    simp [getI_nat, List.getD, List.getElem?_append_left h]
  have a2 : getI (qu ++ [(u : Int)]) (qu.length : Nat) = u := by simp [getI_nat, List.getD]
  have hrc : Rch nx rk mx f u := by
    rcases Nat.eq_zero_or_pos q with h0 | h0
    · subst h0
      rw [Int.natCast_zero, h.hd] at hc
      have : f = c := by omega
      subst this
      exact .one hm hr
    · have := h.back q h0 hq
      rw [hc] at this
      exact .more (h.rch c this) hm hr
  have hcf : cf (seen.set u true) < cf seen := cf_set (by rw [← getB_nat]; exact hn) (by omega)
  simp only [Int.toNat_natCast]
  refine ⟨⟨by simpa using hsl, ?_, by simp, ?_, fun i hi => ?_, fun v hv => ?_, fun v hv => ?_, fun i hi1 hi2 => ?_⟩, gsI, by rw [gs]; simp⟩
  · have := a1 (v := (u : Int)) h.pos
    rw [Int.natCast_zero] at this
    rw [this]; exact h.hd
  · have := h.lim; simp; omega
  · simp at hi
    rcases Nat.lt_or_ge i qu.length with h1 | h1
    · rw [a1 h1]; exact h.inn i h1
    · have : i = qu.length := by omega
      subst this; rw [a2]; omega
  · rw [gs] at hv
    by_cases e : u = v
    · subst e
      exact ⟨qu.length, h.pos, by simp, a2⟩
    · rw [if_neg e] at hv
      obtain ⟨i, i1, i2, i3⟩ := h.sn v hv
      exact ⟨i, i1, by simp; omega, by rw [a1 i2]; exact i3⟩
  · rw [gs] at hv
    by_cases e : u = v
    · subst e; exact hrc
    · rw [if_neg e] at hv; exact h.rch v hv
  · simp at hi2
    rcases Nat.lt_or_ge i qu.length with h1 | h1
    · rw [a1 h1]; exact gsI _ (h.back i hi1 h1)
    · have : i = qu.length := by omega
      subst this; rw [a2, gs]; simp
theorem bas_end {nx : List (List Int)} {rk : List Int} {f : Nat} {mx : Int} {seen : List Bool} {qu : List Int} (hg : Gra nx rk) (hf : f < nx.length) (h : Bas nx rk f mx seen qu) (hd : ∀ i : Nat, i < qu.length → Don nx rk mx seen (getI qu i) (getLL nx (getI qu i)).length) : seen = rchL nx rk f mx := by
  have key : ∀ u, Rch nx rk mx f u → getB seen u = true := fun u hu => by
    induction hu with
    | @one u h1 h2 =>
      obtain ⟨j, hj, e⟩ := List.getElem_of_mem h1
      have := hd 0 h.pos j
      rw [Int.natCast_zero, h.hd] at this
      have e2 : getI (getLL nx f) j = u := by rw [getI_nat]; simp [hj, e]
      rw [e2] at this
      exact this hj h2
    | @more v u _ h1 h2 ih =>
      obtain ⟨i, i1, i2, i3⟩ := h.sn v ih
      obtain ⟨j, hj, e⟩ := List.getElem_of_mem h1
      have := hd i i2 j
      rw [i3] at this
      have e2 : getI (getLL nx v) j = u := by rw [getI_nat]; simp [hj, e]
      rw [e2] at this
      exact this hj h2
  refine List.ext_getElem (by rw [h.sl, rchL_len]) fun i h1 h2 => ?_
  have e1 : getB seen i = seen[i] := by rw [getB_nat]; simp [List.getD, h1]
  have e2 : getB (rchL nx rk f mx) i = (rchL nx rk f mx)[i] := by rw [getB_nat]; simp [List.getD, h2]
  rw [← e1, ← e2]
  have hi : i < nx.length := by rw [← h.sl]; exact h1
  rw [Bool.eq_iff_iff, rchL_get hi]
  exact ⟨h.rch i, key i⟩
theorem e_bld1o {call : CallF} {H : Heap} {v z : AV} (h1 : v.cells = [v]) (h2 : v.solid = true) (h3 : v.one = true) (h4 : v.idFree = true) : evE call H (.bldS true false 1 1 [z] [(0, 1)]) [v] = some (.sl H.length 1 0 1, H ++ [some (.data [v])]) := by
  simp [evE, repl, fillParts, h1, h2, oneL, h3, idFreeL, h4, putPart, newRow]
set_option maxHeartbeats 4000000
theorem f65 {x y : AV} {nx : List (List Int)} {rk : List Int} {f : Nat} {mx : Int} (hx : IsLL x nx) (hy : IsL y rk) (hg : Gra nx rk) (hf : f < nx.length) {m : Nat} (hm : 60 ≤ m) :
    evF tab it m 65 [x, y, .int .i64 f, .int .i64 mx] [] = some (.sl 0 1 0 nx.length, [some (.data (bL (rchL nx rk f mx)))]) := by
  obtain ⟨m, rfl⟩ : ∃ j, m = j + 1 := ⟨m - 1, by omega⟩
  have fx := hx.free; have fy := hy.free
  obtain ⟨⟨hn24, hrk⟩, hrow, hrl⟩ := id hg
  have hll : ∀ i : Int, (getLL nx i).length < 50 := fun i => getLL_lt hrl (by omega) i
  refine f_enter rfl rfl ?_
  repeat' first
 | (apply s_mov; (focus ((conv => lhs; whnf); done)))
 | (apply c_nil)
 | (apply s_en; (focus (repeat (first | apply opds_nil | (apply opds_cons; (first | (focus ((conv => lhs; whnf); done)) | exact rfl))))); exact e_mkB (by unfold most; omega))
 | (apply s_en; (focus (repeat (first | apply opds_nil | (apply opds_cons; (first | (focus ((conv => lhs; whnf); done)) | exact rfl))))); exact e_bld1o rfl rfl rfl rfl)
 | (apply s_lenLL; (focus ((conv => lhs; whnf); done)); assumption)
 | (apply c_seq)
 | (apply c_reg)
 | (apply c_block)
 | (with_reducible apply k_c)
  refine c_loop ?_
  refine loop_gc (σ := List Bool × List Int × Nat) (fun s => [x, y, .int .i64 mx, .sl 0 1 0 nx.length, .sl 1 1 0 s.2.1.length, .int .i64 s.2.2]) (fun s => [some (.data (bL s.1)), some (.data (iL s.2.1))]) (fun s => Bas nx rk f mx s.1 s.2.1 ∧ s.2.2 ≤ s.2.1.length ∧ ∀ i : Nat, i < s.2.2 → Don nx rk mx s.1 (getI s.2.1 i) (getLL nx (getI s.2.1 i)).length) (fun s => nx.length + 1 - s.2.2) ?_ _ (List.replicate nx.length false, [(f : Int)], 0) _ _ ⟨bas_zero hf, by simp, fun i hi => by simp at hi⟩ (by simp only; omega) (by simp [go_sem, fx, fy, iL]; done)
  intro ⟨seen, qu, q⟩ ⟨hb, hq, hd⟩ K hK
  simp only at hb hq hd hK ⊢
  have hlim := hb.lim
  have hsl := hb.sl
  have hin := hb.inn q
  have hend : q = qu.length → seen = rchL nx rk f mx := fun e => bas_end hg hf hb (by rw [← e]; exact hd)
  repeat' first
 | (apply s_mov; (focus ((conv => lhs; whnf); done)))
 | (apply c_nil)
 | ((first | apply s_lss | apply s_leq | apply s_gtr | apply s_geq | apply s_eql | apply s_neq); exact rfl; all_goals (intro _; try (exfalso; omega)))
 | (apply s_pn; (focus (repeat (first | apply opds_nil | (apply opds_cons; (first | (focus ((conv => lhs; whnf); done)) | exact rfl))))); exact p_ldS rfl (by omega))
 | (apply s_lenSl; exact rfl)
 | (apply s_idxLL; (focus ((conv => lhs; whnf); done)); exact rfl; assumption; omega)
 | (apply s_idxS; exact rfl; exact rfl; omega)
 | (apply s_ldLL; exact rfl; assumption; omega)
 | (apply c_seq)
 | (apply c_reg)
 | (apply c_block)
 | (apply c_exitH)
 | (apply c_skip)
 | (apply c_condT; exact rfl)
 | (apply c_condF; exact rfl)
 | (with_reducible apply k_c)
  · rename_i hlt
    have hlt' : q < qu.length := by omega
    have hcr := hin hlt'
    have hxr := IsLL.at hx (i := getI qu q) (by omega)
    have hrw : ∀ k : Nat, k < (getLL nx (getI qu q)).length → 0 ≤ getI (getLL nx (getI qu q)) k ∧ getI (getLL nx (getI qu q)) k < nx.length := fun k hk => by
      obtain ⟨c, hc⟩ : ∃ c : Nat, getI qu q = c := ⟨_, (Int.toNat_of_nonneg hcr.1).symm⟩
      rw [hc] at hk hcr ⊢
      exact hrow c (by omega) _ (by rw [getI_nat]; simp [hk])
    have hcl := hll (getI qu q)
    have fxr := hxr.free
    refine c_loop ?_
    refine loop_gc (σ := List Bool × List Int × Nat) (fun s => [x, y, .int .i64 mx, .sl 0 1 0 nx.length, .sl 1 1 0 s.2.1.length, .int .i64 q, llAt x (getI qu q), .int .i64 s.2.2]) (fun s => [some (.data (bL s.1)), some (.data (iL s.2.1))]) (fun s => Bas nx rk f mx s.1 s.2.1 ∧ q < s.2.1.length ∧ (∀ i : Nat, i ≤ q → getI s.2.1 i = getI qu i) ∧ (∀ i : Nat, i < q → Don nx rk mx s.1 (getI s.2.1 i) (getLL nx (getI s.2.1 i)).length) ∧ s.2.2 ≤ (getLL nx (getI qu q)).length ∧ Don nx rk mx s.1 (getI qu q) s.2.2) (fun s => (getLL nx (getI qu q)).length - s.2.2) ?_ _ (seen, qu, 0) _ _ ⟨hb, hlt', fun _ _ => rfl, hd, by simp only; omega, fun j hj => by simp at hj⟩ (by simp only; omega) (by simp [go_sem, fx, fy, fxr]; done)
    intro ⟨seen2, qu2, k⟩ ⟨hb2, hq2, hqe, hd2, hk, hdk⟩ K2 hK2
    simp only at hb2 hq2 hqe hd2 hk hdk hK2 ⊢
    have hlim2 := hb2.lim
    have hsl2 := hb2.sl
    have hrk2 := hrw k
    have hqq := hqe q (Nat.le_refl _)
    have hql2 : (iL qu2).length = qu2.length := iL_len _
    repeat' first
 | (apply s_mov; (focus ((conv => lhs; whnf); done)))
 | (apply s_gT; exact rfl)
 | (apply s_gF; exact rfl)
 | (apply c_nil)
 | (apply s_pickT; exact rfl; (focus ((conv => lhs; whnf); done)))
 | (apply s_pickF; exact rfl; (focus ((conv => lhs; whnf); done)))
 | (apply s_notT; exact rfl)
 | (apply s_notF; exact rfl)
 | ((first | apply s_lss | apply s_leq | apply s_gtr | apply s_geq | apply s_eql | apply s_neq); exact rfl; all_goals (intro _; try (exfalso; omega)))
 | ((first | apply s_add | apply s_sub); exact rfl; omega)
 | (apply s_en; (focus (repeat (first | apply opds_nil | (apply opds_cons; (first | (focus ((conv => lhs; whnf); done)) | exact rfl))))); exact e_bld1 rfl rfl rfl rfl)
 | (apply s_st; (focus (repeat (first | apply opds_nil | (apply opds_cons; (first | (focus ((conv => lhs; whnf); done)) | exact rfl))))); exact e_stB rfl (by omega))
 | (apply s_en; (focus (repeat (first | apply opds_nil | (apply opds_cons; (first | (focus ((conv => lhs; whnf); done)) | exact rfl))))); exact e_app_sl rfl hql2 (by omega) (by unfold most; omega))
 | (apply s_len; (focus ((conv => lhs; whnf); done)); (first | assumption | (apply IsLL.at; assumption; omega)))
 | (apply s_idx; (focus ((conv => lhs; whnf); done)); exact rfl; (first | assumption | (apply IsLL.at; assumption; omega)); omega)
 | (apply s_ldB; exact rfl; exact rfl; omega; all_goals intro _)
 | (apply s_idxS; exact rfl; exact rfl; omega)
 | (apply s_ldI; exact rfl; omega)
 | (apply c_seq)
 | (apply c_reg)
 | (apply c_block)
 | (apply c_exitH)
 | (apply c_skip)
 | (apply c_condT; exact rfl)
 | (apply c_condF; exact rfl)
 | (with_reducible apply k_c)
    · rename_i q1 q2
      refine hK2 (seen2, qu2, k + 1) _ _ ⟨hb2, hq2, hqe, hd2, by simp only; omega, fun j hj hr => ?_⟩ (by simp only; omega) (by simp [go_sem, fx, fy, fxr]; done)
      rcases (by have hj2 : j < k + 1 := hj; omega : j < k ∨ j = k) with h | rfl
      · exact hdk j h hr
      · exact q2
    · rename_i q1 q2 q3
      rw [← hqq] at q1 q2 q3
      obtain ⟨b1, b2, b3⟩ := bas_step hg hb2 hq2 (k := k) (by omega) q2 q3
      rw [hqq] at b1 b2 b3 q1
      have a1 : ∀ {v : Int} {i : Nat}, i < qu2.length → getI (qu2 ++ [v]) i = getI qu2 i := fun {v i} h => by
        simp [getI_nat, List.getD, List.getElem?_append_left h]
      refine hK2 (seen2.set (getI (getLL nx (getI qu q)) k).toNat true, qu2 ++ [getI (getLL nx (getI qu q)) k], k + 1) _ _ ⟨b1, by simp; omega, fun i hi => ?_, fun i hi j hj hr => ?_, by simp only; omega, fun j hj hr => ?_⟩ (by simp only; omega) (by simp [go_sem, fx, fy, fxr, iL]; done)
      · simp only
        rw [a1 (by omega)]; exact hqe i hi
      · simp only at hj hr ⊢
        rw [a1 (by omega)] at hj hr ⊢
        exact b2 _ (hd2 i hi j hj hr)
      · simp only
        rcases (by have hj2 : j < k + 1 := hj; omega : j < k ∨ j = k) with h | rfl
        · exact b2 _ (hdk j h hr)
        · exact b3
    · rename_i q1 q2 q3
      refine hK2 (seen2, qu2, k + 1) _ _ ⟨hb2, hq2, hqe, hd2, by simp only; omega, fun j hj hr => ?_⟩ (by simp only; omega) (by simp [go_sem, fx, fy, fxr]; done)
      rcases (by have hj2 : j < k + 1 := hj; omega : j < k ∨ j = k) with h | rfl
      · exact hdk j h hr
      · exact absurd hr q3
    · have hke : k = (getLL nx (getI qu q)).length := by omega
      refine c_pre (vs := [x, y, .int .i64 mx, .sl 0 1 0 nx.length, .sl 1 1 0 qu2.length, .int .i64 q]) (H' := [some (.data (bL seen2)), some (.data (iL qu2))]) (by simp [go_sem, fx, fy, fxr]; done) ?_
      repeat' first
 | (apply s_mov; (focus ((conv => lhs; whnf); done)))
 | (apply c_nil)
 | ((first | apply s_add | apply s_sub); exact rfl; omega)
 | (apply c_reg)
      refine hK (seen2, qu2, q + 1) _ _ ⟨hb2, by simp only; omega, fun i hi => ?_⟩ (by simp only; omega) (by simp [go_sem, fx, fy, fxr]; done)
      rcases (by have hi2 : i < q + 1 := hi; omega : i < q ∨ i = q) with h | rfl
      · exact hd2 i h
      · simp only
        rw [hqq, ← hke]; exact hdk
  · have he := hend (by omega)
    subst he
    refine c_pre (vs := [.sl 0 1 0 nx.length]) (H' := [some (.data (bL (rchL nx rk f mx)))]) (by simp [go_sem, fx, fy]; done) ?_
    repeat' first
 | (apply s_mov; (focus ((conv => lhs; whnf); done)))
 | (apply c_nil)
 | (apply c_seq)
 | (apply c_reg)
 | (apply c_ret)
 | (with_reducible apply k_c)
    simp [finish, ress, resOf, look, tupOf, gc, subHeap, reach_new, reach_end, rangeL, roots, boxCells, nodupB, posOf, renL, AV.ren, pickO, renH, renO, bindEnv]
theorem c65 {x y : AV} {nx : List (List Int)} {rk : List Int} {f : Nat} {mx : Int} (hx : IsLL x nx) (hy : IsL y rk) (hg : Gra nx rk) (hf : f < nx.length) {m : Nat} (hm : 60 ≤ m) (H : Heap) :
    callPure (evF tab it m) true 65 [x, y, .int .i64 f, .int .i64 mx] H = some (.rd 1 nx.length (bL (rchL nx rk f mx)), H) := by
  refine callPure_frz (by simp [idFreeL, hx.free, hy.free, idf_int]) (by simp) (f65 hx hy hg hf hm) ?_
  have h2 : (bL (rchL nx rk f mx)).length = nx.length := by rw [bL_len, rchL_len]
  have h3 : (bL (rchL nx rk f mx)).take nx.length = bL (rchL nx rk f mx) := List.take_of_length_le (by omega)
  simp [frzV, Heap.data?, h2, h3]
end Go.AM.Pa
