/- A part of the proof: U40 U29 U30 U52 D1 D2. -/
import Derived.Test.YtmegimhfoedcdaaU39
import Derived.Test.YtmegimhfoedcdaaU34
import Derived.Test.YtmegimhfoedcdaaU36
import Derived.Test.YtmegimhfoedcdaaM3
set_option linter.unusedVariables false
set_option linter.unusedSimpArgs false
set_option linter.unusedSectionVars false
namespace Go.AM.Ch
attribute [local go_sem] gc subHeap reach_skip ren_free reach_new reach_newp reach_end rangeL roots boxCells nodupB posOf renL AV.ren pickO renH renO looks look bindEnv envOf reach_int reach_bool reach_nilS reach_rd putRow cells_sl cells_int cells_bool cells_nilS cells_rd cells_agg reach_agg reach_tup idFreeL idf_sl idf_ptr idf_int idf_bool idf_nilS idf_rd reach_fn reach_mp cells_fn cells_ptr cells_mp idf_mp idf_fn idf_agg idf_tup
set_option maxHeartbeats 8000000
theorem p_mul2 {H : Heap} {a : Int} (h : -4611686018427387904 ≤ a ∧ a < 4611686018427387904) : evP H (.bin .mul) [.int .i64 2, .int .i64 a] = some (.int .i64 (2 * a)) := p_mul (by omega)
theorem f54_core {b : List (List Int)} (hB : IsB b) {q : Nat} (hq : q < b.length) {x y : AV} {l : List Int} (hx : IsLL x b) (hy : IsL y l) (hln : l.length = b.length) (hb : ∀ v : Nat, v < b.length → -1099511627776 ≤ getI l (v : Int) ∧ getI l (v : Int) ≤ 1099511627776)
    {m : Nat} (hm : smK ≤ m) (hrec : ¬ (∀ v : Nat, v < b.length → (getI l (v : Int)).tdiv 2 = 0) → ∀ (args : List AV) (H : Heap), frzL H 40 args = some [x, .rd 1 b.length (iL (halfL l)), .int .i64 (q : Int)] → callPure (evF tab it m) true 54 args H = some (.rd 1 b.length (iL (redT b (halfL l) q)), H)) :
    evF tab it (m + 1) 54 [x, y, .int .i64 (q : Int)] [] = some (.sl 0 1 0 b.length, [some (.data (iL (redT b l q)))]) := by
  have fx := hx.free; have fy := hy.free
  have hn1 := hB.n1; have hn2 := hB.n2
  have hbd := hB.bd
  have hm2 : 2300 ≤ m := by have := smK_big; omega
  have ly : ∀ H, evP H .len [y] = some (.int .i64 ((b.length : Nat) : Int)) := fun H => by rw [← hln]; exact p_lenI hy
  have mk := fun call H => @e_mkI call H b.length (by unfold most; omega)
  have hhl := halfL_len l
  rw [hln] at hhl
  have hhg := fun (v : Nat) (hv : v < b.length) => halfL_get (l := l) (v := v) (by omega)
  obtain ⟨hs1, hs2, hs3⟩ := redT_ok hB (halfL l) hq
  have hsb := redT_le hB (l := halfL l) hq (M := 1099511627776) (by decide) fun v hv _ => by
    rw [hhg v hv]
    have := hb v hv
    have := tdiv2 (getI l (v : Int))
    omega
  have is := rd_isL hs1
  have hnear := fun (Z : List Int) (h1 : Z.length = b.length) (h2 : ∀ v : Nat, v < b.length → getI Z (v : Int) = 2 * getI (redT b (halfL l) q) (v : Int)) => near_half hB (l := l) (s := redT b (halfL l) q) (Z := Z) hq hln hb rfl h1 h2
  have hnear0 : (∀ v : Nat, v < b.length → (getI l (v : Int)).tdiv 2 = 0) → Near b.length q (apl b l (List.replicate b.length 0)) := fun h0 => by
    rw [apl_zero hB hln]
    refine ⟨hln, fun v hv _ => ?_, ?_⟩
    · have := h0 v hv
      have := tdiv2 (getI l (v : Int))
      omega
    · have := hb q hq
      omega
  have hfin := fun (Z : List Int) (h1 : Z.length = b.length) (h2 : getI Z (q : Int) = 0) => redT_pl hB (l := l) (Z := Z) hq h1 h2
  refine f_enter rfl rfl ?_
  have e55 := fun (Z : List Int) (hZ : Z.length = b.length) h1 (H : Heap) (ha : frzL H 40 [x, y, .sl 0 1 0 b.length] = some [x, y, .rd 1 b.length (iL Z)]) => c55p hx hy (rd_isL hZ) hbd hln hZ h1 (fun v hv => by have := hb v hv; omega) (m := m) (by omega) H ha
  have e81 := fun (Z : List Int) (hN : Near b.length q (apl b l Z)) (H : Heap) => c81 hx (rd_isL (apl_len b l Z)) hB hq hN hm H
  have e77 := fun (Z u : List Int) (hZ : Z.length = b.length) (hu : u.length = b.length) h1 h2 (H : Heap) (ha : frzL H 40 [.sl 0 1 0 b.length, .rd 1 b.length (iL u)] = some [.rd 1 b.length (iL Z), .rd 1 b.length (iL u)]) => c77o (rd_isL hZ) (rd_isL hu) (by omega) (by omega) (by omega) h1 h2 (m := m) (by omega) H ha
  clear hm
  generalize hcall : evF tab it m = call at *
  generalize hR : redT b l q = R at *
  generalize hS : redT b (halfL l) q = S at *
  have gcH : ∀ (z : Bool) (v : Nat) (C : List AV), gc 0 [x, y, .int .i64 (q : Int), .sl 0 1 0 b.length, .bool z, y, .int .i64 ((b.length : Nat) : Int), .int .i64 (v : Int)] [some (.data C)] = some ([x, y, .int .i64 (q : Int), .sl 0 1 0 b.length, .bool z, y, .int .i64 ((b.length : Nat) : Int), .int .i64 (v : Int)], [some (.data C)]) := fun z v C => by simp [go_sem, fx, fy]
  have gcZ : ∀ (v : Nat) (C D : List AV), gc 0 [x, y, .int .i64 (q : Int), .sl 1 1 0 b.length, .rd 1 b.length (iL S), .int .i64 ((b.length : Nat) : Int), .int .i64 (v : Int)] [some (.data C), some (.data D)] = some ([x, y, .int .i64 (q : Int), .sl 0 1 0 b.length, .rd 1 b.length (iL S), .int .i64 ((b.length : Nat) : Int), .int .i64 (v : Int)], [some (.data D)]) := fun v C D => by simp [go_sem, fx, fy]
  have gcY : ∀ (v : Nat) (D : List AV), gc 0 [x, y, .int .i64 (q : Int), .sl 0 1 0 b.length, .rd 1 b.length (iL S), .int .i64 ((b.length : Nat) : Int), .int .i64 (v : Int)] [some (.data D)] = some ([x, y, .int .i64 (q : Int), .sl 0 1 0 b.length, .rd 1 b.length (iL S), .int .i64 ((b.length : Nat) : Int), .int .i64 (v : Int)], [some (.data D)]) := fun v D => by simp [go_sem, fx, fy]
  have hend : ∀ (Z : List Int) (K : KT) (X : Nat → KT) (Rt : KT), Z.length = b.length → (∀ v : Nat, v < b.length → -1000000000000000 ≤ getI Z (v : Int) ∧ getI Z (v : Int) ≤ 1000000000000000) → getI Z (q : Int) = 0 → Near b.length q (apl b l Z) → Rt = finish 0 [.t 6] →
      RC call it m (.seq (.reg [⟨.inl .mov, [.t 11], some 57, none, []⟩, ⟨.inl .mov, [.t 0], some 58, none, []⟩, ⟨.inl .mov, [.t 0], some 59, none, []⟩, ⟨.inl .mov, [.t 1], some 60, none, []⟩, ⟨.inl .mov, [.t 11], some 61, none, []⟩, ⟨.inr (.call true true 55), [.t 59, .t 60, .t 61], some 62, none, []⟩, ⟨.inl .mov, [.t 2], some 63, none, []⟩, ⟨.inr (.call true true 81), [.t 58, .t 62, .t 63], some 64, none, []⟩, ⟨.inr (.call true false 77), [.t 57, .t 64], some 65, none, []⟩, ⟨.inl .mov, [.t 65], some 6, none, []⟩] none) .ret) 0 K X Rt (bindEnv [0, 1, 2, 11] 0 [x, y, .int .i64 (q : Int), .sl 0 1 0 b.length]) [some (.data (iL Z))] (some (.sl 0 1 0 b.length, [some (.data (iL R))])) := by
    intro Z K X Rt hZl hZb hZq hN hRt
    subst hRt
    obtain ⟨hu1, hu2, hu3⟩ := redT_ok hB (apl b l Z) hq
    have hub := redT_le hB (l := apl b l Z) hq (M := 100) (by omega) hN.oth
    have e55' := e55 Z hZl (fun v hv => by have := hZb v hv; omega) [some (.data (iL Z))] (frzL_cons (frzV_of fx) (frzL_cons (frzV_of fy) (frzL_cons (frz_sl rfl hZl) frzL_nil)))
    have e81' := e81 Z hN
    have e77' := e77 Z (redT b (apl b l Z) q) hZl hu1 (fun v hv => by have := hZb v (by omega); omega) (fun v hv => by have := hub v (by omega); omega) [some (.data (iL Z))] (frzL_cons (frz_sl rfl hZl) (frzL_cons rfl frzL_nil))
    rw [hZl, hfin Z hZl hZq] at e77'
    repeat' first
 | (apply s_mov; exact aW)
 | (apply c_nil)
 | (apply s_cn; exact aO; exact e55')
 | (apply s_cn; exact aO; exact e81' _)
 | (apply s_en; exact aO; exact e77')
 | (apply c_seq)
 | (apply c_reg)
 | (apply c_ret)
 | (with_reducible apply k_c)
    simp [finish, ress, resOf, look, tupOf, go_sem]
  skip
  repeat' first
 | (apply s_mov; exact aW)
 | (apply c_nil)
 | (apply s_pn; exact aO; exact ly _)
 | (apply s_en; exact aO; exact mk _ _)
 | (apply c_seq)
 | (apply c_reg)
 | (apply c_block)
 | (with_reducible apply k_c)
  refine c_loop ?_
  refine loop_gc (σ := Nat × List Int × Bool) (fun p => [x, y, .int .i64 (q : Int), .sl 0 1 0 b.length, .bool p.2.2, y, .int .i64 ((b.length : Nat) : Int), .int .i64 (p.1 : Int)]) (fun p => [some (.data (iL p.2.1))]) (fun p => p.1 ≤ b.length ∧ p.2.1.length = b.length ∧ (∀ i : Nat, i < p.1 → getI p.2.1 (i : Int) = (getI l (i : Int)).tdiv 2) ∧ (p.2.2 = true ↔ ∀ i : Nat, i < p.1 → (getI l (i : Int)).tdiv 2 = 0)) (fun p => b.length - p.1) ?_ _ (0, List.replicate b.length 0, true) _ _ ⟨by omega, by simp, fun i hi => by omega, by simp⟩ (by show b.length - 0 < _; omega) (gcH true 0 _)
  intro ⟨v, h, z⟩ ⟨hv, hhl', hh, hz⟩ K hK
  dsimp only at hv hhl' hh hz hK ⊢
  by_cases hvn : v < b.length
  · have h1 := hb v hvn
    have h2 := tdiv2 (getI l (v : Int))
    have st := fun (vv : Int) call H h' => e_stO (call := call) (H := H) (id := 0) (l := h) (i := v) (v := vv) h' (by omega)
    have quo := fun H => p_quo2 (H := H) (a := getI l (v : Int)) (by omega)
    have hnext : ∀ i : Nat, i < v + 1 → getI (h.set v ((getI l (v : Int)).tdiv 2)) (i : Int) = (getI l (i : Int)).tdiv 2 := fun i hi => by
      rw [getI_set (by omega)]
      by_cases e : i = v
      · subst e; rw [if_pos rfl]
      · rw [if_neg e]; exact hh i (by omega)
    have hzn : (∀ i : Nat, i < v + 1 → (getI l (i : Int)).tdiv 2 = 0) ↔ (∀ i : Nat, i < v → (getI l (i : Int)).tdiv 2 = 0) ∧ (getI l (v : Int)).tdiv 2 = 0 := ⟨fun h => ⟨fun i hi => h i (by omega), h v (by omega)⟩, fun ⟨h1, h2⟩ i hi => by
      rcases (by omega : i < v ∨ i = v) with h | rfl
      · exact h1 i h
      · exact h2⟩
    cases z with
    | true =>
      have hz0 := hz.1 rfl
      repeat' first
 | (apply s_mov; exact aW)
 | (apply s_gT; exact rfl)
 | (apply c_nil)
 | (apply s_pickT; exact rfl; exact aW)
 | (apply s_lss; exact rfl; all_goals (intro _; try (exfalso; omega)))
 | (apply s_eql; exact rfl; all_goals (intro _; try (exfalso; omega)))
 | (apply s_add; exact rfl; omega)
 | (apply s_pn; exact aO; exact quo _)
 | (apply s_pn; exact aO; exact p_ixO hvn)
 | (apply s_st; exact aO; exact st _ _ _ rfl)
 | (apply s_idx; exact aW; exact rfl; exact aI; omega)
 | (apply s_ldI; exact rfl; omega)
 | (apply c_seq)
 | (apply c_reg)
 | (apply c_block)
 | (apply c_skip)
 | (apply c_condT; exact rfl)
 | (with_reducible apply k_c)
      · refine hK (v + 1, _, true) _ _ ⟨by omega, by simpa using hhl', hnext, ?_⟩ (by show b.length - (v + 1) < _; omega) (gcH _ (v + 1) _)
        exact ⟨fun _ => hzn.2 ⟨hz0, by omega⟩, fun _ => rfl⟩
      · refine hK (v + 1, _, false) _ _ ⟨by omega, by simpa using hhl', hnext, ?_⟩ (by show b.length - (v + 1) < _; omega) (gcH _ (v + 1) _)
        exact ⟨fun e => (by cases e), fun h => absurd (hzn.1 h).2 (by omega)⟩
    | false =>
      repeat' first
 | (apply s_mov; exact aW)
 | (apply s_gF; exact rfl)
 | (apply c_nil)
 | (apply s_pickF; exact rfl; exact aW)
 | (apply s_lss; exact rfl; all_goals (intro _; try (exfalso; omega)))
 | (apply s_add; exact rfl; omega)
 | (apply s_pn; exact aO; exact quo _)
 | (apply s_pn; exact aO; exact p_ixO hvn)
 | (apply s_st; exact aO; exact st _ _ _ rfl)
 | (apply s_idx; exact aW; exact rfl; exact aI; omega)
 | (apply s_ldI; exact rfl; omega)
 | (apply c_seq)
 | (apply c_reg)
 | (apply c_block)
 | (apply c_skip)
 | (apply c_condT; exact rfl)
 | (with_reducible apply k_c)
      refine hK (v + 1, _, false) _ _ ⟨by omega, by simpa using hhl', hnext, ?_⟩ (by show b.length - (v + 1) < _; omega) (gcH _ (v + 1) _)
      exact ⟨fun e => (by cases e), fun h => hz.2 (hzn.1 h).1⟩
  · obtain rfl : v = b.length := by omega
    obtain rfl : h = halfL l := ext_getI (by omega) fun i hi => by rw [hh i (by omega), hhg i (by omega)]
    cases z with
    | true =>
      have hz0 := hz.1 rfl
      repeat' first
 | (apply c_nil)
 | (apply s_lss; exact rfl; all_goals (intro _; try (exfalso; omega)))
 | (apply c_seq)
 | (apply c_reg)
 | (apply c_exitH)
 | (apply c_condF; exact rfl)
 | (with_reducible apply k_c)
      apply c_pre (vs := [x, y, .int .i64 (q : Int), .sl 0 1 0 b.length, .bool true]) (H' := [some (.data (iL (halfL l)))])
      · simp [go_sem, fx, fy]
      repeat' first
 | (apply s_mov; exact aW)
 | (apply c_nil)
 | (apply s_notT; exact rfl)
 | (apply s_pn; exact aO; exact ly _)
 | (apply s_en; exact aO; exact mk _ _)
 | (apply c_seq)
 | (apply c_reg)
 | (apply c_skip)
 | (apply c_condF; exact rfl)
 | (with_reducible apply k_c)
      apply c_pre (vs := [x, y, .int .i64 (q : Int), .sl 0 1 0 b.length]) (H' := [some (.data (iL (List.replicate b.length 0)))])
      · simp [go_sem, fx, fy]
      refine hend _ _ _ _ (by simp) (fun v hv => ?_) ?_ (hnear0 hz0) rfl
      · rw [getI_nat]; simp [List.getD, hv]
      · rw [getI_nat]; simp [List.getD, hq]
    | false =>
      have hz0 : ¬ (∀ v : Nat, v < b.length → (getI l (v : Int)).tdiv 2 = 0) := fun h => by have := hz.2 h; cases this
      have hrec' := hrec hz0 [x, .sl 0 1 0 b.length, .int .i64 (q : Int)] [some (.data (iL (halfL l))), some (.data (iL (List.replicate b.length 0)))] (frzL_cons (frzV_of fx) (frzL_cons (frz_sl rfl hhl) (frzL_cons rfl frzL_nil)))
      have lS : ∀ H, evP H .len [AV.rd 1 b.length (iL S)] = some (.int .i64 ((b.length : Nat) : Int)) := fun H => rfl
      repeat' first
 | (apply c_nil)
 | (apply s_lss; exact rfl; all_goals (intro _; try (exfalso; omega)))
 | (apply c_seq)
 | (apply c_reg)
 | (apply c_exitH)
 | (apply c_condF; exact rfl)
 | (with_reducible apply k_c)
      apply c_pre (vs := [x, y, .int .i64 (q : Int), .sl 0 1 0 b.length, .bool false]) (H' := [some (.data (iL (halfL l)))])
      · simp [go_sem, fx, fy]
      repeat' first
 | (apply s_mov; exact aW)
 | (apply c_nil)
 | (apply s_notF; exact rfl)
 | (apply s_pn; exact aO; exact ly _)
 | (apply s_en; exact aO; exact mk _ _)
 | (apply s_cn; exact aO; exact hrec')
 | (apply s_pn; exact aO; exact lS _)
 | (apply c_seq)
 | (apply c_reg)
 | (apply c_block)
 | (apply c_condT; exact rfl)
 | (with_reducible apply k_c)
      refine c_loop ?_
      refine loop_gc (σ := Nat × List Int) (fun p => [x, y, .int .i64 (q : Int), .sl 0 1 0 b.length, .rd 1 b.length (iL S), .int .i64 ((b.length : Nat) : Int), .int .i64 (p.1 : Int)]) (fun p => [some (.data (iL p.2))]) (fun p => p.1 ≤ b.length ∧ p.2.length = b.length ∧ ∀ i : Nat, i < p.1 → getI p.2 (i : Int) = 2 * getI S (i : Int)) (fun p => b.length - p.1) ?_ _ (0, List.replicate b.length 0) _ _ ⟨by omega, by simp, fun i hi => by omega⟩ (by show b.length - 0 < _; omega) (gcZ 0 _ _)
      intro ⟨v, Z⟩ ⟨hv, hZl, hZ⟩ K2 hK2
      dsimp only at hv hZl hZ hK2 ⊢
      by_cases hvn : v < b.length
      · have h1 := hsb v hvn
        have st := fun (vv : Int) call H h' => e_stO (call := call) (H := H) (id := 0) (l := Z) (i := v) (v := vv) h' (by omega)
        have mu := fun H => p_mul2 (H := H) (a := getI S (v : Int)) (by omega)
        repeat' first
 | (apply s_mov; exact aW)
 | (apply c_nil)
 | (apply s_lss; exact rfl; all_goals (intro _; try (exfalso; omega)))
 | (apply s_add; exact rfl; omega)
 | (apply s_pn; exact aO; exact mu _)
 | (apply s_pn; exact aO; exact p_ixO hvn)
 | (apply s_st; exact aO; exact st _ _ _ rfl)
 | (apply s_idx; exact aW; exact rfl; exact aI; omega)
 | (apply s_ldI; exact rfl; omega)
 | (apply c_seq)
 | (apply c_reg)
 | (apply c_block)
 | (apply c_skip)
 | (apply c_condT; exact rfl)
 | (with_reducible apply k_c)
        refine hK2 (v + 1, _) _ _ ⟨by omega, by simpa using hZl, fun i hi => ?_⟩ (by show b.length - (v + 1) < _; omega) (gcY (v + 1) _)
        dsimp only
        rw [getI_set (by omega)]
        by_cases e : i = v
        · subst e; rw [if_pos rfl]
        · rw [if_neg e]; exact hZ i (by omega)
      · obtain rfl : v = b.length := by omega
        have hN := hnear Z hZl hZ
        repeat' first
 | (apply c_nil)
 | (apply s_lss; exact rfl; all_goals (intro _; try (exfalso; omega)))
 | (apply c_seq)
 | (apply c_reg)
 | (apply c_exitH)
 | (apply c_condF; exact rfl)
 | (with_reducible apply k_c)
        apply c_pre (vs := [x, y, .int .i64 (q : Int), .sl 0 1 0 b.length]) (H' := [some (.data (iL Z))])
        · simp [go_sem, fx, fy]
        refine hend Z _ _ _ hZl (fun v hv => ?_) ?_ hN rfl
        · rw [hZ v hv]; have := hsb v hv; omega
        · rw [hZ q hq]; unfold gf at hs2; omega
theorem f54 {b : List (List Int)} (hB : IsB b) {q : Nat} (hq : q < b.length) : ∀ (k : Nat) {x y : AV} {l : List Int}, IsLL x b → IsL y l → l.length = b.length → (∀ v : Nat, v < b.length → -1099511627776 ≤ getI l (v : Int) ∧ getI l (v : Int) ≤ 1099511627776) → (∀ v : Nat, v < b.length → (getI l (v : Int)).natAbs < 2 ^ k) → ∀ {m : Nat}, smK + 1 + k ≤ m →
    evF tab it m 54 [x, y, .int .i64 (q : Int)] [] = some (.sl 0 1 0 b.length, [some (.data (iL (redT b l q)))])
  | 0, x, y, l, hx, hy, hln, hb, hk, m, hm => by
    obtain ⟨m, rfl⟩ : ∃ j, m = j + 1 := ⟨m - 1, by omega⟩
    refine f54_core hB hq hx hy hln hb (by omega) fun h => absurd (fun v hv => ?_) h
    have := hk v hv
    have := tdiv2 (getI l (v : Int))
    omega
  | k + 1, x, y, l, hx, hy, hln, hb, hk, m, hm => by
    obtain ⟨m, rfl⟩ : ∃ j, m = j + 1 := ⟨m - 1, by omega⟩
    refine f54_core hB hq hx hy hln hb (by omega) fun _ args H ha => ?_
    have hhl := halfL_len l
    rw [hln] at hhl
    have hhg := fun (v : Nat) (hv : v < b.length) => halfL_get (l := l) (v := v) (by omega)
    have ih := f54 hB hq k hx (rd_isL hhl) hhl (fun v hv => by
      rw [hhg v hv]
      have := hb v hv
      have := tdiv2 (getI l (v : Int))
      omega) (fun v hv => by
      rw [hhg v hv]
      have h1 := hk v hv
      rw [Nat.pow_succ] at h1
      have := tdiv2 (getI l (v : Int))
      omega) (m := m) (by omega)
    exact callPure_own ha ih rfl (by simp [HO.hasRd, iL_noRd]) (frz_sl rfl (redT_ok hB (halfL l) hq).1)
set_option maxHeartbeats 8000000
theorem own_noRd (l : List Int) : (ownV 0 (iL l)).hasRd = false := by cases l <;> rfl
theorem owH_noRd (l : List Int) : ((owH (iL l)).all fun o => !HO.hasRd o) = true := by
  rcases l with _ | ⟨a, r⟩
  · rfl
  · have := iL_noRd (a :: r)
    simp only [iL, List.map_cons] at this
    simp [owH, iL, HO.hasRd, this]
theorem c26p {args : List AV} {x y z : AV} {b : List (List Int)} {s t : List Int} (hx : IsLL x b) (hy : IsL y s) (hz : IsL z t) (hb : Bd b) (hsy : Sym b) (hn : 1 ≤ b.length) (hsn : s.length = b.length) (htn : t.length = b.length)
    (ht : ∀ v : Nat, v < b.length → -4503599627370496 ≤ getI t (v : Int) ∧ getI t (v : Int) ≤ 4503599627370496) (hs : ∀ v : Nat, v < b.length → -288230376151711744 ≤ getI s (v : Int) ∧ getI s (v : Int) ≤ 288230376151711744)
    {m : Nat} (hm : 1100 ≤ m) (H : Heap) (ha : frzL H 40 args = some [x, y, z]) : callPure (evF tab it m) true 26 args H = some (fzL (apl b s t), H) :=
  callPure_own ha (f26 hx hy hz hb hsy hn hsn htn ht hs hm) (own_noRd _) (owH_noRd _) (frz_own _)
def bitL (n S : Nat) : List Int := (List.range n).map fun (i : Nat) => ((S / 2 ^ i % 2 : Nat) : Int)
theorem bitL_len (n S : Nat) : (bitL n S).length = n := by simp [bitL]
theorem bitL_get {n S i : Nat} (h : i < n) : getI (bitL n S) (i : Int) = ((S / 2 ^ i % 2 : Nat) : Int) := by
  rw [getI_nat]
  simp [bitL, List.getD, h]
theorem f78 {x y : AV} {b : List (List Int)} {l : List Int} {S : Nat} (hx : IsLL x b) (hy : IsL y l) (hB : IsB b) (hln : l.length = b.length) (hl : ∀ v : Nat, v < b.length → -288230376151711744 ≤ getI l (v : Int) ∧ getI l (v : Int) ≤ 288230376151711744)
    {m : Nat} (hm : 1200 ≤ m) : evF tab it m 78 [x, y, .int .i64 (S : Int)] [] = some (fzL (apl b l (bitL b.length S)), []) := by
  obtain ⟨m, rfl⟩ : ∃ j, m = j + 1 := ⟨m - 1, by omega⟩
  have fx := hx.free; have fy := hy.free
  have hn1 := hB.n1; have hn2 := hB.n2
  have lx : ∀ H, evP H .len [x] = some (.int .i64 ((b.length : Nat) : Int)) := fun H => by cases hx <;> rfl
  have mk := fun call H => @e_mkI call H b.length (by unfold most; omega)
  have hbl := bitL_len b.length S
  have hbg := fun (i : Nat) (h : i < b.length) => bitL_get (S := S) h
  have e26 := c26p hx hy (rd_isL hbl) hB.bd hB.sym hn1 hln hbl (fun v hv => by rw [hbg v hv]; omega) hl (m := m) (by omega) [some (.data (iL (bitL b.length S)))] (args := [x, y, .sl 0 1 0 b.length]) (frzL_cons (frzV_of fx) (frzL_cons (frzV_of fy) (frzL_cons (frz_sl rfl hbl) frzL_nil)))
  refine f_enter rfl rfl ?_
  generalize evF tab it m = call at *
  repeat' first
 | (apply s_mov; exact aW)
 | (apply c_nil)
 | (apply s_pn; exact aO; exact lx _)
 | (apply s_en; exact aO; exact mk _ _)
 | (apply c_seq)
 | (apply c_reg)
 | (apply c_block)
 | (with_reducible apply k_c)
  have gcO : ∀ (k : Nat) (C : List AV), gc 0 [x, y, .int .i64 (S : Int), .sl 0 1 0 b.length, .int .i64 (k : Int)] [some (.data C)] = some ([x, y, .int .i64 (S : Int), .sl 0 1 0 b.length, .int .i64 (k : Int)], [some (.data C)]) := fun k C => by simp [go_sem, fx, fy]
  refine c_loop ?_
  refine loop_gc (σ := Nat × List Int) (fun p => [x, y, .int .i64 (S : Int), .sl 0 1 0 b.length, .int .i64 (p.1 : Int)]) (fun p => [some (.data (iL p.2))]) (fun p => p.1 ≤ b.length ∧ p.2.length = b.length ∧ ∀ i : Nat, i < p.1 → getI p.2 (i : Int) = ((S / 2 ^ i % 2 : Nat) : Int)) (fun p => b.length - p.1) ?_ _ (0, List.replicate b.length 0) _ _ ⟨by omega, by simp, fun i hi => by omega⟩ (by show b.length - 0 < _; omega) (gcO 0 _)
  intro ⟨k, o⟩ ⟨hk, hol, ho⟩ K hK
  dsimp only at hk hol ho hK ⊢
  by_cases hkn : k < b.length
  · have shr := fun H => p_shr (H := H) (a := S) (b := k) (by omega)
    have st := fun (vv : Int) call H h => e_stO (call := call) (H := H) (id := 0) (l := o) (i := k) (v := vv) h (by omega)
    generalize hD : S / 2 ^ k = D at *
    have hrem : ∀ H, evP H (.bin .rem) [.int .i64 (D : Int), .int .i64 2] = some (.int .i64 ((D % 2 : Nat) : Int)) := fun H => rfl
    repeat' first
 | (apply s_mov; exact aW)
 | (apply c_nil)
 | (apply s_lss; exact rfl; all_goals (intro _; try (exfalso; omega)))
 | (apply s_add; exact rfl; omega)
 | (apply s_pn; exact aO; exact lx _)
 | (apply s_pn; exact aO; exact shr _)
 | (apply s_pn; exact aO; exact hrem _)
 | (apply s_pn; exact aO; exact p_ixO hkn)
 | (apply s_st; exact aO; exact st _ _ _ rfl)
 | (apply c_seq)
 | (apply c_reg)
 | (apply c_block)
 | (apply c_skip)
 | (apply c_condT; exact rfl)
 | (with_reducible apply k_c)
    all_goals first
      | (exfalso; omega)
      | skip
    refine hK (k + 1, _) _ _ ⟨by omega, by simpa using hol, fun i hi => ?_⟩ (by show b.length - (k + 1) < _; omega) (gcO (k + 1) _)
    dsimp only
    rw [getI_set (by omega)]
    by_cases e : i = k
    · subst e; rw [if_pos rfl, hD]
    · rw [if_neg e]; exact ho i (by omega)
  · obtain rfl : k = b.length := by omega
    obtain rfl : o = bitL b.length S := ext_getI (by rw [hbl, hol]) fun i hi => by rw [hbg i (by omega)]; exact ho i (by omega)
    have fz := (isL_fz (apl b l (bitL b.length S))).free
    generalize fzL (apl b l (bitL b.length S)) = vz at *
    repeat' first
 | (apply s_mov; exact aW)
 | (apply c_nil)
 | (apply s_lss; exact rfl; all_goals (intro _; try (exfalso; omega)))
 | (apply s_pn; exact aO; exact lx _)
 | (apply c_seq)
 | (apply c_reg)
 | (apply c_exitH)
 | (apply c_condF; exact rfl)
 | (with_reducible apply k_c)
    apply c_pre (vs := [x, y, .sl 0 1 0 b.length]) (H' := [some (.data (iL (bitL b.length S)))])
    · simp [go_sem, fx, fy]
    repeat' first
 | (apply s_mov; exact aW)
 | (apply c_nil)
 | (apply s_cn; exact aO; exact e26)
 | (apply c_seq)
 | (apply c_reg)
 | (apply c_ret)
 | (with_reducible apply k_c)
    exact fin_t (by (conv => lhs; whnf)) (by first | assumption | rfl) rfl
theorem c78 {x y : AV} {b : List (List Int)} {l : List Int} {S : Nat} (hx : IsLL x b) (hy : IsL y l) (hB : IsB b) (hln : l.length = b.length) (hl : ∀ v : Nat, v < b.length → -288230376151711744 ≤ getI l (v : Int) ∧ getI l (v : Int) ≤ 288230376151711744)
    {m : Nat} (hm : 1200 ≤ m) (H : Heap) : callPure (evF tab it m) true 78 [x, y, .int .i64 (S : Int)] H = some (fzL (apl b l (bitL b.length S)), H) :=
  callPure_free (by simp [idFreeL, AV.idFree, hx.free, hy.free]) (by simp) (f78 hx hy hB hln hl hm) (isL_fz _).free
set_option maxHeartbeats 8000000
theorem fzL_ne {l : List Int} {n : Nat} (h : l.length = n) (hn : 1 ≤ n) : fzL l = .rd 1 n (iL l) := by
  rcases l with _ | ⟨a, r⟩
  · simp at h; omega
  · subst h; simp [fzL]
theorem e_appT {call : CallF} {H : Heap} {y : AV} {s : List Int} (hy : IsL y s) (h1 : 1 ≤ s.length) (h2 : s.length ≤ 1000) : evE call H (.app true 1 8) [.nilS, y] = some (fzL s, H) := by
  rw [fzL_ne rfl h1]
  have hl := iL_len s
  have hm : s.length ≤ most := by unfold most; omega
  cases hy with
  | nil => simp at h1
  | rd =>
    have h0 : ¬ s = [] := by intro e; subst e; simp at h1
    simp [evE, appOf, szOk, lenOf, rowOf, hl, h0, hm, killRow, newRow, List.take_of_length_le]
theorem c35d {x : AV} {b : List (List Int)} (hx : IsLL x b) (hB : IsB b) {i : Nat} (hi : i < b.length) {m : Nat} (hm : 1020 ≤ m) (H : Heap) : callPure (evF tab it m) true 35 [x, .int .i64 (i : Int)] H = some (.int .i64 (deg b.length (ed b) i), H) := by
  rw [← deg_sumI hB.bd hi]
  have hn := hB.n2
  exact c35 hx hi (by rw [hB.bd.row i hi]; omega) (fun v hv => by have := row_all' hB.bd hi v hv; omega) hm H
where
  row_all' {b : List (List Int)} (hb : Bd b) {i : Nat} (hi : i < b.length) : ∀ v ∈ getLL b (i : Int), 0 ≤ v ∧ v ≤ 3 := fun v hv => by
    obtain ⟨k, hk, e⟩ := List.getElem_of_mem hv
    have := hb.val i k hi (by rw [← hb.row i hi]; exact hk)
    rw [getI_nat] at this
    simpa [List.getD, hk, e] using this
set_option maxHeartbeats 4000000
theorem renL_free {f : Nat → Option Nat} : ∀ {gs : List AV}, idFreeL gs = true → renL f gs = some gs
  | [], _ => rfl
  | g :: r, h => by
    simp only [idFreeL, Bool.and_eq_true] at h
    simp only [renL, ren_self h.1, Option.bind_some, renL_free h.2, Option.map_some]
theorem reach_pre {H : Heap} : ∀ (pre : List AV) {k : Nat} {acc : List Nat} {r : List AV}, idFreeL pre = true → reach H (k + pre.length) acc (pre ++ r) = reach H k acc r
  | [], _, _, _, _ => rfl
  | v :: pre, k, acc, r, h => by
    simp only [idFreeL, Bool.and_eq_true] at h
    rw [List.length_cons, ← Nat.add_assoc, List.cons_append, reach_skip h.1]
    exact reach_pre pre h.2
theorem gcR {H : Heap} {pre gs : List AV} {p M : Nat} {is : List Nat} {R : List (List AV)} (hp : idFreeL pre = true) (hpl : pre.length ≤ 20) (hg : idFreeL gs = true)
    (hb : H[p]? = some (some (.box (refs is R)))) (hl : is.length = R.length) (hR : ∀ (j i : Nat) (l : List AV), is[j]? = some i → R[j]? = some l → H[i]? = some (some (.data l))) (hd : (p :: is).Nodup) (hk : is.length < 100) :
    gc 0 (pre ++ .sl p 1 0 M :: gs) H = some (pre ++ .sl 0 1 0 M :: gs, some (.box (refs (List.range' 1 is.length) R)) :: rowsH R) := by
  have hφ : nodupB (p :: is) = true := nodupB_iff.2 hd
  have q1 : posOf (p :: is) p = some 0 := posOf_of_get hφ (j := 0) rfl
  have pr : renL (posOf (p :: is)) (refs is R) = some (refs (List.range' 1 is.length) R) := renL_refs hφ is R 1 hl fun j i h => by rw [Nat.add_comm]; exact h
  have hpick := pickO_refs is R hl hR
  obtain ⟨d1, d2⟩ := List.nodup_cons.1 hd
  refine gc_of (φ := p :: is) ?_ hφ (vs' := pre ++ .sl 0 1 0 M :: gs) ?_ (Hp := some (.box (refs is R)) :: rowsH R) ?_ ?_
  · have b2 : boxCells H p = refs is R := by simp [boxCells, hb]
    have e : reach H 400 (rangeL 0 []) (roots H (rangeL 0 []) ++ (pre ++ .sl p 1 0 M :: gs)) = reach H (399 - pre.length) [p] (refs is R ++ gs) := by
      have h1 : rangeL 0 [] = [] := rfl
      have h2 : roots H (rangeL 0 []) = [] := rfl
      rw [h2, List.nil_append, h1, show (400 : Nat) = (400 - pre.length) + pre.length by omega, reach_pre pre hp, show 400 - pre.length = (399 - pre.length) + 1 by omega, reach_new, b2]
      simp
    rw [e, reach_refs' (by omega) hl (fun i hi => ?_) d2 (rows_box hl hR), reach_free _ _ _ _ hg]
    · rfl
    · have h3 : i ≠ p := fun e => d1 (e ▸ hi)
      simp [h3]
  · rw [renL_append, renL_free hp]
    simp [renL, AV.ren, q1, renL_free hg]
  · simp [pickO, hb, hpick]
  · simp [renH, renO, pr, renH_rows]
def HB (n : Nat) (rows : List (List Int)) : Heap := some (.box (refs (List.range' 1 n) (rows.map iL))) :: rowsH (rows.map iL)
structure Rows (n : Nat) (rows : List (List Int)) : Prop where
  len : rows.length = n
  each : ∀ r ∈ rows, r.length = n
theorem Rows.get {n : Nat} {rows : List (List Int)} (h : Rows n rows) {i : Nat} (hi : i < n) : (getLL rows (i : Int)).length = n := by
  rw [getLL_nat]
  have : i < rows.length := by rw [h.len]; exact hi
  simp only [List.getD, List.getElem?_eq_getElem this, Option.getD_some]
  exact h.each _ (List.getElem_mem this)
theorem rows_at {rows : List (List Int)} {i : Nat} (hi : i < rows.length) : (rows.map iL)[i]? = some (iL (getLL rows (i : Int))) := by
  rw [getLL_nat]
  simp [List.getD, hi]
theorem gcHB {pre gs : List AV} {n M : Nat} {rows : List (List Int)} (h : Rows n rows) (hn : n < 100) (hp : idFreeL pre = true) (hpl : pre.length ≤ 20) (hg : idFreeL gs = true) :
    gc 0 (pre ++ .sl 0 1 0 M :: gs) (HB n rows) = some (pre ++ .sl 0 1 0 M :: gs, HB n rows) := by
  have hl : (List.range' 1 n).length = (rows.map iL).length := by simp [h.len]
  have := gcR (H := HB n rows) (p := 0) (M := M) (is := List.range' 1 n) (R := rows.map iL) hp hpl hg rfl hl (rng_rows0 [some (.box (refs (List.range' 1 n) (rows.map iL)))] rfl) (by simp [List.mem_range'_1, List.nodup_range']) (by simpa using hn)
  simpa [HB] using this
theorem hb_row {n i : Nat} {rows : List (List Int)} (h : Rows n rows) (hi : i < n) : (HB n rows)[1 + i]? = some (some (.data (iL (getLL rows (i : Int))))) := by
  have hil : i < rows.length := by rw [h.len]; exact hi
  have := rng_rows0 [some (.box (refs (List.range' 1 n) (rows.map iL)))] (s := 1) (q := n) (R := rows.map iL) rfl i (1 + i) _ (by rw [List.getElem?_range' hi]; simp) (rows_at hil)
  exact this
theorem refs_len : ∀ (is : List Nat) {R S : List (List AV)}, R.map List.length = S.map List.length → refs is R = refs is S
  | [], R, S, _ => by simp [refs]
  | i :: is, [], [], _ => rfl
  | i :: is, [], _ :: _, h => by simp at h
  | i :: is, _ :: _, [], h => by simp at h
  | i :: is, l :: R, k :: S, h => by
    simp only [List.map_cons, List.cons.injEq] at h
    simp [refs, h.1, refs_len is h.2]
def setLL (rows : List (List Int)) (i j : Nat) (x : Int) : List (List Int) := rows.set i ((getLL rows (i : Int)).set j x)
theorem setLL_rows {n i j : Nat} {x : Int} {rows : List (List Int)} (h : Rows n rows) (hi : i < n) : Rows n (setLL rows i j x) := by
  refine ⟨by simp [setLL, h.len], fun r hr => ?_⟩
  unfold setLL at hr
  rcases List.mem_or_eq_of_mem_set hr with hr | hr
  · exact h.each r hr
  · rw [hr, List.length_set]; exact h.get hi
theorem setLL_get {n i j p q : Nat} {x : Int} {rows : List (List Int)} (h : Rows n rows) (hi : i < n) (hj : j < n) : getI (getLL (setLL rows i j x) (p : Int)) (q : Int) = if p = i ∧ q = j then x else getI (getLL rows (p : Int)) (q : Int) := by
  have hil : i < rows.length := by rw [h.len]; exact hi
  have hrl := h.get hi
  have e : getLL (setLL rows i j x) (p : Int) = if p = i then (getLL rows (i : Int)).set j x else getLL rows (p : Int) := by
    unfold setLL
    rw [getLL_nat, getLL_nat rows p]
    by_cases hp : p = i
    · subst hp; simp [List.getD, hil]
    · rw [if_neg hp]; simp [List.getD, List.getElem?_set_ne (Ne.symm hp)]
  rw [e]
  by_cases hp : p = i
  · subst hp
    rw [if_pos rfl, getI_set (by omega)]
    by_cases hq : q = j
    · rw [if_pos hq, if_pos ⟨rfl, hq⟩]
    · rw [if_neg hq, if_neg (fun h => hq h.2)]
  · rw [if_neg hp, if_neg (fun h => hp h.1)]
theorem hb_st {call : CallF} {n i j : Nat} {x : Int} {rows : List (List Int)} (h : Rows n rows) (hi : i < n) (hj : j < n) : evE call (HB n rows) (.st 1) [.ptr (1 + i) j, .int .i64 x] = some (.undef, HB n (setLL rows i j x)) := by
  have hil : i < rows.length := by rw [h.len]; exact hi
  have h1 := hb_row h hi
  have hd : Heap.data? (HB n rows) (1 + i) = some (iL (getLL rows (i : Int))) := data?_iff.2 h1
  have hst := e_stO (call := call) (H := HB n rows) (id := 1 + i) (l := getLL rows (i : Int)) (i := j) (v := x) hd (by rw [h.get hi]; exact hj)
  rw [hst]
  have e1 : (HB n rows).set (1 + i) (some (.data (iL ((getLL rows (i : Int)).set j x)))) = HB n (setLL rows i j x) := by
    unfold HB
    rw [Nat.add_comm, List.set_cons_succ]
    have e2 : (rowsH (rows.map iL)).set i (some (.data (iL ((getLL rows (i : Int)).set j x)))) = rowsH ((setLL rows i j x).map iL) := by
      simp [rowsH, setLL, List.map_set]
    have e3 : refs (List.range' 1 n) (rows.map iL) = refs (List.range' 1 n) ((setLL rows i j x).map iL) := refs_len _ (by
      refine List.ext_getElem (by simp [setLL]) fun k h1 h2 => ?_
      simp only [List.length_map] at h1
      have hkn : k < n := by rw [← h.len]; exact h1
      have a := h.get hkn
      have c := (setLL_rows (x := x) (j := j) h hi).get hkn
      rw [getLL_nat] at a c
      have h3 : k < (setLL rows i j x).length := by simpa [setLL] using h1
      simp only [List.getD, List.getElem?_eq_getElem h1, List.getElem?_eq_getElem h3, Option.getD_some] at a c
      simp [iL_len, a, c])
    rw [e2, e3]
  rw [e1]
set_option maxHeartbeats 2000000
def skp (i r : Nat) : Nat := if r < i then r else r + 1
def mn (M : Nat → Nat → Int) (i j : Nat) : Nat → Nat → Int := fun r c => M (skp i r) (skp j c)
def sg (i : Nat) : Int := if i % 2 = 0 then 1 else -1
theorem sg_succ (i : Nat) : sg (i + 1) = - sg i := by unfold sg; split <;> split <;> omega
theorem sg_sq (i : Nat) : sg i * sg i = 1 := by unfold sg; split <;> rfl
def det : Nat → (Nat → Nat → Int) → Int
  | 0, _ => 1
  | n + 1, M => sumTo (fun i => sg i * (M i 0 * det n (mn M i 0))) (n + 1)
theorem skp_lt {i r n : Nat} (h : r < n) : skp i r < n + 1 := by unfold skp; split <;> omega
theorem det_congr : ∀ {n : Nat} {M M' : Nat → Nat → Int}, (∀ r c, r < n → c < n → M r c = M' r c) → det n M = det n M'
  | 0, _, _, _ => rfl
  | n + 1, M, M', h => by
    unfold det
    refine sumTo_congr fun i hi => ?_
    rw [h i 0 hi (by omega), det_congr (n := n) (M := mn M i 0) (M' := mn M' i 0) fun r c hr hc => h _ _ (skp_lt hr) (skp_lt hc)]
def rwR (M : Nat → Nat → Int) (k : Nat) (f : Nat → Int) : Nat → Nat → Int := fun r c => if r = k then f c else M r c
theorem rwR_self (M : Nat → Nat → Int) (k : Nat) : rwR M k (M k) = M := by
  funext r c
  unfold rwR
  split
  · rename_i h; rw [h]
  · rfl
theorem rwR_comm (M : Nat → Nat → Int) {k l : Nat} (h : k ≠ l) (f g : Nat → Int) : rwR (rwR M k f) l g = rwR (rwR M l g) k f := by
  funext r c
  unfold rwR
  by_cases e : r = k <;> by_cases e2 : r = l <;> simp [e, e2] <;> omega
theorem mn_rwR_at (M : Nat → Nat → Int) (k : Nat) (f : Nat → Int) (j : Nat) : mn (rwR M k f) k j = mn M k j := by
  funext r c
  unfold mn rwR
  rw [if_neg (by unfold skp; split <;> omega)]
theorem mn_rwR_lt (M : Nat → Nat → Int) {k i : Nat} (h : k < i) (f : Nat → Int) (j : Nat) : mn (rwR M k f) i j = rwR (mn M i j) k (fun c => f (skp j c)) := by
  funext r c
  unfold mn rwR
  by_cases e : r = k
  · subst e; rw [if_pos (by unfold skp; rw [if_pos h]), if_pos rfl]
  · rw [if_neg (by unfold skp; split <;> omega), if_neg e]
theorem mn_rwR_gt (M : Nat → Nat → Int) {k i : Nat} (h : i < k + 1) (f : Nat → Int) (j : Nat) : mn (rwR M (k + 1) f) i j = rwR (mn M i j) k (fun c => f (skp j c)) := by
  funext r c
  unfold mn rwR
  by_cases e : r = k
  · subst e; rw [if_pos (by unfold skp; rw [if_neg (by omega)]), if_pos rfl]
  · rw [if_neg (by unfold skp; split <;> omega), if_neg e]
theorem det_lin (t : Int) : ∀ {n : Nat} {M : Nat → Nat → Int} {k : Nat} {f g : Nat → Int}, k < n → det n (rwR M k (fun c => f c + t * g c)) = det n (rwR M k f) + t * det n (rwR M k g)
  | n + 1, M, k, f, g, hk => by
    unfold det
    rw [sumTo_mul, ← sumTo_add]
    refine sumTo_congr fun i hi => ?_
    by_cases e : i = k
    · subst e
      rw [mn_rwR_at, mn_rwR_at, mn_rwR_at]
      simp only [rwR, if_true]
      rw [Int.add_mul, Int.mul_add, Int.mul_assoc, Int.mul_left_comm (sg i) t]
    · have em : ∀ f : Nat → Int, rwR M k f i 0 = M i 0 := fun f => by unfold rwR; rw [if_neg e]
      rw [em, em, em]
      rcases Nat.lt_or_ge k i with h | h
      · rw [mn_rwR_lt _ h, mn_rwR_lt _ h, mn_rwR_lt _ h, det_lin t (n := n) (M := mn M i 0) (k := k) (f := fun c => f (skp 0 c)) (g := fun c => g (skp 0 c)) (by omega), Int.mul_add, Int.mul_add, Int.mul_left_comm (M i 0) t, Int.mul_left_comm (sg i) t]
      · obtain ⟨k, rfl⟩ : ∃ j, k = j + 1 := ⟨k - 1, by omega⟩
        have h' : i < k + 1 := by omega
        rw [mn_rwR_gt _ h', mn_rwR_gt _ h', mn_rwR_gt _ h', det_lin t (n := n) (M := mn M i 0) (k := k) (f := fun c => f (skp 0 c)) (g := fun c => g (skp 0 c)) (by omega), Int.mul_add, Int.mul_add, Int.mul_left_comm (M i 0) t, Int.mul_left_comm (sg i) t]
theorem sumTo_pair {F : Nat → Int} {k : Nat} : ∀ {n : Nat}, k + 1 < n → (∀ j, j < n → j ≠ k → j ≠ k + 1 → F j = 0) → sumTo F n = F k + F (k + 1)
  | n + 1, hk, h => by
    simp only [sumTo]
    by_cases e : n = k + 1
    · subst e
      have : sumTo F (k + 1) = F k := by
        simp only [sumTo]
        have e0 : sumTo F k = sumTo (fun _ => 0) k := sumTo_congr fun j hj => h j (by omega) (by omega) (by omega)
        rw [e0, sumTo_zero]; omega
      rw [this]
    · rw [sumTo_pair (n := n) (by omega) fun j hj => h j (by omega), h n (by omega) (by omega) e]; omega
theorem det_adj : ∀ {n : Nat} {M : Nat → Nat → Int} {k : Nat}, k + 1 < n → (∀ c, M k c = M (k + 1) c) → det n M = 0
  | n + 1, M, k, hk, h => by
    unfold det
    rw [sumTo_pair (k := k) hk fun j hj h1 h2 => ?_]
    · have e : mn M k 0 = mn M (k + 1) 0 := by
        funext r c
        unfold mn
        by_cases e : r = k
        · subst e
          rw [show skp r r = r + 1 by unfold skp; rw [if_neg (by omega)], show skp (r + 1) r = r by unfold skp; rw [if_pos (by omega)]]
          exact (h _).symm
        · rw [show skp k r = skp (k + 1) r by unfold skp; split <;> split <;> omega]
      rw [e, h 0, sg_succ, Int.neg_mul]
      omega
    · have hz : det n (mn M j 0) = 0 := by
        rcases Nat.lt_or_ge k j with g | g
        · refine det_adj (k := k) (by omega) fun c => ?_
          unfold mn
          rw [show skp j k = k by unfold skp; rw [if_pos g], show skp j (k + 1) = k + 1 by unfold skp; rw [if_pos (by omega)]]
          exact h _
        · obtain ⟨k, rfl⟩ : ∃ i, k = i + 1 := ⟨k - 1, by omega⟩
          refine det_adj (k := k) (by omega) fun c => ?_
          unfold mn
          rw [show skp j k = k + 1 by unfold skp; rw [if_neg (by omega)], show skp j (k + 1) = k + 1 + 1 by unfold skp; rw [if_neg (by omega)]]
          exact h _
      rw [hz]; simp
theorem swap_of {n : Nat} {i j : Nat} (hi : i < n) (hj : j < n) (hij : i ≠ j) (h0 : ∀ M : Nat → Nat → Int, (∀ c, M i c = M j c) → det n M = 0) (M : Nat → Nat → Int) : det n (rwR (rwR M i (M j)) j (M i)) = - det n M := by
  have key : ∀ f g : Nat → Int, det n (rwR (rwR M i f) j g) = - det n (rwR (rwR M i g) j f) := fun f g => by
    have hz : ∀ f : Nat → Int, det n (rwR (rwR M i f) j f) = 0 := fun f => h0 _ fun c => by
      unfold rwR
      rw [if_neg hij, if_pos rfl, if_pos rfl]
    have h1 := hz (fun c => f c + 1 * g c)
    rw [det_lin 1 hj, rwR_comm M hij, rwR_comm M hij, det_lin 1 hi, det_lin 1 hi, ← rwR_comm M hij, ← rwR_comm M hij, ← rwR_comm M hij, ← rwR_comm M hij, hz, hz] at h1
    omega
  have := key (M j) (M i)
  rw [rwR_self, rwR_self] at this
  exact this
theorem det_eq {n : Nat} : ∀ (d : Nat) {M : Nat → Nat → Int} {i : Nat}, i + d + 1 < n → (∀ c, M i c = M (i + d + 1) c) → det n M = 0
  | 0, M, i, h, he => det_adj h he
  | d + 1, M, i, h, he => by
    have hs := swap_of (n := n) (i := i + d + 1) (j := i + (d + 1) + 1) (by omega) h (by omega) (fun M hM => det_adj (by omega) hM) M
    have h2 : det n (rwR (rwR M (i + d + 1) (M (i + (d + 1) + 1))) (i + (d + 1) + 1) (M (i + d + 1))) = 0 := det_eq d (i := i) (by omega) fun c => by
      unfold rwR
      rw [if_neg (by omega), if_neg (by omega), if_neg (by omega), if_pos rfl]
      exact he c
    omega
theorem det_eq' {n : Nat} {M : Nat → Nat → Int} {i j : Nat} (hi : i < n) (hj : j < n) (hij : i ≠ j) (h : ∀ c, M i c = M j c) : det n M = 0 := by
  rcases Nat.lt_or_ge i j with g | g
  · exact det_eq (j - i - 1) (i := i) (by omega) fun c => by rw [show i + (j - i - 1) + 1 = j by omega]; exact h c
  · exact det_eq (i - j - 1) (i := j) (by omega) fun c => by rw [show j + (i - j - 1) + 1 = i by omega]; exact (h c).symm
theorem det_swap {n : Nat} {i j : Nat} (hi : i < n) (hj : j < n) (hij : i ≠ j) (M : Nat → Nat → Int) : det n (rwR (rwR M i (M j)) j (M i)) = - det n M :=
  swap_of hi hj hij (fun _ h => det_eq' hi hj hij h) M
theorem det_row {n : Nat} {i j : Nat} (hi : i < n) (hj : j < n) (hij : i ≠ j) (t : Int) (M : Nat → Nat → Int) : det n (rwR M i (fun c => M i c + t * M j c)) = det n M := by
  rw [det_lin t hi, rwR_self, det_eq' (M := rwR M i (M j)) hi hj hij fun c => by unfold rwR; rw [if_pos rfl, if_neg (Ne.symm hij)]]
  omega
theorem det_zrow {n : Nat} {i : Nat} (hi : i < n) {M : Nat → Nat → Int} (h : ∀ c, M i c = 0) : det n M = 0 := by
  have h1 := det_lin (-1) (M := M) (f := M i) (g := M i) hi
  rw [rwR_self] at h1
  have e : rwR M i (fun c => M i c + -1 * M i c) = M := by
    funext r c
    unfold rwR
    split
    · rename_i e; subst e
      show M r c + -1 * M r c = M r c
      have := h c
      omega
    · rfl
  rw [e] at h1
  omega
theorem mn_mn (M : Nat → Nat → Int) (i j : Nat) : mn (mn M (i + 1) 0) 0 j = mn (mn M 0 (j + 1)) i 0 := by
  funext r c
  unfold mn
  have h1 : skp (i + 1) (skp 0 r) = skp 0 (skp i r) := by unfold skp; simp only [Nat.not_lt_zero, if_false]; split <;> split <;> omega
  have h2 : skp 0 (skp j c) = skp (j + 1) (skp 0 c) := by unfold skp; simp only [Nat.not_lt_zero, if_false]; split <;> split <;> omega
  rw [h1, h2]
theorem sumTo_front' (F : Nat → Int) : ∀ m, sumTo F (m + 1) = F 0 + sumTo (fun j => F (j + 1)) m
  | 0 => by simp [sumTo]
  | m + 1 => by
    show sumTo F (m + 1) + F (m + 1) = F 0 + (sumTo (fun j => F (j + 1)) m + F (m + 1))
    rw [sumTo_front' F m]; omega
theorem det_first : ∀ (n : Nat) (M : Nat → Nat → Int), det (n + 1) M = sumTo (fun j => sg j * (M 0 j * det n (mn M 0 j))) (n + 1)
  | 0, M => by simp [det, sumTo]
  | n + 1, M => by
    have hL : det (n + 1 + 1) M = sumTo (fun i => sg i * (M i 0 * det (n + 1) (mn M i 0))) (n + 1 + 1) := rfl
    rw [hL, sumTo_front', sumTo_front' (fun j => sg j * (M 0 j * det (n + 1) (mn M 0 j)))]
    congr 1
    have e1 : ∀ i, i < n + 1 → sg (i + 1) * (M (i + 1) 0 * det (n + 1) (mn M (i + 1) 0)) = sumTo (fun j => sg (i + 1) * (M (i + 1) 0 * (sg j * (M 0 (j + 1) * det n (mn (mn M 0 (j + 1)) i 0))))) (n + 1) := fun i hi => by
      rw [det_first n (mn M (i + 1) 0), sumTo_mul, sumTo_mul]
      refine sumTo_congr fun j hj => ?_
      rw [mn_mn]
      rfl
    have e2 : ∀ j, j < n + 1 → sg (j + 1) * (M 0 (j + 1) * det (n + 1) (mn M 0 (j + 1))) = sumTo (fun i => sg (i + 1) * (M (i + 1) 0 * (sg j * (M 0 (j + 1) * det n (mn (mn M 0 (j + 1)) i 0))))) (n + 1) := fun j hj => by
      have hd : det (n + 1) (mn M 0 (j + 1)) = sumTo (fun i => sg i * (mn M 0 (j + 1) i 0 * det n (mn (mn M 0 (j + 1)) i 0))) (n + 1) := rfl
      rw [hd, sumTo_mul, sumTo_mul]
      refine sumTo_congr fun i hi => ?_
      have h0 : mn M 0 (j + 1) i 0 = M (i + 1) 0 := rfl
      rw [h0, sg_succ, sg_succ]
      simp only [Int.neg_mul, Int.neg_inj]
      simp only [Int.mul_assoc, Int.mul_comm, Int.mul_left_comm]
    have h1 : sumTo (fun i => sg (i + 1) * (M (i + 1) 0 * det (n + 1) (mn M (i + 1) 0))) (n + 1) = sumTo (fun i => sumTo (fun j => sg (i + 1) * (M (i + 1) 0 * (sg j * (M 0 (j + 1) * det n (mn (mn M 0 (j + 1)) i 0))))) (n + 1)) (n + 1) := sumTo_congr e1
    have h2 : sumTo (fun j => sg (j + 1) * (M 0 (j + 1) * det (n + 1) (mn M 0 (j + 1)))) (n + 1) = sumTo (fun j => sumTo (fun i => sg (i + 1) * (M (i + 1) 0 * (sg j * (M 0 (j + 1) * det n (mn (mn M 0 (j + 1)) i 0))))) (n + 1)) (n + 1) := sumTo_congr e2
    rw [h1, h2]
    exact sumTo_comm _ _ _
def tr (M : Nat → Nat → Int) : Nat → Nat → Int := fun r c => M c r
theorem det_tr : ∀ (n : Nat) (M : Nat → Nat → Int), det n (tr M) = det n M
  | 0, _ => rfl
  | n + 1, M => by
    rw [det_first n M]
    show sumTo (fun i => sg i * (tr M i 0 * det n (mn (tr M) i 0))) (n + 1) = _
    refine sumTo_congr fun i hi => ?_
    have e : mn (tr M) i 0 = tr (mn M 0 i) := rfl
    rw [e, det_tr n]
    rfl
set_option maxHeartbeats 2000000
def mv (u : Nat) : Nat → Nat
  | 0 => u
  | r + 1 => skp u r
theorem det_mv {n : Nat} : ∀ (u : Nat) (M : Nat → Nat → Int), u < n → det n (fun r c => M (mv u r) c) = sg u * det n M
  | 0, M, hu => by
    have e : (fun r c => M (mv 0 r) c) = M := by
      funext r c
      cases r with
      | zero => rfl
      | succ r => show M (skp 0 r) c = _; unfold skp; rw [if_neg (by omega)]
    rw [e]
    show _ = 1 * _
    omega
  | u + 1, M, hu => by
    have h := det_mv (n := n) u (rwR (rwR M u (M (u + 1))) (u + 1) (M u)) (by omega)
    rw [det_swap (i := u) (j := u + 1) (by omega) hu (by omega)] at h
    have e : (fun r c => rwR (rwR M u (M (u + 1))) (u + 1) (M u) (mv u r) c) = fun r c => M (mv (u + 1) r) c := by
      funext r c
      cases r with
      | zero => show rwR _ _ _ u c = M (u + 1) c; unfold rwR; rw [if_neg (show ¬ u = u + 1 by omega), if_pos rfl]
      | succ r =>
        show rwR _ _ _ (skp u r) c = M (skp (u + 1) r) c
        unfold rwR skp
        by_cases h1 : r < u
        · rw [if_pos h1, if_neg (show ¬ r = u + 1 by omega), if_neg (show ¬ r = u by omega), if_pos (show r < u + 1 by omega)]
        · by_cases h2 : r = u
          · subst h2; rw [if_neg h1, if_pos rfl, if_pos (show r < r + 1 by omega)]
          · rw [if_neg h1, if_neg (show ¬ r + 1 = u + 1 by omega), if_neg (show ¬ r + 1 = u by omega), if_neg (show ¬ r < u + 1 by omega)]
    rw [e] at h
    rw [h, sg_succ, Int.mul_neg, Int.neg_mul]
theorem det_unit {n u : Nat} {M : Nat → Nat → Int} (hu : u < n + 1) (h : ∀ c, c < n + 1 → M u c = if c = u then 1 else 0) : det (n + 1) M = det n (mn M u u) := by
  have h1 := det_mv u M hu
  have h2 := det_mv u (tr (fun r c => M (mv u r) c)) hu
  rw [det_tr] at h2
  have h3 : det (n + 1) (fun r c => M (mv u r) (mv u c)) = det (n + 1) (fun r c => tr (fun r c => M (mv u r) c) (mv u r) c) := (det_tr (n + 1) (fun r c => M (mv u r) (mv u c))).symm
  rw [h2, h1, ← Int.mul_assoc, sg_sq, Int.one_mul] at h3
  rw [← h3, det_first, sumTo_front']
  have hz : sumTo (fun j => sg (j + 1) * (M (mv u 0) (mv u (j + 1)) * det n (mn (fun r c => M (mv u r) (mv u c)) 0 (j + 1)))) n = 0 := by
    have e : sumTo (fun j => sg (j + 1) * (M (mv u 0) (mv u (j + 1)) * det n (mn (fun r c => M (mv u r) (mv u c)) 0 (j + 1)))) n = sumTo (fun _ => 0) n := sumTo_congr fun j hj => by
      have : M (mv u 0) (mv u (j + 1)) = 0 := by
        show M u (skp u j) = 0
        rw [h _ (skp_lt hj), if_neg (by unfold skp; split <;> omega)]
      rw [this]; simp
    rw [e, sumTo_zero]
  rw [hz]
  have h0 : M (mv u 0) (mv u 0) = 1 := by show M u u = 1; rw [h u hu, if_pos rfl]
  rw [h0]
  have e : mn (fun r c => M (mv u r) (mv u c)) 0 0 = mn M u u := by
    funext r c
    show M (mv u (skp 0 r)) (mv u (skp 0 c)) = M (skp u r) (skp u c)
    rfl
  rw [e]
  show 1 * (1 * _) + 0 = _
  omega
theorem dvd_sumTo {p : Int} {F : Nat → Int} : ∀ {n : Nat}, (∀ j, j < n → p ∣ F j) → p ∣ sumTo F n
  | 0, _ => Int.dvd_zero p
  | n + 1, h => Int.dvd_add (dvd_sumTo fun j hj => h j (by omega)) (h n (by omega))
theorem det_mod {p : Int} : ∀ {n : Nat} {M M' : Nat → Nat → Int}, (∀ r c, r < n → c < n → p ∣ M r c - M' r c) → p ∣ det n M - det n M'
  | 0, _, _, _ => by simp [det]
  | n + 1, M, M', h => by
    unfold det
    rw [← sumTo_sub]
    refine dvd_sumTo fun i hi => ?_
    have h1 := h i 0 hi (by omega)
    have h2 := det_mod (n := n) (M := mn M i 0) (M' := mn M' i 0) fun r c hr hc => h _ _ (skp_lt hr) (skp_lt hc)
    have e : sg i * (M i 0 * det n (mn M i 0)) - sg i * (M' i 0 * det n (mn M' i 0)) = sg i * (M i 0 * (det n (mn M i 0) - det n (mn M' i 0)) + (M i 0 - M' i 0) * det n (mn M' i 0)) := by
      rw [← Int.mul_sub]
      congr 1
      rw [Int.mul_sub, Int.sub_mul]
      omega
    rw [e]
    exact Int.dvd_mul_of_dvd_right (Int.dvd_add (Int.dvd_mul_of_dvd_right h2) (Int.dvd_mul_of_dvd_left h1))
theorem sumTo_skp (F : Nat → Int) : ∀ {m u : Nat}, u < m + 1 → sumTo F (m + 1) = F u + sumTo (fun j => F (skp u j)) m
  | 0, u, hu => by obtain rfl : u = 0 := by omega
                   simp [sumTo]
  | m + 1, u, hu => by
    by_cases e : u = m + 1
    · subst e
      have e2 : sumTo (fun j => F (skp (m + 1) j)) (m + 1) = sumTo F (m + 1) := sumTo_congr fun j hj => by unfold skp; rw [if_pos hj]
      rw [e2]
      show sumTo F (m + 1) + F (m + 1) = _
      omega
    · show sumTo F (m + 1) + F (m + 1) = F u + (sumTo (fun j => F (skp u j)) m + F (skp u m))
      rw [sumTo_skp F (m := m) (u := u) (by omega), show skp u m = m + 1 by unfold skp; rw [if_neg (by omega)]]
      omega
theorem det_rows0 {n : Nat} {M : Nat → Nat → Int} (h : ∀ c, c < n + 1 → sumTo (fun v => M v c) (n + 1) = 0) : det (n + 1) M = 0 := by
  have key : ∀ k, k ≤ n → det (n + 1) (rwR M 0 (fun c => sumTo (fun j => M (j + 1) c) k)) = 0 := fun k => by
    induction k with
    | zero =>
      intro _
      exact det_zrow (i := 0) (by omega) fun c => by unfold rwR; rw [if_pos rfl]; rfl
    | succ k ih =>
      intro hk
      have h1 := det_lin 1 (n := n + 1) (M := M) (k := 0) (f := fun c => sumTo (fun j => M (j + 1) c) k) (g := M (k + 1)) (by omega)
      rw [ih (by omega), det_eq' (M := rwR M 0 (M (k + 1))) (i := 0) (j := k + 1) (by omega) (by omega) (by omega) fun c => by unfold rwR; rw [if_pos rfl, if_neg (by omega)]] at h1
      have e : (fun c => sumTo (fun j => M (j + 1) c) (k + 1)) = fun c => sumTo (fun j => M (j + 1) c) k + 1 * M (k + 1) c := by
        funext c
        simp only [sumTo]
        omega
      rw [e, h1]
      rfl
  have h1 := det_lin (-1) (n := n + 1) (M := M) (k := 0) (f := fun _ => 0) (g := fun c => sumTo (fun j => M (j + 1) c) n) (by omega)
  rw [key n (Nat.le_refl _), det_zrow (M := rwR M 0 fun _ => 0) (i := 0) (by omega) fun c => by unfold rwR; rw [if_pos rfl]] at h1
  rw [← det_congr (M := rwR M 0 (fun c => 0 + -1 * sumTo (fun j => M (j + 1) c) n)) (M' := M) fun r c hr hc => ?_]
  · rw [h1]; rfl
  · unfold rwR
    split
    · rename_i e; subst e
      have := h c hc
      rw [sumTo_front'] at this
      show 0 + -1 * _ = _
      omega
    · rfl
end Go.AM.Ch
