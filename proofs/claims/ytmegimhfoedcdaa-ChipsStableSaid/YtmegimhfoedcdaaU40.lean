/- A part of the proof: U40. -/
import Derived.Test.YtmegimhfoedcdaaU39
set_option linter.unusedSectionVars false
set_option linter.unusedVariables false
set_option linter.unusedSimpArgs false
namespace Go.AM.Ch
attribute [local go_sem] gc subHeap reach_skip ren_free reach_new reach_newp reach_end rangeL roots boxCells nodupB posOf renL AV.ren pickO renH renO looks look bindEnv envOf reach_int reach_bool reach_nilS reach_rd putRow cells_sl cells_int cells_bool cells_nilS cells_rd cells_agg reach_agg reach_tup idFreeL idf_sl idf_ptr idf_int idf_bool idf_nilS idf_rd reach_fn reach_mp cells_fn cells_ptr cells_mp idf_mp idf_fn idf_agg idf_tup
set_option maxHeartbeats 8000000
theorem p_mul2 {H : Heap} {a : Int} (h : -4611686018427387904 ≤ a ∧ a < 4611686018427387904) : evP H (.bin .mul) [.int .i64 2, .int .i64 a] = some (.int .i64 (2 * a)) := p_mul (by omega)
/-- reduce, given that it does what it should on the half -/
theorem f54_core {b : List (List Int)} (hB : IsB b) {q : Nat} (hq : q < b.length) {x y : AV} {l : List Int} (hx : IsLL x b) (hy : IsL y l) (hln : l.length = b.length) (hb : ∀ v : Nat, v < b.length → -1099511627776 ≤ getI l (v : Int) ∧ getI l (v : Int) ≤ 1099511627776)
    {m : Nat} (hm : smK ≤ m) (hrec : ¬ (∀ v : Nat, v < b.length → (getI l (v : Int)).tdiv 2 = 0) → ∀ (args : List AV) (H : Heap), frzL H 40 args = some [x, .rd 1 b.length (iL (halfL l)), .int .i64 (q : Int)] → callPure (evF tab it m) true 54 args H = some (.rd 1 b.length (iL (redT b (halfL l) q)), H)) :
    evF tab it (m + 1) 54 [x, y, .int .i64 (q : Int)] [] = some (.sl 0 1 0 b.length, [some (.data (iL (redT b l q)))]) := by
  have fx := hx.free; have fy := hy.free
  have hn1 := hB.n1; have hn2 := hB.n2
  have hbd := hB.bd
  have hm2 : 2300 ≤ m := by have := smK_big; omega
  have ly : ∀ H, evP H .len [y] = some (.int .i64 ((b.length : Nat) : Int)) := fun H => by rw [← hln]; exact p_lenI hy
  have mk := fun call H => @e_mkI call H b.length (by unfold most; omega)
  have hhl := halfL_len l
  rw [hln] at hhl
  have hhg := fun (v : Nat) (hv : v < b.length) => halfL_get (l := l) (v := v) (by omega)
  obtain ⟨hs1, hs2, hs3⟩ := redT_ok hB (halfL l) hq
  have hsb := redT_le hB (l := halfL l) hq (M := 1099511627776) (by decide) fun v hv _ => by
    rw [hhg v hv]
    have := hb v hv
    have := tdiv2 (getI l (v : Int))
    omega
  have is := rd_isL hs1
  have hnear := fun (Z : List Int) (h1 : Z.length = b.length) (h2 : ∀ v : Nat, v < b.length → getI Z (v : Int) = 2 * getI (redT b (halfL l) q) (v : Int)) => near_half hB (l := l) (s := redT b (halfL l) q) (Z := Z) hq hln hb rfl h1 h2
  have hnear0 : (∀ v : Nat, v < b.length → (getI l (v : Int)).tdiv 2 = 0) → Near b.length q (apl b l (List.replicate b.length 0)) := fun h0 => by
    rw [apl_zero hB hln]
    refine ⟨hln, fun v hv _ => ?_, ?_⟩
    · have := h0 v hv
      have := tdiv2 (getI l (v : Int))
      omega
    · have := hb q hq
      omega
  have hfin := fun (Z : List Int) (h1 : Z.length = b.length) (h2 : getI Z (q : Int) = 0) => redT_pl hB (l := l) (Z := Z) hq h1 h2
  refine f_enter rfl rfl ?_
  have e55 := fun (Z : List Int) (hZ : Z.length = b.length) h1 (H : Heap) (ha : frzL H 40 [x, y, .sl 0 1 0 b.length] = some [x, y, .rd 1 b.length (iL Z)]) => c55p hx hy (rd_isL hZ) hbd hln hZ h1 (fun v hv => by have := hb v hv; omega) (m := m) (by omega) H ha
  have e81 := fun (Z : List Int) (hN : Near b.length q (apl b l Z)) (H : Heap) => c81 hx (rd_isL (apl_len b l Z)) hB hq hN hm H
  have e77 := fun (Z u : List Int) (hZ : Z.length = b.length) (hu : u.length = b.length) h1 h2 (H : Heap) (ha : frzL H 40 [.sl 0 1 0 b.length, .rd 1 b.length (iL u)] = some [.rd 1 b.length (iL Z), .rd 1 b.length (iL u)]) => c77o (rd_isL hZ) (rd_isL hu) (by omega) (by omega) (by omega) h1 h2 (m := m) (by omega) H ha
  clear hm
  generalize hcall : evF tab it m = call at *
  generalize hR : redT b l q = R at *
  generalize hS : redT b (halfL l) q = S at *
  have gcH : ∀ (z : Bool) (v : Nat) (C : List AV), gc 0 [x, y, .int .i64 (q : Int), .sl 0 1 0 b.length, .bool z, y, .int .i64 ((b.length : Nat) : Int), .int .i64 (v : Int)] [some (.data C)] = some ([x, y, .int .i64 (q : Int), .sl 0 1 0 b.length, .bool z, y, .int .i64 ((b.length : Nat) : Int), .int .i64 (v : Int)], [some (.data C)]) := fun z v C => by simp [go_sem, fx, fy]
  have gcZ : ∀ (v : Nat) (C D : List AV), gc 0 [x, y, .int .i64 (q : Int), .sl 1 1 0 b.length, .rd 1 b.length (iL S), .int .i64 ((b.length : Nat) : Int), .int .i64 (v : Int)] [some (.data C), some (.data D)] = some ([x, y, .int .i64 (q : Int), .sl 0 1 0 b.length, .rd 1 b.length (iL S), .int .i64 ((b.length : Nat) : Int), .int .i64 (v : Int)], [some (.data D)]) := fun v C D => by simp [go_sem, fx, fy]
  have gcY : ∀ (v : Nat) (D : List AV), gc 0 [x, y, .int .i64 (q : Int), .sl 0 1 0 b.length, .rd 1 b.length (iL S), .int .i64 ((b.length : Nat) : Int), .int .i64 (v : Int)] [some (.data D)] = some ([x, y, .int .i64 (q : Int), .sl 0 1 0 b.length, .rd 1 b.length (iL S), .int .i64 ((b.length : Nat) : Int), .int .i64 (v : Int)], [some (.data D)]) := fun v D => by simp [go_sem, fx, fy]
  -- the end, whatever the script
  have hend : ∀ (Z : List Int) (K : KT) (X : Nat → KT) (Rt : KT), Z.length = b.length → (∀ v : Nat, v < b.length → -1000000000000000 ≤ getI Z (v : Int) ∧ getI Z (v : Int) ≤ 1000000000000000) → getI Z (q : Int) = 0 → Near b.length q (apl b l Z) → Rt = finish 0 [.t 6] →
      RC call it m (.seq (.reg [⟨.inl .mov, [.t 11], some 57, none, []⟩, ⟨.inl .mov, [.t 0], some 58, none, []⟩, ⟨.inl .mov, [.t 0], some 59, none, []⟩, ⟨.inl .mov, [.t 1], some 60, none, []⟩, ⟨.inl .mov, [.t 11], some 61, none, []⟩, ⟨.inr (.call true true 55), [.t 59, .t 60, .t 61], some 62, none, []⟩, ⟨.inl .mov, [.t 2], some 63, none, []⟩, ⟨.inr (.call true true 81), [.t 58, .t 62, .t 63], some 64, none, []⟩, ⟨.inr (.call true false 77), [.t 57, .t 64], some 65, none, []⟩, ⟨.inl .mov, [.t 65], some 6, none, []⟩] none) .ret) 0 K X Rt (bindEnv [0, 1, 2, 11] 0 [x, y, .int .i64 (q : Int), .sl 0 1 0 b.length]) [some (.data (iL Z))] (some (.sl 0 1 0 b.length, [some (.data (iL R))])) := by
    intro Z K X Rt hZl hZb hZq hN hRt
    subst hRt
    obtain ⟨hu1, hu2, hu3⟩ := redT_ok hB (apl b l Z) hq
    have hub := redT_le hB (l := apl b l Z) hq (M := 100) (by omega) hN.oth
    have e55' := e55 Z hZl (fun v hv => by have := hZb v hv; omega) [some (.data (iL Z))] (frzL_cons (frzV_of fx) (frzL_cons (frzV_of fy) (frzL_cons (frz_sl rfl hZl) frzL_nil)))
    have e81' := e81 Z hN
    have e77' := e77 Z (redT b (apl b l Z) q) hZl hu1 (fun v hv => by have := hZb v (by omega); omega) (fun v hv => by have := hub v (by omega); omega) [some (.data (iL Z))] (frzL_cons (frz_sl rfl hZl) (frzL_cons rfl frzL_nil))
    rw [hZl, hfin Z hZl hZq] at e77'
    repeat' first
 | (apply s_mov; (focus ((conv => lhs; whnf); done)))
 | (apply c_nil)
 | (apply s_cn; (focus (repeat (first | apply opds_nil | (apply opds_cons; (first | (focus ((conv => lhs; whnf); done)) | exact rfl))))); exact e55')
 | (apply s_cn; (focus (repeat (first | apply opds_nil | (apply opds_cons; (first | (focus ((conv => lhs; whnf); done)) | exact rfl))))); exact e81' _)
 | (apply s_en; (focus (repeat (first | apply opds_nil | (apply opds_cons; (first | (focus ((conv => lhs; whnf); done)) | exact rfl))))); exact e77')
 | (apply c_seq)
 | (apply c_reg)
 | (apply c_ret)
 | (with_reducible apply k_c)
    simp [finish, ress, resOf, look, tupOf, go_sem]
  skip
  repeat' first
 | (apply s_mov; (focus ((conv => lhs; whnf); done)))
 | (apply c_nil)
 | (apply s_pn; (focus (repeat (first | apply opds_nil | (apply opds_cons; (first | (focus ((conv => lhs; whnf); done)) | exact rfl))))); exact ly _)
 | (apply s_en; (focus (repeat (first | apply opds_nil | (apply opds_cons; (first | (focus ((conv => lhs; whnf); done)) | exact rfl))))); exact mk _ _)
 | (apply c_seq)
 | (apply c_reg)
 | (apply c_block)
 | (with_reducible apply k_c)
  refine c_loop ?_
  refine loop_gc (σ := Nat × List Int × Bool) (fun p => [x, y, .int .i64 (q : Int), .sl 0 1 0 b.length, .bool p.2.2, y, .int .i64 ((b.length : Nat) : Int), .int .i64 (p.1 : Int)]) (fun p => [some (.data (iL p.2.1))]) (fun p => p.1 ≤ b.length ∧ p.2.1.length = b.length ∧ (∀ i : Nat, i < p.1 → getI p.2.1 (i : Int) = (getI l (i : Int)).tdiv 2) ∧ (p.2.2 = true ↔ ∀ i : Nat, i < p.1 → (getI l (i : Int)).tdiv 2 = 0)) (fun p => b.length - p.1) ?_ _ (0, List.replicate b.length 0, true) _ _ ⟨by omega, by simp, fun i hi => by omega, by simp⟩ (by show b.length - 0 < _; omega) (gcH true 0 _)
  intro ⟨v, h, z⟩ ⟨hv, hhl', hh, hz⟩ K hK
  dsimp only at hv hhl' hh hz hK ⊢
  by_cases hvn : v < b.length
  · have h1 := hb v hvn
    have h2 := tdiv2 (getI l (v : Int))
    have st := fun (vv : Int) call H h' => e_stO (call := call) (H := H) (id := 0) (l := h) (i := v) (v := vv) h' (by omega)
    have quo := fun H => p_quo2 (H := H) (a := getI l (v : Int)) (by omega)
    have hnext : ∀ i : Nat, i < v + 1 → getI (h.set v ((getI l (v : Int)).tdiv 2)) (i : Int) = (getI l (i : Int)).tdiv 2 := fun i hi => by
      rw [getI_set (by omega)]
      by_cases e : i = v
      · subst e; rw [if_pos rfl]
      · rw [if_neg e]; exact hh i (by omega)
    have hzn : (∀ i : Nat, i < v + 1 → (getI l (i : Int)).tdiv 2 = 0) ↔ (∀ i : Nat, i < v → (getI l (i : Int)).tdiv 2 = 0) ∧ (getI l (v : Int)).tdiv 2 = 0 := ⟨fun h => ⟨fun i hi => h i (by omega), h v (by omega)⟩, fun ⟨h1, h2⟩ i hi => by
      rcases (by omega : i < v ∨ i = v) with h | rfl
      · exact h1 i h
      · exact h2⟩
    cases z with
    | true =>
      have hz0 := hz.1 rfl
      repeat' first
 | (apply s_mov; (focus ((conv => lhs; whnf); done)))
 | (apply s_gT; exact rfl)
 | (apply c_nil)
 | (apply s_pickT; exact rfl; (focus ((conv => lhs; whnf); done)))
 | ((first | apply s_lss | apply s_leq | apply s_gtr | apply s_geq | apply s_eql | apply s_neq); exact rfl; all_goals (intro _; try (exfalso; omega)))
 | ((first | apply s_add | apply s_sub); exact rfl; omega)
 | (apply s_pn; (focus (repeat (first | apply opds_nil | (apply opds_cons; (first | (focus ((conv => lhs; whnf); done)) | exact rfl))))); exact quo _)
 | (apply s_pn; (focus (repeat (first | apply opds_nil | (apply opds_cons; (first | (focus ((conv => lhs; whnf); done)) | exact rfl))))); exact p_ixO hvn)
 | (apply s_st; (focus (repeat (first | apply opds_nil | (apply opds_cons; (first | (focus ((conv => lhs; whnf); done)) | exact rfl))))); exact st _ _ _ rfl)
 | (apply s_idx; (focus ((conv => lhs; whnf); done)); exact rfl; (first | assumption | (apply IsLL.at; assumption; omega)); omega)
 | (apply s_ldI; exact rfl; omega)
 | (apply c_seq)
 | (apply c_reg)
 | (apply c_block)
 | (apply c_skip)
 | (apply c_condT; exact rfl)
 | (with_reducible apply k_c)
      · refine hK (v + 1, _, true) _ _ ⟨by omega, by simpa using hhl', hnext, ?_⟩ (by show b.length - (v + 1) < _; omega) (gcH _ (v + 1) _)
        exact ⟨fun _ => hzn.2 ⟨hz0, by omega⟩, fun _ => rfl⟩
      · refine hK (v + 1, _, false) _ _ ⟨by omega, by simpa using hhl', hnext, ?_⟩ (by show b.length - (v + 1) < _; omega) (gcH _ (v + 1) _)
        exact ⟨fun e => (by cases e), fun h => absurd (hzn.1 h).2 (by omega)⟩
    | false =>
      repeat' first
 | (apply s_mov; (focus ((conv => lhs; whnf); done)))
 | (apply s_gF; exact rfl)
 | (apply c_nil)
 | (apply s_pickF; exact rfl; (focus ((conv => lhs; whnf); done)))
 | ((first | apply s_lss | apply s_leq | apply s_gtr | apply s_geq | apply s_eql | apply s_neq); exact rfl; all_goals (intro _; try (exfalso; omega)))
 | ((first | apply s_add | apply s_sub); exact rfl; omega)
 | (apply s_pn; (focus (repeat (first | apply opds_nil | (apply opds_cons; (first | (focus ((conv => lhs; whnf); done)) | exact rfl))))); exact quo _)
 | (apply s_pn; (focus (repeat (first | apply opds_nil | (apply opds_cons; (first | (focus ((conv => lhs; whnf); done)) | exact rfl))))); exact p_ixO hvn)
 | (apply s_st; (focus (repeat (first | apply opds_nil | (apply opds_cons; (first | (focus ((conv => lhs; whnf); done)) | exact rfl))))); exact st _ _ _ rfl)
 | (apply s_idx; (focus ((conv => lhs; whnf); done)); exact rfl; (first | assumption | (apply IsLL.at; assumption; omega)); omega)
 | (apply s_ldI; exact rfl; omega)
 | (apply c_seq)
 | (apply c_reg)
 | (apply c_block)
 | (apply c_skip)
 | (apply c_condT; exact rfl)
 | (with_reducible apply k_c)
      refine hK (v + 1, _, false) _ _ ⟨by omega, by simpa using hhl', hnext, ?_⟩ (by show b.length - (v + 1) < _; omega) (gcH _ (v + 1) _)
      exact ⟨fun e => (by cases e), fun h => hz.2 (hzn.1 h).1⟩
  · obtain rfl : v = b.length := by omega
    obtain rfl : h = halfL l := ext_getI (by omega) fun i hi => by rw [hh i (by omega), hhg i (by omega)]
    cases z with
    | true =>
      have hz0 := hz.1 rfl
      repeat' first
 | (apply c_nil)
 | ((first | apply s_lss | apply s_leq | apply s_gtr | apply s_geq | apply s_eql | apply s_neq); exact rfl; all_goals (intro _; try (exfalso; omega)))
 | (apply c_seq)
 | (apply c_reg)
 | (apply c_exitH)
 | (apply c_condF; exact rfl)
 | (with_reducible apply k_c)
      apply c_pre (vs := [x, y, .int .i64 (q : Int), .sl 0 1 0 b.length, .bool true]) (H' := [some (.data (iL (halfL l)))])
      · simp [go_sem, fx, fy]
      repeat' first
 | (apply s_mov; (focus ((conv => lhs; whnf); done)))
 | (apply c_nil)
 | (apply s_notT; exact rfl)
 | (apply s_pn; (focus (repeat (first | apply opds_nil | (apply opds_cons; (first | (focus ((conv => lhs; whnf); done)) | exact rfl))))); exact ly _)
 | (apply s_en; (focus (repeat (first | apply opds_nil | (apply opds_cons; (first | (focus ((conv => lhs; whnf); done)) | exact rfl))))); exact mk _ _)
 | (apply c_seq)
 | (apply c_reg)
 | (apply c_skip)
 | (apply c_condF; exact rfl)
 | (with_reducible apply k_c)
      apply c_pre (vs := [x, y, .int .i64 (q : Int), .sl 0 1 0 b.length]) (H' := [some (.data (iL (List.replicate b.length 0)))])
      · simp [go_sem, fx, fy]
      refine hend _ _ _ _ (by simp) (fun v hv => ?_) ?_ (hnear0 hz0) rfl
      · rw [getI_nat]; simp [List.getD, hv]
      · rw [getI_nat]; simp [List.getD, hq]
    | false =>
      have hz0 : ¬ (∀ v : Nat, v < b.length → (getI l (v : Int)).tdiv 2 = 0) := fun h => by have := hz.2 h; cases this
      have hrec' := hrec hz0 [x, .sl 0 1 0 b.length, .int .i64 (q : Int)] [some (.data (iL (halfL l))), some (.data (iL (List.replicate b.length 0)))] (frzL_cons (frzV_of fx) (frzL_cons (frz_sl rfl hhl) (frzL_cons rfl frzL_nil)))
      have lS : ∀ H, evP H .len [AV.rd 1 b.length (iL S)] = some (.int .i64 ((b.length : Nat) : Int)) := fun H => rfl
      repeat' first
 | (apply c_nil)
 | ((first | apply s_lss | apply s_leq | apply s_gtr | apply s_geq | apply s_eql | apply s_neq); exact rfl; all_goals (intro _; try (exfalso; omega)))
 | (apply c_seq)
 | (apply c_reg)
 | (apply c_exitH)
 | (apply c_condF; exact rfl)
 | (with_reducible apply k_c)
      apply c_pre (vs := [x, y, .int .i64 (q : Int), .sl 0 1 0 b.length, .bool false]) (H' := [some (.data (iL (halfL l)))])
      · simp [go_sem, fx, fy]
      repeat' first
 | (apply s_mov; (focus ((conv => lhs; whnf); done)))
 | (apply c_nil)
 | (apply s_notF; exact rfl)
 | (apply s_pn; (focus (repeat (first | apply opds_nil | (apply opds_cons; (first | (focus ((conv => lhs; whnf); done)) | exact rfl))))); exact ly _)
 | (apply s_en; (focus (repeat (first | apply opds_nil | (apply opds_cons; (first | (focus ((conv => lhs; whnf); done)) | exact rfl))))); exact mk _ _)
 | (apply s_cn; (focus (repeat (first | apply opds_nil | (apply opds_cons; (first | (focus ((conv => lhs; whnf); done)) | exact rfl))))); exact hrec')
 | (apply s_pn; (focus (repeat (first | apply opds_nil | (apply opds_cons; (first | (focus ((conv => lhs; whnf); done)) | exact rfl))))); exact lS _)
 | (apply c_seq)
 | (apply c_reg)
 | (apply c_block)
 | (apply c_condT; exact rfl)
 | (with_reducible apply k_c)
      refine c_loop ?_
      refine loop_gc (σ := Nat × List Int) (fun p => [x, y, .int .i64 (q : Int), .sl 0 1 0 b.length, .rd 1 b.length (iL S), .int .i64 ((b.length : Nat) : Int), .int .i64 (p.1 : Int)]) (fun p => [some (.data (iL p.2))]) (fun p => p.1 ≤ b.length ∧ p.2.length = b.length ∧ ∀ i : Nat, i < p.1 → getI p.2 (i : Int) = 2 * getI S (i : Int)) (fun p => b.length - p.1) ?_ _ (0, List.replicate b.length 0) _ _ ⟨by omega, by simp, fun i hi => by omega⟩ (by show b.length - 0 < _; omega) (gcZ 0 _ _)
      intro ⟨v, Z⟩ ⟨hv, hZl, hZ⟩ K2 hK2
      dsimp only at hv hZl hZ hK2 ⊢
      by_cases hvn : v < b.length
      · have h1 := hsb v hvn
        have st := fun (vv : Int) call H h' => e_stO (call := call) (H := H) (id := 0) (l := Z) (i := v) (v := vv) h' (by omega)
        have mu := fun H => p_mul2 (H := H) (a := getI S (v : Int)) (by omega)
        repeat' first
 | (apply s_mov; (focus ((conv => lhs; whnf); done)))
 | (apply c_nil)
 | ((first | apply s_lss | apply s_leq | apply s_gtr | apply s_geq | apply s_eql | apply s_neq); exact rfl; all_goals (intro _; try (exfalso; omega)))
 | ((first | apply s_add | apply s_sub); exact rfl; omega)
 | (apply s_pn; (focus (repeat (first | apply opds_nil | (apply opds_cons; (first | (focus ((conv => lhs; whnf); done)) | exact rfl))))); exact mu _)
 | (apply s_pn; (focus (repeat (first | apply opds_nil | (apply opds_cons; (first | (focus ((conv => lhs; whnf); done)) | exact rfl))))); exact p_ixO hvn)
 | (apply s_st; (focus (repeat (first | apply opds_nil | (apply opds_cons; (first | (focus ((conv => lhs; whnf); done)) | exact rfl))))); exact st _ _ _ rfl)
 | (apply s_idx; (focus ((conv => lhs; whnf); done)); exact rfl; (first | assumption | (apply IsLL.at; assumption; omega)); omega)
 | (apply s_ldI; exact rfl; omega)
 | (apply c_seq)
 | (apply c_reg)
 | (apply c_block)
 | (apply c_skip)
 | (apply c_condT; exact rfl)
 | (with_reducible apply k_c)
        refine hK2 (v + 1, _) _ _ ⟨by omega, by simpa using hZl, fun i hi => ?_⟩ (by show b.length - (v + 1) < _; omega) (gcY (v + 1) _)
        dsimp only
        rw [getI_set (by omega)]
        by_cases e : i = v
        · subst e; rw [if_pos rfl]
        · rw [if_neg e]; exact hZ i (by omega)
      · obtain rfl : v = b.length := by omega
        have hN := hnear Z hZl hZ
        repeat' first
 | (apply c_nil)
 | ((first | apply s_lss | apply s_leq | apply s_gtr | apply s_geq | apply s_eql | apply s_neq); exact rfl; all_goals (intro _; try (exfalso; omega)))
 | (apply c_seq)
 | (apply c_reg)
 | (apply c_exitH)
 | (apply c_condF; exact rfl)
 | (with_reducible apply k_c)
        apply c_pre (vs := [x, y, .int .i64 (q : Int), .sl 0 1 0 b.length]) (H' := [some (.data (iL Z))])
        · simp [go_sem, fx, fy]
        refine hend Z _ _ _ hZl (fun v hv => ?_) ?_ hN rfl
        · rw [hZ v hv]; have := hsb v hv; omega
        · rw [hZ q hq]; unfold gf at hs2; omega
theorem f54 {b : List (List Int)} (hB : IsB b) {q : Nat} (hq : q < b.length) : ∀ (k : Nat) {x y : AV} {l : List Int}, IsLL x b → IsL y l → l.length = b.length → (∀ v : Nat, v < b.length → -1099511627776 ≤ getI l (v : Int) ∧ getI l (v : Int) ≤ 1099511627776) → (∀ v : Nat, v < b.length → (getI l (v : Int)).natAbs < 2 ^ k) → ∀ {m : Nat}, smK + 1 + k ≤ m →
    evF tab it m 54 [x, y, .int .i64 (q : Int)] [] = some (.sl 0 1 0 b.length, [some (.data (iL (redT b l q)))])
  | 0, x, y, l, hx, hy, hln, hb, hk, m, hm => by
    obtain ⟨m, rfl⟩ : ∃ j, m = j + 1 := ⟨m - 1, by omega⟩
    refine f54_core hB hq hx hy hln hb (by omega) fun h => absurd (fun v hv => ?_) h
    have := hk v hv
    have := tdiv2 (getI l (v : Int))
    omega
  | k + 1, x, y, l, hx, hy, hln, hb, hk, m, hm => by
    obtain ⟨m, rfl⟩ : ∃ j, m = j + 1 := ⟨m - 1, by omega⟩
    refine f54_core hB hq hx hy hln hb (by omega) fun _ args H ha => ?_
    have hhl := halfL_len l
    rw [hln] at hhl
    have hhg := fun (v : Nat) (hv : v < b.length) => halfL_get (l := l) (v := v) (by omega)
    have ih := f54 hB hq k hx (rd_isL hhl) hhl (fun v hv => by
      rw [hhg v hv]
      have := hb v hv
      have := tdiv2 (getI l (v : Int))
      omega) (fun v hv => by
      rw [hhg v hv]
      have h1 := hk v hv
      rw [Nat.pow_succ] at h1
      have := tdiv2 (getI l (v : Int))
      omega) (m := m) (by omega)
    exact callPure_own ha ih rfl (by simp [HO.hasRd, iL_noRd]) (frz_sl rfl (redT_ok hB (halfL l) hq).1)
end Go.AM.Ch
