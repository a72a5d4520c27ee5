/- A part of the proof: U40 U41 U42 U29. -/
import Derived.Test.YtmegimhfoedcdaaU39
import Derived.Test.YtmegimhfoedcdaaU34
import Derived.Test.YtmegimhfoedcdaaU36
set_option linter.unusedSectionVars false
set_option linter.unusedVariables false
set_option linter.unusedSimpArgs false
namespace Go.AM.Ch
attribute [local go_sem] gc subHeap reach_skip ren_free reach_new reach_newp reach_end rangeL roots boxCells nodupB posOf renL AV.ren pickO renH renO looks look bindEnv envOf reach_int reach_bool reach_nilS reach_rd putRow cells_sl cells_int cells_bool cells_nilS cells_rd cells_agg reach_agg reach_tup idFreeL idf_sl idf_ptr idf_int idf_bool idf_nilS idf_rd reach_fn reach_mp cells_fn cells_ptr cells_mp idf_mp idf_fn idf_agg idf_tup
set_option maxHeartbeats 8000000
theorem p_mul2 {H : Heap} {a : Int} (h : -4611686018427387904 ≤ a ∧ a < 4611686018427387904) : evP H (.bin .mul) [.int .i64 2, .int .i64 a] = some (.int .i64 (2 * a)) := p_mul (by omega)
/-- reduce, given that it does what it should on the half -/
theorem f54_core {b : List (List Int)} (hB : IsB b) {q : Nat} (hq : q < b.length) {x y : AV} {l : List Int} (hx : IsLL x b) (hy : IsL y l) (hln : l.length = b.length) (hb : ∀ v : Nat, v < b.length → -1099511627776 ≤ getI l (v : Int) ∧ getI l (v : Int) ≤ 1099511627776)
    {m : Nat} (hm : smK ≤ m) (hrec : ¬ (∀ v : Nat, v < b.length → (getI l (v : Int)).tdiv 2 = 0) → ∀ (args : List AV) (H : Heap), frzL H 40 args = some [x, .rd 1 b.length (iL (halfL l)), .int .i64 (q : Int)] → callPure (evF tab it m) true 54 args H = some (.rd 1 b.length (iL (redT b (halfL l) q)), H)) :
    evF tab it (m + 1) 54 [x, y, .int .i64 (q : Int)] [] = some (.sl 0 1 0 b.length, [some (.data (iL (redT b l q)))]) := by
  have fx := hx.free; have fy := hy.free
  have hn1 := hB.n1; have hn2 := hB.n2
  have hbd := hB.bd
  have hm2 : 2300 ≤ m := by have := smK_big; omega
  have ly : ∀ H, evP H .len [y] = some (.int .i64 ((b.length : Nat) : Int)) := fun H => by rw [← hln]; exact p_lenI hy
  have mk := fun call H => @e_mkI call H b.length (by unfold most; omega)
  have hhl := halfL_len l
  rw [hln] at hhl
  have hhg := fun (v : Nat) (hv : v < b.length) => halfL_get (l := l) (v := v) (by omega)
  obtain ⟨hs1, hs2, hs3⟩ := redT_ok hB (halfL l) hq
  have hsb := redT_le hB (l := halfL l) hq (M := 1099511627776) (by decide) fun v hv _ => by
    rw [hhg v hv]
    have := hb v hv
    have := tdiv2 (getI l (v : Int))
    omega
  have is := rd_isL hs1
  have hnear := fun (Z : List Int) (h1 : Z.length = b.length) (h2 : ∀ v : Nat, v < b.length → getI Z (v : Int) = 2 * getI (redT b (halfL l) q) (v : Int)) => near_half hB (l := l) (s := redT b (halfL l) q) (Z := Z) hq hln hb rfl h1 h2
  have hnear0 : (∀ v : Nat, v < b.length → (getI l (v : Int)).tdiv 2 = 0) → Near b.length q (apl b l (List.replicate b.length 0)) := fun h0 => by
    rw [apl_zero hB hln]
    refine ⟨hln, fun v hv _ => ?_, ?_⟩
    · have := h0 v hv
      have := tdiv2 (getI l (v : Int))
      omega
    · have := hb q hq
      omega
  have hfin := fun (Z : List Int) (h1 : Z.length = b.length) (h2 : getI Z (q : Int) = 0) => redT_pl hB (l := l) (Z := Z) hq h1 h2
  refine f_enter rfl rfl ?_
  have e55 := fun (Z : List Int) (hZ : Z.length = b.length) h1 (H : Heap) (ha : frzL H 40 [x, y, .sl 0 1 0 b.length] = some [x, y, .rd 1 b.length (iL Z)]) => c55p hx hy (rd_isL hZ) hbd hln hZ h1 (fun v hv => by have := hb v hv; omega) (m := m) (by omega) H ha
  have e81 := fun (Z : List Int) (hN : Near b.length q (apl b l Z)) (H : Heap) => c81 hx (rd_isL (apl_len b l Z)) hB hq hN hm H
  have e77 := fun (Z u : List Int) (hZ : Z.length = b.length) (hu : u.length = b.length) h1 h2 (H : Heap) (ha : frzL H 40 [.sl 0 1 0 b.length, .rd 1 b.length (iL u)] = some [.rd 1 b.length (iL Z), .rd 1 b.length (iL u)]) => c77o (rd_isL hZ) (rd_isL hu) (by omega) (by omega) (by omega) h1 h2 (m := m) (by omega) H ha
  clear hm
  generalize hcall : evF tab it m = call at *
  generalize hR : redT b l q = R at *
  generalize hS : redT b (halfL l) q = S at *
  have gcH : ∀ (z : Bool) (v : Nat) (C : List AV), gc 0 [x, y, .int .i64 (q : Int), .sl 0 1 0 b.length, .bool z, y, .int .i64 ((b.length : Nat) : Int), .int .i64 (v : Int)] [some (.data C)] = some ([x, y, .int .i64 (q : Int), .sl 0 1 0 b.length, .bool z, y, .int .i64 ((b.length : Nat) : Int), .int .i64 (v : Int)], [some (.data C)]) := fun z v C => by simp [go_sem, fx, fy]
  have gcZ : ∀ (v : Nat) (C D : List AV), gc 0 [x, y, .int .i64 (q : Int), .sl 1 1 0 b.length, .rd 1 b.length (iL S), .int .i64 ((b.length : Nat) : Int), .int .i64 (v : Int)] [some (.data C), some (.data D)] = some ([x, y, .int .i64 (q : Int), .sl 0 1 0 b.length, .rd 1 b.length (iL S), .int .i64 ((b.length : Nat) : Int), .int .i64 (v : Int)], [some (.data D)]) := fun v C D => by simp [go_sem, fx, fy]
  have gcY : ∀ (v : Nat) (D : List AV), gc 0 [x, y, .int .i64 (q : Int), .sl 0 1 0 b.length, .rd 1 b.length (iL S), .int .i64 ((b.length : Nat) : Int), .int .i64 (v : Int)] [some (.data D)] = some ([x, y, .int .i64 (q : Int), .sl 0 1 0 b.length, .rd 1 b.length (iL S), .int .i64 ((b.length : Nat) : Int), .int .i64 (v : Int)], [some (.data D)]) := fun v D => by simp [go_sem, fx, fy]
  -- the end, whatever the script
  have hend : ∀ (Z : List Int) (K : KT) (X : Nat → KT) (Rt : KT), Z.length = b.length → (∀ v : Nat, v < b.length → -1000000000000000 ≤ getI Z (v : Int) ∧ getI Z (v : Int) ≤ 1000000000000000) → getI Z (q : Int) = 0 → Near b.length q (apl b l Z) → Rt = finish 0 [.t 6] →
      RC call it m (.seq (.reg [⟨.inl .mov, [.t 11], some 57, none, []⟩, ⟨.inl .mov, [.t 0], some 58, none, []⟩, ⟨.inl .mov, [.t 0], some 59, none, []⟩, ⟨.inl .mov, [.t 1], some 60, none, []⟩, ⟨.inl .mov, [.t 11], some 61, none, []⟩, ⟨.inr (.call true true 55), [.t 59, .t 60, .t 61], some 62, none, []⟩, ⟨.inl .mov, [.t 2], some 63, none, []⟩, ⟨.inr (.call true true 81), [.t 58, .t 62, .t 63], some 64, none, []⟩, ⟨.inr (.call true false 77), [.t 57, .t 64], some 65, none, []⟩, ⟨.inl .mov, [.t 65], some 6, none, []⟩] none) .ret) 0 K X Rt (bindEnv [0, 1, 2, 11] 0 [x, y, .int .i64 (q : Int), .sl 0 1 0 b.length]) [some (.data (iL Z))] (some (.sl 0 1 0 b.length, [some (.data (iL R))])) := by
    intro Z K X Rt hZl hZb hZq hN hRt
    subst hRt
    obtain ⟨hu1, hu2, hu3⟩ := redT_ok hB (apl b l Z) hq
    have hub := redT_le hB (l := apl b l Z) hq (M := 100) (by omega) hN.oth
    have e55' := e55 Z hZl (fun v hv => by have := hZb v hv; omega) [some (.data (iL Z))] (frzL_cons (frzV_of fx) (frzL_cons (frzV_of fy) (frzL_cons (frz_sl rfl hZl) frzL_nil)))
    have e81' := e81 Z hN
    have e77' := e77 Z (redT b (apl b l Z) q) hZl hu1 (fun v hv => by have := hZb v (by omega); omega) (fun v hv => by have := hub v (by omega); omega) [some (.data (iL Z))] (frzL_cons (frz_sl rfl hZl) (frzL_cons rfl frzL_nil))
    rw [hZl, hfin Z hZl hZq] at e77'
    repeat' first
 | (apply s_mov; (focus ((conv => lhs; whnf); done)))
 | (apply c_nil)
 | (apply s_cn; (focus (repeat (first | apply opds_nil | (apply opds_cons; (first | (focus ((conv => lhs; whnf); done)) | exact rfl))))); exact e55')
 | (apply s_cn; (focus (repeat (first | apply opds_nil | (apply opds_cons; (first | (focus ((conv => lhs; whnf); done)) | exact rfl))))); exact e81' _)
 | (apply s_en; (focus (repeat (first | apply opds_nil | (apply opds_cons; (first | (focus ((conv => lhs; whnf); done)) | exact rfl))))); exact e77')
 | (apply c_seq)
 | (apply c_reg)
 | (apply c_ret)
 | (with_reducible apply k_c)
    simp [finish, ress, resOf, look, tupOf, go_sem]
  skip
  repeat' first
 | (apply s_mov; (focus ((conv => lhs; whnf); done)))
 | (apply c_nil)
 | (apply s_pn; (focus (repeat (first | apply opds_nil | (apply opds_cons; (first | (focus ((conv => lhs; whnf); done)) | exact rfl))))); exact ly _)
 | (apply s_en; (focus (repeat (first | apply opds_nil | (apply opds_cons; (first | (focus ((conv => lhs; whnf); done)) | exact rfl))))); exact mk _ _)
 | (apply c_seq)
 | (apply c_reg)
 | (apply c_block)
 | (with_reducible apply k_c)
  refine c_loop ?_
  refine loop_gc (σ := Nat × List Int × Bool) (fun p => [x, y, .int .i64 (q : Int), .sl 0 1 0 b.length, .bool p.2.2, y, .int .i64 ((b.length : Nat) : Int), .int .i64 (p.1 : Int)]) (fun p => [some (.data (iL p.2.1))]) (fun p => p.1 ≤ b.length ∧ p.2.1.length = b.length ∧ (∀ i : Nat, i < p.1 → getI p.2.1 (i : Int) = (getI l (i : Int)).tdiv 2) ∧ (p.2.2 = true ↔ ∀ i : Nat, i < p.1 → (getI l (i : Int)).tdiv 2 = 0)) (fun p => b.length - p.1) ?_ _ (0, List.replicate b.length 0, true) _ _ ⟨by omega, by simp, fun i hi => by omega, by simp⟩ (by show b.length - 0 < _; omega) (gcH true 0 _)
  intro ⟨v, h, z⟩ ⟨hv, hhl', hh, hz⟩ K hK
  dsimp only at hv hhl' hh hz hK ⊢
  by_cases hvn : v < b.length
  · have h1 := hb v hvn
    have h2 := tdiv2 (getI l (v : Int))
    have st := fun (vv : Int) call H h' => e_stO (call := call) (H := H) (id := 0) (l := h) (i := v) (v := vv) h' (by omega)
    have quo := fun H => p_quo2 (H := H) (a := getI l (v : Int)) (by omega)
    have hnext : ∀ i : Nat, i < v + 1 → getI (h.set v ((getI l (v : Int)).tdiv 2)) (i : Int) = (getI l (i : Int)).tdiv 2 := fun i hi => by
      rw [getI_set (by omega)]
      by_cases e : i = v
      · subst e; rw [if_pos rfl]
      · rw [if_neg e]; exact hh i (by omega)
    have hzn : (∀ i : Nat, i < v + 1 → (getI l (i : Int)).tdiv 2 = 0) ↔ (∀ i : Nat, i < v → (getI l (i : Int)).tdiv 2 = 0) ∧ (getI l (v : Int)).tdiv 2 = 0 := ⟨fun h => ⟨fun i hi => h i (by omega), h v (by omega)⟩, fun ⟨h1, h2⟩ i hi => by
      rcases (by omega : i < v ∨ i = v) with h | rfl
      · exact h1 i h
      · exact h2⟩
    cases z with
    | true =>
      have hz0 := hz.1 rfl
      repeat' first
 | (apply s_mov; (focus ((conv => lhs; whnf); done)))
 | (apply s_gT; exact rfl)
 | (apply c_nil)
 | (apply s_pickT; exact rfl; (focus ((conv => lhs; whnf); done)))
 | ((first | apply s_lss | apply s_leq | apply s_gtr | apply s_geq | apply s_eql | apply s_neq); exact rfl; all_goals (intro _; try (exfalso; omega)))
 | ((first | apply s_add | apply s_sub); exact rfl; omega)
 | (apply s_pn; (focus (repeat (first | apply opds_nil | (apply opds_cons; (first | (focus ((conv => lhs; whnf); done)) | exact rfl))))); exact quo _)
 | (apply s_pn; (focus (repeat (first | apply opds_nil | (apply opds_cons; (first | (focus ((conv => lhs; whnf); done)) | exact rfl))))); exact p_ixO hvn)
 | (apply s_st; (focus (repeat (first | apply opds_nil | (apply opds_cons; (first | (focus ((conv => lhs; whnf); done)) | exact rfl))))); exact st _ _ _ rfl)
 | (apply s_idx; (focus ((conv => lhs; whnf); done)); exact rfl; (first | assumption | (apply IsLL.at; assumption; omega)); omega)
 | (apply s_ldI; exact rfl; omega)
 | (apply c_seq)
 | (apply c_reg)
 | (apply c_block)
 | (apply c_skip)
 | (apply c_condT; exact rfl)
 | (with_reducible apply k_c)
      · refine hK (v + 1, _, true) _ _ ⟨by omega, by simpa using hhl', hnext, ?_⟩ (by show b.length - (v + 1) < _; omega) (gcH _ (v + 1) _)
        exact ⟨fun _ => hzn.2 ⟨hz0, by omega⟩, fun _ => rfl⟩
      · refine hK (v + 1, _, false) _ _ ⟨by omega, by simpa using hhl', hnext, ?_⟩ (by show b.length - (v + 1) < _; omega) (gcH _ (v + 1) _)
        exact ⟨fun e => (by cases e), fun h => absurd (hzn.1 h).2 (by omega)⟩
    | false =>
      repeat' first
 | (apply s_mov; (focus ((conv => lhs; whnf); done)))
 | (apply s_gF; exact rfl)
 | (apply c_nil)
 | (apply s_pickF; exact rfl; (focus ((conv => lhs; whnf); done)))
 | ((first | apply s_lss | apply s_leq | apply s_gtr | apply s_geq | apply s_eql | apply s_neq); exact rfl; all_goals (intro _; try (exfalso; omega)))
 | ((first | apply s_add | apply s_sub); exact rfl; omega)
 | (apply s_pn; (focus (repeat (first | apply opds_nil | (apply opds_cons; (first | (focus ((conv => lhs; whnf); done)) | exact rfl))))); exact quo _)
 | (apply s_pn; (focus (repeat (first | apply opds_nil | (apply opds_cons; (first | (focus ((conv => lhs; whnf); done)) | exact rfl))))); exact p_ixO hvn)
 | (apply s_st; (focus (repeat (first | apply opds_nil | (apply opds_cons; (first | (focus ((conv => lhs; whnf); done)) | exact rfl))))); exact st _ _ _ rfl)
 | (apply s_idx; (focus ((conv => lhs; whnf); done)); exact rfl; (first | assumption | (apply IsLL.at; assumption; omega)); omega)
 | (apply s_ldI; exact rfl; omega)
 | (apply c_seq)
 | (apply c_reg)
 | (apply c_block)
 | (apply c_skip)
 | (apply c_condT; exact rfl)
 | (with_reducible apply k_c)
      refine hK (v + 1, _, false) _ _ ⟨by omega, by simpa using hhl', hnext, ?_⟩ (by show b.length - (v + 1) < _; omega) (gcH _ (v + 1) _)
      exact ⟨fun e => (by cases e), fun h => hz.2 (hzn.1 h).1⟩
  · obtain rfl : v = b.length := by omega
    obtain rfl : h = halfL l := ext_getI (by omega) fun i hi => by rw [hh i (by omega), hhg i (by omega)]
    cases z with
    | true =>
      have hz0 := hz.1 rfl
      repeat' first
 | (apply c_nil)
 | ((first | apply s_lss | apply s_leq | apply s_gtr | apply s_geq | apply s_eql | apply s_neq); exact rfl; all_goals (intro _; try (exfalso; omega)))
 | (apply c_seq)
 | (apply c_reg)
 | (apply c_exitH)
 | (apply c_condF; exact rfl)
 | (with_reducible apply k_c)
      apply c_pre (vs := [x, y, .int .i64 (q : Int), .sl 0 1 0 b.length, .bool true]) (H' := [some (.data (iL (halfL l)))])
      · simp [go_sem, fx, fy]
      repeat' first
 | (apply s_mov; (focus ((conv => lhs; whnf); done)))
 | (apply c_nil)
 | (apply s_notT; exact rfl)
 | (apply s_pn; (focus (repeat (first | apply opds_nil | (apply opds_cons; (first | (focus ((conv => lhs; whnf); done)) | exact rfl))))); exact ly _)
 | (apply s_en; (focus (repeat (first | apply opds_nil | (apply opds_cons; (first | (focus ((conv => lhs; whnf); done)) | exact rfl))))); exact mk _ _)
 | (apply c_seq)
 | (apply c_reg)
 | (apply c_skip)
 | (apply c_condF; exact rfl)
 | (with_reducible apply k_c)
      apply c_pre (vs := [x, y, .int .i64 (q : Int), .sl 0 1 0 b.length]) (H' := [some (.data (iL (List.replicate b.length 0)))])
      · simp [go_sem, fx, fy]
      refine hend _ _ _ _ (by simp) (fun v hv => ?_) ?_ (hnear0 hz0) rfl
      · rw [getI_nat]; simp [List.getD, hv]
      · rw [getI_nat]; simp [List.getD, hq]
    | false =>
      have hz0 : ¬ (∀ v : Nat, v < b.length → (getI l (v : Int)).tdiv 2 = 0) := fun h => by have := hz.2 h; cases this
      have hrec' := hrec hz0 [x, .sl 0 1 0 b.length, .int .i64 (q : Int)] [some (.data (iL (halfL l))), some (.data (iL (List.replicate b.length 0)))] (frzL_cons (frzV_of fx) (frzL_cons (frz_sl rfl hhl) (frzL_cons rfl frzL_nil)))
      have lS : ∀ H, evP H .len [AV.rd 1 b.length (iL S)] = some (.int .i64 ((b.length : Nat) : Int)) := fun H => rfl
      repeat' first
 | (apply c_nil)
 | ((first | apply s_lss | apply s_leq | apply s_gtr | apply s_geq | apply s_eql | apply s_neq); exact rfl; all_goals (intro _; try (exfalso; omega)))
 | (apply c_seq)
 | (apply c_reg)
 | (apply c_exitH)
 | (apply c_condF; exact rfl)
 | (with_reducible apply k_c)
      apply c_pre (vs := [x, y, .int .i64 (q : Int), .sl 0 1 0 b.length, .bool false]) (H' := [some (.data (iL (halfL l)))])
      · simp [go_sem, fx, fy]
      repeat' first
 | (apply s_mov; (focus ((conv => lhs; whnf); done)))
 | (apply c_nil)
 | (apply s_notF; exact rfl)
 | (apply s_pn; (focus (repeat (first | apply opds_nil | (apply opds_cons; (first | (focus ((conv => lhs; whnf); done)) | exact rfl))))); exact ly _)
 | (apply s_en; (focus (repeat (first | apply opds_nil | (apply opds_cons; (first | (focus ((conv => lhs; whnf); done)) | exact rfl))))); exact mk _ _)
 | (apply s_cn; (focus (repeat (first | apply opds_nil | (apply opds_cons; (first | (focus ((conv => lhs; whnf); done)) | exact rfl))))); exact hrec')
 | (apply s_pn; (focus (repeat (first | apply opds_nil | (apply opds_cons; (first | (focus ((conv => lhs; whnf); done)) | exact rfl))))); exact lS _)
 | (apply c_seq)
 | (apply c_reg)
 | (apply c_block)
 | (apply c_condT; exact rfl)
 | (with_reducible apply k_c)
      refine c_loop ?_
      refine loop_gc (σ := Nat × List Int) (fun p => [x, y, .int .i64 (q : Int), .sl 0 1 0 b.length, .rd 1 b.length (iL S), .int .i64 ((b.length : Nat) : Int), .int .i64 (p.1 : Int)]) (fun p => [some (.data (iL p.2))]) (fun p => p.1 ≤ b.length ∧ p.2.length = b.length ∧ ∀ i : Nat, i < p.1 → getI p.2 (i : Int) = 2 * getI S (i : Int)) (fun p => b.length - p.1) ?_ _ (0, List.replicate b.length 0) _ _ ⟨by omega, by simp, fun i hi => by omega⟩ (by show b.length - 0 < _; omega) (gcZ 0 _ _)
      intro ⟨v, Z⟩ ⟨hv, hZl, hZ⟩ K2 hK2
      dsimp only at hv hZl hZ hK2 ⊢
      by_cases hvn : v < b.length
      · have h1 := hsb v hvn
        have st := fun (vv : Int) call H h' => e_stO (call := call) (H := H) (id := 0) (l := Z) (i := v) (v := vv) h' (by omega)
        have mu := fun H => p_mul2 (H := H) (a := getI S (v : Int)) (by omega)
        repeat' first
 | (apply s_mov; (focus ((conv => lhs; whnf); done)))
 | (apply c_nil)
 | ((first | apply s_lss | apply s_leq | apply s_gtr | apply s_geq | apply s_eql | apply s_neq); exact rfl; all_goals (intro _; try (exfalso; omega)))
 | ((first | apply s_add | apply s_sub); exact rfl; omega)
 | (apply s_pn; (focus (repeat (first | apply opds_nil | (apply opds_cons; (first | (focus ((conv => lhs; whnf); done)) | exact rfl))))); exact mu _)
 | (apply s_pn; (focus (repeat (first | apply opds_nil | (apply opds_cons; (first | (focus ((conv => lhs; whnf); done)) | exact rfl))))); exact p_ixO hvn)
 | (apply s_st; (focus (repeat (first | apply opds_nil | (apply opds_cons; (first | (focus ((conv => lhs; whnf); done)) | exact rfl))))); exact st _ _ _ rfl)
 | (apply s_idx; (focus ((conv => lhs; whnf); done)); exact rfl; (first | assumption | (apply IsLL.at; assumption; omega)); omega)
 | (apply s_ldI; exact rfl; omega)
 | (apply c_seq)
 | (apply c_reg)
 | (apply c_block)
 | (apply c_skip)
 | (apply c_condT; exact rfl)
 | (with_reducible apply k_c)
        refine hK2 (v + 1, _) _ _ ⟨by omega, by simpa using hZl, fun i hi => ?_⟩ (by show b.length - (v + 1) < _; omega) (gcY (v + 1) _)
        dsimp only
        rw [getI_set (by omega)]
        by_cases e : i = v
        · subst e; rw [if_pos rfl]
        · rw [if_neg e]; exact hZ i (by omega)
      · obtain rfl : v = b.length := by omega
        have hN := hnear Z hZl hZ
        repeat' first
 | (apply c_nil)
 | ((first | apply s_lss | apply s_leq | apply s_gtr | apply s_geq | apply s_eql | apply s_neq); exact rfl; all_goals (intro _; try (exfalso; omega)))
 | (apply c_seq)
 | (apply c_reg)
 | (apply c_exitH)
 | (apply c_condF; exact rfl)
 | (with_reducible apply k_c)
        apply c_pre (vs := [x, y, .int .i64 (q : Int), .sl 0 1 0 b.length]) (H' := [some (.data (iL Z))])
        · simp [go_sem, fx, fy]
        refine hend Z _ _ _ hZl (fun v hv => ?_) ?_ hN rfl
        · rw [hZ v hv]; have := hsb v hv; omega
        · rw [hZ q hq]; unfold gf at hs2; omega
theorem f54 {b : List (List Int)} (hB : IsB b) {q : Nat} (hq : q < b.length) : ∀ (k : Nat) {x y : AV} {l : List Int}, IsLL x b → IsL y l → l.length = b.length → (∀ v : Nat, v < b.length → -1099511627776 ≤ getI l (v : Int) ∧ getI l (v : Int) ≤ 1099511627776) → (∀ v : Nat, v < b.length → (getI l (v : Int)).natAbs < 2 ^ k) → ∀ {m : Nat}, smK + 1 + k ≤ m →
    evF tab it m 54 [x, y, .int .i64 (q : Int)] [] = some (.sl 0 1 0 b.length, [some (.data (iL (redT b l q)))])
  | 0, x, y, l, hx, hy, hln, hb, hk, m, hm => by
    obtain ⟨m, rfl⟩ : ∃ j, m = j + 1 := ⟨m - 1, by omega⟩
    refine f54_core hB hq hx hy hln hb (by omega) fun h => absurd (fun v hv => ?_) h
    have := hk v hv
    have := tdiv2 (getI l (v : Int))
    omega
  | k + 1, x, y, l, hx, hy, hln, hb, hk, m, hm => by
    obtain ⟨m, rfl⟩ : ∃ j, m = j + 1 := ⟨m - 1, by omega⟩
    refine f54_core hB hq hx hy hln hb (by omega) fun _ args H ha => ?_
    have hhl := halfL_len l
    rw [hln] at hhl
    have hhg := fun (v : Nat) (hv : v < b.length) => halfL_get (l := l) (v := v) (by omega)
    have ih := f54 hB hq k hx (rd_isL hhl) hhl (fun v hv => by
      rw [hhg v hv]
      have := hb v hv
      have := tdiv2 (getI l (v : Int))
      omega) (fun v hv => by
      rw [hhg v hv]
      have h1 := hk v hv
      rw [Nat.pow_succ] at h1
      have := tdiv2 (getI l (v : Int))
      omega) (m := m) (by omega)
    exact callPure_own ha ih rfl (by simp [HO.hasRd, iL_noRd]) (frz_sl rfl (redT_ok hB (halfL l) hq).1)
end Go.AM.Ch

set_option linter.unusedSectionVars false
set_option linter.unusedVariables false
set_option linter.unusedSimpArgs false
namespace Go.AM.Ch
attribute [local go_sem] gc subHeap reach_skip ren_free reach_new reach_newp reach_end rangeL roots boxCells nodupB posOf renL AV.ren pickO renH renO looks look bindEnv envOf reach_int reach_bool reach_nilS reach_rd putRow cells_sl cells_int cells_bool cells_nilS cells_rd cells_agg reach_agg reach_tup idFreeL idf_sl idf_ptr idf_int idf_bool idf_nilS idf_rd reach_fn reach_mp cells_fn cells_ptr cells_mp idf_mp idf_fn idf_agg idf_tup
set_option maxHeartbeats 8000000
/-- what Reduce asks for -/
def RedIn (b : List (List Int)) (s : List Int) (q : Int) : Prop := (IsB b ∧ InR b.length 1048576 s) ∧ (0 ≤ q ∧ q < b.length)
noncomputable instance (b : List (List Int)) (s : List Int) (q : Int) : Decidable (RedIn b s q) := Classical.propDecidable _
theorem c54o {x y : AV} {b : List (List Int)} {s : List Int} {q : Nat} (hx : IsLL x b) (hy : IsL y s) (hB : IsB b) (hs : InR b.length 1048576 s) (hq : q < b.length) {m : Nat} (hm : smK + 22 ≤ m) (H : Heap) :
    callPure (evF tab it m) false 54 [x, y, .int .i64 (q : Int)] H = some (.sl H.length 1 0 b.length, H ++ [some (.data (iL (redT b s q)))]) := by
  have ff : idFreeL [x, y, .int .i64 (q : Int)] = true := by simp [idFreeL, AV.idFree, hx.free, hy.free]
  have f := f54 hB hq 21 hx hy hs.1 (fun v hv => by have := inR_get hs v hv; omega) (fun v hv => by
    have := inR_get hs v hv
    have e : (2 : Nat) ^ 21 = 2097152 := by decide
    omega) (m := m) hm
  simp [callPure, frzL_free H 40 [x, y, .int .i64 (q : Int)] (by simp) ff, f, ff, shiftH, AV.ren, renH, renO]
theorem c54 {x y : AV} {b : List (List Int)} {s : List Int} {q : Nat} (hx : IsLL x b) (hy : IsL y s) (hB : IsB b) (hs : InR b.length 1048576 s) (hq : q < b.length) {m : Nat} (hm : smK + 22 ≤ m) (H : Heap) :
    callPure (evF tab it m) true 54 [x, y, .int .i64 (q : Int)] H = some (.rd 1 b.length (iL (redT b s q)), H) := by
  have f := f54 hB hq 21 hx hy hs.1 (fun v hv => by have := inR_get hs v hv; omega) (fun v hv => by
    have := inR_get hs v hv
    have e : (2 : Nat) ^ 21 = 2097152 := by decide
    omega) (m := m) hm
  exact callPure_frz (by simp [idFreeL, AV.idFree, hx.free, hy.free]) (by simp) f (frz_sl rfl (redT_ok hB s hq).1)
/-- the scripts of states are small -/
theorem redT_st {b : List (List Int)} (hB : IsB b) {s : List Int} (hs : InR b.length 1048576 s) {q : Nat} (hq : q < b.length) : ∀ v : Nat, v < b.length → -104860600 ≤ getI (redT b s q) (v : Int) ∧ getI (redT b s q) (v : Int) ≤ 104860600 := fun v hv => by
  have := redT_le hB (l := s) hq (M := 1048576) (by decide) (fun w hw _ => inR_get hs w hw) v hv
  omega
/-- Reduce -/
theorem f20 {x y : AV} {b : List (List Int)} {s : List Int} {q : Nat} (hx : IsLL x b) (hy : IsL y s) (hB : IsB b) (hs : InR b.length 1048576 s) (hq : q < b.length) {m : Nat} (hm : smK + 23 ≤ m) :
    evF tab it m 20 [x, y, .int .i64 (q : Int)] [] = some (.tup [.sl 0 1 0 b.length, .sl 1 1 0 b.length, .int .i64 0], [some (.data (iL (apl b s (redT b s q)))), some (.data (iL (redT b s q)))]) := by
  have hm1 : 100000 ≤ m := by have := smK_big; omega
  obtain ⟨m, rfl⟩ : ∃ j, m = j + 1 := ⟨m - 1, by omega⟩
  have fx := hx.free; have fy := hy.free
  have hn1 := hB.n1; have hn2 := hB.n2
  have hsl := hs.1
  have e52 := fun H => c52 hx hy (by omega) (by omega) (m := m) (by omega) H
  rw [if_pos ⟨hB, hs⟩] at e52
  have e53 := fun (a lo hi : Int) H => c53 (m := m) (by omega) a lo hi H
  have lx : ∀ H, evP H .len [x] = some (.int .i64 ((b.length : Nat) : Int)) := fun H => by cases hx <;> rfl
  have e54 := fun H => c54o hx hy hB hs hq (m := m) (by omega) H
  have hRl := (redT_ok hB s hq).1
  have hRb := redT_st hB hs hq
  have e55 := c55q hx hy (rd_isL hRl) hB.bd hsl hRl (fun v hv => by have := hRb v hv; omega) (fun v hv => by have := inR_get hs v hv; omega) (m := m) (by omega) [some (.data (iL (redT b s q)))] (args := [x, y, .sl 0 1 0 b.length]) (frzL_cons (frzV_of fx) (frzL_cons (frzV_of fy) (frzL_cons (frz_sl rfl hRl) frzL_nil)))
  clear hm
  refine f_enter rfl rfl ?_
  generalize evF tab it m = call at *
  repeat' first
 | (apply s_mov; (focus ((conv => lhs; whnf); done)))
 | (apply s_gT; exact rfl)
 | (apply c_nil)
 | (apply s_pickF; exact rfl; (focus ((conv => lhs; whnf); done)))
 | (apply s_notT; exact rfl)
 | (apply s_notF; exact rfl)
 | ((first | apply s_lss | apply s_leq | apply s_gtr | apply s_geq | apply s_eql | apply s_neq); exact rfl; all_goals (intro _; try (exfalso; omega)))
 | ((first | apply s_add | apply s_sub); exact rfl; omega)
 | (apply s_cn; (focus (repeat (first | apply opds_nil | (apply opds_cons; (first | (focus ((conv => lhs; whnf); done)) | exact rfl))))); exact e52 _)
 | (apply isE; refine s_cB (by (focus (repeat (first | apply opds_nil | (apply opds_cons; (first | (focus ((conv => lhs; whnf); done)) | exact rfl)))))) (e53 _ _ _ _) (fun _ => ?_) (fun _ => ?_))
 | (apply s_pn; (focus (repeat (first | apply opds_nil | (apply opds_cons; (first | (focus ((conv => lhs; whnf); done)) | exact rfl))))); exact lx _)
 | (apply s_en; (focus (repeat (first | apply opds_nil | (apply opds_cons; (first | (focus ((conv => lhs; whnf); done)) | exact rfl))))); exact e54 _)
 | (apply s_en; (focus (repeat (first | apply opds_nil | (apply opds_cons; (first | (focus ((conv => lhs; whnf); done)) | exact rfl))))); exact e55)
 | (apply c_seq)
 | (apply c_reg)
 | (apply c_skip)
 | (apply c_ret)
 | (apply c_condT; exact rfl)
 | (apply c_condF; exact rfl)
 | (with_reducible apply k_c)
  all_goals first
    | (exfalso; omega)
    | (simp [finish, ress, resOf, look, tupOf, go_sem]; done)
theorem f20e {x y : AV} {b : List (List Int)} {s : List Int} {q : Int} (hx : IsLL x b) (hy : IsL y s) (hl : b.length < 100) (hsl : s.length ≤ 1000) (h : ¬ RedIn b s q) {m : Nat} (hm : 3000 ≤ m) :
    evF tab it m 20 [x, y, .int .i64 q] [] = some (.tup [.nilS, .nilS, .int .i64 2], []) := by
  obtain ⟨m, rfl⟩ : ∃ j, m = j + 1 := ⟨m - 1, by omega⟩
  have fx := hx.free; have fy := hy.free
  have e52 := fun H => c52 hx hy hl hsl (m := m) (by omega) H
  have e53 := fun (a lo hi : Int) H => c53 (m := m) (by omega) a lo hi H
  have lx : ∀ H, evP H .len [x] = some (.int .i64 ((b.length : Nat) : Int)) := fun H => by cases hx <;> rfl
  refine f_enter rfl rfl ?_
  generalize evF tab it m = call at *
  by_cases h1 : IsB b ∧ InR b.length 1048576 s
  · rw [if_pos h1] at e52
    have h2 : ¬ (0 ≤ q ∧ q < b.length) := fun h2 => h ⟨h1, h2⟩
    repeat' first
 | (apply s_mov; (focus ((conv => lhs; whnf); done)))
 | (apply s_gT; exact rfl)
 | (apply c_nil)
 | (apply s_pickF; exact rfl; (focus ((conv => lhs; whnf); done)))
 | (apply s_notT; exact rfl)
 | (apply s_notF; exact rfl)
 | ((first | apply s_lss | apply s_leq | apply s_gtr | apply s_geq | apply s_eql | apply s_neq); exact rfl; all_goals (intro _; try (exfalso; omega)))
 | ((first | apply s_add | apply s_sub); exact rfl; omega)
 | (apply s_cn; (focus (repeat (first | apply opds_nil | (apply opds_cons; (first | (focus ((conv => lhs; whnf); done)) | exact rfl))))); exact e52 _)
 | (apply isE; refine s_cB (by (focus (repeat (first | apply opds_nil | (apply opds_cons; (first | (focus ((conv => lhs; whnf); done)) | exact rfl)))))) (e53 _ _ _ _) (fun _ => ?_) (fun _ => ?_))
 | (apply s_pn; (focus (repeat (first | apply opds_nil | (apply opds_cons; (first | (focus ((conv => lhs; whnf); done)) | exact rfl))))); exact lx _)
 | (apply c_seq)
 | (apply c_reg)
 | (apply c_skip)
 | (apply c_ret)
 | (apply c_condT; exact rfl)
 | (apply c_condF; exact rfl)
 | (with_reducible apply k_c)
    all_goals first
      | (exfalso; omega)
      | (simp [finish, ress, resOf, look, tupOf, go_sem]; done)
  · rw [if_neg h1] at e52
    repeat' first
 | (apply s_mov; (focus ((conv => lhs; whnf); done)))
 | (apply s_gF; exact rfl)
 | (apply s_gFD; exact rfl)
 | (apply c_nil)
 | (apply s_pickT; exact rfl; (focus ((conv => lhs; whnf); done)))
 | ((first | apply s_lss | apply s_leq | apply s_gtr | apply s_geq | apply s_eql | apply s_neq); exact rfl; all_goals (intro _; try (exfalso; omega)))
 | (apply s_cn; (focus (repeat (first | apply opds_nil | (apply opds_cons; (first | (focus ((conv => lhs; whnf); done)) | exact rfl))))); exact e52 _)
 | (apply c_seq)
 | (apply c_reg)
 | (apply c_ret)
 | (apply c_condT; exact rfl)
 | (with_reducible apply k_c)
    all_goals first
      | (exfalso; omega)
      | (simp [finish, ress, resOf, look, tupOf, go_sem]; done)
theorem frz_setA {A T : List Int} {n : Nat} (hA : A.length = n) (hT : T.length = n) {e : Int} : frzV [some (.data (iL A)), some (.data (iL T))] 40 (.tup [.sl 0 1 0 n, .sl 1 1 0 n, .int .i64 e]) = some (.tup [.rd 1 n (iL A), .rd 1 n (iL T), .int .i64 e]) :=
  frzV_tup rfl (frzL_cons (frz_sl rfl hA) (frzL_cons (frz_sl rfl hT) (frzL_cons rfl frzL_nil)))
theorem c20 {x y : AV} {b : List (List Int)} {s : List Int} {q : Nat} (hx : IsLL x b) (hy : IsL y s) (hB : IsB b) (hs : InR b.length 1048576 s) (hq : q < b.length) {m : Nat} (hm : smK + 23 ≤ m) (H : Heap) :
    callPure (evF tab it m) true 20 [x, y, .int .i64 (q : Int)] H = some (.tup [.rd 1 b.length (iL (apl b s (redT b s q))), .rd 1 b.length (iL (redT b s q)), .int .i64 0], H) :=
  callPure_frz (by simp [idFreeL, AV.idFree, hx.free, hy.free]) (by simp) (f20 hx hy hB hs hq hm) (frz_setA (apl_len _ _ _) (redT_ok hB s hq).1)
end Go.AM.Ch

set_option linter.unusedSectionVars false
set_option linter.unusedVariables false
set_option linter.unusedSimpArgs false
namespace Go.AM.Ch
attribute [local go_sem] gc subHeap reach_skip ren_free reach_new reach_newp reach_end rangeL roots boxCells nodupB posOf renL AV.ren pickO renH renO looks look bindEnv envOf reach_int reach_bool reach_nilS reach_rd putRow cells_sl cells_int cells_bool cells_nilS cells_rd cells_agg reach_agg reach_tup idFreeL idf_sl idf_ptr idf_int idf_bool idf_nilS idf_rd reach_fn reach_mp cells_fn cells_ptr cells_mp idf_mp idf_fn idf_agg idf_tup
set_option maxHeartbeats 8000000
/-- the reference's distances -/
theorem f106 {x : AV} {b : List (List Int)} (hx : IsLL x b) (hb : Bd b) {q0 : Nat} (hq : q0 < b.length) {m : Nat} (hm : 200 ≤ m) : evF tab it m 106 [x, .int .i64 (q0 : Int)] [] = some (.sl 0 1 0 b.length, [some (.data (iL (dist b q0).1))]) := by
  obtain ⟨m, rfl⟩ : ∃ j, m = j + 1 := ⟨m - 1, by omega⟩
  have fx := hx.free
  have hl12 := hb.len
  have mk := fun call H => @e_mkI call H b.length (by unfold most; omega)
  have lx : ∀ H, evP H .len [x] = some (.int .i64 ((b.length : Nat) : Int)) := fun H => by cases hx <;> rfl
  have bld : ∀ call H (a : Int), evE call H (.bldS true false 1 1 [.int .i64 0] [(0, 1)]) [.int .i64 a] = some (.sl H.length 1 0 1, H ++ [some (.data [.int .i64 a])]) := fun call H a => rfl
  generalize hR : dist b q0 = R
  refine f_enter rfl rfl ?_
  generalize evF tab it m = call at *
  have gcO : ∀ (v : Nat) (C : List AV), gc 0 [x, .int .i64 (q0 : Int), .sl 0 1 0 b.length, .int .i64 (v : Int)] [some (.data C)] = some ([x, .int .i64 (q0 : Int), .sl 0 1 0 b.length, .int .i64 (v : Int)], [some (.data C)]) := fun v C => by simp [go_sem, fx]
  repeat' first
 | (apply s_mov; (focus ((conv => lhs; whnf); done)))
 | (apply c_nil)
 | (apply s_pn; (focus (repeat (first | apply opds_nil | (apply opds_cons; (first | (focus ((conv => lhs; whnf); done)) | exact rfl))))); exact lx _)
 | (apply s_en; (focus (repeat (first | apply opds_nil | (apply opds_cons; (first | (focus ((conv => lhs; whnf); done)) | exact rfl))))); exact mk _ _)
 | (apply c_seq)
 | (apply c_reg)
 | (apply c_block)
 | (with_reducible apply k_c)
  refine c_loop ?_
  refine loop_gc (σ := Nat × List Int) (fun p => [x, .int .i64 (q0 : Int), .sl 0 1 0 b.length, .int .i64 (p.1 : Int)]) (fun p => [some (.data (iL p.2))]) (fun p => p.1 ≤ b.length ∧ p.2.length = b.length ∧ ∀ i : Nat, i < p.1 → getI p.2 (i : Int) = -1) (fun p => b.length - p.1) ?_ _ (0, List.replicate b.length 0) _ _ ⟨by omega, by simp, fun i hi => by omega⟩ (by show b.length - 0 < _; omega) (gcO 0 _)
  intro ⟨v, out⟩ ⟨hv, hol, hout⟩ K hK
  dsimp only at hv hol hout hK ⊢
  by_cases hvn : v < b.length
  · have hs1 := fun (vv : Int) call H h => e_stO (call := call) (H := H) (id := 0) (l := out) (i := v) (v := vv) h (by omega)
    repeat' first
 | (apply s_mov; (focus ((conv => lhs; whnf); done)))
 | (apply c_nil)
 | ((first | apply s_lss | apply s_leq | apply s_gtr | apply s_geq | apply s_eql | apply s_neq); exact rfl; all_goals (intro _; try (exfalso; omega)))
 | ((first | apply s_add | apply s_sub); exact rfl; omega)
 | (apply s_pn; (focus (repeat (first | apply opds_nil | (apply opds_cons; (first | (focus ((conv => lhs; whnf); done)) | exact rfl))))); exact lx _)
 | (apply s_pn; (focus (repeat (first | apply opds_nil | (apply opds_cons; (first | (focus ((conv => lhs; whnf); done)) | exact rfl))))); exact p_ixO hvn)
 | (apply s_st; (focus (repeat (first | apply opds_nil | (apply opds_cons; (first | (focus ((conv => lhs; whnf); done)) | exact rfl))))); exact hs1 _ _ _ rfl)
 | (apply c_seq)
 | (apply c_reg)
 | (apply c_block)
 | (apply c_skip)
 | (apply c_condT; exact rfl)
 | (with_reducible apply k_c)
    refine hK (v + 1, out.set v (-1)) _ _ ⟨by omega, by simp [hol], fun i hi => ?_⟩ (by show b.length - (v + 1) < _; omega) (gcO (v + 1) _)
    dsimp only
    rw [getI_set (by omega)]
    split
    · rfl
    · exact hout i (by omega)
  · obtain rfl : v = b.length := by omega
    obtain rfl : out = List.replicate b.length (-1) := by
      refine List.ext_getElem (by simp [hol]) fun j h1 h2 => ?_
      have := hout j (by omega)
      rw [getI_nat] at this
      simpa [List.getD, h1] using this
    have hs1 := fun (vv : Int) call H h => e_stO (call := call) (H := H) (id := 0) (l := List.replicate b.length (-1)) (i := q0) (v := vv) h (by simpa using hq)
    repeat' first
 | (apply s_mov; (focus ((conv => lhs; whnf); done)))
 | (apply c_nil)
 | ((first | apply s_lss | apply s_leq | apply s_gtr | apply s_geq | apply s_eql | apply s_neq); exact rfl; all_goals (intro _; try (exfalso; omega)))
 | (apply s_pn; (focus (repeat (first | apply opds_nil | (apply opds_cons; (first | (focus ((conv => lhs; whnf); done)) | exact rfl))))); exact lx _)
 | (apply c_seq)
 | (apply c_reg)
 | (apply c_exitH)
 | (apply c_condF; exact rfl)
 | (with_reducible apply k_c)
    apply c_pre (vs := [x, .int .i64 (q0 : Int), .sl 0 1 0 b.length]) (H' := [some (.data (iL (List.replicate b.length (-1))))])
    · simp [go_sem, fx]
    repeat' first
 | (apply s_mov; (focus ((conv => lhs; whnf); done)))
 | (apply c_nil)
 | (apply s_pn; (focus (repeat (first | apply opds_nil | (apply opds_cons; (first | (focus ((conv => lhs; whnf); done)) | exact rfl))))); exact p_ixO hq)
 | (apply s_st; (focus (repeat (first | apply opds_nil | (apply opds_cons; (first | (focus ((conv => lhs; whnf); done)) | exact rfl))))); exact hs1 _ _ _ rfl)
 | (apply s_en; (focus (repeat (first | apply opds_nil | (apply opds_cons; (first | (focus ((conv => lhs; whnf); done)) | exact rfl))))); exact bld _ _ _)
 | (apply c_seq)
 | (apply c_reg)
 | (apply c_block)
 | (with_reducible apply k_c)
    have gcQ : ∀ (k j : Nat) (C D : List AV), gc 0 [x, .sl 0 1 0 b.length, .sl 1 1 0 k, .int .i64 (j : Int)] [some (.data C), some (.data D)] = some ([x, .sl 0 1 0 b.length, .sl 1 1 0 k, .int .i64 (j : Int)], [some (.data C), some (.data D)]) := fun k j C D => by simp [go_sem, fx]
    have hn0 := negs_le (d0 b.length q0)
    have hd0 : (d0 b.length q0).length = b.length := by simp [d0]
    refine c_loop ?_
    refine loop_gc (σ := List Int × List Nat × List Nat) (fun p => [x, .sl 0 1 0 b.length, .sl 1 1 0 (p.2.1 ++ p.2.2).length, .int .i64 (p.2.1.length : Int)]) (fun p => [some (.data (iL p.1)), some (.data (iL (nI (p.2.1 ++ p.2.2))))]) (fun p => Bfs b.length p.1 p.2.1 p.2.2 ∧ ∃ f, 2 * negs p.1 + p.2.2.length ≤ f ∧ bfsF b b.length f p.1 p.2.1 p.2.2 = R) (fun p => 2 * negs p.1 + p.2.2.length) ?_ _ (d0 b.length q0, [], [q0]) _ _ ⟨Bfs.init hq, 2 * b.length + 2, by simp only [List.length_cons, List.length_nil]; omega, hR⟩ (by simp only [List.length_cons, List.length_nil]; omega) (gcQ 1 0 _ _)
    intro ⟨d, dn, q⟩ ⟨hB, f, hf, hfR⟩ K2 hK2
    dsimp only at hB hf hfR hK2 ⊢
    have hdl := hB.len
    rcases q with _ | ⟨v, q⟩
    · have : R = (d, dn) := by rw [← hfR]; cases f <;> rfl
      subst this
      simp only [List.append_nil]
      repeat' first
 | (apply s_mov; (focus ((conv => lhs; whnf); done)))
 | (apply c_nil)
 | ((first | apply s_lss | apply s_leq | apply s_gtr | apply s_geq | apply s_eql | apply s_neq); exact rfl; all_goals (intro _; try (exfalso; omega)))
 | (apply s_lenSl; exact rfl)
 | (apply c_seq)
 | (apply c_reg)
 | (apply c_exitH)
 | (apply c_condF; exact rfl)
 | (with_reducible apply k_c)
      all_goals first | (exfalso; omega) | skip
      apply c_pre (vs := [.sl 0 1 0 b.length]) (H' := [some (.data (iL d))])
      · simp [go_sem]
      repeat' first
 | (apply s_mov; (focus ((conv => lhs; whnf); done)))
 | (apply c_nil)
 | (apply c_seq)
 | (apply c_reg)
 | (apply c_ret)
 | (with_reducible apply k_c)
      simp [finish, ress, resOf, look, tupOf, go_sem]
    · have hv : v < b.length := hB.lt v (by simp)
      have hvd := (hB.iff v hv).2 (by simp)
      have e0 : dn ++ v :: q = dn ++ [v] ++ q := by simp
      have hB' : Bfs b.length d (dn ++ [v]) q := ⟨hB.len, hB.low, e0 ▸ hB.nd, e0 ▸ hB.lt, e0 ▸ hB.iff, e0 ▸ hB.far⟩
      have hcap : ∀ {d1 : List Int} {dn1 q1 : List Nat}, Bfs b.length d1 dn1 q1 → (dn1 ++ q1).length ≤ b.length := fun h => by
        have := nodup_len h.nd fun w hw => List.mem_range.2 (h.lt w hw)
        rwa [List.length_range] at this
      have hcap0 := hcap hB
      obtain ⟨f, rfl⟩ : ∃ j, f = j + 1 := ⟨f - 1, by simp only [List.length_cons] at hf; omega⟩
      simp only [bfsF] at hfR
      obtain ⟨hpop, hdec⟩ := Bfs.pop (b := b) hB
      have hrow := hx.at (i := (v : Int)) ⟨by omega, by omega⟩
      have hrl := hb.row v hv
      have fr := hrow.free
      have hlq : dn.length < (dn ++ v :: q).length := by simp
      have hgv : getI (nI (dn ++ v :: q)) (dn.length : Int) = (v : Int) := by rw [getI_nat]; simp [nI, List.getD]
      have ixq := fun H => p_ixO (H := H) (id := 1) (n := (dn ++ v :: q).length) (i := dn.length) hlq
      have ldq := fun (H : Heap) (h : H.data? 1 = some (iL (nI (dn ++ v :: q)))) => (p_ldO (id := 1) (i := dn.length) h (by simp [nI])).trans (by rw [hgv])
      repeat' first
 | (apply s_mov; (focus ((conv => lhs; whnf); done)))
 | (apply c_nil)
 | ((first | apply s_lss | apply s_leq | apply s_gtr | apply s_geq | apply s_eql | apply s_neq); exact rfl; all_goals (intro _; try (exfalso; omega)))
 | (apply s_pn; (focus (repeat (first | apply opds_nil | (apply opds_cons; (first | (focus ((conv => lhs; whnf); done)) | exact rfl))))); exact ixq _)
 | (apply s_pn; (focus (repeat (first | apply opds_nil | (apply opds_cons; (first | (focus ((conv => lhs; whnf); done)) | exact rfl))))); exact ldq _ rfl)
 | (apply s_lenSl; exact rfl)
 | (apply c_seq)
 | (apply c_reg)
 | (apply c_block)
 | (apply c_skip)
 | (apply c_condT; exact rfl)
 | (with_reducible apply k_c)
      all_goals first | (exfalso; omega) | skip
      have gcI : ∀ (k i j : Nat) (C D : List AV), gc 0 [x, .sl 0 1 0 b.length, .sl 1 1 0 k, .int .i64 (i : Int), .int .i64 (v : Int), .int .i64 (j : Int)] [some (.data C), some (.data D)] = some ([x, .sl 0 1 0 b.length, .sl 1 1 0 k, .int .i64 (i : Int), .int .i64 (v : Int), .int .i64 (j : Int)], [some (.data C), some (.data D)]) := fun k i j C D => by simp [go_sem, fx]
      have gcI2 : ∀ (k i j : Nat) (C D : List AV), gc 0 [x, .sl 0 1 0 b.length, .sl 2 1 0 k, .int .i64 (i : Int), .int .i64 (v : Int), .int .i64 (j : Int)] [some (.data C), none, some (.data D)] = some ([x, .sl 0 1 0 b.length, .sl 1 1 0 k, .int .i64 (i : Int), .int .i64 (v : Int), .int .i64 (j : Int)], [some (.data C), some (.data D)]) := fun k i j C D => by simp [go_sem, fx]
      rw [e0]
      refine c_loop ?_
      refine loop_gc (σ := Nat) (fun j => [x, .sl 0 1 0 b.length, .sl 1 1 0 (dn ++ [v] ++ (bIn b v j (d, q)).2).length, .int .i64 (dn.length : Int), .int .i64 (v : Int), .int .i64 (j : Int)]) (fun j => [some (.data (iL (bIn b v j (d, q)).1)), some (.data (iL (nI (dn ++ [v] ++ (bIn b v j (d, q)).2))))]) (fun j => j ≤ b.length) (fun j => b.length - j) ?_ _ 0 _ _ (Nat.zero_le _) (by omega) (gcI _ dn.length 0 _ _)
      intro j hj K3 hK3
      obtain ⟨hB1, hv1, hm1⟩ := bIn_ok (b := b) hB' hv hvd j hj
      by_cases hjn : j < b.length
      · have hcap1 := hcap hB1
        have hstep : bIn b v (j + 1) (d, q) = if 0 < getI (getLL b (v : Int)) (j : Int) ∧ getI (bIn b v j (d, q)).1 (j : Int) < 0 then ((bIn b v j (d, q)).1.set j (getI (bIn b v j (d, q)).1 (v : Int) + 1), (bIn b v j (d, q)).2 ++ [j]) else bIn b v j (d, q) := rfl
        have hK31 := hK3 (j + 1)
        simp only [hstep] at hK31
        have hlow := hB1.low j hjn
        have hlow2 := hB.far v hv
        generalize bIn b v j (d, q) = st at *
        obtain ⟨d1, q1⟩ := st
        dsimp only at *
        have hl1 := hB1.len
        have ldk := fun (H : Heap) (h : H.data? 0 = some (iL d1)) => p_ldO (id := 0) (i := j) h (by omega)
        have ldv := fun (H : Heap) (h : H.data? 0 = some (iL d1)) => p_ldO (id := 0) (i := v) h (by omega)
        have stk := fun (vv : Int) call (H : Heap) (h : H.data? 0 = some (iL d1)) => e_stO (call := call) (H := H) (id := 0) (l := d1) (i := j) (v := vv) h (by omega)
        have apq := fun call (H : Heap) (h : H.data? 1 = some (iL ([] ++ nI (dn ++ [v] ++ q1)))) => e_appO (call := call) (a := (j : Int)) (id := 1) (pr := []) h rfl (nI_len _) (by unfold most; omega)
        by_cases hc : 0 < getI (getLL b (v : Int)) (j : Int) ∧ getI d1 (j : Int) < 0
        · simp only [if_pos hc] at hK31
          obtain ⟨hc1, hc2⟩ := hc
          repeat' first
 | (apply s_mov; (focus ((conv => lhs; whnf); done)))
 | (apply s_gT; exact rfl)
 | (apply c_nil)
 | (apply s_pickT; exact rfl; (focus ((conv => lhs; whnf); done)))
 | ((first | apply s_lss | apply s_leq | apply s_gtr | apply s_geq | apply s_eql | apply s_neq); exact rfl; all_goals (intro _; try (exfalso; omega)))
 | ((first | apply s_add | apply s_sub); exact rfl; omega)
 | (apply s_pn; (focus (repeat (first | apply opds_nil | (apply opds_cons; (first | (focus ((conv => lhs; whnf); done)) | exact rfl))))); exact p_ixO hjn)
 | (apply s_pn; (focus (repeat (first | apply opds_nil | (apply opds_cons; (first | (focus ((conv => lhs; whnf); done)) | exact rfl))))); exact p_ixO hv)
 | (apply s_pn; (focus (repeat (first | apply opds_nil | (apply opds_cons; (first | (focus ((conv => lhs; whnf); done)) | exact rfl))))); exact ldk _ rfl)
 | (apply s_pn; (focus (repeat (first | apply opds_nil | (apply opds_cons; (first | (focus ((conv => lhs; whnf); done)) | exact rfl))))); exact ldv _ rfl)
 | (apply s_st; (focus (repeat (first | apply opds_nil | (apply opds_cons; (first | (focus ((conv => lhs; whnf); done)) | exact rfl))))); exact stk _ _ _ rfl)
 | (apply s_en; (focus (repeat (first | apply opds_nil | (apply opds_cons; (first | (focus ((conv => lhs; whnf); done)) | exact rfl))))); exact e_bld1 rfl rfl rfl rfl)
 | (apply s_en; (focus (repeat (first | apply opds_nil | (apply opds_cons; (first | (focus ((conv => lhs; whnf); done)) | exact rfl))))); exact apq _ _ rfl)
 | (apply s_lenLL; (focus ((conv => lhs; whnf); done)); assumption)
 | (apply s_idx; (focus ((conv => lhs; whnf); done)); exact rfl; (first | assumption | (apply IsLL.at; assumption; omega)); omega)
 | (apply s_idxLL; (focus ((conv => lhs; whnf); done)); exact rfl; assumption; omega)
 | (apply s_ldI; exact rfl; omega)
 | (apply s_ldLL; exact rfl; assumption; omega)
 | (apply c_seq)
 | (apply c_reg)
 | (apply c_block)
 | (apply c_skip)
 | (apply c_condT; exact rfl)
 | (with_reducible apply k_c)
          all_goals first | (exfalso; omega) | skip
          have eq1 : nI (dn ++ [v] ++ q1) ++ [(j : Int)] = nI (dn ++ [v] ++ (q1 ++ [j])) := by simp [nI]
          rw [eq1]
          have eq2 : (dn ++ [v] ++ q1).length + 1 = (dn ++ [v] ++ (q1 ++ [j])).length := by simp; omega
          rw [eq2]
          exact hK31 _ _ (by omega) (by omega) (gcI2 _ dn.length (j + 1) _ _)
        · simp only [if_neg hc] at hK31
          repeat' first
 | (apply s_mov; (focus ((conv => lhs; whnf); done)))
 | (apply s_gT; exact rfl)
 | (apply s_gF; exact rfl)
 | (apply c_nil)
 | (apply s_pickT; exact rfl; (focus ((conv => lhs; whnf); done)))
 | (apply s_pickF; exact rfl; (focus ((conv => lhs; whnf); done)))
 | ((first | apply s_lss | apply s_leq | apply s_gtr | apply s_geq | apply s_eql | apply s_neq); exact rfl; all_goals (intro _; try (exfalso; omega)))
 | ((first | apply s_add | apply s_sub); exact rfl; omega)
 | (apply s_pn; (focus (repeat (first | apply opds_nil | (apply opds_cons; (first | (focus ((conv => lhs; whnf); done)) | exact rfl))))); exact p_ixO hjn)
 | (apply s_pn; (focus (repeat (first | apply opds_nil | (apply opds_cons; (first | (focus ((conv => lhs; whnf); done)) | exact rfl))))); exact ldk _ rfl)
 | (apply s_lenLL; (focus ((conv => lhs; whnf); done)); assumption)
 | (apply s_idx; (focus ((conv => lhs; whnf); done)); exact rfl; (first | assumption | (apply IsLL.at; assumption; omega)); omega)
 | (apply s_idxLL; (focus ((conv => lhs; whnf); done)); exact rfl; assumption; omega)
 | (apply s_ldI; exact rfl; omega)
 | (apply s_ldLL; exact rfl; assumption; omega)
 | (apply c_seq)
 | (apply c_reg)
 | (apply c_block)
 | (apply c_skip)
 | (apply c_condT; exact rfl)
 | (apply c_condF; exact rfl)
 | (with_reducible apply k_c)
          all_goals first | exact hK31 _ _ (by omega) (by omega) (gcI _ dn.length (j + 1) _ _) | (exfalso; omega) | skip
      · obtain rfl : j = b.length := by omega
        repeat' first
 | (apply s_mov; (focus ((conv => lhs; whnf); done)))
 | (apply c_nil)
 | ((first | apply s_lss | apply s_leq | apply s_gtr | apply s_geq | apply s_eql | apply s_neq); exact rfl; all_goals (intro _; try (exfalso; omega)))
 | (apply s_lenLL; (focus ((conv => lhs; whnf); done)); assumption)
 | (apply c_seq)
 | (apply c_reg)
 | (apply c_exitH)
 | (apply c_condF; exact rfl)
 | (with_reducible apply k_c)
        apply c_pre (vs := [x, .sl 0 1 0 b.length, .sl 1 1 0 (dn ++ [v] ++ (bIn b v b.length (d, q)).2).length, .int .i64 (dn.length : Int)]) (H' := [some (.data (iL (bIn b v b.length (d, q)).1)), some (.data (iL (nI (dn ++ [v] ++ (bIn b v b.length (d, q)).2))))])
        · exact gcQ _ dn.length _ _
        repeat' first
 | (apply s_mov; (focus ((conv => lhs; whnf); done)))
 | (apply c_nil)
 | ((first | apply s_add | apply s_sub); exact rfl; omega)
 | (apply c_reg)
        refine hK2 ((bIn b v b.length (d, q)).1, dn ++ [v], (bIn b v b.length (d, q)).2) _ _ ⟨hpop, f, by dsimp only; omega, hfR⟩ (by dsimp only; exact hdec) ?_
        have e9 : ((dn ++ [v]).length : Int) = (dn.length : Int) + 1 := by simp
        dsimp only
        rw [e9]
        simp [go_sem, fx]
theorem c106 {x : AV} {b : List (List Int)} (hx : IsLL x b) (hb : Bd b) {q0 : Nat} (hq : q0 < b.length) {m : Nat} (hm : 200 ≤ m) (H : Heap) : callPure (evF tab it m) true 106 [x, .int .i64 (q0 : Int)] H = some (.rd 1 b.length (iL (dist b q0).1), H) :=
  callPure_frz (by simp [idFreeL, AV.idFree, hx.free]) (by simp) (f106 hx hb hq hm) (frz_sl rfl (dist_len b q0))
end Go.AM.Ch

set_option linter.unusedSectionVars false
set_option linter.unusedVariables false
set_option linter.unusedSimpArgs false
namespace Go.AM.Ch
attribute [local go_sem] gc subHeap reach_skip ren_free reach_new reach_newp reach_end rangeL roots boxCells nodupB posOf renL AV.ren pickO renH renO looks look bindEnv envOf reach_int reach_bool reach_nilS reach_rd putRow cells_sl cells_int cells_bool cells_nilS cells_rd cells_agg reach_agg reach_tup idFreeL idf_sl idf_ptr idf_int idf_bool idf_nilS idf_rd reach_fn reach_mp cells_fn cells_ptr cells_mp idf_mp idf_fn idf_agg idf_tup
set_option maxHeartbeats 8000000
theorem own_noRd (l : List Int) : (ownV 0 (iL l)).hasRd = false := by cases l <;> rfl
theorem owH_noRd (l : List Int) : ((owH (iL l)).all fun o => !HO.hasRd o) = true := by
  rcases l with _ | ⟨a, r⟩
  · rfl
  · have := iL_noRd (a :: r)
    simp only [iL, List.map_cons] at this
    simp [owH, iL, HO.hasRd, this]
theorem c26p {args : List AV} {x y z : AV} {b : List (List Int)} {s t : List Int} (hx : IsLL x b) (hy : IsL y s) (hz : IsL z t) (hb : Bd b) (hsy : Sym b) (hn : 1 ≤ b.length) (hsn : s.length = b.length) (htn : t.length = b.length)
    (ht : ∀ v : Nat, v < b.length → -4503599627370496 ≤ getI t (v : Int) ∧ getI t (v : Int) ≤ 4503599627370496) (hs : ∀ v : Nat, v < b.length → -288230376151711744 ≤ getI s (v : Int) ∧ getI s (v : Int) ≤ 288230376151711744)
    {m : Nat} (hm : 1100 ≤ m) (H : Heap) (ha : frzL H 40 args = some [x, y, z]) : callPure (evF tab it m) true 26 args H = some (fzL (apl b s t), H) :=
  callPure_own ha (f26 hx hy hz hb hsy hn hsn htn ht hs hm) (own_noRd _) (owH_noRd _) (frz_own _)
/-- a set of places as a script -/
def bitL (n S : Nat) : List Int := (List.range n).map fun (i : Nat) => ((S / 2 ^ i % 2 : Nat) : Int)
theorem bitL_len (n S : Nat) : (bitL n S).length = n := by simp [bitL]
theorem bitL_get {n S i : Nat} (h : i < n) : getI (bitL n S) (i : Int) = ((S / 2 ^ i % 2 : Nat) : Int) := by
  rw [getI_nat]
  simp [bitL, List.getD, h]
/-- a set of places fires once -/
theorem f78 {x y : AV} {b : List (List Int)} {l : List Int} {S : Nat} (hx : IsLL x b) (hy : IsL y l) (hB : IsB b) (hln : l.length = b.length) (hl : ∀ v : Nat, v < b.length → -288230376151711744 ≤ getI l (v : Int) ∧ getI l (v : Int) ≤ 288230376151711744)
    {m : Nat} (hm : 1200 ≤ m) : evF tab it m 78 [x, y, .int .i64 (S : Int)] [] = some (fzL (apl b l (bitL b.length S)), []) := by
  obtain ⟨m, rfl⟩ : ∃ j, m = j + 1 := ⟨m - 1, by omega⟩
  have fx := hx.free; have fy := hy.free
  have hn1 := hB.n1; have hn2 := hB.n2
  have lx : ∀ H, evP H .len [x] = some (.int .i64 ((b.length : Nat) : Int)) := fun H => by cases hx <;> rfl
  have mk := fun call H => @e_mkI call H b.length (by unfold most; omega)
  have hbl := bitL_len b.length S
  have hbg := fun (i : Nat) (h : i < b.length) => bitL_get (S := S) h
  have e26 := c26p hx hy (rd_isL hbl) hB.bd hB.sym hn1 hln hbl (fun v hv => by rw [hbg v hv]; omega) hl (m := m) (by omega) [some (.data (iL (bitL b.length S)))] (args := [x, y, .sl 0 1 0 b.length]) (frzL_cons (frzV_of fx) (frzL_cons (frzV_of fy) (frzL_cons (frz_sl rfl hbl) frzL_nil)))
  refine f_enter rfl rfl ?_
  generalize evF tab it m = call at *
  repeat' first
 | (apply s_mov; (focus ((conv => lhs; whnf); done)))
 | (apply c_nil)
 | (apply s_pn; (focus (repeat (first | apply opds_nil | (apply opds_cons; (first | (focus ((conv => lhs; whnf); done)) | exact rfl))))); exact lx _)
 | (apply s_en; (focus (repeat (first | apply opds_nil | (apply opds_cons; (first | (focus ((conv => lhs; whnf); done)) | exact rfl))))); exact mk _ _)
 | (apply c_seq)
 | (apply c_reg)
 | (apply c_block)
 | (with_reducible apply k_c)
  have gcO : ∀ (k : Nat) (C : List AV), gc 0 [x, y, .int .i64 (S : Int), .sl 0 1 0 b.length, .int .i64 (k : Int)] [some (.data C)] = some ([x, y, .int .i64 (S : Int), .sl 0 1 0 b.length, .int .i64 (k : Int)], [some (.data C)]) := fun k C => by simp [go_sem, fx, fy]
  refine c_loop ?_
  refine loop_gc (σ := Nat × List Int) (fun p => [x, y, .int .i64 (S : Int), .sl 0 1 0 b.length, .int .i64 (p.1 : Int)]) (fun p => [some (.data (iL p.2))]) (fun p => p.1 ≤ b.length ∧ p.2.length = b.length ∧ ∀ i : Nat, i < p.1 → getI p.2 (i : Int) = ((S / 2 ^ i % 2 : Nat) : Int)) (fun p => b.length - p.1) ?_ _ (0, List.replicate b.length 0) _ _ ⟨by omega, by simp, fun i hi => by omega⟩ (by show b.length - 0 < _; omega) (gcO 0 _)
  intro ⟨k, o⟩ ⟨hk, hol, ho⟩ K hK
  dsimp only at hk hol ho hK ⊢
  by_cases hkn : k < b.length
  · have shr := fun H => p_shr (H := H) (a := S) (b := k) (by omega)
    have st := fun (vv : Int) call H h => e_stO (call := call) (H := H) (id := 0) (l := o) (i := k) (v := vv) h (by omega)
    generalize hD : S / 2 ^ k = D at *
    have hrem : ∀ H, evP H (.bin .rem) [.int .i64 (D : Int), .int .i64 2] = some (.int .i64 ((D % 2 : Nat) : Int)) := fun H => rfl
    repeat' first
 | (apply s_mov; (focus ((conv => lhs; whnf); done)))
 | (apply c_nil)
 | ((first | apply s_lss | apply s_leq | apply s_gtr | apply s_geq | apply s_eql | apply s_neq); exact rfl; all_goals (intro _; try (exfalso; omega)))
 | ((first | apply s_add | apply s_sub); exact rfl; omega)
 | (apply s_pn; (focus (repeat (first | apply opds_nil | (apply opds_cons; (first | (focus ((conv => lhs; whnf); done)) | exact rfl))))); exact lx _)
 | (apply s_pn; (focus (repeat (first | apply opds_nil | (apply opds_cons; (first | (focus ((conv => lhs; whnf); done)) | exact rfl))))); exact shr _)
 | (apply s_pn; (focus (repeat (first | apply opds_nil | (apply opds_cons; (first | (focus ((conv => lhs; whnf); done)) | exact rfl))))); exact hrem _)
 | (apply s_pn; (focus (repeat (first | apply opds_nil | (apply opds_cons; (first | (focus ((conv => lhs; whnf); done)) | exact rfl))))); exact p_ixO hkn)
 | (apply s_st; (focus (repeat (first | apply opds_nil | (apply opds_cons; (first | (focus ((conv => lhs; whnf); done)) | exact rfl))))); exact st _ _ _ rfl)
 | (apply c_seq)
 | (apply c_reg)
 | (apply c_block)
 | (apply c_skip)
 | (apply c_condT; exact rfl)
 | (with_reducible apply k_c)
    all_goals first
      | (exfalso; omega)
      | skip
    refine hK (k + 1, _) _ _ ⟨by omega, by simpa using hol, fun i hi => ?_⟩ (by show b.length - (k + 1) < _; omega) (gcO (k + 1) _)
    dsimp only
    rw [getI_set (by omega)]
    by_cases e : i = k
    · subst e; rw [if_pos rfl, hD]
    · rw [if_neg e]; exact ho i (by omega)
  · obtain rfl : k = b.length := by omega
    obtain rfl : o = bitL b.length S := ext_getI (by rw [hbl, hol]) fun i hi => by rw [hbg i (by omega)]; exact ho i (by omega)
    have fz := (isL_fz (apl b l (bitL b.length S))).free
    generalize fzL (apl b l (bitL b.length S)) = vz at *
    repeat' first
 | (apply s_mov; (focus ((conv => lhs; whnf); done)))
 | (apply c_nil)
 | ((first | apply s_lss | apply s_leq | apply s_gtr | apply s_geq | apply s_eql | apply s_neq); exact rfl; all_goals (intro _; try (exfalso; omega)))
 | (apply s_pn; (focus (repeat (first | apply opds_nil | (apply opds_cons; (first | (focus ((conv => lhs; whnf); done)) | exact rfl))))); exact lx _)
 | (apply c_seq)
 | (apply c_reg)
 | (apply c_exitH)
 | (apply c_condF; exact rfl)
 | (with_reducible apply k_c)
    apply c_pre (vs := [x, y, .sl 0 1 0 b.length]) (H' := [some (.data (iL (bitL b.length S)))])
    · simp [go_sem, fx, fy]
    repeat' first
 | (apply s_mov; (focus ((conv => lhs; whnf); done)))
 | (apply c_nil)
 | (apply s_cn; (focus (repeat (first | apply opds_nil | (apply opds_cons; (first | (focus ((conv => lhs; whnf); done)) | exact rfl))))); exact e26)
 | (apply c_seq)
 | (apply c_reg)
 | (apply c_ret)
 | (with_reducible apply k_c)
    exact fin_t (by (conv => lhs; whnf)) (by first | assumption | rfl) rfl
theorem c78 {x y : AV} {b : List (List Int)} {l : List Int} {S : Nat} (hx : IsLL x b) (hy : IsL y l) (hB : IsB b) (hln : l.length = b.length) (hl : ∀ v : Nat, v < b.length → -288230376151711744 ≤ getI l (v : Int) ∧ getI l (v : Int) ≤ 288230376151711744)
    {m : Nat} (hm : 1200 ≤ m) (H : Heap) : callPure (evF tab it m) true 78 [x, y, .int .i64 (S : Int)] H = some (fzL (apl b l (bitL b.length S)), H) :=
  callPure_free (by simp [idFreeL, AV.idFree, hx.free, hy.free]) (by simp) (f78 hx hy hB hln hl hm) (isL_fz _).free
end Go.AM.Ch
