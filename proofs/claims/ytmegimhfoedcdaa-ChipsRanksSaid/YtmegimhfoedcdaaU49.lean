/- A part of the proof: U40 U41 U33b U63 U29 U30 U52 U49. -/
import Derived.Test.YtmegimhfoedcdaaU39
import Derived.Test.YtmegimhfoedcdaaU34
import Derived.Test.YtmegimhfoedcdaaU36
import Derived.Test.YtmegimhfoedcdaaM3
set_option linter.unusedSectionVars false
set_option linter.unusedVariables false
set_option linter.unusedSimpArgs false
namespace Go.AM.Ch
attribute [local go_sem] gc subHeap reach_skip ren_free reach_new reach_newp reach_end rangeL roots boxCells nodupB posOf renL AV.ren pickO renH renO looks look bindEnv envOf reach_int reach_bool reach_nilS reach_rd putRow cells_sl cells_int cells_bool cells_nilS cells_rd cells_agg reach_agg reach_tup idFreeL idf_sl idf_ptr idf_int idf_bool idf_nilS idf_rd reach_fn reach_mp cells_fn cells_ptr cells_mp idf_mp idf_fn idf_agg idf_tup
set_option maxHeartbeats 8000000
theorem p_mul2 {H : Heap} {a : Int} (h : -4611686018427387904 ≤ a ∧ a < 4611686018427387904) : evP H (.bin .mul) [.int .i64 2, .int .i64 a] = some (.int .i64 (2 * a)) := p_mul (by omega)
/-- reduce, given that it does what it should on the half -/
theorem f54_core {b : List (List Int)} (hB : IsB b) {q : Nat} (hq : q < b.length) {x y : AV} {l : List Int} (hx : IsLL x b) (hy : IsL y l) (hln : l.length = b.length) (hb : ∀ v : Nat, v < b.length → -1099511627776 ≤ getI l (v : Int) ∧ getI l (v : Int) ≤ 1099511627776)
    {m : Nat} (hm : smK ≤ m) (hrec : ¬ (∀ v : Nat, v < b.length → (getI l (v : Int)).tdiv 2 = 0) → ∀ (args : List AV) (H : Heap), frzL H 40 args = some [x, .rd 1 b.length (iL (halfL l)), .int .i64 (q : Int)] → callPure (evF tab it m) true 54 args H = some (.rd 1 b.length (iL (redT b (halfL l) q)), H)) :
    evF tab it (m + 1) 54 [x, y, .int .i64 (q : Int)] [] = some (.sl 0 1 0 b.length, [some (.data (iL (redT b l q)))]) := by
  have fx := hx.free; have fy := hy.free
  have hn1 := hB.n1; have hn2 := hB.n2
  have hbd := hB.bd
  have hm2 : 2300 ≤ m := by have := smK_big; omega
  have ly : ∀ H, evP H .len [y] = some (.int .i64 ((b.length : Nat) : Int)) := fun H => by rw [← hln]; exact p_lenI hy
  have mk := fun call H => @e_mkI call H b.length (by unfold most; omega)
  have hhl := halfL_len l
  rw [hln] at hhl
  have hhg := fun (v : Nat) (hv : v < b.length) => halfL_get (l := l) (v := v) (by omega)
  obtain ⟨hs1, hs2, hs3⟩ := redT_ok hB (halfL l) hq
  have hsb := redT_le hB (l := halfL l) hq (M := 1099511627776) (by decide) fun v hv _ => by
    rw [hhg v hv]
    have := hb v hv
    have := tdiv2 (getI l (v : Int))
    omega
  have is := rd_isL hs1
  have hnear := fun (Z : List Int) (h1 : Z.length = b.length) (h2 : ∀ v : Nat, v < b.length → getI Z (v : Int) = 2 * getI (redT b (halfL l) q) (v : Int)) => near_half hB (l := l) (s := redT b (halfL l) q) (Z := Z) hq hln hb rfl h1 h2
  have hnear0 : (∀ v : Nat, v < b.length → (getI l (v : Int)).tdiv 2 = 0) → Near b.length q (apl b l (List.replicate b.length 0)) := fun h0 => by
    rw [apl_zero hB hln]
    refine ⟨hln, fun v hv _ => ?_, ?_⟩
    · have := h0 v hv
      have := tdiv2 (getI l (v : Int))
      omega
    · have := hb q hq
      omega
  have hfin := fun (Z : List Int) (h1 : Z.length = b.length) (h2 : getI Z (q : Int) = 0) => redT_pl hB (l := l) (Z := Z) hq h1 h2
  refine f_enter rfl rfl ?_
  have e55 := fun (Z : List Int) (hZ : Z.length = b.length) h1 (H : Heap) (ha : frzL H 40 [x, y, .sl 0 1 0 b.length] = some [x, y, .rd 1 b.length (iL Z)]) => c55p hx hy (rd_isL hZ) hbd hln hZ h1 (fun v hv => by have := hb v hv; omega) (m := m) (by omega) H ha
  have e81 := fun (Z : List Int) (hN : Near b.length q (apl b l Z)) (H : Heap) => c81 hx (rd_isL (apl_len b l Z)) hB hq hN hm H
  have e77 := fun (Z u : List Int) (hZ : Z.length = b.length) (hu : u.length = b.length) h1 h2 (H : Heap) (ha : frzL H 40 [.sl 0 1 0 b.length, .rd 1 b.length (iL u)] = some [.rd 1 b.length (iL Z), .rd 1 b.length (iL u)]) => c77o (rd_isL hZ) (rd_isL hu) (by omega) (by omega) (by omega) h1 h2 (m := m) (by omega) H ha
  clear hm
  generalize hcall : evF tab it m = call at *
  generalize hR : redT b l q = R at *
  generalize hS : redT b (halfL l) q = S at *
  have gcH : ∀ (z : Bool) (v : Nat) (C : List AV), gc 0 [x, y, .int .i64 (q : Int), .sl 0 1 0 b.length, .bool z, y, .int .i64 ((b.length : Nat) : Int), .int .i64 (v : Int)] [some (.data C)] = some ([x, y, .int .i64 (q : Int), .sl 0 1 0 b.length, .bool z, y, .int .i64 ((b.length : Nat) : Int), .int .i64 (v : Int)], [some (.data C)]) := fun z v C => by simp [go_sem, fx, fy]
  have gcZ : ∀ (v : Nat) (C D : List AV), gc 0 [x, y, .int .i64 (q : Int), .sl 1 1 0 b.length, .rd 1 b.length (iL S), .int .i64 ((b.length : Nat) : Int), .int .i64 (v : Int)] [some (.data C), some (.data D)] = some ([x, y, .int .i64 (q : Int), .sl 0 1 0 b.length, .rd 1 b.length (iL S), .int .i64 ((b.length : Nat) : Int), .int .i64 (v : Int)], [some (.data D)]) := fun v C D => by simp [go_sem, fx, fy]
  have gcY : ∀ (v : Nat) (D : List AV), gc 0 [x, y, .int .i64 (q : Int), .sl 0 1 0 b.length, .rd 1 b.length (iL S), .int .i64 ((b.length : Nat) : Int), .int .i64 (v : Int)] [some (.data D)] = some ([x, y, .int .i64 (q : Int), .sl 0 1 0 b.length, .rd 1 b.length (iL S), .int .i64 ((b.length : Nat) : Int), .int .i64 (v : Int)], [some (.data D)]) := fun v D => by simp [go_sem, fx, fy]
  -- the end, whatever the script
  have hend : ∀ (Z : List Int) (K : KT) (X : Nat → KT) (Rt : KT), Z.length = b.length → (∀ v : Nat, v < b.length → -1000000000000000 ≤ getI Z (v : Int) ∧ getI Z (v : Int) ≤ 1000000000000000) → getI Z (q : Int) = 0 → Near b.length q (apl b l Z) → Rt = finish 0 [.t 6] →
      RC call it m (.seq (.reg [⟨.inl .mov, [.t 11], some 57, none, []⟩, ⟨.inl .mov, [.t 0], some 58, none, []⟩, ⟨.inl .mov, [.t 0], some 59, none, []⟩, ⟨.inl .mov, [.t 1], some 60, none, []⟩, ⟨.inl .mov, [.t 11], some 61, none, []⟩, ⟨.inr (.call true true 55), [.t 59, .t 60, .t 61], some 62, none, []⟩, ⟨.inl .mov, [.t 2], some 63, none, []⟩, ⟨.inr (.call true true 81), [.t 58, .t 62, .t 63], some 64, none, []⟩, ⟨.inr (.call true false 77), [.t 57, .t 64], some 65, none, []⟩, ⟨.inl .mov, [.t 65], some 6, none, []⟩] none) .ret) 0 K X Rt (bindEnv [0, 1, 2, 11] 0 [x, y, .int .i64 (q : Int), .sl 0 1 0 b.length]) [some (.data (iL Z))] (some (.sl 0 1 0 b.length, [some (.data (iL R))])) := by
    intro Z K X Rt hZl hZb hZq hN hRt
    subst hRt
    obtain ⟨hu1, hu2, hu3⟩ := redT_ok hB (apl b l Z) hq
    have hub := redT_le hB (l := apl b l Z) hq (M := 100) (by omega) hN.oth
    have e55' := e55 Z hZl (fun v hv => by have := hZb v hv; omega) [some (.data (iL Z))] (frzL_cons (frzV_of fx) (frzL_cons (frzV_of fy) (frzL_cons (frz_sl rfl hZl) frzL_nil)))
    have e81' := e81 Z hN
    have e77' := e77 Z (redT b (apl b l Z) q) hZl hu1 (fun v hv => by have := hZb v (by omega); omega) (fun v hv => by have := hub v (by omega); omega) [some (.data (iL Z))] (frzL_cons (frz_sl rfl hZl) (frzL_cons rfl frzL_nil))
    rw [hZl, hfin Z hZl hZq] at e77'
    repeat' first
 | (apply s_mov; (focus ((conv => lhs; whnf); done)))
 | (apply c_nil)
 | (apply s_cn; (focus (repeat (first | apply opds_nil | (apply opds_cons; (first | (focus ((conv => lhs; whnf); done)) | exact rfl))))); exact e55')
 | (apply s_cn; (focus (repeat (first | apply opds_nil | (apply opds_cons; (first | (focus ((conv => lhs; whnf); done)) | exact rfl))))); exact e81' _)
 | (apply s_en; (focus (repeat (first | apply opds_nil | (apply opds_cons; (first | (focus ((conv => lhs; whnf); done)) | exact rfl))))); exact e77')
 | (apply c_seq)
 | (apply c_reg)
 | (apply c_ret)
 | (with_reducible apply k_c)
    simp [finish, ress, resOf, look, tupOf, go_sem]
  skip
  repeat' first
 | (apply s_mov; (focus ((conv => lhs; whnf); done)))
 | (apply c_nil)
 | (apply s_pn; (focus (repeat (first | apply opds_nil | (apply opds_cons; (first | (focus ((conv => lhs; whnf); done)) | exact rfl))))); exact ly _)
 | (apply s_en; (focus (repeat (first | apply opds_nil | (apply opds_cons; (first | (focus ((conv => lhs; whnf); done)) | exact rfl))))); exact mk _ _)
 | (apply c_seq)
 | (apply c_reg)
 | (apply c_block)
 | (with_reducible apply k_c)
  refine c_loop ?_
  refine loop_gc (σ := Nat × List Int × Bool) (fun p => [x, y, .int .i64 (q : Int), .sl 0 1 0 b.length, .bool p.2.2, y, .int .i64 ((b.length : Nat) : Int), .int .i64 (p.1 : Int)]) (fun p => [some (.data (iL p.2.1))]) (fun p => p.1 ≤ b.length ∧ p.2.1.length = b.length ∧ (∀ i : Nat, i < p.1 → getI p.2.1 (i : Int) = (getI l (i : Int)).tdiv 2) ∧ (p.2.2 = true ↔ ∀ i : Nat, i < p.1 → (getI l (i : Int)).tdiv 2 = 0)) (fun p => b.length - p.1) ?_ _ (0, List.replicate b.length 0, true) _ _ ⟨by omega, by simp, fun i hi => by omega, by simp⟩ (by show b.length - 0 < _; omega) (gcH true 0 _)
  intro ⟨v, h, z⟩ ⟨hv, hhl', hh, hz⟩ K hK
  dsimp only at hv hhl' hh hz hK ⊢
  by_cases hvn : v < b.length
  · have h1 := hb v hvn
    have h2 := tdiv2 (getI l (v : Int))
    have st := fun (vv : Int) call H h' => e_stO (call := call) (H := H) (id := 0) (l := h) (i := v) (v := vv) h' (by omega)
    have quo := fun H => p_quo2 (H := H) (a := getI l (v : Int)) (by omega)
    have hnext : ∀ i : Nat, i < v + 1 → getI (h.set v ((getI l (v : Int)).tdiv 2)) (i : Int) = (getI l (i : Int)).tdiv 2 := fun i hi => by
      rw [getI_set (by omega)]
      by_cases e : i = v
      · subst e; rw [if_pos rfl]
      · rw [if_neg e]; exact hh i (by omega)
    have hzn : (∀ i : Nat, i < v + 1 → (getI l (i : Int)).tdiv 2 = 0) ↔ (∀ i : Nat, i < v → (getI l (i : Int)).tdiv 2 = 0) ∧ (getI l (v : Int)).tdiv 2 = 0 := ⟨fun h => ⟨fun i hi => h i (by omega), h v (by omega)⟩, fun ⟨h1, h2⟩ i hi => by
      rcases (by omega : i < v ∨ i = v) with h | rfl
      · exact h1 i h
      · exact h2⟩
    cases z with
    | true =>
      have hz0 := hz.1 rfl
      repeat' first
 | (apply s_mov; (focus ((conv => lhs; whnf); done)))
 | (apply s_gT; exact rfl)
 | (apply c_nil)
 | (apply s_pickT; exact rfl; (focus ((conv => lhs; whnf); done)))
 | ((first | apply s_lss | apply s_leq | apply s_gtr | apply s_geq | apply s_eql | apply s_neq); exact rfl; all_goals (intro _; try (exfalso; omega)))
 | ((first | apply s_add | apply s_sub); exact rfl; omega)
 | (apply s_pn; (focus (repeat (first | apply opds_nil | (apply opds_cons; (first | (focus ((conv => lhs; whnf); done)) | exact rfl))))); exact quo _)
 | (apply s_pn; (focus (repeat (first | apply opds_nil | (apply opds_cons; (first | (focus ((conv => lhs; whnf); done)) | exact rfl))))); exact p_ixO hvn)
 | (apply s_st; (focus (repeat (first | apply opds_nil | (apply opds_cons; (first | (focus ((conv => lhs; whnf); done)) | exact rfl))))); exact st _ _ _ rfl)
 | (apply s_idx; (focus ((conv => lhs; whnf); done)); exact rfl; (first | assumption | (apply IsLL.at; assumption; omega)); omega)
 | (apply s_ldI; exact rfl; omega)
 | (apply c_seq)
 | (apply c_reg)
 | (apply c_block)
 | (apply c_skip)
 | (apply c_condT; exact rfl)
 | (with_reducible apply k_c)
      · refine hK (v + 1, _, true) _ _ ⟨by omega, by simpa using hhl', hnext, ?_⟩ (by show b.length - (v + 1) < _; omega) (gcH _ (v + 1) _)
        exact ⟨fun _ => hzn.2 ⟨hz0, by omega⟩, fun _ => rfl⟩
      · refine hK (v + 1, _, false) _ _ ⟨by omega, by simpa using hhl', hnext, ?_⟩ (by show b.length - (v + 1) < _; omega) (gcH _ (v + 1) _)
        exact ⟨fun e => (by cases e), fun h => absurd (hzn.1 h).2 (by omega)⟩
    | false =>
      repeat' first
 | (apply s_mov; (focus ((conv => lhs; whnf); done)))
 | (apply s_gF; exact rfl)
 | (apply c_nil)
 | (apply s_pickF; exact rfl; (focus ((conv => lhs; whnf); done)))
 | ((first | apply s_lss | apply s_leq | apply s_gtr | apply s_geq | apply s_eql | apply s_neq); exact rfl; all_goals (intro _; try (exfalso; omega)))
 | ((first | apply s_add | apply s_sub); exact rfl; omega)
 | (apply s_pn; (focus (repeat (first | apply opds_nil | (apply opds_cons; (first | (focus ((conv => lhs; whnf); done)) | exact rfl))))); exact quo _)
 | (apply s_pn; (focus (repeat (first | apply opds_nil | (apply opds_cons; (first | (focus ((conv => lhs; whnf); done)) | exact rfl))))); exact p_ixO hvn)
 | (apply s_st; (focus (repeat (first | apply opds_nil | (apply opds_cons; (first | (focus ((conv => lhs; whnf); done)) | exact rfl))))); exact st _ _ _ rfl)
 | (apply s_idx; (focus ((conv => lhs; whnf); done)); exact rfl; (first | assumption | (apply IsLL.at; assumption; omega)); omega)
 | (apply s_ldI; exact rfl; omega)
 | (apply c_seq)
 | (apply c_reg)
 | (apply c_block)
 | (apply c_skip)
 | (apply c_condT; exact rfl)
 | (with_reducible apply k_c)
      refine hK (v + 1, _, false) _ _ ⟨by omega, by simpa using hhl', hnext, ?_⟩ (by show b.length - (v + 1) < _; omega) (gcH _ (v + 1) _)
      exact ⟨fun e => (by cases e), fun h => hz.2 (hzn.1 h).1⟩
  · obtain rfl : v = b.length := by omega
    obtain rfl : h = halfL l := ext_getI (by omega) fun i hi => by rw [hh i (by omega), hhg i (by omega)]
    cases z with
    | true =>
      have hz0 := hz.1 rfl
      repeat' first
 | (apply c_nil)
 | ((first | apply s_lss | apply s_leq | apply s_gtr | apply s_geq | apply s_eql | apply s_neq); exact rfl; all_goals (intro _; try (exfalso; omega)))
 | (apply c_seq)
 | (apply c_reg)
 | (apply c_exitH)
 | (apply c_condF; exact rfl)
 | (with_reducible apply k_c)
      apply c_pre (vs := [x, y, .int .i64 (q : Int), .sl 0 1 0 b.length, .bool true]) (H' := [some (.data (iL (halfL l)))])
      · simp [go_sem, fx, fy]
      repeat' first
 | (apply s_mov; (focus ((conv => lhs; whnf); done)))
 | (apply c_nil)
 | (apply s_notT; exact rfl)
 | (apply s_pn; (focus (repeat (first | apply opds_nil | (apply opds_cons; (first | (focus ((conv => lhs; whnf); done)) | exact rfl))))); exact ly _)
 | (apply s_en; (focus (repeat (first | apply opds_nil | (apply opds_cons; (first | (focus ((conv => lhs; whnf); done)) | exact rfl))))); exact mk _ _)
 | (apply c_seq)
 | (apply c_reg)
 | (apply c_skip)
 | (apply c_condF; exact rfl)
 | (with_reducible apply k_c)
      apply c_pre (vs := [x, y, .int .i64 (q : Int), .sl 0 1 0 b.length]) (H' := [some (.data (iL (List.replicate b.length 0)))])
      · simp [go_sem, fx, fy]
      refine hend _ _ _ _ (by simp) (fun v hv => ?_) ?_ (hnear0 hz0) rfl
      · rw [getI_nat]; simp [List.getD, hv]
      · rw [getI_nat]; simp [List.getD, hq]
    | false =>
      have hz0 : ¬ (∀ v : Nat, v < b.length → (getI l (v : Int)).tdiv 2 = 0) := fun h => by have := hz.2 h; cases this
      have hrec' := hrec hz0 [x, .sl 0 1 0 b.length, .int .i64 (q : Int)] [some (.data (iL (halfL l))), some (.data (iL (List.replicate b.length 0)))] (frzL_cons (frzV_of fx) (frzL_cons (frz_sl rfl hhl) (frzL_cons rfl frzL_nil)))
      have lS : ∀ H, evP H .len [AV.rd 1 b.length (iL S)] = some (.int .i64 ((b.length : Nat) : Int)) := fun H => rfl
      repeat' first
 | (apply c_nil)
 | ((first | apply s_lss | apply s_leq | apply s_gtr | apply s_geq | apply s_eql | apply s_neq); exact rfl; all_goals (intro _; try (exfalso; omega)))
 | (apply c_seq)
 | (apply c_reg)
 | (apply c_exitH)
 | (apply c_condF; exact rfl)
 | (with_reducible apply k_c)
      apply c_pre (vs := [x, y, .int .i64 (q : Int), .sl 0 1 0 b.length, .bool false]) (H' := [some (.data (iL (halfL l)))])
      · simp [go_sem, fx, fy]
      repeat' first
 | (apply s_mov; (focus ((conv => lhs; whnf); done)))
 | (apply c_nil)
 | (apply s_notF; exact rfl)
 | (apply s_pn; (focus (repeat (first | apply opds_nil | (apply opds_cons; (first | (focus ((conv => lhs; whnf); done)) | exact rfl))))); exact ly _)
 | (apply s_en; (focus (repeat (first | apply opds_nil | (apply opds_cons; (first | (focus ((conv => lhs; whnf); done)) | exact rfl))))); exact mk _ _)
 | (apply s_cn; (focus (repeat (first | apply opds_nil | (apply opds_cons; (first | (focus ((conv => lhs; whnf); done)) | exact rfl))))); exact hrec')
 | (apply s_pn; (focus (repeat (first | apply opds_nil | (apply opds_cons; (first | (focus ((conv => lhs; whnf); done)) | exact rfl))))); exact lS _)
 | (apply c_seq)
 | (apply c_reg)
 | (apply c_block)
 | (apply c_condT; exact rfl)
 | (with_reducible apply k_c)
      refine c_loop ?_
      refine loop_gc (σ := Nat × List Int) (fun p => [x, y, .int .i64 (q : Int), .sl 0 1 0 b.length, .rd 1 b.length (iL S), .int .i64 ((b.length : Nat) : Int), .int .i64 (p.1 : Int)]) (fun p => [some (.data (iL p.2))]) (fun p => p.1 ≤ b.length ∧ p.2.length = b.length ∧ ∀ i : Nat, i < p.1 → getI p.2 (i : Int) = 2 * getI S (i : Int)) (fun p => b.length - p.1) ?_ _ (0, List.replicate b.length 0) _ _ ⟨by omega, by simp, fun i hi => by omega⟩ (by show b.length - 0 < _; omega) (gcZ 0 _ _)
      intro ⟨v, Z⟩ ⟨hv, hZl, hZ⟩ K2 hK2
      dsimp only at hv hZl hZ hK2 ⊢
      by_cases hvn : v < b.length
      · have h1 := hsb v hvn
        have st := fun (vv : Int) call H h' => e_stO (call := call) (H := H) (id := 0) (l := Z) (i := v) (v := vv) h' (by omega)
        have mu := fun H => p_mul2 (H := H) (a := getI S (v : Int)) (by omega)
        repeat' first
 | (apply s_mov; (focus ((conv => lhs; whnf); done)))
 | (apply c_nil)
 | ((first | apply s_lss | apply s_leq | apply s_gtr | apply s_geq | apply s_eql | apply s_neq); exact rfl; all_goals (intro _; try (exfalso; omega)))
 | ((first | apply s_add | apply s_sub); exact rfl; omega)
 | (apply s_pn; (focus (repeat (first | apply opds_nil | (apply opds_cons; (first | (focus ((conv => lhs; whnf); done)) | exact rfl))))); exact mu _)
 | (apply s_pn; (focus (repeat (first | apply opds_nil | (apply opds_cons; (first | (focus ((conv => lhs; whnf); done)) | exact rfl))))); exact p_ixO hvn)
 | (apply s_st; (focus (repeat (first | apply opds_nil | (apply opds_cons; (first | (focus ((conv => lhs; whnf); done)) | exact rfl))))); exact st _ _ _ rfl)
 | (apply s_idx; (focus ((conv => lhs; whnf); done)); exact rfl; (first | assumption | (apply IsLL.at; assumption; omega)); omega)
 | (apply s_ldI; exact rfl; omega)
 | (apply c_seq)
 | (apply c_reg)
 | (apply c_block)
 | (apply c_skip)
 | (apply c_condT; exact rfl)
 | (with_reducible apply k_c)
        refine hK2 (v + 1, _) _ _ ⟨by omega, by simpa using hZl, fun i hi => ?_⟩ (by show b.length - (v + 1) < _; omega) (gcY (v + 1) _)
        dsimp only
        rw [getI_set (by omega)]
        by_cases e : i = v
        · subst e; rw [if_pos rfl]
        · rw [if_neg e]; exact hZ i (by omega)
      · obtain rfl : v = b.length := by omega
        have hN := hnear Z hZl hZ
        repeat' first
 | (apply c_nil)
 | ((first | apply s_lss | apply s_leq | apply s_gtr | apply s_geq | apply s_eql | apply s_neq); exact rfl; all_goals (intro _; try (exfalso; omega)))
 | (apply c_seq)
 | (apply c_reg)
 | (apply c_exitH)
 | (apply c_condF; exact rfl)
 | (with_reducible apply k_c)
        apply c_pre (vs := [x, y, .int .i64 (q : Int), .sl 0 1 0 b.length]) (H' := [some (.data (iL Z))])
        · simp [go_sem, fx, fy]
        refine hend Z _ _ _ hZl (fun v hv => ?_) ?_ hN rfl
        · rw [hZ v hv]; have := hsb v hv; omega
        · rw [hZ q hq]; unfold gf at hs2; omega
theorem f54 {b : List (List Int)} (hB : IsB b) {q : Nat} (hq : q < b.length) : ∀ (k : Nat) {x y : AV} {l : List Int}, IsLL x b → IsL y l → l.length = b.length → (∀ v : Nat, v < b.length → -1099511627776 ≤ getI l (v : Int) ∧ getI l (v : Int) ≤ 1099511627776) → (∀ v : Nat, v < b.length → (getI l (v : Int)).natAbs < 2 ^ k) → ∀ {m : Nat}, smK + 1 + k ≤ m →
    evF tab it m 54 [x, y, .int .i64 (q : Int)] [] = some (.sl 0 1 0 b.length, [some (.data (iL (redT b l q)))])
  | 0, x, y, l, hx, hy, hln, hb, hk, m, hm => by
    obtain ⟨m, rfl⟩ : ∃ j, m = j + 1 := ⟨m - 1, by omega⟩
    refine f54_core hB hq hx hy hln hb (by omega) fun h => absurd (fun v hv => ?_) h
    have := hk v hv
    have := tdiv2 (getI l (v : Int))
    omega
  | k + 1, x, y, l, hx, hy, hln, hb, hk, m, hm => by
    obtain ⟨m, rfl⟩ : ∃ j, m = j + 1 := ⟨m - 1, by omega⟩
    refine f54_core hB hq hx hy hln hb (by omega) fun _ args H ha => ?_
    have hhl := halfL_len l
    rw [hln] at hhl
    have hhg := fun (v : Nat) (hv : v < b.length) => halfL_get (l := l) (v := v) (by omega)
    have ih := f54 hB hq k hx (rd_isL hhl) hhl (fun v hv => by
      rw [hhg v hv]
      have := hb v hv
      have := tdiv2 (getI l (v : Int))
      omega) (fun v hv => by
      rw [hhg v hv]
      have h1 := hk v hv
      rw [Nat.pow_succ] at h1
      have := tdiv2 (getI l (v : Int))
      omega) (m := m) (by omega)
    exact callPure_own ha ih rfl (by simp [HO.hasRd, iL_noRd]) (frz_sl rfl (redT_ok hB (halfL l) hq).1)
end Go.AM.Ch

set_option linter.unusedSectionVars false
set_option linter.unusedVariables false
set_option linter.unusedSimpArgs false
namespace Go.AM.Ch
attribute [local go_sem] gc subHeap reach_skip ren_free reach_new reach_newp reach_end rangeL roots boxCells nodupB posOf renL AV.ren pickO renH renO looks look bindEnv envOf reach_int reach_bool reach_nilS reach_rd putRow cells_sl cells_int cells_bool cells_nilS cells_rd cells_agg reach_agg reach_tup idFreeL idf_sl idf_ptr idf_int idf_bool idf_nilS idf_rd reach_fn reach_mp cells_fn cells_ptr cells_mp idf_mp idf_fn idf_agg idf_tup
set_option maxHeartbeats 8000000
theorem c54 {x y : AV} {b : List (List Int)} {s : List Int} {q : Nat} (hx : IsLL x b) (hy : IsL y s) (hB : IsB b) (hs : InR b.length 1048576 s) (hq : q < b.length) {m : Nat} (hm : smK + 22 ≤ m) (H : Heap) :
    callPure (evF tab it m) true 54 [x, y, .int .i64 (q : Int)] H = some (.rd 1 b.length (iL (redT b s q)), H) := by
  have f := f54 hB hq 21 hx hy hs.1 (fun v hv => by have := inR_get hs v hv; omega) (fun v hv => by
    have := inR_get hs v hv
    have e : (2 : Nat) ^ 21 = 2097152 := by decide
    omega) (m := m) hm
  exact callPure_frz (by simp [idFreeL, AV.idFree, hx.free, hy.free]) (by simp) f (frz_sl rfl (redT_ok hB s hq).1)
/-- the scripts of states are small -/
theorem redT_st {b : List (List Int)} (hB : IsB b) {s : List Int} (hs : InR b.length 1048576 s) {q : Nat} (hq : q < b.length) : ∀ v : Nat, v < b.length → -104860600 ≤ getI (redT b s q) (v : Int) ∧ getI (redT b s q) (v : Int) ≤ 104860600 := fun v hv => by
  have := redT_le hB (l := s) hq (M := 1048576) (by decide) (fun w hw _ => inR_get hs w hw) v hv
  omega
end Go.AM.Ch

set_option linter.unusedSectionVars false
set_option linter.unusedVariables false
set_option linter.unusedSimpArgs false
namespace Go.AM.Ch
set_option maxHeartbeats 8000000
/-- the reduced list -/
noncomputable def redL (b : List (List Int)) (l : List Int) (q : Nat) : List Int := apl b l (redT b l q)
theorem redL_len (b : List (List Int)) (l : List Int) (q : Nat) : (redL b l q).length = b.length := apl_len _ _ _
theorem redL_red {b : List (List Int)} (hB : IsB b) (l : List Int) {q : Nat} (hq : q < b.length) : Red b.length (ed b) q (gf (redL b l q)) := (redT_ok hB l hq).2.2.congr fun v hv => (apl_ap hB l _ hv).symm
/-- whatever script leads to a reduced list -/
theorem redL_eq {b : List (List Int)} (hB : IsB b) {l t : List Int} {q : Nat} (hq : q < b.length) (h : Red b.length (ed b) q (gf (apl b l t))) : apl b l t = redL b l q := by
  refine ext_getI (by rw [apl_len, redL_len]) fun i hi => ?_
  rw [apl_len] at hi
  have hr := redL_red hB l hq
  refine (red_uniq (gr_of hB) hq hr h (t := fun j => gf t j + (- gf (redT b l q) j)) (fun v hv => ?_) i hi).1
  have e1 : gf (apl b l t) v = ap b.length (ed b) (gf l) (gf t) v := apl_ap hB l t hv
  have e2 : gf (redL b l q) v = ap b.length (ed b) (gf l) (gf (redT b l q)) v := apl_ap hB l _ hv
  rw [e1]
  unfold ap at e2 ⊢
  rw [net_add, net_neg, e2]
  omega
end Go.AM.Ch

set_option linter.unusedSectionVars false
set_option linter.unusedVariables false
set_option linter.unusedSimpArgs false
namespace Go.AM.Ch
attribute [local go_sem] gc subHeap reach_skip ren_free reach_new reach_newp reach_end rangeL roots boxCells nodupB posOf renL AV.ren pickO renH renO looks look bindEnv envOf reach_int reach_bool reach_nilS reach_rd putRow cells_sl cells_int cells_bool cells_nilS cells_rd cells_agg reach_agg reach_tup idFreeL idf_sl idf_ptr idf_int idf_bool idf_nilS idf_rd reach_fn reach_mp cells_fn cells_ptr cells_mp idf_mp idf_fn idf_agg idf_tup
set_option maxHeartbeats 8000000
/-- chips can be taken away from the places from one on, so that what remains is not won -/
def Ls (b : List (List Int)) : Nat → List Int → Nat → Prop
  | 0, l, _ => getI (redL b l 0) 0 < 0
  | k + 1, l, fr => ∃ v : Nat, fr ≤ v ∧ v < b.length ∧ Ls b k (l.set v (getI l (v : Int) - 1)) v
noncomputable instance (b : List (List Int)) (k : Nat) (l : List Int) (fr : Nat) : Decidable (Ls b k l fr) := Classical.propDecidable _
/-- numbers from which k chips can be taken -/
structure Tk (n k : Nat) (l : List Int) : Prop where
  len : l.length = n
  oth : ∀ v : Nat, v < n → v ≠ 0 → -100 + (k : Int) ≤ getI l (v : Int) ∧ getI l (v : Int) ≤ 100
  own : -1125899906842624 + (k : Int) ≤ getI l ((0 : Nat) : Int) ∧ getI l ((0 : Nat) : Int) ≤ 1125899906842624
theorem Tk.near {n : Nat} {l : List Int} (h : Tk n 0 l) : Near n 0 l := ⟨h.len, fun v hv h0 => by have := h.oth v hv h0; omega, by have := h.own; omega⟩
theorem Tk.step {n k : Nat} {l : List Int} (h : Tk n (k + 1) l) {v : Nat} (hv : v < n) : Tk n k (l.set v (getI l (v : Int) - 1)) := by
  have hl := h.len
  refine ⟨by simp [hl], fun u hu h0 => ?_, ?_⟩
  · rw [getI_set (by omega)]
    have := h.oth u hu h0
    split
    · rename_i e; subst e; omega
    · omega
  · rw [getI_set (by omega)]
    have := h.own
    split
    · rename_i e; subst e; omega
    · omega
theorem Tk.all {n k : Nat} {l : List Int} (h : Tk n k l) : ∀ v : Nat, v < n → -1125899906842624 ≤ getI l (v : Int) ∧ getI l (v : Int) ≤ 1125899906842624 := fun v hv => by
  by_cases e : v = 0
  · subst e; have := h.own; omega
  · have := h.oth v hv e; omega
/-- scripts of what is near are small -/
theorem redT_near {b : List (List Int)} (hB : IsB b) {l : List Int} {q : Nat} (hq : q < b.length) (hl : Near b.length q l) : ∀ v : Nat, v < b.length → -104860600 ≤ getI (redT b l q) (v : Int) ∧ getI (redT b l q) (v : Int) ≤ 104860600 := fun v hv => by
  have := redT_le hB (l := l) hq (M := 1048576) (by decide) (fun w hw h0 => by have := hl.oth w hw h0; omega) v hv
  omega
theorem c81p {args : List AV} {x y : AV} {b : List (List Int)} {l : List Int} {q : Nat} (hx : IsLL x b) (hy : IsL y l) (hB : IsB b) (hq : q < b.length) (hl : Near b.length q l) {m : Nat} (hm : smK ≤ m) (H : Heap) (ha : frzL H 40 args = some [x, y, .int .i64 (q : Int)]) :
    callPure (evF tab it m) true 81 args H = some (.rd 1 b.length (iL (redT b l q)), H) :=
  callPure_own ha (f81 hx hy hB hq hl hm) rfl (by simp [HO.hasRd, iL_noRd]) (frz_sl rfl (redT_ok hB l hq).1)
theorem mut73 {call : CallF} {x : AV} {n : Nat} {C : List AV} {a c : Int} {w : Bool} (fx : x.idFree = true) (h : call 73 [x, .sl 0 1 0 n, .int .i64 a, .int .i64 c] [some (.data C)] = some (.bool w, [some (.data C)])) :
    callMut call 73 [x, .sl 0 1 0 n, .int .i64 a, .int .i64 c] [some (.data C)] = some (.bool w, [some (.data C)]) := by
  simp [callMut, subHeap, backOf, writeBack, h, go_sem, fx]
theorem fin_k1 {n : Nat} {env : Env} {C : List AV} {w : Bool} {res : Go.AM.R} (hr : look env n = .bool w) (e : some (AV.bool w, [some (HO.data C)]) = res) : finish 1 [.t n] env [some (.data C)] = res := by
  have h : gc 1 [.bool w] [some (.data C)] = some ([.bool w], [some (.data C)]) := by simp [go_sem]
  rw [← e]
  simp [finish, ress, resOf, hr, tupOf, h]
theorem leafT2 {p : Prop} [Decidable p] {H : Heap} (h : p) : some (AV.bool true, H) = some (AV.bool (decide p), H) := by simp [h]
theorem leafF2 {p : Prop} [Decidable p] {H : Heap} (h : ¬ p) : some (AV.bool false, H) = some (AV.bool (decide p), H) := by simp [h]
/-- loses -/
theorem f73 {x : AV} {b : List (List Int)} (hx : IsLL x b) (hB : IsB b) : ∀ (k : Nat) {l : List Int} {fr : Nat}, k ≤ 100 → Tk b.length k l → fr ≤ b.length → ∀ {m : Nat}, smK + 1 + k ≤ m →
    evF tab it m 73 [x, .sl 0 1 0 b.length, .int .i64 (k : Int), .int .i64 (fr : Int)] [some (.data (iL l))] = some (.bool (decide (Ls b k l fr)), [some (.data (iL l))])
  | 0, l, fr, _, hT, hfr, m, hm => by
    obtain ⟨m, rfl⟩ : ∃ j, m = j + 1 := ⟨m - 1, by omega⟩
    have hm1 : 300 ≤ m := by have := smK_big; omega
    have fx := hx.free
    have hn1 := hB.n1; have hn2 := hB.n2
    have hln := hT.len
    have e81 := fun H => c81p (args := [x, .sl 0 1 0 b.length, .int .i64 0]) (q := 0) hx (rd_isL hln) hB (by omega) hT.near (m := m) (by omega) H
    have e81' := e81 [some (.data (iL l))] (frzL_cons (frzV_of fx) (frzL_cons (frz_sl rfl hln) (frzL_cons rfl frzL_nil)))
    have hTl := (redT_ok hB l (q := 0) (by omega)).1
    have hTb := redT_near hB (q := 0) (by omega) hT.near
    have e55 := fun H => c55p (args := [x, .sl 0 1 0 b.length, .rd 1 b.length (iL (redT b l 0))]) hx (rd_isL hln) (rd_isL hTl) hB.bd hln hTl (fun v hv => by have := hTb v hv; omega) (fun v hv => by have := hT.all v hv; omega) (m := m) (by omega) H
    have e55' := e55 [some (.data (iL l))] (frzL_cons (frzV_of fx) (frzL_cons (frz_sl rfl hln) (frzL_cons (frzV_of (rd_isL hTl).free) frzL_nil)))
    have hd : decide (Ls b 0 l fr) = decide (getI (apl b l (redT b l 0)) 0 < 0) := decide_eq_decide.2 Iff.rfl
    rw [hd]
    have hAl := apl_len b l (redT b l 0)
    clear hm
    refine f_enterH rfl rfl ?_
    show RC (evF tab it m) it m _ 1 (finish 1 _) _ (finish 1 _) _ _ _
    generalize evF tab it m = call at *
    generalize apl b l (redT b l 0) = A at *
    have iA := rd_isL hAl
    repeat' first
 | (apply s_mov; (focus ((conv => lhs; whnf); done)))
 | (apply c_nil)
 | ((first | apply s_lss | apply s_leq | apply s_gtr | apply s_geq | apply s_eql | apply s_neq); exact rfl; all_goals (intro _; try (exfalso; omega)))
 | (apply s_cn; (focus (repeat (first | apply opds_nil | (apply opds_cons; (first | (focus ((conv => lhs; whnf); done)) | exact rfl))))); exact e81')
 | (apply s_cn; (focus (repeat (first | apply opds_nil | (apply opds_cons; (first | (focus ((conv => lhs; whnf); done)) | exact rfl))))); exact e55')
 | (apply s_idx; (focus ((conv => lhs; whnf); done)); exact rfl; (first | assumption | (apply IsLL.at; assumption; omega)); omega)
 | (apply s_ldI; exact rfl; omega)
 | (apply c_seq)
 | (apply c_reg)
 | (apply c_ret)
 | (apply c_condT; exact rfl)
 | (with_reducible apply k_c)
    all_goals first
      | (refine fin_k1 (w := true) ?_ (leafT2 (p := getI A 0 < 0) ?_) <;> first | exact rfl | omega)
      | (refine fin_k1 (w := false) ?_ (leafF2 (p := getI A 0 < 0) ?_) <;> first | exact rfl | omega)
  | k + 1, l, fr, hk, hT, hfr, m, hm => by
    obtain ⟨m, rfl⟩ : ∃ j, m = j + 1 := ⟨m - 1, by omega⟩
    have hm1 : 300 ≤ m := by have := smK_big; omega
    have fx := hx.free
    have hn1 := hB.n1; have hn2 := hB.n2
    have hln := hT.len
    have lx : ∀ H, evP H .len [x] = some (.int .i64 ((b.length : Nat) : Int)) := fun H => by cases hx <;> rfl
    have ih := fun (v : Nat) (hv : v < b.length) => f73 hx hB k (fr := v) (by omega) (hT.step hv) (by omega) (m := m) (by omega)
    have hb := hT.all
    have e0 : ((k + 1 : Nat) : Int) - 1 = (k : Int) := by omega
    refine f_enterH rfl rfl ?_
    show RC (evF tab it m) it m _ 1 (finish 1 _) _ (finish 1 _) _ _ _
    generalize evF tab it m = call at *
    have gcO : ∀ (v : Nat) (C : List AV), gc 1 [x, .sl 0 1 0 b.length, .int .i64 ((k + 1 : Nat) : Int), .int .i64 (v : Int)] [some (.data C)] = some ([x, .sl 0 1 0 b.length, .int .i64 ((k + 1 : Nat) : Int), .int .i64 (v : Int)], [some (.data C)]) := fun v C => by simp [go_sem, fx]
    repeat' first
 | (apply s_mov; (focus ((conv => lhs; whnf); done)))
 | (apply c_nil)
 | ((first | apply s_lss | apply s_leq | apply s_gtr | apply s_geq | apply s_eql | apply s_neq); exact rfl; all_goals (intro _; try (exfalso; omega)))
 | (apply c_seq)
 | (apply c_reg)
 | (apply c_block)
 | (apply c_skip)
 | (apply c_condF; exact rfl)
 | (with_reducible apply k_c)
    refine c_loop ?_
    refine loop_gc (σ := Nat) (fun v => [x, .sl 0 1 0 b.length, .int .i64 ((k + 1 : Nat) : Int), .int .i64 (v : Int)]) (fun _ => [some (.data (iL l))]) (fun v => fr ≤ v ∧ v ≤ b.length ∧ ∀ u : Nat, fr ≤ u → u < v → ¬ Ls b k (l.set u (getI l (u : Int) - 1)) u) (fun v => b.length - v) ?_ _ fr _ _ ⟨by omega, hfr, fun u h1 h2 => by omega⟩ (by omega) (gcO _ _)
    intro v ⟨hv0, hv1, hno⟩ K hK
    by_cases hvn : v < b.length
    · have mt := mut73 fx (ih v hvn)
      have hbv := hb v hvn
      have hset : (l.set v (getI l (v : Int) - 1)).set v (getI (l.set v (getI l (v : Int) - 1)) (v : Int) + 1) = l := by
        rw [getI_set (by omega), if_pos rfl, List.set_set]
        have e : getI l (v : Int) - 1 + 1 = l[v]'(by omega) := by rw [getI_nat]; simp [List.getD, show v < l.length by omega]
        rw [e]
        exact List.set_getElem_self _
      have hl1 : (l.set v (getI l (v : Int) - 1)).length = b.length := by simp [hln]
      have hg1 : getI (l.set v (getI l (v : Int) - 1)) (v : Int) = getI l (v : Int) - 1 := by rw [getI_set (by omega), if_pos rfl]
      rw [← e0] at mt
      have hK1 := hK (v + 1)
      have hlt : ∀ h : Ls b k (l.set v (getI l (v : Int) - 1)) v, Ls b (k + 1) l fr := fun h => ⟨v, hv0, hvn, h⟩
      have ld := fun H h => p_ldO (H := H) (id := 0) (l := l) (i := v) h (by omega)
      have st := fun (vv : Int) call H h => e_stO (call := call) (H := H) (id := 0) (l := l) (i := v) (v := vv) h (by omega)
      by_cases hd : Ls b k (l.set v (getI l (v : Int) - 1)) v
      · simp only [hd, decide_true] at mt
        have hl1' : v < (l.set v (getI l (v : Int) - 1)).length := by omega
        have ld2 := fun H h => p_ldO (H := H) (id := 0) (l := l.set v (getI l (v : Int) - 1)) (i := v) h hl1'
        have st2 := fun (vv : Int) call H h => e_stO (call := call) (H := H) (id := 0) (l := l.set v (getI l (v : Int) - 1)) (i := v) (v := vv) h hl1'
        repeat' first
 | (apply s_mov; (focus ((conv => lhs; whnf); done)))
 | (apply c_nil)
 | ((first | apply s_lss | apply s_leq | apply s_gtr | apply s_geq | apply s_eql | apply s_neq); exact rfl; all_goals (intro _; try (exfalso; omega)))
 | ((first | apply s_add | apply s_sub); exact rfl; omega)
 | (apply s_pn; (focus (repeat (first | apply opds_nil | (apply opds_cons; (first | (focus ((conv => lhs; whnf); done)) | exact rfl))))); exact lx _)
 | (apply s_pn; (focus (repeat (first | apply opds_nil | (apply opds_cons; (first | (focus ((conv => lhs; whnf); done)) | exact rfl))))); exact p_ixO hvn)
 | (apply s_pn; (focus (repeat (first | apply opds_nil | (apply opds_cons; (first | (focus ((conv => lhs; whnf); done)) | exact rfl))))); exact ld _ rfl)
 | (apply s_st; (focus (repeat (first | apply opds_nil | (apply opds_cons; (first | (focus ((conv => lhs; whnf); done)) | exact rfl))))); exact st _ _ _ rfl)
 | (apply s_en; (focus (repeat (first | apply opds_nil | (apply opds_cons; (first | (focus ((conv => lhs; whnf); done)) | exact rfl))))); exact mt)
 | (apply s_pn; (focus (repeat (first | apply opds_nil | (apply opds_cons; (first | (focus ((conv => lhs; whnf); done)) | exact rfl))))); exact ld2 _ rfl)
 | (apply s_st; (focus (repeat (first | apply opds_nil | (apply opds_cons; (first | (focus ((conv => lhs; whnf); done)) | exact rfl))))); exact st2 _ _ _ rfl)
 | (apply c_seq)
 | (apply c_reg)
 | (apply c_block)
 | (apply c_skip)
 | (apply c_ret)
 | (apply c_condT; exact rfl)
 | (with_reducible apply k_c)
        all_goals first
          | (exfalso; omega)
          | (simp only [List.set_cons_zero, hset]
             refine fin_k1 ?_ (leafT2 (hlt hd)); exact rfl)
      · simp only [hd, decide_false] at mt
        have hl1' : v < (l.set v (getI l (v : Int) - 1)).length := by omega
        have ld2 := fun H h => p_ldO (H := H) (id := 0) (l := l.set v (getI l (v : Int) - 1)) (i := v) h hl1'
        have st2 := fun (vv : Int) call H h => e_stO (call := call) (H := H) (id := 0) (l := l.set v (getI l (v : Int) - 1)) (i := v) (v := vv) h hl1'
        repeat' first
 | (apply s_mov; (focus ((conv => lhs; whnf); done)))
 | (apply c_nil)
 | ((first | apply s_lss | apply s_leq | apply s_gtr | apply s_geq | apply s_eql | apply s_neq); exact rfl; all_goals (intro _; try (exfalso; omega)))
 | ((first | apply s_add | apply s_sub); exact rfl; omega)
 | (apply s_pn; (focus (repeat (first | apply opds_nil | (apply opds_cons; (first | (focus ((conv => lhs; whnf); done)) | exact rfl))))); exact lx _)
 | (apply s_pn; (focus (repeat (first | apply opds_nil | (apply opds_cons; (first | (focus ((conv => lhs; whnf); done)) | exact rfl))))); exact p_ixO hvn)
 | (apply s_pn; (focus (repeat (first | apply opds_nil | (apply opds_cons; (first | (focus ((conv => lhs; whnf); done)) | exact rfl))))); exact ld _ rfl)
 | (apply s_st; (focus (repeat (first | apply opds_nil | (apply opds_cons; (first | (focus ((conv => lhs; whnf); done)) | exact rfl))))); exact st _ _ _ rfl)
 | (apply s_en; (focus (repeat (first | apply opds_nil | (apply opds_cons; (first | (focus ((conv => lhs; whnf); done)) | exact rfl))))); exact mt)
 | (apply s_pn; (focus (repeat (first | apply opds_nil | (apply opds_cons; (first | (focus ((conv => lhs; whnf); done)) | exact rfl))))); exact ld2 _ rfl)
 | (apply s_st; (focus (repeat (first | apply opds_nil | (apply opds_cons; (first | (focus ((conv => lhs; whnf); done)) | exact rfl))))); exact st2 _ _ _ rfl)
 | (apply c_seq)
 | (apply c_reg)
 | (apply c_block)
 | (apply c_skip)
 | (apply c_condT; exact rfl)
 | (apply c_condF; exact rfl)
 | (with_reducible apply k_c)
        all_goals first
          | (exfalso; omega)
          | (refine hK1 _ _ ⟨by omega, by omega, fun u h1 h2 => ?_⟩ (by omega) ?_
             rotate_left
             · have h : gc 1 [x, .sl 0 1 0 b.length, .int .i64 ((k + 1 : Nat) : Int), .int .i64 ((v + 1 : Nat) : Int)] [some (.data (iL ((l.set v (getI l (v : Int) - 1)).set v (getI (l.set v (getI l (v : Int) - 1)) (v : Int) + 1))))] = some ([x, .sl 0 1 0 b.length, .int .i64 ((k + 1 : Nat) : Int), .int .i64 ((v + 1 : Nat) : Int)], [some (.data (iL l))]) := by
                 rw [hset]; exact gcO _ _
               exact h
             rcases (by omega : u < v ∨ u = v) with h | rfl
             · exact hno u h1 h
             · exact hd)
    · obtain rfl : v = b.length := by omega
      repeat' first
 | (apply s_mov; (focus ((conv => lhs; whnf); done)))
 | (apply c_nil)
 | ((first | apply s_lss | apply s_leq | apply s_gtr | apply s_geq | apply s_eql | apply s_neq); exact rfl; all_goals (intro _; try (exfalso; omega)))
 | (apply s_pn; (focus (repeat (first | apply opds_nil | (apply opds_cons; (first | (focus ((conv => lhs; whnf); done)) | exact rfl))))); exact lx _)
 | (apply c_seq)
 | (apply c_reg)
 | (apply c_exitH)
 | (apply c_condF; exact rfl)
 | (with_reducible apply k_c)
      apply c_pre (vs := []) (H' := [some (.data (iL l))])
      · simp [go_sem]
      repeat' first
 | (apply s_mov; (focus ((conv => lhs; whnf); done)))
 | (apply c_nil)
 | (apply c_seq)
 | (apply c_reg)
 | (apply c_ret)
 | (with_reducible apply k_c)
      refine fin_k1 ?_ (leafF2 (p := Ls b (k + 1) l fr) fun ⟨v, h1, h2, h3⟩ => hno v h1 h2 h3)
      exact rfl
end Go.AM.Ch

set_option linter.unusedSectionVars false
set_option linter.unusedVariables false
set_option linter.unusedSimpArgs false
namespace Go.AM.Ch
attribute [local go_sem] gc subHeap reach_skip ren_free reach_new reach_newp reach_end rangeL roots boxCells nodupB posOf renL AV.ren pickO renH renO looks look bindEnv envOf reach_int reach_bool reach_nilS reach_rd putRow cells_sl cells_int cells_bool cells_nilS cells_rd cells_agg reach_agg reach_tup idFreeL idf_sl idf_ptr idf_int idf_bool idf_nilS idf_rd reach_fn reach_mp cells_fn cells_ptr cells_mp idf_mp idf_fn idf_agg idf_tup
set_option maxHeartbeats 8000000
theorem own_noRd (l : List Int) : (ownV 0 (iL l)).hasRd = false := by cases l <;> rfl
theorem owH_noRd (l : List Int) : ((owH (iL l)).all fun o => !HO.hasRd o) = true := by
  rcases l with _ | ⟨a, r⟩
  · rfl
  · have := iL_noRd (a :: r)
    simp only [iL, List.map_cons] at this
    simp [owH, iL, HO.hasRd, this]
theorem c26p {args : List AV} {x y z : AV} {b : List (List Int)} {s t : List Int} (hx : IsLL x b) (hy : IsL y s) (hz : IsL z t) (hb : Bd b) (hsy : Sym b) (hn : 1 ≤ b.length) (hsn : s.length = b.length) (htn : t.length = b.length)
    (ht : ∀ v : Nat, v < b.length → -4503599627370496 ≤ getI t (v : Int) ∧ getI t (v : Int) ≤ 4503599627370496) (hs : ∀ v : Nat, v < b.length → -288230376151711744 ≤ getI s (v : Int) ∧ getI s (v : Int) ≤ 288230376151711744)
    {m : Nat} (hm : 1100 ≤ m) (H : Heap) (ha : frzL H 40 args = some [x, y, z]) : callPure (evF tab it m) true 26 args H = some (fzL (apl b s t), H) :=
  callPure_own ha (f26 hx hy hz hb hsy hn hsn htn ht hs hm) (own_noRd _) (owH_noRd _) (frz_own _)
/-- a set of places as a script -/
def bitL (n S : Nat) : List Int := (List.range n).map fun (i : Nat) => ((S / 2 ^ i % 2 : Nat) : Int)
theorem bitL_len (n S : Nat) : (bitL n S).length = n := by simp [bitL]
theorem bitL_get {n S i : Nat} (h : i < n) : getI (bitL n S) (i : Int) = ((S / 2 ^ i % 2 : Nat) : Int) := by
  rw [getI_nat]
  simp [bitL, List.getD, h]
/-- a set of places fires once -/
theorem f78 {x y : AV} {b : List (List Int)} {l : List Int} {S : Nat} (hx : IsLL x b) (hy : IsL y l) (hB : IsB b) (hln : l.length = b.length) (hl : ∀ v : Nat, v < b.length → -288230376151711744 ≤ getI l (v : Int) ∧ getI l (v : Int) ≤ 288230376151711744)
    {m : Nat} (hm : 1200 ≤ m) : evF tab it m 78 [x, y, .int .i64 (S : Int)] [] = some (fzL (apl b l (bitL b.length S)), []) := by
  obtain ⟨m, rfl⟩ : ∃ j, m = j + 1 := ⟨m - 1, by omega⟩
  have fx := hx.free; have fy := hy.free
  have hn1 := hB.n1; have hn2 := hB.n2
  have lx : ∀ H, evP H .len [x] = some (.int .i64 ((b.length : Nat) : Int)) := fun H => by cases hx <;> rfl
  have mk := fun call H => @e_mkI call H b.length (by unfold most; omega)
  have hbl := bitL_len b.length S
  have hbg := fun (i : Nat) (h : i < b.length) => bitL_get (S := S) h
  have e26 := c26p hx hy (rd_isL hbl) hB.bd hB.sym hn1 hln hbl (fun v hv => by rw [hbg v hv]; omega) hl (m := m) (by omega) [some (.data (iL (bitL b.length S)))] (args := [x, y, .sl 0 1 0 b.length]) (frzL_cons (frzV_of fx) (frzL_cons (frzV_of fy) (frzL_cons (frz_sl rfl hbl) frzL_nil)))
  refine f_enter rfl rfl ?_
  generalize evF tab it m = call at *
  repeat' first
 | (apply s_mov; (focus ((conv => lhs; whnf); done)))
 | (apply c_nil)
 | (apply s_pn; (focus (repeat (first | apply opds_nil | (apply opds_cons; (first | (focus ((conv => lhs; whnf); done)) | exact rfl))))); exact lx _)
 | (apply s_en; (focus (repeat (first | apply opds_nil | (apply opds_cons; (first | (focus ((conv => lhs; whnf); done)) | exact rfl))))); exact mk _ _)
 | (apply c_seq)
 | (apply c_reg)
 | (apply c_block)
 | (with_reducible apply k_c)
  have gcO : ∀ (k : Nat) (C : List AV), gc 0 [x, y, .int .i64 (S : Int), .sl 0 1 0 b.length, .int .i64 (k : Int)] [some (.data C)] = some ([x, y, .int .i64 (S : Int), .sl 0 1 0 b.length, .int .i64 (k : Int)], [some (.data C)]) := fun k C => by simp [go_sem, fx, fy]
  refine c_loop ?_
  refine loop_gc (σ := Nat × List Int) (fun p => [x, y, .int .i64 (S : Int), .sl 0 1 0 b.length, .int .i64 (p.1 : Int)]) (fun p => [some (.data (iL p.2))]) (fun p => p.1 ≤ b.length ∧ p.2.length = b.length ∧ ∀ i : Nat, i < p.1 → getI p.2 (i : Int) = ((S / 2 ^ i % 2 : Nat) : Int)) (fun p => b.length - p.1) ?_ _ (0, List.replicate b.length 0) _ _ ⟨by omega, by simp, fun i hi => by omega⟩ (by show b.length - 0 < _; omega) (gcO 0 _)
  intro ⟨k, o⟩ ⟨hk, hol, ho⟩ K hK
  dsimp only at hk hol ho hK ⊢
  by_cases hkn : k < b.length
  · have shr := fun H => p_shr (H := H) (a := S) (b := k) (by omega)
    have st := fun (vv : Int) call H h => e_stO (call := call) (H := H) (id := 0) (l := o) (i := k) (v := vv) h (by omega)
    generalize hD : S / 2 ^ k = D at *
    have hrem : ∀ H, evP H (.bin .rem) [.int .i64 (D : Int), .int .i64 2] = some (.int .i64 ((D % 2 : Nat) : Int)) := fun H => rfl
    repeat' first
 | (apply s_mov; (focus ((conv => lhs; whnf); done)))
 | (apply c_nil)
 | ((first | apply s_lss | apply s_leq | apply s_gtr | apply s_geq | apply s_eql | apply s_neq); exact rfl; all_goals (intro _; try (exfalso; omega)))
 | ((first | apply s_add | apply s_sub); exact rfl; omega)
 | (apply s_pn; (focus (repeat (first | apply opds_nil | (apply opds_cons; (first | (focus ((conv => lhs; whnf); done)) | exact rfl))))); exact lx _)
 | (apply s_pn; (focus (repeat (first | apply opds_nil | (apply opds_cons; (first | (focus ((conv => lhs; whnf); done)) | exact rfl))))); exact shr _)
 | (apply s_pn; (focus (repeat (first | apply opds_nil | (apply opds_cons; (first | (focus ((conv => lhs; whnf); done)) | exact rfl))))); exact hrem _)
 | (apply s_pn; (focus (repeat (first | apply opds_nil | (apply opds_cons; (first | (focus ((conv => lhs; whnf); done)) | exact rfl))))); exact p_ixO hkn)
 | (apply s_st; (focus (repeat (first | apply opds_nil | (apply opds_cons; (first | (focus ((conv => lhs; whnf); done)) | exact rfl))))); exact st _ _ _ rfl)
 | (apply c_seq)
 | (apply c_reg)
 | (apply c_block)
 | (apply c_skip)
 | (apply c_condT; exact rfl)
 | (with_reducible apply k_c)
    all_goals first
      | (exfalso; omega)
      | skip
    refine hK (k + 1, _) _ _ ⟨by omega, by simpa using hol, fun i hi => ?_⟩ (by show b.length - (k + 1) < _; omega) (gcO (k + 1) _)
    dsimp only
    rw [getI_set (by omega)]
    by_cases e : i = k
    · subst e; rw [if_pos rfl, hD]
    · rw [if_neg e]; exact ho i (by omega)
  · obtain rfl : k = b.length := by omega
    obtain rfl : o = bitL b.length S := ext_getI (by rw [hbl, hol]) fun i hi => by rw [hbg i (by omega)]; exact ho i (by omega)
    have fz := (isL_fz (apl b l (bitL b.length S))).free
    generalize fzL (apl b l (bitL b.length S)) = vz at *
    repeat' first
 | (apply s_mov; (focus ((conv => lhs; whnf); done)))
 | (apply c_nil)
 | ((first | apply s_lss | apply s_leq | apply s_gtr | apply s_geq | apply s_eql | apply s_neq); exact rfl; all_goals (intro _; try (exfalso; omega)))
 | (apply s_pn; (focus (repeat (first | apply opds_nil | (apply opds_cons; (first | (focus ((conv => lhs; whnf); done)) | exact rfl))))); exact lx _)
 | (apply c_seq)
 | (apply c_reg)
 | (apply c_exitH)
 | (apply c_condF; exact rfl)
 | (with_reducible apply k_c)
    apply c_pre (vs := [x, y, .sl 0 1 0 b.length]) (H' := [some (.data (iL (bitL b.length S)))])
    · simp [go_sem, fx, fy]
    repeat' first
 | (apply s_mov; (focus ((conv => lhs; whnf); done)))
 | (apply c_nil)
 | (apply s_cn; (focus (repeat (first | apply opds_nil | (apply opds_cons; (first | (focus ((conv => lhs; whnf); done)) | exact rfl))))); exact e26)
 | (apply c_seq)
 | (apply c_reg)
 | (apply c_ret)
 | (with_reducible apply k_c)
    exact fin_t (by (conv => lhs; whnf)) (by first | assumption | rfl) rfl
theorem c78 {x y : AV} {b : List (List Int)} {l : List Int} {S : Nat} (hx : IsLL x b) (hy : IsL y l) (hB : IsB b) (hln : l.length = b.length) (hl : ∀ v : Nat, v < b.length → -288230376151711744 ≤ getI l (v : Int) ∧ getI l (v : Int) ≤ 288230376151711744)
    {m : Nat} (hm : 1200 ≤ m) (H : Heap) : callPure (evF tab it m) true 78 [x, y, .int .i64 (S : Int)] H = some (fzL (apl b l (bitL b.length S)), H) :=
  callPure_free (by simp [idFreeL, AV.idFree, hx.free, hy.free]) (by simp) (f78 hx hy hB hln hl hm) (isL_fz _).free
end Go.AM.Ch

set_option linter.unusedSectionVars false
set_option linter.unusedVariables false
set_option linter.unusedSimpArgs false
namespace Go.AM.Ch
set_option maxHeartbeats 8000000
theorem fzL_ne {l : List Int} {n : Nat} (h : l.length = n) (hn : 1 ≤ n) : fzL l = .rd 1 n (iL l) := by
  rcases l with _ | ⟨a, r⟩
  · simp at h; omega
  · subst h; simp [fzL]
theorem e_appT {call : CallF} {H : Heap} {y : AV} {s : List Int} (hy : IsL y s) (h1 : 1 ≤ s.length) (h2 : s.length ≤ 1000) : evE call H (.app true 1 8) [.nilS, y] = some (fzL s, H) := by
  rw [fzL_ne rfl h1]
  have hl := iL_len s
  have hm : s.length ≤ most := by unfold most; omega
  cases hy with
  | nil => simp at h1
  | rd =>
    have h0 : ¬ s = [] := by intro e; subst e; simp at h1
    simp [evE, appOf, szOk, lenOf, rowOf, hl, h0, hm, killRow, newRow, List.take_of_length_le]
theorem c35d {x : AV} {b : List (List Int)} (hx : IsLL x b) (hB : IsB b) {i : Nat} (hi : i < b.length) {m : Nat} (hm : 1020 ≤ m) (H : Heap) : callPure (evF tab it m) true 35 [x, .int .i64 (i : Int)] H = some (.int .i64 (deg b.length (ed b) i), H) := by
  rw [← deg_sumI hB.bd hi]
  have hn := hB.n2
  exact c35 hx hi (by rw [hB.bd.row i hi]; omega) (fun v hv => by have := row_all' hB.bd hi v hv; omega) hm H
where
  row_all' {b : List (List Int)} (hb : Bd b) {i : Nat} (hi : i < b.length) : ∀ v ∈ getLL b (i : Int), 0 ≤ v ∧ v ≤ 3 := fun v hv => by
    obtain ⟨k, hk, e⟩ := List.getElem_of_mem hv
    have := hb.val i k hi (by rw [← hb.row i hi]; exact hk)
    rw [getI_nat] at this
    simpa [List.getD, hk, e] using this
end Go.AM.Ch

set_option linter.unusedSectionVars false
set_option linter.unusedVariables false
set_option linter.unusedSimpArgs false
namespace Go.AM.Ch
set_option maxHeartbeats 4000000
/-! ### boards made of any numbers: rows that are written -/
structure Rows (n : Nat) (rows : List (List Int)) : Prop where
  len : rows.length = n
  each : ∀ r ∈ rows, r.length = n
end Go.AM.Ch

set_option linter.unusedSectionVars false
set_option linter.unusedVariables false
set_option linter.unusedSimpArgs false
namespace Go.AM.Ch
set_option maxHeartbeats 8000000
/-- won: no debt is left at 0 -/
noncomputable def wonB (b : List (List Int)) (s : List Int) : Bool := decide (0 ≤ getI (redL b s 0) ((0 : Nat) : Int))
/-- the order in which all burns -/
noncomputable def ordB (b : List (List Int)) (s : List Int) : List Int := nI (burnL b (redL b s 0) 0)
theorem ordB_len {b : List (List Int)} (hB : IsB b) (s : List Int) : (ordB b s).length = b.length := by
  have hq : 0 < b.length := hB.n1
  have hr := redL_red hB s hq
  obtain ⟨h1, h2⟩ := burnL_ok (b := b) (l := redL b s 0) hq
  have hl := h1.len
  have hleg := burn_leg (b := b) (l := redL b s 0) hq
  unfold ordB
  rw [nI_len]
  apply Classical.byContradiction
  intro hne
  have hqm : (fun u => !(burnL b (redL b s 0) 0).contains u) 0 = false := by
    have : 0 ∈ burnL b (redL b s 0) 0 := List.mem_of_getElem? h1.hd
    simp [this]
  have hex : ∃ w, w < b.length ∧ (fun u => !(burnL b (redL b s 0) 0).contains u) w = true := by
    apply Classical.byContradiction
    intro hc
    have hall : ∀ w ∈ List.range b.length, w ∈ burnL b (redL b s 0) 0 := fun w hw => by
      apply Classical.byContradiction
      intro hm
      exact hc ⟨w, List.mem_range.1 hw, by simp [hm]⟩
    have := nodup_len List.nodup_range hall
    rw [List.length_range] at this
    omega
  obtain ⟨v, hv, hs, hlt⟩ := hr.2 _ hqm hex
  have := hleg v hv hs
  omega
/-- win's winning is right -/
theorem win_right {b : List (List Int)} (hB : IsB b) {s : List Int} (hs : InR b.length 1048576 s) : RightW b s (wonB b s) (redT b s 0) (if wonB b s = true then [] else ordB b s) := by
  have hq : 0 < b.length := hB.n1
  have hr := redL_red hB s hq
  have hRb := redT_st hB hs hq
  have hRl := (redT_ok hB s hq).1
  refine ⟨⟨hRl, fun v hv => ?_⟩, ?_⟩
  · obtain ⟨k, hk, e⟩ := List.getElem_of_mem hv
    have := hRb k (by omega)
    rw [getI_nat] at this
    have h2 : (redT b s 0).getD k 0 = v := by simp [List.getD, hk, e]
    rw [h2] at this
    omega
  · show (_ ∧ _ ∧ ∀ i : Nat, i < b.length → 0 ≤ getI (redL b s 0) (i : Int)) ∨ (_ ∧ _ ∧ ∀ k : Nat, k < b.length → OkAt b (redL b s 0) _ k)
    cases hw : wonB b s with
    | true =>
      left
      refine ⟨rfl, by simp, fun i hi => ?_⟩
      by_cases e : i = 0
      · subst e
        unfold wonB at hw
        simpa using hw
      · exact hr.1 i hi e
    | false =>
      right
      have hol := ordB_len hB s
      refine ⟨rfl, by simpa using hol, fun k hk => ?_⟩
      simp only [Bool.false_eq_true, if_false]
      obtain ⟨h1, -⟩ := burnL_ok (b := b) (l := redL b s 0) hq
      have hlow : ¬ 0 ≤ getI (redL b s 0) ((0 : Nat) : Int) := by unfold wonB at hw; simpa using hw
      unfold ordB at hol ⊢
      generalize burnL b (redL b s 0) 0 = ord at *
      rw [nI_len] at hol
      have hko : k < ord.length := by omega
      have hkl := h1.lt _ (List.getElem_mem hko)
      unfold OkAt
      rw [nI_get hko]
      refine ⟨by omega, fun j hj => ?_, ?_⟩
      · rw [nI_get (by omega)]
        have := (List.pairwise_iff_getElem.1 h1.nd) j k (by omega) hko hj
        omega
      · by_cases e : k = 0
        · subst e
          have h0 := h1.hd
          rw [List.getElem?_eq_getElem hko] at h0
          simp only [Option.some.injEq] at h0
          rw [h0]
          simp only [sumTo]
          omega
        · have := h1.low k (by omega) hko
          unfold brn at this
          rw [List.length_take, Nat.min_eq_left (by omega)] at this
          have e2 : sumTo (fun j => getI (getLL b ((ord[k] : Nat) : Int)) (getI (nI (ord.take k)) (j : Int))) k = sumTo (fun j => getI (getLL b ((ord[k] : Nat) : Int)) (getI (nI ord) (j : Int))) k := sumTo_congr fun j hj => by
            rw [nI_get (by rw [List.length_take]; omega), nI_get (by omega)]
            simp
          rw [e2] at this
          exact this
end Go.AM.Ch
