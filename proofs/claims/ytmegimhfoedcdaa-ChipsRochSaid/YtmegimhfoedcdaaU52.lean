/- A part of the proof: U40 U41 U33b U63 U30 U51 U52. -/
import Derived.Test.YtmegimhfoedcdaaU39
import Derived.Test.YtmegimhfoedcdaaU28
import Derived.Test.YtmegimhfoedcdaaU36
import Derived.Test.YtmegimhfoedcdaaM3
set_option linter.unusedSectionVars false
set_option linter.unusedVariables false
set_option linter.unusedSimpArgs false
namespace Go.AM.Ch
attribute [local go_sem] gc subHeap reach_skip ren_free reach_new reach_newp reach_end rangeL roots boxCells nodupB posOf renL AV.ren pickO renH renO looks look bindEnv envOf reach_int reach_bool reach_nilS reach_rd putRow cells_sl cells_int cells_bool cells_nilS cells_rd cells_agg reach_agg reach_tup idFreeL idf_sl idf_ptr idf_int idf_bool idf_nilS idf_rd reach_fn reach_mp cells_fn cells_ptr cells_mp idf_mp idf_fn idf_agg idf_tup
set_option maxHeartbeats 8000000
theorem p_mul2 {H : Heap} {a : Int} (h : -4611686018427387904 ≤ a ∧ a < 4611686018427387904) : evP H (.bin .mul) [.int .i64 2, .int .i64 a] = some (.int .i64 (2 * a)) := p_mul (by omega)
/-- reduce, given that it does what it should on the half -/
theorem f54_core {b : List (List Int)} (hB : IsB b) {q : Nat} (hq : q < b.length) {x y : AV} {l : List Int} (hx : IsLL x b) (hy : IsL y l) (hln : l.length = b.length) (hb : ∀ v : Nat, v < b.length → -1099511627776 ≤ getI l (v : Int) ∧ getI l (v : Int) ≤ 1099511627776)
    {m : Nat} (hm : smK ≤ m) (hrec : ¬ (∀ v : Nat, v < b.length → (getI l (v : Int)).tdiv 2 = 0) → ∀ (args : List AV) (H : Heap), frzL H 40 args = some [x, .rd 1 b.length (iL (halfL l)), .int .i64 (q : Int)] → callPure (evF tab it m) true 54 args H = some (.rd 1 b.length (iL (redT b (halfL l) q)), H)) :
    evF tab it (m + 1) 54 [x, y, .int .i64 (q : Int)] [] = some (.sl 0 1 0 b.length, [some (.data (iL (redT b l q)))]) := by
  have fx := hx.free; have fy := hy.free
  have hn1 := hB.n1; have hn2 := hB.n2
  have hbd := hB.bd
  have hm2 : 2300 ≤ m := by have := smK_big; omega
  have ly : ∀ H, evP H .len [y] = some (.int .i64 ((b.length : Nat) : Int)) := fun H => by rw [← hln]; exact p_lenI hy
  have mk := fun call H => @e_mkI call H b.length (by unfold most; omega)
  have hhl := halfL_len l
  rw [hln] at hhl
  have hhg := fun (v : Nat) (hv : v < b.length) => halfL_get (l := l) (v := v) (by omega)
  obtain ⟨hs1, hs2, hs3⟩ := redT_ok hB (halfL l) hq
  have hsb := redT_le hB (l := halfL l) hq (M := 1099511627776) (by decide) fun v hv _ => by
    rw [hhg v hv]
    have := hb v hv
    have := tdiv2 (getI l (v : Int))
    omega
  have is := rd_isL hs1
  have hnear := fun (Z : List Int) (h1 : Z.length = b.length) (h2 : ∀ v : Nat, v < b.length → getI Z (v : Int) = 2 * getI (redT b (halfL l) q) (v : Int)) => near_half hB (l := l) (s := redT b (halfL l) q) (Z := Z) hq hln hb rfl h1 h2
  have hnear0 : (∀ v : Nat, v < b.length → (getI l (v : Int)).tdiv 2 = 0) → Near b.length q (apl b l (List.replicate b.length 0)) := fun h0 => by
    rw [apl_zero hB hln]
    refine ⟨hln, fun v hv _ => ?_, ?_⟩
    · have := h0 v hv
      have := tdiv2 (getI l (v : Int))
      omega
    · have := hb q hq
      omega
  have hfin := fun (Z : List Int) (h1 : Z.length = b.length) (h2 : getI Z (q : Int) = 0) => redT_pl hB (l := l) (Z := Z) hq h1 h2
  refine f_enter rfl rfl ?_
  have e55 := fun (Z : List Int) (hZ : Z.length = b.length) h1 (H : Heap) (ha : frzL H 40 [x, y, .sl 0 1 0 b.length] = some [x, y, .rd 1 b.length (iL Z)]) => c55p hx hy (rd_isL hZ) hbd hln hZ h1 (fun v hv => by have := hb v hv; omega) (m := m) (by omega) H ha
  have e81 := fun (Z : List Int) (hN : Near b.length q (apl b l Z)) (H : Heap) => c81 hx (rd_isL (apl_len b l Z)) hB hq hN hm H
  have e77 := fun (Z u : List Int) (hZ : Z.length = b.length) (hu : u.length = b.length) h1 h2 (H : Heap) (ha : frzL H 40 [.sl 0 1 0 b.length, .rd 1 b.length (iL u)] = some [.rd 1 b.length (iL Z), .rd 1 b.length (iL u)]) => c77o (rd_isL hZ) (rd_isL hu) (by omega) (by omega) (by omega) h1 h2 (m := m) (by omega) H ha
  clear hm
  generalize hcall : evF tab it m = call at *
  generalize hR : redT b l q = R at *
  generalize hS : redT b (halfL l) q = S at *
  have gcH : ∀ (z : Bool) (v : Nat) (C : List AV), gc 0 [x, y, .int .i64 (q : Int), .sl 0 1 0 b.length, .bool z, y, .int .i64 ((b.length : Nat) : Int), .int .i64 (v : Int)] [some (.data C)] = some ([x, y, .int .i64 (q : Int), .sl 0 1 0 b.length, .bool z, y, .int .i64 ((b.length : Nat) : Int), .int .i64 (v : Int)], [some (.data C)]) := fun z v C => by simp [go_sem, fx, fy]
  have gcZ : ∀ (v : Nat) (C D : List AV), gc 0 [x, y, .int .i64 (q : Int), .sl 1 1 0 b.length, .rd 1 b.length (iL S), .int .i64 ((b.length : Nat) : Int), .int .i64 (v : Int)] [some (.data C), some (.data D)] = some ([x, y, .int .i64 (q : Int), .sl 0 1 0 b.length, .rd 1 b.length (iL S), .int .i64 ((b.length : Nat) : Int), .int .i64 (v : Int)], [some (.data D)]) := fun v C D => by simp [go_sem, fx, fy]
  have gcY : ∀ (v : Nat) (D : List AV), gc 0 [x, y, .int .i64 (q : Int), .sl 0 1 0 b.length, .rd 1 b.length (iL S), .int .i64 ((b.length : Nat) : Int), .int .i64 (v : Int)] [some (.data D)] = some ([x, y, .int .i64 (q : Int), .sl 0 1 0 b.length, .rd 1 b.length (iL S), .int .i64 ((b.length : Nat) : Int), .int .i64 (v : Int)], [some (.data D)]) := fun v D => by simp [go_sem, fx, fy]
  -- the end, whatever the script
  have hend : ∀ (Z : List Int) (K : KT) (X : Nat → KT) (Rt : KT), Z.length = b.length → (∀ v : Nat, v < b.length → -1000000000000000 ≤ getI Z (v : Int) ∧ getI Z (v : Int) ≤ 1000000000000000) → getI Z (q : Int) = 0 → Near b.length q (apl b l Z) → Rt = finish 0 [.t 6] →
      RC call it m (.seq (.reg [⟨.inl .mov, [.t 11], some 57, none, []⟩, ⟨.inl .mov, [.t 0], some 58, none, []⟩, ⟨.inl .mov, [.t 0], some 59, none, []⟩, ⟨.inl .mov, [.t 1], some 60, none, []⟩, ⟨.inl .mov, [.t 11], some 61, none, []⟩, ⟨.inr (.call true true 55), [.t 59, .t 60, .t 61], some 62, none, []⟩, ⟨.inl .mov, [.t 2], some 63, none, []⟩, ⟨.inr (.call true true 81), [.t 58, .t 62, .t 63], some 64, none, []⟩, ⟨.inr (.call true false 77), [.t 57, .t 64], some 65, none, []⟩, ⟨.inl .mov, [.t 65], some 6, none, []⟩] none) .ret) 0 K X Rt (bindEnv [0, 1, 2, 11] 0 [x, y, .int .i64 (q : Int), .sl 0 1 0 b.length]) [some (.data (iL Z))] (some (.sl 0 1 0 b.length, [some (.data (iL R))])) := by
    intro Z K X Rt hZl hZb hZq hN hRt
    subst hRt
    obtain ⟨hu1, hu2, hu3⟩ := redT_ok hB (apl b l Z) hq
    have hub := redT_le hB (l := apl b l Z) hq (M := 100) (by omega) hN.oth
    have e55' := e55 Z hZl (fun v hv => by have := hZb v hv; omega) [some (.data (iL Z))] (frzL_cons (frzV_of fx) (frzL_cons (frzV_of fy) (frzL_cons (frz_sl rfl hZl) frzL_nil)))
    have e81' := e81 Z hN
    have e77' := e77 Z (redT b (apl b l Z) q) hZl hu1 (fun v hv => by have := hZb v (by omega); omega) (fun v hv => by have := hub v (by omega); omega) [some (.data (iL Z))] (frzL_cons (frz_sl rfl hZl) (frzL_cons rfl frzL_nil))
    rw [hZl, hfin Z hZl hZq] at e77'
    repeat' first
 | (apply s_mov; (focus ((conv => lhs; whnf); done)))
 | (apply c_nil)
 | (apply s_cn; (focus (repeat (first | apply opds_nil | (apply opds_cons; (first | (focus ((conv => lhs; whnf); done)) | exact rfl))))); exact e55')
 | (apply s_cn; (focus (repeat (first | apply opds_nil | (apply opds_cons; (first | (focus ((conv => lhs; whnf); done)) | exact rfl))))); exact e81' _)
 | (apply s_en; (focus (repeat (first | apply opds_nil | (apply opds_cons; (first | (focus ((conv => lhs; whnf); done)) | exact rfl))))); exact e77')
 | (apply c_seq)
 | (apply c_reg)
 | (apply c_ret)
 | (with_reducible apply k_c)
    simp [finish, ress, resOf, look, tupOf, go_sem]
  skip
  repeat' first
 | (apply s_mov; (focus ((conv => lhs; whnf); done)))
 | (apply c_nil)
 | (apply s_pn; (focus (repeat (first | apply opds_nil | (apply opds_cons; (first | (focus ((conv => lhs; whnf); done)) | exact rfl))))); exact ly _)
 | (apply s_en; (focus (repeat (first | apply opds_nil | (apply opds_cons; (first | (focus ((conv => lhs; whnf); done)) | exact rfl))))); exact mk _ _)
 | (apply c_seq)
 | (apply c_reg)
 | (apply c_block)
 | (with_reducible apply k_c)
  refine c_loop ?_
  refine loop_gc (σ := Nat × List Int × Bool) (fun p => [x, y, .int .i64 (q : Int), .sl 0 1 0 b.length, .bool p.2.2, y, .int .i64 ((b.length : Nat) : Int), .int .i64 (p.1 : Int)]) (fun p => [some (.data (iL p.2.1))]) (fun p => p.1 ≤ b.length ∧ p.2.1.length = b.length ∧ (∀ i : Nat, i < p.1 → getI p.2.1 (i : Int) = (getI l (i : Int)).tdiv 2) ∧ (p.2.2 = true ↔ ∀ i : Nat, i < p.1 → (getI l (i : Int)).tdiv 2 = 0)) (fun p => b.length - p.1) ?_ _ (0, List.replicate b.length 0, true) _ _ ⟨by omega, by simp, fun i hi => by omega, by simp⟩ (by show b.length - 0 < _; omega) (gcH true 0 _)
  intro ⟨v, h, z⟩ ⟨hv, hhl', hh, hz⟩ K hK
  dsimp only at hv hhl' hh hz hK ⊢
  by_cases hvn : v < b.length
  · have h1 := hb v hvn
    have h2 := tdiv2 (getI l (v : Int))
    have st := fun (vv : Int) call H h' => e_stO (call := call) (H := H) (id := 0) (l := h) (i := v) (v := vv) h' (by omega)
    have quo := fun H => p_quo2 (H := H) (a := getI l (v : Int)) (by omega)
    have hnext : ∀ i : Nat, i < v + 1 → getI (h.set v ((getI l (v : Int)).tdiv 2)) (i : Int) = (getI l (i : Int)).tdiv 2 := fun i hi => by
      rw [getI_set (by omega)]
      by_cases e : i = v
      · subst e; rw [if_pos rfl]
      · rw [if_neg e]; exact hh i (by omega)
    have hzn : (∀ i : Nat, i < v + 1 → (getI l (i : Int)).tdiv 2 = 0) ↔ (∀ i : Nat, i < v → (getI l (i : Int)).tdiv 2 = 0) ∧ (getI l (v : Int)).tdiv 2 = 0 := ⟨fun h => ⟨fun i hi => h i (by omega), h v (by omega)⟩, fun ⟨h1, h2⟩ i hi => by
      rcases (by omega : i < v ∨ i = v) with h | rfl
      · exact h1 i h
      · exact h2⟩
    cases z with
    | true =>
      have hz0 := hz.1 rfl
      repeat' first
 | (apply s_mov; (focus ((conv => lhs; whnf); done)))
 | (apply s_gT; exact rfl)
 | (apply c_nil)
 | (apply s_pickT; exact rfl; (focus ((conv => lhs; whnf); done)))
 | ((first | apply s_lss | apply s_leq | apply s_gtr | apply s_geq | apply s_eql | apply s_neq); exact rfl; all_goals (intro _; try (exfalso; omega)))
 | ((first | apply s_add | apply s_sub); exact rfl; omega)
 | (apply s_pn; (focus (repeat (first | apply opds_nil | (apply opds_cons; (first | (focus ((conv => lhs; whnf); done)) | exact rfl))))); exact quo _)
 | (apply s_pn; (focus (repeat (first | apply opds_nil | (apply opds_cons; (first | (focus ((conv => lhs; whnf); done)) | exact rfl))))); exact p_ixO hvn)
 | (apply s_st; (focus (repeat (first | apply opds_nil | (apply opds_cons; (first | (focus ((conv => lhs; whnf); done)) | exact rfl))))); exact st _ _ _ rfl)
 | (apply s_idx; (focus ((conv => lhs; whnf); done)); exact rfl; (first | assumption | (apply IsLL.at; assumption; omega)); omega)
 | (apply s_ldI; exact rfl; omega)
 | (apply c_seq)
 | (apply c_reg)
 | (apply c_block)
 | (apply c_skip)
 | (apply c_condT; exact rfl)
 | (with_reducible apply k_c)
      · refine hK (v + 1, _, true) _ _ ⟨by omega, by simpa using hhl', hnext, ?_⟩ (by show b.length - (v + 1) < _; omega) (gcH _ (v + 1) _)
        exact ⟨fun _ => hzn.2 ⟨hz0, by omega⟩, fun _ => rfl⟩
      · refine hK (v + 1, _, false) _ _ ⟨by omega, by simpa using hhl', hnext, ?_⟩ (by show b.length - (v + 1) < _; omega) (gcH _ (v + 1) _)
        exact ⟨fun e => (by cases e), fun h => absurd (hzn.1 h).2 (by omega)⟩
    | false =>
      repeat' first
 | (apply s_mov; (focus ((conv => lhs; whnf); done)))
 | (apply s_gF; exact rfl)
 | (apply c_nil)
 | (apply s_pickF; exact rfl; (focus ((conv => lhs; whnf); done)))
 | ((first | apply s_lss | apply s_leq | apply s_gtr | apply s_geq | apply s_eql | apply s_neq); exact rfl; all_goals (intro _; try (exfalso; omega)))
 | ((first | apply s_add | apply s_sub); exact rfl; omega)
 | (apply s_pn; (focus (repeat (first | apply opds_nil | (apply opds_cons; (first | (focus ((conv => lhs; whnf); done)) | exact rfl))))); exact quo _)
 | (apply s_pn; (focus (repeat (first | apply opds_nil | (apply opds_cons; (first | (focus ((conv => lhs; whnf); done)) | exact rfl))))); exact p_ixO hvn)
 | (apply s_st; (focus (repeat (first | apply opds_nil | (apply opds_cons; (first | (focus ((conv => lhs; whnf); done)) | exact rfl))))); exact st _ _ _ rfl)
 | (apply s_idx; (focus ((conv => lhs; whnf); done)); exact rfl; (first | assumption | (apply IsLL.at; assumption; omega)); omega)
 | (apply s_ldI; exact rfl; omega)
 | (apply c_seq)
 | (apply c_reg)
 | (apply c_block)
 | (apply c_skip)
 | (apply c_condT; exact rfl)
 | (with_reducible apply k_c)
      refine hK (v + 1, _, false) _ _ ⟨by omega, by simpa using hhl', hnext, ?_⟩ (by show b.length - (v + 1) < _; omega) (gcH _ (v + 1) _)
      exact ⟨fun e => (by cases e), fun h => hz.2 (hzn.1 h).1⟩
  · obtain rfl : v = b.length := by omega
    obtain rfl : h = halfL l := ext_getI (by omega) fun i hi => by rw [hh i (by omega), hhg i (by omega)]
    cases z with
    | true =>
      have hz0 := hz.1 rfl
      repeat' first
 | (apply c_nil)
 | ((first | apply s_lss | apply s_leq | apply s_gtr | apply s_geq | apply s_eql | apply s_neq); exact rfl; all_goals (intro _; try (exfalso; omega)))
 | (apply c_seq)
 | (apply c_reg)
 | (apply c_exitH)
 | (apply c_condF; exact rfl)
 | (with_reducible apply k_c)
      apply c_pre (vs := [x, y, .int .i64 (q : Int), .sl 0 1 0 b.length, .bool true]) (H' := [some (.data (iL (halfL l)))])
      · simp [go_sem, fx, fy]
      repeat' first
 | (apply s_mov; (focus ((conv => lhs; whnf); done)))
 | (apply c_nil)
 | (apply s_notT; exact rfl)
 | (apply s_pn; (focus (repeat (first | apply opds_nil | (apply opds_cons; (first | (focus ((conv => lhs; whnf); done)) | exact rfl))))); exact ly _)
 | (apply s_en; (focus (repeat (first | apply opds_nil | (apply opds_cons; (first | (focus ((conv => lhs; whnf); done)) | exact rfl))))); exact mk _ _)
 | (apply c_seq)
 | (apply c_reg)
 | (apply c_skip)
 | (apply c_condF; exact rfl)
 | (with_reducible apply k_c)
      apply c_pre (vs := [x, y, .int .i64 (q : Int), .sl 0 1 0 b.length]) (H' := [some (.data (iL (List.replicate b.length 0)))])
      · simp [go_sem, fx, fy]
      refine hend _ _ _ _ (by simp) (fun v hv => ?_) ?_ (hnear0 hz0) rfl
      · rw [getI_nat]; simp [List.getD, hv]
      · rw [getI_nat]; simp [List.getD, hq]
    | false =>
      have hz0 : ¬ (∀ v : Nat, v < b.length → (getI l (v : Int)).tdiv 2 = 0) := fun h => by have := hz.2 h; cases this
      have hrec' := hrec hz0 [x, .sl 0 1 0 b.length, .int .i64 (q : Int)] [some (.data (iL (halfL l))), some (.data (iL (List.replicate b.length 0)))] (frzL_cons (frzV_of fx) (frzL_cons (frz_sl rfl hhl) (frzL_cons rfl frzL_nil)))
      have lS : ∀ H, evP H .len [AV.rd 1 b.length (iL S)] = some (.int .i64 ((b.length : Nat) : Int)) := fun H => rfl
      repeat' first
 | (apply c_nil)
 | ((first | apply s_lss | apply s_leq | apply s_gtr | apply s_geq | apply s_eql | apply s_neq); exact rfl; all_goals (intro _; try (exfalso; omega)))
 | (apply c_seq)
 | (apply c_reg)
 | (apply c_exitH)
 | (apply c_condF; exact rfl)
 | (with_reducible apply k_c)
      apply c_pre (vs := [x, y, .int .i64 (q : Int), .sl 0 1 0 b.length, .bool false]) (H' := [some (.data (iL (halfL l)))])
      · simp [go_sem, fx, fy]
      repeat' first
 | (apply s_mov; (focus ((conv => lhs; whnf); done)))
 | (apply c_nil)
 | (apply s_notF; exact rfl)
 | (apply s_pn; (focus (repeat (first | apply opds_nil | (apply opds_cons; (first | (focus ((conv => lhs; whnf); done)) | exact rfl))))); exact ly _)
 | (apply s_en; (focus (repeat (first | apply opds_nil | (apply opds_cons; (first | (focus ((conv => lhs; whnf); done)) | exact rfl))))); exact mk _ _)
 | (apply s_cn; (focus (repeat (first | apply opds_nil | (apply opds_cons; (first | (focus ((conv => lhs; whnf); done)) | exact rfl))))); exact hrec')
 | (apply s_pn; (focus (repeat (first | apply opds_nil | (apply opds_cons; (first | (focus ((conv => lhs; whnf); done)) | exact rfl))))); exact lS _)
 | (apply c_seq)
 | (apply c_reg)
 | (apply c_block)
 | (apply c_condT; exact rfl)
 | (with_reducible apply k_c)
      refine c_loop ?_
      refine loop_gc (σ := Nat × List Int) (fun p => [x, y, .int .i64 (q : Int), .sl 0 1 0 b.length, .rd 1 b.length (iL S), .int .i64 ((b.length : Nat) : Int), .int .i64 (p.1 : Int)]) (fun p => [some (.data (iL p.2))]) (fun p => p.1 ≤ b.length ∧ p.2.length = b.length ∧ ∀ i : Nat, i < p.1 → getI p.2 (i : Int) = 2 * getI S (i : Int)) (fun p => b.length - p.1) ?_ _ (0, List.replicate b.length 0) _ _ ⟨by omega, by simp, fun i hi => by omega⟩ (by show b.length - 0 < _; omega) (gcZ 0 _ _)
      intro ⟨v, Z⟩ ⟨hv, hZl, hZ⟩ K2 hK2
      dsimp only at hv hZl hZ hK2 ⊢
      by_cases hvn : v < b.length
      · have h1 := hsb v hvn
        have st := fun (vv : Int) call H h' => e_stO (call := call) (H := H) (id := 0) (l := Z) (i := v) (v := vv) h' (by omega)
        have mu := fun H => p_mul2 (H := H) (a := getI S (v : Int)) (by omega)
        repeat' first
 | (apply s_mov; (focus ((conv => lhs; whnf); done)))
 | (apply c_nil)
 | ((first | apply s_lss | apply s_leq | apply s_gtr | apply s_geq | apply s_eql | apply s_neq); exact rfl; all_goals (intro _; try (exfalso; omega)))
 | ((first | apply s_add | apply s_sub); exact rfl; omega)
 | (apply s_pn; (focus (repeat (first | apply opds_nil | (apply opds_cons; (first | (focus ((conv => lhs; whnf); done)) | exact rfl))))); exact mu _)
 | (apply s_pn; (focus (repeat (first | apply opds_nil | (apply opds_cons; (first | (focus ((conv => lhs; whnf); done)) | exact rfl))))); exact p_ixO hvn)
 | (apply s_st; (focus (repeat (first | apply opds_nil | (apply opds_cons; (first | (focus ((conv => lhs; whnf); done)) | exact rfl))))); exact st _ _ _ rfl)
 | (apply s_idx; (focus ((conv => lhs; whnf); done)); exact rfl; (first | assumption | (apply IsLL.at; assumption; omega)); omega)
 | (apply s_ldI; exact rfl; omega)
 | (apply c_seq)
 | (apply c_reg)
 | (apply c_block)
 | (apply c_skip)
 | (apply c_condT; exact rfl)
 | (with_reducible apply k_c)
        refine hK2 (v + 1, _) _ _ ⟨by omega, by simpa using hZl, fun i hi => ?_⟩ (by show b.length - (v + 1) < _; omega) (gcY (v + 1) _)
        dsimp only
        rw [getI_set (by omega)]
        by_cases e : i = v
        · subst e; rw [if_pos rfl]
        · rw [if_neg e]; exact hZ i (by omega)
      · obtain rfl : v = b.length := by omega
        have hN := hnear Z hZl hZ
        repeat' first
 | (apply c_nil)
 | ((first | apply s_lss | apply s_leq | apply s_gtr | apply s_geq | apply s_eql | apply s_neq); exact rfl; all_goals (intro _; try (exfalso; omega)))
 | (apply c_seq)
 | (apply c_reg)
 | (apply c_exitH)
 | (apply c_condF; exact rfl)
 | (with_reducible apply k_c)
        apply c_pre (vs := [x, y, .int .i64 (q : Int), .sl 0 1 0 b.length]) (H' := [some (.data (iL Z))])
        · simp [go_sem, fx, fy]
        refine hend Z _ _ _ hZl (fun v hv => ?_) ?_ hN rfl
        · rw [hZ v hv]; have := hsb v hv; omega
        · rw [hZ q hq]; unfold gf at hs2; omega
theorem f54 {b : List (List Int)} (hB : IsB b) {q : Nat} (hq : q < b.length) : ∀ (k : Nat) {x y : AV} {l : List Int}, IsLL x b → IsL y l → l.length = b.length → (∀ v : Nat, v < b.length → -1099511627776 ≤ getI l (v : Int) ∧ getI l (v : Int) ≤ 1099511627776) → (∀ v : Nat, v < b.length → (getI l (v : Int)).natAbs < 2 ^ k) → ∀ {m : Nat}, smK + 1 + k ≤ m →
    evF tab it m 54 [x, y, .int .i64 (q : Int)] [] = some (.sl 0 1 0 b.length, [some (.data (iL (redT b l q)))])
  | 0, x, y, l, hx, hy, hln, hb, hk, m, hm => by
    obtain ⟨m, rfl⟩ : ∃ j, m = j + 1 := ⟨m - 1, by omega⟩
    refine f54_core hB hq hx hy hln hb (by omega) fun h => absurd (fun v hv => ?_) h
    have := hk v hv
    have := tdiv2 (getI l (v : Int))
    omega
  | k + 1, x, y, l, hx, hy, hln, hb, hk, m, hm => by
    obtain ⟨m, rfl⟩ : ∃ j, m = j + 1 := ⟨m - 1, by omega⟩
    refine f54_core hB hq hx hy hln hb (by omega) fun _ args H ha => ?_
    have hhl := halfL_len l
    rw [hln] at hhl
    have hhg := fun (v : Nat) (hv : v < b.length) => halfL_get (l := l) (v := v) (by omega)
    have ih := f54 hB hq k hx (rd_isL hhl) hhl (fun v hv => by
      rw [hhg v hv]
      have := hb v hv
      have := tdiv2 (getI l (v : Int))
      omega) (fun v hv => by
      rw [hhg v hv]
      have h1 := hk v hv
      rw [Nat.pow_succ] at h1
      have := tdiv2 (getI l (v : Int))
      omega) (m := m) (by omega)
    exact callPure_own ha ih rfl (by simp [HO.hasRd, iL_noRd]) (frz_sl rfl (redT_ok hB (halfL l) hq).1)
end Go.AM.Ch

set_option linter.unusedSectionVars false
set_option linter.unusedVariables false
set_option linter.unusedSimpArgs false
namespace Go.AM.Ch
attribute [local go_sem] gc subHeap reach_skip ren_free reach_new reach_newp reach_end rangeL roots boxCells nodupB posOf renL AV.ren pickO renH renO looks look bindEnv envOf reach_int reach_bool reach_nilS reach_rd putRow cells_sl cells_int cells_bool cells_nilS cells_rd cells_agg reach_agg reach_tup idFreeL idf_sl idf_ptr idf_int idf_bool idf_nilS idf_rd reach_fn reach_mp cells_fn cells_ptr cells_mp idf_mp idf_fn idf_agg idf_tup
set_option maxHeartbeats 8000000
theorem c54 {x y : AV} {b : List (List Int)} {s : List Int} {q : Nat} (hx : IsLL x b) (hy : IsL y s) (hB : IsB b) (hs : InR b.length 1048576 s) (hq : q < b.length) {m : Nat} (hm : smK + 22 ≤ m) (H : Heap) :
    callPure (evF tab it m) true 54 [x, y, .int .i64 (q : Int)] H = some (.rd 1 b.length (iL (redT b s q)), H) := by
  have f := f54 hB hq 21 hx hy hs.1 (fun v hv => by have := inR_get hs v hv; omega) (fun v hv => by
    have := inR_get hs v hv
    have e : (2 : Nat) ^ 21 = 2097152 := by decide
    omega) (m := m) hm
  exact callPure_frz (by simp [idFreeL, AV.idFree, hx.free, hy.free]) (by simp) f (frz_sl rfl (redT_ok hB s hq).1)
/-- the scripts of states are small -/
theorem redT_st {b : List (List Int)} (hB : IsB b) {s : List Int} (hs : InR b.length 1048576 s) {q : Nat} (hq : q < b.length) : ∀ v : Nat, v < b.length → -104860600 ≤ getI (redT b s q) (v : Int) ∧ getI (redT b s q) (v : Int) ≤ 104860600 := fun v hv => by
  have := redT_le hB (l := s) hq (M := 1048576) (by decide) (fun w hw _ => inR_get hs w hw) v hv
  omega
end Go.AM.Ch

set_option linter.unusedSectionVars false
set_option linter.unusedVariables false
set_option linter.unusedSimpArgs false
namespace Go.AM.Ch
set_option maxHeartbeats 8000000
/-- the reduced list -/
noncomputable def redL (b : List (List Int)) (l : List Int) (q : Nat) : List Int := apl b l (redT b l q)
theorem redL_len (b : List (List Int)) (l : List Int) (q : Nat) : (redL b l q).length = b.length := apl_len _ _ _
theorem redL_red {b : List (List Int)} (hB : IsB b) (l : List Int) {q : Nat} (hq : q < b.length) : Red b.length (ed b) q (gf (redL b l q)) := (redT_ok hB l hq).2.2.congr fun v hv => (apl_ap hB l _ hv).symm
end Go.AM.Ch

set_option linter.unusedSectionVars false
set_option linter.unusedVariables false
set_option linter.unusedSimpArgs false
namespace Go.AM.Ch
attribute [local go_sem] gc subHeap reach_skip ren_free reach_new reach_newp reach_end rangeL roots boxCells nodupB posOf renL AV.ren pickO renH renO looks look bindEnv envOf reach_int reach_bool reach_nilS reach_rd putRow cells_sl cells_int cells_bool cells_nilS cells_rd cells_agg reach_agg reach_tup idFreeL idf_sl idf_ptr idf_int idf_bool idf_nilS idf_rd reach_fn reach_mp cells_fn cells_ptr cells_mp idf_mp idf_fn idf_agg idf_tup
set_option maxHeartbeats 8000000
/-- chips can be taken away from the places from one on, so that what remains is not won -/
def Ls (b : List (List Int)) : Nat → List Int → Nat → Prop
  | 0, l, _ => getI (redL b l 0) 0 < 0
  | k + 1, l, fr => ∃ v : Nat, fr ≤ v ∧ v < b.length ∧ Ls b k (l.set v (getI l (v : Int) - 1)) v
noncomputable instance (b : List (List Int)) (k : Nat) (l : List Int) (fr : Nat) : Decidable (Ls b k l fr) := Classical.propDecidable _
/-- numbers from which k chips can be taken -/
structure Tk (n k : Nat) (l : List Int) : Prop where
  len : l.length = n
  oth : ∀ v : Nat, v < n → v ≠ 0 → -100 + (k : Int) ≤ getI l (v : Int) ∧ getI l (v : Int) ≤ 100
  own : -1125899906842624 + (k : Int) ≤ getI l ((0 : Nat) : Int) ∧ getI l ((0 : Nat) : Int) ≤ 1125899906842624
theorem Tk.near {n : Nat} {l : List Int} (h : Tk n 0 l) : Near n 0 l := ⟨h.len, fun v hv h0 => by have := h.oth v hv h0; omega, by have := h.own; omega⟩
theorem Tk.step {n k : Nat} {l : List Int} (h : Tk n (k + 1) l) {v : Nat} (hv : v < n) : Tk n k (l.set v (getI l (v : Int) - 1)) := by
  have hl := h.len
  refine ⟨by simp [hl], fun u hu h0 => ?_, ?_⟩
  · rw [getI_set (by omega)]
    have := h.oth u hu h0
    split
    · rename_i e; subst e; omega
    · omega
  · rw [getI_set (by omega)]
    have := h.own
    split
    · rename_i e; subst e; omega
    · omega
theorem Tk.all {n k : Nat} {l : List Int} (h : Tk n k l) : ∀ v : Nat, v < n → -1125899906842624 ≤ getI l (v : Int) ∧ getI l (v : Int) ≤ 1125899906842624 := fun v hv => by
  by_cases e : v = 0
  · subst e; have := h.own; omega
  · have := h.oth v hv e; omega
/-- scripts of what is near are small -/
theorem redT_near {b : List (List Int)} (hB : IsB b) {l : List Int} {q : Nat} (hq : q < b.length) (hl : Near b.length q l) : ∀ v : Nat, v < b.length → -104860600 ≤ getI (redT b l q) (v : Int) ∧ getI (redT b l q) (v : Int) ≤ 104860600 := fun v hv => by
  have := redT_le hB (l := l) hq (M := 1048576) (by decide) (fun w hw h0 => by have := hl.oth w hw h0; omega) v hv
  omega
theorem c81p {args : List AV} {x y : AV} {b : List (List Int)} {l : List Int} {q : Nat} (hx : IsLL x b) (hy : IsL y l) (hB : IsB b) (hq : q < b.length) (hl : Near b.length q l) {m : Nat} (hm : smK ≤ m) (H : Heap) (ha : frzL H 40 args = some [x, y, .int .i64 (q : Int)]) :
    callPure (evF tab it m) true 81 args H = some (.rd 1 b.length (iL (redT b l q)), H) :=
  callPure_own ha (f81 hx hy hB hq hl hm) rfl (by simp [HO.hasRd, iL_noRd]) (frz_sl rfl (redT_ok hB l hq).1)
theorem mut73 {call : CallF} {x : AV} {n : Nat} {C : List AV} {a c : Int} {w : Bool} (fx : x.idFree = true) (h : call 73 [x, .sl 0 1 0 n, .int .i64 a, .int .i64 c] [some (.data C)] = some (.bool w, [some (.data C)])) :
    callMut call 73 [x, .sl 0 1 0 n, .int .i64 a, .int .i64 c] [some (.data C)] = some (.bool w, [some (.data C)]) := by
  simp [callMut, subHeap, backOf, writeBack, h, go_sem, fx]
theorem fin_k1 {n : Nat} {env : Env} {C : List AV} {w : Bool} {res : Go.AM.R} (hr : look env n = .bool w) (e : some (AV.bool w, [some (HO.data C)]) = res) : finish 1 [.t n] env [some (.data C)] = res := by
  have h : gc 1 [.bool w] [some (.data C)] = some ([.bool w], [some (.data C)]) := by simp [go_sem]
  rw [← e]
  simp [finish, ress, resOf, hr, tupOf, h]
theorem leafT2 {p : Prop} [Decidable p] {H : Heap} (h : p) : some (AV.bool true, H) = some (AV.bool (decide p), H) := by simp [h]
theorem leafF2 {p : Prop} [Decidable p] {H : Heap} (h : ¬ p) : some (AV.bool false, H) = some (AV.bool (decide p), H) := by simp [h]
/-- loses -/
theorem f73 {x : AV} {b : List (List Int)} (hx : IsLL x b) (hB : IsB b) : ∀ (k : Nat) {l : List Int} {fr : Nat}, k ≤ 100 → Tk b.length k l → fr ≤ b.length → ∀ {m : Nat}, smK + 1 + k ≤ m →
    evF tab it m 73 [x, .sl 0 1 0 b.length, .int .i64 (k : Int), .int .i64 (fr : Int)] [some (.data (iL l))] = some (.bool (decide (Ls b k l fr)), [some (.data (iL l))])
  | 0, l, fr, _, hT, hfr, m, hm => by
    obtain ⟨m, rfl⟩ : ∃ j, m = j + 1 := ⟨m - 1, by omega⟩
    have hm1 : 300 ≤ m := by have := smK_big; omega
    have fx := hx.free
    have hn1 := hB.n1; have hn2 := hB.n2
    have hln := hT.len
    have e81 := fun H => c81p (args := [x, .sl 0 1 0 b.length, .int .i64 0]) (q := 0) hx (rd_isL hln) hB (by omega) hT.near (m := m) (by omega) H
    have e81' := e81 [some (.data (iL l))] (frzL_cons (frzV_of fx) (frzL_cons (frz_sl rfl hln) (frzL_cons rfl frzL_nil)))
    have hTl := (redT_ok hB l (q := 0) (by omega)).1
    have hTb := redT_near hB (q := 0) (by omega) hT.near
    have e55 := fun H => c55p (args := [x, .sl 0 1 0 b.length, .rd 1 b.length (iL (redT b l 0))]) hx (rd_isL hln) (rd_isL hTl) hB.bd hln hTl (fun v hv => by have := hTb v hv; omega) (fun v hv => by have := hT.all v hv; omega) (m := m) (by omega) H
    have e55' := e55 [some (.data (iL l))] (frzL_cons (frzV_of fx) (frzL_cons (frz_sl rfl hln) (frzL_cons (frzV_of (rd_isL hTl).free) frzL_nil)))
    have hd : decide (Ls b 0 l fr) = decide (getI (apl b l (redT b l 0)) 0 < 0) := decide_eq_decide.2 Iff.rfl
    rw [hd]
    have hAl := apl_len b l (redT b l 0)
    clear hm
    refine f_enterH rfl rfl ?_
    show RC (evF tab it m) it m _ 1 (finish 1 _) _ (finish 1 _) _ _ _
    generalize evF tab it m = call at *
    generalize apl b l (redT b l 0) = A at *
    have iA := rd_isL hAl
    repeat' first
 | (apply s_mov; (focus ((conv => lhs; whnf); done)))
 | (apply c_nil)
 | ((first | apply s_lss | apply s_leq | apply s_gtr | apply s_geq | apply s_eql | apply s_neq); exact rfl; all_goals (intro _; try (exfalso; omega)))
 | (apply s_cn; (focus (repeat (first | apply opds_nil | (apply opds_cons; (first | (focus ((conv => lhs; whnf); done)) | exact rfl))))); exact e81')
 | (apply s_cn; (focus (repeat (first | apply opds_nil | (apply opds_cons; (first | (focus ((conv => lhs; whnf); done)) | exact rfl))))); exact e55')
 | (apply s_idx; (focus ((conv => lhs; whnf); done)); exact rfl; (first | assumption | (apply IsLL.at; assumption; omega)); omega)
 | (apply s_ldI; exact rfl; omega)
 | (apply c_seq)
 | (apply c_reg)
 | (apply c_ret)
 | (apply c_condT; exact rfl)
 | (with_reducible apply k_c)
    all_goals first
      | (refine fin_k1 (w := true) ?_ (leafT2 (p := getI A 0 < 0) ?_) <;> first | exact rfl | omega)
      | (refine fin_k1 (w := false) ?_ (leafF2 (p := getI A 0 < 0) ?_) <;> first | exact rfl | omega)
  | k + 1, l, fr, hk, hT, hfr, m, hm => by
    obtain ⟨m, rfl⟩ : ∃ j, m = j + 1 := ⟨m - 1, by omega⟩
    have hm1 : 300 ≤ m := by have := smK_big; omega
    have fx := hx.free
    have hn1 := hB.n1; have hn2 := hB.n2
    have hln := hT.len
    have lx : ∀ H, evP H .len [x] = some (.int .i64 ((b.length : Nat) : Int)) := fun H => by cases hx <;> rfl
    have ih := fun (v : Nat) (hv : v < b.length) => f73 hx hB k (fr := v) (by omega) (hT.step hv) (by omega) (m := m) (by omega)
    have hb := hT.all
    have e0 : ((k + 1 : Nat) : Int) - 1 = (k : Int) := by omega
    refine f_enterH rfl rfl ?_
    show RC (evF tab it m) it m _ 1 (finish 1 _) _ (finish 1 _) _ _ _
    generalize evF tab it m = call at *
    have gcO : ∀ (v : Nat) (C : List AV), gc 1 [x, .sl 0 1 0 b.length, .int .i64 ((k + 1 : Nat) : Int), .int .i64 (v : Int)] [some (.data C)] = some ([x, .sl 0 1 0 b.length, .int .i64 ((k + 1 : Nat) : Int), .int .i64 (v : Int)], [some (.data C)]) := fun v C => by simp [go_sem, fx]
    repeat' first
 | (apply s_mov; (focus ((conv => lhs; whnf); done)))
 | (apply c_nil)
 | ((first | apply s_lss | apply s_leq | apply s_gtr | apply s_geq | apply s_eql | apply s_neq); exact rfl; all_goals (intro _; try (exfalso; omega)))
 | (apply c_seq)
 | (apply c_reg)
 | (apply c_block)
 | (apply c_skip)
 | (apply c_condF; exact rfl)
 | (with_reducible apply k_c)
    refine c_loop ?_
    refine loop_gc (σ := Nat) (fun v => [x, .sl 0 1 0 b.length, .int .i64 ((k + 1 : Nat) : Int), .int .i64 (v : Int)]) (fun _ => [some (.data (iL l))]) (fun v => fr ≤ v ∧ v ≤ b.length ∧ ∀ u : Nat, fr ≤ u → u < v → ¬ Ls b k (l.set u (getI l (u : Int) - 1)) u) (fun v => b.length - v) ?_ _ fr _ _ ⟨by omega, hfr, fun u h1 h2 => by omega⟩ (by omega) (gcO _ _)
    intro v ⟨hv0, hv1, hno⟩ K hK
    by_cases hvn : v < b.length
    · have mt := mut73 fx (ih v hvn)
      have hbv := hb v hvn
      have hset : (l.set v (getI l (v : Int) - 1)).set v (getI (l.set v (getI l (v : Int) - 1)) (v : Int) + 1) = l := by
        rw [getI_set (by omega), if_pos rfl, List.set_set]
        have e : getI l (v : Int) - 1 + 1 = l[v]'(by omega) := by rw [getI_nat]; simp [List.getD, show v < l.length by omega]
        rw [e]
        exact List.set_getElem_self _
      have hl1 : (l.set v (getI l (v : Int) - 1)).length = b.length := by simp [hln]
      have hg1 : getI (l.set v (getI l (v : Int) - 1)) (v : Int) = getI l (v : Int) - 1 := by rw [getI_set (by omega), if_pos rfl]
      rw [← e0] at mt
      have hK1 := hK (v + 1)
      have hlt : ∀ h : Ls b k (l.set v (getI l (v : Int) - 1)) v, Ls b (k + 1) l fr := fun h => ⟨v, hv0, hvn, h⟩
      have ld := fun H h => p_ldO (H := H) (id := 0) (l := l) (i := v) h (by omega)
      have st := fun (vv : Int) call H h => e_stO (call := call) (H := H) (id := 0) (l := l) (i := v) (v := vv) h (by omega)
      by_cases hd : Ls b k (l.set v (getI l (v : Int) - 1)) v
      · simp only [hd, decide_true] at mt
        have hl1' : v < (l.set v (getI l (v : Int) - 1)).length := by omega
        have ld2 := fun H h => p_ldO (H := H) (id := 0) (l := l.set v (getI l (v : Int) - 1)) (i := v) h hl1'
        have st2 := fun (vv : Int) call H h => e_stO (call := call) (H := H) (id := 0) (l := l.set v (getI l (v : Int) - 1)) (i := v) (v := vv) h hl1'
        repeat' first
 | (apply s_mov; (focus ((conv => lhs; whnf); done)))
 | (apply c_nil)
 | ((first | apply s_lss | apply s_leq | apply s_gtr | apply s_geq | apply s_eql | apply s_neq); exact rfl; all_goals (intro _; try (exfalso; omega)))
 | ((first | apply s_add | apply s_sub); exact rfl; omega)
 | (apply s_pn; (focus (repeat (first | apply opds_nil | (apply opds_cons; (first | (focus ((conv => lhs; whnf); done)) | exact rfl))))); exact lx _)
 | (apply s_pn; (focus (repeat (first | apply opds_nil | (apply opds_cons; (first | (focus ((conv => lhs; whnf); done)) | exact rfl))))); exact p_ixO hvn)
 | (apply s_pn; (focus (repeat (first | apply opds_nil | (apply opds_cons; (first | (focus ((conv => lhs; whnf); done)) | exact rfl))))); exact ld _ rfl)
 | (apply s_st; (focus (repeat (first | apply opds_nil | (apply opds_cons; (first | (focus ((conv => lhs; whnf); done)) | exact rfl))))); exact st _ _ _ rfl)
 | (apply s_en; (focus (repeat (first | apply opds_nil | (apply opds_cons; (first | (focus ((conv => lhs; whnf); done)) | exact rfl))))); exact mt)
 | (apply s_pn; (focus (repeat (first | apply opds_nil | (apply opds_cons; (first | (focus ((conv => lhs; whnf); done)) | exact rfl))))); exact ld2 _ rfl)
 | (apply s_st; (focus (repeat (first | apply opds_nil | (apply opds_cons; (first | (focus ((conv => lhs; whnf); done)) | exact rfl))))); exact st2 _ _ _ rfl)
 | (apply c_seq)
 | (apply c_reg)
 | (apply c_block)
 | (apply c_skip)
 | (apply c_ret)
 | (apply c_condT; exact rfl)
 | (with_reducible apply k_c)
        all_goals first
          | (exfalso; omega)
          | (simp only [List.set_cons_zero, hset]
             refine fin_k1 ?_ (leafT2 (hlt hd)); exact rfl)
      · simp only [hd, decide_false] at mt
        have hl1' : v < (l.set v (getI l (v : Int) - 1)).length := by omega
        have ld2 := fun H h => p_ldO (H := H) (id := 0) (l := l.set v (getI l (v : Int) - 1)) (i := v) h hl1'
        have st2 := fun (vv : Int) call H h => e_stO (call := call) (H := H) (id := 0) (l := l.set v (getI l (v : Int) - 1)) (i := v) (v := vv) h hl1'
        repeat' first
 | (apply s_mov; (focus ((conv => lhs; whnf); done)))
 | (apply c_nil)
 | ((first | apply s_lss | apply s_leq | apply s_gtr | apply s_geq | apply s_eql | apply s_neq); exact rfl; all_goals (intro _; try (exfalso; omega)))
 | ((first | apply s_add | apply s_sub); exact rfl; omega)
 | (apply s_pn; (focus (repeat (first | apply opds_nil | (apply opds_cons; (first | (focus ((conv => lhs; whnf); done)) | exact rfl))))); exact lx _)
 | (apply s_pn; (focus (repeat (first | apply opds_nil | (apply opds_cons; (first | (focus ((conv => lhs; whnf); done)) | exact rfl))))); exact p_ixO hvn)
 | (apply s_pn; (focus (repeat (first | apply opds_nil | (apply opds_cons; (first | (focus ((conv => lhs; whnf); done)) | exact rfl))))); exact ld _ rfl)
 | (apply s_st; (focus (repeat (first | apply opds_nil | (apply opds_cons; (first | (focus ((conv => lhs; whnf); done)) | exact rfl))))); exact st _ _ _ rfl)
 | (apply s_en; (focus (repeat (first | apply opds_nil | (apply opds_cons; (first | (focus ((conv => lhs; whnf); done)) | exact rfl))))); exact mt)
 | (apply s_pn; (focus (repeat (first | apply opds_nil | (apply opds_cons; (first | (focus ((conv => lhs; whnf); done)) | exact rfl))))); exact ld2 _ rfl)
 | (apply s_st; (focus (repeat (first | apply opds_nil | (apply opds_cons; (first | (focus ((conv => lhs; whnf); done)) | exact rfl))))); exact st2 _ _ _ rfl)
 | (apply c_seq)
 | (apply c_reg)
 | (apply c_block)
 | (apply c_skip)
 | (apply c_condT; exact rfl)
 | (apply c_condF; exact rfl)
 | (with_reducible apply k_c)
        all_goals first
          | (exfalso; omega)
          | (refine hK1 _ _ ⟨by omega, by omega, fun u h1 h2 => ?_⟩ (by omega) ?_
             rotate_left
             · have h : gc 1 [x, .sl 0 1 0 b.length, .int .i64 ((k + 1 : Nat) : Int), .int .i64 ((v + 1 : Nat) : Int)] [some (.data (iL ((l.set v (getI l (v : Int) - 1)).set v (getI (l.set v (getI l (v : Int) - 1)) (v : Int) + 1))))] = some ([x, .sl 0 1 0 b.length, .int .i64 ((k + 1 : Nat) : Int), .int .i64 ((v + 1 : Nat) : Int)], [some (.data (iL l))]) := by
                 rw [hset]; exact gcO _ _
               exact h
             rcases (by omega : u < v ∨ u = v) with h | rfl
             · exact hno u h1 h
             · exact hd)
    · obtain rfl : v = b.length := by omega
      repeat' first
 | (apply s_mov; (focus ((conv => lhs; whnf); done)))
 | (apply c_nil)
 | ((first | apply s_lss | apply s_leq | apply s_gtr | apply s_geq | apply s_eql | apply s_neq); exact rfl; all_goals (intro _; try (exfalso; omega)))
 | (apply s_pn; (focus (repeat (first | apply opds_nil | (apply opds_cons; (first | (focus ((conv => lhs; whnf); done)) | exact rfl))))); exact lx _)
 | (apply c_seq)
 | (apply c_reg)
 | (apply c_exitH)
 | (apply c_condF; exact rfl)
 | (with_reducible apply k_c)
      apply c_pre (vs := []) (H' := [some (.data (iL l))])
      · simp [go_sem]
      repeat' first
 | (apply s_mov; (focus ((conv => lhs; whnf); done)))
 | (apply c_nil)
 | (apply c_seq)
 | (apply c_reg)
 | (apply c_ret)
 | (with_reducible apply k_c)
      refine fin_k1 ?_ (leafF2 (p := Ls b (k + 1) l fr) fun ⟨v, h1, h2, h3⟩ => hno v h1 h2 h3)
      exact rfl
end Go.AM.Ch

set_option linter.unusedSectionVars false
set_option linter.unusedVariables false
set_option linter.unusedSimpArgs false
namespace Go.AM.Ch
set_option maxHeartbeats 8000000
theorem fzL_ne {l : List Int} {n : Nat} (h : l.length = n) (hn : 1 ≤ n) : fzL l = .rd 1 n (iL l) := by
  rcases l with _ | ⟨a, r⟩
  · simp at h; omega
  · subst h; simp [fzL]
end Go.AM.Ch

set_option linter.unusedSectionVars false
set_option linter.unusedVariables false
set_option linter.unusedSimpArgs false
namespace Go.AM.Ch
attribute [local go_sem] gc subHeap reach_skip ren_free reach_new reach_newp reach_end rangeL roots boxCells nodupB posOf renL AV.ren pickO renH renO looks look bindEnv envOf reach_int reach_bool reach_nilS reach_rd putRow cells_sl cells_int cells_bool cells_nilS cells_rd cells_agg reach_agg reach_tup idFreeL idf_sl idf_ptr idf_int idf_bool idf_nilS idf_rd reach_fn reach_mp cells_fn cells_ptr cells_mp idf_mp idf_fn idf_agg idf_tup
set_option maxHeartbeats 8000000
def modN (x : Int) (n : Nat) : Nat := (x % 18446744073709551616).toNat % n
theorem modN_lt (x : Int) {n : Nat} (h : 0 < n) : modN x n < n := Nat.mod_lt _ h
theorem wrapU {x : Int} : IntKind.u64.wrap x = x % 18446744073709551616 := by
  simp [IntKind.wrap, IntKind.signed, IntKind.bits]
theorem f49 {x : Int} {n : Nat} (hn : 0 < n) (hn2 : n < 9223372036854775808) {m : Nat} (hm : 1 ≤ m) : evF tab it m 49 [.int .i64 x, .int .i64 (n : Int)] [] = some (.int .i64 (modN x n : Nat), []) := by
  obtain ⟨m, rfl⟩ : ∃ j, m = j + 1 := ⟨m - 1, by omega⟩
  have c1 : ∀ H, evP H (.conv .u64) [.int .i64 x] = some (.int .u64 (((x % 18446744073709551616).toNat : Nat) : Int)) := fun H => by
    simp only [evP, wrapU]
    rw [Int.toNat_of_nonneg (Int.emod_nonneg _ (by decide))]
  have c2 : ∀ H, evP H (.conv .u64) [.int .i64 (n : Int)] = some (.int .u64 (n : Int)) := fun H => by
    simp only [evP, wrapU]
    rw [Int.emod_eq_of_lt (by omega) (by omega)]
  have c3 : ∀ H, evP H (.bin .rem) [.int .u64 (((x % 18446744073709551616).toNat : Nat) : Int), .int .u64 (n : Int)] = some (.int .u64 (modN x n : Nat)) := fun H => by
    simp only [evP, binV, isShift, binInt, Bool.false_eq_true, if_false, if_true]
    rw [if_neg (by omega)]
    rfl
  have hlt : modN x n < n := Nat.mod_lt _ hn
  have c4 : ∀ H, evP H (.conv .i64) [.int .u64 (modN x n : Nat)] = some (.int .i64 (modN x n : Nat)) := fun H => by
    simp only [evP]
    rw [wrapI (by omega)]
  refine f_enter rfl rfl ?_
  repeat' first
 | (apply s_mov; (focus ((conv => lhs; whnf); done)))
 | (apply c_nil)
 | (apply s_pn; (focus (repeat (first | apply opds_nil | (apply opds_cons; (first | (focus ((conv => lhs; whnf); done)) | exact rfl))))); exact c1 _)
 | (apply s_pn; (focus (repeat (first | apply opds_nil | (apply opds_cons; (first | (focus ((conv => lhs; whnf); done)) | exact rfl))))); exact c2 _)
 | (apply s_pn; (focus (repeat (first | apply opds_nil | (apply opds_cons; (first | (focus ((conv => lhs; whnf); done)) | exact rfl))))); exact c3 _)
 | (apply s_pn; (focus (repeat (first | apply opds_nil | (apply opds_cons; (first | (focus ((conv => lhs; whnf); done)) | exact rfl))))); exact c4 _)
 | (apply c_seq)
 | (apply c_reg)
 | (apply c_ret)
 | (with_reducible apply k_c)
  exact fin_t (by (conv => lhs; whnf)) (by rfl) rfl
theorem c49 {x : Int} {n : Nat} (hn : 0 < n) (hn2 : n < 9223372036854775808) {m : Nat} (hm : 1 ≤ m) (H : Heap) : callPure (evF tab it m) true 49 [.int .i64 x, .int .i64 (n : Int)] H = some (.int .i64 (modN x n : Nat), H) :=
  callPure_free rfl (by simp) (f49 hn hn2 hm) rfl
/-- a number of a state -/
def stN (x : Int) (w : Nat) : Int := if x < -(w : Int) ∨ x > w then (modN x (2 * w + 1) : Nat) - (w : Int) else x
theorem stN_le (x : Int) (w : Nat) : -(w : Int) ≤ stN x w ∧ stN x w ≤ w := by
  have := modN_lt x (n := 2 * w + 1) (by omega)
  unfold stN
  split <;> omega
def stX (l : List Int) (i : Nat) : Int := if i < l.length then getI l (i : Int) else 0
def stL (n : Nat) (l : List Int) (w : Nat) : List Int := (List.range n).map fun i => stN (stX l i) w
theorem stL_len (n : Nat) (l : List Int) (w : Nat) : (stL n l w).length = n := by simp [stL]
theorem stL_get {n : Nat} {l : List Int} {w i : Nat} (h : i < n) : getI (stL n l w) (i : Int) = stN (stX l i) w := by
  rw [getI_nat]; simp [stL, List.getD, h]
theorem stL_in (n : Nat) (l : List Int) (w : Nat) (hw : w ≤ 1048576) : InR n 1048576 (stL n l w) := by
  refine ⟨stL_len _ _ _, fun v hv => ?_⟩
  obtain ⟨i, _, rfl⟩ := List.mem_map.1 hv
  have := stN_le (stX l i) w
  omega
/-- state -/
theorem f36 {x y : AV} {b : List (List Int)} {l : List Int} {w : Nat} (hx : IsLL x b) (hy : IsL y l) (h0 : 1 ≤ b.length) (hb : b.length ≤ 12) (hw : w ≤ 1048576) {m : Nat} (hm : 100 ≤ m) :
    evF tab it m 36 [x, y, .int .i64 (w : Int)] [] = some (ownV 0 (iL (stL b.length l w)), owH (iL (stL b.length l w))) := by
  obtain ⟨m, rfl⟩ : ∃ j, m = j + 1 := ⟨m - 1, by omega⟩
  have fx := hx.free; have fy := hy.free
  have lx : ∀ H, evP H .len [x] = some (.int .i64 ((b.length : Nat) : Int)) := fun H => by cases hx <;> rfl
  have ly : ∀ H, evP H .len [y] = some (.int .i64 ((l.length : Nat) : Int)) := fun H => p_lenI hy
  have hRl := stL_len b.length l w
  have hRg := fun (i : Nat) (h : i < b.length) => stL_get (l := l) (w := w) h
  have e49 := fun (z : Int) H => c49 (x := z) (n := 2 * w + 1) (by omega) (by omega) (m := m) (by omega) H
  rw [show ((2 * w + 1 : Nat) : Int) = 2 * (w : Int) + 1 by omega] at e49
  have mu := fun H => p_mul2 (H := H) (a := (w : Int)) (by omega)
  have ngw := fun H => p_negI (H := H) (a := (w : Int)) (by omega)
  generalize stL b.length l w = R at *
  refine f_enter rfl rfl ?_
  generalize evF tab it m = call at *
  have own_gc : ∀ (i : Nat) (L : List AV), gc 0 [x, y, .int .i64 (w : Int), ownV 0 L, .int .i64 (i : Int)] (owH L) = some ([x, y, .int .i64 (w : Int), ownV 0 L, .int .i64 (i : Int)], owH L) := fun i L => by
    cases L <;> simp [ownV, owH, go_sem, fx, fy]
  repeat' first
 | (apply s_mov; (focus ((conv => lhs; whnf); done)))
 | (apply c_nil)
 | (apply c_seq)
 | (apply c_reg)
 | (apply c_block)
 | (with_reducible apply k_c)
  refine c_loop ?_
  refine loop_gc (σ := Nat) (fun i => [x, y, .int .i64 (w : Int), ownV 0 (iL (R.take i)), .int .i64 (i : Int)]) (fun i => owH (iL (R.take i))) (fun i => i ≤ b.length) (fun i => b.length - i) ?_ _ 0 _ _ (by omega) (by omega) (own_gc 0 [])
  intro i hi K hK
  by_cases hin : i < b.length
  · have h3 := hRg i hin
    have hstep : R.take (i + 1) = R.take i ++ [stN (stX l i) w] := by
      rw [← List.take_append_getElem (by omega : i < R.length)]
      congr 1
      rw [getI_nat] at h3
      simpa [List.getD, show i < R.length by omega] using h3
    have hK1 := hK (i + 1)
    rw [hstep] at hK1
    have e1 : ∀ z : Int, iL (R.take i ++ [z]) = iL (R.take i) ++ [.int .i64 z] := fun z => by simp [iL]
    rw [e1] at hK1
    have hAl : (iL (R.take i)).length ≤ 12 := by rw [iL_len]; simp; omega
    generalize iL (R.take i) = A at *
    have hX : (i < l.length ∧ stX l i = getI l (i : Int)) ∨ (¬ i < l.length ∧ stX l i = 0) := by
      unfold stX
      by_cases h : i < l.length
      · left; exact ⟨h, if_pos h⟩
      · right; exact ⟨h, if_neg h⟩
    have hN : ((stX l i < -(w : Int) ∨ stX l i > w) ∧ stN (stX l i) w = (modN (stX l i) (2 * w + 1) : Nat) - (w : Int)) ∨ (¬ (stX l i < -(w : Int) ∨ stX l i > w) ∧ stN (stX l i) w = stX l i) := by
      unfold stN
      by_cases h : stX l i < -(w : Int) ∨ stX l i > w
      · left; exact ⟨h, if_pos h⟩
      · right; exact ⟨h, if_neg h⟩
    have e49' := e49 (stX l i)
    have hmod := modN_lt (stX l i) (n := 2 * w + 1) (by omega)
    generalize stN (stX l i) w = Q at *
    generalize stX l i = X at *
    rcases hX with ⟨hx1, rfl⟩ | ⟨hx1, rfl⟩ <;> rcases hN with ⟨hn1, rfl⟩ | ⟨hn1, rfl⟩ <;> rcases A with _ | ⟨u, us⟩ <;> simp only [ownV, owH] at *
    all_goals
      repeat' first
 | (apply s_mov; (focus ((conv => lhs; whnf); done)))
 | (apply s_gT; exact rfl)
 | (apply s_gF; exact rfl)
 | (apply c_nil)
 | (apply s_pickT; exact rfl; (focus ((conv => lhs; whnf); done)))
 | (apply s_pickF; exact rfl; (focus ((conv => lhs; whnf); done)))
 | ((first | apply s_lss | apply s_leq | apply s_gtr | apply s_geq | apply s_eql | apply s_neq); exact rfl; all_goals (intro _; try (exfalso; omega)))
 | ((first | apply s_add | apply s_sub); exact rfl; omega)
 | (apply s_pn; (focus (repeat (first | apply opds_nil | (apply opds_cons; (first | (focus ((conv => lhs; whnf); done)) | exact rfl))))); exact lx _)
 | (apply s_pn; (focus (repeat (first | apply opds_nil | (apply opds_cons; (first | (focus ((conv => lhs; whnf); done)) | exact rfl))))); exact ly _)
 | (apply s_pn; (focus (repeat (first | apply opds_nil | (apply opds_cons; (first | (focus ((conv => lhs; whnf); done)) | exact rfl))))); exact mu _)
 | (apply s_pn; (focus (repeat (first | apply opds_nil | (apply opds_cons; (first | (focus ((conv => lhs; whnf); done)) | exact rfl))))); exact ngw _)
 | (apply s_cn; (focus (repeat (first | apply opds_nil | (apply opds_cons; (first | (focus ((conv => lhs; whnf); done)) | exact rfl))))); exact e49' _)
 | (apply s_en; (focus (repeat (first | apply opds_nil | (apply opds_cons; (first | (focus ((conv => lhs; whnf); done)) | exact rfl))))); exact e_bld1 rfl rfl rfl rfl)
 | (apply s_en; (focus (repeat (first | apply opds_nil | (apply opds_cons; (first | (focus ((conv => lhs; whnf); done)) | exact rfl))))); exact e_app_nil rfl (by omega) (by decide))
 | (apply s_en; (focus (repeat (first | apply opds_nil | (apply opds_cons; (first | (focus ((conv => lhs; whnf); done)) | exact rfl))))); exact e_app_sl rfl rfl (by omega) (by simp at hAl; unfold most; omega))
 | (apply s_idx; (focus ((conv => lhs; whnf); done)); exact rfl; (first | assumption | (apply IsLL.at; assumption; omega)); omega)
 | (apply s_ldI; exact rfl; omega)
 | (apply c_seq)
 | (apply c_reg)
 | (apply c_block)
 | (apply c_skip)
 | (apply c_condT; exact rfl)
 | (apply c_condF; exact rfl)
 | (with_reducible apply k_c)
    all_goals first | (exfalso; omega) | exact hK1 _ _ (by omega) (by omega) (by simp [ownV, owH, go_sem, fx, fy])
  · obtain rfl : i = b.length := by omega
    have hall : R.take b.length = R := List.take_of_length_le (by omega)
    rw [hall]
    generalize hA : iL R = A at *
    repeat' first
 | (apply s_mov; (focus ((conv => lhs; whnf); done)))
 | (apply c_nil)
 | ((first | apply s_lss | apply s_leq | apply s_gtr | apply s_geq | apply s_eql | apply s_neq); exact rfl; all_goals (intro _; try (exfalso; omega)))
 | (apply s_pn; (focus (repeat (first | apply opds_nil | (apply opds_cons; (first | (focus ((conv => lhs; whnf); done)) | exact rfl))))); exact lx _)
 | (apply c_seq)
 | (apply c_reg)
 | (apply c_exitH)
 | (apply c_condF; exact rfl)
 | (with_reducible apply k_c)
    apply c_pre (vs := [ownV 0 A]) (H' := owH A)
    · cases A <;> simp [ownV, owH, go_sem, look, looks, bindEnv, envOf]
    repeat' first
 | (apply s_mov; (focus ((conv => lhs; whnf); done)))
 | (apply c_nil)
 | (apply c_seq)
 | (apply c_reg)
 | (apply c_ret)
 | (with_reducible apply k_c)
    cases A <;> simp [finish, ress, resOf, look, tupOf, ownV, owH, go_sem]
theorem c36 {x y : AV} {b : List (List Int)} {l : List Int} {w : Nat} (hx : IsLL x b) (hy : IsL y l) (h0 : 1 ≤ b.length) (hb : b.length ≤ 12) (hw : w ≤ 1048576) {m : Nat} (hm : 100 ≤ m) (H : Heap) :
    callPure (evF tab it m) true 36 [x, y, .int .i64 (w : Int)] H = some (fzL (stL b.length l w), H) :=
  callPure_frz (by simp [idFreeL, AV.idFree, hx.free, hy.free]) (by simp) (f36 hx hy h0 hb hw hm) (frz_own _)
end Go.AM.Ch

set_option linter.unusedSectionVars false
set_option linter.unusedVariables false
set_option linter.unusedSimpArgs false
namespace Go.AM.Ch
set_option maxHeartbeats 4000000
/-! ### boards made of any numbers: rows that are written -/
theorem renL_free {f : Nat → Option Nat} : ∀ {gs : List AV}, idFreeL gs = true → renL f gs = some gs
  | [], _ => rfl
  | g :: r, h => by
    simp only [idFreeL, Bool.and_eq_true] at h
    simp only [renL, ren_self h.1, Option.bind_some, renL_free h.2, Option.map_some]
theorem reach_pre {H : Heap} : ∀ (pre : List AV) {k : Nat} {acc : List Nat} {r : List AV}, idFreeL pre = true → reach H (k + pre.length) acc (pre ++ r) = reach H k acc r
  | [], _, _, _, _ => rfl
  | v :: pre, k, acc, r, h => by
    simp only [idFreeL, Bool.and_eq_true] at h
    rw [List.length_cons, ← Nat.add_assoc, List.cons_append, reach_skip h.1]
    exact reach_pre pre h.2
theorem gcR {H : Heap} {pre gs : List AV} {p M : Nat} {is : List Nat} {R : List (List AV)} (hp : idFreeL pre = true) (hpl : pre.length ≤ 20) (hg : idFreeL gs = true)
    (hb : H[p]? = some (some (.box (refs is R)))) (hl : is.length = R.length) (hR : ∀ (j i : Nat) (l : List AV), is[j]? = some i → R[j]? = some l → H[i]? = some (some (.data l))) (hd : (p :: is).Nodup) (hk : is.length < 100) :
    gc 0 (pre ++ .sl p 1 0 M :: gs) H = some (pre ++ .sl 0 1 0 M :: gs, some (.box (refs (List.range' 1 is.length) R)) :: rowsH R) := by
  have hφ : nodupB (p :: is) = true := nodupB_iff.2 hd
  have q1 : posOf (p :: is) p = some 0 := posOf_of_get hφ (j := 0) rfl
  have pr : renL (posOf (p :: is)) (refs is R) = some (refs (List.range' 1 is.length) R) := renL_refs hφ is R 1 hl fun j i h => by rw [Nat.add_comm]; exact h
  have hpick := pickO_refs is R hl hR
  obtain ⟨d1, d2⟩ := List.nodup_cons.1 hd
  refine gc_of (φ := p :: is) ?_ hφ (vs' := pre ++ .sl 0 1 0 M :: gs) ?_ (Hp := some (.box (refs is R)) :: rowsH R) ?_ ?_
  · have b2 : boxCells H p = refs is R := by simp [boxCells, hb]
    have e : reach H 400 (rangeL 0 []) (roots H (rangeL 0 []) ++ (pre ++ .sl p 1 0 M :: gs)) = reach H (399 - pre.length) [p] (refs is R ++ gs) := by
      have h1 : rangeL 0 [] = [] := rfl
      have h2 : roots H (rangeL 0 []) = [] := rfl
      rw [h2, List.nil_append, h1, show (400 : Nat) = (400 - pre.length) + pre.length by omega, reach_pre pre hp, show 400 - pre.length = (399 - pre.length) + 1 by omega, reach_new, b2]
      simp
    rw [e, reach_refs' (by omega) hl (fun i hi => ?_) d2 (rows_box hl hR), reach_free _ _ _ _ hg]
    · rfl
    · have h3 : i ≠ p := fun e => d1 (e ▸ hi)
      simp [h3]
  · rw [renL_append, renL_free hp]
    simp [renL, AV.ren, q1, renL_free hg]
  · simp [pickO, hb, hpick]
  · simp [renH, renO, pr, renH_rows]
/-- n rows in memory -/
def HB (n : Nat) (rows : List (List Int)) : Heap := some (.box (refs (List.range' 1 n) (rows.map iL))) :: rowsH (rows.map iL)
structure Rows (n : Nat) (rows : List (List Int)) : Prop where
  len : rows.length = n
  each : ∀ r ∈ rows, r.length = n
theorem Rows.get {n : Nat} {rows : List (List Int)} (h : Rows n rows) {i : Nat} (hi : i < n) : (getLL rows (i : Int)).length = n := by
  rw [getLL_nat]
  have : i < rows.length := by rw [h.len]; exact hi
  simp only [List.getD, List.getElem?_eq_getElem this, Option.getD_some]
  exact h.each _ (List.getElem_mem this)
theorem rows_at {rows : List (List Int)} {i : Nat} (hi : i < rows.length) : (rows.map iL)[i]? = some (iL (getLL rows (i : Int))) := by
  rw [getLL_nat]
  simp [List.getD, hi]
theorem gcHB {pre gs : List AV} {n M : Nat} {rows : List (List Int)} (h : Rows n rows) (hn : n < 100) (hp : idFreeL pre = true) (hpl : pre.length ≤ 20) (hg : idFreeL gs = true) :
    gc 0 (pre ++ .sl 0 1 0 M :: gs) (HB n rows) = some (pre ++ .sl 0 1 0 M :: gs, HB n rows) := by
  have hl : (List.range' 1 n).length = (rows.map iL).length := by simp [h.len]
  have := gcR (H := HB n rows) (p := 0) (M := M) (is := List.range' 1 n) (R := rows.map iL) hp hpl hg rfl hl (rng_rows0 [some (.box (refs (List.range' 1 n) (rows.map iL)))] rfl) (by simp [List.mem_range'_1, List.nodup_range']) (by simpa using hn)
  simpa [HB] using this
theorem hb_row {n i : Nat} {rows : List (List Int)} (h : Rows n rows) (hi : i < n) : (HB n rows)[1 + i]? = some (some (.data (iL (getLL rows (i : Int))))) := by
  have hil : i < rows.length := by rw [h.len]; exact hi
  have := rng_rows0 [some (.box (refs (List.range' 1 n) (rows.map iL)))] (s := 1) (q := n) (R := rows.map iL) rfl i (1 + i) _ (by rw [List.getElem?_range' hi]; simp) (rows_at hil)
  exact this
theorem hb_ld {n i : Nat} {rows : List (List Int)} (h : Rows n rows) (hi : i < n) : evP (HB n rows) (.ld false 1) [.ptr 0 i] = some (.sl (1 + i) 1 0 n) := by
  have hil : i < rows.length := by rw [h.len]; exact hi
  have hc : Heap.cells? (HB n rows) 0 = some (refs (List.range' 1 n) (rows.map iL)) := rfl
  have hr := refs_get (is := List.range' 1 n) (ll := rows.map iL) (j := i) (i := 1 + i) (by rw [List.getElem?_range' hi]; simp) (rows_at hil)
  rw [iL_len, h.get hi] at hr
  obtain ⟨h1, h2⟩ := List.getElem?_eq_some_iff.1 hr
  have h5 : i + 1 ≤ (refs (List.range' 1 n) (rows.map iL)).length := by omega
  simp only [evP, ldc, getRow, hc, Option.bind_some, if_pos h5]
  rw [List.drop_eq_getElem_cons h1, h2]
  simp [wholeOf]
theorem refs_len : ∀ (is : List Nat) {R S : List (List AV)}, R.map List.length = S.map List.length → refs is R = refs is S
  | [], R, S, _ => by simp [refs]
  | i :: is, [], [], _ => rfl
  | i :: is, [], _ :: _, h => by simp at h
  | i :: is, _ :: _, [], h => by simp at h
  | i :: is, l :: R, k :: S, h => by
    simp only [List.map_cons, List.cons.injEq] at h
    simp [refs, h.1, refs_len is h.2]
/-- one number of one row is written -/
def setLL (rows : List (List Int)) (i j : Nat) (x : Int) : List (List Int) := rows.set i ((getLL rows (i : Int)).set j x)
theorem setLL_rows {n i j : Nat} {x : Int} {rows : List (List Int)} (h : Rows n rows) (hi : i < n) : Rows n (setLL rows i j x) := by
  refine ⟨by simp [setLL, h.len], fun r hr => ?_⟩
  unfold setLL at hr
  rcases List.mem_or_eq_of_mem_set hr with hr | hr
  · exact h.each r hr
  · rw [hr, List.length_set]; exact h.get hi
theorem setLL_get {n i j p q : Nat} {x : Int} {rows : List (List Int)} (h : Rows n rows) (hi : i < n) (hj : j < n) : getI (getLL (setLL rows i j x) (p : Int)) (q : Int) = if p = i ∧ q = j then x else getI (getLL rows (p : Int)) (q : Int) := by
  have hil : i < rows.length := by rw [h.len]; exact hi
  have hrl := h.get hi
  have e : getLL (setLL rows i j x) (p : Int) = if p = i then (getLL rows (i : Int)).set j x else getLL rows (p : Int) := by
    unfold setLL
    rw [getLL_nat, getLL_nat rows p]
    by_cases hp : p = i
    · subst hp; simp [List.getD, hil]
    · rw [if_neg hp]; simp [List.getD, List.getElem?_set_ne (Ne.symm hp)]
  rw [e]
  by_cases hp : p = i
  · subst hp
    rw [if_pos rfl, getI_set (by omega)]
    by_cases hq : q = j
    · rw [if_pos hq, if_pos ⟨rfl, hq⟩]
    · rw [if_neg hq, if_neg (fun h => hq h.2)]
  · rw [if_neg hp, if_neg (fun h => hp h.1)]
theorem hb_st {call : CallF} {n i j : Nat} {x : Int} {rows : List (List Int)} (h : Rows n rows) (hi : i < n) (hj : j < n) : evE call (HB n rows) (.st 1) [.ptr (1 + i) j, .int .i64 x] = some (.undef, HB n (setLL rows i j x)) := by
  have hil : i < rows.length := by rw [h.len]; exact hi
  have h1 := hb_row h hi
  have hd : Heap.data? (HB n rows) (1 + i) = some (iL (getLL rows (i : Int))) := data?_iff.2 h1
  have hst := e_stO (call := call) (H := HB n rows) (id := 1 + i) (l := getLL rows (i : Int)) (i := j) (v := x) hd (by rw [h.get hi]; exact hj)
  rw [hst]
  have e1 : (HB n rows).set (1 + i) (some (.data (iL ((getLL rows (i : Int)).set j x)))) = HB n (setLL rows i j x) := by
    unfold HB
    rw [Nat.add_comm, List.set_cons_succ]
    have e2 : (rowsH (rows.map iL)).set i (some (.data (iL ((getLL rows (i : Int)).set j x)))) = rowsH ((setLL rows i j x).map iL) := by
      simp [rowsH, setLL, List.map_set]
    have e3 : refs (List.range' 1 n) (rows.map iL) = refs (List.range' 1 n) ((setLL rows i j x).map iL) := refs_len _ (by
      refine List.ext_getElem (by simp [setLL]) fun k h1 h2 => ?_
      simp only [List.length_map] at h1
      have hkn : k < n := by rw [← h.len]; exact h1
      have a := h.get hkn
      have c := (setLL_rows (x := x) (j := j) h hi).get hkn
      rw [getLL_nat] at a c
      have h3 : k < (setLL rows i j x).length := by simpa [setLL] using h1
      simp only [List.getD, List.getElem?_eq_getElem h1, List.getElem?_eq_getElem h3, Option.getD_some] at a c
      simp [iL_len, a, c])
    rw [e2, e3]
  rw [e1]
theorem hb_frz {n : Nat} {rows : List (List Int)} (h : Rows n rows) (hn : 1 ≤ n) (hn2 : n ≤ 12) : frzV (HB n rows) 40 (.sl 0 1 0 n) = some (fzLL rows) := by
  have hl : (List.range' 1 n).length = (rows.map iL).length := by simp [h.len]
  have hz := frzL_refs (H := HB n rows) (List.range' 1 n) (rows.map iL) 38 hl (by simp; omega) (rng_rows0 [some (.box (refs (List.range' 1 n) (rows.map iL)))] rfl)
  have hbx : Heap.box? (HB n rows) 0 = some (refs (List.range' 1 n) (rows.map iL)) := rfl
  have hda : Heap.data? (HB n rows) 0 = none := rfl
  have hm : ((rows.map iL).map fun l => AV.rd 1 l.length l) = rows.map fzL := by
    rw [List.map_map]
    refine List.map_congr_left fun r hr => ?_
    have := h.each r hr
    rw [fzL_ne this hn]
    simp [iL_len, this]
  rw [hm] at hz
  have hlen : (rows.map fzL).length = n := by simp [h.len]
  rw [frzV_sl, hda, hbx]
  simp only [Option.none_or, Option.bind_some, hz]
  rw [if_pos (by simp [h.len])]
  have ht : (rows.map fzL).take n = rows.map fzL := List.take_of_length_le (by simp [h.len])
  have hne : rows ≠ [] := fun e => by rw [e] at h; have := h.len; simp at this; omega
  have : fzLL rows = .rd 1 n (rows.map fzL) := by
    cases rows with
    | nil => exact absurd rfl hne
    | cons r rs => have := h.len; simp only [List.length_cons] at this; simp [fzLL, this]
  rw [this]
  simp [ht]
end Go.AM.Ch
