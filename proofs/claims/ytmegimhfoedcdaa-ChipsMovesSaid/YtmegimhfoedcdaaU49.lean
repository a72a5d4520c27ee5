/- A part of the proof: U49. -/
import Derived.Test.YtmegimhfoedcdaaU41
import Derived.Test.YtmegimhfoedcdaaU33b
import Derived.Test.YtmegimhfoedcdaaU20
set_option linter.unusedSectionVars false
set_option linter.unusedVariables false
set_option linter.unusedSimpArgs false
namespace Go.AM.Ch
set_option maxHeartbeats 8000000
theorem e_stA' {call : CallF} {H : Heap} {id n : Nat} {c vs : List AV} (hH : H[id]? = some (some (.box c))) (h1 : (AV.agg vs).cells = vs) (h2 : vs.length = n) (h3 : oneL vs = true) (h4 : c.length = n) : evE call H (.st n) [.ptr id 0, .agg vs] = some (.undef, H.set id (some (.box vs))) := by
  subst h2
  simp [evE, stAt, hH, h1, h3, h4, putRow, List.drop_of_length_le]
/-- won: no debt is left at 0 -/
noncomputable def wonB (b : List (List Int)) (s : List Int) : Bool := decide (0 ≤ getI (redL b s 0) ((0 : Nat) : Int))
/-- the order in which all burns -/
noncomputable def ordB (b : List (List Int)) (s : List Int) : List Int := nI (burnL b (redL b s 0) 0)
theorem ordB_len {b : List (List Int)} (hB : IsB b) (s : List Int) : (ordB b s).length = b.length := by
  have hq : 0 < b.length := hB.n1
  have hr := redL_red hB s hq
  obtain ⟨h1, h2⟩ := burnL_ok (b := b) (l := redL b s 0) hq
  have hl := h1.len
  have hleg := burn_leg (b := b) (l := redL b s 0) hq
  unfold ordB
  rw [nI_len]
  apply Classical.byContradiction
  intro hne
  have hqm : (fun u => !(burnL b (redL b s 0) 0).contains u) 0 = false := by
    have : 0 ∈ burnL b (redL b s 0) 0 := List.mem_of_getElem? h1.hd
    simp [this]
  have hex : ∃ w, w < b.length ∧ (fun u => !(burnL b (redL b s 0) 0).contains u) w = true := by
    apply Classical.byContradiction
    intro hc
    have hall : ∀ w ∈ List.range b.length, w ∈ burnL b (redL b s 0) 0 := fun w hw => by
      apply Classical.byContradiction
      intro hm
      exact hc ⟨w, List.mem_range.1 hw, by simp [hm]⟩
    have := nodup_len List.nodup_range hall
    rw [List.length_range] at this
    omega
  obtain ⟨v, hv, hs, hlt⟩ := hr.2 _ hqm hex
  have := hleg v hv hs
  omega
/-- win's winning is right -/
theorem win_right {b : List (List Int)} (hB : IsB b) {s : List Int} (hs : InR b.length 1048576 s) : RightW b s (wonB b s) (redT b s 0) (if wonB b s = true then [] else ordB b s) := by
  have hq : 0 < b.length := hB.n1
  have hr := redL_red hB s hq
  have hRb := redT_st hB hs hq
  have hRl := (redT_ok hB s hq).1
  refine ⟨⟨hRl, fun v hv => ?_⟩, ?_⟩
  · obtain ⟨k, hk, e⟩ := List.getElem_of_mem hv
    have := hRb k (by omega)
    rw [getI_nat] at this
    have h2 : (redT b s 0).getD k 0 = v := by simp [List.getD, hk, e]
    rw [h2] at this
    omega
  · show (_ ∧ _ ∧ ∀ i : Nat, i < b.length → 0 ≤ getI (redL b s 0) (i : Int)) ∨ (_ ∧ _ ∧ ∀ k : Nat, k < b.length → OkAt b (redL b s 0) _ k)
    cases hw : wonB b s with
    | true =>
      left
      refine ⟨rfl, by simp, fun i hi => ?_⟩
      by_cases e : i = 0
      · subst e
        unfold wonB at hw
        simpa using hw
      · exact hr.1 i hi e
    | false =>
      right
      have hol := ordB_len hB s
      refine ⟨rfl, by simpa using hol, fun k hk => ?_⟩
      simp only [Bool.false_eq_true, if_false]
      obtain ⟨h1, -⟩ := burnL_ok (b := b) (l := redL b s 0) hq
      have hlow : ¬ 0 ≤ getI (redL b s 0) ((0 : Nat) : Int) := by unfold wonB at hw; simpa using hw
      unfold ordB at hol ⊢
      generalize burnL b (redL b s 0) 0 = ord at *
      rw [nI_len] at hol
      have hko : k < ord.length := by omega
      have hkl := h1.lt _ (List.getElem_mem hko)
      unfold OkAt
      rw [nI_get hko]
      refine ⟨by omega, fun j hj => ?_, ?_⟩
      · rw [nI_get (by omega)]
        have := (List.pairwise_iff_getElem.1 h1.nd) j k (by omega) hko hj
        omega
      · by_cases e : k = 0
        · subst e
          have h0 := h1.hd
          rw [List.getElem?_eq_getElem hko] at h0
          simp only [Option.some.injEq] at h0
          rw [h0]
          simp only [sumTo]
          omega
        · have := h1.low k (by omega) hko
          unfold brn at this
          rw [List.length_take, Nat.min_eq_left (by omega)] at this
          have e2 : sumTo (fun j => getI (getLL b ((ord[k] : Nat) : Int)) (getI (nI (ord.take k)) (j : Int))) k = sumTo (fun j => getI (getLL b ((ord[k] : Nat) : Int)) (getI (nI ord) (j : Int))) k := sumTo_congr fun j hj => by
            rw [nI_get (by rw [List.length_take]; omega), nI_get (by omega)]
            simp
          rw [e2] at this
          exact this
theorem c99o {args : List AV} {x y : AV} {b : List (List Int)} {l : List Int} {q : Nat} (hx : IsLL x b) (hy : IsL y l) (hB : IsB b) (hq : q < b.length) (hln : l.length = b.length) {m : Nat} (hm : 300 ≤ m) (H : Heap) (ha : frzL H 40 args = some [x, y, .int .i64 (q : Int)]) :
    callPure (evF tab it m) false 99 args H = some (.tup [.sl H.length 1 0 b.length, .sl (H.length + 1) 1 0 (burnL b l q).length], H ++ [some (.data (bL (leftB b.length (burnL b l q)))), some (.data (iL (nI (burnL b l q))))]) := by
  unfold callPure
  rw [ha, Option.bind_some, f99 hx hy hB hq hln hm, Option.bind_some]
  simp [AV.hasRd, hasRdL, HO.hasRd, iL_noRd, bL_noRd, shiftH, AV.ren, renL, idFreeL, idf_sl, renH, renO]
theorem fin_cell3 {p id : Nat} {env : Env} {H H' : Heap} {a c d r : AV} (h : look env p = .ptr id 0) (hH : H.cells? id = some [a, c, d]) (hg : gc 0 [.agg [a, c, d]] H = some ([r], H')) : finish 0 [.cell p true 3] env H = some (r, H') := by
  simp [finish, ress, resOf, h, ldc, getRow, hH, wholeOf, tupOf, hg]
theorem fin_cell3t {p id n : Nat} {env : Env} {H H' : Heap} {a c d v r : AV} (h : look env p = .ptr id 0) (hv : look env n = v) (hH : H.cells? id = some [a, c, d]) (hg : gc 0 [.tup [.agg [a, c, d], v]] H = some ([r], H')) : finish 0 [.cell p true 3, .t n] env H = some (r, H') := by
  simp [finish, ress, resOf, h, hv, ldc, getRow, hH, wholeOf, tupOf, hg]
/-- win -/
theorem f71 {x y : AV} {b : List (List Int)} {s : List Int} (hx : IsLL x b) (hy : IsL y s) (hB : IsB b) (hs : InR b.length 1048576 s) {m : Nat} (hm : smK + 23 ≤ m) :
    evF tab it m 71 [x, y] [] = some (.agg [.bool (wonB b s), .sl 0 1 0 b.length, if wonB b s = true then .nilS else .sl 1 1 0 b.length], some (.data (iL (redT b s 0))) :: (if wonB b s = true then [] else [some (.data (iL (ordB b s)))])) := by
  have hm1 : 100000 ≤ m := by have := smK_big; omega
  obtain ⟨m, rfl⟩ : ∃ j, m = j + 1 := ⟨m - 1, by omega⟩
  have fx := hx.free; have fy := hy.free
  have hn1 := hB.n1; have hn2 := hB.n2
  have hRl := (redT_ok hB s hn1).1
  have hRb := redT_st hB hs hn1
  have e54 := fun H => c54o (q := 0) hx hy hB hs hn1 (m := m) (by omega) H
  have e55 := c55p hx hy (rd_isL hRl) hB.bd hs.1 hRl (fun v hv => by have := hRb v hv; omega) (fun v hv => by have := inR_get hs v hv; omega) (m := m) (by omega) [some (.box [.bool false, .nilS, .nilS]), some (.data (iL (redT b s 0)))] (args := [x, y, .sl 1 1 0 b.length]) (frzL_cons (frzV_of fx) (frzL_cons (frzV_of fy) (frzL_cons (frz_sl rfl hRl) frzL_nil)))
  rw [show apl b s (redT b s 0) = redL b s 0 from rfl] at e55
  have hAl : (redL b s 0).length = b.length := redL_len b s 0
  have iA := rd_isL hAl
  have fA := iA.free
  have e99 := c99o (q := 0) hx iA hB hn1 hAl (m := m) (by omega) [some (.box [.bool false, .nilS, .nilS]), some (.data (iL (redT b s 0)))] (args := [x, .rd 1 b.length (iL (redL b s 0)), .int .i64 ((0 : Nat) : Int)]) (frzL_cons (frzV_of fx) (frzL_cons (frzV_of fA) (frzL_cons rfl frzL_nil)))
  have hol := ordB_len hB s
  have hob : nI (burnL b (redL b s 0) 0) = ordB b s := rfl
  rw [hob] at e99
  rw [show (burnL b (redL b s 0) 0).length = b.length from by rw [← nI_len, hob]; exact hol] at e99
  have hw : wonB b s = decide (0 ≤ getI (redL b s 0) 0) := rfl
  generalize leftB b.length (burnL b (redL b s 0) 0) = LB at *
  generalize redT b s 0 = R at *
  generalize ordB b s = O at *
  generalize wonB b s = W at *
  clear hm
  refine f_enter rfl rfl ?_
  generalize evF tab it m = call at *
  have al : ∀ H, evE call H (.alloc false [.bool false, .nilS, .nilS]) [] = some (.ptr H.length 0, H ++ [some (.box [.bool false, .nilS, .nilS])]) := fun H => rfl
  have bl1 : ∀ H, evP H (.bld [.bool false, .nilS, .nilS] [(0, 1), (1, 1)]) [.bool true, .sl 1 1 0 b.length] = some (.agg [.bool true, .sl 1 1 0 b.length, .nilS]) := fun H => rfl
  have bl2 : ∀ H, evP H (.bld [.bool false, .nilS, .nilS] [(1, 1), (2, 1)]) [.sl 1 1 0 b.length, .sl 3 1 0 b.length] = some (.agg [.bool false, .sl 1 1 0 b.length, .sl 3 1 0 b.length]) := fun H => rfl
  generalize redL b s 0 = A at *
  generalize hvA : AV.rd 1 b.length (iL A) = vA at *
  by_cases h0 : 0 ≤ getI A 0
  · obtain rfl : W = true := by rw [hw]; simpa using h0
    repeat' first
 | (apply s_mov; (focus ((conv => lhs; whnf); done)))
 | (apply c_nil)
 | ((first | apply s_lss | apply s_leq | apply s_gtr | apply s_geq | apply s_eql | apply s_neq); exact rfl; all_goals (intro _; try (exfalso; omega)))
 | (apply s_en; (focus (repeat (first | apply opds_nil | (apply opds_cons; (first | (focus ((conv => lhs; whnf); done)) | exact rfl))))); exact al _)
 | (apply s_en; (focus (repeat (first | apply opds_nil | (apply opds_cons; (first | (focus ((conv => lhs; whnf); done)) | exact rfl))))); exact e54 _)
 | (apply s_cn; (focus (repeat (first | apply opds_nil | (apply opds_cons; (first | (focus ((conv => lhs; whnf); done)) | exact rfl))))); exact e55)
 | (apply s_pn; (focus (repeat (first | apply opds_nil | (apply opds_cons; (first | (focus ((conv => lhs; whnf); done)) | exact rfl))))); exact bl1 _)
 | (apply s_st; (focus (repeat (first | apply opds_nil | (apply opds_cons; (first | (focus ((conv => lhs; whnf); done)) | exact rfl))))); exact e_stA' rfl rfl rfl rfl rfl)
 | (apply s_idx; (focus ((conv => lhs; whnf); done)); exact rfl; (first | assumption | (apply IsLL.at; assumption; omega)); omega)
 | (apply s_ldI; exact rfl; omega)
 | (apply c_seq)
 | (apply c_reg)
 | (apply c_ret)
 | (apply c_condT; exact rfl)
 | (with_reducible apply k_c)
    all_goals first
      | (exfalso; omega)
      | skip
    all_goals exact fin_cell3 (by rfl) (by rfl) (by rfl)
  · obtain rfl : W = false := by rw [hw]; simpa using h0
    repeat' first
 | (apply s_mov; (focus ((conv => lhs; whnf); done)))
 | (apply c_nil)
 | ((first | apply s_lss | apply s_leq | apply s_gtr | apply s_geq | apply s_eql | apply s_neq); exact rfl; all_goals (intro _; try (exfalso; omega)))
 | (apply s_en; (focus (repeat (first | apply opds_nil | (apply opds_cons; (first | (focus ((conv => lhs; whnf); done)) | exact rfl))))); exact al _)
 | (apply s_en; (focus (repeat (first | apply opds_nil | (apply opds_cons; (first | (focus ((conv => lhs; whnf); done)) | exact rfl))))); exact e54 _)
 | (apply s_cn; (focus (repeat (first | apply opds_nil | (apply opds_cons; (first | (focus ((conv => lhs; whnf); done)) | exact rfl))))); exact e55)
 | (apply s_en; (focus (repeat (first | apply opds_nil | (apply opds_cons; (first | (focus ((conv => lhs; whnf); done)) | exact rfl))))); exact e99)
 | (apply s_pn; (focus (repeat (first | apply opds_nil | (apply opds_cons; (first | (focus ((conv => lhs; whnf); done)) | exact rfl))))); exact bl2 _)
 | (apply s_st; (focus (repeat (first | apply opds_nil | (apply opds_cons; (first | (focus ((conv => lhs; whnf); done)) | exact rfl))))); exact e_stA' rfl rfl rfl rfl rfl)
 | (apply s_idx; (focus ((conv => lhs; whnf); done)); exact rfl; (first | assumption | (apply IsLL.at; assumption; omega)); omega)
 | (apply s_ldI; exact rfl; omega)
 | (apply s_pd; (focus ((conv => lhs; whnf); done)))
 | (apply c_seq)
 | (apply c_reg)
 | (apply c_skip)
 | (apply c_ret)
 | (apply c_condF; exact rfl)
 | (with_reducible apply k_c)
    all_goals first
      | (exfalso; omega)
      | skip
    all_goals exact fin_cell3 (by rfl) (by rfl) (by rfl)
theorem c71o {x y : AV} {b : List (List Int)} {s : List Int} (hx : IsLL x b) (hy : IsL y s) (hB : IsB b) (hs : InR b.length 1048576 s) {m : Nat} (hm : smK + 23 ≤ m) (H : Heap) :
    callPure (evF tab it m) false 71 [x, y] H = some (.agg [.bool (wonB b s), .sl H.length 1 0 b.length, if wonB b s = true then .nilS else .sl (H.length + 1) 1 0 b.length], H ++ some (.data (iL (redT b s 0))) :: (if wonB b s = true then [] else [some (.data (iL (ordB b s)))])) := by
  have ff : idFreeL [x, y] = true := by simp [idFreeL, AV.idFree, hx.free, hy.free]
  have f := f71 hx hy hB hs hm
  cases hw : wonB b s <;> rw [hw] at f <;> simp [callPure, frzL_free H 40 [x, y] (by simp) ff, f, ff, AV.hasRd, hasRdL, HO.hasRd, iL_noRd, shiftH, AV.ren, renL, idFreeL, idf_sl, AV.idFree, renH, renO]
/-- Win -/
theorem f39 {x y : AV} {b : List (List Int)} {s : List Int} (hx : IsLL x b) (hy : IsL y s) (hB : IsB b) (hs : InR b.length 1048576 s) {m : Nat} (hm : smK + 24 ≤ m) :
    evF tab it m 39 [x, y] [] = some (.tup [.agg [.bool (wonB b s), .sl 0 1 0 b.length, if wonB b s = true then .nilS else .sl 1 1 0 b.length], .int .i64 0], some (.data (iL (redT b s 0))) :: (if wonB b s = true then [] else [some (.data (iL (ordB b s)))])) := by
  have hm1 : 100000 ≤ m := by have := smK_big; omega
  obtain ⟨m, rfl⟩ : ∃ j, m = j + 1 := ⟨m - 1, by omega⟩
  have fx := hx.free; have fy := hy.free
  have hn1 := hB.n1; have hn2 := hB.n2
  have hsl := hs.1
  have e52 := fun H => c52 hx hy (by omega) (by omega) (m := m) (by omega) H
  rw [if_pos ⟨hB, hs⟩] at e52
  have e71 := fun H => c71o hx hy hB hs (m := m) (by omega) H
  have al : ∀ call H, evE call H (.alloc false [.bool false, .nilS, .nilS]) [] = some (.ptr H.length 0, H ++ [some (.box [.bool false, .nilS, .nilS])]) := fun call H => rfl
  clear hm
  refine f_enter rfl rfl ?_
  generalize evF tab it m = call at *
  generalize redT b s 0 = R at *
  generalize ordB b s = O at *
  cases hw : wonB b s <;> rw [hw] at e71 <;> simp only [if_true, Bool.false_eq_true, if_false] at e71 ⊢
  all_goals
    repeat' first
 | (apply s_mov; (focus ((conv => lhs; whnf); done)))
 | (apply c_nil)
 | ((first | apply s_lss | apply s_leq | apply s_gtr | apply s_geq | apply s_eql | apply s_neq); exact rfl; all_goals (intro _; try (exfalso; omega)))
 | (apply s_en; (focus (repeat (first | apply opds_nil | (apply opds_cons; (first | (focus ((conv => lhs; whnf); done)) | exact rfl))))); exact al _ _)
 | (apply s_cn; (focus (repeat (first | apply opds_nil | (apply opds_cons; (first | (focus ((conv => lhs; whnf); done)) | exact rfl))))); exact e52 _)
 | (apply s_en; (focus (repeat (first | apply opds_nil | (apply opds_cons; (first | (focus ((conv => lhs; whnf); done)) | exact rfl))))); exact e71 _)
 | (apply s_st; (focus (repeat (first | apply opds_nil | (apply opds_cons; (first | (focus ((conv => lhs; whnf); done)) | exact rfl))))); exact e_stA' rfl rfl rfl rfl rfl)
 | (apply c_seq)
 | (apply c_reg)
 | (apply c_skip)
 | (apply c_ret)
 | (apply c_condF; exact rfl)
 | (with_reducible apply k_c)
  all_goals first
    | (exfalso; omega)
    | exact fin_cell3t (by rfl) (by rfl) (by rfl) (by rfl)
theorem f39e {x y : AV} {b : List (List Int)} {s : List Int} (hx : IsLL x b) (hy : IsL y s) (hl : b.length < 100) (hsl : s.length ≤ 1000) (h : ¬ (IsB b ∧ InR b.length 1048576 s)) {m : Nat} (hm : 5000 ≤ m) :
    evF tab it m 39 [x, y] [] = some (.tup [.agg [.bool false, .nilS, .nilS], .int .i64 2], []) := by
  obtain ⟨m, rfl⟩ : ∃ j, m = j + 1 := ⟨m - 1, by omega⟩
  have fx := hx.free; have fy := hy.free
  have e52 := fun H => c52 hx hy hl hsl (m := m) (by omega) H
  rw [if_neg h] at e52
  have al : ∀ call H, evE call H (.alloc false [.bool false, .nilS, .nilS]) [] = some (.ptr H.length 0, H ++ [some (.box [.bool false, .nilS, .nilS])]) := fun call H => rfl
  have bl0 : ∀ H, evP H (.bld [.bool false, .nilS, .nilS] []) [] = some (.agg [.bool false, .nilS, .nilS]) := fun H => rfl
  refine f_enter rfl rfl ?_
  generalize evF tab it m = call at *
  repeat' first
 | (apply s_mov; (focus ((conv => lhs; whnf); done)))
 | (apply c_nil)
 | ((first | apply s_lss | apply s_leq | apply s_gtr | apply s_geq | apply s_eql | apply s_neq); exact rfl; all_goals (intro _; try (exfalso; omega)))
 | (apply s_en; (focus (repeat (first | apply opds_nil | (apply opds_cons; (first | (focus ((conv => lhs; whnf); done)) | exact rfl))))); exact al _ _)
 | (apply s_cn; (focus (repeat (first | apply opds_nil | (apply opds_cons; (first | (focus ((conv => lhs; whnf); done)) | exact rfl))))); exact e52 _)
 | (apply s_pn; (focus (repeat (first | apply opds_nil | (apply opds_cons; (first | (focus ((conv => lhs; whnf); done)) | exact rfl))))); exact bl0 _)
 | (apply s_st; (focus (repeat (first | apply opds_nil | (apply opds_cons; (first | (focus ((conv => lhs; whnf); done)) | exact rfl))))); exact e_stA' rfl rfl rfl rfl rfl)
 | (apply c_seq)
 | (apply c_reg)
 | (apply c_ret)
 | (apply c_condT; exact rfl)
 | (with_reducible apply k_c)
  all_goals first
    | (exfalso; omega)
    | exact fin_cell3t (by rfl) (by rfl) (by rfl) (by rfl)
/-- the winning, to be read only -/
theorem c39 {x y : AV} {b : List (List Int)} {s : List Int} (hx : IsLL x b) (hy : IsL y s) (hB : IsB b) (hs : InR b.length 1048576 s) {m : Nat} (hm : smK + 24 ≤ m) (H : Heap) :
    callPure (evF tab it m) true 39 [x, y] H = some (.tup [.agg [.bool (wonB b s), .rd 1 b.length (iL (redT b s 0)), if wonB b s = true then .nilS else .rd 1 b.length (iL (ordB b s))], .int .i64 0], H) := by
  refine callPure_frz (by simp [idFreeL, AV.idFree, hx.free, hy.free]) (by simp) (f39 hx hy hB hs hm) ?_
  have h1 := iL_len (redT b s 0)
  rw [(redT_ok hB s hB.n1).1] at h1
  have h2 := iL_len (ordB b s)
  rw [ordB_len hB s] at h2
  cases hw : wonB b s <;> simp [frzV, frzL, idFreeL, AV.idFree, Heap.data?, h1, h2, List.take_of_length_le]
end Go.AM.Ch
