/- A part of the proof: U46 H4 H5. -/
import Derived.Test.YtmegimhfoedcdaaU45
import Derived.Test.YtmegimhfoedcdaaH3
import Derived.Test.YtmegimhfoedcdaaP17
import Derived.Test.YtmegimhfoedcdaaU42
set_option linter.unusedVariables false
set_option linter.unusedSimpArgs false
set_option linter.unusedSectionVars false
namespace Go.AM.Ch
attribute [local go_sem] gc subHeap reach_skip ren_free reach_new reach_newp reach_end rangeL roots boxCells nodupB posOf renL AV.ren pickO renH renO looks look bindEnv envOf reach_int reach_bool reach_nilS reach_rd putRow cells_sl cells_int cells_bool cells_nilS cells_rd cells_agg reach_agg reach_tup idFreeL idf_sl idf_ptr idf_int idf_bool idf_nilS idf_rd reach_fn reach_mp cells_fn cells_ptr cells_mp idf_mp idf_fn idf_agg idf_tup
set_option maxHeartbeats 8000000
structure DigOk (b : List (List Int)) (s : List Int) (q j : Nat) (N : List Int) : Prop where
  len : N.length = b.length
  eqv : ∃ T : List Int, T.length = b.length ∧ N = apl b (topL s j) T
  red : j < 41 → Red b.length (ed b) q (gf N)
  low : ∀ v, v < b.length → v ≠ q → 0 ≤ gf N v ∧ gf N v ≤ 30
theorem DigOk.own {b : List (List Int)} (hB : IsB b) {s : List Int} (hs : InR b.length 1048576 s) {q : Nat} (hq : q < b.length) {j : Nat} {N : List Int} (h : DigOk b s q j N) : ∀ v : Nat, v < b.length → -10486060 ≤ getI N (v : Int) ∧ getI N (v : Int) ≤ 10486060 := fun v hv => by
  by_cases e : v = q
  · subst e
    obtain ⟨T, hT, rfl⟩ := h.eqv
    have := at_q (gr_of hB) hq hB.n2 (l := gf (topL s j)) (t := gf T) (M := 1048576) (by decide) (fun w hw => by
      have e2 : gf (topL s j) w = topZ (getI s (w : Int)) j := topL_get (by rw [hs.1]; exact hw)
      rw [e2]
      exact topZ_le (inR_get hs w hw) j) (P := 30) (by decide) (fun w hw hwq => by
      rw [← apl_ap hB _ _ hw]
      have := h.low w hw hwq
      unfold gf at this
      omega)
    rw [apl_ap hB _ _ hv]
    omega
  · have := h.low v hv e
    unfold gf at this
    omega
theorem DigOk.near {b : List (List Int)} (hB : IsB b) {s : List Int} (hs : InR b.length 1048576 s) {q : Nat} (hq : q < b.length) {j : Nat} {N : List Int} (h : DigOk b s q (j + 1) N) : Near b.length q (pl2 N (digL s j) 1) := by
  refine ⟨by rw [pl2_len]; exact h.len, fun v hv hvq => ?_, ?_⟩
  · rw [pl2_get (by rw [h.len]; exact hv), digL_get (by rw [hs.1]; exact hv)]
    have := h.low v hv hvq
    have := digZ_le (getI s (v : Int)) j
    unfold gf at *
    omega
  · rw [pl2_get (by rw [h.len]; exact hq), digL_get (by rw [hs.1]; exact hq)]
    have := h.own hB hs hq q hq
    have := digZ_le (getI s (q : Int)) j
    omega
theorem DigOk.next {b : List (List Int)} (hB : IsB b) {s : List Int} (hs : InR b.length 1048576 s) {q : Nat} (hq : q < b.length) {j : Nat} {N : List Int} (h : DigOk b s q (j + 1) N) : DigOk b s q j (redL b (pl2 N (digL s j) 1) q) := by
  obtain ⟨T, hT, he⟩ := h.eqv
  have hr := redL_red hB (pl2 N (digL s j) 1) hq
  have hl := (redT_ok hB (pl2 N (digL s j) 1) hq).1
  have hn2 := hB.n2
  refine ⟨redL_len _ _ _, ⟨pl (pl2 T T 0) (redT b (pl2 N (digL s j) 1) q), by rw [pl_len, pl2_len]; exact hT, ?_⟩, fun _ => hr, fun v hv hvq => ?_⟩
  · unfold redL
    have e : pl2 N (digL s j) 1 = apl b (topL s j) (pl2 T T 0) := by rw [he]; exact apl_digit hB hs.1 hT j
    conv => lhs; arg 2; rw [e]
    exact apl_pl hB (by rw [pl2_len]; exact hT)
  · have := red_lt (gr_of hB) hr hv hvq
    omega
theorem DigOk.first {b : List (List Int)} (hB : IsB b) {s : List Int} (hs : InR b.length 1048576 s) (q : Nat) : DigOk b s q 41 (List.replicate b.length 0) := by
  have hz : topL s 41 = List.replicate b.length 0 := list_zero (by simp [topL, hs.1]) fun v hv => by rw [topL_get (by rw [hs.1]; exact hv)]; exact topZ_big (inR_get hs v hv)
  refine ⟨by simp, ⟨List.replicate b.length 0, by simp, by rw [hz]; exact (apl_zero hB (by simp)).symm⟩, fun h => by omega, fun v hv _ => ?_⟩
  have e : gf (List.replicate b.length 0) v = 0 := by unfold gf; rw [getI_nat]; simp [List.getD, hv]
  omega
theorem DigOk.last {b : List (List Int)} (hB : IsB b) {s : List Int} (hs : InR b.length 1048576 s) {q : Nat} (hq : q < b.length) {N : List Int} (h : DigOk b s q 0 N) : N = redL b s q := by
  obtain ⟨T, hT, he⟩ := h.eqv
  have h0 : topL s 0 = s := by
    refine ext_getI (by simp [topL]) fun i hi => ?_
    simp only [topL, List.length_map] at hi
    rw [topL_get hi, topZ_zero]
  rw [h0] at he
  have hr := h.red (by omega)
  rw [he] at hr ⊢
  exact redL_eq hB hq hr
theorem f28 {x y : AV} {b : List (List Int)} {s : List Int} {q : Nat} (hx : IsLL x b) (hy : IsL y s) (hB : IsB b) (hs : InR b.length 1048576 s) (hq : q < b.length) {m : Nat} (hm : smK + 2 ≤ m) :
    evF tab it m 28 [x, y, .int .i64 (q : Int)] [] = some (fzL (redL b s q), []) := by
  have hm1 : 100000 ≤ m := by have := smK_big; omega
  obtain ⟨m, rfl⟩ : ∃ j, m = j + 1 := ⟨m - 1, by omega⟩
  have fx := hx.free; have fy := hy.free
  have hn1 := hB.n1; have hn2 := hB.n2
  have hsl := hs.1
  have hsv := inR_get hs
  have lx : ∀ H, evP H .len [x] = some (.int .i64 ((b.length : Nat) : Int)) := fun H => by cases hx <;> rfl
  have ly : ∀ H, evP H .len [y] = some (.int .i64 ((b.length : Nat) : Int)) := fun H => by rw [← hsl]; exact p_lenI hy
  have mk := fun call H => @e_mkI call H b.length (by unfold most; omega)
  have e58 := fun (l : List Int) (hl : Near b.length q l) H => c58 hx (isL_fz l) hB hq hl (m := m) (by omega) H
  refine f_enter rfl rfl ?_
  have e59 := fun (args : List AV) (a c : List Int) (ha : a.length = b.length) (hc : c.length = b.length) h1 h2 (H : Heap) (hz : frzL H 40 args = some [.rd 1 b.length (iL a), .rd 1 b.length (iL c), .int .i64 1]) => c59p (k := 1) (rd_isL ha) (rd_isL hc) (by omega) (by omega) (by omega) (by decide) h1 h2 (m := m) (by omega) H hz
  clear hm
  generalize hcall : evF tab it m = call at *
  have body : ∀ (nv : AV) (hp : Heap) (N : List Int) (j : Nat) (K : KT), ((nv = fzL N ∧ hp = []) ∨ (nv = .sl 0 1 0 b.length ∧ hp = [some (.data (iL N))])) → j < 41 → DigOk b s q (j + 1) N →
      (∀ env' H', gc 0 (looks env' [0, 1, 2, 7, 8]) H' = some ([x, y, .int .i64 (q : Int), fzL (redL b (pl2 N (digL s j) 1) q), .int .i64 ((j : Int) - 1)], []) → K env' H' = some (fzL (redL b s q), [])) →
      RC call it m (.seq sp28_10 (.seq sp28_9 sq28_8)) 0 K (blkX 0 (evC call it m (.pre [7] (.seq (.reg [⟨.inl .mov, [.t 7], some 55, none, []⟩, ⟨.inl .mov, [.t 55], some 6, none, []⟩] none) .ret)) 0 (finish 0 [.t 6]) (fun _ _ _ => none) (finish 0 [.t 6])) (fun _ _ _ => none)) (finish 0 [.t 6]) (bindEnv [0, 1, 2, 7, 8] 0 [x, y, .int .i64 (q : Int), nv, .int .i64 (j : Int)]) hp (some (fzL (redL b s q), [])) := by
    intro nv hp N j K hcase hj hok hK
    have hNl := hok.len
    have hDl : (digL s j).length = b.length := by simp [digL, hsl]
    have hDg := fun (i : Nat) (hi : i < b.length) => digL_get (s := s) (j := j) (v := i) (by omega)
    have hNb := hok.own hB hs hq
    have e59' := fun (args : List AV) => e59 args N (digL s j) hNl hDl (fun v hv => by have := hNb v (by omega); omega) (fun v hv => by rw [hDg v (by omega)]; have := digZ_le (getI s (v : Int)) j; omega)
    have e58' := e58 _ (hok.near hB hs hq)
    have fR := (isL_fz (redL b (pl2 N (digL s j) 1) q)).free
    have fP := (isL_fz (pl2 N (digL s j) 1)).free
    have fN := (isL_fz N).free
    have gA : ∀ (i : Nat) (C : List AV), gc 0 [x, y, .int .i64 (q : Int), nv, .int .i64 (j : Int), ownV hp.length C, .int .i64 (i : Int)] (hp ++ owH C) = some ([x, y, .int .i64 (q : Int), nv, .int .i64 (j : Int), ownV hp.length C, .int .i64 (i : Int)], hp ++ owH C) := fun i C => by
      rcases hcase with ⟨rfl, rfl⟩ | ⟨rfl, rfl⟩ <;> cases C <;> simp [ownV, owH, go_sem, fx, fy, fN]
    have gB : ∀ (i c : Nat) (C : List AV), gc 0 [x, y, .int .i64 (q : Int), nv, .int .i64 (j : Int), .sl (hp.length + 1) 1 0 c, .int .i64 (i : Int)] (hp ++ [none, some (.data C)]) = some ([x, y, .int .i64 (q : Int), nv, .int .i64 (j : Int), .sl hp.length 1 0 c, .int .i64 (i : Int)], hp ++ [some (.data C)]) := fun i c C => by
      rcases hcase with ⟨rfl, rfl⟩ | ⟨rfl, rfl⟩ <;> simp [go_sem, fx, fy, fN]
    have gC : ∀ (i c : Nat) (C : List AV), gc 0 [x, y, .int .i64 (q : Int), nv, .int .i64 (j : Int), .sl hp.length 1 0 c] (hp ++ [some (.data C)]) = some ([x, y, .int .i64 (q : Int), nv, .int .i64 (j : Int), .sl hp.length 1 0 c], hp ++ [some (.data C)]) := fun i c C => by
      rcases hcase with ⟨rfl, rfl⟩ | ⟨rfl, rfl⟩ <;> simp [go_sem, fx, fy, fN]
    have hfz : frzL (hp ++ [some (.data (iL (digL s j)))]) 40 [nv, .sl hp.length 1 0 b.length, .int .i64 1] = some [.rd 1 b.length (iL N), .rd 1 b.length (iL (digL s j)), .int .i64 1] := by
      rcases hcase with ⟨rfl, rfl⟩ | ⟨rfl, rfl⟩
      · rw [fzL_ne hNl hn1]
        exact frzL_cons rfl (frzL_cons (frz_sl rfl hDl) (frzL_cons rfl frzL_nil))
      · exact frzL_cons (frz_sl rfl hNl) (frzL_cons (frz_sl rfl hDl) (frzL_cons rfl frzL_nil))
    have e59'' := e59' _ _ hfz
    have hset : ∀ C : List AV, (hp ++ [some (HO.data C)]).set hp.length none = hp ++ [none] := fun C => by
      rcases hcase with ⟨rfl, rfl⟩ | ⟨rfl, rfl⟩ <;> rfl
    have hdat : ∀ C : List AV, Heap.data? (hp ++ [some (.data C)]) hp.length = some C := fun C => by
      rcases hcase with ⟨rfl, rfl⟩ | ⟨rfl, rfl⟩ <;> rfl
    have app1 : ∀ (a : Int) call, evE call hp (.app false 1 8) [.nilS, .rd 1 1 [.int .i64 a]] = some (.sl hp.length 1 0 1, hp ++ [some (.data [.int .i64 a])]) := fun a call => e_app_nil rfl (by omega) (by decide)
    have app2 : ∀ (a : Int) (C : List AV) (k : Nat) call, C.length = k → k ≤ 12 → evE call (hp ++ [some (.data C)]) (.app false 1 8) [.sl hp.length 1 0 k, .rd 1 1 [.int .i64 a]] = some (.sl (hp.length + 1) 1 0 (k + 1), hp ++ [none, some (.data (C ++ [.int .i64 a]))]) := fun a C k call hk h12 => by
      have := e_app_sl (call := call) (q := 8) (n := 1) (bs := [.int .i64 a]) (hdat C) hk (by omega) (by unfold most; omega)
      rw [hset] at this
      simpa using this
    generalize hRN : fzL (redL b (pl2 N (digL s j) 1) q) = vR at *
    generalize hRP : fzL (pl2 N (digL s j) 1) = vP at *
    generalize hRF : fzL (redL b s q) = vF at *
    repeat' first
 | (apply s_mov; exact aW)
 | (apply c_nil)
 | (apply s_geq; exact rfl; all_goals (intro _; try (exfalso; omega)))
 | (apply c_seq)
 | (apply c_reg)
 | (apply c_block)
 | (apply c_skip)
 | (apply c_condT; exact rfl)
 | (with_reducible apply k_c)
    all_goals try (exfalso; omega)
    refine c_loop ?_
    refine loop_gc (σ := Nat) (fun i => [x, y, .int .i64 (q : Int), nv, .int .i64 (j : Int), ownV hp.length (iL ((digL s j).take i)), .int .i64 (i : Int)]) (fun i => hp ++ owH (iL ((digL s j).take i))) (fun i => i ≤ b.length) (fun i => b.length - i) ?_ _ 0 _ _ (by omega) (by omega) (by
      have h := gA 0 []
      exact (congrArg (gc 0 _) (List.append_nil hp)).symm.trans h)
    intro i hi K2 hK2
    by_cases hin : i < b.length
    · have h1 := hsv i hin
      have hd := hDg i hin
      have hstep : (digL s j).take (i + 1) = (digL s j).take i ++ [digZ (getI s (i : Int)) j] := by
        rw [← List.take_append_getElem (by omega : i < (digL s j).length)]
        congr 1
        rw [getI_nat] at hd
        simpa [List.getD, show i < (digL s j).length by omega] using hd
      have hK21 := hK2 (i + 1)
      rw [hstep] at hK21
      have e1 : ∀ z : Int, iL ((digL s j).take i ++ [z]) = iL ((digL s j).take i) ++ [.int .i64 z] := fun z => by simp [iL]
      rw [e1] at hK21
      have hAl : (iL ((digL s j).take i)).length = i := by rw [iL_len]; simp; omega
      generalize iL ((digL s j).take i) = A at *
      have ng := fun H => p_negI (H := H) (a := getI s (i : Int)) (by omega)
      have hmx : (if -getI s (i : Int) > getI s (i : Int) then -getI s (i : Int) else getI s (i : Int)) = (((getI s (i : Int)).natAbs : Nat) : Int) := by split <;> omega
      have mx : ∀ H, evP H .mx [.int .i64 (getI s (i : Int)), .int .i64 (-getI s (i : Int))] = some (.int .i64 (((getI s (i : Int)).natAbs : Nat) : Int)) := fun H => by
        rw [← hmx]; rfl
      have shr := fun H => p_shr (H := H) (a := (getI s (i : Int)).natAbs) (b := j) (by omega)
      have hdz : digZ (getI s (i : Int)) j = if getI s (i : Int) < 0 then -(((getI s (i : Int)).natAbs / 2 ^ j % 2 : Nat) : Int) else (((getI s (i : Int)).natAbs / 2 ^ j % 2 : Nat) : Int) := rfl
      generalize (getI s (i : Int)).natAbs / 2 ^ j = D at *
      have hrem : ∀ H, evP H (.bin .rem) [.int .i64 (D : Int), .int .i64 2] = some (.int .i64 ((D % 2 : Nat) : Int)) := fun H => rfl
      have ng2 := fun H => p_negI (H := H) (a := ((D % 2 : Nat) : Int)) (by omega)
      by_cases hneg : getI s (i : Int) < 0
      · rw [if_pos hneg] at hdz
        rw [hdz] at hK21
        generalize ((D % 2 : Nat) : Int) = Q at *
        rcases A with _ | ⟨u, us⟩
        · have i0 : i = 0 := by simpa using hAl.symm
          simp only [ownV, owH, List.append_nil] at *
          repeat' first
 | (apply s_mov; exact aW)
 | (apply c_nil)
 | (apply s_lss; exact rfl; all_goals (intro _; try (exfalso; omega)))
 | (apply s_add; exact rfl; omega)
 | (apply s_pn; exact aO; exact ly _)
 | (apply s_pn; exact aO; exact ng _)
 | (apply s_pn; exact aO; exact mx _)
 | (apply s_pn; exact aO; exact shr _)
 | (apply s_pn; exact aO; exact hrem _)
 | (apply s_pn; exact aO; exact ng2 _)
 | (apply s_en; exact aO; exact e_bld1 rfl rfl rfl rfl)
 | (apply s_en; exact aO; exact app1 _ _)
 | (apply s_idx; exact aW; exact rfl; exact aI; omega)
 | (apply s_ldI; exact rfl; omega)
 | (apply c_seq)
 | (apply c_reg)
 | (apply c_block)
 | (apply c_skip)
 | (apply c_condT; exact rfl)
 | (with_reducible apply k_c)
          all_goals first | (exfalso; omega) | skip
          exact hK21 _ _ (by omega) (by omega) (gA (i + 1) [.int .i64 (-Q)])
        · simp only [ownV, owH] at *
          have app3 := fun a call => app2 a (u :: us) (us.length + 1) call rfl (by simp at hAl; omega)
          repeat' first
 | (apply s_mov; exact aW)
 | (apply c_nil)
 | (apply s_lss; exact rfl; all_goals (intro _; try (exfalso; omega)))
 | (apply s_add; exact rfl; omega)
 | (apply s_pn; exact aO; exact ly _)
 | (apply s_pn; exact aO; exact ng _)
 | (apply s_pn; exact aO; exact mx _)
 | (apply s_pn; exact aO; exact shr _)
 | (apply s_pn; exact aO; exact hrem _)
 | (apply s_pn; exact aO; exact ng2 _)
 | (apply s_en; exact aO; exact e_bld1 rfl rfl rfl rfl)
 | (apply s_en; exact aO; exact app3 _ _)
 | (apply s_idx; exact aW; exact rfl; exact aI; omega)
 | (apply s_ldI; exact rfl; omega)
 | (apply c_seq)
 | (apply c_reg)
 | (apply c_block)
 | (apply c_skip)
 | (apply c_condT; exact rfl)
 | (with_reducible apply k_c)
          all_goals first | (exfalso; omega) | skip
          refine hK21 _ _ (by omega) (by omega) ((gB (i + 1) _ _).trans ?_)
          simp
      · rw [if_neg hneg] at hdz
        rw [hdz] at hK21
        generalize ((D % 2 : Nat) : Int) = Q at *
        rcases A with _ | ⟨u, us⟩
        · have i0 : i = 0 := by simpa using hAl.symm
          simp only [ownV, owH, List.append_nil] at *
          repeat' first
 | (apply s_mov; exact aW)
 | (apply c_nil)
 | (apply s_lss; exact rfl; all_goals (intro _; try (exfalso; omega)))
 | (apply s_add; exact rfl; omega)
 | (apply s_pn; exact aO; exact ly _)
 | (apply s_pn; exact aO; exact ng _)
 | (apply s_pn; exact aO; exact mx _)
 | (apply s_pn; exact aO; exact shr _)
 | (apply s_pn; exact aO; exact hrem _)
 | (apply s_en; exact aO; exact e_bld1 rfl rfl rfl rfl)
 | (apply s_en; exact aO; exact app1 _ _)
 | (apply s_idx; exact aW; exact rfl; exact aI; omega)
 | (apply s_ldI; exact rfl; omega)
 | (apply c_seq)
 | (apply c_reg)
 | (apply c_block)
 | (apply c_skip)
 | (apply c_condT; exact rfl)
 | (apply c_condF; exact rfl)
 | (with_reducible apply k_c)
          all_goals first | (exfalso; omega) | skip
          exact hK21 _ _ (by omega) (by omega) (gA (i + 1) [.int .i64 Q])
        · simp only [ownV, owH] at *
          have app3 := fun a call => app2 a (u :: us) (us.length + 1) call rfl (by simp at hAl; omega)
          repeat' first
 | (apply s_mov; exact aW)
 | (apply c_nil)
 | (apply s_lss; exact rfl; all_goals (intro _; try (exfalso; omega)))
 | (apply s_add; exact rfl; omega)
 | (apply s_pn; exact aO; exact ly _)
 | (apply s_pn; exact aO; exact ng _)
 | (apply s_pn; exact aO; exact mx _)
 | (apply s_pn; exact aO; exact shr _)
 | (apply s_pn; exact aO; exact hrem _)
 | (apply s_en; exact aO; exact e_bld1 rfl rfl rfl rfl)
 | (apply s_en; exact aO; exact app3 _ _)
 | (apply s_idx; exact aW; exact rfl; exact aI; omega)
 | (apply s_ldI; exact rfl; omega)
 | (apply c_seq)
 | (apply c_reg)
 | (apply c_block)
 | (apply c_skip)
 | (apply c_condT; exact rfl)
 | (apply c_condF; exact rfl)
 | (with_reducible apply k_c)
          all_goals first | (exfalso; omega) | skip
          refine hK21 _ _ (by omega) (by omega) ((gB (i + 1) _ _).trans ?_)
          simp
    · obtain rfl : i = b.length := by omega
      have hall : (digL s j).take b.length = digL s j := List.take_of_length_le (by omega)
      rw [hall]
      have hown : ownV hp.length (iL (digL s j)) = .sl hp.length 1 0 b.length ∧ owH (iL (digL s j)) = [some (.data (iL (digL s j)))] := by
        have h1 := iL_len (digL s j)
        generalize iL (digL s j) = C at *
        cases C with
        | nil => simp at h1; omega
        | cons c cs => simp only [List.length_cons] at h1; constructor <;> simp [ownV, owH]; omega
      rw [hown.1, hown.2]
      repeat' first
 | (apply s_mov; exact aW)
 | (apply c_nil)
 | (apply s_lss; exact rfl; all_goals (intro _; try (exfalso; omega)))
 | (apply s_pn; exact aO; exact ly _)
 | (apply c_seq)
 | (apply c_reg)
 | (apply c_exitH)
 | (apply c_condF; exact rfl)
 | (with_reducible apply k_c)
      apply c_pre
      · exact gC 0 _ _
      repeat' first
 | (apply s_mov; exact aW)
 | (apply c_nil)
 | (apply s_sub; exact rfl; omega)
 | (apply s_cn; exact aO; exact e59'')
 | (apply s_cn; exact aO; exact e58' _)
 | (apply c_reg)
 | (apply c_preF; exact aK; exact aF)
 | (with_reducible apply k_c)
      refine hK _ _ ?_
      exact gc_to rfl (by simp [idFreeL, AV.idFree, *]; done)
  have hz : gc 0 [x, y, .int .i64 (q : Int), .sl 0 1 0 b.length, .int .i64 40] [some (.data (iL (List.replicate b.length 0)))] = some ([x, y, .int .i64 (q : Int), .sl 0 1 0 b.length, .int .i64 40], [some (.data (iL (List.replicate b.length 0)))]) := by simp [go_sem, fx, fy]
  skip
  repeat' first
 | (apply s_mov; exact aW)
 | (apply c_nil)
 | (apply s_pn; exact aO; exact lx _)
 | (apply s_en; exact aO; exact mk _ _)
 | (apply c_seq)
 | (apply c_reg)
 | (apply c_block)
 | (with_reducible apply k_c)
  refine c_loop ?_
  refine loop_gc (σ := Nat × List Int) (fun p => [x, y, .int .i64 (q : Int), if p.1 = 41 then .sl 0 1 0 b.length else fzL p.2, .int .i64 ((p.1 : Int) - 1)]) (fun p => if p.1 = 41 then [some (.data (iL p.2))] else []) (fun p => p.1 ≤ 41 ∧ DigOk b s q p.1 p.2) (fun p => p.1) ?_ _ (41, List.replicate b.length 0) _ _ ⟨Nat.le_refl _, DigOk.first hB hs q⟩ (by dsimp only; omega) (by dsimp only; rw [if_pos rfl, if_pos rfl]; exact hz)
  intro ⟨j', N⟩ ⟨hj, hok⟩ K hK
  dsimp only at hj hok hK ⊢
  cases j' with
  | zero =>
    have hl := hok.last hB hs hq
    subst hl
    have fR := (isL_fz (redL b s q)).free
    generalize fzL (redL b s q) = vR at *
    simp only [show ¬ (0 = 41) by decide, if_false]
    repeat' first
 | (apply s_mov; exact aW)
 | (apply c_nil)
 | (apply s_geq; exact rfl; all_goals (intro _; try (exfalso; omega)))
 | (apply c_seq)
 | (apply c_reg)
 | (apply c_exitH)
 | (apply c_ret)
 | (apply c_condF; exact rfl)
 | (apply c_preF; exact aK; exact aF)
 | (with_reducible apply k_c)
    all_goals first
      | (exfalso; omega)
      | skip
    exact fin_t (by (conv => lhs; whnf)) (by first | assumption | rfl) rfl
  | succ j =>
    have e0 : ((j + 1 : Nat) : Int) - 1 = (j : Int) := by omega
    rw [e0]
    refine body _ _ N j K ?_ (by omega) hok fun env' H' hg => ?_
    · by_cases h : j + 1 = 41
      · right; rw [if_pos h, if_pos h]; exact ⟨rfl, rfl⟩
      · left; rw [if_neg h, if_neg h]; exact ⟨rfl, rfl⟩
    · refine hK (j, redL b (pl2 N (digL s j) 1) q) env' H' ⟨by dsimp only; omega, hok.next hB hs hq⟩ (by dsimp only; omega) ?_
      dsimp only
      rw [if_neg (show ¬ j = 41 by omega), if_neg (show ¬ j = 41 by omega)]
      exact hg
theorem c28 {x y : AV} {b : List (List Int)} {s : List Int} {q : Nat} (hx : IsLL x b) (hy : IsL y s) (hB : IsB b) (hs : InR b.length 1048576 s) (hq : q < b.length) {m : Nat} (hm : smK + 2 ≤ m) (H : Heap) :
    callPure (evF tab it m) true 28 [x, y, .int .i64 (q : Int)] H = some (fzL (redL b s q), H) :=
  callPure_free (by simp [idFreeL, AV.idFree, hx.free, hy.free]) (by simp) (f28 hx hy hB hs hq hm) (isL_fz _).free
set_option maxHeartbeats 8000000
theorem f31 {x : AV} {b : List (List Int)} (hx : IsLL x b) (hB : IsB b) {m : Nat} (hm : 1300 ≤ m) :
    evF tab it m 31 [x] [] = some (.int .i64 (trN b), []) := by
  obtain ⟨m, rfl⟩ : ∃ j, m = j + 1 := ⟨m - 1, by omega⟩
  have fx := hx.free
  have e66a := fun H => callPure_free (H := H) (call := evF tab it m) (f := 66) (args := [x, .int .i64 2147483647]) (by simp [idFreeL, AV.idFree, fx]) (by simp) (f66 hx hB (p := 2147483647) (by omega) nd1 (m := m) (by omega)) rfl
  have e66b := fun H => callPure_free (H := H) (call := evF tab it m) (f := 66) (args := [x, .int .i64 2147483629]) (by simp [idFreeL, AV.idFree, fx]) (by simp) (f66 hx hB (p := 2147483629) (by omega) nd2 (m := m) (by omega)) rfl
  have ht := trN_le hB
  have hcr := crt2 (N := trN b) (by omega) (by omega)
  have iP : IsL (.rd 1 2 (iL [2147483647, 2147483629])) [2147483647, 2147483629] := rd_isL rfl
  have iR : IsL (.rd 1 2 (iL [trN b % 2147483647, trN b % 2147483629])) [trN b % 2147483647, trN b % 2147483629] := rd_isL rfl
  have e65 := fun H => c65 iR iP (m := m) (by omega) H
  rw [hcr] at e65
  have bl2 : ∀ call H (a c : Int), evE call H (.bldS true true 1 2 [.int .i64 0] [(0, 1), (1, 1)]) [.int .i64 a, .int .i64 c] = some (.rd 1 2 (iL [a, c]), H) := fun call H a c => rfl
  refine f_enter rfl rfl ?_
  generalize trN b % 2147483647 = r1 at *
  generalize trN b % 2147483629 = r2 at *
  generalize trN b = T at *
  generalize evF tab it m = call at *
  repeat' first
 | (apply s_mov; exact aW)
 | (apply c_nil)
 | (apply s_cn; exact aO; exact e66a _)
 | (apply s_cn; exact aO; exact e66b _)
 | (apply s_en; exact aO; exact bl2 _ _ _ _)
 | (apply s_cn; exact aO; exact e65 _)
 | (apply s_pd; exact aW)
 | (apply c_seq)
 | (apply c_reg)
 | (apply c_ret)
 | (with_reducible apply k_c)
  exact fin_t (by (conv => lhs; whnf)) (by rfl) rfl
theorem c31 {x : AV} {b : List (List Int)} (hx : IsLL x b) (hB : IsB b) {m : Nat} (hm : 1300 ≤ m) (H : Heap) : callPure (evF tab it m) true 31 [x] H = some (.int .i64 (trN b), H) :=
  callPure_free (by simp [idFreeL, hx.free]) (by simp) (f31 hx hB hm) rfl
theorem f67 {x : AV} {l : List Int} (hx : IsL x l) (hl : l.length ≤ 100) {m : Nat} (hm : 200 ≤ m) : evF tab it m 67 [x] [] = some (.bool (decide (∀ v ∈ l, v = 0)), []) := by
  obtain ⟨m, rfl⟩ : ∃ j, m = j + 1 := ⟨m - 1, by omega⟩
  have fx := hx.free
  have hall : (∀ v ∈ l, v = 0) ↔ ∀ i : Nat, i < l.length → getI l (i : Int) = 0 := by
    constructor
    · intro h i hi
      rw [getI_nat]
      simp only [List.getD, List.getElem?_eq_getElem hi, Option.getD_some]
      exact h _ (List.getElem_mem hi)
    · intro h v hv
      obtain ⟨i, hi, rfl⟩ := List.mem_iff_getElem.1 hv
      have := h i hi
      rw [getI_nat] at this
      simpa [List.getD, hi] using this
  refine f_enter rfl rfl ?_
  generalize evF tab it m = call at *
  repeat' first
 | (apply s_mov; exact aW)
 | (apply c_nil)
 | (apply c_seq)
 | (apply c_reg)
 | (apply c_block)
 | (with_reducible apply k_c)
  refine c_loop ?_
  refine loop_gc (σ := Nat) (fun i => [x, .int .i64 (i : Int)]) (fun _ => []) (fun i => i ≤ l.length ∧ ∀ j : Nat, j < i → getI l (j : Int) = 0) (fun i => l.length - i) ?_ _ 0 _ _ ⟨by omega, fun j hj => by omega⟩ (by omega) (gc_to rfl (by simp [idFreeL, AV.idFree, fx]))
  intro i ⟨hi, hz⟩ K hK
  by_cases hil : i < l.length
  · by_cases h0 : getI l (i : Int) = 0
    · have hz2 : ∀ j : Nat, j < i + 1 → getI l (j : Int) = 0 := fun j hj => by
        rcases (by omega : j < i ∨ j = i) with h | h
        · exact hz j h
        · rw [h]; exact h0
      clear hz
      repeat' first
 | (apply s_mov; exact aW)
 | (apply c_nil)
 | (apply s_lss; exact rfl; all_goals (intro _; try (exfalso; omega)))
 | (apply s_neq; exact rfl; all_goals (intro _; try (exfalso; omega)))
 | (apply s_add; exact rfl; omega)
 | (apply s_len; exact aW; exact aI)
 | (apply s_idx; exact aW; exact rfl; exact aI; omega)
 | (apply s_ldI; exact rfl; omega)
 | (apply c_seq)
 | (apply c_reg)
 | (apply c_block)
 | (apply c_skip)
 | (apply c_condT; exact rfl)
 | (apply c_condF; exact rfl)
 | (with_reducible apply k_c)
      all_goals first
        | (exfalso; omega)
        | (refine hK (i + 1) _ _ ⟨by omega, hz2⟩ (by omega) ?_
           exact gc_to rfl (by simp [idFreeL, AV.idFree, fx]))
    · have hno : ¬ ∀ v ∈ l, v = 0 := fun h => h0 (hall.1 h i hil)
      rw [decide_eq_false hno]
      clear hz hall
      repeat' first
 | (apply s_mov; exact aW)
 | (apply c_nil)
 | (apply s_lss; exact rfl; all_goals (intro _; try (exfalso; omega)))
 | (apply s_neq; exact rfl; all_goals (intro _; try (exfalso; omega)))
 | (apply s_len; exact aW; exact aI)
 | (apply s_idx; exact aW; exact rfl; exact aI; omega)
 | (apply s_ldI; exact rfl; omega)
 | (apply c_seq)
 | (apply c_reg)
 | (apply c_block)
 | (apply c_skip)
 | (apply c_ret)
 | (apply c_condT; exact rfl)
 | (with_reducible apply k_c)
      all_goals first
        | (exfalso; omega)
        | exact fin_t (by (conv => lhs; whnf)) (by rfl) rfl
  · obtain rfl : i = l.length := by omega
    have hyes : ∀ v ∈ l, v = 0 := hall.2 hz
    rw [decide_eq_true hyes]
    clear hz hall hyes
    repeat' first
 | (apply s_mov; exact aW)
 | (apply c_nil)
 | (apply s_lss; exact rfl; all_goals (intro _; try (exfalso; omega)))
 | (apply s_len; exact aW; exact aI)
 | (apply c_seq)
 | (apply c_reg)
 | (apply c_exitH)
 | (apply c_ret)
 | (apply c_condF; exact rfl)
 | (apply c_preF; exact aK; exact aF)
 | (with_reducible apply k_c)
    all_goals first
      | (exfalso; omega)
      | exact fin_t (by (conv => lhs; whnf)) (by rfl) rfl
structure Tr (b : List (List Int)) (l0 : List Int) (k : Nat) (N : List Int) : Prop where
  rz : RZ b N
  e : Eq0 b (fun v => (k : Int) * gf l0 v - gf N v)
theorem RZ.low {b : List (List Int)} (hB : IsB b) {l : List Int} (h : RZ b l) : ∀ v : Nat, v < b.length → v ≠ 0 → 0 ≤ getI l (v : Int) ∧ getI l (v : Int) ≤ 29 := fun v hv h0 => by
  have hn2 := hB.n2
  have a : 0 ≤ gf l v ∧ gf l v < b.length * 3 := red_lt (gr_of hB) h.red hv h0
  have e : gf l v = getI l (v : Int) := rfl
  omega
theorem Tr.near {b : List (List Int)} (hB : IsB b) {l0 N : List Int} (h0 : RZ b l0) (hN : RZ b N) {d : Nat} (hd : d < 2) : Near b.length 0 (pl2 N l0 (d : Int)) := by
  have hn1 := hB.n1
  have hl := hN.len
  have hv := hN.val hB
  have hv0 := h0.val hB
  have hdd : ∀ z : Int, (d : Int) * z = 0 ∨ (d : Int) * z = z := fun z => by
    rcases (by omega : d = 0 ∨ d = 1) with rfl | rfl
    · left; exact Int.zero_mul _
    · right; exact Int.one_mul _
  refine ⟨by rw [pl2_len]; exact hl, fun v hvn hv0' => ?_, ?_⟩
  · rw [pl2_get (by omega)]
    have a := hN.low hB v hvn hv0'
    have c := h0.low hB v hvn hv0'
    have := hdd (getI l0 (v : Int))
    omega
  · rw [pl2_get (by omega)]
    have a := hv.2
    have c := hv0.2
    have := hdd (getI l0 ((0 : Nat) : Int))
    omega
theorem Tr.step {b : List (List Int)} (hB : IsB b) {l0 N : List Int} {k : Nat} (h0 : RZ b l0) (h : Tr b l0 (k / 2) N) : Tr b l0 k (redL b (pl2 N l0 ((k % 2 : Nat) : Int)) 0) := by
  have hl := h.rz.len
  have e1 := redL_eq0 hB (pl2 N l0 ((k % 2 : Nat) : Int))
  have hg : ∀ v, v < b.length → gf (pl2 N l0 ((k % 2 : Nat) : Int)) v = 2 * gf N v + ((k % 2 : Nat) : Int) * gf l0 v := fun v hv => pl2_get (by omega)
  refine ⟨rz_of hB ?_, ?_⟩
  · rw [sumTo_congr hg, sumTo_add]
    have a : sumTo (fun v => 2 * gf N v) b.length = 2 * sumTo (gf N) b.length := (sumTo_mul _ _ _).symm
    have c : sumTo (fun v => ((k % 2 : Nat) : Int) * gf l0 v) b.length = ((k % 2 : Nat) : Int) * sumTo (gf l0) b.length := (sumTo_mul _ _ _).symm
    rw [a, c, h.rz.sum, h0.sum]
    simp
  · refine ((h.e.mul 2).add e1).congr fun v hv => ?_
    rw [hg v hv]
    have ek : (k : Int) = 2 * ((k / 2 : Nat) : Int) + ((k % 2 : Nat) : Int) := by omega
    generalize gf (redL b (pl2 N l0 ((k % 2 : Nat) : Int)) 0) v = z
    rw [ek, Int.add_mul, Int.mul_sub, Int.mul_assoc]
    omega
theorem Tr.zero {b : List (List Int)} (hB : IsB b) (l0 : List Int) : Tr b l0 0 (zer b.length) := ⟨rz_zer hB, (Eq0.zero b).congr fun v _ => by rw [zer_get]; simp⟩
theorem f68 {x y : AV} {b : List (List Int)} {s : List Int} {k : Nat} (hx : IsLL x b) (hy : IsL y s) (hB : IsB b) (hs : InR b.length 1048576 s) (h0 : sumTo (gf s) b.length = 0) (hk : k < 2 ^ 62) {m : Nat} (hm : smK + 3 ≤ m) :
    ∃ N, Tr b (redL b s 0) k N ∧ evF tab it m 68 [x, y, .int .i64 (k : Int), .int .i64 0] [] = some (fzL N, []) := by
  have hK := smK_big
  obtain ⟨m, rfl⟩ : ∃ j, m = j + 1 := ⟨m - 1, by omega⟩
  have fx := hx.free; have fy := hy.free
  have hn1 := hB.n1; have hn2 := hB.n2
  have hO := rz_of hB h0
  have e28 := fun H => c28 (q := 0) hx hy hB hs hn1 (m := m) (by omega) H
  generalize redL b s 0 = l0 at *
  let F : Nat → List Int := fun i => Nat.rec (zer b.length) (fun i N => redL b (pl2 N l0 ((k / 2 ^ (61 - i) % 2 : Nat) : Int)) 0) i
  have hF : ∀ i, i ≤ 62 → Tr b l0 (k / 2 ^ (62 - i)) (F i) := fun i => by
    induction i with
    | zero => intro _; rw [Nat.div_eq_of_lt (by simpa using hk)]; exact Tr.zero hB l0
    | succ i ih =>
      intro hi
      have h1 := ih (by omega)
      have e : k / 2 ^ (62 - i) = k / 2 ^ (61 - i) / 2 := by rw [Nat.div_div_eq_div_mul, ← Nat.pow_succ]; congr 2; omega
      rw [e] at h1
      have h2 := h1.step hB hO
      rw [show 62 - (i + 1) = 61 - i by omega]
      exact h2
  refine ⟨F 62, by have := hF 62 (Nat.le_refl _); simpa using this, ?_⟩
  have mk := fun call H => @e_mkI call H b.length (by unfold most; omega)
  have lx := fun H => p_lenLL (H := H) hx
  have e59 := fun (i : Nat) (hi : i ≤ 62) (d : Nat) (hd : d < 2) (args : List AV) (H : Heap) (hz : frzL H 40 args = some [.rd 1 b.length (iL (F i)), fzL l0, .int .i64 (d : Int)]) => c59p (k := (d : Int)) (rd_isL (hF i hi).rz.len) (isL_fz l0) (by rw [(hF i hi).rz.len]; omega) (by rw [(hF i hi).rz.len]; omega) (by rw [(hF i hi).rz.len, hO.len]) (by omega) (fun v hv => by
    obtain ⟨a1, a2, a3⟩ := (hF i hi).rz.val hB
    rw [(hF i hi).rz.len] at hv
    rcases Nat.eq_zero_or_pos v with e | e
    · subst e; omega
    · have := a1 v hv (by omega); omega) (fun v hv => by
    obtain ⟨a1, a2, a3⟩ := hO.val hB
    rw [(hF i hi).rz.len] at hv
    rcases Nat.eq_zero_or_pos v with e | e
    · subst e; omega
    · have := a1 v hv (by omega); omega) (m := m) (by omega) H hz
  have e58 := fun (i : Nat) (hi : i ≤ 62) (d : Nat) (hd : d < 2) H => c58 (q := 0) hx (isL_fz (pl2 (F i) l0 (d : Int))) hB hn1 (Tr.near hB hO (hF i hi).rz hd) (m := m) (by omega) H
  have f0 := (isL_fz l0).free
  have hFl := fun i hi => (hF i hi).rz.len
  have hF62 := fun (i : Nat) => (isL_fz (F i)).free
  have hFs : ∀ i, F (i + 1) = redL b (pl2 (F i) l0 ((k / 2 ^ (61 - i) % 2 : Nat) : Int)) 0 := fun i => rfl
  have hF0 : F 0 = zer b.length := rfl
  clear hF
  refine f_enter rfl rfl ?_
  generalize evF tab it m = call at *
  clear_value F
  have hzz : List.replicate b.length (0 : Int) = zer b.length := rfl
  have g0 : ∀ (i : Int) (U : List AV), gc 0 [x, .int .i64 (k : Int), .int .i64 0, fzL l0, .sl 0 1 0 b.length, .int .i64 i] [some (.data U)] = some ([x, .int .i64 (k : Int), .int .i64 0, fzL l0, .sl 0 1 0 b.length, .int .i64 i], [some (.data U)]) := fun i U => by simp [go_sem, fx, f0]
  repeat' first
 | (apply s_mov; exact aW)
 | (apply c_nil)
 | (apply s_cn; exact aO; exact e28 _)
 | (apply s_pn; exact aO; exact lx _)
 | (apply s_en; exact aO; exact mk _ _)
 | (apply c_seq)
 | (apply c_reg)
 | (apply c_block)
 | (with_reducible apply k_c)
  refine c_loop ?_
  refine loop_gc (σ := Nat) (fun i => [x, .int .i64 (k : Int), .int .i64 0, fzL l0, if i = 0 then .sl 0 1 0 b.length else fzL (F i), .int .i64 (61 - (i : Int))]) (fun i => if i = 0 then [some (.data (iL (zer b.length)))] else []) (fun i => i ≤ 62) (fun i => 62 - i) ?_ _ 0 _ _ (by omega) (by omega) (by
    rw [if_pos rfl, if_pos rfl]
    exact g0 _ _)
  intro i hi K hKl
  by_cases hin : i < 62
  · have hK1 := hKl (i + 1)
    rw [if_neg (by omega), if_neg (by omega), hFs] at hK1
    have hb : 61 - (i : Int) = ((61 - i : Nat) : Int) := by omega
    have hsh := fun H => p_shr (H := H) (a := k) (b := 61 - i) (by omega)
    rw [← hb] at hsh
    generalize hD : k / 2 ^ (61 - i) = D at *
    have hd := Nat.mod_lt D (show 2 > 0 by omega)
    have hrem : ∀ H, evP H (.bin .rem) [.int .i64 (D : Int), .int .i64 2] = some (.int .i64 ((D % 2 : Nat) : Int)) := fun H => rfl
    have e58i := e58 i (by omega) (D % 2) hd
    have hK2 := fun env' H' => hK1 env' H' (by omega) (by omega)
    have eb : 61 - ((i + 1 : Nat) : Int) = 61 - (i : Int) - 1 := by omega
    rw [eb] at hK2
    have fR := (isL_fz (redL b (pl2 (F i) l0 ((D % 2 : Nat) : Int)) 0)).free
    by_cases h0 : i = 0
    · subst h0
      rw [if_pos rfl, if_pos rfl]
      have e59i := e59 0 (by omega) (D % 2) hd [.sl 0 1 0 b.length, fzL l0, .int .i64 ((D % 2 : Nat) : Int)] [some (.data (iL (zer b.length)))] (by
        rw [hF0]
        exact frzL_cons (frz_sl rfl (by simp [zer])) (frzL_cons (frzV_of f0) (frzL_cons rfl frzL_nil)))
      clear hKl hK1 e58 e59 hFs
      generalize fzL (redL b (pl2 (F 0) l0 ((D % 2 : Nat) : Int)) 0) = vR at *
      generalize fzL (pl2 (F 0) l0 ((D % 2 : Nat) : Int)) = vP at *
      generalize fzL l0 = v0 at *
      repeat' first
 | (apply s_mov; exact aW)
 | (apply c_nil)
 | (apply s_geq; exact rfl; all_goals (intro _; try (exfalso; omega)))
 | (apply s_sub; exact rfl; omega)
 | (apply s_pn; exact aO; exact hsh _)
 | (apply s_pn; exact aO; exact hrem _)
 | (apply s_cn; exact aO; exact e59i)
 | (apply s_cn; exact aO; exact e58i _)
 | (apply c_seq)
 | (apply c_reg)
 | (apply c_block)
 | (apply c_skip)
 | (apply c_condT; exact rfl)
 | (with_reducible apply k_c)
      all_goals first
        | (exfalso; omega)
        | (refine hK2 _ _ ?_
           exact gc_to rfl (by simp [idFreeL, AV.idFree, fx, f0, fR]))
    · rw [if_neg h0, if_neg h0]
      have e59i := e59 i (by omega) (D % 2) hd [fzL (F i), fzL l0, .int .i64 ((D % 2 : Nat) : Int)] [] (by
        rw [fzL_ne (hFl i (by omega)) hn1]
        exact frzL_cons rfl (frzL_cons (frzV_of f0) (frzL_cons rfl frzL_nil)))
      clear hKl hK1 e58 e59 hFs
      generalize fzL (redL b (pl2 (F i) l0 ((D % 2 : Nat) : Int)) 0) = vR at *
      generalize fzL (pl2 (F i) l0 ((D % 2 : Nat) : Int)) = vP at *
      generalize fzL (F i) = vF at *
      generalize fzL l0 = v0 at *
      repeat' first
 | (apply s_mov; exact aW)
 | (apply c_nil)
 | (apply s_geq; exact rfl; all_goals (intro _; try (exfalso; omega)))
 | (apply s_sub; exact rfl; omega)
 | (apply s_pn; exact aO; exact hsh _)
 | (apply s_pn; exact aO; exact hrem _)
 | (apply s_cn; exact aO; exact e59i)
 | (apply s_cn; exact aO; exact e58i _)
 | (apply c_seq)
 | (apply c_reg)
 | (apply c_block)
 | (apply c_skip)
 | (apply c_condT; exact rfl)
 | (with_reducible apply k_c)
      all_goals first
        | (exfalso; omega)
        | (refine hK2 _ _ ?_
           exact gc_to rfl (by simp [idFreeL, AV.idFree, fx, f0, fR]))
  · obtain rfl : i = 62 := by omega
    rw [if_neg (by omega), if_neg (by omega)]
    have fR := hF62 62
    clear hKl e58 e59 hFs
    generalize fzL (F 62) = vF at *
    repeat' first
 | (apply s_mov; exact aW)
 | (apply c_nil)
 | (apply s_geq; exact rfl; all_goals (intro _; try (exfalso; omega)))
 | (apply c_seq)
 | (apply c_reg)
 | (apply c_exitH)
 | (apply c_ret)
 | (apply c_condF; exact rfl)
 | (apply c_preF; exact aK; exact aF)
 | (with_reducible apply k_c)
    all_goals first
      | (exfalso; omega)
      | exact fin_t (by (conv => lhs; whnf)) (by first | assumption | rfl) rfl
set_option maxHeartbeats 8000000
theorem times_of {x y : AV} {b : List (List Int)} {s : List Int} (hx : IsLL x b) (hy : IsL y s) (hB : IsB b) (hs : InR b.length 1048576 s) (h0 : sumTo (gf s) b.length = 0) {k : Nat} (hk : k < 2 ^ 62) {m : Nat} (hm : smK + 3 ≤ m) :
    ∃ z : AV, (∀ H, callPure (evF tab it m) true 68 [x, y, .int .i64 (k : Int), .int .i64 0] H = some (z, H)) ∧ ∀ H, callPure (evF tab it m) true 67 [z] H = some (.bool (decide (ordS b s ∣ k)), H) := by
  have hK := smK_big
  have hn2 := hB.n2
  obtain ⟨N, ht, hf⟩ := f68 (m := m) hx hy hB hs h0 hk hm
  have iN := isL_fz N
  refine ⟨fzL N, fun H => callPure_free (by simp [idFreeL, AV.idFree, hx.free, hy.free]) (by simp) hf iN.free, fun H => ?_⟩
  rw [callPure_free (H := H) (by simp [idFreeL, iN.free]) (by simp) (f67 iN (by rw [ht.rz.len]; omega) (m := m) (by omega)) rfl]
  have e : (∀ v ∈ N, v = 0) ↔ ordS b s ∣ k := by
    rw [ht.rz.zero_iff hB, ← Int.natCast_dvd_natCast, ← ordS_red hB h0]
    constructor
    · intro h
      refine (ht.e.add h).congr fun v _ => ?_
      omega
    · intro h
      refine (h.sub ht.e).congr fun v _ => ?_
      omega
  simp only [e]
theorem LI33 {call : CallF} {N : Nat} {K0 : KT} {X : Nat → KT} {Rt : KT} {res : R} {env : Env} {H : Heap} {x y : AV} {o d rest0 : Nat} (fx : x.idFree = true) (fy : y.idFree = true)
    (hN : 100 ≤ N) (hd : 2 ≤ d ∧ d ≤ 1500000) (hr : 1 ≤ rest0 ∧ rest0 ≤ 101559956668416)
    (h0 : gc 0 (looks env [0, 1, 2, 7, 8]) H = some ([x, y, .int .i64 (o : Int), .int .i64 (rest0 : Int), .int .i64 (d : Int)], []))
    (hK : ∀ rest : Nat, rest ∣ rest0 → 1 ≤ rest → ∀ env' H', gc 0 (looks env' [0, 1, 2, 7, 8]) H' = some ([x, y, .int .i64 (o : Int), .int .i64 (rest : Int), .int .i64 (d : Int)], []) → K0 env' H' = res) :
    loopIt N (fun K => evC call it N lb33_2 0 K (blkX 2 K0 X) Rt) env H = res := by
  refine loop_gc (σ := Nat × Nat) (fun s => [x, y, .int .i64 (o : Int), .int .i64 (s.1 : Int), .int .i64 (d : Int)]) (fun s => []) (fun s => s.1 ∣ rest0 ∧ 1 ≤ s.1 ∧ s.1 ≤ 101559956668416 ∧ s.1 < 2 ^ s.2) (fun s => s.2) ?_ _ (rest0, 47) _ _ ⟨Nat.dvd_refl _, hr.1, hr.2, by show rest0 < 2 ^ 47; omega⟩ (by show 47 < _; omega) h0
  clear h0
  intro ⟨rest, g⟩ ⟨hdv, hr1, hr2, hg⟩ K hKl
  dsimp only at hdv hr1 hr2 hg hKl ⊢
  by_cases hm : rest % d = 0
  · have hdd : d ∣ rest := Nat.dvd_of_mod_eq_zero hm
    have hg1 : 1 ≤ g := by
      rcases Nat.eq_zero_or_pos g with e | e
      · subst e; simp at hg; omega
      · exact e
    have hlt : rest / d < 2 ^ (g - 1) := by
      have h1 : rest / d ≤ rest / 2 := Nat.div_le_div_left hd.1 (by omega)
      have h2 : 2 ^ g = 2 * 2 ^ (g - 1) := by rw [← Nat.pow_succ']; congr 1; omega
      omega
    have hle : rest / d ≤ 101559956668416 := Nat.le_trans (Nat.div_le_self _ _) hr2
    have h1 : 1 ≤ rest / d := (Nat.one_le_div_iff (by omega)).2 (Nat.le_of_dvd (by omega) hdd)
    have hd2 : rest / d ∣ rest0 := Nat.dvd_trans ⟨d, by rw [Nat.mul_comm]; exact (Nat.mul_div_cancel' hdd).symm⟩ hdv
    have hK1 := hKl (rest / d, g - 1)
    dsimp only at hK1
    clear hKl hK
    repeat' first
 | (apply s_mov; exact aW)
 | (apply c_nil)
 | (apply s_eql; exact rfl; all_goals (intro _; try (exfalso; omega)))
 | (apply s_quoN; exact rfl; omega; omega)
 | (apply s_remN; exact rfl; omega)
 | (apply c_seq)
 | (apply c_reg)
 | (apply c_block)
 | (apply c_skip)
 | (apply c_condT; exact rfl)
 | (with_reducible apply k_c)
    all_goals first
      | (exfalso; omega)
      | (refine hK1 _ _ ⟨hd2, h1, hle, hlt⟩ (by omega) ?_
         exact gc_to rfl (by simp [idFreeL, AV.idFree, fx, fy]))
  · clear hKl
    repeat' first
 | (apply s_mov; exact aW)
 | (apply c_nil)
 | (apply s_eql; exact rfl; all_goals (intro _; try (exfalso; omega)))
 | (apply s_remN; exact rfl; omega)
 | (apply c_seq)
 | (apply c_reg)
 | (apply c_exitH)
 | (apply c_condF; exact rfl)
 | (with_reducible apply k_c)
    all_goals first
      | (exfalso; omega)
      | (refine hK rest hdv hr1 _ _ ?_
         exact gc_to rfl (by simp [idFreeL, AV.idFree, fx, fy]))
theorem f33 {x y : AV} {b : List (List Int)} {s : List Int} (hx : IsLL x b) (hy : IsL y s) (hB : IsB b) (hs : InR b.length 1048576 s) (h0 : sumTo (gf s) b.length = 0) {m : Nat} (hm : smK + 4 ≤ m) (hm2 : 1600000 ≤ m) :
    evF tab it m 33 [x, y, .int .i64 (ordS b s : Int)] [] = some (.bool true, []) := by
  obtain ⟨m, rfl⟩ : ∃ j, m = j + 1 := ⟨m - 1, by omega⟩
  have hK := smK_big
  have fx := hx.free; have fy := hy.free
  have ht := trN_le hB
  obtain ⟨ho1, -⟩ := ordS_spec hB h0
  have hotr : ordS b s ∣ (trN b).toNat := by
    have := ordS_tr hB h0
    rw [← Int.toNat_of_nonneg (show 0 ≤ trN b by omega)] at this
    exact Int.natCast_dvd_natCast.1 this
  have hole : ordS b s ≤ 101559956668416 := by
    have := Nat.le_of_dvd (by omega) hotr
    omega
  have e31 := fun H => c31 hx hB (m := m) (by omega) H
  rw [← Int.toNat_of_nonneg (show 0 ≤ trN b by omega)] at e31
  have htn : (trN b).toNat % ordS b s = 0 := Nat.mod_eq_zero_of_dvd hotr
  have htb : (trN b).toNat ≤ 101559956668416 := by omega
  have eT := fun (k : Nat) (hk : k ≤ 101559956668416) => times_of hx hy hB hs h0 (k := k) (by omega) (m := m) (by omega)
  have hLI := fun (K0 : KT) (X : Nat → KT) (Rt : KT) (res : R) (env : Env) (H : Heap) (d rest : Nat) => LI33 (call := evF tab it m) (N := m) (K0 := K0) (X := X) (Rt := Rt) (res := res) (env := env) (H := H) (o := ordS b s) (d := d) (rest0 := rest) fx fy (by omega)
  generalize (trN b).toNat = T at *
  generalize ordS b s = o at *
  have hno : ∀ d, 2 ≤ d → d ≤ o → ¬ o ∣ o / d := fun d h1 h2 h3 => by
    have h4 : 1 ≤ o / d := (Nat.one_le_div_iff (by omega)).2 h2
    have h5 := Nat.le_of_dvd (by omega) h3
    have h6 : o / d < o := Nat.div_lt_self (by omega) (by omega)
    omega
  refine f_enter rfl rfl ?_
  generalize evF tab it m = call at *
  obtain ⟨z, z68, z67⟩ := eT o hole
  rw [decide_eq_true (Nat.dvd_refl o)] at z67
  repeat' first
 | (apply s_mov; exact aW)
 | (apply s_gT; exact rfl)
 | (apply c_nil)
 | (apply s_pickF; exact rfl; exact aW)
 | (apply s_notT; exact rfl)
 | (apply s_lss; exact rfl; all_goals (intro _; try (exfalso; omega)))
 | (apply s_neq; exact rfl; all_goals (intro _; try (exfalso; omega)))
 | (apply s_cn; exact aO; exact e31 _)
 | (apply s_cn; exact aO; exact z68 _)
 | (apply s_cn; exact aO; exact z67 _)
 | (apply s_remN; exact rfl; omega)
 | (apply c_seq)
 | (apply c_reg)
 | (apply c_block)
 | (apply c_skip)
 | (apply c_condF; exact rfl)
 | (with_reducible apply k_c)
  all_goals try (exfalso; omega)
  clear z68 z67
  refine c_loop ?_
  refine loop_gc (σ := Nat × Nat) (fun s => [x, y, .int .i64 (o : Int), .int .i64 (s.1 : Int), .int .i64 (s.2 : Int)]) (fun s => []) (fun s => s.1 ∣ o ∧ 1 ≤ s.1 ∧ 2 ≤ s.2 ∧ s.2 ≤ 1500001) (fun s => 1500002 - s.2) ?_ _ (o, 2) _ _ ⟨Nat.dvd_refl _, ho1, by dsimp only; omega, by dsimp only; omega⟩ (by show 1500002 - 2 < _; omega) (gc_to rfl (by simp [idFreeL, AV.idFree, fx, fy]))
  intro ⟨rest, d⟩ ⟨hr, hr1, hd1, hd2⟩ K hKl
  dsimp only at hr hr1 hd1 hd2 hKl ⊢
  have hrle := Nat.le_of_dvd (by omega) hr
  by_cases hda : d ≤ 1500000
  · have hdd : d * d ≤ 2250000000000 := Nat.le_trans (Nat.mul_le_mul hda hda) (by omega)
    by_cases hdr : d * d ≤ rest
    · have hdo : d ≤ o := Nat.le_trans (Nat.le_trans (Nat.le_mul_of_pos_left d (by omega)) hdr) hrle
      have hK1 := fun rest => hKl (rest, d + 1)
      dsimp only at hK1
      clear hKl
      by_cases hmd : rest % d = 0
      · obtain ⟨z, z68, z67⟩ := eT (o / d) (Nat.le_trans (Nat.div_le_self _ _) hole)
        rw [decide_eq_false (hno d hd1 hdo)] at z67
        have hL := fun K0 X Rt res env H => hLI K0 X Rt res env H d rest ⟨hd1, hda⟩ ⟨hr1, by omega⟩
        clear hLI eT
        repeat' first
 | (apply s_mov; exact aW)
 | (apply s_gT; exact rfl)
 | (apply c_nil)
 | (apply s_pickT; exact rfl; exact aW)
 | (apply s_leq; exact rfl; all_goals (intro _; try (exfalso; omega)))
 | (apply s_eql; exact rfl; all_goals (intro _; try (exfalso; omega)))
 | (apply s_cn; exact aO; exact z68 _)
 | (apply s_cn; exact aO; exact z67 _)
 | (apply s_mulN; exact rfl; omega)
 | (apply s_quoN; exact rfl; omega; omega)
 | (apply s_remN; exact rfl; omega)
 | (apply c_seq)
 | (apply c_reg)
 | (apply c_block)
 | (apply c_skip)
 | (apply c_condT; exact rfl)
 | (apply c_condF; exact rfl)
 | (with_reducible apply k_c)
        all_goals try (exfalso; omega)
        refine c_loop ?_
        refine hL _ _ _ _ _ _ (gc_to rfl (by simp [idFreeL, AV.idFree, fx, fy])) ?_
        intro rest' hr' hr1' env' H' hgc
        refine k_c (c_pre hgc ?_)
        repeat' first
 | (apply s_mov; exact aW)
 | (apply c_nil)
 | (apply s_add; exact rfl; omega)
 | (apply c_reg)
        refine hK1 rest' _ _ ⟨Nat.dvd_trans hr' hr, hr1', by omega, by omega⟩ (by omega) ?_
        exact gc_to rfl (by simp [idFreeL, AV.idFree, fx, fy])
      · clear hLI eT
        repeat' first
 | (apply s_mov; exact aW)
 | (apply s_gT; exact rfl)
 | (apply c_nil)
 | (apply s_pickT; exact rfl; exact aW)
 | (apply s_leq; exact rfl; all_goals (intro _; try (exfalso; omega)))
 | (apply s_eql; exact rfl; all_goals (intro _; try (exfalso; omega)))
 | (apply s_add; exact rfl; omega)
 | (apply s_mulN; exact rfl; omega)
 | (apply s_remN; exact rfl; omega)
 | (apply c_seq)
 | (apply c_reg)
 | (apply c_block)
 | (apply c_skip)
 | (apply c_condT; exact rfl)
 | (apply c_condF; exact rfl)
 | (apply c_preF; exact aK; exact aF)
 | (with_reducible apply k_c)
        all_goals first
          | (exfalso; omega)
          | (refine hK1 rest _ _ ⟨hr, hr1, by omega, by omega⟩ (by omega) ?_
             exact gc_to rfl (by simp [idFreeL, AV.idFree, fx, fy]))
    · clear hKl hLI
      by_cases h1 : rest = 1
      · subst h1
        repeat' first
 | (apply s_mov; exact aW)
 | (apply s_gT; exact rfl)
 | (apply s_gF; exact rfl)
 | (apply s_gFD; exact rfl)
 | (apply c_nil)
 | (apply s_pickT; exact rfl; exact aW)
 | (apply s_leq; exact rfl; all_goals (intro _; try (exfalso; omega)))
 | (apply s_eql; exact rfl; all_goals (intro _; try (exfalso; omega)))
 | (apply s_mulN; exact rfl; omega)
 | (apply c_seq)
 | (apply c_reg)
 | (apply c_exitH)
 | (apply c_ret)
 | (apply c_condF; exact rfl)
 | (apply c_preF; exact aK; exact aF)
 | (with_reducible apply k_c)
        all_goals first
          | (exfalso; omega)
          | exact fin_t (by (conv => lhs; whnf)) (by rfl) rfl
      · obtain ⟨z, z68, z67⟩ := eT (o / rest) (Nat.le_trans (Nat.div_le_self _ _) hole)
        rw [decide_eq_false (hno rest (by omega) hrle)] at z67
        clear eT
        repeat' first
 | (apply s_mov; exact aW)
 | (apply s_gT; exact rfl)
 | (apply c_nil)
 | (apply s_pickT; exact rfl; exact aW)
 | (apply s_pickF; exact rfl; exact aW)
 | (apply s_notF; exact rfl)
 | (apply s_leq; exact rfl; all_goals (intro _; try (exfalso; omega)))
 | (apply s_eql; exact rfl; all_goals (intro _; try (exfalso; omega)))
 | (apply s_cn; exact aO; exact z68 _)
 | (apply s_cn; exact aO; exact z67 _)
 | (apply s_mulN; exact rfl; omega)
 | (apply s_quoN; exact rfl; omega; omega)
 | (apply c_seq)
 | (apply c_reg)
 | (apply c_exitH)
 | (apply c_ret)
 | (apply c_condF; exact rfl)
 | (apply c_preF; exact aK; exact aF)
 | (with_reducible apply k_c)
        all_goals first
          | (exfalso; omega)
          | exact fin_t (by (conv => lhs; whnf)) (by rfl) rfl
  · clear hKl hLI
    by_cases h1 : rest = 1
    · subst h1
      repeat' first
 | (apply s_mov; exact aW)
 | (apply s_gF; exact rfl)
 | (apply s_gFD; exact rfl)
 | (apply c_nil)
 | (apply s_pickT; exact rfl; exact aW)
 | (apply s_pickF; exact rfl; exact aW)
 | (apply s_leq; exact rfl; all_goals (intro _; try (exfalso; omega)))
 | (apply s_eql; exact rfl; all_goals (intro _; try (exfalso; omega)))
 | (apply c_seq)
 | (apply c_reg)
 | (apply c_exitH)
 | (apply c_ret)
 | (apply c_condF; exact rfl)
 | (apply c_preF; exact aK; exact aF)
 | (with_reducible apply k_c)
      all_goals first
        | (exfalso; omega)
        | exact fin_t (by (conv => lhs; whnf)) (by rfl) rfl
    · obtain ⟨z, z68, z67⟩ := eT (o / rest) (Nat.le_trans (Nat.div_le_self _ _) hole)
      rw [decide_eq_false (hno rest (by omega) hrle)] at z67
      clear eT
      repeat' first
 | (apply s_mov; exact aW)
 | (apply s_gT; exact rfl)
 | (apply s_gF; exact rfl)
 | (apply c_nil)
 | (apply s_pickF; exact rfl; exact aW)
 | (apply s_notF; exact rfl)
 | (apply s_leq; exact rfl; all_goals (intro _; try (exfalso; omega)))
 | (apply s_eql; exact rfl; all_goals (intro _; try (exfalso; omega)))
 | (apply s_cn; exact aO; exact z68 _)
 | (apply s_cn; exact aO; exact z67 _)
 | (apply s_quoN; exact rfl; omega; omega)
 | (apply c_seq)
 | (apply c_reg)
 | (apply c_exitH)
 | (apply c_ret)
 | (apply c_condF; exact rfl)
 | (apply c_preF; exact aK; exact aF)
 | (with_reducible apply k_c)
      all_goals first
        | (exfalso; omega)
        | exact fin_t (by (conv => lhs; whnf)) (by rfl) rfl
end Go.AM.Ch
