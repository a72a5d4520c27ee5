/- A part of the proof: T39 T40 T15 T41. -/
import Derived.Test.YtdgkchedoooffaaT12
import Derived.Test.YtdgkchedoooffaaPc
import Derived.Test.YtdgkchedoooffaaM3
import Derived.Test.YtdgkchedoooffaaT9
set_option linter.unusedVariables false
set_option linter.unusedSimpArgs false
set_option linter.unusedSectionVars false
namespace Go.AM.Tb
set_option maxHeartbeats 4000000
theorem gcDb {pre gs : List AV} {H : Heap} {b n : Nat} {c : List AV} (h : H[b]? = some (some (.data c))) (hp : idFreeL pre = true) (hpl : pre.length ≤ 20) (hg : idFreeL gs = true) : gc 0 (pre ++ .sl b 1 0 n :: gs) H = some (pre ++ .sl 0 1 0 n :: gs, [some (.data c)]) := by
  have hb : boxCells H b = [] := by simp [boxCells, h]
  have hφ : nodupB [b] = true := rfl
  refine gc_of (φ := [b]) ?_ hφ ?_ (Hp := [some (.data c)]) (by simp [pickO, h]) rfl
  · have e : reach H 400 (rangeL 0 []) (roots H (rangeL 0 []) ++ (pre ++ .sl b 1 0 n :: gs)) = reach H ((399 - pre.length) + 1) [] (.sl b 1 0 n :: gs) := by
      rw [show reach H 400 (rangeL 0 []) (roots H (rangeL 0 []) ++ (pre ++ .sl b 1 0 n :: gs)) = reach H 400 [] (pre ++ .sl b 1 0 n :: gs) from rfl, show (400 : Nat) = (399 - pre.length) + 1 + pre.length by omega, reach_pre pre hp]
    rw [e, reach_new]
    simp only [List.contains_nil, Bool.false_eq_true, if_false, hb, List.nil_append]
    rw [reach_free _ _ _ _ hg]
  · rw [renL_append, renL_free _ hp]
    simp [renL, AV.ren, posOf, renL_free _ hg]
theorem getB_set {b : List Bool} {i : Nat} {v : Bool} {j : Nat} (hi : i < b.length) : getB (b.set i v) (j : Int) = if j = i then v else getB b (j : Int) := by
  rw [getB_nat, getB_nat]
  by_cases e : j = i
  · subst e; simp [List.getD, hi]
  · rw [if_neg e]; simp [List.getD, List.getElem?_set_ne (Ne.symm e)]
theorem take_snocI' {l : List Int} {i : Nat} (h : i < l.length) : l.take (i + 1) = l.take i ++ [getI l (i : Int)] := by
  rw [List.take_succ_eq_append_getElem h, getI_nat]; simp [List.getD, h]
theorem flat_snoc {l : List (List Int)} {i : Nat} (hi : i < l.length) : (l.take (i + 1)).flatten = (l.take i).flatten ++ getLL l (i : Int) := by
  rw [take_snoc hi]; simp
theorem chs_nd {l : List (List Int)} {i : Nat} {k : Nat} (hi : i < l.length) (h : l.flatten.Nodup) : ((l.take i).flatten ++ (getLL l (i : Int)).take k).Nodup := by
  have e : l.flatten = ((l.take i).flatten ++ (getLL l (i : Int)).take k) ++ ((getLL l (i : Int)).drop k ++ (l.drop (i + 1)).flatten) := by
    have h1 : l = l.take i ++ getLL l (i : Int) :: l.drop (i + 1) := by rw [getLL_get hi]; simp
    conv => lhs; rw [h1]
    rw [List.flatten_append, List.flatten_cons]
    conv => lhs; rhs; lhs; rw [← List.take_append_drop k (getLL l (i : Int))]
    simp only [List.append_assoc]
  rw [e] at h
  exact (List.nodup_append.1 h).1
theorem f64 {x y : AV} {w : List Int} {l : List (List Int)} {up : Bool} (hx : IsL x w) (hy : IsLL y l) (hwl : w.length ≤ 61) (hl : l.length ≤ 200) (hlr : ∀ c ∈ l, c.length ≤ 200) {m : Nat} (hm : 1100 ≤ m) : evF tab it m 64 [x, y, .bool up] [] = some (.int .i64 (if Chs w up l then (l.flatten.length : Int) else -1), []) := by
  obtain ⟨m, rfl⟩ : ∃ j, m = j + 1 := ⟨m - 1, by omega⟩
  have fx := hx.free
  have fy := hy.free
  have e85 := fun {c : List Int} {z : AV} (hz : IsL z c) (hc : c.length ≤ 1000) H => c85 (up := up) hx hz hc (by omega) (m := m) (by omega) H
  generalize hR : some (AV.int .i64 (if Chs w up l then (l.flatten.length : Int) else -1), []) = res
  have hF : ¬ Chs w up l → ∀ {env s H}, look env s = .int .i64 (-1) → finish 0 [.t s] env H = res := fun h env s H h1 => by rw [← hR, if_neg h]; exact fin_t h1 rfl rfl
  have hT : Chs w up l → ∀ {env s H}, look env s = .int .i64 (l.flatten.length : Int) → finish 0 [.t s] env H = res := fun h env s H h1 => by rw [← hR, if_pos h]; exact fin_t h1 rfl rfl
  have hmk : ∀ call, evE call [] (.mkS 1 1 [.bool false]) [.int .i64 (w.length : Int), .int .i64 (w.length : Int)] = some (.sl 0 1 0 w.length, [some (.data (bL (List.replicate w.length false)))]) := fun call => by
    have h : (w.length : Int) ≤ 1048576 := by omega
    have hr : ∀ n, repl n [AV.bool false] = bL (List.replicate n false) := by
      intro n
      induction n with
      | zero => simp [repl, bL]
      | succ n ih => simp [repl, ih, bL, List.replicate_succ]
    simp [evE, most, h, hr]
  refine f_enter rfl rfl ?_
  generalize evF tab it m = call at *
  repeat' first
 | (apply s_mov; exact aW)
 | (apply c_nil)
 | (apply s_en; exact aO; exact hmk _)
 | (apply s_len; exact aW; exact aI)
 | (apply c_seq)
 | (apply c_reg)
 | (apply c_block)
 | (with_reducible apply k_c)
  refine c_loop ?_
  have hgc : ∀ n c gs, idFreeL gs = true → gc 0 ([x, y, .bool up] ++ .sl 0 1 0 n :: gs) [some (HO.data c)] = some ([x, y, .bool up] ++ .sl 0 1 0 n :: gs, [some (.data c)]) := fun n c gs hg => gcDb rfl (by simp [idFreeL, AV.idFree, fx, fy]) (by simp) hg
  refine loop_gc (σ := Nat × List Bool) (fun p => [x, y, .bool up, .sl 0 1 0 w.length, .int .i64 ((l.take p.1).flatten.length : Int), .int .i64 (p.1 : Int)]) (fun p => [some (.data (bL p.2))]) (fun p => p.1 ≤ l.length ∧ p.2.length = w.length ∧ (∀ c ∈ l.take p.1, IsCh w up c) ∧ (l.take p.1).flatten.Nodup ∧ ∀ q : Nat, q < w.length → getB p.2 (q : Int) = decide ((q : Int) ∈ (l.take p.1).flatten)) (fun p => l.length - p.1) ?_ _ (0, List.replicate w.length false) _ _ ⟨by dsimp only; omega, by simp, by simp, by simp, fun q hq => by rw [getB_nat]; simp [List.getD, hq]⟩ (by dsimp only; omega) (hgc _ _ _ rfl)
  rintro ⟨i, sn⟩ ⟨hi, hsl, hch, hnd, hsn⟩ K hK
  dsimp only at hi hsl hch hnd hsn hK ⊢
  have hflen : (l.take i).flatten.length ≤ i * 200 := by
    have : ∀ (l : List (List Int)), (∀ c ∈ l, c.length ≤ 200) → l.flatten.length ≤ l.length * 200 := by
      intro l
      induction l with
      | nil => simp
      | cons c l ih =>
        intro h
        have := ih fun d hd => h d (by simp [hd])
        have := h c (by simp)
        simp only [List.flatten_cons, List.length_append, List.length_cons]
        omega
    have := this (l.take i) fun c hc => hlr c (List.mem_of_mem_take hc)
    rw [List.length_take] at this
    have : min i l.length = i := by omega
    omega
  by_cases hil : i < l.length
  · have hrow : IsL (llAt y (i : Int)) (getLL l (i : Int)) := hy.at ⟨by omega, by omega⟩
    have hcl := hlr (getLL l (i : Int)) (by rw [getLL_get hil]; exact List.getElem_mem _)
    have ec := e85 hrow (by omega)
    by_cases hc : IsCh w up (getLL l (i : Int))
    · simp only [hc, decide_true] at ec
      have hb := hc.2
      repeat' first
 | (apply s_mov; exact aW)
 | (apply c_nil)
 | (apply s_notT; exact rfl)
 | (apply s_lss; exact rfl; all_goals (intro _; try (exfalso; omega)))
 | (apply s_cn; exact aO; exact ec _)
 | (apply s_lenLL; exact aW; assumption)
 | (apply s_idxLL; exact aW; exact rfl; assumption; omega)
 | (apply s_ldLL; exact rfl; assumption; omega)
 | (apply c_seq)
 | (apply c_reg)
 | (apply c_block)
 | (apply c_skip)
 | (apply c_condT; exact rfl)
 | (apply c_condF; exact rfl)
 | (with_reducible apply k_c)
      refine c_loop ?_
      refine loop_gc (σ := Nat × List Bool) (fun p => [x, y, .bool up, .sl 0 1 0 w.length, .int .i64 (((l.take i).flatten ++ (getLL l (i : Int)).take p.1).length : Int), .int .i64 (i : Int), .int .i64 (p.1 : Int)]) (fun p => [some (.data (bL p.2))]) (fun p => p.1 ≤ (getLL l (i : Int)).length ∧ p.2.length = w.length ∧ ((l.take i).flatten ++ (getLL l (i : Int)).take p.1).Nodup ∧ ∀ q : Nat, q < w.length → getB p.2 (q : Int) = decide ((q : Int) ∈ (l.take i).flatten ++ (getLL l (i : Int)).take p.1)) (fun p => (getLL l (i : Int)).length - p.1) ?_ _ (0, sn) _ _ ⟨by dsimp only; omega, hsl, by simpa using hnd, fun q hq => by dsimp only; rw [hsn q hq]; simp⟩ (by dsimp only; omega) ?_
      rotate_left
      · rw [List.take_zero, List.append_nil]
        exact hgc w.length (bL sn) [.int .i64 ((l.take i).flatten.length : Int), .int .i64 (i : Int), .int .i64 0] rfl
      rintro ⟨k, sm⟩ ⟨hk, hsml, hnd2, hsm⟩ K2 hK2
      dsimp only at hk hsml hnd2 hsm hK2 ⊢
      generalize hc' : getLL l (i : Int) = c at *
      have hlen2 : ((l.take i).flatten ++ c.take k).length ≤ i * 200 + 200 := by rw [List.length_append, List.length_take]; omega
      by_cases hkc : k < c.length
      · obtain ⟨q1, q2, _⟩ := hb k hkc
        obtain ⟨q, hq⟩ : ∃ q : Nat, getI c (k : Int) = (q : Int) := ⟨(getI c (k : Int)).toNat, by omega⟩
        have hqw : q < w.length := by omega
        have hseen := hsm q hqw
        have hpl : evP [some (HO.data (bL sm))] (.ld false 1) [.ptr 0 (0 + (getI c (k : Int)).toNat * 1)] = some (.bool (getB sm (q : Int))) := by
          rw [hq]; exact p_ldB rfl (by omega)
        by_cases hin : (q : Int) ∈ (l.take i).flatten ++ c.take k
        · rw [hseen] at hpl
          simp only [hin, decide_true] at hpl
          have hn : ¬ Chs w up l := fun h => by
            have := chs_nd (k := k + 1) hil h.2
            rw [hc', take_snocI' hkc, ← List.append_assoc, hq] at this
            exact (List.nodup_append.1 this).2.2 (q : Int) hin (q : Int) (List.mem_singleton.2 rfl) rfl
          repeat' first
 | (apply s_mov; exact aW)
 | (apply c_nil)
 | (apply s_lss; exact rfl; all_goals (intro _; try (exfalso; omega)))
 | (apply s_pn; exact aO; exact hpl)
 | (apply s_len; exact aW; exact aI)
 | (apply s_idx; exact aW; exact rfl; exact aI; omega)
 | (apply s_idxLL; exact aW; exact rfl; assumption; omega)
 | (apply s_idxS; exact rfl; exact rfl; omega)
 | (apply s_ldI; exact rfl; omega)
 | (apply s_ldLL; exact rfl; assumption; omega)
 | (apply c_seq)
 | (apply c_reg)
 | (apply c_block)
 | (apply c_skip)
 | (apply c_ret)
 | (apply c_condT; exact rfl)
 | (with_reducible apply k_c)
          all_goals first
            | (exfalso; omega)
            | exact hF hn (by rfl)
        · rw [hseen] at hpl
          simp only [hin, decide_false] at hpl
          have hst : evE call [some (HO.data (bL sm))] (.st 1) [.ptr 0 (0 + (getI c (k : Int)).toNat * 1), .bool true] = some (.undef, [some (.data (bL (sm.set q true)))]) := by
            have := e_stB (call := call) (H := [some (HO.data (bL sm))]) (id := 0) (i := getI c (k : Int)) (b := sm) (v := true) rfl (by omega)
            rw [this, hq]; rfl
          have hsn' : ((l.take i).flatten ++ c.take (k + 1)) = ((l.take i).flatten ++ c.take k) ++ [(q : Int)] := by rw [take_snocI' hkc, ← List.append_assoc, hq]
          have hK2' := hK2 (k + 1, sm.set q true)
          dsimp only at hK2'
          rw [hsn'] at hK2'
          have hlen3 : ((((l.take i).flatten ++ c.take k) ++ [(q : Int)]).length : Int) = (((l.take i).flatten ++ c.take k).length : Int) + 1 := by rw [List.length_append, List.length_singleton, Int.natCast_add]; rfl
          rw [hlen3] at hK2'
          generalize ((l.take i).flatten ++ c.take k) = S at *
          repeat' first
 | (apply s_mov; exact aW)
 | (apply c_nil)
 | (apply s_lss; exact rfl; all_goals (intro _; try (exfalso; omega)))
 | (apply s_add; exact rfl; omega)
 | (apply s_pn; exact aO; exact hpl)
 | (apply s_st; exact aO; exact hst)
 | (apply s_len; exact aW; exact aI)
 | (apply s_idx; exact aW; exact rfl; exact aI; omega)
 | (apply s_idxLL; exact aW; exact rfl; assumption; omega)
 | (apply s_idxS; exact rfl; exact rfl; omega)
 | (apply s_ldI; exact rfl; omega)
 | (apply s_ldLL; exact rfl; assumption; omega)
 | (apply c_seq)
 | (apply c_reg)
 | (apply c_block)
 | (apply c_skip)
 | (apply c_condT; exact rfl)
 | (apply c_condF; exact rfl)
 | (with_reducible apply k_c)
          refine hK2' _ _ ⟨by omega, by simpa using hsml, ?_, fun u hu => ?_⟩ (by omega) (hgc _ _ _ rfl)
          · rw [List.nodup_append]
            exact ⟨hnd2, by simp, fun a ha b hb' e => by simp at hb'; subst hb'; subst e; exact hin ha⟩
          · rw [getB_set (by omega)]
            by_cases e : u = q
            · subst e; rw [if_pos rfl]; simp
            · rw [if_neg e, hsm u hu]
              have : ((u : Int) ∈ S ++ [(q : Int)]) ↔ (u : Int) ∈ S := by
                rw [List.mem_append]
                constructor
                · rintro (h | h)
                  · exact h
                  · simp at h; omega
                · exact .inl
              simp only [this]
      · obtain rfl : k = c.length := by omega
        rw [List.take_length] at hnd2 hsm hlen2 ⊢
        have hfs := flat_snoc hil
        rw [hc'] at hfs
        have hK' := hK (i + 1, sm)
        dsimp only at hK'
        rw [hfs] at hK'
        generalize hSS : (l.take i).flatten ++ c = S at *
        have g9 := hgc w.length (bL sm) [.int .i64 (S.length : Int), .int .i64 (i : Int)] rfl
        repeat' first
 | (apply s_mov; exact aW)
 | (apply c_nil)
 | (apply s_lss; exact rfl; all_goals (intro _; try (exfalso; omega)))
 | (apply s_add; exact rfl; omega)
 | (apply c_pre; exact g9)
 | (apply s_len; exact aW; exact aI)
 | (apply s_idxLL; exact aW; exact rfl; assumption; omega)
 | (apply s_ldLL; exact rfl; assumption; omega)
 | (apply c_seq)
 | (apply c_reg)
 | (apply c_exitH)
 | (apply c_condF; exact rfl)
 | (with_reducible apply k_c)
        refine hK' _ _ ⟨by omega, hsml, fun d hd => ?_, hnd2, hsm⟩ (by omega) (hgc _ _ _ rfl)
        rw [take_snoc hil, hc'] at hd
        rcases List.mem_append.1 hd with hd | hd
        · exact hch d hd
        · simp at hd; subst hd; exact hc
    · simp only [hc, decide_false] at ec
      have hn : ¬ Chs w up l := fun h => hc (h.1 _ (by rw [getLL_get hil]; exact List.getElem_mem _))
      generalize (l.take i).flatten.length = S at *
      repeat' first
 | (apply s_mov; exact aW)
 | (apply c_nil)
 | (apply s_notF; exact rfl)
 | (apply s_lss; exact rfl; all_goals (intro _; try (exfalso; omega)))
 | (apply s_cn; exact aO; exact ec _)
 | (apply s_lenLL; exact aW; assumption)
 | (apply s_idxLL; exact aW; exact rfl; assumption; omega)
 | (apply s_ldLL; exact rfl; assumption; omega)
 | (apply c_seq)
 | (apply c_reg)
 | (apply c_block)
 | (apply c_skip)
 | (apply c_ret)
 | (apply c_condT; exact rfl)
 | (with_reducible apply k_c)
      all_goals first
        | (exfalso; omega)
        | exact hF hn (by rfl)
  · obtain rfl : i = l.length := by omega
    rw [List.take_length] at *
    have hok : Chs w up l := ⟨hch, hnd⟩
    generalize l.flatten.length = S at *
    repeat' first
 | (apply s_mov; exact aW)
 | (apply c_nil)
 | (apply s_lss; exact rfl; all_goals (intro _; try (exfalso; omega)))
 | (apply s_lenLL; exact aW; assumption)
 | (apply c_seq)
 | (apply c_reg)
 | (apply c_exitH)
 | (apply c_ret)
 | (apply c_condF; exact rfl)
 | (apply c_preF; exact aK; exact aF)
 | (with_reducible apply k_c)
    exact hT hok (by rfl)
theorem c64 {x y : AV} {w : List Int} {l : List (List Int)} {up : Bool} (hx : IsL x w) (hy : IsLL y l) (hwl : w.length ≤ 61) (hl : l.length ≤ 200) (hlr : ∀ c ∈ l, c.length ≤ 200) {m : Nat} (hm : 1100 ≤ m) (H : Heap) : callPure (evF tab it m) true 64 [x, y, .bool up] H = some (.int .i64 (if Chs w up l then (l.flatten.length : Int) else -1), H) :=
  callPure_free (by simp [idFreeL, AV.idFree, hx.free, hy.free]) (by simp) (f64 hx hy hwl hl hlr hm) rfl
set_option maxHeartbeats 4000000
def mS (S : List Int) : List (AV × AV) := S.map fun p => (.int .i64 p, .bool true)
theorem findM_S (k : Int) : ∀ S, findM [some .i64] (.int .i64 k) (mS S) = some (if k ∈ S then some (.bool true) else none)
  | [] => rfl
  | p :: S => by
    have ih := findM_S k S
    simp only [mS, List.map_cons, findM, keyEq, and_self, if_true, Option.bind_some] at ih ⊢
    by_cases h : k = p
    · subst h; simp
    · rw [if_neg (by simpa using h), ih]
      simp [h]
theorem putM_S {k : Int} : ∀ S, k ∉ S → putM [some .i64] (.int .i64 k) (.bool true) (mS S) = some (mS (S ++ [k]))
  | [], _ => rfl
  | p :: S, h => by
    have h1 : k ≠ p := fun e => h (by simp [e])
    have ih := putM_S (k := k) S fun e => h (by simp [e])
    simp only [mS, List.map_cons, List.cons_append, putM, keyEq, and_self, if_true, Option.bind_some] at ih ⊢
    rw [if_neg (by simpa using h1), ih]
    rfl
theorem e_lkS {call : CallF} {H : Heap} {id : Nat} {S : List Int} {k : Int} (h : H[id]? = some (some (.map (mS S)))) : evE call H (.lkM [some .i64] false (.bool false)) [.mp id, .int .i64 k] = some (.bool (decide (k ∈ S)), H) := by
  simp only [evE, keyOk, Heap.map?, h, beq_self_eq_true, if_true, Option.bind_some, findM_S, Option.map_some]
  by_cases hk : k ∈ S
  · simp [hk]
  · simp [hk]
theorem e_upS {call : CallF} {H : Heap} {id : Nat} {S : List Int} {k : Int} (h : H[id]? = some (some (.map (mS S)))) (hk : k ∉ S) : evE call H (.upM [some .i64]) [.mp id, .int .i64 k, .bool true] = some (.undef, H.set id (some (.map (mS (S ++ [k]))))) := by
  simp only [evE, keyOk, AV.idFree, Bool.and_self, beq_self_eq_true, if_true, Heap.map?, h, Option.bind_some, putM_S S hk, Option.map_some]
theorem gcMp {pre gs : List AV} {H : Heap} {id : Nat} {es : List (AV × AV)} (h : H[id]? = some (some (.map es))) (hp : idFreeL pre = true) (hpl : pre.length ≤ 20) (hg : idFreeL gs = true) : gc 0 (pre ++ .mp id :: gs) H = some (pre ++ .mp 0 :: gs, [some (.map es)]) := by
  have hb : boxCells H id = [] := by simp [boxCells, h]
  have hφ : nodupB [id] = true := rfl
  refine gc_of (φ := [id]) ?_ hφ ?_ (Hp := [some (.map es)]) (by simp [pickO, h]) rfl
  · have e : reach H 400 (rangeL 0 []) (roots H (rangeL 0 []) ++ (pre ++ .mp id :: gs)) = reach H ((399 - pre.length) + 1) [] (.mp id :: gs) := by
      rw [show reach H 400 (rangeL 0 []) (roots H (rangeL 0 []) ++ (pre ++ .mp id :: gs)) = reach H 400 [] (pre ++ .mp id :: gs) from rfl, show (400 : Nat) = (399 - pre.length) + 1 + pre.length by omega, reach_pre pre hp]
    rw [e, reach_mp]
    simp only [List.contains_nil, Bool.false_eq_true, if_false, hb, List.nil_append]
    rw [reach_free _ _ _ _ hg]
  · rw [renL_append, renL_free _ hp]
    simp [renL, AV.ren, posOf, renL_free _ hg]
def ans61 (w : List Int) (up : Bool) (l : List (List Int)) : AV := if Chs w up l then .tup [.int .i64 (l.flatten.length : Int), .bool true] else .tup [.int .i64 0, .bool false]
theorem f61 {x y : AV} {w : List Int} {l : List (List Int)} {up : Bool} {g : Nat} (hx : IsL x w) (hy : IsLL y l) (hwl : w.length ≤ 61) (hl : l.length ≤ 200) (hlr : ∀ c ∈ l, c.length ≤ 200) {m : Nat} (hm : 1100 ≤ m)
    (hg : ∀ a b H, callPure (evF tab it (m - 1)) true g [.int .i64 a, .int .i64 b] H = some (.bool (nxt up a b), H)) : evF tab it m 61 [x, y, .fn g []] [] = some (ans61 w up l, []) := by
  obtain ⟨m, rfl⟩ : ∃ j, m = j + 1 := ⟨m - 1, by omega⟩
  rw [Nat.add_sub_cancel] at hg
  have fx := hx.free
  have fy := hy.free
  generalize hR : some (ans61 w up l, []) = res
  have hF : ¬ Chs w up l → ∀ {env s t H}, look env s = .int .i64 0 → look env t = .bool false → finish 0 [.t s, .t t] env H = res := fun h env s t H h1 h2 => by rw [← hR]; unfold ans61; rw [if_neg h]; exact fin_tt h1 h2 rfl rfl rfl
  have hT : Chs w up l → ∀ {env s t H}, look env s = .int .i64 (l.flatten.length : Int) → look env t = .bool true → finish 0 [.t s, .t t] env H = res := fun h env s t H h1 h2 => by rw [← hR]; unfold ans61; rw [if_pos h]; exact fin_tt h1 h2 rfl rfl rfl
  have hmk : ∀ call, evE call [] .mkM [] = some (.mp 0, [some (.map (mS []))]) := fun call => rfl
  refine f_enter rfl rfl ?_
  generalize evF tab it m = call at *
  repeat' first
 | (apply s_mov; exact aW)
 | (apply c_nil)
 | (apply s_en; exact aO; exact hmk _)
 | (apply s_lenLL; exact aW; assumption)
 | (apply c_seq)
 | (apply c_reg)
 | (apply c_block)
 | (with_reducible apply k_c)
  refine c_loop ?_
  have hgc : ∀ es gs, idFreeL gs = true → gc 0 ([x, .fn g []] ++ .mp 0 :: gs) [some (HO.map es)] = some ([x, .fn g []] ++ .mp 0 :: gs, [some (.map es)]) := fun es gs hg => gcMp rfl (by simp [idFreeL, AV.idFree, fx]) (by simp) hg
  have hgs : ∀ a b : Int, idFreeL [y, .int .i64 a, .int .i64 b] = true := fun a b => by simp [idFreeL, AV.idFree, fy]
  refine loop_gc (σ := Nat) (fun i => [x, .fn g [], .mp 0, y, .int .i64 l.length, .int .i64 (i : Int)]) (fun i => [some (.map (mS (l.take i).flatten))]) (fun i => i ≤ l.length ∧ (∀ c ∈ l.take i, IsCh w up c) ∧ (l.take i).flatten.Nodup) (fun i => l.length - i) ?_ _ 0 _ _ ⟨by omega, by simp, by simp⟩ (by omega) (hgc _ _ (hgs _ _))
  rintro i ⟨hi, hch, hnd⟩ K hK
  by_cases hil : i < l.length
  · have hrow : IsL (llAt y (i : Int)) (getLL l (i : Int)) := hy.at ⟨by omega, by omega⟩
    have hcl := hlr (getLL l (i : Int)) (by rw [getLL_get hil]; exact List.getElem_mem _)
    have hnc : ¬ IsCh w up (getLL l (i : Int)) → ¬ Chs w up l := fun h h2 => h (h2.1 _ (by rw [getLL_get hil]; exact List.getElem_mem _))
    have frow := hrow.free
    have hfs := flat_snoc hil
    have hnds := fun k => chs_nd (k := k) hil (l := l)
    have htks := take_snoc hil
    generalize hc' : getLL l (i : Int) = c at *
    by_cases hc0 : c.length = 0
    · have hn : ¬ Chs w up l := hnc fun h => h.1 hc0
      repeat' first
 | (apply s_mov; exact aW)
 | (apply c_nil)
 | (apply s_lss; exact rfl; all_goals (intro _; try (exfalso; omega)))
 | (apply s_eql; exact rfl; all_goals (intro _; try (exfalso; omega)))
 | (apply s_len; exact aW; exact aI)
 | (apply s_idxLL; exact aW; exact rfl; assumption; omega)
 | (apply s_ldLL; exact rfl; assumption; omega)
 | (apply c_seq)
 | (apply c_reg)
 | (apply c_block)
 | (apply c_skip)
 | (apply c_ret)
 | (apply c_condT; exact rfl)
 | (with_reducible apply k_c)
      all_goals first
        | (exfalso; omega)
        | exact hF hn (by rfl) (by rfl)
    · skip
      repeat' first
 | (apply s_mov; exact aW)
 | (apply c_nil)
 | (apply s_lss; exact rfl; all_goals (intro _; try (exfalso; omega)))
 | (apply s_eql; exact rfl; all_goals (intro _; try (exfalso; omega)))
 | (apply s_len; exact aW; exact aI)
 | (apply s_idxLL; exact aW; exact rfl; assumption; omega)
 | (apply s_ldLL; exact rfl; assumption; omega)
 | (apply c_seq)
 | (apply c_reg)
 | (apply c_block)
 | (apply c_skip)
 | (apply c_condT; exact rfl)
 | (apply c_condF; exact rfl)
 | (with_reducible apply k_c)
      refine c_loop ?_
      have hgs2 : ∀ a b d e : Int, idFreeL [llAt y (i : Int), y, .int .i64 a, .int .i64 b, llAt y (i : Int), .int .i64 d, .int .i64 e] = true := fun a b d e => by simp [idFreeL, AV.idFree, fy, frow]
      refine loop_gc (σ := Nat) (fun k => [x, .fn g [], .mp 0, llAt y (i : Int), y, .int .i64 l.length, .int .i64 (i : Int), llAt y (i : Int), .int .i64 c.length, .int .i64 (k : Int)]) (fun k => [some (.map (mS ((l.take i).flatten ++ c.take k)))]) (fun k => k ≤ c.length ∧ ChP w up c k ∧ ((l.take i).flatten ++ c.take k).Nodup) (fun k => c.length - k) ?_ _ 0 _ _ ⟨by omega, fun i hi => by omega, by simpa using hnd⟩ (by omega) ?_
      rotate_left
      · rw [List.take_zero, List.append_nil]
        exact hgc _ _ (hgs2 _ _ _ _)
      rintro k ⟨hk, hb, hnd2⟩ K2 hK2
      by_cases hkc : k < c.length
      · have hlk := fun p => e_lkS (call := call) (H := [some (HO.map (mS ((l.take i).flatten ++ c.take k)))]) (id := 0) (k := p) rfl
        have hup := fun p h => e_upS (call := call) (H := [some (HO.map (mS ((l.take i).flatten ++ c.take k)))]) (id := 0) (k := p) rfl h
        have hprev : ∀ h : 0 < k, 0 ≤ getI c ((k : Int) - 1) ∧ getI c ((k : Int) - 1) < w.length := fun h => by
          have := hb (k - 1) (by omega)
          rw [pred_i h] at this
          exact ⟨this.1, this.2.1⟩
        have hsn' : ((l.take i).flatten ++ c.take (k + 1)) = ((l.take i).flatten ++ c.take k) ++ [getI c (k : Int)] := by rw [take_snocI' hkc, ← List.append_assoc]
        have hK2' := hK2 (k + 1)
        rw [hsn'] at hK2'
        have hndk := hnds (k + 1)
        rw [hsn'] at hndk
        clear hK2 hnds hsn'
        generalize (l.take i).flatten ++ c.take k = S at *
        have hlk' := hlk (getI c (k : Int))
        by_cases h1 : 0 ≤ getI c (k : Int) ∧ getI c (k : Int) < w.length
        · obtain ⟨h1a, h1b⟩ := h1
          by_cases hin : getI c (k : Int) ∈ S
          · simp only [hin, decide_true] at hlk'
            have hn : ¬ Chs w up l := fun h => (List.nodup_append.1 (hndk h.2)).2.2 _ hin _ (List.mem_singleton.2 rfl) rfl
            repeat' first
 | (apply s_mov; exact aW)
 | (apply s_gT; exact rfl)
 | (apply s_gF; exact rfl)
 | (apply s_gFD; exact rfl)
 | (apply c_nil)
 | (apply s_pickT; exact rfl; exact aW)
 | (apply s_pickF; exact rfl; exact aW)
 | (apply s_lss; exact rfl; all_goals (intro _; try (exfalso; omega)))
 | (apply s_geq; exact rfl; all_goals (intro _; try (exfalso; omega)))
 | (apply s_en; exact aO; exact hlk')
 | (apply s_len; exact aW; exact aI)
 | (apply s_idx; exact aW; exact rfl; exact aI; omega)
 | (apply s_ldI; exact rfl; omega)
 | (apply c_seq)
 | (apply c_reg)
 | (apply c_block)
 | (apply c_skip)
 | (apply c_ret)
 | (apply c_condT; exact rfl)
 | (with_reducible apply k_c)
            all_goals first
              | (exfalso; omega)
              | exact hF hn (by rfl) (by rfl)
          · simp only [hin, decide_false] at hlk'
            have hup' : evE call [some (HO.map (mS S))] (.upM [some .i64]) [.mp 0, .int .i64 (getI c (k : Int)), .bool true] = some (.undef, [some (.map (mS (S ++ [getI c (k : Int)])))]) := hup _ hin
            have hnd3 : (S ++ [getI c (k : Int)]).Nodup := by
              rw [List.nodup_append]
              exact ⟨hnd2, by simp, fun a ha b hb' e => by simp at hb'; subst hb'; subst e; exact hin ha⟩
            by_cases h0 : 0 < k
            · obtain ⟨p1, p2⟩ := hprev h0
              by_cases h2 : getI c ((k : Int) - 1) < getI c (k : Int)
              · have ecv : ∀ H, evE call H (.callv true true) [.fn g [], .int .i64 (getI w (getI c ((k : Int) - 1))), .int .i64 (getI w (getI c (k : Int)))] = some (.bool (nxt up (getI w (getI c ((k : Int) - 1))) (getI w (getI c (k : Int)))), H) := fun H => by
                  simpa [evE] using hg (getI w (getI c ((k : Int) - 1))) (getI w (getI c (k : Int))) H
                by_cases h3 : nxt up (getI w (getI c ((k : Int) - 1))) (getI w (getI c (k : Int))) = true
                · have hn : ChP w up c (k + 1) := hb.succ h1a h1b fun _ => ⟨h2, h3⟩
                  rw [h3] at ecv
                  repeat' first
 | (apply s_mov; exact aW)
 | (apply s_gT; exact rfl)
 | (apply c_nil)
 | (apply s_pickT; exact rfl; exact aW)
 | (apply s_pickF; exact rfl; exact aW)
 | (apply s_notT; exact rfl)
 | (apply s_lss; exact rfl; all_goals (intro _; try (exfalso; omega)))
 | (apply s_gtr; exact rfl; all_goals (intro _; try (exfalso; omega)))
 | (apply s_geq; exact rfl; all_goals (intro _; try (exfalso; omega)))
 | (apply s_add; exact rfl; omega)
 | (apply s_sub; exact rfl; omega)
 | (apply s_en; exact aO; exact hlk')
 | (apply s_en; exact aO; exact ecv _)
 | (apply s_st; exact aO; exact hup')
 | (apply s_len; exact aW; exact aI)
 | (apply s_idx; exact aW; exact rfl; exact aI; omega)
 | (apply s_ldI; exact rfl; omega)
 | (apply c_seq)
 | (apply c_reg)
 | (apply c_block)
 | (apply c_skip)
 | (apply c_condT; exact rfl)
 | (apply c_condF; exact rfl)
 | (with_reducible apply k_c)
                  all_goals first
                    | (exfalso; omega)
                    | exact hK2' _ _ ⟨by omega, hn, hnd3⟩ (by omega) (hgc _ _ (hgs2 _ _ _ _))
                · have hn : ¬ Chs w up l := hnc fun h => h3 (((h.2 k hkc).2.2 h0).2)
                  have h3' : nxt up (getI w (getI c ((k : Int) - 1))) (getI w (getI c (k : Int))) = false := by simpa using h3
                  rw [h3'] at ecv
                  repeat' first
 | (apply s_mov; exact aW)
 | (apply s_gT; exact rfl)
 | (apply c_nil)
 | (apply s_pickT; exact rfl; exact aW)
 | (apply s_pickF; exact rfl; exact aW)
 | (apply s_notF; exact rfl)
 | (apply s_lss; exact rfl; all_goals (intro _; try (exfalso; omega)))
 | (apply s_gtr; exact rfl; all_goals (intro _; try (exfalso; omega)))
 | (apply s_geq; exact rfl; all_goals (intro _; try (exfalso; omega)))
 | (apply s_sub; exact rfl; omega)
 | (apply s_en; exact aO; exact hlk')
 | (apply s_en; exact aO; exact ecv _)
 | (apply s_len; exact aW; exact aI)
 | (apply s_idx; exact aW; exact rfl; exact aI; omega)
 | (apply s_ldI; exact rfl; omega)
 | (apply c_seq)
 | (apply c_reg)
 | (apply c_block)
 | (apply c_skip)
 | (apply c_ret)
 | (apply c_condT; exact rfl)
 | (with_reducible apply k_c)
                  all_goals first
                    | (exfalso; omega)
                    | exact hF hn (by rfl) (by rfl)
              · have hn : ¬ Chs w up l := hnc fun h => h2 (((h.2 k hkc).2.2 h0).1)
                repeat' first
 | (apply s_mov; exact aW)
 | (apply s_gT; exact rfl)
 | (apply s_gF; exact rfl)
 | (apply s_gFD; exact rfl)
 | (apply c_nil)
 | (apply s_pickT; exact rfl; exact aW)
 | (apply s_pickF; exact rfl; exact aW)
 | (apply s_lss; exact rfl; all_goals (intro _; try (exfalso; omega)))
 | (apply s_gtr; exact rfl; all_goals (intro _; try (exfalso; omega)))
 | (apply s_geq; exact rfl; all_goals (intro _; try (exfalso; omega)))
 | (apply s_sub; exact rfl; omega)
 | (apply s_en; exact aO; exact hlk')
 | (apply s_len; exact aW; exact aI)
 | (apply s_idx; exact aW; exact rfl; exact aI; omega)
 | (apply s_ldI; exact rfl; omega)
 | (apply c_seq)
 | (apply c_reg)
 | (apply c_block)
 | (apply c_skip)
 | (apply c_ret)
 | (apply c_condT; exact rfl)
 | (with_reducible apply k_c)
                all_goals first
                  | (exfalso; omega)
                  | exact hF hn (by rfl) (by rfl)
            · have hn : ChP w up c (k + 1) := hb.succ h1a h1b fun h => absurd h h0
              repeat' first
 | (apply s_mov; exact aW)
 | (apply s_gT; exact rfl)
 | (apply s_gF; exact rfl)
 | (apply s_gFD; exact rfl)
 | (apply c_nil)
 | (apply s_pickF; exact rfl; exact aW)
 | (apply s_lss; exact rfl; all_goals (intro _; try (exfalso; omega)))
 | (apply s_gtr; exact rfl; all_goals (intro _; try (exfalso; omega)))
 | (apply s_geq; exact rfl; all_goals (intro _; try (exfalso; omega)))
 | (apply s_add; exact rfl; omega)
 | (apply s_en; exact aO; exact hlk')
 | (apply s_st; exact aO; exact hup')
 | (apply s_len; exact aW; exact aI)
 | (apply s_idx; exact aW; exact rfl; exact aI; omega)
 | (apply s_ldI; exact rfl; omega)
 | (apply c_seq)
 | (apply c_reg)
 | (apply c_block)
 | (apply c_skip)
 | (apply c_condT; exact rfl)
 | (apply c_condF; exact rfl)
 | (with_reducible apply k_c)
              all_goals first
                | (exfalso; omega)
                | exact hK2' _ _ ⟨by omega, hn, hnd3⟩ (by omega) (hgc _ _ (hgs2 _ _ _ _))
        · have hn : ¬ Chs w up l := hnc fun h => h1 ⟨(h.2 k hkc).1, (h.2 k hkc).2.1⟩
          repeat' first
 | (apply s_mov; exact aW)
 | (apply s_gT; exact rfl)
 | (apply s_gF; exact rfl)
 | (apply s_gFD; exact rfl)
 | (apply c_nil)
 | (apply s_pickT; exact rfl; exact aW)
 | (apply s_pickF; exact rfl; exact aW)
 | (apply s_lss; exact rfl; all_goals (intro _; try (exfalso; omega)))
 | (apply s_geq; exact rfl; all_goals (intro _; try (exfalso; omega)))
 | (apply s_len; exact aW; exact aI)
 | (apply s_idx; exact aW; exact rfl; exact aI; omega)
 | (apply s_ldI; exact rfl; omega)
 | (apply c_seq)
 | (apply c_reg)
 | (apply c_block)
 | (apply c_skip)
 | (apply c_ret)
 | (apply c_condT; exact rfl)
 | (with_reducible apply k_c)
          all_goals first
            | (exfalso; omega)
            | exact hF hn (by rfl) (by rfl)
      · obtain rfl : k = c.length := by omega
        rw [List.take_length] at hnd2 ⊢
        have hK' := hK (i + 1)
        rw [hfs] at hK'
        generalize hSS : (l.take i).flatten ++ c = S at *
        have g9 := hgc (mS S) [y, .int .i64 l.length, .int .i64 (i : Int)] (hgs _ _)
        repeat' first
 | (apply s_mov; exact aW)
 | (apply c_nil)
 | (apply s_lss; exact rfl; all_goals (intro _; try (exfalso; omega)))
 | (apply s_add; exact rfl; omega)
 | (apply c_pre; exact g9)
 | (apply c_seq)
 | (apply c_reg)
 | (apply c_exitH)
 | (apply c_condF; exact rfl)
 | (with_reducible apply k_c)
        refine hK' _ _ ⟨by omega, fun d hd => ?_, hnd2⟩ (by omega) (hgc _ _ (hgs _ _))
        rw [htks] at hd
        rcases List.mem_append.1 hd with hd | hd
        · exact hch d hd
        · simp at hd; subst hd; exact ⟨hc0, hb⟩
  · obtain rfl : i = l.length := by omega
    rw [List.take_length] at *
    have hok : Chs w up l := ⟨hch, hnd⟩
    have hln : ∀ S : List Int, evP [some (HO.map (mS S))] .lenM [.mp 0] = some (.int .i64 (S.length : Int)) := fun S => by
      simp [evP, lenM, Heap.map?, mS]
    have g0 := gcMp (pre := []) (gs := []) (H := [some (HO.map (mS l.flatten))]) (id := 0) rfl rfl (by simp) rfl
    have hln' := hln l.flatten
    generalize l.flatten = S at *
    repeat' first
 | (apply s_mov; exact aW)
 | (apply c_nil)
 | (apply s_lss; exact rfl; all_goals (intro _; try (exfalso; omega)))
 | (apply c_pre; exact g0)
 | (apply s_pn; exact aO; exact hln')
 | (apply c_seq)
 | (apply c_reg)
 | (apply c_exitH)
 | (apply c_ret)
 | (apply c_condF; exact rfl)
 | (with_reducible apply k_c)
    exact hT hok (by rfl) (by rfl)
theorem c61 {x y : AV} {w : List Int} {l : List (List Int)} (hx : IsL x w) (hy : IsLL y l) (hwl : w.length ≤ 61) (hl : l.length ≤ 200) (hlr : ∀ c ∈ l, c.length ≤ 200) {m : Nat} (hm : 1100 ≤ m) (H : Heap) :
    callPure (evF tab it m) true 61 [x, y, .fn 62 []] H = some (ans61 w true l, H) ∧ callPure (evF tab it m) true 61 [x, y, .fn 63 []] H = some (ans61 w false l, H) := by
  have hf : ∀ up, (ans61 w up l).idFree = true := fun up => by unfold ans61; split <;> rfl
  exact ⟨callPure_free (by simp [idFreeL, AV.idFree, hx.free, hy.free]) (by simp) (f61 hx hy hwl hl hlr hm fun a b H => c62 (by omega) H) (hf _), callPure_free (by simp [idFreeL, AV.idFree, hx.free, hy.free]) (by simp) (f61 hx hy hwl hl hlr hm fun a b H => c63 (by omega) H) (hf _)⟩
theorem T22 : T 22 = some ⟨.slice 3, 1, 24, [.nilS]⟩ := rfl
theorem T3 : T 3 = some ⟨.int .i64, 1, 8, [.int .i64 0]⟩ := rfl
theorem take1 {l : List AV} {i : Nat} (h : i < l.length) : (l.drop i).take 1 = [l.getD i .undef] := by
  rw [List.drop_eq_getElem_cons h]
  simp only [List.take_succ_cons, List.take_zero, List.getD, List.getElem?_eq_getElem h, Option.getD_some]
theorem ints_of : ∀ (cs : List AV), (∀ i, i < cs.length → ∃ n : Int, cs.getD i .undef = .int .i64 n) → ∃ l, cs = iL l
  | [], _ => ⟨[], rfl⟩
  | c :: cs, h => by
    obtain ⟨n, hn⟩ := h 0 (by simp)
    obtain ⟨l, rfl⟩ := ints_of cs fun i hi => by simpa using h (i + 1) (by simpa using hi)
    simp at hn
    exact ⟨n :: l, by simp [iL, hn]⟩
theorem ty_int {k : Nat} {cs : List AV} (h : TyAV T k 3 cs) : ∃ n : Int, cs = [.int .i64 n] ∧ (Lit.int .i64 n).wf = true := by
  cases k with
  | zero => exact h.elim
  | succ k =>
    obtain ⟨s, hs, hm⟩ := h
    rw [T3] at hs; cases hs
    exact hm
theorem ty_intsB {k : Nat} {cs : List AV} (h : TyAV T k 22 cs) : ∃ x l, cs = [x] ∧ IsL x l ∧ l.length < 2 ^ 63 := by
  cases k with
  | zero => exact h.elim
  | succ k =>
    obtain ⟨s, hs, hm⟩ := h
    rw [T22] at hs; cases hs
    rcases hm with rfl | ⟨len, cells, se, h1, rfl, h3, h5, h4⟩
    · exact ⟨_, [], rfl, .nil, by simp⟩
    · rw [T3] at h1; cases h1
      simp only [Nat.mul_one] at h3 h4
      obtain ⟨l, rfl⟩ := ints_of cells fun i hi => by
        obtain ⟨n, hn, -⟩ := ty_int (h4 i (by omega))
        rw [take1 hi] at hn
        exact ⟨n, by simpa using hn⟩
      rw [iL_len] at h3
      subst h3
      exact ⟨_, l, rfl, .rd l, h5⟩
theorem ty_ints {k : Nat} {cs : List AV} (h : TyAV T k 22 cs) : ∃ x l, cs = [x] ∧ IsL x l := by
  obtain ⟨x, l, h1, h2, -⟩ := ty_intsB h
  exact ⟨x, l, h1, h2⟩
theorem arg_int {k : Nat} {x : AV} (h : TyArg T k 3 x) : ∃ n : Int, x = .int .i64 n ∧ (Lit.int .i64 n).wf = true := by
  rcases h with ⟨s, xs, hs, ha, _⟩ | ⟨s, hs, ha, h⟩
  · rw [T3] at hs; cases hs; cases ha
  · obtain ⟨n, hn, hw⟩ := ty_int h
    simp only [List.cons.injEq, and_true] at hn
    exact ⟨n, hn, hw⟩
theorem arg_ints {k : Nat} {x : AV} (h : TyArg T k 22 x) : ∃ l, IsL x l := by
  rcases h with ⟨s, xs, hs, ha, _⟩ | ⟨s, hs, ha, h⟩
  · rw [T22] at hs; cases hs; cases ha
  · obtain ⟨y, l, hy, hl⟩ := ty_ints h
    simp only [List.cons.injEq, and_true] at hy
    exact ⟨l, by rw [hy]; exact hl⟩
theorem awakeN {m : Nat} (hm : 60000 ≤ m) (H : Heap) : callPure (evF tab it m) true 23 [] H = some (.bool true, H) :=
  callPure_free rfl (by simp) (evF_mono hm _ _ _ _ awake) rfl
set_option maxHeartbeats 4000000
def RightF (w : List Int) (k : Nat) (U D : List (List Int)) : Prop := U.length ≤ k ∧ Chs w true U ∧ Chs w false D ∧ (U.flatten.length : Int) = (k : Int) * (D.length : Int) + w.length - D.flatten.length
instance (w k U D) : Decidable (RightF w k U D) := by unfold RightF; exact inferInstance
theorem flat_len {l : List (List Int)} (h : ∀ c ∈ l, c.length ≤ 200) : l.flatten.length ≤ l.length * 200 := by
  induction l with
  | nil => simp
  | cons c l ih =>
    have := ih fun d hd => h d (by simp [hd])
    have := h c (by simp)
    simp only [List.flatten_cons, List.length_append, List.length_cons]
    omega
theorem e_boxF {call : CallF} {H : Heap} {u v : AV} (h1 : u.one = true) (h2 : v.one = true) : evE call H (.box false) [.agg [u, v]] = some (.ptr H.length 0, H ++ [some (.box [u, v])]) := by
  simp [evE, AV.cells, oneL, h1, h2, mkHO]
theorem f40 {x u v : AV} {w : List Int} {U D : List (List Int)} {k : Nat} (hx : IsL x w) (hu : IsLL u U) (hv : IsLL v D) (hwl : w.length ≤ 61) (hU : U.length ≤ 200 ∧ ∀ c ∈ U, c.length ≤ 200) (hD : D.length ≤ 200 ∧ ∀ c ∈ D, c.length ≤ 200) (hk : k ≤ 60) {m : Nat} (hm : 1200 ≤ m) : evF tab it m 40 [x, .int .i64 (k : Int), .agg [u, v]] [] = some (.bool (decide (RightF w k U D)), []) := by
  obtain ⟨m, rfl⟩ : ∃ j, m = j + 1 := ⟨m - 1, by omega⟩
  have fx := hx.free
  have fu := hu.free
  have fv := hv.free
  have ea := fun H => c64 (up := true) hx hu hwl hU.1 hU.2 (m := m) (by omega) H
  have eb := fun H => c64 (up := false) hx hv hwl hD.1 hD.2 (m := m) (by omega) H
  have l1 := flat_len hU.2
  have l2 := flat_len hD.2
  have hb0 : ∀ call, evE call [] (.box false) [.agg [u, v]] = some (.ptr 0 0, [some (.box [u, v])]) := fun call => e_boxF hu.one hv.one
  have p0 : evP [some (HO.box [u, v])] (.ld false 1) [.ptr 0 0] = some u := p_ldX (j := 0) rfl rfl
  have p1 : evP [some (HO.box [u, v])] (.ld false 1) [.ptr 0 1] = some v := p_ldX (j := 1) rfl rfl
  have q0 : ∀ H, evP H (.fldA 0) [.ptr 0 0] = some (.ptr 0 0) := fun H => rfl
  have q1 : ∀ H, evP H (.fldA 1) [.ptr 0 0] = some (.ptr 0 1) := fun H => rfl
  generalize hR : some (AV.bool (decide (RightF w k U D)), []) = res
  have hT : RightF w k U D → ∀ {env s H}, look env s = .bool true → finish 0 [.t s] env H = res := fun h env s H h1 => by rw [← hR]; exact fin_t h1 rfl (leafT h)
  have hF : ¬ RightF w k U D → ∀ {env s H}, look env s = .bool false → finish 0 [.t s] env H = res := fun h env s H h1 => by rw [← hR]; exact fin_t h1 rfl (leafF h)
  refine f_enter rfl rfl ?_
  generalize evF tab it m = call at *
  by_cases h1 : U.length ≤ k
  · by_cases h2 : Chs w true U
    · simp only [if_pos h2] at ea
      by_cases h3 : Chs w false D
      · simp only [if_pos h3] at eb
        have hmul : (k : Int) * (D.length : Int) = ((k * D.length : Nat) : Int) := by rw [Int.natCast_mul]
        have hkl : k * D.length ≤ 60 * 200 := Nat.mul_le_mul hk hD.1
        by_cases h4 : (U.flatten.length : Int) = ((k * D.length : Nat) : Int) + w.length - D.flatten.length
        · have hr : RightF w k U D := ⟨h1, h2, h3, by rw [hmul]; exact h4⟩
          generalize U.flatten.length = uf at *
          generalize D.flatten.length = df at *
          repeat' first
 | (apply s_mov; exact aW)
 | (apply s_gT; exact rfl)
 | (apply c_nil)
 | (apply s_pickT; exact rfl; exact aW)
 | (apply s_gtr; exact rfl; all_goals (intro _; try (exfalso; omega)))
 | (apply s_geq; exact rfl; all_goals (intro _; try (exfalso; omega)))
 | (apply s_eql; exact rfl; all_goals (intro _; try (exfalso; omega)))
 | (apply s_en; exact aO; exact hb0 _)
 | (apply s_pn; exact aO; exact q0 _)
 | (apply s_pn; exact aO; exact q1 _)
 | (apply s_pn; exact aO; exact p0)
 | (apply s_pn; exact aO; exact p1)
 | (apply s_cn; exact aO; exact ea _)
 | (apply s_cn; exact aO; exact eb _)
 | (apply s_add; exact rfl; omega)
 | (apply s_sub; exact rfl; omega)
 | (apply s_mulN; exact rfl; omega)
 | (apply s_len; exact aW; exact aI)
 | (apply s_lenLL; exact aW; assumption)
 | (apply c_seq)
 | (apply c_reg)
 | (apply c_skip)
 | (apply c_ret)
 | (apply c_condF; exact rfl)
 | (with_reducible apply k_c)
          all_goals first
            | (exfalso; omega)
            | exact hT hr (by rfl)
        · have hr : ¬ RightF w k U D := fun h => h4 (by rw [← hmul]; exact h.2.2.2)
          generalize U.flatten.length = uf at *
          generalize D.flatten.length = df at *
          repeat' first
 | (apply s_mov; exact aW)
 | (apply s_gT; exact rfl)
 | (apply c_nil)
 | (apply s_pickT; exact rfl; exact aW)
 | (apply s_gtr; exact rfl; all_goals (intro _; try (exfalso; omega)))
 | (apply s_geq; exact rfl; all_goals (intro _; try (exfalso; omega)))
 | (apply s_eql; exact rfl; all_goals (intro _; try (exfalso; omega)))
 | (apply s_en; exact aO; exact hb0 _)
 | (apply s_pn; exact aO; exact q0 _)
 | (apply s_pn; exact aO; exact q1 _)
 | (apply s_pn; exact aO; exact p0)
 | (apply s_pn; exact aO; exact p1)
 | (apply s_cn; exact aO; exact ea _)
 | (apply s_cn; exact aO; exact eb _)
 | (apply s_add; exact rfl; omega)
 | (apply s_sub; exact rfl; omega)
 | (apply s_mulN; exact rfl; omega)
 | (apply s_len; exact aW; exact aI)
 | (apply s_lenLL; exact aW; assumption)
 | (apply c_seq)
 | (apply c_reg)
 | (apply c_skip)
 | (apply c_ret)
 | (apply c_condF; exact rfl)
 | (with_reducible apply k_c)
          all_goals first
            | (exfalso; omega)
            | exact hF hr (by rfl)
      · simp only [if_neg h3] at eb
        have hr : ¬ RightF w k U D := fun h => h3 h.2.2.1
        generalize U.flatten.length = uf at *
        repeat' first
 | (apply s_mov; exact aW)
 | (apply s_gT; exact rfl)
 | (apply s_gF; exact rfl)
 | (apply c_nil)
 | (apply s_pickT; exact rfl; exact aW)
 | (apply s_pickF; exact rfl; exact aW)
 | (apply s_gtr; exact rfl; all_goals (intro _; try (exfalso; omega)))
 | (apply s_geq; exact rfl; all_goals (intro _; try (exfalso; omega)))
 | (apply s_en; exact aO; exact hb0 _)
 | (apply s_pn; exact aO; exact q0 _)
 | (apply s_pn; exact aO; exact q1 _)
 | (apply s_pn; exact aO; exact p0)
 | (apply s_pn; exact aO; exact p1)
 | (apply s_cn; exact aO; exact ea _)
 | (apply s_cn; exact aO; exact eb _)
 | (apply s_lenLL; exact aW; assumption)
 | (apply c_seq)
 | (apply c_reg)
 | (apply c_skip)
 | (apply c_ret)
 | (apply c_condF; exact rfl)
 | (with_reducible apply k_c)
        all_goals first
          | (exfalso; omega)
          | exact hF hr (by rfl)
    · simp only [if_neg h2] at ea
      have hr : ¬ RightF w k U D := fun h => h2 h.2.1
      generalize (if Chs w false D then (D.flatten.length : Int) else -1) = df at *
      repeat' first
 | (apply s_mov; exact aW)
 | (apply s_gF; exact rfl)
 | (apply c_nil)
 | (apply s_pickF; exact rfl; exact aW)
 | (apply s_gtr; exact rfl; all_goals (intro _; try (exfalso; omega)))
 | (apply s_geq; exact rfl; all_goals (intro _; try (exfalso; omega)))
 | (apply s_en; exact aO; exact hb0 _)
 | (apply s_pn; exact aO; exact q0 _)
 | (apply s_pn; exact aO; exact q1 _)
 | (apply s_pn; exact aO; exact p0)
 | (apply s_pn; exact aO; exact p1)
 | (apply s_cn; exact aO; exact ea _)
 | (apply s_cn; exact aO; exact eb _)
 | (apply s_lenLL; exact aW; assumption)
 | (apply c_seq)
 | (apply c_reg)
 | (apply c_skip)
 | (apply c_ret)
 | (apply c_condF; exact rfl)
 | (with_reducible apply k_c)
      all_goals first
        | (exfalso; omega)
        | exact hF hr (by rfl)
  · have hr : ¬ RightF w k U D := fun h => h1 h.1
    repeat' first
 | (apply s_mov; exact aW)
 | (apply c_nil)
 | (apply s_gtr; exact rfl; all_goals (intro _; try (exfalso; omega)))
 | (apply s_en; exact aO; exact hb0 _)
 | (apply s_pn; exact aO; exact q0 _)
 | (apply s_pn; exact aO; exact p0)
 | (apply s_lenLL; exact aW; assumption)
 | (apply c_seq)
 | (apply c_reg)
 | (apply c_ret)
 | (apply c_condT; exact rfl)
 | (with_reducible apply k_c)
    all_goals first
      | (exfalso; omega)
      | exact hF hr (by rfl)
theorem c40 {x u v : AV} {w : List Int} {U D : List (List Int)} {k : Nat} (hx : IsL x w) (hu : IsLL u U) (hv : IsLL v D) (hwl : w.length ≤ 61) (hU : U.length ≤ 200 ∧ ∀ c ∈ U, c.length ≤ 200) (hD : D.length ≤ 200 ∧ ∀ c ∈ D, c.length ≤ 200) (hk : k ≤ 60) {m : Nat} (hm : 1200 ≤ m) (H : Heap) : callPure (evF tab it m) true 40 [x, .int .i64 (k : Int), .agg [u, v]] H = some (.bool (decide (RightF w k U D)), H) :=
  callPure_free (by simp [idFreeL, AV.idFree, hx.free, hu.free, hv.free]) (by simp) (f40 hx hu hv hwl hU hD hk hm) rfl
def ans39 (w : List Int) (k : Int) (U D : List (List Int)) : Int := if IsW w ∧ 1 ≤ k ∧ k ≤ 60 then (if RightF w k.toNat U D then 0 else 10) else 2
theorem f39 {x u v : AV} {w : List Int} {U D : List (List Int)} {k : Int} (hx : IsL x w) (hu : IsLL u U) (hv : IsLL v D) (hwl : w.length ≤ 61) (hU : U.length ≤ 200 ∧ ∀ c ∈ U, c.length ≤ 200) (hD : D.length ≤ 200 ∧ ∀ c ∈ D, c.length ≤ 200) {m : Nat} (hm : 2200 ≤ m) : evF tab it m 39 [x, .int .i64 k, .agg [u, v]] [] = some (.int .i64 (ans39 w k U D), []) := by
  obtain ⟨m, rfl⟩ : ∃ j, m = j + 1 := ⟨m - 1, by omega⟩
  have fx := hx.free
  have fu := hu.free
  have fv := hv.free
  have e52 := fun H => callPure_free (call := evF tab it m) (H := H) (by simp [idFreeL, hx.free]) (by simp) (f52 hx (by omega) (m := m) (by omega)) rfl
  have ea := fun H => (c61 hx hu hwl hU.1 hU.2 (m := m) (by omega) H).1
  have eb := fun H => (c61 hx hv hwl hD.1 hD.2 (m := m) (by omega) H).2
  have l1 := flat_len hU.2
  have l2 := flat_len hD.2
  have hb0 : ∀ call, evE call [] (.box false) [.agg [u, v]] = some (.ptr 0 0, [some (.box [u, v])]) := fun call => e_boxF hu.one hv.one
  have p0 : evP [some (HO.box [u, v])] (.ld false 1) [.ptr 0 0] = some u := p_ldX (j := 0) rfl rfl
  have p1 : evP [some (HO.box [u, v])] (.ld false 1) [.ptr 0 1] = some v := p_ldX (j := 1) rfl rfl
  have q0 : ∀ H, evP H (.fldA 0) [.ptr 0 0] = some (.ptr 0 0) := fun H => rfl
  have q1 : ∀ H, evP H (.fldA 1) [.ptr 0 0] = some (.ptr 0 1) := fun H => rfl
  unfold ans39
  generalize hres : some (AV.int .i64 (if IsW w ∧ 1 ≤ k ∧ k ≤ 60 then (if RightF w k.toNat U D then 0 else 10) else 2), []) = res
  have hfin : ∀ {a : Int} {env s H}, (if IsW w ∧ 1 ≤ k ∧ k ≤ 60 then (if RightF w k.toNat U D then (0 : Int) else 10) else 2) = a → look env s = .int .i64 a → finish 0 [.t s] env H = res := fun {a env s H} h h1 => by rw [← hres, h]; exact fin_t h1 rfl rfl
  refine f_enter rfl rfl ?_
  generalize evF tab it m = call at *
  by_cases hw : IsW w
  · simp only [hw, decide_true] at e52
    by_cases hk : 1 ≤ k ∧ k ≤ 60
    · obtain ⟨q, rfl⟩ : ∃ q : Nat, k = (q : Int) := ⟨k.toNat, by omega⟩
      rw [Int.toNat_natCast] at hfin
      have hfin' : ∀ {a : Int} {env s H}, (if RightF w q U D then (0 : Int) else 10) = a → look env s = .int .i64 a → finish 0 [.t s] env H = res := fun h h1 => hfin (by rw [if_pos ⟨hw, hk⟩]; exact h) h1
      clear hfin
      unfold ans61 at ea eb
      by_cases h2 : Chs w true U
      · simp only [if_pos h2] at ea
        by_cases h3 : Chs w false D
        · simp only [if_pos h3] at eb
          have hmul : (q : Int) * (D.length : Int) = ((q * D.length : Nat) : Int) := by rw [Int.natCast_mul]
          have hkl : q * D.length ≤ 60 * 200 := Nat.mul_le_mul (by omega) hD.1
          by_cases h1 : U.length ≤ q
          · by_cases h4 : (U.flatten.length : Int) = ((q * D.length : Nat) : Int) + w.length - D.flatten.length
            · have hr : RightF w q U D := ⟨h1, h2, h3, by rw [hmul]; exact h4⟩
              generalize U.flatten.length = uf at *
              generalize D.flatten.length = df at *
              repeat' first
 | (apply s_mov; exact aW)
 | (apply s_gT; exact rfl)
 | (apply c_nil)
 | (apply s_pickF; exact rfl; exact aW)
 | (apply s_notT; exact rfl)
 | (apply s_lss; exact rfl; all_goals (intro _; try (exfalso; omega)))
 | (apply s_gtr; exact rfl; all_goals (intro _; try (exfalso; omega)))
 | (apply s_neq; exact rfl; all_goals (intro _; try (exfalso; omega)))
 | (apply s_en; exact aO; exact hb0 _)
 | (apply s_cn; exact aO; exact e52 _)
 | (apply s_pn; exact aO; exact q0 _)
 | (apply s_pn; exact aO; exact q1 _)
 | (apply s_pn; exact aO; exact p0)
 | (apply s_pn; exact aO; exact p1)
 | (apply s_cn; exact aO; exact ea _)
 | (apply s_cn; exact aO; exact eb _)
 | (apply s_add; exact rfl; omega)
 | (apply s_sub; exact rfl; omega)
 | (apply s_mulN; exact rfl; omega)
 | (apply s_len; exact aW; exact aI)
 | (apply s_lenLL; exact aW; assumption)
 | (apply s_pd; exact aW)
 | (apply c_seq)
 | (apply c_reg)
 | (apply c_skip)
 | (apply c_ret)
 | (apply c_condF; exact rfl)
 | (with_reducible apply k_c)
              all_goals first
                | (exfalso; omega)
                | exact hfin' (if_pos hr) (by rfl)
            · have hr : ¬ RightF w q U D := fun h => h4 (by rw [← hmul]; exact h.2.2.2)
              generalize U.flatten.length = uf at *
              generalize D.flatten.length = df at *
              repeat' first
 | (apply s_mov; exact aW)
 | (apply s_gT; exact rfl)
 | (apply c_nil)
 | (apply s_pickF; exact rfl; exact aW)
 | (apply s_notT; exact rfl)
 | (apply s_lss; exact rfl; all_goals (intro _; try (exfalso; omega)))
 | (apply s_gtr; exact rfl; all_goals (intro _; try (exfalso; omega)))
 | (apply s_neq; exact rfl; all_goals (intro _; try (exfalso; omega)))
 | (apply s_en; exact aO; exact hb0 _)
 | (apply s_cn; exact aO; exact e52 _)
 | (apply s_pn; exact aO; exact q0 _)
 | (apply s_pn; exact aO; exact q1 _)
 | (apply s_pn; exact aO; exact p0)
 | (apply s_pn; exact aO; exact p1)
 | (apply s_cn; exact aO; exact ea _)
 | (apply s_cn; exact aO; exact eb _)
 | (apply s_add; exact rfl; omega)
 | (apply s_sub; exact rfl; omega)
 | (apply s_mulN; exact rfl; omega)
 | (apply s_len; exact aW; exact aI)
 | (apply s_lenLL; exact aW; assumption)
 | (apply s_pd; exact aW)
 | (apply c_seq)
 | (apply c_reg)
 | (apply c_skip)
 | (apply c_ret)
 | (apply c_condT; exact rfl)
 | (apply c_condF; exact rfl)
 | (with_reducible apply k_c)
              all_goals first
                | (exfalso; omega)
                | exact hfin' (if_neg hr) (by rfl)
          · have hr : ¬ RightF w q U D := fun h => h1 h.1
            generalize U.flatten.length = uf at *
            generalize D.flatten.length = df at *
            repeat' first
 | (apply s_mov; exact aW)
 | (apply s_gT; exact rfl)
 | (apply s_gF; exact rfl)
 | (apply c_nil)
 | (apply s_pickT; exact rfl; exact aW)
 | (apply s_pickF; exact rfl; exact aW)
 | (apply s_notT; exact rfl)
 | (apply s_lss; exact rfl; all_goals (intro _; try (exfalso; omega)))
 | (apply s_gtr; exact rfl; all_goals (intro _; try (exfalso; omega)))
 | (apply s_en; exact aO; exact hb0 _)
 | (apply s_cn; exact aO; exact e52 _)
 | (apply s_pn; exact aO; exact q0 _)
 | (apply s_pn; exact aO; exact q1 _)
 | (apply s_pn; exact aO; exact p0)
 | (apply s_pn; exact aO; exact p1)
 | (apply s_cn; exact aO; exact ea _)
 | (apply s_cn; exact aO; exact eb _)
 | (apply s_lenLL; exact aW; assumption)
 | (apply s_pd; exact aW)
 | (apply c_seq)
 | (apply c_reg)
 | (apply c_skip)
 | (apply c_ret)
 | (apply c_condT; exact rfl)
 | (apply c_condF; exact rfl)
 | (with_reducible apply k_c)
            all_goals first
              | (exfalso; omega)
              | exact hfin' (if_neg hr) (by rfl)
        · simp only [if_neg h3] at eb
          have hr : ¬ RightF w q U D := fun h => h3 h.2.2.1
          repeat' first
 | (apply s_mov; exact aW)
 | (apply s_gT; exact rfl)
 | (apply s_gF; exact rfl)
 | (apply c_nil)
 | (apply s_pickT; exact rfl; exact aW)
 | (apply s_pickF; exact rfl; exact aW)
 | (apply s_notT; exact rfl)
 | (apply s_notF; exact rfl)
 | (apply s_lss; exact rfl; all_goals (intro _; try (exfalso; omega)))
 | (apply s_gtr; exact rfl; all_goals (intro _; try (exfalso; omega)))
 | (apply s_en; exact aO; exact hb0 _)
 | (apply s_cn; exact aO; exact e52 _)
 | (apply s_pn; exact aO; exact q0 _)
 | (apply s_pn; exact aO; exact q1 _)
 | (apply s_pn; exact aO; exact p0)
 | (apply s_pn; exact aO; exact p1)
 | (apply s_cn; exact aO; exact ea _)
 | (apply s_cn; exact aO; exact eb _)
 | (apply s_pd; exact aW)
 | (apply c_seq)
 | (apply c_reg)
 | (apply c_skip)
 | (apply c_ret)
 | (apply c_condT; exact rfl)
 | (apply c_condF; exact rfl)
 | (with_reducible apply k_c)
          all_goals first
            | (exfalso; omega)
            | exact hfin' (if_neg hr) (by rfl)
      · simp only [if_neg h2] at ea
        have hr : ¬ RightF w q U D := fun h => h2 h.2.1
        by_cases h3 : Chs w false D
        · simp only [if_pos h3] at eb
          repeat' first
 | (apply s_mov; exact aW)
 | (apply s_gT; exact rfl)
 | (apply s_gF; exact rfl)
 | (apply c_nil)
 | (apply s_pickT; exact rfl; exact aW)
 | (apply s_pickF; exact rfl; exact aW)
 | (apply s_notT; exact rfl)
 | (apply s_notF; exact rfl)
 | (apply s_lss; exact rfl; all_goals (intro _; try (exfalso; omega)))
 | (apply s_gtr; exact rfl; all_goals (intro _; try (exfalso; omega)))
 | (apply s_en; exact aO; exact hb0 _)
 | (apply s_cn; exact aO; exact e52 _)
 | (apply s_pn; exact aO; exact q0 _)
 | (apply s_pn; exact aO; exact q1 _)
 | (apply s_pn; exact aO; exact p0)
 | (apply s_pn; exact aO; exact p1)
 | (apply s_cn; exact aO; exact ea _)
 | (apply s_cn; exact aO; exact eb _)
 | (apply s_pd; exact aW)
 | (apply c_seq)
 | (apply c_reg)
 | (apply c_skip)
 | (apply c_ret)
 | (apply c_condT; exact rfl)
 | (apply c_condF; exact rfl)
 | (with_reducible apply k_c)
          all_goals first
            | (exfalso; omega)
            | exact hfin' (if_neg hr) (by rfl)
        · simp only [if_neg h3] at eb
          repeat' first
 | (apply s_mov; exact aW)
 | (apply s_gT; exact rfl)
 | (apply s_gF; exact rfl)
 | (apply c_nil)
 | (apply s_pickT; exact rfl; exact aW)
 | (apply s_pickF; exact rfl; exact aW)
 | (apply s_notT; exact rfl)
 | (apply s_notF; exact rfl)
 | (apply s_lss; exact rfl; all_goals (intro _; try (exfalso; omega)))
 | (apply s_gtr; exact rfl; all_goals (intro _; try (exfalso; omega)))
 | (apply s_en; exact aO; exact hb0 _)
 | (apply s_cn; exact aO; exact e52 _)
 | (apply s_pn; exact aO; exact q0 _)
 | (apply s_pn; exact aO; exact q1 _)
 | (apply s_pn; exact aO; exact p0)
 | (apply s_pn; exact aO; exact p1)
 | (apply s_cn; exact aO; exact ea _)
 | (apply s_cn; exact aO; exact eb _)
 | (apply s_pd; exact aW)
 | (apply c_seq)
 | (apply c_reg)
 | (apply c_skip)
 | (apply c_ret)
 | (apply c_condT; exact rfl)
 | (apply c_condF; exact rfl)
 | (with_reducible apply k_c)
          all_goals first
            | (exfalso; omega)
            | exact hfin' (if_neg hr) (by rfl)
    · have hn : ¬ (IsW w ∧ 1 ≤ k ∧ k ≤ 60) := fun h => hk h.2
      repeat' first
 | (apply s_mov; exact aW)
 | (apply s_gT; exact rfl)
 | (apply s_gF; exact rfl)
 | (apply c_nil)
 | (apply s_pickT; exact rfl; exact aW)
 | (apply s_pickF; exact rfl; exact aW)
 | (apply s_notT; exact rfl)
 | (apply s_lss; exact rfl; all_goals (intro _; try (exfalso; omega)))
 | (apply s_gtr; exact rfl; all_goals (intro _; try (exfalso; omega)))
 | (apply s_en; exact aO; exact hb0 _)
 | (apply s_cn; exact aO; exact e52 _)
 | (apply c_seq)
 | (apply c_reg)
 | (apply c_ret)
 | (apply c_condT; exact rfl)
 | (with_reducible apply k_c)
      all_goals first
        | (exfalso; omega)
        | exact hfin (if_neg hn) (by rfl)
  · have hn : ¬ (IsW w ∧ 1 ≤ k ∧ k ≤ 60) := fun h => hw h.1
    simp only [hw, decide_false] at e52
    repeat' first
 | (apply s_mov; exact aW)
 | (apply s_gF; exact rfl)
 | (apply c_nil)
 | (apply s_pickT; exact rfl; exact aW)
 | (apply s_notF; exact rfl)
 | (apply s_en; exact aO; exact hb0 _)
 | (apply s_cn; exact aO; exact e52 _)
 | (apply c_seq)
 | (apply c_reg)
 | (apply c_ret)
 | (apply c_condT; exact rfl)
 | (with_reducible apply k_c)
    all_goals first
      | (exfalso; omega)
      | exact hfin (if_neg hn) (by rfl)
theorem c39 {x u v : AV} {w : List Int} {U D : List (List Int)} {k : Int} (hx : IsL x w) (hu : IsLL u U) (hv : IsLL v D) (hwl : w.length ≤ 61) (hU : U.length ≤ 200 ∧ ∀ c ∈ U, c.length ≤ 200) (hD : D.length ≤ 200 ∧ ∀ c ∈ D, c.length ≤ 200) {m : Nat} (hm : 2200 ≤ m) (H : Heap) : callPure (evF tab it m) true 39 [x, .int .i64 k, .agg [u, v]] H = some (.int .i64 (ans39 w k U D), H) :=
  callPure_free (by simp [idFreeL, AV.idFree, hx.free, hu.free, hv.free]) (by simp) (f39 hx hu hv hwl hU hD hm) rfl
end Go.AM.Tb
