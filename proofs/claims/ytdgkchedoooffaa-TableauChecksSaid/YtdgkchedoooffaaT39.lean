/- A part of the proof: T39. -/
import Derived.Test.YtdgkchedoooffaaT38
import Derived.Test.YtdgkchedoooffaaT12
set_option linter.unusedVariables false
set_option linter.unusedSimpArgs false
set_option linter.unusedSectionVars false
namespace Go.AM.Tb
set_option maxHeartbeats 4000000
theorem gcDb {pre gs : List AV} {H : Heap} {b n : Nat} {c : List AV} (h : H[b]? = some (some (.data c))) (hp : idFreeL pre = true) (hpl : pre.length ≤ 20) (hg : idFreeL gs = true) : gc 0 (pre ++ .sl b 1 0 n :: gs) H = some (pre ++ .sl 0 1 0 n :: gs, [some (.data c)]) := by
  have hb : boxCells H b = [] := by simp [boxCells, h]
  have hφ : nodupB [b] = true := rfl
  refine gc_of (φ := [b]) ?_ hφ ?_ (Hp := [some (.data c)]) (by simp [pickO, h]) rfl
  · have e : reach H 400 (rangeL 0 []) (roots H (rangeL 0 []) ++ (pre ++ .sl b 1 0 n :: gs)) = reach H ((399 - pre.length) + 1) [] (.sl b 1 0 n :: gs) := by
      rw [show reach H 400 (rangeL 0 []) (roots H (rangeL 0 []) ++ (pre ++ .sl b 1 0 n :: gs)) = reach H 400 [] (pre ++ .sl b 1 0 n :: gs) from rfl, show (400 : Nat) = (399 - pre.length) + 1 + pre.length by omega, reach_pre pre hp]
    rw [e, reach_new]
    simp only [List.contains_nil, Bool.false_eq_true, if_false, hb, List.nil_append]
    rw [reach_free _ _ _ _ hg]
  · rw [renL_append, renL_free _ hp]
    simp [renL, AV.ren, posOf, renL_free _ hg]
theorem getB_set {b : List Bool} {i : Nat} {v : Bool} {j : Nat} (hi : i < b.length) : getB (b.set i v) (j : Int) = if j = i then v else getB b (j : Int) := by
  rw [getB_nat, getB_nat]
  by_cases e : j = i
  · subst e; simp [List.getD, hi]
  · rw [if_neg e]; simp [List.getD, List.getElem?_set_ne (Ne.symm e)]
theorem take_snocI' {l : List Int} {i : Nat} (h : i < l.length) : l.take (i + 1) = l.take i ++ [getI l (i : Int)] := by
  rw [List.take_succ_eq_append_getElem h, getI_nat]; simp [List.getD, h]
theorem flat_snoc {l : List (List Int)} {i : Nat} (hi : i < l.length) : (l.take (i + 1)).flatten = (l.take i).flatten ++ getLL l (i : Int) := by
  rw [take_snoc hi]; simp
theorem chs_nd {l : List (List Int)} {i : Nat} {k : Nat} (hi : i < l.length) (h : l.flatten.Nodup) : ((l.take i).flatten ++ (getLL l (i : Int)).take k).Nodup := by
  have e : l.flatten = ((l.take i).flatten ++ (getLL l (i : Int)).take k) ++ ((getLL l (i : Int)).drop k ++ (l.drop (i + 1)).flatten) := by
    have h1 : l = l.take i ++ getLL l (i : Int) :: l.drop (i + 1) := by rw [getLL_get hi]; simp
    conv => lhs; rw [h1]
    rw [List.flatten_append, List.flatten_cons]
    conv => lhs; rhs; lhs; rw [← List.take_append_drop k (getLL l (i : Int))]
    simp only [List.append_assoc]
  rw [e] at h
  exact (List.nodup_append.1 h).1
theorem f64 {x y : AV} {w : List Int} {l : List (List Int)} {up : Bool} (hx : IsL x w) (hy : IsLL y l) (hwl : w.length ≤ 61) (hl : l.length ≤ 200) (hlr : ∀ c ∈ l, c.length ≤ 200) {m : Nat} (hm : 1100 ≤ m) : evF tab it m 64 [x, y, .bool up] [] = some (.int .i64 (if Chs w up l then (l.flatten.length : Int) else -1), []) := by
  obtain ⟨m, rfl⟩ : ∃ j, m = j + 1 := ⟨m - 1, by omega⟩
  have fx := hx.free
  have fy := hy.free
  have e85 := fun {c : List Int} {z : AV} (hz : IsL z c) (hc : c.length ≤ 1000) H => c85 (up := up) hx hz hc (by omega) (m := m) (by omega) H
  generalize hR : some (AV.int .i64 (if Chs w up l then (l.flatten.length : Int) else -1), []) = res
  have hF : ¬ Chs w up l → ∀ {env s H}, look env s = .int .i64 (-1) → finish 0 [.t s] env H = res := fun h env s H h1 => by rw [← hR, if_neg h]; exact fin_t h1 rfl rfl
  have hT : Chs w up l → ∀ {env s H}, look env s = .int .i64 (l.flatten.length : Int) → finish 0 [.t s] env H = res := fun h env s H h1 => by rw [← hR, if_pos h]; exact fin_t h1 rfl rfl
  have hmk : ∀ call, evE call [] (.mkS 1 1 [.bool false]) [.int .i64 (w.length : Int), .int .i64 (w.length : Int)] = some (.sl 0 1 0 w.length, [some (.data (bL (List.replicate w.length false)))]) := fun call => by
    have h : (w.length : Int) ≤ 1048576 := by omega
    have hr : ∀ n, repl n [AV.bool false] = bL (List.replicate n false) := by
      intro n
      induction n with
      | zero => simp [repl, bL]
      | succ n ih => simp [repl, ih, bL, List.replicate_succ]
    simp [evE, most, h, hr]
  refine f_enter rfl rfl ?_
  generalize evF tab it m = call at *
  repeat' first
 | (apply s_mov; exact aW)
 | (apply c_nil)
 | (apply s_en; exact aO; exact hmk _)
 | (apply s_len; exact aW; exact aI)
 | (apply c_seq)
 | (apply c_reg)
 | (apply c_block)
 | (with_reducible apply k_c)
  refine c_loop ?_
  have hgc : ∀ n c gs, idFreeL gs = true → gc 0 ([x, y, .bool up] ++ .sl 0 1 0 n :: gs) [some (HO.data c)] = some ([x, y, .bool up] ++ .sl 0 1 0 n :: gs, [some (.data c)]) := fun n c gs hg => gcDb rfl (by simp [idFreeL, AV.idFree, fx, fy]) (by simp) hg
  refine loop_gc (σ := Nat × List Bool) (fun p => [x, y, .bool up, .sl 0 1 0 w.length, .int .i64 ((l.take p.1).flatten.length : Int), .int .i64 (p.1 : Int)]) (fun p => [some (.data (bL p.2))]) (fun p => p.1 ≤ l.length ∧ p.2.length = w.length ∧ (∀ c ∈ l.take p.1, IsCh w up c) ∧ (l.take p.1).flatten.Nodup ∧ ∀ q : Nat, q < w.length → getB p.2 (q : Int) = decide ((q : Int) ∈ (l.take p.1).flatten)) (fun p => l.length - p.1) ?_ _ (0, List.replicate w.length false) _ _ ⟨by dsimp only; omega, by simp, by simp, by simp, fun q hq => by rw [getB_nat]; simp [List.getD, hq]⟩ (by dsimp only; omega) (hgc _ _ _ rfl)
  rintro ⟨i, sn⟩ ⟨hi, hsl, hch, hnd, hsn⟩ K hK
  dsimp only at hi hsl hch hnd hsn hK ⊢
  have hflen : (l.take i).flatten.length ≤ i * 200 := by
    have : ∀ (l : List (List Int)), (∀ c ∈ l, c.length ≤ 200) → l.flatten.length ≤ l.length * 200 := by
      intro l
      induction l with
      | nil => simp
      | cons c l ih =>
        intro h
        have := ih fun d hd => h d (by simp [hd])
        have := h c (by simp)
        simp only [List.flatten_cons, List.length_append, List.length_cons]
        omega
    have := this (l.take i) fun c hc => hlr c (List.mem_of_mem_take hc)
    rw [List.length_take] at this
    have : min i l.length = i := by omega
    omega
  by_cases hil : i < l.length
  · have hrow : IsL (llAt y (i : Int)) (getLL l (i : Int)) := hy.at ⟨by omega, by omega⟩
    have hcl := hlr (getLL l (i : Int)) (by rw [getLL_get hil]; exact List.getElem_mem _)
    have ec := e85 hrow (by omega)
    by_cases hc : IsCh w up (getLL l (i : Int))
    · simp only [hc, decide_true] at ec
      have hb := hc.2
      repeat' first
 | (apply s_mov; exact aW)
 | (apply c_nil)
 | (apply s_notT; exact rfl)
 | (apply s_lss; exact rfl; all_goals (intro _; try (exfalso; omega)))
 | (apply s_cn; exact aO; exact ec _)
 | (apply s_lenLL; exact aW; assumption)
 | (apply s_idxLL; exact aW; exact rfl; assumption; omega)
 | (apply s_ldLL; exact rfl; assumption; omega)
 | (apply c_seq)
 | (apply c_reg)
 | (apply c_block)
 | (apply c_skip)
 | (apply c_condT; exact rfl)
 | (apply c_condF; exact rfl)
 | (with_reducible apply k_c)
      refine c_loop ?_
      refine loop_gc (σ := Nat × List Bool) (fun p => [x, y, .bool up, .sl 0 1 0 w.length, .int .i64 (((l.take i).flatten ++ (getLL l (i : Int)).take p.1).length : Int), .int .i64 (i : Int), .int .i64 (p.1 : Int)]) (fun p => [some (.data (bL p.2))]) (fun p => p.1 ≤ (getLL l (i : Int)).length ∧ p.2.length = w.length ∧ ((l.take i).flatten ++ (getLL l (i : Int)).take p.1).Nodup ∧ ∀ q : Nat, q < w.length → getB p.2 (q : Int) = decide ((q : Int) ∈ (l.take i).flatten ++ (getLL l (i : Int)).take p.1)) (fun p => (getLL l (i : Int)).length - p.1) ?_ _ (0, sn) _ _ ⟨by dsimp only; omega, hsl, by simpa using hnd, fun q hq => by dsimp only; rw [hsn q hq]; simp⟩ (by dsimp only; omega) ?_
      rotate_left
      · rw [List.take_zero, List.append_nil]
        exact hgc w.length (bL sn) [.int .i64 ((l.take i).flatten.length : Int), .int .i64 (i : Int), .int .i64 0] rfl
      rintro ⟨k, sm⟩ ⟨hk, hsml, hnd2, hsm⟩ K2 hK2
      dsimp only at hk hsml hnd2 hsm hK2 ⊢
      generalize hc' : getLL l (i : Int) = c at *
      have hlen2 : ((l.take i).flatten ++ c.take k).length ≤ i * 200 + 200 := by rw [List.length_append, List.length_take]; omega
      by_cases hkc : k < c.length
      · obtain ⟨q1, q2, _⟩ := hb k hkc
        obtain ⟨q, hq⟩ : ∃ q : Nat, getI c (k : Int) = (q : Int) := ⟨(getI c (k : Int)).toNat, by omega⟩
        have hqw : q < w.length := by omega
        have hseen := hsm q hqw
        have hpl : evP [some (HO.data (bL sm))] (.ld false 1) [.ptr 0 (0 + (getI c (k : Int)).toNat * 1)] = some (.bool (getB sm (q : Int))) := by
          rw [hq]; exact p_ldB rfl (by omega)
        by_cases hin : (q : Int) ∈ (l.take i).flatten ++ c.take k
        · rw [hseen] at hpl
          simp only [hin, decide_true] at hpl
          have hn : ¬ Chs w up l := fun h => by
            have := chs_nd (k := k + 1) hil h.2
            rw [hc', take_snocI' hkc, ← List.append_assoc, hq] at this
            exact (List.nodup_append.1 this).2.2 (q : Int) hin (q : Int) (List.mem_singleton.2 rfl) rfl
          repeat' first
 | (apply s_mov; exact aW)
 | (apply c_nil)
 | (apply s_lss; exact rfl; all_goals (intro _; try (exfalso; omega)))
 | (apply s_pn; exact aO; exact hpl)
 | (apply s_len; exact aW; exact aI)
 | (apply s_idx; exact aW; exact rfl; exact aI; omega)
 | (apply s_idxLL; exact aW; exact rfl; assumption; omega)
 | (apply s_idxS; exact rfl; exact rfl; omega)
 | (apply s_ldI; exact rfl; omega)
 | (apply s_ldLL; exact rfl; assumption; omega)
 | (apply c_seq)
 | (apply c_reg)
 | (apply c_block)
 | (apply c_skip)
 | (apply c_ret)
 | (apply c_condT; exact rfl)
 | (with_reducible apply k_c)
          all_goals first
            | (exfalso; omega)
            | exact hF hn (by rfl)
        · rw [hseen] at hpl
          simp only [hin, decide_false] at hpl
          have hst : evE call [some (HO.data (bL sm))] (.st 1) [.ptr 0 (0 + (getI c (k : Int)).toNat * 1), .bool true] = some (.undef, [some (.data (bL (sm.set q true)))]) := by
            have := e_stB (call := call) (H := [some (HO.data (bL sm))]) (id := 0) (i := getI c (k : Int)) (b := sm) (v := true) rfl (by omega)
            rw [this, hq]; rfl
          have hsn' : ((l.take i).flatten ++ c.take (k + 1)) = ((l.take i).flatten ++ c.take k) ++ [(q : Int)] := by rw [take_snocI' hkc, ← List.append_assoc, hq]
          have hK2' := hK2 (k + 1, sm.set q true)
          dsimp only at hK2'
          rw [hsn'] at hK2'
          have hlen3 : ((((l.take i).flatten ++ c.take k) ++ [(q : Int)]).length : Int) = (((l.take i).flatten ++ c.take k).length : Int) + 1 := by rw [List.length_append, List.length_singleton, Int.natCast_add]; rfl
          rw [hlen3] at hK2'
          generalize ((l.take i).flatten ++ c.take k) = S at *
          repeat' first
 | (apply s_mov; exact aW)
 | (apply c_nil)
 | (apply s_lss; exact rfl; all_goals (intro _; try (exfalso; omega)))
 | (apply s_add; exact rfl; omega)
 | (apply s_pn; exact aO; exact hpl)
 | (apply s_st; exact aO; exact hst)
 | (apply s_len; exact aW; exact aI)
 | (apply s_idx; exact aW; exact rfl; exact aI; omega)
 | (apply s_idxLL; exact aW; exact rfl; assumption; omega)
 | (apply s_idxS; exact rfl; exact rfl; omega)
 | (apply s_ldI; exact rfl; omega)
 | (apply s_ldLL; exact rfl; assumption; omega)
 | (apply c_seq)
 | (apply c_reg)
 | (apply c_block)
 | (apply c_skip)
 | (apply c_condT; exact rfl)
 | (apply c_condF; exact rfl)
 | (with_reducible apply k_c)
          refine hK2' _ _ ⟨by omega, by simpa using hsml, ?_, fun u hu => ?_⟩ (by omega) (hgc _ _ _ rfl)
          · rw [List.nodup_append]
            exact ⟨hnd2, by simp, fun a ha b hb' e => by simp at hb'; subst hb'; subst e; exact hin ha⟩
          · rw [getB_set (by omega)]
            by_cases e : u = q
            · subst e; rw [if_pos rfl]; simp
            · rw [if_neg e, hsm u hu]
              have : ((u : Int) ∈ S ++ [(q : Int)]) ↔ (u : Int) ∈ S := by
                rw [List.mem_append]
                constructor
                · rintro (h | h)
                  · exact h
                  · simp at h; omega
                · exact .inl
              simp only [this]
      · obtain rfl : k = c.length := by omega
        rw [List.take_length] at hnd2 hsm hlen2 ⊢
        have hfs := flat_snoc hil
        rw [hc'] at hfs
        have hK' := hK (i + 1, sm)
        dsimp only at hK'
        rw [hfs] at hK'
        generalize hSS : (l.take i).flatten ++ c = S at *
        have g9 := hgc w.length (bL sm) [.int .i64 (S.length : Int), .int .i64 (i : Int)] rfl
        repeat' first
 | (apply s_mov; exact aW)
 | (apply c_nil)
 | (apply s_lss; exact rfl; all_goals (intro _; try (exfalso; omega)))
 | (apply s_add; exact rfl; omega)
 | (apply c_pre; exact g9)
 | (apply s_len; exact aW; exact aI)
 | (apply s_idxLL; exact aW; exact rfl; assumption; omega)
 | (apply s_ldLL; exact rfl; assumption; omega)
 | (apply c_seq)
 | (apply c_reg)
 | (apply c_exitH)
 | (apply c_condF; exact rfl)
 | (with_reducible apply k_c)
        refine hK' _ _ ⟨by omega, hsml, fun d hd => ?_, hnd2, hsm⟩ (by omega) (hgc _ _ _ rfl)
        rw [take_snoc hil, hc'] at hd
        rcases List.mem_append.1 hd with hd | hd
        · exact hch d hd
        · simp at hd; subst hd; exact hc
    · simp only [hc, decide_false] at ec
      have hn : ¬ Chs w up l := fun h => hc (h.1 _ (by rw [getLL_get hil]; exact List.getElem_mem _))
      generalize (l.take i).flatten.length = S at *
      repeat' first
 | (apply s_mov; exact aW)
 | (apply c_nil)
 | (apply s_notF; exact rfl)
 | (apply s_lss; exact rfl; all_goals (intro _; try (exfalso; omega)))
 | (apply s_cn; exact aO; exact ec _)
 | (apply s_lenLL; exact aW; assumption)
 | (apply s_idxLL; exact aW; exact rfl; assumption; omega)
 | (apply s_ldLL; exact rfl; assumption; omega)
 | (apply c_seq)
 | (apply c_reg)
 | (apply c_block)
 | (apply c_skip)
 | (apply c_ret)
 | (apply c_condT; exact rfl)
 | (with_reducible apply k_c)
      all_goals first
        | (exfalso; omega)
        | exact hF hn (by rfl)
  · obtain rfl : i = l.length := by omega
    rw [List.take_length] at *
    have hok : Chs w up l := ⟨hch, hnd⟩
    generalize l.flatten.length = S at *
    repeat' first
 | (apply s_mov; exact aW)
 | (apply c_nil)
 | (apply s_lss; exact rfl; all_goals (intro _; try (exfalso; omega)))
 | (apply s_lenLL; exact aW; assumption)
 | (apply c_seq)
 | (apply c_reg)
 | (apply c_exitH)
 | (apply c_ret)
 | (apply c_condF; exact rfl)
 | (apply c_preF; exact aK; exact aF)
 | (with_reducible apply k_c)
    exact hT hok (by rfl)
theorem c64 {x y : AV} {w : List Int} {l : List (List Int)} {up : Bool} (hx : IsL x w) (hy : IsLL y l) (hwl : w.length ≤ 61) (hl : l.length ≤ 200) (hlr : ∀ c ∈ l, c.length ≤ 200) {m : Nat} (hm : 1100 ≤ m) (H : Heap) : callPure (evF tab it m) true 64 [x, y, .bool up] H = some (.int .i64 (if Chs w up l then (l.flatten.length : Int) else -1), H) :=
  callPure_free (by simp [idFreeL, AV.idFree, hx.free, hy.free]) (by simp) (f64 hx hy hwl hl hlr hm) rfl
end Go.AM.Tb
