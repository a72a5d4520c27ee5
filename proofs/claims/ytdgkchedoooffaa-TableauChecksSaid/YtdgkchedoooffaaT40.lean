/- A part of the proof: T40. -/
import Derived.Test.YtdgkchedoooffaaT39
set_option linter.unusedVariables false
set_option linter.unusedSimpArgs false
set_option linter.unusedSectionVars false
namespace Go.AM.Tb
set_option maxHeartbeats 4000000
def mS (S : List Int) : List (AV × AV) := S.map fun p => (.int .i64 p, .bool true)
theorem findM_S (k : Int) : ∀ S, findM [some .i64] (.int .i64 k) (mS S) = some (if k ∈ S then some (.bool true) else none)
  | [] => rfl
  | p :: S => by
    have ih := findM_S k S
    simp only [mS, List.map_cons, findM, keyEq, and_self, if_true, Option.bind_some] at ih ⊢
    by_cases h : k = p
    · subst h; simp
    · rw [if_neg (by simpa using h), ih]
      simp [h]
theorem putM_S {k : Int} : ∀ S, k ∉ S → putM [some .i64] (.int .i64 k) (.bool true) (mS S) = some (mS (S ++ [k]))
  | [], _ => rfl
  | p :: S, h => by
    have h1 : k ≠ p := fun e => h (by simp [e])
    have ih := putM_S (k := k) S fun e => h (by simp [e])
    simp only [mS, List.map_cons, List.cons_append, putM, keyEq, and_self, if_true, Option.bind_some] at ih ⊢
    rw [if_neg (by simpa using h1), ih]
    rfl
theorem e_lkS {call : CallF} {H : Heap} {id : Nat} {S : List Int} {k : Int} (h : H[id]? = some (some (.map (mS S)))) : evE call H (.lkM [some .i64] false (.bool false)) [.mp id, .int .i64 k] = some (.bool (decide (k ∈ S)), H) := by
  simp only [evE, keyOk, Heap.map?, h, beq_self_eq_true, if_true, Option.bind_some, findM_S, Option.map_some]
  by_cases hk : k ∈ S
  · simp [hk]
  · simp [hk]
theorem e_upS {call : CallF} {H : Heap} {id : Nat} {S : List Int} {k : Int} (h : H[id]? = some (some (.map (mS S)))) (hk : k ∉ S) : evE call H (.upM [some .i64]) [.mp id, .int .i64 k, .bool true] = some (.undef, H.set id (some (.map (mS (S ++ [k]))))) := by
  simp only [evE, keyOk, AV.idFree, Bool.and_self, beq_self_eq_true, if_true, Heap.map?, h, Option.bind_some, putM_S S hk, Option.map_some]
theorem gcMp {pre gs : List AV} {H : Heap} {id : Nat} {es : List (AV × AV)} (h : H[id]? = some (some (.map es))) (hp : idFreeL pre = true) (hpl : pre.length ≤ 20) (hg : idFreeL gs = true) : gc 0 (pre ++ .mp id :: gs) H = some (pre ++ .mp 0 :: gs, [some (.map es)]) := by
  have hb : boxCells H id = [] := by simp [boxCells, h]
  have hφ : nodupB [id] = true := rfl
  refine gc_of (φ := [id]) ?_ hφ ?_ (Hp := [some (.map es)]) (by simp [pickO, h]) rfl
  · have e : reach H 400 (rangeL 0 []) (roots H (rangeL 0 []) ++ (pre ++ .mp id :: gs)) = reach H ((399 - pre.length) + 1) [] (.mp id :: gs) := by
      rw [show reach H 400 (rangeL 0 []) (roots H (rangeL 0 []) ++ (pre ++ .mp id :: gs)) = reach H 400 [] (pre ++ .mp id :: gs) from rfl, show (400 : Nat) = (399 - pre.length) + 1 + pre.length by omega, reach_pre pre hp]
    rw [e, reach_mp]
    simp only [List.contains_nil, Bool.false_eq_true, if_false, hb, List.nil_append]
    rw [reach_free _ _ _ _ hg]
  · rw [renL_append, renL_free _ hp]
    simp [renL, AV.ren, posOf, renL_free _ hg]
def ans61 (w : List Int) (up : Bool) (l : List (List Int)) : AV := if Chs w up l then .tup [.int .i64 (l.flatten.length : Int), .bool true] else .tup [.int .i64 0, .bool false]
theorem f61 {x y : AV} {w : List Int} {l : List (List Int)} {up : Bool} {g : Nat} (hx : IsL x w) (hy : IsLL y l) (hwl : w.length ≤ 61) (hl : l.length ≤ 200) (hlr : ∀ c ∈ l, c.length ≤ 200) {m : Nat} (hm : 1100 ≤ m)
    (hg : ∀ a b H, callPure (evF tab it (m - 1)) true g [.int .i64 a, .int .i64 b] H = some (.bool (nxt up a b), H)) : evF tab it m 61 [x, y, .fn g []] [] = some (ans61 w up l, []) := by
  obtain ⟨m, rfl⟩ : ∃ j, m = j + 1 := ⟨m - 1, by omega⟩
  rw [Nat.add_sub_cancel] at hg
  have fx := hx.free
  have fy := hy.free
  generalize hR : some (ans61 w up l, []) = res
  have hF : ¬ Chs w up l → ∀ {env s t H}, look env s = .int .i64 0 → look env t = .bool false → finish 0 [.t s, .t t] env H = res := fun h env s t H h1 h2 => by rw [← hR]; unfold ans61; rw [if_neg h]; exact fin_tt h1 h2 rfl rfl rfl
  have hT : Chs w up l → ∀ {env s t H}, look env s = .int .i64 (l.flatten.length : Int) → look env t = .bool true → finish 0 [.t s, .t t] env H = res := fun h env s t H h1 h2 => by rw [← hR]; unfold ans61; rw [if_pos h]; exact fin_tt h1 h2 rfl rfl rfl
  have hmk : ∀ call, evE call [] .mkM [] = some (.mp 0, [some (.map (mS []))]) := fun call => rfl
  refine f_enter rfl rfl ?_
  generalize evF tab it m = call at *
  repeat' first
 | (apply s_mov; exact aW)
 | (apply c_nil)
 | (apply s_en; exact aO; exact hmk _)
 | (apply s_lenLL; exact aW; assumption)
 | (apply c_seq)
 | (apply c_reg)
 | (apply c_block)
 | (with_reducible apply k_c)
  refine c_loop ?_
  have hgc : ∀ es gs, idFreeL gs = true → gc 0 ([x, .fn g []] ++ .mp 0 :: gs) [some (HO.map es)] = some ([x, .fn g []] ++ .mp 0 :: gs, [some (.map es)]) := fun es gs hg => gcMp rfl (by simp [idFreeL, AV.idFree, fx]) (by simp) hg
  have hgs : ∀ a b : Int, idFreeL [y, .int .i64 a, .int .i64 b] = true := fun a b => by simp [idFreeL, AV.idFree, fy]
  refine loop_gc (σ := Nat) (fun i => [x, .fn g [], .mp 0, y, .int .i64 l.length, .int .i64 (i : Int)]) (fun i => [some (.map (mS (l.take i).flatten))]) (fun i => i ≤ l.length ∧ (∀ c ∈ l.take i, IsCh w up c) ∧ (l.take i).flatten.Nodup) (fun i => l.length - i) ?_ _ 0 _ _ ⟨by omega, by simp, by simp⟩ (by omega) (hgc _ _ (hgs _ _))
  rintro i ⟨hi, hch, hnd⟩ K hK
  by_cases hil : i < l.length
  · have hrow : IsL (llAt y (i : Int)) (getLL l (i : Int)) := hy.at ⟨by omega, by omega⟩
    have hcl := hlr (getLL l (i : Int)) (by rw [getLL_get hil]; exact List.getElem_mem _)
    have hnc : ¬ IsCh w up (getLL l (i : Int)) → ¬ Chs w up l := fun h h2 => h (h2.1 _ (by rw [getLL_get hil]; exact List.getElem_mem _))
    have frow := hrow.free
    have hfs := flat_snoc hil
    have hnds := fun k => chs_nd (k := k) hil (l := l)
    have htks := take_snoc hil
    generalize hc' : getLL l (i : Int) = c at *
    by_cases hc0 : c.length = 0
    · have hn : ¬ Chs w up l := hnc fun h => h.1 hc0
      repeat' first
 | (apply s_mov; exact aW)
 | (apply c_nil)
 | (apply s_lss; exact rfl; all_goals (intro _; try (exfalso; omega)))
 | (apply s_eql; exact rfl; all_goals (intro _; try (exfalso; omega)))
 | (apply s_len; exact aW; exact aI)
 | (apply s_idxLL; exact aW; exact rfl; assumption; omega)
 | (apply s_ldLL; exact rfl; assumption; omega)
 | (apply c_seq)
 | (apply c_reg)
 | (apply c_block)
 | (apply c_skip)
 | (apply c_ret)
 | (apply c_condT; exact rfl)
 | (with_reducible apply k_c)
      all_goals first
        | (exfalso; omega)
        | exact hF hn (by rfl) (by rfl)
    · skip
      repeat' first
 | (apply s_mov; exact aW)
 | (apply c_nil)
 | (apply s_lss; exact rfl; all_goals (intro _; try (exfalso; omega)))
 | (apply s_eql; exact rfl; all_goals (intro _; try (exfalso; omega)))
 | (apply s_len; exact aW; exact aI)
 | (apply s_idxLL; exact aW; exact rfl; assumption; omega)
 | (apply s_ldLL; exact rfl; assumption; omega)
 | (apply c_seq)
 | (apply c_reg)
 | (apply c_block)
 | (apply c_skip)
 | (apply c_condT; exact rfl)
 | (apply c_condF; exact rfl)
 | (with_reducible apply k_c)
      refine c_loop ?_
      have hgs2 : ∀ a b d e : Int, idFreeL [llAt y (i : Int), y, .int .i64 a, .int .i64 b, llAt y (i : Int), .int .i64 d, .int .i64 e] = true := fun a b d e => by simp [idFreeL, AV.idFree, fy, frow]
      refine loop_gc (σ := Nat) (fun k => [x, .fn g [], .mp 0, llAt y (i : Int), y, .int .i64 l.length, .int .i64 (i : Int), llAt y (i : Int), .int .i64 c.length, .int .i64 (k : Int)]) (fun k => [some (.map (mS ((l.take i).flatten ++ c.take k)))]) (fun k => k ≤ c.length ∧ ChP w up c k ∧ ((l.take i).flatten ++ c.take k).Nodup) (fun k => c.length - k) ?_ _ 0 _ _ ⟨by omega, fun i hi => by omega, by simpa using hnd⟩ (by omega) ?_
      rotate_left
      · rw [List.take_zero, List.append_nil]
        exact hgc _ _ (hgs2 _ _ _ _)
      rintro k ⟨hk, hb, hnd2⟩ K2 hK2
      by_cases hkc : k < c.length
      · have hlk := fun p => e_lkS (call := call) (H := [some (HO.map (mS ((l.take i).flatten ++ c.take k)))]) (id := 0) (k := p) rfl
        have hup := fun p h => e_upS (call := call) (H := [some (HO.map (mS ((l.take i).flatten ++ c.take k)))]) (id := 0) (k := p) rfl h
        have hprev : ∀ h : 0 < k, 0 ≤ getI c ((k : Int) - 1) ∧ getI c ((k : Int) - 1) < w.length := fun h => by
          have := hb (k - 1) (by omega)
          rw [pred_i h] at this
          exact ⟨this.1, this.2.1⟩
        have hsn' : ((l.take i).flatten ++ c.take (k + 1)) = ((l.take i).flatten ++ c.take k) ++ [getI c (k : Int)] := by rw [take_snocI' hkc, ← List.append_assoc]
        have hK2' := hK2 (k + 1)
        rw [hsn'] at hK2'
        have hndk := hnds (k + 1)
        rw [hsn'] at hndk
        clear hK2 hnds hsn'
        generalize (l.take i).flatten ++ c.take k = S at *
        have hlk' := hlk (getI c (k : Int))
        by_cases h1 : 0 ≤ getI c (k : Int) ∧ getI c (k : Int) < w.length
        · obtain ⟨h1a, h1b⟩ := h1
          by_cases hin : getI c (k : Int) ∈ S
          · simp only [hin, decide_true] at hlk'
            have hn : ¬ Chs w up l := fun h => (List.nodup_append.1 (hndk h.2)).2.2 _ hin _ (List.mem_singleton.2 rfl) rfl
            repeat' first
 | (apply s_mov; exact aW)
 | (apply s_gT; exact rfl)
 | (apply s_gF; exact rfl)
 | (apply s_gFD; exact rfl)
 | (apply c_nil)
 | (apply s_pickT; exact rfl; exact aW)
 | (apply s_pickF; exact rfl; exact aW)
 | (apply s_lss; exact rfl; all_goals (intro _; try (exfalso; omega)))
 | (apply s_geq; exact rfl; all_goals (intro _; try (exfalso; omega)))
 | (apply s_en; exact aO; exact hlk')
 | (apply s_len; exact aW; exact aI)
 | (apply s_idx; exact aW; exact rfl; exact aI; omega)
 | (apply s_ldI; exact rfl; omega)
 | (apply c_seq)
 | (apply c_reg)
 | (apply c_block)
 | (apply c_skip)
 | (apply c_ret)
 | (apply c_condT; exact rfl)
 | (with_reducible apply k_c)
            all_goals first
              | (exfalso; omega)
              | exact hF hn (by rfl) (by rfl)
          · simp only [hin, decide_false] at hlk'
            have hup' : evE call [some (HO.map (mS S))] (.upM [some .i64]) [.mp 0, .int .i64 (getI c (k : Int)), .bool true] = some (.undef, [some (.map (mS (S ++ [getI c (k : Int)])))]) := hup _ hin
            have hnd3 : (S ++ [getI c (k : Int)]).Nodup := by
              rw [List.nodup_append]
              exact ⟨hnd2, by simp, fun a ha b hb' e => by simp at hb'; subst hb'; subst e; exact hin ha⟩
            by_cases h0 : 0 < k
            · obtain ⟨p1, p2⟩ := hprev h0
              by_cases h2 : getI c ((k : Int) - 1) < getI c (k : Int)
              · have ecv : ∀ H, evE call H (.callv true true) [.fn g [], .int .i64 (getI w (getI c ((k : Int) - 1))), .int .i64 (getI w (getI c (k : Int)))] = some (.bool (nxt up (getI w (getI c ((k : Int) - 1))) (getI w (getI c (k : Int)))), H) := fun H => by
                  simpa [evE] using hg (getI w (getI c ((k : Int) - 1))) (getI w (getI c (k : Int))) H
                by_cases h3 : nxt up (getI w (getI c ((k : Int) - 1))) (getI w (getI c (k : Int))) = true
                · have hn : ChP w up c (k + 1) := hb.succ h1a h1b fun _ => ⟨h2, h3⟩
                  rw [h3] at ecv
                  repeat' first
 | (apply s_mov; exact aW)
 | (apply s_gT; exact rfl)
 | (apply c_nil)
 | (apply s_pickT; exact rfl; exact aW)
 | (apply s_pickF; exact rfl; exact aW)
 | (apply s_notT; exact rfl)
 | (apply s_lss; exact rfl; all_goals (intro _; try (exfalso; omega)))
 | (apply s_gtr; exact rfl; all_goals (intro _; try (exfalso; omega)))
 | (apply s_geq; exact rfl; all_goals (intro _; try (exfalso; omega)))
 | (apply s_add; exact rfl; omega)
 | (apply s_sub; exact rfl; omega)
 | (apply s_en; exact aO; exact hlk')
 | (apply s_en; exact aO; exact ecv _)
 | (apply s_st; exact aO; exact hup')
 | (apply s_len; exact aW; exact aI)
 | (apply s_idx; exact aW; exact rfl; exact aI; omega)
 | (apply s_ldI; exact rfl; omega)
 | (apply c_seq)
 | (apply c_reg)
 | (apply c_block)
 | (apply c_skip)
 | (apply c_condT; exact rfl)
 | (apply c_condF; exact rfl)
 | (with_reducible apply k_c)
                  all_goals first
                    | (exfalso; omega)
                    | exact hK2' _ _ ⟨by omega, hn, hnd3⟩ (by omega) (hgc _ _ (hgs2 _ _ _ _))
                · have hn : ¬ Chs w up l := hnc fun h => h3 (((h.2 k hkc).2.2 h0).2)
                  have h3' : nxt up (getI w (getI c ((k : Int) - 1))) (getI w (getI c (k : Int))) = false := by simpa using h3
                  rw [h3'] at ecv
                  repeat' first
 | (apply s_mov; exact aW)
 | (apply s_gT; exact rfl)
 | (apply c_nil)
 | (apply s_pickT; exact rfl; exact aW)
 | (apply s_pickF; exact rfl; exact aW)
 | (apply s_notF; exact rfl)
 | (apply s_lss; exact rfl; all_goals (intro _; try (exfalso; omega)))
 | (apply s_gtr; exact rfl; all_goals (intro _; try (exfalso; omega)))
 | (apply s_geq; exact rfl; all_goals (intro _; try (exfalso; omega)))
 | (apply s_sub; exact rfl; omega)
 | (apply s_en; exact aO; exact hlk')
 | (apply s_en; exact aO; exact ecv _)
 | (apply s_len; exact aW; exact aI)
 | (apply s_idx; exact aW; exact rfl; exact aI; omega)
 | (apply s_ldI; exact rfl; omega)
 | (apply c_seq)
 | (apply c_reg)
 | (apply c_block)
 | (apply c_skip)
 | (apply c_ret)
 | (apply c_condT; exact rfl)
 | (with_reducible apply k_c)
                  all_goals first
                    | (exfalso; omega)
                    | exact hF hn (by rfl) (by rfl)
              · have hn : ¬ Chs w up l := hnc fun h => h2 (((h.2 k hkc).2.2 h0).1)
                repeat' first
 | (apply s_mov; exact aW)
 | (apply s_gT; exact rfl)
 | (apply s_gF; exact rfl)
 | (apply s_gFD; exact rfl)
 | (apply c_nil)
 | (apply s_pickT; exact rfl; exact aW)
 | (apply s_pickF; exact rfl; exact aW)
 | (apply s_lss; exact rfl; all_goals (intro _; try (exfalso; omega)))
 | (apply s_gtr; exact rfl; all_goals (intro _; try (exfalso; omega)))
 | (apply s_geq; exact rfl; all_goals (intro _; try (exfalso; omega)))
 | (apply s_sub; exact rfl; omega)
 | (apply s_en; exact aO; exact hlk')
 | (apply s_len; exact aW; exact aI)
 | (apply s_idx; exact aW; exact rfl; exact aI; omega)
 | (apply s_ldI; exact rfl; omega)
 | (apply c_seq)
 | (apply c_reg)
 | (apply c_block)
 | (apply c_skip)
 | (apply c_ret)
 | (apply c_condT; exact rfl)
 | (with_reducible apply k_c)
                all_goals first
                  | (exfalso; omega)
                  | exact hF hn (by rfl) (by rfl)
            · have hn : ChP w up c (k + 1) := hb.succ h1a h1b fun h => absurd h h0
              repeat' first
 | (apply s_mov; exact aW)
 | (apply s_gT; exact rfl)
 | (apply s_gF; exact rfl)
 | (apply s_gFD; exact rfl)
 | (apply c_nil)
 | (apply s_pickF; exact rfl; exact aW)
 | (apply s_lss; exact rfl; all_goals (intro _; try (exfalso; omega)))
 | (apply s_gtr; exact rfl; all_goals (intro _; try (exfalso; omega)))
 | (apply s_geq; exact rfl; all_goals (intro _; try (exfalso; omega)))
 | (apply s_add; exact rfl; omega)
 | (apply s_en; exact aO; exact hlk')
 | (apply s_st; exact aO; exact hup')
 | (apply s_len; exact aW; exact aI)
 | (apply s_idx; exact aW; exact rfl; exact aI; omega)
 | (apply s_ldI; exact rfl; omega)
 | (apply c_seq)
 | (apply c_reg)
 | (apply c_block)
 | (apply c_skip)
 | (apply c_condT; exact rfl)
 | (apply c_condF; exact rfl)
 | (with_reducible apply k_c)
              all_goals first
                | (exfalso; omega)
                | exact hK2' _ _ ⟨by omega, hn, hnd3⟩ (by omega) (hgc _ _ (hgs2 _ _ _ _))
        · have hn : ¬ Chs w up l := hnc fun h => h1 ⟨(h.2 k hkc).1, (h.2 k hkc).2.1⟩
          repeat' first
 | (apply s_mov; exact aW)
 | (apply s_gT; exact rfl)
 | (apply s_gF; exact rfl)
 | (apply s_gFD; exact rfl)
 | (apply c_nil)
 | (apply s_pickT; exact rfl; exact aW)
 | (apply s_pickF; exact rfl; exact aW)
 | (apply s_lss; exact rfl; all_goals (intro _; try (exfalso; omega)))
 | (apply s_geq; exact rfl; all_goals (intro _; try (exfalso; omega)))
 | (apply s_len; exact aW; exact aI)
 | (apply s_idx; exact aW; exact rfl; exact aI; omega)
 | (apply s_ldI; exact rfl; omega)
 | (apply c_seq)
 | (apply c_reg)
 | (apply c_block)
 | (apply c_skip)
 | (apply c_ret)
 | (apply c_condT; exact rfl)
 | (with_reducible apply k_c)
          all_goals first
            | (exfalso; omega)
            | exact hF hn (by rfl) (by rfl)
      · obtain rfl : k = c.length := by omega
        rw [List.take_length] at hnd2 ⊢
        have hK' := hK (i + 1)
        rw [hfs] at hK'
        generalize hSS : (l.take i).flatten ++ c = S at *
        have g9 := hgc (mS S) [y, .int .i64 l.length, .int .i64 (i : Int)] (hgs _ _)
        repeat' first
 | (apply s_mov; exact aW)
 | (apply c_nil)
 | (apply s_lss; exact rfl; all_goals (intro _; try (exfalso; omega)))
 | (apply s_add; exact rfl; omega)
 | (apply c_pre; exact g9)
 | (apply c_seq)
 | (apply c_reg)
 | (apply c_exitH)
 | (apply c_condF; exact rfl)
 | (with_reducible apply k_c)
        refine hK' _ _ ⟨by omega, fun d hd => ?_, hnd2⟩ (by omega) (hgc _ _ (hgs _ _))
        rw [htks] at hd
        rcases List.mem_append.1 hd with hd | hd
        · exact hch d hd
        · simp at hd; subst hd; exact ⟨hc0, hb⟩
  · obtain rfl : i = l.length := by omega
    rw [List.take_length] at *
    have hok : Chs w up l := ⟨hch, hnd⟩
    have hln : ∀ S : List Int, evP [some (HO.map (mS S))] .lenM [.mp 0] = some (.int .i64 (S.length : Int)) := fun S => by
      simp [evP, lenM, Heap.map?, mS]
    have g0 := gcMp (pre := []) (gs := []) (H := [some (HO.map (mS l.flatten))]) (id := 0) rfl rfl (by simp) rfl
    have hln' := hln l.flatten
    generalize l.flatten = S at *
    repeat' first
 | (apply s_mov; exact aW)
 | (apply c_nil)
 | (apply s_lss; exact rfl; all_goals (intro _; try (exfalso; omega)))
 | (apply c_pre; exact g0)
 | (apply s_pn; exact aO; exact hln')
 | (apply c_seq)
 | (apply c_reg)
 | (apply c_exitH)
 | (apply c_ret)
 | (apply c_condF; exact rfl)
 | (with_reducible apply k_c)
    exact hT hok (by rfl) (by rfl)
theorem c61 {x y : AV} {w : List Int} {l : List (List Int)} (hx : IsL x w) (hy : IsLL y l) (hwl : w.length ≤ 61) (hl : l.length ≤ 200) (hlr : ∀ c ∈ l, c.length ≤ 200) {m : Nat} (hm : 1100 ≤ m) (H : Heap) :
    callPure (evF tab it m) true 61 [x, y, .fn 62 []] H = some (ans61 w true l, H) ∧ callPure (evF tab it m) true 61 [x, y, .fn 63 []] H = some (ans61 w false l, H) := by
  have hf : ∀ up, (ans61 w up l).idFree = true := fun up => by unfold ans61; split <;> rfl
  exact ⟨callPure_free (by simp [idFreeL, AV.idFree, hx.free, hy.free]) (by simp) (f61 hx hy hwl hl hlr hm fun a b H => c62 (by omega) H) (hf _), callPure_free (by simp [idFreeL, AV.idFree, hx.free, hy.free]) (by simp) (f61 hx hy hwl hl hlr hm fun a b H => c63 (by omega) H) (hf _)⟩
end Go.AM.Tb
