/- A part of the proof: S43. -/
import Derived.Test.YtbjkmejlecoebaaS42
set_option linter.unusedSectionVars false
set_option linter.unusedVariables false
set_option linter.unusedSimpArgs false
namespace Go.AM.Pr
attribute [local go_sem] gc subHeap reach_skip ren_free reach_new reach_newp reach_end rangeL roots boxCells nodupB posOf renL AV.ren pickO renH renO looks look bindEnv envOf reach_int reach_bool reach_nilS reach_rd putRow cells_sl cells_int cells_bool cells_nilS cells_rd cells_agg reach_agg reach_tup idFreeL idf_sl idf_ptr idf_int idf_bool idf_nilS idf_rd reach_fn reach_mp cells_fn cells_ptr cells_mp idf_mp idf_fn idf_agg idf_tup
open Go.AM.Num
set_option maxHeartbeats 4000000
theorem fz_nil {env : Env} {H : Heap} {s id : Nat} (h : look env s = .ptr id 0) (hH : H[id]? = some (some (.box [.nilS]))) : fzS env H s (some 0) = some (env, H.set id (some (.box [.nilS]))) := by
  simp [fzS, h, hH, evE, AV.one]
theorem fz_sl {env : Env} {H : Heap} {s id j n : Nat} {cs : List AV} (h : look env s = .ptr id 0) (hH : H[id]? = some (some (.box [.sl j 1 0 n]))) (hj : H.data? j = some cs) (hn : cs.length = n) (hne : j ≠ id) :
    fzS env H s (some 0) = some (env, (H.set j none).set id (some (.box [.rd 1 n cs]))) := by
  have hH' : (H.set j none)[id]? = some (some (.box [.sl j 1 0 n])) := by rw [List.getElem?_set_ne hne]; exact hH
  subst hn
  simp [fzS, h, hH, evE, AV.one, hj, hH', List.take_of_length_le]
theorem ent_agg (p : Nat) : ∃ (a b : Int) (x : AV), ent p = .agg [.int .i64 a, .int .i64 b, x] ∧ x.idFree = true ∧ x.one = true ∧ x.cells = [x] := by
  unfold ent
  split
  · exact ⟨_, _, _, rfl, rfl, rfl, rfl⟩
  · have h := isL_fz (ps (facOf (p - 1)))
    obtain ⟨a, b⟩ := isL_one h
    exact ⟨_, _, _, rfl, h.free, a, b⟩
theorem cells3 {a b : Int} {x : AV} (h : x.cells = [x]) : (AV.agg [.int .i64 a, .int .i64 b, x]).cells = [.int .i64 a, .int .i64 b, x] := by
  simp [go_sem, h]
theorem one3 {a b : Int} {x : AV} (h : x.one = true) : oneL [.int .i64 a, .int .i64 b, x] = true := by
  have o1 : ∀ y : Int, (AV.int .i64 y).one = true := fun _ => rfl
  simp [oneL, o1, h]
theorem f54 : ∀ (n p : Nat) (s : List Nat) (m : Nat), p ≤ n → IsPr p → p ≤ 2147483647 → 46500 + 3 * p ≤ m →
    evF tab it m 54 [.int .i64 (p : Int), .mp 0] [some (.map (mE (KM s)))] = some (.tup [], [some (.map (mE (KM (pvF n p s))))])
  | 0, p, s, m, hn, hp, _, _ => by have := hp.1; omega
  | n + 1, p, s, m, hn, hp, hp2, hm => by
    have hp1 := hp.1
    obtain ⟨m, rfl⟩ : ∃ j, m = j + 3 := ⟨m - 3, by omega⟩
    have hfd := KM_find p s
    by_cases hs : p ∈ s
    · have e : pvF (n + 1) p s = s := by simp [pvF, hs]
      rw [e]
      rw [if_pos hs] at hfd
      have lk : ∀ (call : CallF) (H : Heap), H[0]? = some (some (.map (mE (KM s)))) → evE call H (.lkM [some .i64] true (.agg [.int .i64 0, .int .i64 0, .nilS])) [.mp 0, .int .i64 (p : Int)] = some (.tup [ent p, .bool true], H) := fun call H h => by
        rw [e_lkMt h, hfd]; rfl
      obtain ⟨a, b, x, hx, x1, x2, x3⟩ := ent_agg p
      rw [hx] at lk
      refine f_enterH rfl rfl ?_
      generalize evF tab it (m + 2) = call at *
      generalize mE (KM s) = M at *
      repeat' first
 | (apply s_mov; (focus ((conv => lhs; whnf); done)))
 | (apply c_nil)
 | (apply s_en; (focus (repeat (first | apply opds_nil | (apply opds_cons; (first | (focus ((conv => lhs; whnf); done)) | exact rfl))))); exact lk _ _ rfl)
 | (apply s_st; (focus (repeat (first | apply opds_nil | (apply opds_cons; (first | (focus ((conv => lhs; whnf); done)) | exact rfl))))); exact e_stA rfl (cells3 x3) rfl (one3 x2) rfl)
 | (apply isE; apply s_ed; (focus ((conv => lhs; whnf); done)))
 | (apply s_pd; (focus ((conv => lhs; whnf); done)))
 | (apply c_seq)
 | (apply c_reg)
 | (apply c_ret)
 | (apply c_condT; exact rfl)
 | (with_reducible apply k_c)
      simp [finish, ress, tupOf, go_sem]
    · rw [if_neg hs] at hfd
      have lk : ∀ (call : CallF) (H : Heap), H[0]? = some (some (.map (mE (KM s)))) → evE call H (.lkM [some .i64] true (.agg [.int .i64 0, .int .i64 0, .nilS])) [.mp 0, .int .i64 (p : Int)] = some (.tup [.agg [.int .i64 0, .int .i64 0, .nilS], .bool false], H) := fun call H h => by
        rw [e_lkMt h, hfd]; rfl
      by_cases h2 : p = 2
      · subst h2
        have e : pvF (n + 1) 2 s = s ++ [2] := by simp [pvF, hs]
        rw [e]
        have up : ∀ (call : CallF) (H : Heap), H[0]? = some (some (.map (mE (KM s)))) → evE call H (.upM [some .i64]) [.mp 0, .int .i64 ((2 : Nat) : Int), .agg [.int .i64 2, .int .i64 1, .nilS]] = some (.undef, H.set 0 (some (.map (mE (KM (s ++ [2])))))) := fun call H h => by
          rw [e_upM h rfl, ← KM_put 2 s hs]
          rfl
        refine f_enterH rfl rfl ?_
        generalize evF tab it (m + 2) = call at *
        generalize mE (KM s) = M at *
        generalize mE (KM (s ++ [2])) = M' at *
        repeat' first
 | (apply s_mov; (focus ((conv => lhs; whnf); done)))
 | (apply c_nil)
 | ((first | apply s_lss | apply s_leq | apply s_gtr | apply s_geq | apply s_eql | apply s_neq); exact rfl; all_goals (intro _; try (exfalso; omega)))
 | (apply s_en; (focus (repeat (first | apply opds_nil | (apply opds_cons; (first | (focus ((conv => lhs; whnf); done)) | exact rfl))))); exact lk _ _ rfl)
 | (apply s_st; (focus (repeat (first | apply opds_nil | (apply opds_cons; (first | (focus ((conv => lhs; whnf); done)) | exact rfl))))); exact up _ _ rfl)
 | (apply s_st; (focus (repeat (first | apply opds_nil | (apply opds_cons; (first | (focus ((conv => lhs; whnf); done)) | exact rfl))))); exact e_stA rfl rfl rfl rfl rfl)
 | (apply s_pn; (focus (repeat (first | apply opds_nil | (apply opds_cons; (first | (focus ((conv => lhs; whnf); done)) | exact rfl))))); exact p_bldW)
 | (apply isE; apply s_ed; (focus ((conv => lhs; whnf); done)))
 | (apply s_pd; (focus ((conv => lhs; whnf); done)))
 | (apply c_seq)
 | (apply c_reg)
 | (apply c_skip)
 | (apply c_ret)
 | (apply c_condT; exact rfl)
 | (apply c_condF; exact rfl)
 | (with_reducible apply k_c)
        all_goals simp [finish, ress, tupOf, go_sem]
      · have h3 : 3 ≤ p := by omega
        have hq1 : ((p - 1 : Nat) : Int) = (p : Int) - 1 := by omega
        have hL := fac_pm hp
        have hLn := fac_len31 hL (by omega)
        have hlt := fac_lt (p := p) (by omega)
        have hne : facOf (p - 1) ≠ [] := fun e' => by
          have := hL.prod
          rw [e'] at this
          simp [prodL] at this
          omega
        have hps := ps_pos hL.toFacR
        have hpl := ps_len (facOf (p - 1))
        have e : pvF (n + 1) p s = pvL n s (facOf (p - 1)) ++ [p] := by simp [pvF, hs, h2, pvL]
        have hnm : p ∉ pvL n s (facOf (p - 1)) := fun hc => by
          rcases pvL_le (fun p s y => pvF_le n p s y) _ s p hc (fun x hx => (hlt x hx).2.1) with h | h
          · exact hs h
          · omega
        obtain ⟨w1, w2, w3, w4⟩ := witN_spec hp
        have w5 := wit_two hp h3
        have hent : ent p = .agg [.int .i64 (p : Int), .int .i64 (witN p : Int), fzL (ps (facOf (p - 1)))] := by unfold ent; rw [if_neg h2]
        have hput := KM_put p _ hnm
        rw [hent] at hput
        have clo := clo66 (n := n) (m := m) (s := s) (L := facOf (p - 1)) hLn fun l q t r h => by
          have hm' : (q, t) ∈ facOf (p - 1) := by rw [h]; simp
          obtain ⟨q1, q2, _⟩ := hlt _ hm'
          simp only at q1 q2
          exact f54 n q _ m (by omega) q1 (by omega) (by omega)
        have hc := f58 (N := p - 1) (by omega) (by omega) hL clo (by omega)
        simp only [List.length_nil] at hc
        have hfree := (isL_fz (ps (facOf (p - 1)))).free
        have h60 := fun (w : Nat) (hw : w < p) (H : Heap) => c60 (isL_fz (ps (facOf (p - 1)))) (p := p) (by omega) hp2 hw hps (by omega) (m := m + 2) (by omega) H
        rw [e]
        generalize pvL n s (facOf (p - 1)) = s' at *
        obtain ⟨k, hk⟩ : ∃ k, (facOf (p - 1)).length = k + 1 := ⟨(facOf (p - 1)).length - 1, by
          have := List.length_pos_iff.2 hne
          omega⟩
        rw [hk] at hc
        have hfz : fzL (ps (facOf (p - 1))) = .rd 1 (k + 1) (iL (ps (facOf (p - 1)))) := by
          have : (ps (facOf (p - 1))).length = k + 1 := by omega
          cases hq : ps (facOf (p - 1)) with
          | nil => rw [hq] at this; simp at this
          | cons a r => rw [hq] at this; simp at this; simp [fzL, this]
        have hcl : (iL (ps (facOf (p - 1)))).length = k + 1 := by rw [iL_len]; omega
        rw [hfz] at h60 hput hfree hent
        have hc1 : callMut (evF tab it (m + 2)) 58 [.int .i64 ((p : Int) - 1), .fn 66 [.ptr 3 0, .ptr 1 0]] [some (.map (mE (KM s))), some (.box [.mp 0]), some (.box [.int .i64 0, .int .i64 0, .nilS]), some (.box [.nilS])] =
            some (.tup [], [some (.map (mE (KM s'))), some (.box [.mp 0]), some (.box [.int .i64 0, .int .i64 0, .nilS]), some (.box [.sl 4 1 0 (k + 1)]), some (.data (iL (ps (facOf (p - 1)))))]) := by
          rw [← hq1]
          have hc' : evF tab it (m + 2) 58 [.int .i64 ((p - 1 : Nat) : Int), .fn 66 [.ptr 0 0, .ptr 1 0]] [some (.box [.nilS]), some (.box [.mp 2]), some (.map (mE (KM s)))] = some (.tup [], [some (.box [.sl 3 1 0 (k + 1)]), some (.box [.mp 2]), some (.map (mE (KM s'))), some (.data (iL (ps (facOf (p - 1)))))]) := hc
          simp [callMut, subHeap, backOf, writeBack, hc', go_sem]
        have up : ∀ (call : CallF) (H : Heap), H[0]? = some (some (.map (mE (KM s')))) → evE call H (.upM [some .i64]) [.mp 0, .int .i64 (p : Int), .agg [.int .i64 (p : Int), .int .i64 (witN p : Int), .rd 1 (k + 1) (iL (ps (facOf (p - 1))))]] = some (.undef, H.set 0 (some (.map (mE (KM (s' ++ [p])))))) := fun call H h => by
          rw [e_upM h (by simp [AV.idFree, idFreeL]), hput]
        generalize iL (ps (facOf (p - 1))) = C at *
        refine f_enterH rfl rfl ?_
        generalize evF tab it (m + 2) = call at *
        generalize mE (KM s) = M at *
        generalize mE (KM s') = M' at *
        generalize mE (KM (s' ++ [p])) = M2 at *
        repeat' first
 | (apply s_mov; (focus ((conv => lhs; whnf); done)))
 | (apply c_nil)
 | ((first | apply s_lss | apply s_leq | apply s_gtr | apply s_geq | apply s_eql | apply s_neq); exact rfl; all_goals (intro _; try (exfalso; omega)))
 | ((first | apply s_add | apply s_sub); exact rfl; omega)
 | (apply s_en; (focus (repeat (first | apply opds_nil | (apply opds_cons; (first | (focus ((conv => lhs; whnf); done)) | exact rfl))))); exact lk _ _ rfl)
 | (apply s_st; (focus (repeat (first | apply opds_nil | (apply opds_cons; (first | (focus ((conv => lhs; whnf); done)) | exact rfl))))); exact e_stA rfl rfl rfl rfl rfl)
 | (refine c_fz (fz_nil (by rfl) (by rfl)) ?_)
 | (apply s_en; (focus (repeat (first | apply opds_nil | (apply opds_cons; (first | (focus ((conv => lhs; whnf); done)) | exact rfl))))); exact hc1)
 | (apply s_pn; (focus (repeat (first | apply opds_nil | (apply opds_cons; (first | (focus ((conv => lhs; whnf); done)) | exact rfl))))); exact p_mkfn)
 | (apply isE; apply s_ed; (focus ((conv => lhs; whnf); done)))
 | (apply s_pd; (focus ((conv => lhs; whnf); done)))
 | (apply c_seq)
 | (apply c_reg)
 | (apply c_skip)
 | (apply c_condF; exact rfl)
 | (with_reducible apply k_c)
        refine c_fz (fz_sl (id := 3) (j := 4) (n := k + 1) (cs := C) (by rfl) (by rfl) (by rfl) hcl (by decide)) ?_
        have gcW : ∀ w : Nat, gc 1 [.int .i64 (p : Int), .ptr 1 0, .ptr 2 0, .int .i64 (w : Int)] [some (.map M'), some (.box [.mp 0]), some (.box [.rd 1 (k + 1) C])] = some ([.int .i64 (p : Int), .ptr 1 0, .ptr 2 0, .int .i64 (w : Int)], [some (.map M'), some (.box [.mp 0]), some (.box [.rd 1 (k + 1) C])]) := fun w => by simp [go_sem]
        repeat' first
 | (apply s_mov; (focus ((conv => lhs; whnf); done)))
 | (apply c_nil)
 | (apply c_seq)
 | (apply c_reg)
 | (apply c_block)
 | (with_reducible apply k_c)
        refine c_loop ?_
        refine loop_gc (σ := Nat) (fun w => [.int .i64 (p : Int), .ptr 1 0, .ptr 2 0, .int .i64 (w : Int)]) (fun _ => [some (.map M'), some (.box [.mp 0]), some (.box [.rd 1 (k + 1) C])]) (fun w => 2 ≤ w ∧ w ≤ witN p) (fun w => witN p - w) ?_ _ 2 _ _ ⟨by omega, w5⟩ (by omega) (by simp [go_sem])
        intro w ⟨hw1, hw2⟩ K hK
        have h60w := h60 w (by omega)
        by_cases hW : Wit w p (ps (facOf (p - 1)))
        · obtain rfl : w = witN p := by
            rcases (by omega : w = witN p ∨ w < witN p) with h | h
            · exact h
            · exact absurd hW (w4 w (by omega) h)
          simp only [hW, decide_true] at h60w
          repeat' first
 | (apply s_mov; (focus ((conv => lhs; whnf); done)))
 | (apply c_nil)
 | (apply s_notT; exact rfl)
 | (apply s_cn; (focus (repeat (first | apply opds_nil | (apply opds_cons; (first | (focus ((conv => lhs; whnf); done)) | exact rfl))))); exact h60w _)
 | (apply s_pn; (focus (repeat (first | apply opds_nil | (apply opds_cons; (first | (focus ((conv => lhs; whnf); done)) | exact rfl))))); exact p_ldBox rfl)
 | (apply c_seq)
 | (apply c_reg)
 | (apply c_exitH)
 | (apply c_condF; exact rfl)
 | (with_reducible apply k_c)
          apply c_pre
          · exact gcW _
          repeat' first
 | (apply s_mov; (focus ((conv => lhs; whnf); done)))
 | (apply c_nil)
 | (apply s_pn; (focus (repeat (first | apply opds_nil | (apply opds_cons; (first | (focus ((conv => lhs; whnf); done)) | exact rfl))))); exact p_ldBox rfl)
 | (apply s_st; (focus (repeat (first | apply opds_nil | (apply opds_cons; (first | (focus ((conv => lhs; whnf); done)) | exact rfl))))); exact up _ _ rfl)
 | (apply s_pd; (focus ((conv => lhs; whnf); done)))
 | (apply c_reg)
          simp [finish, ress, tupOf, go_sem]
        · simp only [hW, decide_false] at h60w
          have hlt2 : w < witN p := by
            rcases (by omega : w = witN p ∨ w < witN p) with h | h
            · exact absurd (h ▸ w3) hW
            · exact h
          repeat' first
 | (apply s_mov; (focus ((conv => lhs; whnf); done)))
 | (apply c_nil)
 | (apply s_notF; exact rfl)
 | ((first | apply s_add | apply s_sub); exact rfl; omega)
 | (apply s_cn; (focus (repeat (first | apply opds_nil | (apply opds_cons; (first | (focus ((conv => lhs; whnf); done)) | exact rfl))))); exact h60w _)
 | (apply s_pn; (focus (repeat (first | apply opds_nil | (apply opds_cons; (first | (focus ((conv => lhs; whnf); done)) | exact rfl))))); exact p_ldBox rfl)
 | (apply c_seq)
 | (apply c_reg)
 | (apply c_block)
 | (apply c_skip)
 | (apply c_condT; exact rfl)
 | (with_reducible apply k_c)
          exact hK (w + 1) _ _ ⟨by omega, by omega⟩ (by omega) (gcW (w + 1))
end Go.AM.Pr
