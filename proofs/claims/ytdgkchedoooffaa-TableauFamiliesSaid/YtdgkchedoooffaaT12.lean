/- A part of the proof: T10 T38 TN3 TN4 T12. -/
import Derived.Test.YtdgkchedoooffaaT9
set_option linter.unusedVariables false
set_option linter.unusedSimpArgs false
set_option linter.unusedSectionVars false
namespace Go.AM.Tb
set_option maxHeartbeats 4000000
def pushH (H : Heap) (b : Nat) (js : List Nat) (Q : List (List Int)) (n : Int) : Heap :=
  H.set b none ++ [some (.box [.nilS]), some (.box (refs js (Q.map iL) ++ [.sl (H.length + 2) 1 0 1])), some (.data [.int .i64 n])]
theorem LB.push {H : Heap} {b : Nat} {js : List Nat} {Q : List (List Int)} {n : Int} (h : LB H b js Q) (hm : Q.length < 1000) :
    (∀ call, evE call H (.bldB 1 1 [.nilS] [(0, 1)]) [.nilS] = some (.sl H.length 1 0 1, H ++ [some (.box [.nilS])])) ∧
    (∀ call q, evE call (H ++ [some (HO.box [.nilS])]) (.appB 1 q) [.sl b 1 0 Q.length, .sl H.length 1 0 1] = some (.sl (H.length + 1) 1 0 (Q.length + 1), H.set b none ++ [some (.box [.nilS]), some (.box (refs js (Q.map iL) ++ [.nilS]))])) ∧
    evP (H.set b none ++ [some (HO.box [.nilS]), some (.box (refs js (Q.map iL) ++ [.nilS]))]) (.ld false 1) [.ptr (H.length + 1) Q.length] = some .nilS ∧
    (∀ call q, evE call (H.set b none ++ [some (HO.box [.nilS]), some (.box (refs js (Q.map iL) ++ [.nilS]))]) (.app false 1 q) [.nilS, .rd 1 1 [.int .i64 n]] = some (.sl (H.length + 2) 1 0 1, H.set b none ++ [some (HO.box [.nilS]), some (.box (refs js (Q.map iL) ++ [.nilS])), some (.data [.int .i64 n])])) ∧
    (∀ call, evE call (H.set b none ++ [some (HO.box [.nilS]), some (.box (refs js (Q.map iL) ++ [.nilS])), some (.data [.int .i64 n])]) (.st 1) [.ptr (H.length + 1) Q.length, .sl (H.length + 2) 1 0 1] = some (.undef, pushH H b js Q n)) ∧
    LB (pushH H b js Q n) (H.length + 1) (js ++ [H.length + 2]) (Q ++ [[n]]) ∧ (∀ z, z ∉ b :: js → z < H.length → (pushH H b js Q n)[z]? = H[z]?) := by
  have hb := h.lta
  have hrl : (refs js (Q.map iL)).length = Q.length := by rw [refs_length h.lnm]; simp
  have hjb : ∀ z ∈ js, z ≠ b := fun z hz e => (List.nodup_cons.1 h.nd).1 (e ▸ hz)
  have hjl : ∀ z ∈ js, z < H.length := fun z hz => h.lt z (by simp [hz])
  have hold : ∀ z, z ≠ b → z < H.length → (pushH H b js Q n)[z]? = H[z]? := fun z h1 h2 => by
    unfold pushH
    rw [List.getElem?_append_left (by simpa using h2), List.getElem?_set_ne (Ne.symm h1)]
  refine ⟨fun call => e_bldB1 rfl rfl rfl, fun call q => ?_, ?_, fun call q => ?_, fun call => ?_, ⟨?_, by simp [h.ln], fun j i hj => ?_, ?_⟩, fun z hz hzl => hold z (fun e => hz (by simp [e])) hzl⟩
  · have h1 : (H ++ [some (HO.box [AV.nilS])])[b]? = some (some (.box (refs js (Q.map iL)))) := by rw [List.getElem?_append_left hb, h.bx]
    have := e_appB_sl (call := call) (q := q) (H := H ++ [some (HO.box [.nilS])]) (id := b) (id2 := H.length) (n := 1) (bs := [.nilS]) (cells?_iff.2 (.inr h1)) hrl (cells?_iff.2 (.inr (by simp))) rfl (by decide) (by unfold most; omega)
    rw [this]
    simp [List.set_append_left _ _ hb]
  · refine p_ldX (cs := refs js (Q.map iL) ++ [.nilS]) ?_ ?_
    · rw [List.getElem?_append_right (by simp)]; simp
    · rw [List.getElem?_append_right (by omega)]; simp [hrl]
  · have := e_app_nil (call := call) (q := q) (H := H.set b none ++ [some (HO.box [.nilS]), some (.box (refs js (Q.map iL) ++ [.nilS]))]) (cs := [.int .i64 n]) (n := 1) rfl (by decide) (by unfold most; omega)
    rw [this]
    simp
  · have := e_stX (call := call) (H := H.set b none ++ [some (HO.box [.nilS]), some (.box (refs js (Q.map iL) ++ [.nilS])), some (.data [.int .i64 n])]) (a := H.length + 1) (j := Q.length) (cs := refs js (Q.map iL) ++ [.nilS]) (v := .sl (H.length + 2) 1 0 1) (by rw [List.getElem?_append_right (by simp)]; simp) (by simp [hrl]) rfl rfl
    rw [this, List.set_append_right _ _ (by simp), List.set_append_right _ _ (by omega), hrl]
    simp [pushH]
  · unfold pushH
    rw [List.getElem?_append_right (by simp), List.map_append, refs_append h.lnm]
    simp [refs, iL]
  · rcases Nat.lt_or_ge j js.length with h1 | h1
    · rw [List.getElem?_append_left h1] at hj
      have hm' := List.mem_of_getElem? hj
      rw [hold i (hjb i hm') (hjl i hm'), h.rw j i hj, getLL_nat, getLL_nat]
      have := h.ln
      simp [List.getD, List.getElem?_append_left (show j < Q.length by omega)]
    · rw [List.getElem?_append_right h1] at hj
      obtain ⟨hj1, hj2⟩ := List.getElem?_eq_some_iff.1 hj
      simp at hj1 hj2
      have := h.ln
      obtain rfl : j = Q.length := by omega
      subst hj2
      unfold pushH
      rw [List.getElem?_append_right (by simp), getLL_nat]
      simp [List.getD, iL]
  · rw [List.nodup_cons, List.nodup_append]
    refine ⟨fun hm' => ?_, (List.nodup_cons.1 h.nd).2, by simp, fun x hx y hy e => ?_⟩
    · rcases List.mem_append.1 hm' with h1 | h1
      · have := hjl _ h1; omega
      · simp at h1
    · simp at hy
      have := hjl _ hx; omega
theorem fzL_ne {l : List Int} {n : Nat} (h : l.length = n) (hn : 1 ≤ n) : fzL l = .rd 1 n (iL l) := by
  rcases l with _ | ⟨a, r⟩
  · simp at h; omega
  · subst h; simp [fzL]
theorem fzLL_ne {l : List (List Int)} {n : Nat} (h : l.length = n) (hn : 1 ≤ n) : fzLL l = .rd 1 n (l.map fzL) := by
  rcases l with _ | ⟨a, r⟩
  · simp at h; omega
  · subst h; simp [fzLL]
set_option maxHeartbeats 4000000
def nxt (up : Bool) (a b : Int) : Bool := if up then decide (a ≤ b) else decide (b < a)
def IsCh (w : List Int) (up : Bool) (c : List Int) : Prop := c.length ≠ 0 ∧ ∀ i : Nat, i < c.length → 0 ≤ getI c (i : Int) ∧ getI c (i : Int) < w.length ∧ (0 < i → getI c ((i : Int) - 1) < getI c (i : Int) ∧ nxt up (getI w (getI c ((i : Int) - 1))) (getI w (getI c (i : Int))) = true)
instance (w up c) : Decidable (IsCh w up c) := by unfold IsCh; exact inferInstance
def ChP (w : List Int) (up : Bool) (c : List Int) (n : Nat) : Prop := ∀ i : Nat, i < n → 0 ≤ getI c (i : Int) ∧ getI c (i : Int) < w.length ∧ (0 < i → getI c ((i : Int) - 1) < getI c (i : Int) ∧ nxt up (getI w (getI c ((i : Int) - 1))) (getI w (getI c (i : Int))) = true)
theorem ChP.succ {w up c n} (h : ChP w up c n) (h1 : 0 ≤ getI c (n : Int)) (h2 : getI c (n : Int) < w.length) (h3 : 0 < n → getI c ((n : Int) - 1) < getI c (n : Int) ∧ nxt up (getI w (getI c ((n : Int) - 1))) (getI w (getI c (n : Int))) = true) : ChP w up c (n + 1) := fun i hi => by
  rcases (by omega : i < n ∨ i = n) with h' | rfl
  · exact h i h'
  · exact ⟨h1, h2, h3⟩
theorem f85 {x y : AV} {w c : List Int} {up : Bool} (hx : IsL x w) (hy : IsL y c) (hc : c.length ≤ 1000) (hwl : w.length ≤ 1000) {m : Nat} (hm : 1010 ≤ m) : evF tab it m 85 [x, y, .bool up] [] = some (.bool (decide (IsCh w up c)), []) := by
  obtain ⟨m, rfl⟩ : ∃ j, m = j + 1 := ⟨m - 1, by omega⟩
  have fx := hx.free
  have fy := hy.free
  generalize hR : some (AV.bool (decide (IsCh w up c)), []) = res
  have hT : IsCh w up c → ∀ {env s}, look env s = .bool true → finish 0 [.t s] env [] = res := fun h env s h1 => by rw [← hR]; exact fin_t h1 rfl (leafT h)
  have hF : ¬ IsCh w up c → ∀ {env s}, look env s = .bool false → finish 0 [.t s] env [] = res := fun h env s h1 => by rw [← hR]; exact fin_t h1 rfl (leafF h)
  refine f_enter rfl rfl ?_
  repeat' first
 | (apply s_mov; exact aW)
 | (apply c_nil)
 | (apply c_seq)
 | (apply c_reg)
 | (apply c_block)
 | (with_reducible apply k_c)
  refine c_loop ?_
  refine loop_gc (σ := Nat) (fun i => [x, y, .bool up, .int .i64 i]) (fun _ => []) (fun i => i ≤ c.length ∧ ChP w up c i) (fun i => c.length - i) ?_ _ 0 _ _ ⟨by omega, fun i hi => by omega⟩ (by omega) (gc_to rfl (by simp [idFreeL, AV.idFree, *]; done))
  intro i ⟨hi, hb⟩ K hK
  have hprev : ∀ h : 0 < i, 0 ≤ getI c ((i : Int) - 1) ∧ getI c ((i : Int) - 1) < w.length := fun h => by
    have := hb (i - 1) (by omega)
    rw [pred_i h] at this
    exact ⟨this.1, this.2.1⟩
  by_cases hic : i < c.length
  · by_cases h1 : 0 ≤ getI c (i : Int) ∧ getI c (i : Int) < w.length
    · by_cases h0 : 0 < i
      · obtain ⟨p1, p2⟩ := hprev h0
        by_cases h2 : getI c ((i : Int) - 1) < getI c (i : Int)
        · by_cases h3 : nxt up (getI w (getI c ((i : Int) - 1))) (getI w (getI c (i : Int))) = true
          · have hn : ChP w up c (i + 1) := hb.succ h1.1 h1.2 fun _ => ⟨h2, h3⟩
            cases up with
            | true =>
              have h3 : getI w (getI c ((i : Int) - 1)) ≤ getI w (getI c (i : Int)) := by simpa [nxt] using h3
              repeat' first
 | (apply s_mov; exact aW)
 | (apply s_gT; exact rfl)
 | (apply s_gF; exact rfl)
 | (apply c_nil)
 | (apply s_pickT; exact rfl; exact aW)
 | (apply s_pickF; exact rfl; exact aW)
 | (apply s_notT; exact rfl)
 | (apply s_lss; exact rfl; all_goals (intro _; try (exfalso; omega)))
 | (apply s_gtr; exact rfl; all_goals (intro _; try (exfalso; omega)))
 | (apply s_geq; exact rfl; all_goals (intro _; try (exfalso; omega)))
 | (apply s_add; exact rfl; omega)
 | (apply s_sub; exact rfl; omega)
 | (apply s_len; exact aW; exact aI)
 | (apply s_idx; exact aW; exact rfl; exact aI; omega)
 | (apply s_ldI; exact rfl; omega)
 | (apply c_seq)
 | (apply c_reg)
 | (apply c_block)
 | (apply c_skip)
 | (apply c_condT; exact rfl)
 | (apply c_condF; exact rfl)
 | (with_reducible apply k_c)
              all_goals first
                | (exfalso; omega)
                | exact hK (i + 1) _ _ ⟨by omega, hn⟩ (by omega) (gc_to rfl (by simp [idFreeL, AV.idFree, *]; done))
            | false =>
              have h3 : getI w (getI c (i : Int)) < getI w (getI c ((i : Int) - 1)) := by simpa [nxt] using h3
              repeat' first
 | (apply s_mov; exact aW)
 | (apply s_gT; exact rfl)
 | (apply s_gF; exact rfl)
 | (apply c_nil)
 | (apply s_pickT; exact rfl; exact aW)
 | (apply s_pickF; exact rfl; exact aW)
 | (apply s_notF; exact rfl)
 | (apply s_lss; exact rfl; all_goals (intro _; try (exfalso; omega)))
 | (apply s_gtr; exact rfl; all_goals (intro _; try (exfalso; omega)))
 | (apply s_geq; exact rfl; all_goals (intro _; try (exfalso; omega)))
 | (apply s_add; exact rfl; omega)
 | (apply s_sub; exact rfl; omega)
 | (apply s_len; exact aW; exact aI)
 | (apply s_idx; exact aW; exact rfl; exact aI; omega)
 | (apply s_ldI; exact rfl; omega)
 | (apply c_seq)
 | (apply c_reg)
 | (apply c_block)
 | (apply c_skip)
 | (apply c_condT; exact rfl)
 | (apply c_condF; exact rfl)
 | (with_reducible apply k_c)
              all_goals first
                | (exfalso; omega)
                | exact hK (i + 1) _ _ ⟨by omega, hn⟩ (by omega) (gc_to rfl (by simp [idFreeL, AV.idFree, *]; done))
          · have hn : ¬ IsCh w up c := fun h => h3 (((h.2 i hic).2.2 h0).2)
            cases up with
            | true =>
              have h3 : ¬ getI w (getI c ((i : Int) - 1)) ≤ getI w (getI c (i : Int)) := by simpa [nxt] using h3
              repeat' first
 | (apply s_mov; exact aW)
 | (apply s_gT; exact rfl)
 | (apply s_gF; exact rfl)
 | (apply c_nil)
 | (apply s_pickT; exact rfl; exact aW)
 | (apply s_pickF; exact rfl; exact aW)
 | (apply s_lss; exact rfl; all_goals (intro _; try (exfalso; omega)))
 | (apply s_gtr; exact rfl; all_goals (intro _; try (exfalso; omega)))
 | (apply s_geq; exact rfl; all_goals (intro _; try (exfalso; omega)))
 | (apply s_sub; exact rfl; omega)
 | (apply s_len; exact aW; exact aI)
 | (apply s_idx; exact aW; exact rfl; exact aI; omega)
 | (apply s_ldI; exact rfl; omega)
 | (apply c_seq)
 | (apply c_reg)
 | (apply c_block)
 | (apply c_skip)
 | (apply c_ret)
 | (apply c_condT; exact rfl)
 | (apply c_condF; exact rfl)
 | (with_reducible apply k_c)
              all_goals first
                | (exfalso; omega)
                | exact hF hn rfl
            | false =>
              have h3 : ¬ getI w (getI c (i : Int)) < getI w (getI c ((i : Int) - 1)) := by simpa [nxt] using h3
              repeat' first
 | (apply s_mov; exact aW)
 | (apply s_gT; exact rfl)
 | (apply s_gF; exact rfl)
 | (apply c_nil)
 | (apply s_pickT; exact rfl; exact aW)
 | (apply s_pickF; exact rfl; exact aW)
 | (apply s_notF; exact rfl)
 | (apply s_lss; exact rfl; all_goals (intro _; try (exfalso; omega)))
 | (apply s_gtr; exact rfl; all_goals (intro _; try (exfalso; omega)))
 | (apply s_geq; exact rfl; all_goals (intro _; try (exfalso; omega)))
 | (apply s_sub; exact rfl; omega)
 | (apply s_len; exact aW; exact aI)
 | (apply s_idx; exact aW; exact rfl; exact aI; omega)
 | (apply s_ldI; exact rfl; omega)
 | (apply c_seq)
 | (apply c_reg)
 | (apply c_block)
 | (apply c_skip)
 | (apply c_ret)
 | (apply c_condT; exact rfl)
 | (apply c_condF; exact rfl)
 | (with_reducible apply k_c)
              all_goals first
                | (exfalso; omega)
                | exact hF hn rfl
        · have hn : ¬ IsCh w up c := fun h => h2 (((h.2 i hic).2.2 h0).1)
          repeat' first
 | (apply s_mov; exact aW)
 | (apply s_gT; exact rfl)
 | (apply c_nil)
 | (apply s_pickT; exact rfl; exact aW)
 | (apply s_pickF; exact rfl; exact aW)
 | (apply s_lss; exact rfl; all_goals (intro _; try (exfalso; omega)))
 | (apply s_gtr; exact rfl; all_goals (intro _; try (exfalso; omega)))
 | (apply s_geq; exact rfl; all_goals (intro _; try (exfalso; omega)))
 | (apply s_sub; exact rfl; omega)
 | (apply s_len; exact aW; exact aI)
 | (apply s_idx; exact aW; exact rfl; exact aI; omega)
 | (apply s_ldI; exact rfl; omega)
 | (apply c_seq)
 | (apply c_reg)
 | (apply c_block)
 | (apply c_skip)
 | (apply c_ret)
 | (apply c_condT; exact rfl)
 | (with_reducible apply k_c)
          all_goals first
            | (exfalso; omega)
            | exact hF hn rfl
      · have hn : ChP w up c (i + 1) := hb.succ h1.1 h1.2 fun h => absurd h h0
        obtain ⟨h1a, h1b⟩ := h1
        cases up with
        | true =>
          repeat' first
 | (apply s_mov; exact aW)
 | (apply s_gT; exact rfl)
 | (apply s_gF; exact rfl)
 | (apply c_nil)
 | (apply s_pickF; exact rfl; exact aW)
 | (apply s_lss; exact rfl; all_goals (intro _; try (exfalso; omega)))
 | (apply s_gtr; exact rfl; all_goals (intro _; try (exfalso; omega)))
 | (apply s_geq; exact rfl; all_goals (intro _; try (exfalso; omega)))
 | (apply s_add; exact rfl; omega)
 | (apply s_len; exact aW; exact aI)
 | (apply s_idx; exact aW; exact rfl; exact aI; omega)
 | (apply s_ldI; exact rfl; omega)
 | (apply c_seq)
 | (apply c_reg)
 | (apply c_block)
 | (apply c_skip)
 | (apply c_condT; exact rfl)
 | (apply c_condF; exact rfl)
 | (with_reducible apply k_c)
          all_goals first
            | (exfalso; omega)
            | exact hK (i + 1) _ _ ⟨by omega, hn⟩ (by omega) (gc_to rfl (by simp [idFreeL, AV.idFree, *]; done))
        | false =>
          repeat' first
 | (apply s_mov; exact aW)
 | (apply s_gT; exact rfl)
 | (apply s_gF; exact rfl)
 | (apply c_nil)
 | (apply s_pickF; exact rfl; exact aW)
 | (apply s_lss; exact rfl; all_goals (intro _; try (exfalso; omega)))
 | (apply s_gtr; exact rfl; all_goals (intro _; try (exfalso; omega)))
 | (apply s_geq; exact rfl; all_goals (intro _; try (exfalso; omega)))
 | (apply s_add; exact rfl; omega)
 | (apply s_len; exact aW; exact aI)
 | (apply s_idx; exact aW; exact rfl; exact aI; omega)
 | (apply s_ldI; exact rfl; omega)
 | (apply c_seq)
 | (apply c_reg)
 | (apply c_block)
 | (apply c_skip)
 | (apply c_condT; exact rfl)
 | (apply c_condF; exact rfl)
 | (with_reducible apply k_c)
          all_goals first
            | (exfalso; omega)
            | exact hK (i + 1) _ _ ⟨by omega, hn⟩ (by omega) (gc_to rfl (by simp [idFreeL, AV.idFree, *]; done))
    · have hn : ¬ IsCh w up c := fun h => h1 ⟨(h.2 i hic).1, (h.2 i hic).2.1⟩
      repeat' first
 | (apply s_mov; exact aW)
 | (apply s_gT; exact rfl)
 | (apply s_gF; exact rfl)
 | (apply c_nil)
 | (apply s_pickT; exact rfl; exact aW)
 | (apply s_pickF; exact rfl; exact aW)
 | (apply s_lss; exact rfl; all_goals (intro _; try (exfalso; omega)))
 | (apply s_geq; exact rfl; all_goals (intro _; try (exfalso; omega)))
 | (apply s_len; exact aW; exact aI)
 | (apply s_idx; exact aW; exact rfl; exact aI; omega)
 | (apply s_ldI; exact rfl; omega)
 | (apply c_seq)
 | (apply c_reg)
 | (apply c_block)
 | (apply c_skip)
 | (apply c_ret)
 | (apply c_condT; exact rfl)
 | (with_reducible apply k_c)
      all_goals first
        | (exfalso; omega)
        | exact hF hn rfl
  · obtain rfl : i = c.length := by omega
    by_cases hl : c.length = 0
    · skip
      repeat' first
 | (apply s_mov; exact aW)
 | (apply c_nil)
 | (apply s_lss; exact rfl; all_goals (intro _; try (exfalso; omega)))
 | (apply s_gtr; exact rfl; all_goals (intro _; try (exfalso; omega)))
 | (apply s_len; exact aW; exact aI)
 | (apply c_seq)
 | (apply c_reg)
 | (apply c_exitH)
 | (apply c_ret)
 | (apply c_condF; exact rfl)
 | (apply c_preF; exact aK; exact aF)
 | (with_reducible apply k_c)
      all_goals first
        | (exfalso; omega)
        | skip
      exact hF (fun h => h.1 hl) rfl
    · skip
      repeat' first
 | (apply s_mov; exact aW)
 | (apply c_nil)
 | (apply s_lss; exact rfl; all_goals (intro _; try (exfalso; omega)))
 | (apply s_gtr; exact rfl; all_goals (intro _; try (exfalso; omega)))
 | (apply s_len; exact aW; exact aI)
 | (apply c_seq)
 | (apply c_reg)
 | (apply c_exitH)
 | (apply c_ret)
 | (apply c_condF; exact rfl)
 | (apply c_preF; exact aK; exact aF)
 | (with_reducible apply k_c)
      all_goals first
        | (exfalso; omega)
        | skip
      exact hT ⟨hl, hb⟩ rfl
theorem c85 {x y : AV} {w c : List Int} {up : Bool} (hx : IsL x w) (hy : IsL y c) (hc : c.length ≤ 1000) (hwl : w.length ≤ 1000) {m : Nat} (hm : 1010 ≤ m) (H : Heap) : callPure (evF tab it m) true 85 [x, y, .bool up] H = some (.bool (decide (IsCh w up c)), H) :=
  callPure_free (by simp [idFreeL, AV.idFree, hx.free, hy.free]) (by simp) (f85 hx hy hc hwl hm) rfl
theorem c62 {a b : Int} {m : Nat} (hm : 1 ≤ m) (H : Heap) : callPure (evF tab it m) true 62 [.int .i64 a, .int .i64 b] H = some (.bool (nxt true a b), H) := by
  obtain ⟨m, rfl⟩ : ∃ j, m = j + 1 := ⟨m - 1, by omega⟩
  refine callPure_free rfl (by simp) (H1 := []) ?_ rfl
  refine f_enter rfl rfl ?_
  repeat' first
 | (apply s_mov; exact aW)
 | (apply c_nil)
 | (apply s_leq; exact rfl; all_goals (intro _; try (exfalso; omega)))
 | (apply c_seq)
 | (apply c_reg)
 | (apply c_ret)
 | (with_reducible apply k_c)
  all_goals refine fin_t (by (conv => lhs; whnf)) (by rfl) ?_
  all_goals first | exact leafT (by omega) | exact leafF (by omega)
theorem c63 {a b : Int} {m : Nat} (hm : 1 ≤ m) (H : Heap) : callPure (evF tab it m) true 63 [.int .i64 a, .int .i64 b] H = some (.bool (nxt false a b), H) := by
  obtain ⟨m, rfl⟩ : ∃ j, m = j + 1 := ⟨m - 1, by omega⟩
  refine callPure_free rfl (by simp) (H1 := []) ?_ rfl
  refine f_enter rfl rfl ?_
  repeat' first
 | (apply s_mov; exact aW)
 | (apply c_nil)
 | (apply s_gtr; exact rfl; all_goals (intro _; try (exfalso; omega)))
 | (apply c_seq)
 | (apply c_reg)
 | (apply c_ret)
 | (with_reducible apply k_c)
  all_goals refine fin_t (by (conv => lhs; whnf)) (by rfl) ?_
  all_goals first | exact leafT (by omega) | exact leafF (by omega)
def Chs (w : List Int) (up : Bool) (l : List (List Int)) : Prop := (∀ c ∈ l, IsCh w up c) ∧ l.flatten.Nodup
instance (w up l) : Decidable (Chs w up l) := by unfold Chs; exact inferInstance
theorem reach_all {w E R gn by_ T} (h : Net w E) (hw : 0 < w.length) (hr : Rm E R) (hcap : ∀ e, e < E.length → R (2 * e + 1) ≤ 100) (hg : GD E R E.length (2 + 2 * w.length) gn by_ T) : ∀ v, v < 2 + 2 * w.length → 0 ≤ getI gn (v : Int) := by
  have room : ∀ e, e < E.length → (eg E e).c = big → 0 < R (2 * e) := fun e he hc => by
    have := hr e he
    have := hcap e he
    rw [hc] at *
    unfold big at *
    omega
  have arc : ∀ e, e < E.length → (eg E e).c = big → (eg E e).g = 0 → far < getI gn ((eg E e).u : Int) → getI gn ((eg E e).u : Int) ≤ getI gn ((eg E e).v : Int) := fun e he hc hg0 hf => by
    have h1 := hg.ok (2 * e) (by omega) (room e he hc)
    unfold aS aD aG at h1
    rw [if_pos (by omega), if_pos (by omega), if_pos (by omega), show 2 * e / 2 = e by omega, hg0] at h1
    have := h1 hf
    omega
  have hin : ∀ i, i < w.length → 0 ≤ getI gn ((2 + 2 * i : Nat) : Int) := fun i hi => by
    obtain ⟨e, he, e1⟩ := h.hasA i hi
    have := arc e he (by rw [e1]; rfl) (by rw [e1]; rfl)
    rw [e1] at this
    have := this (by rw [show ((eA i).u : Int) = ((0 : Nat) : Int) from rfl, hg.g0]; decide)
    rw [show ((eA i).u : Int) = ((0 : Nat) : Int) from rfl, hg.g0] at this
    exact this
  have hout : ∀ i, i < w.length → 0 ≤ getI gn ((3 + 2 * i : Nat) : Int) := fun i hi => by
    obtain ⟨e, he, e1⟩ := h.hasV i hi
    have := arc e he (by rw [e1]; rfl) (by rw [e1]; rfl)
    rw [e1] at this
    have h1 := hin i hi
    have := this (by show far < getI gn ((2 + 2 * i : Nat) : Int); unfold far; omega)
    have h2 : getI gn ((2 + 2 * i : Nat) : Int) ≤ getI gn ((3 + 2 * i : Nat) : Int) := this
    omega
  intro v hv
  by_cases h0 : v = 0
  · subst h0; rw [hg.g0]; exact Int.le_refl _
  · by_cases h1 : v = 1
    · subst h1
      obtain ⟨e, he, e1⟩ := h.hasL 0 hw
      have := arc e he (by rw [e1]; rfl) (by rw [e1]; rfl)
      rw [e1] at this
      have h2 := hout 0 hw
      have := this (by show far < getI gn ((3 + 2 * 0 : Nat) : Int); unfold far; omega)
      have h3 : getI gn ((3 + 2 * 0 : Nat) : Int) ≤ getI gn ((1 : Nat) : Int) := this
      omega
    · by_cases h2 : v % 2 = 0
      · have := hin ((v - 2) / 2) (by omega)
        rwa [show 2 + 2 * ((v - 2) / 2) = v by omega] at this
      · have := hout ((v - 3) / 2) (by omega)
        rwa [show 3 + 2 * ((v - 3) / 2) = v by omega] at this
def Gs (E : List Ed) (R : Nat → Int) : Int := sZ E.length fun e => R (2 * e + 1) * (eg E e).g
structure NI (w : List Int) (E : List Ed) (R : Nat → Int) (s : Nat) : Prop where
  net : Net w E
  rm : Rm E R
  fl : ∀ π : Nat → Int, Fl E R π = (s : Int) * (π 1 - π 0)
  cap : ∀ e, e < E.length → R (2 * e + 1) ≤ s
theorem NI.push {w E R s gn T R'} (h : NI w E R s) (hp : PI E R gn T 0 R') : NI w E R' (s + 1) := by
  refine ⟨h.net, hp.rm, fun π => ?_, fun e he => ?_⟩
  · rw [hp.fl, h.fl, Int.natCast_add, Int.add_mul]; simp
  · have h1 := hp.cap e he
    have h2 := h.cap e he
    split at h1 <;> omega
theorem NI.start_push {w E R s gn by_ T} (h : NI w E R s) (hg : GD E R E.length (2 + 2 * w.length) gn by_ T) (hre : ∀ v, v < 2 + 2 * w.length → 0 ≤ getI gn (v : Int)) : PI E R gn T 1 R :=
  ⟨h.rm, fun π => by omega, fun k _ _ => Int.le_refl _, fun k hk hr => hg.ok k hk hr (by have := hre _ (h.net.ends hk).1; unfold far; omega), fun e he => by split <;> omega⟩
theorem level_some {w E R s gn by_ T} (h : NI w E R s) (hg : GD E R E.length (2 + 2 * w.length) gn by_ T) (hre : ∀ v, v < 2 + 2 * w.length → 0 ≤ getI gn (v : Int)) {q : Int} (hq : 0 ≤ q) : ∀ (n v : Nat), T v ≤ n → v < 2 + 2 * w.length → q < getI gn (v : Int) → ∃ i, i < w.length ∧ getI gn ((2 + 2 * i : Nat) : Int) = q ∧ getI gn ((3 + 2 * i : Nat) : Int) = q + 1 := by
  intro n
  induction n with
  | zero =>
    intro v hT hv hgt
    by_cases h0 : v = 0
    · subst h0; rw [hg.g0] at hgt; omega
    · obtain ⟨k, _, _, _, _, _, _, _, h8⟩ := hg.bk v (by omega) hv (by unfold far; omega)
      omega
  | succ n ih =>
    intro v hT hv hgt
    by_cases h0 : v = 0
    · subst h0; rw [hg.g0] at hgt; omega
    · obtain ⟨k, _, h2, _, h4, h5, _, h7, h8⟩ := hg.bk v (by omega) hv (by unfold far; omega)
      by_cases hs : q < getI gn (aS E k : Int)
      · exact ih (aS E k) (by omega) h5 hs
      · have hG : aG E k = 1 := by have := (h.net.ends h2).2.2.2; omega
        have hq1 : getI gn (aS E k : Int) = q := by omega
        unfold aG at hG
        unfold aD at h4
        unfold aS at hq1
        obtain ⟨i, hi, hf⟩ := h.net.form (k / 2) (by omega)
        split at hG
        · rename_i hp
          rw [if_pos hp] at h4 hq1
          rcases hf with e | e | e | e | ⟨j, _, _, _, e⟩ <;> rw [e] at hG h4 hq1
          · simp [eA] at hG
          · refine ⟨i, hi, hq1, ?_⟩
            rw [show (3 + 2 * i : Nat) = v from h4, h7]
            unfold aS aG
            rw [if_pos hp, if_pos hp, e]
            have : getI gn ((eU i).u : Int) = q := hq1
            rw [this]; rfl
          · simp [eV] at hG
          · simp [eL] at hG
          · simp [eX] at hG
        · rcases hf with e | e | e | e | ⟨j, _, _, _, e⟩ <;> rw [e] at hG
          · simp [eA] at hG
          · simp [eU] at hG
          · simp [eV] at hG
          · simp [eL] at hG
          · simp [eX] at hG
def flat0 (w : List Int) (gn : List Int) : Nat := sN w.length fun i => if getI gn ((2 + 2 * i : Nat) : Int) < getI gn ((3 + 2 * i : Nat) : Int) then 0 else 1
theorem sum_U {w E} (h : Net w E) (f : Nat → Int) (hz : ∀ e, e < E.length → (∀ i, i < w.length → eg E e ≠ eU i) → f e = 0) : ∃ r : Nat → Nat, (∀ i, i < w.length → r i < E.length ∧ eg E (r i) = eU i) ∧ sZ E.length f = sZ w.length (fun i => f (r i)) := by
  classical
  have hex : ∀ i, ∃ e, i < w.length → e < E.length ∧ eg E e = eU i := fun i => by
    by_cases hi : i < w.length
    · obtain ⟨e, h1, h2⟩ := h.hasU i hi; exact ⟨e, fun _ => ⟨h1, h2⟩⟩
    · exact ⟨0, fun h => absurd h hi⟩
  let r : Nat → Nat := fun i => Classical.choose (hex i)
  have hr : ∀ i, i < w.length → r i < E.length ∧ eg E (r i) = eU i := fun i hi => Classical.choose_spec (hex i) hi
  refine ⟨r, hr, ?_⟩
  obtain ⟨q, hq1, hq2⟩ : ∃ q : Nat → Nat → Int, (∀ n e, (∃ i, i < n ∧ eg E e = eU i) → q n e = 0) ∧ (∀ n e, (¬ ∃ i, i < n ∧ eg E e = eU i) → q n e = f e) :=
    ⟨fun n e => if ∃ i, i < n ∧ eg E e = eU i then 0 else f e, fun n e h => if_pos h, fun n e h => if_neg h⟩
  have key : ∀ n, n ≤ w.length → sZ E.length f = sZ n (fun i => f (r i)) + sZ E.length (q n) := by
    intro n
    induction n with
    | zero =>
      intro _
      rw [sZ_congr (f := q 0) (g := f) _ fun e _ => hq2 0 e (by rintro ⟨i, hi, _⟩; omega)]
      simp [sZ]
    | succ n ih =>
      intro hn
      rw [ih (by omega)]
      obtain ⟨h1, h2⟩ := hr n (by omega)
      have := sZ_one (f := q (n + 1)) (g := q n) (e := r n) h1 (fun e he hne => by
        have hiff : (∃ i, i < n + 1 ∧ eg E e = eU i) ↔ ∃ i, i < n ∧ eg E e = eU i := by
          constructor
          · rintro ⟨i, hi, hu⟩
            by_cases e1 : i = n
            · subst e1; exact absurd (h.uniq e (r i) i he h1 hu h2) hne
            · exact ⟨i, by omega, hu⟩
          · rintro ⟨i, hi, hu⟩; exact ⟨i, by omega, hu⟩
        by_cases hx : ∃ i, i < n ∧ eg E e = eU i
        · rw [hq1 _ _ hx, hq1 _ _ (hiff.2 hx)]
        · rw [hq2 _ _ hx, hq2 _ _ fun h => hx (hiff.1 h)])
      rw [this]
      have e1 : (∃ i, i < n + 1 ∧ eg E (r n) = eU i) := ⟨n, by omega, h2⟩
      have e2 : ¬ ∃ i, i < n ∧ eg E (r n) = eU i := by
        rintro ⟨i, hi, hu⟩
        rw [h2] at hu
        have : 2 + 2 * n = 2 + 2 * i := congrArg Ed.u hu
        omega
      simp only [sZ]
      rw [hq1 _ _ e1, hq2 _ _ e2]
      omega
  have hk := key w.length (Nat.le_refl _)
  have hzero : sZ E.length (q w.length) = 0 := by
    rw [sZ_congr (g := fun _ => 0) _ fun e he => by
      by_cases hx : ∃ i, i < w.length ∧ eg E e = eU i
      · exact hq1 _ _ hx
      · rw [hq2 _ _ hx]; exact hz e he fun i hi hu => hx ⟨i, hi, hu⟩]
    have : ∀ n, sZ n (fun _ => 0) = 0 := by intro n; induction n with
      | zero => rfl
      | succ n ih => rw [sZ, ih]; rfl
    exact this _
  rw [hk, hzero]; omega
theorem gain_eq {w E R s gn by_ T} (h : NI w E R s) (hg : GD E R E.length (2 + 2 * w.length) gn by_ T) (hre : ∀ v, v < 2 + 2 * w.length → 0 ≤ getI gn (v : Int)) (hs : s ≤ 60) : Gs E R = (s : Int) * getI gn ((1 : Nat) : Int) + (flat0 w gn : Int) := by
  have hok : ∀ k, k < 2 * E.length → 0 < R k → getI gn (aS E k : Int) + aG E k ≤ getI gn (aD E k : Int) := fun k hk hr => hg.ok k hk hr (by have := hre _ (h.net.ends hk).1; unfold far; omega)
  have hfw : ∀ e, e < E.length → 0 < R (2 * e) → getI gn ((eg E e).u : Int) + (eg E e).g ≤ getI gn ((eg E e).v : Int) := fun e he hr => by
    have := hok (2 * e) (by omega) hr
    unfold aS aD aG at this
    rw [if_pos (by omega), if_pos (by omega), if_pos (by omega), show 2 * e / 2 = e by omega] at this
    exact this
  have hbw : ∀ e, e < E.length → 0 < R (2 * e + 1) → getI gn ((eg E e).v : Int) ≤ getI gn ((eg E e).u : Int) + (eg E e).g := fun e he hr => by
    have := hok (2 * e + 1) (by omega) hr
    unfold aS aD aG at this
    rw [if_neg (by omega), if_neg (by omega), if_neg (by omega), show (2 * e + 1) / 2 = e by omega] at this
    omega
  have hfl := h.fl fun v => getI gn (v : Int)
  rw [hg.g0] at hfl
  have e0 : Gs E R = Fl E R (fun v => getI gn (v : Int)) + sZ E.length (fun e => R (2 * e + 1) * ((eg E e).g - (getI gn ((eg E e).v : Int) - getI gn ((eg E e).u : Int)))) := by
    unfold Gs Fl
    rw [← sZ_add]
    exact sZ_congr _ fun e _ => by grind
  have hroom : ∀ e, e < E.length → (eg E e).c = big → 0 < R (2 * e) := fun e he hc => by
    have := h.rm e he
    have := h.cap e he
    rw [hc] at *
    unfold big at *
    omega
  obtain ⟨r, hr, hsum⟩ := sum_U h.net (fun e => R (2 * e + 1) * ((eg E e).g - (getI gn ((eg E e).v : Int) - getI gn ((eg E e).u : Int)))) (fun e he hno => by
    obtain ⟨i, hi, hf⟩ := h.net.form e he
    have hz : (eg E e).c = big → (eg E e).g = 0 → R (2 * e + 1) * ((eg E e).g - (getI gn ((eg E e).v : Int) - getI gn ((eg E e).u : Int))) = 0 := fun hc hg0 => by
      have h1 := hfw e he (hroom e he hc)
      have h2 := (h.rm e he).2.2
      rcases Int.lt_or_le 0 (R (2 * e + 1)) with h3 | h3
      · have h4 := hbw e he h3
        rw [show (eg E e).g - (getI gn ((eg E e).v : Int) - getI gn ((eg E e).u : Int)) = 0 by omega, Int.mul_zero]
      · rw [show R (2 * e + 1) = 0 by omega, Int.zero_mul]
    rcases hf with e1 | e1 | e1 | e1 | ⟨j, _, _, _, e1⟩
    · exact hz (by rw [e1]; rfl) (by rw [e1]; rfl)
    · exact absurd e1 (hno i hi)
    · exact hz (by rw [e1]; rfl) (by rw [e1]; rfl)
    · exact hz (by rw [e1]; rfl) (by rw [e1]; rfl)
    · exact hz (by rw [e1]; rfl) (by rw [e1]; rfl))
  have hflat : sZ w.length (fun i => R (2 * r i + 1) * ((eg E (r i)).g - (getI gn ((eg E (r i)).v : Int) - getI gn ((eg E (r i)).u : Int)))) = (flat0 w gn : Int) := by
    have term : ∀ i, i < w.length → R (2 * r i + 1) * ((eg E (r i)).g - (getI gn ((eg E (r i)).v : Int) - getI gn ((eg E (r i)).u : Int))) = ((if getI gn ((2 + 2 * i : Nat) : Int) < getI gn ((3 + 2 * i : Nat) : Int) then 0 else 1 : Nat) : Int) := fun i hi => by
      obtain ⟨h1, h2⟩ := hr i hi
      have h3 := h.rm (r i) h1
      have h4 := hfw (r i) h1
      have h5 := hbw (r i) h1
      rw [h2] at h3 h4 h5 ⊢
      have hu : ((eU i).u : Int) = ((2 + 2 * i : Nat) : Int) := rfl
      have hv : ((eU i).v : Int) = ((3 + 2 * i : Nat) : Int) := rfl
      rw [hu, hv] at h4 h5 ⊢
      have hc : (eU i).c = 1 := rfl
      have hg1 : (eU i).g = 1 := rfl
      rw [hc] at h3
      rw [hg1] at h4 h5 ⊢
      obtain ⟨e2, q1, q2⟩ := h.net.hasV i hi
      have q3 := hfw e2 q1 (hroom e2 q1 (by rw [q2]; rfl))
      rw [q2] at q3
      have q4 : getI gn ((2 + 2 * i : Nat) : Int) + 0 ≤ getI gn ((3 + 2 * i : Nat) : Int) := q3
      by_cases hd : getI gn ((2 + 2 * i : Nat) : Int) < getI gn ((3 + 2 * i : Nat) : Int)
      · rw [if_pos hd]
        rcases Int.lt_or_le 0 (R (2 * r i + 1)) with h6 | h6
        · have := h5 h6
          rw [show (1 : Int) - (getI gn ((3 + 2 * i : Nat) : Int) - getI gn ((2 + 2 * i : Nat) : Int)) = 0 by omega, Int.mul_zero]; rfl
        · rw [show R (2 * r i + 1) = 0 by omega, Int.zero_mul]; rfl
      · rw [if_neg hd]
        have h7 : ¬ 0 < R (2 * r i) := fun h8 => by have := h4 h8; omega
        rw [show R (2 * r i + 1) = 1 by omega, show (1 : Int) - (getI gn ((3 + 2 * i : Nat) : Int) - getI gn ((2 + 2 * i : Nat) : Int)) = 1 by omega]; rfl
    unfold flat0
    have : ∀ n, n ≤ w.length → sZ n (fun i => R (2 * r i + 1) * ((eg E (r i)).g - (getI gn ((eg E (r i)).v : Int) - getI gn ((eg E (r i)).u : Int)))) = ((sN n (fun i => if getI gn ((2 + 2 * i : Nat) : Int) < getI gn ((3 + 2 * i : Nat) : Int) then 0 else 1) : Nat) : Int) := by
      intro n
      induction n with
      | zero => intro _; rfl
      | succ n ih => intro hn; rw [sZ, sN, ih (by omega), term n (by omega)]; omega
    exact this _ (Nat.le_refl _)
  rw [e0, hsum, hflat, hfl, Int.sub_zero]
def tak (R : Nat → Int) (e : Nat) : Nat → Int := fun j => if j = 2 * e + 1 then R j - 1 else R j
def pos (v : Nat) (n : Nat) : Nat := if v = 0 then 0 else if v = 1 then 2 * n + 1 else v - 1
theorem pos_in (i n) : pos (2 + 2 * i) n = 1 + 2 * i := by unfold pos; rw [if_neg (by omega), if_neg (by omega)]; omega
theorem pos_out (i n) : pos (3 + 2 * i) n = 2 + 2 * i := by unfold pos; rw [if_neg (by omega), if_neg (by omega)]; omega
theorem Net.pos_lt {w E} (h : Net w E) {e} (he : e < E.length) : pos (eg E e).u w.length < pos (eg E e).v w.length := by
  obtain ⟨i, hi, hf⟩ := h.form e he
  rcases hf with e1 | e1 | e1 | e1 | ⟨k, k1, k2, k3, e1⟩ <;> rw [e1]
  · show pos 0 _ < pos (2 + 2 * i) _
    rw [pos_in]; unfold pos; rw [if_pos rfl]; omega
  · show pos (2 + 2 * i) _ < pos (3 + 2 * i) _
    rw [pos_in, pos_out]; omega
  · show pos (2 + 2 * i) _ < pos (3 + 2 * i) _
    rw [pos_in, pos_out]; omega
  · show pos (3 + 2 * i) _ < pos 1 _
    rw [pos_out]; unfold pos; rw [if_neg (by omega), if_pos rfl]; omega
  · show pos (3 + 2 * i) _ < pos (2 + 2 * k) _
    rw [pos_in, pos_out]; omega
structure FI (w : List Int) (E : List Ed) (R0 : Nat → Int) (s : Nat) (v : Nat) (ch : List Int) (R : Nat → Int) : Prop where
  nn : ∀ e, e < E.length → 0 ≤ R (2 * e + 1)
  le : ∀ e, e < E.length → R (2 * e + 1) ≤ R0 (2 * e + 1)
  fl : ∀ π : Nat → Int, Fl E R π = (s : Int) * (π 1 - π 0) + (π 1 - π v)
  chk : ChP w true ch ch.length
  at_ : (v = 0 ∧ ch = []) ∨ (∃ i, i < w.length ∧ v = 2 + 2 * i ∧ ∀ j ∈ ch, j < (i : Int) ∧ getI w j ≤ getI w (i : Int)) ∨ (∃ i, i < w.length ∧ v = 3 + 2 * i ∧ ∀ j ∈ ch, j ≤ (i : Int) ∧ getI w j ≤ getI w (i : Int)) ∨ v = 1
  gs : Gs E R + ch.length = Gs E R0
  us : ∀ e i, e < E.length → eg E e = eU i → (i : Int) ∈ ch → R (2 * e + 1) = 0 ∧ 0 < R0 (2 * e + 1)
theorem FI.start {w E R s} (h1 : ∀ e, e < E.length → 0 ≤ R (2 * e + 1)) (h2 : ∀ π : Nat → Int, Fl E R π = ((s + 1 : Nat) : Int) * (π 1 - π 0)) : FI w E R s 0 [] R :=
  ⟨h1, fun _ _ => Int.le_refl _, fun π => by rw [h2, Int.natCast_add, Int.add_mul]; simp, fun i hi => by simp at hi, .inl ⟨rfl, rfl⟩, by simp, fun e i _ _ h => by simp at h⟩
theorem Fl_tak {E R e} (he : e < E.length) (π : Nat → Int) : Fl E (tak R e) π = Fl E R π - (π (eg E e).v - π (eg E e).u) := by
  unfold Fl
  have h := sZ_one (f := fun i => tak R e (2 * i + 1) * (π (eg E i).v - π (eg E i).u)) (g := fun i => R (2 * i + 1) * (π (eg E i).v - π (eg E i).u)) (e := e) (n := E.length) he (fun i hi hne => by
    have : tak R e (2 * i + 1) = R (2 * i + 1) := by unfold tak; rw [if_neg (by omega)]
    rw [this])
  rw [h]
  have : tak R e (2 * e + 1) = R (2 * e + 1) - 1 := by unfold tak; rw [if_pos rfl]
  rw [this]
  grind
theorem Gs_tak {E R e} (he : e < E.length) : Gs E (tak R e) = Gs E R - (eg E e).g := by
  unfold Gs
  have h := sZ_one (f := fun i => tak R e (2 * i + 1) * (eg E i).g) (g := fun i => R (2 * i + 1) * (eg E i).g) (e := e) (n := E.length) he (fun i hi hne => by
    have : tak R e (2 * i + 1) = R (2 * i + 1) := by unfold tak; rw [if_neg (by omega)]
    rw [this])
  rw [h]
  have : tak R e (2 * e + 1) = R (2 * e + 1) - 1 := by unfold tak; rw [if_pos rfl]
  rw [this]
  grind
theorem FI.out {w E R0 s v ch R} (h : FI w E R0 s v ch R) (hv : v ≠ 1) : ∃ e, e < E.length ∧ (eg E e).u = v ∧ 0 < R (2 * e + 1) := by
  refine Classical.byContradiction fun hno => ?_
  have hz : ∀ e, e < E.length → (eg E e).u = v → R (2 * e + 1) = 0 := fun e he hu => by
    have := h.nn e he
    rcases Int.lt_or_le 0 (R (2 * e + 1)) with h1 | h1
    · exact absurd ⟨e, he, hu, h1⟩ hno
    · omega
  have h1 := h.fl fun x => if x = v then 1 else 0
  have h2 : 0 ≤ Fl E R fun x => if x = v then 1 else 0 := by
    unfold Fl
    refine sZ_nonneg fun e he => ?_
    by_cases hu : (eg E e).u = v
    · rw [hz e he hu, Int.zero_mul]; exact Int.le_refl _
    · refine Int.mul_nonneg (h.nn e he) ?_
      show 0 ≤ (if (eg E e).v = v then (1 : Int) else 0) - (if (eg E e).u = v then (1 : Int) else 0)
      rw [if_neg hu]
      split <;> omega
  rw [h1] at h2
  simp only [if_true] at h2
  rw [if_neg (show (1 : Nat) ≠ v from fun e => hv e.symm)] at h2
  by_cases h0 : (0 : Nat) = v
  · rw [if_pos h0] at h2
    have : (s : Int) * (0 - 1) = -(s : Int) := by omega
    omega
  · rw [if_neg h0] at h2
    have : (s : Int) * (0 - 0) = 0 := by simp
    omega
theorem chp_snoc {w : List Int} {ch : List Int} {i : Nat} (h : ChP w true ch ch.length) (hi : i < w.length) (hl : ∀ j ∈ ch, j < (i : Int) ∧ getI w j ≤ getI w (i : Int)) : ChP w true (ch ++ [(i : Int)]) (ch ++ [(i : Int)]).length := by
  have e : ∀ q : Nat, q < ch.length → getI (ch ++ [(i : Int)]) (q : Int) = getI ch (q : Int) := fun q hq => by rw [getI_nat, getI_nat]; simp [List.getD, List.getElem?_append_left hq]
  have el : getI (ch ++ [(i : Int)]) (ch.length : Int) = (i : Int) := by rw [getI_nat]; simp [List.getD]
  have hprev : ∀ q : Nat, 0 < q → ((q : Int) - 1) = ((q - 1 : Nat) : Int) := fun q hq => by omega
  rw [List.length_append, List.length_singleton]
  intro q hq
  rcases Nat.lt_or_ge q ch.length with h1 | h1
  · obtain ⟨a, b, c⟩ := h q h1
    rw [e q h1]
    refine ⟨a, b, fun h0 => ?_⟩
    have := c h0
    rw [hprev q h0] at this ⊢
    rw [e _ (by omega)]
    exact this
  · obtain rfl : q = ch.length := by omega
    rw [el]
    refine ⟨by omega, by omega, fun h0 => ?_⟩
    rw [hprev _ h0, e _ (by omega)]
    have hm : getI ch ((ch.length - 1 : Nat) : Int) ∈ ch := by
      rw [getI_nat]
      have : ch.length - 1 < ch.length := by omega
      simp only [List.getD, List.getElem?_eq_getElem this, Option.getD_some]
      exact List.getElem_mem this
    have := hl _ hm
    exact ⟨this.1, by simp [nxt, this.2]⟩
theorem FI.step {w E R0 s v ch R} (hn : Net w E) (h : FI w E R0 s v ch R) (hc1 : ∀ e i, e < E.length → eg E e = eU i → R0 (2 * e + 1) ≤ 1) {e : Nat} (he : e < E.length) (hu : (eg E e).u = v) (hr : 0 < R (2 * e + 1)) :
    FI w E R0 s (eg E e).v (if (eg E e).g = 1 then ch ++ [(((v - 2) / 2 : Nat) : Int)] else ch) (tak R e) ∧ pos v w.length < pos (eg E e).v w.length ∧ ((eg E e).g = 1 → 2 ≤ v) := by
  have hnn : ∀ e', e' < E.length → 0 ≤ tak R e (2 * e' + 1) := fun e' he' => by
    have := h.nn e' he'
    unfold tak
    split
    · rename_i q; rw [show e' = e by omega]; omega
    · exact this
  have hle : ∀ e', e' < E.length → tak R e (2 * e' + 1) ≤ R0 (2 * e' + 1) := fun e' he' => by
    have := h.le e' he'
    unfold tak
    split <;> omega
  have hfl : ∀ π : Nat → Int, Fl E (tak R e) π = (s : Int) * (π 1 - π 0) + (π 1 - π (eg E e).v) := fun π => by
    rw [Fl_tak he, h.fl, hu]; omega
  have hus : ∀ e' i, e' < E.length → eg E e' = eU i → (i : Int) ∈ ch → tak R e (2 * e' + 1) = 0 ∧ 0 < R0 (2 * e' + 1) := fun e' i he' h1 h2 => by
    have := h.us e' i he' h1 h2
    unfold tak
    split
    · rename_i q
      have : e' = e := by omega
      subst this
      omega
    · exact this
  obtain ⟨i, hi, hf⟩ := hn.form e he
  have hat : ∀ {v' : Nat}, v' = v → ((v' = 0 ∧ ch = []) ∨ (∃ i, i < w.length ∧ v' = 2 + 2 * i ∧ ∀ j ∈ ch, j < (i : Int) ∧ getI w j ≤ getI w (i : Int)) ∨ (∃ i, i < w.length ∧ v' = 3 + 2 * i ∧ ∀ j ∈ ch, j ≤ (i : Int) ∧ getI w j ≤ getI w (i : Int)) ∨ v' = 1) := fun e => by rw [e]; exact h.at_
  rcases hf with e1 | e1 | e1 | e1 | ⟨k, k1, k2, k3, e1⟩
  · have hv : v = 0 := by rw [← hu, e1]; rfl
    have hch : ch = [] := by
      rcases h.at_ with h1 | ⟨i', _, h1, _⟩ | ⟨i', _, h1, _⟩ | h1
      · exact h1.2
      · omega
      · omega
      · omega
    have hg : (eg E e).g = 0 := by rw [e1]; rfl
    have hv' : (eg E e).v = 2 + 2 * i := by rw [e1]; rfl
    rw [hg, if_neg (by omega), hv']
    refine ⟨⟨hnn, hle, by rw [← hv']; exact hfl, h.chk, .inr (.inl ⟨i, hi, rfl, by rw [hch]; simp⟩), by rw [Gs_tak he, hg]; have := h.gs; omega, hus⟩, ?_, fun h => by omega⟩
    unfold pos; rw [if_pos hv, if_neg (by omega), if_neg (by omega)]; omega
  · have hv : v = 2 + 2 * i := by rw [← hu, e1]; rfl
    have hjs : ∀ j ∈ ch, j < (i : Int) ∧ getI w j ≤ getI w (i : Int) := by
      rcases h.at_ with h1 | ⟨i', _, h1, h2⟩ | ⟨i', _, h1, _⟩ | h1
      · omega
      · rw [show i = i' by omega]; exact h2
      · omega
      · omega
    have hg : (eg E e).g = 1 := by rw [e1]; rfl
    have hv' : (eg E e).v = 3 + 2 * i := by rw [e1]; rfl
    have hvi : (v - 2) / 2 = i := by omega
    have hcap := hc1 e i he e1
    have hle0 := h.le e he
    rw [hg, if_pos rfl, hvi, hv']
    refine ⟨⟨hnn, hle, by rw [← hv']; exact hfl, chp_snoc h.chk hi hjs, .inr (.inr (.inl ⟨i, hi, rfl, fun j hj => ?_⟩)), ?_, fun e' i' he' h1 h2 => ?_⟩, ?_, fun _ => by omega⟩
    · rcases List.mem_append.1 hj with hj | hj
      · have := hjs j hj; exact ⟨by omega, this.2⟩
      · simp at hj; subst hj; exact ⟨Int.le_refl _, Int.le_refl _⟩
    · rw [Gs_tak he, hg, List.length_append, List.length_singleton]
      have := h.gs
      omega
    · rcases List.mem_append.1 h2 with h2 | h2
      · exact hus e' i' he' h1 h2
      · simp at h2
        have : i' = i := by omega
        subst this
        have := hn.uniq e' e i' he' he h1 e1
        subst this
        unfold tak
        rw [if_pos rfl]
        omega
    · unfold pos
      rw [if_neg (by omega), if_neg (by omega), if_neg (by omega), if_neg (by omega)]; omega
  · have hv : v = 2 + 2 * i := by rw [← hu, e1]; rfl
    have hjs : ∀ j ∈ ch, j < (i : Int) ∧ getI w j ≤ getI w (i : Int) := by
      rcases h.at_ with h1 | ⟨i', _, h1, h2⟩ | ⟨i', _, h1, _⟩ | h1
      · omega
      · rw [show i = i' by omega]; exact h2
      · omega
      · omega
    have hg : (eg E e).g = 0 := by rw [e1]; rfl
    have hv' : (eg E e).v = 3 + 2 * i := by rw [e1]; rfl
    rw [hg, if_neg (by omega), hv']
    refine ⟨⟨hnn, hle, by rw [← hv']; exact hfl, h.chk, .inr (.inr (.inl ⟨i, hi, rfl, fun j hj => by have := hjs j hj; exact ⟨by omega, this.2⟩⟩)), by rw [Gs_tak he, hg]; have := h.gs; omega, hus⟩, ?_, fun h => by omega⟩
    unfold pos
    rw [if_neg (by omega), if_neg (by omega), if_neg (by omega), if_neg (by omega)]; omega
  · have hv : v = 3 + 2 * i := by rw [← hu, e1]; rfl
    have hg : (eg E e).g = 0 := by rw [e1]; rfl
    have hv' : (eg E e).v = 1 := by rw [e1]; rfl
    rw [hg, if_neg (by omega), hv']
    refine ⟨⟨hnn, hle, fun π => by have := hfl π; rw [hv'] at this; exact this, h.chk, .inr (.inr (.inr rfl)), by rw [Gs_tak he, hg]; have := h.gs; omega, hus⟩, ?_, fun h => by omega⟩
    unfold pos
    rw [if_neg (by omega), if_neg (by omega), if_neg (by omega), if_pos rfl]; omega
  · have hv : v = 3 + 2 * i := by rw [← hu, e1]; rfl
    have hjs : ∀ j ∈ ch, j ≤ (i : Int) ∧ getI w j ≤ getI w (i : Int) := by
      rcases h.at_ with h1 | ⟨i', _, h1, h2⟩ | ⟨i', _, h1, h2⟩ | h1
      · omega
      · omega
      · rw [show i = i' by omega]; exact h2
      · omega
    have hg : (eg E e).g = 0 := by rw [e1]; rfl
    have hv' : (eg E e).v = 2 + 2 * k := by rw [e1]; rfl
    rw [hg, if_neg (by omega), hv']
    refine ⟨⟨hnn, hle, by rw [← hv']; exact hfl, h.chk, .inr (.inl ⟨k, k2, rfl, fun j hj => by have := hjs j hj; exact ⟨by omega, by omega⟩⟩), by rw [Gs_tak he, hg]; have := h.gs; omega, hus⟩, ?_, fun h => by omega⟩
    unfold pos
    rw [if_neg (by omega), if_neg (by omega), if_neg (by omega), if_neg (by omega)]; omega
structure FA (w : List Int) (E : List Ed) (Ri : Nat → Int) (s t : Nat) (U : List (List Int)) (R : Nat → Int) : Prop where
  nn : ∀ e, e < E.length → 0 ≤ R (2 * e + 1)
  le : ∀ e, e < E.length → R (2 * e + 1) ≤ Ri (2 * e + 1)
  fl : ∀ π : Nat → Int, Fl E R π = ((s - t : Nat) : Int) * (π 1 - π 0)
  chk : Chs w true U
  ln : U.length ≤ t
  gs : Gs E R + U.flatten.length = Gs E Ri
  us : ∀ e i, e < E.length → eg E e = eU i → (i : Int) ∈ U.flatten → R (2 * e + 1) = 0
theorem chp_nodup {w ch} (h : ChP w true ch ch.length) : ch.Nodup := by
  rw [List.nodup_iff_pairwise_ne, List.pairwise_iff_getElem]
  have hs : ∀ d i : Nat, i + (d + 1) < ch.length → getI ch (i : Int) < getI ch ((i + (d + 1) : Nat) : Int) := by
    intro d
    induction d with
    | zero =>
      intro i hi
      have := ((h (i + 1) hi).2.2 (by omega)).1
      rw [show (((i + 1 : Nat) : Int) - 1) = (i : Int) by omega] at this
      exact this
    | succ d ih =>
      intro i hi
      have h1 := ih i (by omega)
      have h2 := ((h (i + (d + 1 + 1)) hi).2.2 (by omega)).1
      rw [show (((i + (d + 1 + 1) : Nat) : Int) - 1) = ((i + (d + 1) : Nat) : Int) by omega] at h2
      omega
  intro i j hi hj hij e
  have := hs (j - i - 1) i (by omega)
  rw [show i + (j - i - 1 + 1) = j by omega, getI_nat, getI_nat] at this
  simp [List.getD, hi, hj, e] at this
theorem FA.add {w E Ri s t U R ch R'} (hn : Net w E) (h : FA w E Ri s t U R) (ht : t < s) (hf : FI w E R (s - t - 1) 1 ch R') : FA w E Ri s (t + 1) (if ch = [] then U else U ++ [ch]) R' := by
  have hnn : ∀ e, e < E.length → R' (2 * e + 1) ≤ Ri (2 * e + 1) := fun e he => Int.le_trans (hf.le e he) (h.le e he)
  have hfl : ∀ π : Nat → Int, Fl E R' π = ((s - (t + 1) : Nat) : Int) * (π 1 - π 0) := fun π => by
    rw [hf.fl, show s - t - 1 = s - (t + 1) by omega]; omega
  have husR : ∀ e i, e < E.length → eg E e = eU i → (i : Int) ∈ U.flatten → R' (2 * e + 1) = 0 := fun e i he h1 h2 => by
    have := h.us e i he h1 h2
    have := hf.le e he
    have := hf.nn e he
    omega
  have hgs := hf.gs
  have hgs2 := h.gs
  by_cases hc : ch = []
  · subst hc
    rw [if_pos rfl]
    exact ⟨hf.nn, hnn, hfl, h.chk, by have := h.ln; omega, by simp at hgs; omega, husR⟩
  · rw [if_neg hc]
    have hfl2 : (U ++ [ch]).flatten = U.flatten ++ ch := by simp
    refine ⟨hf.nn, hnn, hfl, ⟨fun c hcm => ?_, ?_⟩, by have := h.ln; simp; omega, by rw [hfl2, List.length_append, Int.natCast_add]; omega, fun e i he h1 h2 => ?_⟩
    · rcases List.mem_append.1 hcm with hcm | hcm
      · exact h.chk.1 c hcm
      · simp at hcm; subst hcm; exact ⟨fun e => hc (List.length_eq_zero_iff.1 e), hf.chk⟩
    · rw [hfl2, List.nodup_append]
      refine ⟨h.chk.2, chp_nodup hf.chk, fun a ha b hb e => ?_⟩
      subst e
      obtain ⟨q, hq, rfl⟩ := List.mem_iff_getElem.1 hb
      have hr := hf.chk q hq
      rw [getI_nat] at hr
      simp only [List.getD, List.getElem?_eq_getElem hq, Option.getD_some] at hr
      obtain ⟨e, he, e1⟩ := hn.hasU ch[q].toNat (by omega)
      have hcast : ((ch[q].toNat : Nat) : Int) = ch[q] := by omega
      have h1 := h.us e _ he e1 (by rw [hcast]; exact ha)
      have h2 := (hf.us e _ he e1 (by rw [hcast]; exact hb)).2
      omega
    · rw [hfl2] at h2
      rcases List.mem_append.1 h2 with h2 | h2
      · exact husR e i he h1 h2
      · exact (hf.us e i he h1 h2).1
theorem FA.all {w E Ri s U R} (hn : Net w E) (h : FA w E Ri s s U R) : (U.flatten.length : Int) = Gs E Ri := by
  have h1 := h.fl fun v => (pos v w.length : Int)
  rw [Nat.sub_self] at h1
  have h2 : Fl E R (fun v => (pos v w.length : Int)) = 0 := by rw [h1]; simp
  have hz := sZ_zero (n := E.length) (f := fun e => R (2 * e + 1) * ((pos (eg E e).v w.length : Int) - (pos (eg E e).u w.length : Int))) (fun e he => by
    have hp := hn.pos_lt he
    exact Int.mul_nonneg (h.nn e he) (by omega)) h2
  have hg : Gs E R = 0 := by
    unfold Gs
    rw [sZ_congr (g := fun _ => 0) _ fun e he => ?_]
    · have : ∀ n, sZ n (fun _ => 0) = 0 := by intro n; induction n with
        | zero => rfl
        | succ n ih => rw [sZ, ih]; rfl
      exact this _
    · have := hz e he
      have hp := hn.pos_lt he
      rcases Int.mul_eq_zero.1 this with h3 | h3
      · rw [h3, Int.zero_mul]
      · omega
  have := h.gs
  omega
set_option maxHeartbeats 4000000
theorem take_snoc {P : List (List Int)} {i : Nat} (h : i < P.length) : P.take (i + 1) = P.take i ++ [getLL P (i : Int)] := by
  rw [List.take_succ_eq_append_getElem h, getLL_get h]
end Go.AM.Tb
