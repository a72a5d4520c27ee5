/- A part of the proof: T38. -/
import Derived.Test.YtdgkchedoooffaaT4
import Derived.Test.YtdgkchedoooffaaT21
import Derived.Test.YtdgkchedoooffaaT9
import Derived.Test.YtdgkchedoooffaaTC4
set_option linter.unusedVariables false
set_option linter.unusedSimpArgs false
set_option linter.unusedSectionVars false
namespace Go.AM.Tb
set_option maxHeartbeats 4000000
def nxt (up : Bool) (a b : Int) : Bool := if up then decide (a ≤ b) else decide (b < a)
def IsCh (w : List Int) (up : Bool) (c : List Int) : Prop := c.length ≠ 0 ∧ ∀ i : Nat, i < c.length → 0 ≤ getI c (i : Int) ∧ getI c (i : Int) < w.length ∧ (0 < i → getI c ((i : Int) - 1) < getI c (i : Int) ∧ nxt up (getI w (getI c ((i : Int) - 1))) (getI w (getI c (i : Int))) = true)
instance (w up c) : Decidable (IsCh w up c) := by unfold IsCh; exact inferInstance
def ChP (w : List Int) (up : Bool) (c : List Int) (n : Nat) : Prop := ∀ i : Nat, i < n → 0 ≤ getI c (i : Int) ∧ getI c (i : Int) < w.length ∧ (0 < i → getI c ((i : Int) - 1) < getI c (i : Int) ∧ nxt up (getI w (getI c ((i : Int) - 1))) (getI w (getI c (i : Int))) = true)
theorem ChP.succ {w up c n} (h : ChP w up c n) (h1 : 0 ≤ getI c (n : Int)) (h2 : getI c (n : Int) < w.length) (h3 : 0 < n → getI c ((n : Int) - 1) < getI c (n : Int) ∧ nxt up (getI w (getI c ((n : Int) - 1))) (getI w (getI c (n : Int))) = true) : ChP w up c (n + 1) := fun i hi => by
  rcases (by omega : i < n ∨ i = n) with h' | rfl
  · exact h i h'
  · exact ⟨h1, h2, h3⟩
theorem f85 {x y : AV} {w c : List Int} {up : Bool} (hx : IsL x w) (hy : IsL y c) (hc : c.length ≤ 1000) (hwl : w.length ≤ 1000) {m : Nat} (hm : 1010 ≤ m) : evF tab it m 85 [x, y, .bool up] [] = some (.bool (decide (IsCh w up c)), []) := by
  obtain ⟨m, rfl⟩ : ∃ j, m = j + 1 := ⟨m - 1, by omega⟩
  have fx := hx.free
  have fy := hy.free
  generalize hR : some (AV.bool (decide (IsCh w up c)), []) = res
  have hT : IsCh w up c → ∀ {env s}, look env s = .bool true → finish 0 [.t s] env [] = res := fun h env s h1 => by rw [← hR]; exact fin_t h1 rfl (leafT h)
  have hF : ¬ IsCh w up c → ∀ {env s}, look env s = .bool false → finish 0 [.t s] env [] = res := fun h env s h1 => by rw [← hR]; exact fin_t h1 rfl (leafF h)
  refine f_enter rfl rfl ?_
  repeat' first
 | (apply s_mov; exact aW)
 | (apply c_nil)
 | (apply c_seq)
 | (apply c_reg)
 | (apply c_block)
 | (with_reducible apply k_c)
  refine c_loop ?_
  refine loop_gc (σ := Nat) (fun i => [x, y, .bool up, .int .i64 i]) (fun _ => []) (fun i => i ≤ c.length ∧ ChP w up c i) (fun i => c.length - i) ?_ _ 0 _ _ ⟨by omega, fun i hi => by omega⟩ (by omega) (gc_to rfl (by simp [idFreeL, AV.idFree, *]; done))
  intro i ⟨hi, hb⟩ K hK
  have hprev : ∀ h : 0 < i, 0 ≤ getI c ((i : Int) - 1) ∧ getI c ((i : Int) - 1) < w.length := fun h => by
    have := hb (i - 1) (by omega)
    rw [pred_i h] at this
    exact ⟨this.1, this.2.1⟩
  by_cases hic : i < c.length
  · by_cases h1 : 0 ≤ getI c (i : Int) ∧ getI c (i : Int) < w.length
    · by_cases h0 : 0 < i
      · obtain ⟨p1, p2⟩ := hprev h0
        by_cases h2 : getI c ((i : Int) - 1) < getI c (i : Int)
        · by_cases h3 : nxt up (getI w (getI c ((i : Int) - 1))) (getI w (getI c (i : Int))) = true
          · have hn : ChP w up c (i + 1) := hb.succ h1.1 h1.2 fun _ => ⟨h2, h3⟩
            cases up with
            | true =>
              have h3 : getI w (getI c ((i : Int) - 1)) ≤ getI w (getI c (i : Int)) := by simpa [nxt] using h3
              repeat' first
 | (apply s_mov; exact aW)
 | (apply s_gT; exact rfl)
 | (apply s_gF; exact rfl)
 | (apply c_nil)
 | (apply s_pickT; exact rfl; exact aW)
 | (apply s_pickF; exact rfl; exact aW)
 | (apply s_notT; exact rfl)
 | (apply s_lss; exact rfl; all_goals (intro _; try (exfalso; omega)))
 | (apply s_gtr; exact rfl; all_goals (intro _; try (exfalso; omega)))
 | (apply s_geq; exact rfl; all_goals (intro _; try (exfalso; omega)))
 | (apply s_add; exact rfl; omega)
 | (apply s_sub; exact rfl; omega)
 | (apply s_len; exact aW; exact aI)
 | (apply s_idx; exact aW; exact rfl; exact aI; omega)
 | (apply s_ldI; exact rfl; omega)
 | (apply c_seq)
 | (apply c_reg)
 | (apply c_block)
 | (apply c_skip)
 | (apply c_condT; exact rfl)
 | (apply c_condF; exact rfl)
 | (with_reducible apply k_c)
              all_goals first
                | (exfalso; omega)
                | exact hK (i + 1) _ _ ⟨by omega, hn⟩ (by omega) (gc_to rfl (by simp [idFreeL, AV.idFree, *]; done))
            | false =>
              have h3 : getI w (getI c (i : Int)) < getI w (getI c ((i : Int) - 1)) := by simpa [nxt] using h3
              repeat' first
 | (apply s_mov; exact aW)
 | (apply s_gT; exact rfl)
 | (apply s_gF; exact rfl)
 | (apply c_nil)
 | (apply s_pickT; exact rfl; exact aW)
 | (apply s_pickF; exact rfl; exact aW)
 | (apply s_notF; exact rfl)
 | (apply s_lss; exact rfl; all_goals (intro _; try (exfalso; omega)))
 | (apply s_gtr; exact rfl; all_goals (intro _; try (exfalso; omega)))
 | (apply s_geq; exact rfl; all_goals (intro _; try (exfalso; omega)))
 | (apply s_add; exact rfl; omega)
 | (apply s_sub; exact rfl; omega)
 | (apply s_len; exact aW; exact aI)
 | (apply s_idx; exact aW; exact rfl; exact aI; omega)
 | (apply s_ldI; exact rfl; omega)
 | (apply c_seq)
 | (apply c_reg)
 | (apply c_block)
 | (apply c_skip)
 | (apply c_condT; exact rfl)
 | (apply c_condF; exact rfl)
 | (with_reducible apply k_c)
              all_goals first
                | (exfalso; omega)
                | exact hK (i + 1) _ _ ⟨by omega, hn⟩ (by omega) (gc_to rfl (by simp [idFreeL, AV.idFree, *]; done))
          · have hn : ¬ IsCh w up c := fun h => h3 (((h.2 i hic).2.2 h0).2)
            cases up with
            | true =>
              have h3 : ¬ getI w (getI c ((i : Int) - 1)) ≤ getI w (getI c (i : Int)) := by simpa [nxt] using h3
              repeat' first
 | (apply s_mov; exact aW)
 | (apply s_gT; exact rfl)
 | (apply s_gF; exact rfl)
 | (apply c_nil)
 | (apply s_pickT; exact rfl; exact aW)
 | (apply s_pickF; exact rfl; exact aW)
 | (apply s_lss; exact rfl; all_goals (intro _; try (exfalso; omega)))
 | (apply s_gtr; exact rfl; all_goals (intro _; try (exfalso; omega)))
 | (apply s_geq; exact rfl; all_goals (intro _; try (exfalso; omega)))
 | (apply s_sub; exact rfl; omega)
 | (apply s_len; exact aW; exact aI)
 | (apply s_idx; exact aW; exact rfl; exact aI; omega)
 | (apply s_ldI; exact rfl; omega)
 | (apply c_seq)
 | (apply c_reg)
 | (apply c_block)
 | (apply c_skip)
 | (apply c_ret)
 | (apply c_condT; exact rfl)
 | (apply c_condF; exact rfl)
 | (with_reducible apply k_c)
              all_goals first
                | (exfalso; omega)
                | exact hF hn rfl
            | false =>
              have h3 : ¬ getI w (getI c (i : Int)) < getI w (getI c ((i : Int) - 1)) := by simpa [nxt] using h3
              repeat' first
 | (apply s_mov; exact aW)
 | (apply s_gT; exact rfl)
 | (apply s_gF; exact rfl)
 | (apply c_nil)
 | (apply s_pickT; exact rfl; exact aW)
 | (apply s_pickF; exact rfl; exact aW)
 | (apply s_notF; exact rfl)
 | (apply s_lss; exact rfl; all_goals (intro _; try (exfalso; omega)))
 | (apply s_gtr; exact rfl; all_goals (intro _; try (exfalso; omega)))
 | (apply s_geq; exact rfl; all_goals (intro _; try (exfalso; omega)))
 | (apply s_sub; exact rfl; omega)
 | (apply s_len; exact aW; exact aI)
 | (apply s_idx; exact aW; exact rfl; exact aI; omega)
 | (apply s_ldI; exact rfl; omega)
 | (apply c_seq)
 | (apply c_reg)
 | (apply c_block)
 | (apply c_skip)
 | (apply c_ret)
 | (apply c_condT; exact rfl)
 | (apply c_condF; exact rfl)
 | (with_reducible apply k_c)
              all_goals first
                | (exfalso; omega)
                | exact hF hn rfl
        · have hn : ¬ IsCh w up c := fun h => h2 (((h.2 i hic).2.2 h0).1)
          repeat' first
 | (apply s_mov; exact aW)
 | (apply s_gT; exact rfl)
 | (apply c_nil)
 | (apply s_pickT; exact rfl; exact aW)
 | (apply s_pickF; exact rfl; exact aW)
 | (apply s_lss; exact rfl; all_goals (intro _; try (exfalso; omega)))
 | (apply s_gtr; exact rfl; all_goals (intro _; try (exfalso; omega)))
 | (apply s_geq; exact rfl; all_goals (intro _; try (exfalso; omega)))
 | (apply s_sub; exact rfl; omega)
 | (apply s_len; exact aW; exact aI)
 | (apply s_idx; exact aW; exact rfl; exact aI; omega)
 | (apply s_ldI; exact rfl; omega)
 | (apply c_seq)
 | (apply c_reg)
 | (apply c_block)
 | (apply c_skip)
 | (apply c_ret)
 | (apply c_condT; exact rfl)
 | (with_reducible apply k_c)
          all_goals first
            | (exfalso; omega)
            | exact hF hn rfl
      · have hn : ChP w up c (i + 1) := hb.succ h1.1 h1.2 fun h => absurd h h0
        obtain ⟨h1a, h1b⟩ := h1
        cases up with
        | true =>
          repeat' first
 | (apply s_mov; exact aW)
 | (apply s_gT; exact rfl)
 | (apply s_gF; exact rfl)
 | (apply c_nil)
 | (apply s_pickF; exact rfl; exact aW)
 | (apply s_lss; exact rfl; all_goals (intro _; try (exfalso; omega)))
 | (apply s_gtr; exact rfl; all_goals (intro _; try (exfalso; omega)))
 | (apply s_geq; exact rfl; all_goals (intro _; try (exfalso; omega)))
 | (apply s_add; exact rfl; omega)
 | (apply s_len; exact aW; exact aI)
 | (apply s_idx; exact aW; exact rfl; exact aI; omega)
 | (apply s_ldI; exact rfl; omega)
 | (apply c_seq)
 | (apply c_reg)
 | (apply c_block)
 | (apply c_skip)
 | (apply c_condT; exact rfl)
 | (apply c_condF; exact rfl)
 | (with_reducible apply k_c)
          all_goals first
            | (exfalso; omega)
            | exact hK (i + 1) _ _ ⟨by omega, hn⟩ (by omega) (gc_to rfl (by simp [idFreeL, AV.idFree, *]; done))
        | false =>
          repeat' first
 | (apply s_mov; exact aW)
 | (apply s_gT; exact rfl)
 | (apply s_gF; exact rfl)
 | (apply c_nil)
 | (apply s_pickF; exact rfl; exact aW)
 | (apply s_lss; exact rfl; all_goals (intro _; try (exfalso; omega)))
 | (apply s_gtr; exact rfl; all_goals (intro _; try (exfalso; omega)))
 | (apply s_geq; exact rfl; all_goals (intro _; try (exfalso; omega)))
 | (apply s_add; exact rfl; omega)
 | (apply s_len; exact aW; exact aI)
 | (apply s_idx; exact aW; exact rfl; exact aI; omega)
 | (apply s_ldI; exact rfl; omega)
 | (apply c_seq)
 | (apply c_reg)
 | (apply c_block)
 | (apply c_skip)
 | (apply c_condT; exact rfl)
 | (apply c_condF; exact rfl)
 | (with_reducible apply k_c)
          all_goals first
            | (exfalso; omega)
            | exact hK (i + 1) _ _ ⟨by omega, hn⟩ (by omega) (gc_to rfl (by simp [idFreeL, AV.idFree, *]; done))
    · have hn : ¬ IsCh w up c := fun h => h1 ⟨(h.2 i hic).1, (h.2 i hic).2.1⟩
      repeat' first
 | (apply s_mov; exact aW)
 | (apply s_gT; exact rfl)
 | (apply s_gF; exact rfl)
 | (apply c_nil)
 | (apply s_pickT; exact rfl; exact aW)
 | (apply s_pickF; exact rfl; exact aW)
 | (apply s_lss; exact rfl; all_goals (intro _; try (exfalso; omega)))
 | (apply s_geq; exact rfl; all_goals (intro _; try (exfalso; omega)))
 | (apply s_len; exact aW; exact aI)
 | (apply s_idx; exact aW; exact rfl; exact aI; omega)
 | (apply s_ldI; exact rfl; omega)
 | (apply c_seq)
 | (apply c_reg)
 | (apply c_block)
 | (apply c_skip)
 | (apply c_ret)
 | (apply c_condT; exact rfl)
 | (with_reducible apply k_c)
      all_goals first
        | (exfalso; omega)
        | exact hF hn rfl
  · obtain rfl : i = c.length := by omega
    by_cases hl : c.length = 0
    · skip
      repeat' first
 | (apply s_mov; exact aW)
 | (apply c_nil)
 | (apply s_lss; exact rfl; all_goals (intro _; try (exfalso; omega)))
 | (apply s_gtr; exact rfl; all_goals (intro _; try (exfalso; omega)))
 | (apply s_len; exact aW; exact aI)
 | (apply c_seq)
 | (apply c_reg)
 | (apply c_exitH)
 | (apply c_ret)
 | (apply c_condF; exact rfl)
 | (apply c_preF; exact aK; exact aF)
 | (with_reducible apply k_c)
      all_goals first
        | (exfalso; omega)
        | skip
      exact hF (fun h => h.1 hl) rfl
    · skip
      repeat' first
 | (apply s_mov; exact aW)
 | (apply c_nil)
 | (apply s_lss; exact rfl; all_goals (intro _; try (exfalso; omega)))
 | (apply s_gtr; exact rfl; all_goals (intro _; try (exfalso; omega)))
 | (apply s_len; exact aW; exact aI)
 | (apply c_seq)
 | (apply c_reg)
 | (apply c_exitH)
 | (apply c_ret)
 | (apply c_condF; exact rfl)
 | (apply c_preF; exact aK; exact aF)
 | (with_reducible apply k_c)
      all_goals first
        | (exfalso; omega)
        | skip
      exact hT ⟨hl, hb⟩ rfl
theorem c85 {x y : AV} {w c : List Int} {up : Bool} (hx : IsL x w) (hy : IsL y c) (hc : c.length ≤ 1000) (hwl : w.length ≤ 1000) {m : Nat} (hm : 1010 ≤ m) (H : Heap) : callPure (evF tab it m) true 85 [x, y, .bool up] H = some (.bool (decide (IsCh w up c)), H) :=
  callPure_free (by simp [idFreeL, AV.idFree, hx.free, hy.free]) (by simp) (f85 hx hy hc hwl hm) rfl
theorem c62 {a b : Int} {m : Nat} (hm : 1 ≤ m) (H : Heap) : callPure (evF tab it m) true 62 [.int .i64 a, .int .i64 b] H = some (.bool (nxt true a b), H) := by
  obtain ⟨m, rfl⟩ : ∃ j, m = j + 1 := ⟨m - 1, by omega⟩
  refine callPure_free rfl (by simp) (H1 := []) ?_ rfl
  refine f_enter rfl rfl ?_
  repeat' first
 | (apply s_mov; exact aW)
 | (apply c_nil)
 | (apply s_leq; exact rfl; all_goals (intro _; try (exfalso; omega)))
 | (apply c_seq)
 | (apply c_reg)
 | (apply c_ret)
 | (with_reducible apply k_c)
  all_goals refine fin_t (by (conv => lhs; whnf)) (by rfl) ?_
  all_goals first | exact leafT (by omega) | exact leafF (by omega)
theorem c63 {a b : Int} {m : Nat} (hm : 1 ≤ m) (H : Heap) : callPure (evF tab it m) true 63 [.int .i64 a, .int .i64 b] H = some (.bool (nxt false a b), H) := by
  obtain ⟨m, rfl⟩ : ∃ j, m = j + 1 := ⟨m - 1, by omega⟩
  refine callPure_free rfl (by simp) (H1 := []) ?_ rfl
  refine f_enter rfl rfl ?_
  repeat' first
 | (apply s_mov; exact aW)
 | (apply c_nil)
 | (apply s_gtr; exact rfl; all_goals (intro _; try (exfalso; omega)))
 | (apply c_seq)
 | (apply c_reg)
 | (apply c_ret)
 | (with_reducible apply k_c)
  all_goals refine fin_t (by (conv => lhs; whnf)) (by rfl) ?_
  all_goals first | exact leafT (by omega) | exact leafF (by omega)
def Chs (w : List Int) (up : Bool) (l : List (List Int)) : Prop := (∀ c ∈ l, IsCh w up c) ∧ l.flatten.Nodup
instance (w up l) : Decidable (Chs w up l) := by unfold Chs; exact inferInstance
end Go.AM.Tb
