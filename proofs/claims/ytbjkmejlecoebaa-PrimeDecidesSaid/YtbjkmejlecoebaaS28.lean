/- A part of the proof: S28. -/
import Derived.Test.YtbjkmejlecoebaaS25
import Derived.Test.YtbjkmejlecoebaaSE7
set_option linter.unusedSectionVars false
set_option linter.unusedVariables false
set_option linter.unusedSimpArgs false
namespace Go.AM.Pr
attribute [local go_sem] gc subHeap reach_skip ren_free reach_new reach_newp reach_end rangeL roots boxCells nodupB posOf renL AV.ren pickO renH renO looks look bindEnv envOf reach_int reach_bool reach_nilS reach_rd putRow cells_sl cells_int cells_bool cells_nilS cells_rd cells_agg reach_agg reach_tup idFreeL idf_sl idf_ptr idf_int idf_bool idf_nilS idf_rd reach_fn reach_mp cells_fn cells_ptr cells_mp idf_mp idf_fn idf_agg idf_tup
open Go.AM.Num
/-! ### maps with whole-number keys -/
def mE (l : List (Int × AV)) : List (AV × AV) := l.map fun x => (.int .i64 x.1, x.2)
def putL (k : Int) (v : AV) : List (Int × AV) → List (Int × AV)
  | [] => [(k, v)]
  | x :: r => if k = x.1 then (k, v) :: r else x :: putL k v r
def findL (k : Int) : List (Int × AV) → Option AV
  | [] => none
  | x :: r => if k = x.1 then some x.2 else findL k r
theorem putM_mE (k : Int) (v : AV) : ∀ l, putM [some .i64] (.int .i64 k) v (mE l) = some (mE (putL k v l))
  | [] => rfl
  | x :: r => by
    simp only [mE, List.map_cons, putM, keyEq, and_self, if_true, Option.bind_some, putL]
    by_cases h : k = x.1
    · simp [h]
    · have := putM_mE k v r
      unfold mE at this
      simp [h, this]
theorem findM_mE (k : Int) : ∀ l, findM [some .i64] (.int .i64 k) (mE l) = some (findL k l)
  | [] => rfl
  | x :: r => by
    simp only [mE, List.map_cons, findM, keyEq, and_self, if_true, Option.bind_some, findL]
    by_cases h : k = x.1
    · simp [h]
    · have := findM_mE k r
      unfold mE at this
      simp [h, this]
theorem findL_put (j k : Int) (v : AV) : ∀ l, findL j (putL k v l) = if j = k then some v else findL j l
  | [] => by simp [putL, findL]
  | x :: r => by
    simp only [putL]
    by_cases h : k = x.1
    · simp only [if_pos h, findL]
      by_cases e : j = k
      · simp [e]
      · rw [if_neg e, if_neg e, if_neg (by omega)]
    · simp only [if_neg h, findL, findL_put j k v r]
      by_cases e : j = x.1
      · rw [if_pos e, if_neg (by omega), if_pos e]
      · rw [if_neg e, if_neg e]
theorem e_mkM {call : CallF} {H : Heap} : evE call H .mkM [] = some (.mp H.length, H ++ [some (.map [])]) := rfl
theorem e_mkM0 {call : CallF} : evE call [] .mkM [] = some (.mp 0, [some (.map (mE []))]) := rfl
theorem e_upM {call : CallF} {H : Heap} {id : Nat} {l : List (Int × AV)} {k : Int} {v : AV} (h : H[id]? = some (some (.map (mE l)))) (hv : v.idFree = true) : evE call H (.upM [some .i64]) [.mp id, .int .i64 k, v] = some (.undef, H.set id (some (.map (mE (putL k v l))))) := by
  simp [evE, keyOk, hv, Heap.map?, h, putM_mE]
theorem e_lkMt {call : CallF} {H : Heap} {id : Nat} {l : List (Int × AV)} {k : Int} {z : AV} (h : H[id]? = some (some (.map (mE l)))) : evE call H (.lkM [some .i64] true z) [.mp id, .int .i64 k] = some (.tup [(findL k l).getD z, .bool (findL k l).isSome], H) := by
  simp [evE, keyOk, Heap.map?, h, findM_mE]
theorem e_lkMf {call : CallF} {H : Heap} {id : Nat} {l : List (Int × AV)} {k : Int} {z : AV} (h : H[id]? = some (some (.map (mE l)))) : evE call H (.lkM [some .i64] false z) [.mp id, .int .i64 k] = some ((findL k l).getD z, H) := by
  simp [evE, keyOk, Heap.map?, h, findM_mE]
/-- the small steps -/
def sm (g a p : Nat) : Nat → List (Int × AV)
  | 0 => []
  | k + 1 => putL ((a * g ^ k % p : Nat) : Int) (.int .i64 (k : Int)) (sm g a p k)
theorem sm_some {g a p : Nat} {y : Int} {v : AV} : ∀ {W : Nat}, findL y (sm g a p W) = some v → ∃ s : Nat, s < W ∧ v = .int .i64 (s : Int) ∧ ((a * g ^ s % p : Nat) : Int) = y
  | 0, h => by simp [sm, findL] at h
  | W + 1, h => by
    simp only [sm, findL_put] at h
    split at h
    · rename_i e
      cases h
      exact ⟨W, by omega, rfl, e.symm⟩
    · obtain ⟨s, h1, h2, h3⟩ := sm_some h
      exact ⟨s, by omega, h2, h3⟩
theorem sm_none {g a p : Nat} {y : Int} : ∀ {W : Nat}, findL y (sm g a p W) = none → ∀ s, s < W → ((a * g ^ s % p : Nat) : Int) ≠ y
  | 0, _, s, hs => by omega
  | W + 1, h, s, hs => by
    simp only [sm, findL_put] at h
    split at h
    · cases h
    · rename_i e
      rcases (by omega : s < W ∨ s = W) with h' | rfl
      · exact sm_none h s h'
      · exact fun e' => e e'.symm
theorem ordN_Ord {a m : Nat} (h1 : 1 ≤ m) (hg : Nat.gcd a m = 1) : Ord a m (ordN a m) := by
  obtain ⟨o1, o2, o3, o4⟩ := ordN_spec h1 hg
  exact ⟨o1, o2, o4⟩
theorem ordP_Ord {a p : Nat} (hp : IsPr p) (h1 : 1 ≤ a) (h2 : a < p) : Ord a p (ordP a p) := by
  obtain ⟨o1, o2, o3, o4⟩ := ordP_spec hp h1 h2
  exact ⟨o1, o2, o4⟩
theorem width_ex (p : Nat) (h1 : 1 ≤ p) : ∃ W, 1 ≤ W ∧ p ≤ W * W ∧ ∀ v, v < W → v * v < p := by
  have key : ∀ n, ∃ W, (p ≤ W * W ∨ n ≤ W) ∧ ∀ v, v < W → v * v < p := by
    intro n
    induction n with
    | zero => exact ⟨0, .inr (Nat.le_refl 0), fun v hv => by omega⟩
    | succ n ih =>
      obtain ⟨W, h, g⟩ := ih
      rcases h with h | h
      · exact ⟨W, .inl h, g⟩
      · by_cases hw : p ≤ W * W
        · exact ⟨W, .inl hw, g⟩
        · refine ⟨W + 1, .inr (by omega), fun v hv => ?_⟩
          rcases (by omega : v < W ∨ v = W) with h' | rfl
          · exact g v h'
          · omega
  obtain ⟨W, h, g⟩ := key (p + 1)
  have hW : p ≤ W * W := by
    rcases h with h | h
    · exact h
    · exact Nat.le_trans (show p ≤ W by omega) (Nat.le_mul_of_pos_right _ (by omega))
  refine ⟨W, ?_, hW, g⟩
  rcases Nat.eq_zero_or_pos W with rfl | h'
  · simp at hW; omega
  · exact h'
set_option maxHeartbeats 4000000
/-- what Log answers -/
def logR (g a p o : Nat) (r : Option Nat) : Prop := match r with
  | some r => r < o ∧ g ^ r % p = a
  | none => ∀ r, r < o → g ^ r % p ≠ a
def logV : Option Nat → List AV
  | some r => [.int .i64 (r : Int), .int .i64 0]
  | none => [.int .i64 0, .int .i64 6]
theorem f23 {g a p : Nat} (hp : IsPr p) (hp2 : p ≤ 2147483647) (g1 : 1 ≤ g) (g2 : g < p) (a1 : 1 ≤ a) (a2 : a < p) {r : Option Nat} (hr : logR g a p (ordN g p) r) {m : Nat} (hm : 47000 ≤ m) :
    evF tab it m 23 [.int .i64 (g : Int), .int .i64 (a : Int), .int .i64 (p : Int)] [] = some (.tup (logV r), []) := by
  obtain ⟨m, rfl⟩ : ∃ j, m = j + 1 := ⟨m - 1, by omega⟩
  have hpp := hp.1
  have hp0 : 0 < p := by omega
  have hcop : Nat.gcd g p = 1 := pr_cop_of_lt hp g1 g2
  have hO := ordN_Ord (by omega) hcop
  have hop : ordN g p ≤ p - 1 := by
    have h1 := hO.dvd (fermat1 hp g1 g2)
    exact Nat.le_of_dvd (by omega) h1
  have h48 := fun H => c48 (a := g) (M := p) (by omega) hp2 g2 (m := m) (by omega) H
  have hO1 := hO.pos
  generalize ordN g p = o at *
  obtain ⟨W, W1, W2, W3⟩ := width_ex p (by omega)
  have hWb : W ≤ 46342 := by
    rcases Nat.lt_or_ge 46342 W with h | h
    · have := W3 46342 h; omega
    · exact h
  have h44 := fun H => c44 (m := m) (by omega) (p : Int) H
  have hPN : IsPN (p : Int) := ⟨⟨by omega, by omega⟩, by simpa using hp⟩
  simp only [hPN, decide_true] at h44
  have h46 := fun {x y : Nat} (hx : x < p) (hy : y < p) H => c46 (a := x) (b := y) (n := p) hp0 (by have := mod_prod_lt hx hy hp2; omega) (m := m) (by omega) H
  have h47 := fun H => c47 (A := g) (E := W) hp0 hp2 g2 (by omega) (m := m) (by omega) H
  refine f_enter rfl rfl ?_
  generalize evF tab it m = call at *
  repeat' first
 | (apply s_mov; (focus ((conv => lhs; whnf); done)))
 | (apply s_gT; exact rfl)
 | (apply c_nil)
 | (apply s_pickF; exact rfl; (focus ((conv => lhs; whnf); done)))
 | (apply s_notT; exact rfl)
 | ((first | apply s_lss | apply s_leq | apply s_gtr | apply s_geq | apply s_eql | apply s_neq); exact rfl; all_goals (intro _; try (exfalso; omega)))
 | (apply s_cn; (focus (repeat (first | apply opds_nil | (apply opds_cons; (first | (focus ((conv => lhs; whnf); done)) | exact rfl))))); exact h44 _)
 | (apply c_seq)
 | (apply c_reg)
 | (apply c_block)
 | (apply c_skip)
 | (apply c_condF; exact rfl)
 | (with_reducible apply k_c)
  -- the width
  refine c_loop ?_
  refine loop_gc (σ := Nat) (fun w => [.int .i64 (g : Int), .int .i64 (a : Int), .int .i64 (p : Int), .int .i64 (w : Int)]) (fun _ => []) (fun w => 1 ≤ w ∧ w ≤ W) (fun w => W - w) ?_ _ 1 _ _ ⟨by omega, by omega⟩ (by omega) (gc_to rfl rfl)
  intro w ⟨w1, w2⟩ K hK
  have hww := sq_mono (show w ≤ 46342 by omega)
  by_cases hwW : w < W
  · have := W3 w hwW
    repeat' first
 | (apply s_mov; (focus ((conv => lhs; whnf); done)))
 | (apply c_nil)
 | ((first | apply s_lss | apply s_leq | apply s_gtr | apply s_geq | apply s_eql | apply s_neq); exact rfl; all_goals (intro _; try (exfalso; omega)))
 | ((first | apply s_add | apply s_sub); exact rfl; omega)
 | (apply s_mulN; exact rfl; omega)
 | (apply c_seq)
 | (apply c_reg)
 | (apply c_block)
 | (apply c_skip)
 | (apply c_condT; exact rfl)
 | (with_reducible apply k_c)
    exact hK (w + 1) _ _ ⟨by omega, by omega⟩ (by omega) (gc_to rfl rfl)
  · obtain rfl : w = W := by omega
    repeat' first
 | (apply s_mov; (focus ((conv => lhs; whnf); done)))
 | (apply c_nil)
 | ((first | apply s_lss | apply s_leq | apply s_gtr | apply s_geq | apply s_eql | apply s_neq); exact rfl; all_goals (intro _; try (exfalso; omega)))
 | (apply s_en; (focus (repeat (first | apply opds_nil | (apply opds_cons; (first | (focus ((conv => lhs; whnf); done)) | exact rfl))))); exact e_mkM0)
 | (apply s_mulN; exact rfl; omega)
 | (apply c_seq)
 | (apply c_reg)
 | (apply c_block)
 | (apply c_exitH)
 | (apply c_condF; exact rfl)
 | (apply c_preF; (focus (repeat (first | apply looks_nil | (apply looks_cons; (focus ((conv => lhs; whnf); done)))))); (focus (simp [idFreeL, AV.idFree, *]; done)))
 | (with_reducible apply k_c)
    -- the small steps
    refine c_loop ?_
    refine loop_gc (σ := Nat) (fun k => [.int .i64 (g : Int), .int .i64 (p : Int), .int .i64 (w : Int), .mp 0, .int .i64 ((a * g ^ k % p : Nat) : Int), .int .i64 (w : Int), .int .i64 (k : Int)]) (fun k => [some (.map (mE (sm g a p k)))]) (fun k => k ≤ w) (fun k => w - k) ?_ _ 0 _ _ (by omega) (by omega) (by rw [Nat.pow_zero, Nat.mul_one, Nat.mod_eq_of_lt a2]; simp [go_sem, sm])
    intro k hk K1 hK1
    have hxl : a * g ^ k % p < p := Nat.mod_lt _ hp0
    by_cases hkw : k < w
    · have e46 := h46 hxl g2 [some (.map (mE (sm g a p (k + 1))))]
      have hx2 : a * g ^ k % p * g % p = a * g ^ (k + 1) % p := by rw [Nat.mod_mul_mod, Nat.mul_assoc, ← Nat.pow_succ]
      rw [hx2] at e46
      have hup : ∀ call, evE call [some (.map (mE (sm g a p k)))] (.upM [some .i64]) [.mp 0, .int .i64 ((a * g ^ k % p : Nat) : Int), .int .i64 (k : Int)] = some (.undef, [some (.map (mE (sm g a p (k + 1))))]) := fun call => e_upM rfl rfl
      repeat' first
 | (apply s_mov; (focus ((conv => lhs; whnf); done)))
 | (apply c_nil)
 | ((first | apply s_lss | apply s_leq | apply s_gtr | apply s_geq | apply s_eql | apply s_neq); exact rfl; all_goals (intro _; try (exfalso; omega)))
 | (apply s_st; (focus (repeat (first | apply opds_nil | (apply opds_cons; (first | (focus ((conv => lhs; whnf); done)) | exact rfl))))); exact hup _)
 | (apply s_cn; (focus (repeat (first | apply opds_nil | (apply opds_cons; (first | (focus ((conv => lhs; whnf); done)) | exact rfl))))); exact e46)
 | ((first | apply s_add | apply s_sub); exact rfl; omega)
 | (apply c_seq)
 | (apply c_reg)
 | (apply c_block)
 | (apply c_skip)
 | (apply c_condT; exact rfl)
 | (with_reducible apply k_c)
      exact hK1 (k + 1) _ _ (by omega) (by omega) (by simp [go_sem])
    · obtain rfl : k = w := by omega
      repeat' first
 | (apply c_nil)
 | ((first | apply s_lss | apply s_leq | apply s_gtr | apply s_geq | apply s_eql | apply s_neq); exact rfl; all_goals (intro _; try (exfalso; omega)))
 | (apply c_seq)
 | (apply c_reg)
 | (apply c_exitH)
 | (apply c_condF; exact rfl)
 | (with_reducible apply k_c)
      try apply k_c
      apply c_pre (vs := [.int .i64 (g : Int), .int .i64 (p : Int), .int .i64 (k : Int), .mp 0]) (H' := [some (.map (mE (sm g a p k)))])
      · simp [go_sem]
      have hlk : ∀ (y : Nat) call, evE call [some (.map (mE (sm g a p k)))] (.lkM [some .i64] true (.int .i64 0)) [.mp 0, .int .i64 (y : Int)] = some (.tup [(findL (y : Int) (sm g a p k)).getD (.int .i64 0), .bool (findL (y : Int) (sm g a p k)).isSome], [some (.map (mE (sm g a p k)))]) := fun y call => e_lkMt rfl
      have hll : g ^ k % p < p := Nat.mod_lt _ hp0
      repeat' first
 | (apply s_mov; (focus ((conv => lhs; whnf); done)))
 | (apply c_nil)
 | (apply s_cn; (focus (repeat (first | apply opds_nil | (apply opds_cons; (first | (focus ((conv => lhs; whnf); done)) | exact rfl))))); exact h47 _)
 | (apply c_seq)
 | (apply c_reg)
 | (apply c_block)
 | (apply c_skip)
 | (with_reducible apply k_c)
      -- the giant steps
      refine c_loop ?_
      refine loop_gc (σ := Nat) (fun i => [.int .i64 (g : Int), .int .i64 (p : Int), .int .i64 (k : Int), .mp 0, .int .i64 ((g ^ k % p : Nat) : Int), .int .i64 ((g ^ (k * (i - 1)) % p : Nat) : Int), .int .i64 (-1), .int .i64 (i : Int)]) (fun _ => [some (.map (mE (sm g a p k)))]) (fun i => 1 ≤ i ∧ i ≤ k + 1 ∧ ∀ j, 1 ≤ j → j < i → findL ((g ^ (k * j) % p : Nat) : Int) (sm g a p k) = none) (fun i => k + 1 - i) ?_ _ 1 _ _ ⟨by omega, by omega, fun j h1 h2 => by omega⟩ (by omega) (by
        have : g ^ (k * (1 - 1)) % p = 1 := by simp; exact Nat.mod_eq_of_lt hpp
        rw [this]; simp [go_sem])
      intro i ⟨i1, i2, i3⟩ K2 hK2
      by_cases hik : i ≤ k
      · have hy1 : g ^ (k * (i - 1)) % p * (g ^ k % p) % p = g ^ (k * i) % p := by
          rw [← Nat.mul_mod, ← Nat.pow_add]
          congr 2
          obtain ⟨j, rfl⟩ : ∃ j, i = j + 1 := ⟨i - 1, by omega⟩
          rw [Nat.add_sub_cancel, Nat.mul_succ]
        have e46 := h46 (x := g ^ (k * (i - 1)) % p) (Nat.mod_lt _ hp0) hll [some (.map (mE (sm g a p k)))]
        rw [hy1] at e46
        have hlk' := hlk (g ^ (k * i) % p)
        cases hfd : findL ((g ^ (k * i) % p : Nat) : Int) (sm g a p k) with
        | none =>
          rw [hfd] at hlk'
          simp only [Option.getD_none, Option.isSome_none] at hlk'
          repeat' first
 | (apply s_mov; (focus ((conv => lhs; whnf); done)))
 | (apply c_nil)
 | ((first | apply s_lss | apply s_leq | apply s_gtr | apply s_geq | apply s_eql | apply s_neq); exact rfl; all_goals (intro _; try (exfalso; omega)))
 | (apply s_cn; (focus (repeat (first | apply opds_nil | (apply opds_cons; (first | (focus ((conv => lhs; whnf); done)) | exact rfl))))); exact e46)
 | (apply s_en; (focus (repeat (first | apply opds_nil | (apply opds_cons; (first | (focus ((conv => lhs; whnf); done)) | exact rfl))))); exact hlk' _)
 | ((first | apply s_add | apply s_sub); exact rfl; omega)
 | (apply s_pd; (focus ((conv => lhs; whnf); done)))
 | (apply c_seq)
 | (apply c_reg)
 | (apply c_block)
 | (apply c_skip)
 | (apply c_condT; exact rfl)
 | (apply c_condF; exact rfl)
 | (with_reducible apply k_c)
          refine hK2 (i + 1) _ _ ⟨by omega, by omega, fun j h1 h2 => ?_⟩ (by omega) (by simp [go_sem])
          rcases (by omega : j < i ∨ j = i) with h | rfl
          · exact i3 j h1 h
          · exact hfd
        | some v =>
          obtain ⟨s, s1, rfl, s3⟩ := sm_some hfd
          rw [hfd] at hlk'
          simp only [Option.getD_some, Option.isSome_some] at hlk'
          have s3' : a * g ^ s % p = g ^ (k * i) % p := by exact_mod_cast s3
          obtain ⟨u1, u2⟩ := unmeet hp g1 g2 a2 i1 s1 s3'
          rw [Nat.mul_comm k i] at u1 u2
          have hki := Nat.mul_le_mul (show i ≤ 46342 by omega) (show k ≤ 46342 by omega)
          have hres : logV r = [.int .i64 (((i * k - s) % o : Nat) : Int), .int .i64 0] := by
            have hb : g ^ ((i * k - s) % o) % p = a := by rw [hO.mod, u2]
            have hlt := Nat.mod_lt (i * k - s) hO1
            cases r with
            | none => exact absurd hb (hr _ hlt)
            | some r =>
              obtain ⟨r1, r2⟩ := hr
              have := hO.inj' hp g1 g2 r1 hlt (by rw [r2, hb])
              rw [this]; rfl
          repeat' first
 | (apply s_mov; (focus ((conv => lhs; whnf); done)))
 | (apply c_nil)
 | ((first | apply s_lss | apply s_leq | apply s_gtr | apply s_geq | apply s_eql | apply s_neq); exact rfl; all_goals (intro _; try (exfalso; omega)))
 | (apply s_cn; (focus (repeat (first | apply opds_nil | (apply opds_cons; (first | (focus ((conv => lhs; whnf); done)) | exact rfl))))); exact e46)
 | (apply s_en; (focus (repeat (first | apply opds_nil | (apply opds_cons; (first | (focus ((conv => lhs; whnf); done)) | exact rfl))))); exact hlk' _)
 | (apply s_cn; (focus (repeat (first | apply opds_nil | (apply opds_cons; (first | (focus ((conv => lhs; whnf); done)) | exact rfl))))); exact h48 _)
 | (apply s_subN; exact rfl; omega; omega)
 | (apply s_mulN; exact rfl; omega)
 | (apply s_remN; exact rfl; omega)
 | (apply s_pd; (focus ((conv => lhs; whnf); done)))
 | (apply c_seq)
 | (apply c_reg)
 | (apply c_block)
 | (apply c_exitH)
 | (apply c_skip)
 | (apply c_ret)
 | (apply c_condT; exact rfl)
 | (apply c_condF; exact rfl)
 | (apply c_exitM; exact rfl)
 | (apply c_preF; (focus (repeat (first | apply looks_nil | (apply looks_cons; (focus ((conv => lhs; whnf); done)))))); (focus (simp [idFreeL, AV.idFree, *]; done)))
 | (with_reducible apply k_c)
          exact fin_tt (by (conv => lhs; whnf)) (by (conv => lhs; whnf)) (by rfl) (by rfl) (by rw [hres])
      · obtain rfl : i = k + 1 := by omega
        have hres : logV r = [.int .i64 0, .int .i64 6] := by
          cases r with
          | none => rfl
          | some r =>
            obtain ⟨r1, r2⟩ := hr
            obtain ⟨j, s, j1, j2, s1, s2⟩ := meet hp W2 hO hop r1 r2
            have h1 := i3 j j1 (by omega)
            exact absurd (by rw [s2] : ((a * g ^ s % p : Nat) : Int) = ((g ^ (k * j) % p : Nat) : Int)) (sm_none h1 s s1)
        repeat' first
 | (apply s_mov; (focus ((conv => lhs; whnf); done)))
 | (apply c_nil)
 | ((first | apply s_lss | apply s_leq | apply s_gtr | apply s_geq | apply s_eql | apply s_neq); exact rfl; all_goals (intro _; try (exfalso; omega)))
 | (apply c_seq)
 | (apply c_reg)
 | (apply c_exitH)
 | (apply c_ret)
 | (apply c_condT; exact rfl)
 | (apply c_condF; exact rfl)
 | (apply c_preF; (focus (repeat (first | apply looks_nil | (apply looks_cons; (focus ((conv => lhs; whnf); done)))))); (focus (simp [idFreeL, AV.idFree, *]; done)))
 | (with_reducible apply k_c)
        exact fin_tt (by (conv => lhs; whnf)) (by (conv => lhs; whnf)) (by rfl) (by rfl) (by rw [hres])
end Go.AM.Pr
