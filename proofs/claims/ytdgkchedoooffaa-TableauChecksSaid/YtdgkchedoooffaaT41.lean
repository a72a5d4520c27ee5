/- A part of the proof: T41. -/
import Derived.Test.YtdgkchedoooffaaT40
import Derived.Test.YtdgkchedoooffaaT37
import Derived.Test.YtdgkchedoooffaaM3
set_option linter.unusedVariables false
set_option linter.unusedSimpArgs false
set_option linter.unusedSectionVars false
namespace Go.AM.Tb
set_option maxHeartbeats 4000000
def RightF (w : List Int) (k : Nat) (U D : List (List Int)) : Prop := U.length ≤ k ∧ Chs w true U ∧ Chs w false D ∧ (U.flatten.length : Int) = (k : Int) * (D.length : Int) + w.length - D.flatten.length
instance (w k U D) : Decidable (RightF w k U D) := by unfold RightF; exact inferInstance
theorem flat_len {l : List (List Int)} (h : ∀ c ∈ l, c.length ≤ 200) : l.flatten.length ≤ l.length * 200 := by
  induction l with
  | nil => simp
  | cons c l ih =>
    have := ih fun d hd => h d (by simp [hd])
    have := h c (by simp)
    simp only [List.flatten_cons, List.length_append, List.length_cons]
    omega
theorem e_boxF {call : CallF} {H : Heap} {u v : AV} (h1 : u.one = true) (h2 : v.one = true) : evE call H (.box false) [.agg [u, v]] = some (.ptr H.length 0, H ++ [some (.box [u, v])]) := by
  simp [evE, AV.cells, oneL, h1, h2, mkHO]
theorem f40 {x u v : AV} {w : List Int} {U D : List (List Int)} {k : Nat} (hx : IsL x w) (hu : IsLL u U) (hv : IsLL v D) (hwl : w.length ≤ 61) (hU : U.length ≤ 200 ∧ ∀ c ∈ U, c.length ≤ 200) (hD : D.length ≤ 200 ∧ ∀ c ∈ D, c.length ≤ 200) (hk : k ≤ 60) {m : Nat} (hm : 1200 ≤ m) : evF tab it m 40 [x, .int .i64 (k : Int), .agg [u, v]] [] = some (.bool (decide (RightF w k U D)), []) := by
  obtain ⟨m, rfl⟩ : ∃ j, m = j + 1 := ⟨m - 1, by omega⟩
  have fx := hx.free
  have fu := hu.free
  have fv := hv.free
  have ea := fun H => c64 (up := true) hx hu hwl hU.1 hU.2 (m := m) (by omega) H
  have eb := fun H => c64 (up := false) hx hv hwl hD.1 hD.2 (m := m) (by omega) H
  have l1 := flat_len hU.2
  have l2 := flat_len hD.2
  have hb0 : ∀ call, evE call [] (.box false) [.agg [u, v]] = some (.ptr 0 0, [some (.box [u, v])]) := fun call => e_boxF hu.one hv.one
  have p0 : evP [some (HO.box [u, v])] (.ld false 1) [.ptr 0 0] = some u := p_ldX (j := 0) rfl rfl
  have p1 : evP [some (HO.box [u, v])] (.ld false 1) [.ptr 0 1] = some v := p_ldX (j := 1) rfl rfl
  have q0 : ∀ H, evP H (.fldA 0) [.ptr 0 0] = some (.ptr 0 0) := fun H => rfl
  have q1 : ∀ H, evP H (.fldA 1) [.ptr 0 0] = some (.ptr 0 1) := fun H => rfl
  generalize hR : some (AV.bool (decide (RightF w k U D)), []) = res
  have hT : RightF w k U D → ∀ {env s H}, look env s = .bool true → finish 0 [.t s] env H = res := fun h env s H h1 => by rw [← hR]; exact fin_t h1 rfl (leafT h)
  have hF : ¬ RightF w k U D → ∀ {env s H}, look env s = .bool false → finish 0 [.t s] env H = res := fun h env s H h1 => by rw [← hR]; exact fin_t h1 rfl (leafF h)
  refine f_enter rfl rfl ?_
  generalize evF tab it m = call at *
  by_cases h1 : U.length ≤ k
  · by_cases h2 : Chs w true U
    · simp only [if_pos h2] at ea
      by_cases h3 : Chs w false D
      · simp only [if_pos h3] at eb
        have hmul : (k : Int) * (D.length : Int) = ((k * D.length : Nat) : Int) := by rw [Int.natCast_mul]
        have hkl : k * D.length ≤ 60 * 200 := Nat.mul_le_mul hk hD.1
        by_cases h4 : (U.flatten.length : Int) = ((k * D.length : Nat) : Int) + w.length - D.flatten.length
        · have hr : RightF w k U D := ⟨h1, h2, h3, by rw [hmul]; exact h4⟩
          generalize U.flatten.length = uf at *
          generalize D.flatten.length = df at *
          repeat' first
 | (apply s_mov; exact aW)
 | (apply s_gT; exact rfl)
 | (apply c_nil)
 | (apply s_pickT; exact rfl; exact aW)
 | (apply s_gtr; exact rfl; all_goals (intro _; try (exfalso; omega)))
 | (apply s_geq; exact rfl; all_goals (intro _; try (exfalso; omega)))
 | (apply s_eql; exact rfl; all_goals (intro _; try (exfalso; omega)))
 | (apply s_en; exact aO; exact hb0 _)
 | (apply s_pn; exact aO; exact q0 _)
 | (apply s_pn; exact aO; exact q1 _)
 | (apply s_pn; exact aO; exact p0)
 | (apply s_pn; exact aO; exact p1)
 | (apply s_cn; exact aO; exact ea _)
 | (apply s_cn; exact aO; exact eb _)
 | (apply s_add; exact rfl; omega)
 | (apply s_sub; exact rfl; omega)
 | (apply s_mulN; exact rfl; omega)
 | (apply s_len; exact aW; exact aI)
 | (apply s_lenLL; exact aW; assumption)
 | (apply c_seq)
 | (apply c_reg)
 | (apply c_skip)
 | (apply c_ret)
 | (apply c_condF; exact rfl)
 | (with_reducible apply k_c)
          all_goals first
            | (exfalso; omega)
            | exact hT hr (by rfl)
        · have hr : ¬ RightF w k U D := fun h => h4 (by rw [← hmul]; exact h.2.2.2)
          generalize U.flatten.length = uf at *
          generalize D.flatten.length = df at *
          repeat' first
 | (apply s_mov; exact aW)
 | (apply s_gT; exact rfl)
 | (apply c_nil)
 | (apply s_pickT; exact rfl; exact aW)
 | (apply s_gtr; exact rfl; all_goals (intro _; try (exfalso; omega)))
 | (apply s_geq; exact rfl; all_goals (intro _; try (exfalso; omega)))
 | (apply s_eql; exact rfl; all_goals (intro _; try (exfalso; omega)))
 | (apply s_en; exact aO; exact hb0 _)
 | (apply s_pn; exact aO; exact q0 _)
 | (apply s_pn; exact aO; exact q1 _)
 | (apply s_pn; exact aO; exact p0)
 | (apply s_pn; exact aO; exact p1)
 | (apply s_cn; exact aO; exact ea _)
 | (apply s_cn; exact aO; exact eb _)
 | (apply s_add; exact rfl; omega)
 | (apply s_sub; exact rfl; omega)
 | (apply s_mulN; exact rfl; omega)
 | (apply s_len; exact aW; exact aI)
 | (apply s_lenLL; exact aW; assumption)
 | (apply c_seq)
 | (apply c_reg)
 | (apply c_skip)
 | (apply c_ret)
 | (apply c_condF; exact rfl)
 | (with_reducible apply k_c)
          all_goals first
            | (exfalso; omega)
            | exact hF hr (by rfl)
      · simp only [if_neg h3] at eb
        have hr : ¬ RightF w k U D := fun h => h3 h.2.2.1
        generalize U.flatten.length = uf at *
        repeat' first
 | (apply s_mov; exact aW)
 | (apply s_gT; exact rfl)
 | (apply s_gF; exact rfl)
 | (apply c_nil)
 | (apply s_pickT; exact rfl; exact aW)
 | (apply s_pickF; exact rfl; exact aW)
 | (apply s_gtr; exact rfl; all_goals (intro _; try (exfalso; omega)))
 | (apply s_geq; exact rfl; all_goals (intro _; try (exfalso; omega)))
 | (apply s_en; exact aO; exact hb0 _)
 | (apply s_pn; exact aO; exact q0 _)
 | (apply s_pn; exact aO; exact q1 _)
 | (apply s_pn; exact aO; exact p0)
 | (apply s_pn; exact aO; exact p1)
 | (apply s_cn; exact aO; exact ea _)
 | (apply s_cn; exact aO; exact eb _)
 | (apply s_lenLL; exact aW; assumption)
 | (apply c_seq)
 | (apply c_reg)
 | (apply c_skip)
 | (apply c_ret)
 | (apply c_condF; exact rfl)
 | (with_reducible apply k_c)
        all_goals first
          | (exfalso; omega)
          | exact hF hr (by rfl)
    · simp only [if_neg h2] at ea
      have hr : ¬ RightF w k U D := fun h => h2 h.2.1
      generalize (if Chs w false D then (D.flatten.length : Int) else -1) = df at *
      repeat' first
 | (apply s_mov; exact aW)
 | (apply s_gF; exact rfl)
 | (apply c_nil)
 | (apply s_pickF; exact rfl; exact aW)
 | (apply s_gtr; exact rfl; all_goals (intro _; try (exfalso; omega)))
 | (apply s_geq; exact rfl; all_goals (intro _; try (exfalso; omega)))
 | (apply s_en; exact aO; exact hb0 _)
 | (apply s_pn; exact aO; exact q0 _)
 | (apply s_pn; exact aO; exact q1 _)
 | (apply s_pn; exact aO; exact p0)
 | (apply s_pn; exact aO; exact p1)
 | (apply s_cn; exact aO; exact ea _)
 | (apply s_cn; exact aO; exact eb _)
 | (apply s_lenLL; exact aW; assumption)
 | (apply c_seq)
 | (apply c_reg)
 | (apply c_skip)
 | (apply c_ret)
 | (apply c_condF; exact rfl)
 | (with_reducible apply k_c)
      all_goals first
        | (exfalso; omega)
        | exact hF hr (by rfl)
  · have hr : ¬ RightF w k U D := fun h => h1 h.1
    repeat' first
 | (apply s_mov; exact aW)
 | (apply c_nil)
 | (apply s_gtr; exact rfl; all_goals (intro _; try (exfalso; omega)))
 | (apply s_en; exact aO; exact hb0 _)
 | (apply s_pn; exact aO; exact q0 _)
 | (apply s_pn; exact aO; exact p0)
 | (apply s_lenLL; exact aW; assumption)
 | (apply c_seq)
 | (apply c_reg)
 | (apply c_ret)
 | (apply c_condT; exact rfl)
 | (with_reducible apply k_c)
    all_goals first
      | (exfalso; omega)
      | exact hF hr (by rfl)
theorem c40 {x u v : AV} {w : List Int} {U D : List (List Int)} {k : Nat} (hx : IsL x w) (hu : IsLL u U) (hv : IsLL v D) (hwl : w.length ≤ 61) (hU : U.length ≤ 200 ∧ ∀ c ∈ U, c.length ≤ 200) (hD : D.length ≤ 200 ∧ ∀ c ∈ D, c.length ≤ 200) (hk : k ≤ 60) {m : Nat} (hm : 1200 ≤ m) (H : Heap) : callPure (evF tab it m) true 40 [x, .int .i64 (k : Int), .agg [u, v]] H = some (.bool (decide (RightF w k U D)), H) :=
  callPure_free (by simp [idFreeL, AV.idFree, hx.free, hu.free, hv.free]) (by simp) (f40 hx hu hv hwl hU hD hk hm) rfl
def ans39 (w : List Int) (k : Int) (U D : List (List Int)) : Int := if IsW w ∧ 1 ≤ k ∧ k ≤ 60 then (if RightF w k.toNat U D then 0 else 10) else 2
theorem f39 {x u v : AV} {w : List Int} {U D : List (List Int)} {k : Int} (hx : IsL x w) (hu : IsLL u U) (hv : IsLL v D) (hwl : w.length ≤ 61) (hU : U.length ≤ 200 ∧ ∀ c ∈ U, c.length ≤ 200) (hD : D.length ≤ 200 ∧ ∀ c ∈ D, c.length ≤ 200) {m : Nat} (hm : 2200 ≤ m) : evF tab it m 39 [x, .int .i64 k, .agg [u, v]] [] = some (.int .i64 (ans39 w k U D), []) := by
  obtain ⟨m, rfl⟩ : ∃ j, m = j + 1 := ⟨m - 1, by omega⟩
  have fx := hx.free
  have fu := hu.free
  have fv := hv.free
  have e52 := fun H => callPure_free (call := evF tab it m) (H := H) (by simp [idFreeL, hx.free]) (by simp) (f52 hx (by omega) (m := m) (by omega)) rfl
  have ea := fun H => (c61 hx hu hwl hU.1 hU.2 (m := m) (by omega) H).1
  have eb := fun H => (c61 hx hv hwl hD.1 hD.2 (m := m) (by omega) H).2
  have l1 := flat_len hU.2
  have l2 := flat_len hD.2
  have hb0 : ∀ call, evE call [] (.box false) [.agg [u, v]] = some (.ptr 0 0, [some (.box [u, v])]) := fun call => e_boxF hu.one hv.one
  have p0 : evP [some (HO.box [u, v])] (.ld false 1) [.ptr 0 0] = some u := p_ldX (j := 0) rfl rfl
  have p1 : evP [some (HO.box [u, v])] (.ld false 1) [.ptr 0 1] = some v := p_ldX (j := 1) rfl rfl
  have q0 : ∀ H, evP H (.fldA 0) [.ptr 0 0] = some (.ptr 0 0) := fun H => rfl
  have q1 : ∀ H, evP H (.fldA 1) [.ptr 0 0] = some (.ptr 0 1) := fun H => rfl
  unfold ans39
  generalize hres : some (AV.int .i64 (if IsW w ∧ 1 ≤ k ∧ k ≤ 60 then (if RightF w k.toNat U D then 0 else 10) else 2), []) = res
  have hfin : ∀ {a : Int} {env s H}, (if IsW w ∧ 1 ≤ k ∧ k ≤ 60 then (if RightF w k.toNat U D then (0 : Int) else 10) else 2) = a → look env s = .int .i64 a → finish 0 [.t s] env H = res := fun {a env s H} h h1 => by rw [← hres, h]; exact fin_t h1 rfl rfl
  refine f_enter rfl rfl ?_
  generalize evF tab it m = call at *
  by_cases hw : IsW w
  · simp only [hw, decide_true] at e52
    by_cases hk : 1 ≤ k ∧ k ≤ 60
    · obtain ⟨q, rfl⟩ : ∃ q : Nat, k = (q : Int) := ⟨k.toNat, by omega⟩
      rw [Int.toNat_natCast] at hfin
      have hfin' : ∀ {a : Int} {env s H}, (if RightF w q U D then (0 : Int) else 10) = a → look env s = .int .i64 a → finish 0 [.t s] env H = res := fun h h1 => hfin (by rw [if_pos ⟨hw, hk⟩]; exact h) h1
      clear hfin
      unfold ans61 at ea eb
      by_cases h2 : Chs w true U
      · simp only [if_pos h2] at ea
        by_cases h3 : Chs w false D
        · simp only [if_pos h3] at eb
          have hmul : (q : Int) * (D.length : Int) = ((q * D.length : Nat) : Int) := by rw [Int.natCast_mul]
          have hkl : q * D.length ≤ 60 * 200 := Nat.mul_le_mul (by omega) hD.1
          by_cases h1 : U.length ≤ q
          · by_cases h4 : (U.flatten.length : Int) = ((q * D.length : Nat) : Int) + w.length - D.flatten.length
            · have hr : RightF w q U D := ⟨h1, h2, h3, by rw [hmul]; exact h4⟩
              generalize U.flatten.length = uf at *
              generalize D.flatten.length = df at *
              repeat' first
 | (apply s_mov; exact aW)
 | (apply s_gT; exact rfl)
 | (apply c_nil)
 | (apply s_pickF; exact rfl; exact aW)
 | (apply s_notT; exact rfl)
 | (apply s_lss; exact rfl; all_goals (intro _; try (exfalso; omega)))
 | (apply s_gtr; exact rfl; all_goals (intro _; try (exfalso; omega)))
 | (apply s_neq; exact rfl; all_goals (intro _; try (exfalso; omega)))
 | (apply s_en; exact aO; exact hb0 _)
 | (apply s_cn; exact aO; exact e52 _)
 | (apply s_pn; exact aO; exact q0 _)
 | (apply s_pn; exact aO; exact q1 _)
 | (apply s_pn; exact aO; exact p0)
 | (apply s_pn; exact aO; exact p1)
 | (apply s_cn; exact aO; exact ea _)
 | (apply s_cn; exact aO; exact eb _)
 | (apply s_add; exact rfl; omega)
 | (apply s_sub; exact rfl; omega)
 | (apply s_mulN; exact rfl; omega)
 | (apply s_len; exact aW; exact aI)
 | (apply s_lenLL; exact aW; assumption)
 | (apply s_pd; exact aW)
 | (apply c_seq)
 | (apply c_reg)
 | (apply c_skip)
 | (apply c_ret)
 | (apply c_condF; exact rfl)
 | (with_reducible apply k_c)
              all_goals first
                | (exfalso; omega)
                | exact hfin' (if_pos hr) (by rfl)
            · have hr : ¬ RightF w q U D := fun h => h4 (by rw [← hmul]; exact h.2.2.2)
              generalize U.flatten.length = uf at *
              generalize D.flatten.length = df at *
              repeat' first
 | (apply s_mov; exact aW)
 | (apply s_gT; exact rfl)
 | (apply c_nil)
 | (apply s_pickF; exact rfl; exact aW)
 | (apply s_notT; exact rfl)
 | (apply s_lss; exact rfl; all_goals (intro _; try (exfalso; omega)))
 | (apply s_gtr; exact rfl; all_goals (intro _; try (exfalso; omega)))
 | (apply s_neq; exact rfl; all_goals (intro _; try (exfalso; omega)))
 | (apply s_en; exact aO; exact hb0 _)
 | (apply s_cn; exact aO; exact e52 _)
 | (apply s_pn; exact aO; exact q0 _)
 | (apply s_pn; exact aO; exact q1 _)
 | (apply s_pn; exact aO; exact p0)
 | (apply s_pn; exact aO; exact p1)
 | (apply s_cn; exact aO; exact ea _)
 | (apply s_cn; exact aO; exact eb _)
 | (apply s_add; exact rfl; omega)
 | (apply s_sub; exact rfl; omega)
 | (apply s_mulN; exact rfl; omega)
 | (apply s_len; exact aW; exact aI)
 | (apply s_lenLL; exact aW; assumption)
 | (apply s_pd; exact aW)
 | (apply c_seq)
 | (apply c_reg)
 | (apply c_skip)
 | (apply c_ret)
 | (apply c_condT; exact rfl)
 | (apply c_condF; exact rfl)
 | (with_reducible apply k_c)
              all_goals first
                | (exfalso; omega)
                | exact hfin' (if_neg hr) (by rfl)
          · have hr : ¬ RightF w q U D := fun h => h1 h.1
            generalize U.flatten.length = uf at *
            generalize D.flatten.length = df at *
            repeat' first
 | (apply s_mov; exact aW)
 | (apply s_gT; exact rfl)
 | (apply s_gF; exact rfl)
 | (apply c_nil)
 | (apply s_pickT; exact rfl; exact aW)
 | (apply s_pickF; exact rfl; exact aW)
 | (apply s_notT; exact rfl)
 | (apply s_lss; exact rfl; all_goals (intro _; try (exfalso; omega)))
 | (apply s_gtr; exact rfl; all_goals (intro _; try (exfalso; omega)))
 | (apply s_en; exact aO; exact hb0 _)
 | (apply s_cn; exact aO; exact e52 _)
 | (apply s_pn; exact aO; exact q0 _)
 | (apply s_pn; exact aO; exact q1 _)
 | (apply s_pn; exact aO; exact p0)
 | (apply s_pn; exact aO; exact p1)
 | (apply s_cn; exact aO; exact ea _)
 | (apply s_cn; exact aO; exact eb _)
 | (apply s_lenLL; exact aW; assumption)
 | (apply s_pd; exact aW)
 | (apply c_seq)
 | (apply c_reg)
 | (apply c_skip)
 | (apply c_ret)
 | (apply c_condT; exact rfl)
 | (apply c_condF; exact rfl)
 | (with_reducible apply k_c)
            all_goals first
              | (exfalso; omega)
              | exact hfin' (if_neg hr) (by rfl)
        · simp only [if_neg h3] at eb
          have hr : ¬ RightF w q U D := fun h => h3 h.2.2.1
          repeat' first
 | (apply s_mov; exact aW)
 | (apply s_gT; exact rfl)
 | (apply s_gF; exact rfl)
 | (apply c_nil)
 | (apply s_pickT; exact rfl; exact aW)
 | (apply s_pickF; exact rfl; exact aW)
 | (apply s_notT; exact rfl)
 | (apply s_notF; exact rfl)
 | (apply s_lss; exact rfl; all_goals (intro _; try (exfalso; omega)))
 | (apply s_gtr; exact rfl; all_goals (intro _; try (exfalso; omega)))
 | (apply s_en; exact aO; exact hb0 _)
 | (apply s_cn; exact aO; exact e52 _)
 | (apply s_pn; exact aO; exact q0 _)
 | (apply s_pn; exact aO; exact q1 _)
 | (apply s_pn; exact aO; exact p0)
 | (apply s_pn; exact aO; exact p1)
 | (apply s_cn; exact aO; exact ea _)
 | (apply s_cn; exact aO; exact eb _)
 | (apply s_pd; exact aW)
 | (apply c_seq)
 | (apply c_reg)
 | (apply c_skip)
 | (apply c_ret)
 | (apply c_condT; exact rfl)
 | (apply c_condF; exact rfl)
 | (with_reducible apply k_c)
          all_goals first
            | (exfalso; omega)
            | exact hfin' (if_neg hr) (by rfl)
      · simp only [if_neg h2] at ea
        have hr : ¬ RightF w q U D := fun h => h2 h.2.1
        by_cases h3 : Chs w false D
        · simp only [if_pos h3] at eb
          repeat' first
 | (apply s_mov; exact aW)
 | (apply s_gT; exact rfl)
 | (apply s_gF; exact rfl)
 | (apply c_nil)
 | (apply s_pickT; exact rfl; exact aW)
 | (apply s_pickF; exact rfl; exact aW)
 | (apply s_notT; exact rfl)
 | (apply s_notF; exact rfl)
 | (apply s_lss; exact rfl; all_goals (intro _; try (exfalso; omega)))
 | (apply s_gtr; exact rfl; all_goals (intro _; try (exfalso; omega)))
 | (apply s_en; exact aO; exact hb0 _)
 | (apply s_cn; exact aO; exact e52 _)
 | (apply s_pn; exact aO; exact q0 _)
 | (apply s_pn; exact aO; exact q1 _)
 | (apply s_pn; exact aO; exact p0)
 | (apply s_pn; exact aO; exact p1)
 | (apply s_cn; exact aO; exact ea _)
 | (apply s_cn; exact aO; exact eb _)
 | (apply s_pd; exact aW)
 | (apply c_seq)
 | (apply c_reg)
 | (apply c_skip)
 | (apply c_ret)
 | (apply c_condT; exact rfl)
 | (apply c_condF; exact rfl)
 | (with_reducible apply k_c)
          all_goals first
            | (exfalso; omega)
            | exact hfin' (if_neg hr) (by rfl)
        · simp only [if_neg h3] at eb
          repeat' first
 | (apply s_mov; exact aW)
 | (apply s_gT; exact rfl)
 | (apply s_gF; exact rfl)
 | (apply c_nil)
 | (apply s_pickT; exact rfl; exact aW)
 | (apply s_pickF; exact rfl; exact aW)
 | (apply s_notT; exact rfl)
 | (apply s_notF; exact rfl)
 | (apply s_lss; exact rfl; all_goals (intro _; try (exfalso; omega)))
 | (apply s_gtr; exact rfl; all_goals (intro _; try (exfalso; omega)))
 | (apply s_en; exact aO; exact hb0 _)
 | (apply s_cn; exact aO; exact e52 _)
 | (apply s_pn; exact aO; exact q0 _)
 | (apply s_pn; exact aO; exact q1 _)
 | (apply s_pn; exact aO; exact p0)
 | (apply s_pn; exact aO; exact p1)
 | (apply s_cn; exact aO; exact ea _)
 | (apply s_cn; exact aO; exact eb _)
 | (apply s_pd; exact aW)
 | (apply c_seq)
 | (apply c_reg)
 | (apply c_skip)
 | (apply c_ret)
 | (apply c_condT; exact rfl)
 | (apply c_condF; exact rfl)
 | (with_reducible apply k_c)
          all_goals first
            | (exfalso; omega)
            | exact hfin' (if_neg hr) (by rfl)
    · have hn : ¬ (IsW w ∧ 1 ≤ k ∧ k ≤ 60) := fun h => hk h.2
      repeat' first
 | (apply s_mov; exact aW)
 | (apply s_gT; exact rfl)
 | (apply s_gF; exact rfl)
 | (apply c_nil)
 | (apply s_pickT; exact rfl; exact aW)
 | (apply s_pickF; exact rfl; exact aW)
 | (apply s_notT; exact rfl)
 | (apply s_lss; exact rfl; all_goals (intro _; try (exfalso; omega)))
 | (apply s_gtr; exact rfl; all_goals (intro _; try (exfalso; omega)))
 | (apply s_en; exact aO; exact hb0 _)
 | (apply s_cn; exact aO; exact e52 _)
 | (apply c_seq)
 | (apply c_reg)
 | (apply c_ret)
 | (apply c_condT; exact rfl)
 | (with_reducible apply k_c)
      all_goals first
        | (exfalso; omega)
        | exact hfin (if_neg hn) (by rfl)
  · have hn : ¬ (IsW w ∧ 1 ≤ k ∧ k ≤ 60) := fun h => hw h.1
    simp only [hw, decide_false] at e52
    repeat' first
 | (apply s_mov; exact aW)
 | (apply s_gF; exact rfl)
 | (apply c_nil)
 | (apply s_pickT; exact rfl; exact aW)
 | (apply s_notF; exact rfl)
 | (apply s_en; exact aO; exact hb0 _)
 | (apply s_cn; exact aO; exact e52 _)
 | (apply c_seq)
 | (apply c_reg)
 | (apply c_ret)
 | (apply c_condT; exact rfl)
 | (with_reducible apply k_c)
    all_goals first
      | (exfalso; omega)
      | exact hfin (if_neg hn) (by rfl)
theorem c39 {x u v : AV} {w : List Int} {U D : List (List Int)} {k : Int} (hx : IsL x w) (hu : IsLL u U) (hv : IsLL v D) (hwl : w.length ≤ 61) (hU : U.length ≤ 200 ∧ ∀ c ∈ U, c.length ≤ 200) (hD : D.length ≤ 200 ∧ ∀ c ∈ D, c.length ≤ 200) {m : Nat} (hm : 2200 ≤ m) (H : Heap) : callPure (evF tab it m) true 39 [x, .int .i64 k, .agg [u, v]] H = some (.int .i64 (ans39 w k U D), H) :=
  callPure_free (by simp [idFreeL, AV.idFree, hx.free, hu.free, hv.free]) (by simp) (f39 hx hu hv hwl hU hD hm) rfl
end Go.AM.Tb
