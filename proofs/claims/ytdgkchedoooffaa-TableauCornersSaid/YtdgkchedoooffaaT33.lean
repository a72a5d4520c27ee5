/- A part of the proof: T33. -/
import Derived.Test.YtdgkchedoooffaaT31
import Derived.Test.YtdgkchedoooffaaT15
import Derived.Test.YtdgkchedoooffaaPc
import Derived.Test.YtdgkchedoooffaaM3
import Derived.Test.YtdgkchedoooffaaTC9
set_option linter.unusedVariables false
set_option linter.unusedSimpArgs false
set_option linter.unusedSectionVars false
namespace Go.AM.Tb
set_option maxHeartbeats 4000000
theorem c26o {v : AV} {s : List Int} (hv : IsL v s) (hl : s.length ≤ 1000) {m : Nat} (hm : 1100 ≤ m) {a : AV} {H : Heap} (ha : frzL H 140 [a] = some [v]) : callPure (evF tab it m) true 26 [a] H = some (ans26 s, H) :=
  callPure_own ha (f26 hv hl hm) (ans26_free s).2 rfl (frzV_free [] 139 (ans26_free s).1)
theorem snoc_get {s : List Int} {x : Int} {i : Nat} : getI (s ++ [x]) (i : Int) = if i < s.length then getI s (i : Int) else if i = s.length then x else 0 := by
  rw [getI_nat, getI_nat]
  simp only [List.getD]
  by_cases h : i < s.length
  · rw [if_pos h, List.getElem?_append_left h]
  · rw [if_neg h, List.getElem?_append_right (by omega)]
    by_cases h2 : i = s.length
    · subst h2; simp
    · rw [if_neg h2, List.getElem?_eq_none (by simp; omega)]; rfl
theorem sh_snocI {s : List Int} {x : Int} (h : IsSh s) (h1 : 1 ≤ x) (h2 : 0 < s.length → x ≤ getI s ((s.length - 1 : Nat) : Int)) : IsSh (s ++ [x]) := by
  intro j hj
  simp only [List.length_append, List.length_singleton] at hj
  rw [snoc_get, snoc_get]
  rcases Nat.lt_or_ge j s.length with h3 | h3
  · rw [if_pos h3, if_pos (by omega)]; exact h j h3
  · obtain rfl : j = s.length := by omega
    rw [if_neg (by omega), if_pos rfl]
    refine ⟨h1, fun h0 => ?_⟩
    rw [if_pos (by omega)]
    exact h2 h0
theorem siz_snocI {s : List Int} {x : Int} : siz (s ++ [x]) = siz s + x.toNat := by
  unfold siz
  rw [List.length_append, List.length_singleton, sN]
  have e : lam (s ++ [x]) s.length = x.toNat := by unfold lam; rw [snoc_get, if_neg (by omega), if_pos rfl]
  rw [e]
  congr 1
  exact sN_congr _ fun i hi => by unfold lam; rw [snoc_get, if_pos hi]
def G38 (r : R) : Prop := ∃ s, IsSh s ∧ siz s ≤ 30 ∧ r = some (oL 0 s, oLH s)
theorem f38 {x : AV} {l : List Int} (hx : IsL x l) {m : Nat} (hm : 100 ≤ m) : G38 (evF tab it m 38 [x, .int .i64 30] []) := by
  obtain ⟨m, rfl⟩ : ∃ j, m = j + 1 := ⟨m - 1, by omega⟩
  have fx := hx.free
  have e33 := fun {x : Int} H => c33 (x := x) (n := 8) (by omega) (m := m) (by omega) H
  refine via_enter rfl rfl ?_
  generalize evF tab it m = call at *
  refine via (res := ?zr0) ?zw0 ?zg0
  case zw0 =>
    repeat' first
 | (apply s_mov; exact aW)
 | (apply c_nil)
 | (apply c_seq)
 | (apply c_reg)
 | (apply c_block)
 | (with_reducible apply k_c)
    exact c_end
  refine loop_P (σ := Nat × List Int) (fun q => [x, .int .i64 30, oL 0 q.2, .int .i64 (siz q.2 : Int), .int .i64 (q.1 : Int)]) (fun q => oLH q.2) (fun q => IsSh q.2 ∧ siz q.2 ≤ 30 ∧ q.2.length = q.1 ∧ q.1 ≤ l.length) (fun q => 40 - q.1) ?_ _ (0, []) _ _ ⟨fun j hj => by simp at hj, by simp [siz, sN], rfl, by dsimp only; omega⟩ (by dsimp only; omega) (gc_to rfl (by simp [idFreeL, AV.idFree, fx, oL]))
  rintro ⟨i, s⟩ ⟨hsh, h30, hi, hil⟩ K hK
  dsimp only at hsh h30 hi hil hK ⊢
  have hls := len_siz hsh
  have g0 : gc 0 [oL 0 s] (oLH s) = some ([oL 0 s], oLH s) := gcO (pre := []) (gs := []) rfl (by simp) rfl
  have hfin : ∀ env s1, look env s1 = oL 0 s → G38 (finish 0 [.t s1] env (oLH s)) := fun env s1 h1 => by
    refine ⟨s, hsh, h30, ?_⟩
    simp only [finish, ress, resOf, h1, tupOf, Option.bind_some, Option.map_some, g0]
    rfl
  by_cases hlt : i < l.length
  · obtain ⟨m1, m2⟩ := mdF_range (x := getI l (i : Int)) (n := 8) (by omega)
    have e33' := fun H => e33 (x := getI l (i : Int)) H
    have pm : ∀ H a b, evP H .mn [.int .i64 a, .int .i64 b] = some (.int .i64 (min a b)) := fun H a b => p_mn
    obtain ⟨y, hy⟩ : ∃ y, y = min (if 0 < i then min (1 + mdF (getI l (i : Int)) 8) (getI s ((i : Int) - 1)) else 1 + mdF (getI l (i : Int)) 8) (30 - (siz s : Int)) := ⟨_, rfl⟩
    have hlast : 0 < i → 1 ≤ getI s ((i : Int) - 1) := fun h0 => by
      have := (hsh (i - 1) (by omega)).1
      rwa [pred_i h0] at this
    have happ : evE call (oLH s) (.app false 1 8) [oL 0 s, .rd 1 1 [.int .i64 y]] = some (.sl (oN s) 1 0 (s.length + 1), oA s y) := e_appO (by omega)
    by_cases hy1 : y < 1
    · by_cases h0 : 0 < i
      · have hoL : oL 0 s = .sl 0 1 0 i := by unfold oL; rw [hi, if_neg (by omega)]
        have hoH : oLH s = [some (.data (iL s))] := by unfold oLH; rw [if_neg (by omega)]
        rw [if_pos h0] at hy
        have p1 : evP (oLH s) (.ld false 1) [.ptr 0 (0 + ((i : Int) - 1).toNat * 1)] = some (.int .i64 (getI s ((i : Int) - 1))) := by
          rw [hoH]; exact p_ldS rfl (by omega)
        have hl1 := hlast h0
        rw [hy] at hy1
        rw [hoL] at hfin g0 ⊢
        generalize mdF (getI l (i : Int)) 8 = d at *
        generalize getI s ((i : Int) - 1) = u at *
        generalize oLH s = H0 at *
        refine via (res := ?zr1) ?zw1 ?zg1
        case zw1 =>
          repeat' first
 | (apply s_mov; exact aW)
 | (apply s_gT; exact rfl)
 | (apply c_nil)
 | (apply s_pickT; exact rfl; exact aW)
 | (apply s_lss; exact rfl; all_goals (intro _; try (exfalso; omega)))
 | (apply s_gtr; exact rfl; all_goals (intro _; try (exfalso; omega)))
 | (apply s_add; exact rfl; omega)
 | (apply s_sub; exact rfl; omega)
 | (apply s_cn; exact aO; exact e33' _)
 | (apply s_pn; exact aO; exact p1)
 | (apply s_pn; exact aO; exact pm _ _ _)
 | (apply c_pre; exact g0)
 | (apply s_len; exact aW; exact aI)
 | (apply s_lenSl; exact rfl)
 | (apply s_idx; exact aW; exact rfl; exact aI; omega)
 | (apply s_idxS; exact rfl; exact rfl; omega)
 | (apply s_ldI; exact rfl; omega)
 | (apply c_seq)
 | (apply c_reg)
 | (apply c_block)
 | (apply c_exitH)
 | (apply c_skip)
 | (apply c_ret)
 | (apply c_condT; exact rfl)
 | (apply c_exitM; exact rfl)
 | (with_reducible apply k_c)
          exact rfl
        exact hfin _ _ rfl
      · obtain rfl : i = 0 := by omega
        have hs0 : s = [] := List.length_eq_zero_iff.1 hi
        subst hs0
        rw [if_neg h0] at hy
        have e3 : siz [] = 0 := rfl
        rw [e3] at hy
        omega
    · have hy2 : siz s + y.toNat ≤ 30 := by
        have : y ≤ 30 - (siz s : Int) := by rw [hy]; exact Int.min_le_right _ _
        omega
      have hsn : IsSh (s ++ [y]) := sh_snocI hsh (by omega) fun h0 => by
        have h0' : 0 < i := by omega
        rw [if_pos h0'] at hy
        rw [hi, pred_i h0', hy]; omega
      have hK' := hK (i + 1, s ++ [y])
      obtain ⟨o1, o2⟩ := oL_snoc s y
      dsimp only at hK'
      rw [o1, o2, siz_snocI, hi] at hK'
      have hsz : ((siz s + y.toNat : Nat) : Int) = (siz s : Int) + y := by omega
      rw [hsz] at hK'
      have g6 : gc 0 ([x, .int .i64 30] ++ .sl (oN s) 1 0 (i + 1) :: [.int .i64 ((siz s : Int) + y), .int .i64 ((i : Int) + 1)]) (oA s y) = some ([x, .int .i64 30] ++ .sl 0 1 0 (i + 1) :: [.int .i64 ((siz s : Int) + y), .int .i64 ((i : Int) + 1)], [some (.data (iL (s ++ [y])))]) := gcD (oA_get _ _) (by simp [idFreeL, AV.idFree, fx]) (by simp) rfl
      rw [hi] at happ
      by_cases h0 : 0 < i
      · have hoL : oL 0 s = .sl 0 1 0 i := by unfold oL; rw [hi, if_neg (by omega)]
        have hoH : oLH s = [some (.data (iL s))] := by unfold oLH; rw [if_neg (by omega)]
        rw [if_pos h0] at hy
        have p1 : evP (oLH s) (.ld false 1) [.ptr 0 (0 + ((i : Int) - 1).toNat * 1)] = some (.int .i64 (getI s ((i : Int) - 1))) := by
          rw [hoH]; exact p_ldS rfl (by omega)
        have hl1 := hlast h0
        have hu : getI s ((i : Int) - 1) ≤ 30 := by
          have := getI_le hsh h30 (i - 1) (by omega)
          rwa [pred_i h0] at this
        rw [hoL] at happ ⊢
        have pmy : ∀ H, evP H .mn [.int .i64 (min (1 + mdF (getI l (i : Int)) 8) (getI s ((i : Int) - 1))), .int .i64 (30 - (siz s : Int))] = some (.int .i64 y) := fun H => by rw [hy]; exact p_mn
        refine via (res := ?zr2) ?zw2 ?zg2
        case zw2 =>
          repeat' first
 | (apply s_mov; exact aW)
 | (apply s_gT; exact rfl)
 | (apply c_nil)
 | (apply s_pickT; exact rfl; exact aW)
 | (apply s_lss; exact rfl; all_goals (intro _; try (exfalso; omega)))
 | (apply s_gtr; exact rfl; all_goals (intro _; try (exfalso; omega)))
 | (apply s_add; exact rfl; omega)
 | (apply s_sub; exact rfl; omega)
 | (apply s_cn; exact aO; exact e33' _)
 | (apply s_pn; exact aO; exact p1)
 | (apply s_pn; exact aO; exact pmy _)
 | (apply s_pn; exact aO; exact pm _ _ _)
 | (apply s_en; exact aO; exact e_bld1 rfl rfl rfl rfl)
 | (apply s_en; exact aO; exact happ)
 | (apply s_len; exact aW; exact aI)
 | (apply s_lenSl; exact rfl)
 | (apply s_idx; exact aW; exact rfl; exact aI; omega)
 | (apply s_idxS; exact rfl; exact rfl; omega)
 | (apply s_ldI; exact rfl; omega)
 | (apply c_seq)
 | (apply c_reg)
 | (apply c_block)
 | (apply c_skip)
 | (apply c_condT; exact rfl)
 | (apply c_condF; exact rfl)
 | (with_reducible apply k_c)
          exact rfl
        exact hK' _ _ ⟨hsn, by omega, by simp; omega, by omega⟩ (by omega) g6
      · obtain rfl : i = 0 := by omega
        have hs0 : s = [] := List.length_eq_zero_iff.1 hi
        subst hs0
        have hoL : oL 0 ([] : List Int) = .nilS := rfl
        rw [if_neg h0] at hy
        rw [hoL] at happ ⊢
        have pmy : ∀ H, evP H .mn [.int .i64 (1 + mdF (getI l ((0 : Nat) : Int)) 8), .int .i64 (30 - (siz [] : Int))] = some (.int .i64 y) := fun H => by rw [hy]; exact p_mn
        refine via (res := ?zr3) ?zw3 ?zg3
        case zw3 =>
          repeat' first
 | (apply s_mov; exact aW)
 | (apply s_gF; exact rfl)
 | (apply c_nil)
 | (apply s_pickF; exact rfl; exact aW)
 | (apply s_lss; exact rfl; all_goals (intro _; try (exfalso; omega)))
 | (apply s_gtr; exact rfl; all_goals (intro _; try (exfalso; omega)))
 | (apply s_add; exact rfl; omega)
 | (apply s_sub; exact rfl; omega)
 | (apply s_cn; exact aO; exact e33' _)
 | (apply s_pn; exact aO; exact pmy _)
 | (apply s_en; exact aO; exact e_bld1 rfl rfl rfl rfl)
 | (apply s_en; exact aO; exact happ)
 | (apply s_len; exact aW; exact aI)
 | (apply s_idx; exact aW; exact rfl; exact aI; omega)
 | (apply s_ldI; exact rfl; omega)
 | (apply c_seq)
 | (apply c_reg)
 | (apply c_block)
 | (apply c_skip)
 | (apply c_condT; exact rfl)
 | (apply c_condF; exact rfl)
 | (with_reducible apply k_c)
          exact rfl
        exact hK' _ _ ⟨hsn, by omega, by simp, by omega⟩ (by omega) g6
  · have hil2 : i = l.length := by omega
    refine via (res := ?zr4) ?zw4 ?zg4
    case zw4 =>
      repeat' first
 | (apply s_mov; exact aW)
 | (apply c_nil)
 | (apply s_lss; exact rfl; all_goals (intro _; try (exfalso; omega)))
 | (apply c_pre; exact g0)
 | (apply s_len; exact aW; exact aI)
 | (apply c_seq)
 | (apply c_reg)
 | (apply c_exitH)
 | (apply c_ret)
 | (apply c_condF; exact rfl)
 | (with_reducible apply k_c)
      exact rfl
    exact hfin _ _ rfl
theorem c38 {x : AV} {l : List Int} (hx : IsL x l) {m : Nat} (hm : 100 ≤ m) : ∃ s, IsSh s ∧ siz s ≤ 30 ∧ ∀ H, callPure (evF tab it m) true 38 [x, .int .i64 30] H = some (fzL s, H) := by
  obtain ⟨s, h1, h2, e⟩ := f38 hx hm
  refine ⟨s, h1, h2, fun H => callPure_frz (by simp [idFreeL, AV.idFree, hx.free]) (by simp) e ?_⟩
  unfold oL oLH
  rcases s with _ | ⟨a, r⟩
  · simp [frzV_nilS, fzL]
  · rw [if_neg (by simp), if_neg (by simp), frz_row rfl (Nat.le_refl _), List.take_length]
    simp [fzL]
end Go.AM.Tb
