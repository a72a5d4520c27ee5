/- A part of the proof: T35. -/
import Derived.Test.YtdgkchedoooffaaT31
import Derived.Test.YtdgkchedoooffaaT15
import Derived.Test.YtdgkchedoooffaaTG5
import Derived.Test.YtdgkchedoooffaaT14
set_option linter.unusedVariables false
set_option linter.unusedSimpArgs false
set_option linter.unusedSectionVars false
namespace Go.AM.Tb
set_option maxHeartbeats 4000000
def tmL (l : List Int) (k : Nat) : List Int := (l.take k).map fun v => mdF v 1001
theorem tmL_get {l : List Int} {k i : Nat} (hi : i < k) (hl : i < l.length) : getI (tmL l k) (i : Int) = mdF (getI l (i : Int)) 1001 := by
  rw [getI_nat, getI_nat]
  simp [tmL, List.getD, List.getElem?_take, hi, hl]
theorem tmL_len (l : List Int) (k : Nat) : (tmL l k).length = min k l.length := by simp [tmL]
theorem take_snocI {l : List Int} {i : Nat} (h : i < l.length) : l.take (i + 1) = l.take i ++ [getI l (i : Int)] := by
  rw [List.take_succ_eq_append_getElem h, getI_nat]; simp [List.getD, h]
theorem frzO {l : List Int} : frzV (oLH l) 140 (oL 0 l) = some (fzL l) := by
  unfold oL oLH
  rcases l with _ | ⟨a, r⟩
  · simp [frzV_nilS, fzL]
  · rw [if_neg (by simp), if_neg (by simp), frz_row rfl (Nat.le_refl _), List.take_length]
    simp [fzL]
theorem f32 {x : AV} {l : List Int} (hx : IsL x l) {k : Nat} (hk : k ≤ 60) {m : Nat} (hm : 100 ≤ m) : evF tab it m 32 [x, .int .i64 (k : Int)] [] = some (oL 0 (tmL l k), oLH (tmL l k)) := by
  obtain ⟨m, rfl⟩ : ∃ j, m = j + 1 := ⟨m - 1, by omega⟩
  have fx := hx.free
  have e33 := fun {x : Int} H => c33 (x := x) (n := 1001) (by omega) (m := m) (by omega) H
  have hlen := tmL_len l k
  generalize hR : some (oL 0 (tmL l k), oLH (tmL l k)) = res
  refine f_enter rfl rfl ?_
  generalize evF tab it m = call at *
  repeat' first
 | (apply s_mov; exact aW)
 | (apply c_nil)
 | (apply c_seq)
 | (apply c_reg)
 | (apply c_block)
 | (with_reducible apply k_c)
  refine c_loop ?_
  refine loop_gc (σ := Nat) (fun i => [x, .int .i64 (k : Int), oL 0 ((tmL l k).take i), .int .i64 (i : Int)]) (fun i => oLH ((tmL l k).take i)) (fun i => i ≤ (tmL l k).length) (fun i => (tmL l k).length - i) ?_ _ 0 _ _ (by omega) (by omega) (gc_to rfl (by simp [idFreeL, AV.idFree, fx, oL]))
  intro i hi K hK
  have htl : ((tmL l k).take i).length = i := by rw [List.length_take]; omega
  by_cases his : i < (tmL l k).length
  · have hg := tmL_get (l := l) (k := k) (i := i) (by omega) (by omega)
    have hK' := hK (i + 1)
    rw [take_snocI his, hg] at hK'
    obtain ⟨o1, o2⟩ := oL_snoc ((tmL l k).take i) (mdF (getI l (i : Int)) 1001)
    rw [o1, o2, htl] at hK'
    have happ := e_appO (call := call) (l := (tmL l k).take i) (v := mdF (getI l (i : Int)) 1001) (q := 8) (by omega)
    rw [htl] at happ
    have g6 : gc 0 ([x, .int .i64 (k : Int)] ++ .sl (oN ((tmL l k).take i)) 1 0 (i + 1) :: [.int .i64 ((i : Int) + 1)]) (oA ((tmL l k).take i) (mdF (getI l (i : Int)) 1001)) = some ([x, .int .i64 (k : Int)] ++ .sl 0 1 0 (i + 1) :: [.int .i64 ((i : Int) + 1)], [some (.data (iL ((tmL l k).take i ++ [mdF (getI l (i : Int)) 1001])))]) := gcD (oA_get _ _) (by simp [idFreeL, AV.idFree, fx]) (by simp) rfl
    have e33' := fun H => e33 (x := getI l (i : Int)) H
    generalize (tmL l k).take i = t at *
    generalize oL 0 t = v at *
    generalize oLH t = H0 at *
    repeat' first
 | (apply s_mov; exact aW)
 | (apply s_gT; exact rfl)
 | (apply c_nil)
 | (apply s_pickT; exact rfl; exact aW)
 | (apply s_lss; exact rfl; all_goals (intro _; try (exfalso; omega)))
 | (apply s_add; exact rfl; omega)
 | (apply s_cn; exact aO; exact e33' _)
 | (apply s_en; exact aO; exact e_bld1 rfl rfl rfl rfl)
 | (apply s_en; exact aO; exact happ)
 | (apply s_len; exact aW; exact aI)
 | (apply s_idx; exact aW; exact rfl; exact aI; omega)
 | (apply s_ldI; exact rfl; omega)
 | (apply c_seq)
 | (apply c_reg)
 | (apply c_block)
 | (apply c_skip)
 | (apply c_condT; exact rfl)
 | (with_reducible apply k_c)
    exact hK' _ _ (by omega) (by omega) g6
  · obtain rfl : i = (tmL l k).length := by omega
    rw [List.take_length] at *
    have g0 : gc 0 [oL 0 (tmL l k)] (oLH (tmL l k)) = some ([oL 0 (tmL l k)], oLH (tmL l k)) := gcO (pre := []) (gs := []) rfl (by simp) rfl
    have hfin : ∀ env s1, look env s1 = oL 0 (tmL l k) → finish 0 [.t s1] env (oLH (tmL l k)) = res := fun env s1 h1 => by
      rw [← hR]
      simp only [finish, ress, resOf, h1, tupOf, Option.bind_some, Option.map_some, g0]
      rfl
    generalize hn : (tmL l k).length = n at *
    generalize oL 0 (tmL l k) = v at *
    generalize oLH (tmL l k) = H0 at *
    by_cases hnl : n < l.length
    · skip
      repeat' first
 | (apply s_mov; exact aW)
 | (apply s_gT; exact rfl)
 | (apply c_nil)
 | (apply s_pickT; exact rfl; exact aW)
 | (apply s_lss; exact rfl; all_goals (intro _; try (exfalso; omega)))
 | (apply c_pre; exact g0)
 | (apply s_len; exact aW; exact aI)
 | (apply c_seq)
 | (apply c_reg)
 | (apply c_exitH)
 | (apply c_ret)
 | (apply c_condF; exact rfl)
 | (with_reducible apply k_c)
      exact hfin _ _ rfl
    · skip
      repeat' first
 | (apply s_mov; exact aW)
 | (apply s_gF; exact rfl)
 | (apply c_nil)
 | (apply s_pickF; exact rfl; exact aW)
 | (apply s_lss; exact rfl; all_goals (intro _; try (exfalso; omega)))
 | (apply c_pre; exact g0)
 | (apply s_len; exact aW; exact aI)
 | (apply c_seq)
 | (apply c_reg)
 | (apply c_exitH)
 | (apply c_ret)
 | (apply c_condF; exact rfl)
 | (with_reducible apply k_c)
      exact hfin _ _ rfl
theorem c32 {x : AV} {l : List Int} (hx : IsL x l) {k : Nat} (hk : k ≤ 60) {m : Nat} (hm : 100 ≤ m) (H : Heap) : callPure (evF tab it m) true 32 [x, .int .i64 (k : Int)] H = some (fzL (tmL l k), H) :=
  callPure_frz (by simp [idFreeL, AV.idFree, hx.free]) (by simp) (f32 hx hk hm) frzO
end Go.AM.Tb
