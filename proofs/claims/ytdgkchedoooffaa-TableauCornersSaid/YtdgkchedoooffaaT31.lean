/- A part of the proof: T31. -/
import Derived.Test.YtdgkchedoooffaaT24
set_option linter.unusedVariables false
set_option linter.unusedSimpArgs false
set_option linter.unusedSectionVars false
namespace Go.AM.Tb
set_option maxHeartbeats 4000000
def mdF (x n : Int) : Int := IntKind.i64.wrap ((IntKind.u64.wrap x).tmod (IntKind.u64.wrap n))
theorem u64_pos (x : Int) : 0 ≤ IntKind.u64.wrap x ∧ IntKind.u64.wrap x < 18446744073709551616 := by
  simp [IntKind.wrap, IntKind.bits, IntKind.signed]; omega
theorem mdF_range {x n : Int} (hn : 1 ≤ n ∧ n ≤ 2000) : 0 ≤ mdF x n ∧ mdF x n < n := by
  have h1 := u64_pos x
  have h2 : IntKind.u64.wrap n = n := IntWalk.u64_in n (by omega)
  unfold mdF
  rw [h2, Int.tmod_eq_emod_of_nonneg h1.1]
  have h3 := Int.emod_nonneg (IntKind.u64.wrap x) (show n ≠ 0 by omega)
  have h4 := Int.emod_lt_of_pos (IntKind.u64.wrap x) (show 0 < n by omega)
  rw [IntWalk.i64_in _ (by omega)]
  exact ⟨h3, h4⟩
theorem c33 {x n : Int} (hn : 1 ≤ n ∧ n ≤ 2000) {m : Nat} (hm : 1 ≤ m) (H : Heap) : callPure (evF tab it m) true 33 [.int .i64 x, .int .i64 n] H = some (.int .i64 (mdF x n), H) := by
  refine callPure_free rfl (by simp) (H1 := []) ?_ rfl
  obtain ⟨m, rfl⟩ : ∃ j, m = j + 1 := ⟨m - 1, by omega⟩
  have h2 : IntKind.u64.wrap n = n := IntWalk.u64_in n (by omega)
  have hr : ∀ H, evP H (.bin .rem) [.int .u64 (IntKind.u64.wrap x), .int .u64 (IntKind.u64.wrap n)] = some (.int .u64 ((IntKind.u64.wrap x).tmod (IntKind.u64.wrap n))) := fun H => by
    have : ¬ IntKind.u64.wrap n = 0 := by omega
    simp [evP, binV, isShift, binInt, this]
  refine f_enter rfl rfl ?_
  repeat' first
 | (apply s_mov; exact aW)
 | (apply c_nil)
 | (apply s_pn; exact aO; exact hr _)
 | (apply s_pd; exact aW)
 | (apply c_seq)
 | (apply c_reg)
 | (apply c_ret)
 | (with_reducible apply k_c)
  exact fin_t rfl rfl rfl
theorem p_mn {H : Heap} {a b : Int} : evP H .mn [.int .i64 a, .int .i64 b] = some (.int .i64 (min a b)) := by
  simp only [evP, mnOf]
  congr 2
  rw [Int.min_def]
  split <;> split <;> omega
theorem callPure_own {call : CallF} {f : Nat} {args args' : List AV} {H H1 : Heap} {r v : AV} (ha : frzL H 140 args = some args') (hc : call f args' [] = some (r, H1)) (hr : r.hasRd = false) (hh : (H1.all fun o => !HO.hasRd o) = true) (hf : frzV H1 140 r = some v) :
    callPure call true f args H = some (v, H) := by
  unfold callPure
  rw [ha, Option.bind_some, hc, Option.bind_some]
  dsimp only
  rw [hr, hh, hf]
  simp
theorem frz_row {H : Heap} {id : Nat} {l : List Int} {k : Nat} (h : H[id]? = some (some (.data (iL l)))) {n : Nat} (hn : n ≤ l.length) : frzV H (k + 1) (.sl id 1 0 n) = some (.rd 1 n (iL (l.take n))) := by
  rw [frzV_sl, data?_iff.2 h]
  simp [iL_len, hn, iL, List.map_take]
end Go.AM.Tb
