/- A part of the proof: T31. -/
import Derived.Test.YtdgkchedoooffaaT24
set_option linter.unusedVariables false
set_option linter.unusedSimpArgs false
set_option linter.unusedSectionVars false
namespace Go.AM.Tb
set_option maxHeartbeats 4000000
def mdF (x n : Int) : Int := IntKind.i64.wrap ((IntKind.u64.wrap x).tmod (IntKind.u64.wrap n))
theorem c33 {x n : Int} (hn : 1 ≤ n ∧ n ≤ 2000) {m : Nat} (hm : 1 ≤ m) (H : Heap) : callPure (evF tab it m) true 33 [.int .i64 x, .int .i64 n] H = some (.int .i64 (mdF x n), H) := by
  refine callPure_free rfl (by simp) (H1 := []) ?_ rfl
  obtain ⟨m, rfl⟩ : ∃ j, m = j + 1 := ⟨m - 1, by omega⟩
  have h2 : IntKind.u64.wrap n = n := IntWalk.u64_in n (by omega)
  have hr : ∀ H, evP H (.bin .rem) [.int .u64 (IntKind.u64.wrap x), .int .u64 (IntKind.u64.wrap n)] = some (.int .u64 ((IntKind.u64.wrap x).tmod (IntKind.u64.wrap n))) := fun H => by
    have : ¬ IntKind.u64.wrap n = 0 := by omega
    simp [evP, binV, isShift, binInt, this]
  refine f_enter rfl rfl ?_
  repeat' first
 | (apply s_mov; exact aW)
 | (apply c_nil)
 | (apply s_pn; exact aO; exact hr _)
 | (apply s_pd; exact aW)
 | (apply c_seq)
 | (apply c_reg)
 | (apply c_ret)
 | (with_reducible apply k_c)
  exact fin_t rfl rfl rfl
theorem frz_row {H : Heap} {id : Nat} {l : List Int} {k : Nat} (h : H[id]? = some (some (.data (iL l)))) {n : Nat} (hn : n ≤ l.length) : frzV H (k + 1) (.sl id 1 0 n) = some (.rd 1 n (iL (l.take n))) := by
  rw [frzV_sl, data?_iff.2 h]
  simp [iL_len, hn, iL, List.map_take]
end Go.AM.Tb
