/- A part of the proof: T7. -/
import Derived.Test.YtdgkchedoooffaaT6
set_option linter.unusedVariables false
set_option linter.unusedSimpArgs false
set_option linter.unusedSectionVars false
namespace Go.AM.Tb
set_option maxHeartbeats 2000000
theorem LB.rows {H a is P} (h : LB H a is P) : ∀ (j i : Nat) (l : List AV), is[j]? = some i → (P.map iL)[j]? = some l → H[i]? = some (some (.data l)) := fun j i l hj hl => by
  rw [h.rw j i hj]
  have hjr : j < P.length := by have := (List.getElem?_eq_some_iff.1 hl).1; simpa using this
  rw [rows_at hjr] at hl
  cases hl
  rfl
theorem LB.lnm {H a is P} (h : LB H a is P) : is.length = (P.map iL).length := by rw [h.ln]; simp
theorem LB.box {H a is P} (h : LB H a is P) : boxCells H a = refs is (P.map iL) := by simp [boxCells, h.bx]
theorem LB.reach {H a is P} (h : LB H a is P) (k : Nat) (hk : is.length < k) (acc : List Nat) (hd : ∀ i ∈ a :: is, i ∉ acc) (o n : Nat) (r : List AV) : reach H k acc (.sl a 1 o n :: r) = reach H (k - (is.length + 1)) (acc ++ a :: is) r := by
  obtain ⟨d1, d2⟩ := List.nodup_cons.1 h.nd
  obtain ⟨k, rfl⟩ : ∃ j, k = j + 1 := ⟨k - 1, by omega⟩
  have hc : acc.contains a = false := by simpa using hd a (by simp)
  rw [reach_new, hc]
  simp only [Bool.false_eq_true, if_false]
  rw [h.box, reach_refs' (by omega) h.lnm (fun i hi => by
    simp only [List.mem_append, List.mem_singleton, not_or]
    exact ⟨hd i (by simp [hi]), fun e => d1 (e ▸ hi)⟩) d2 (rows_box h.lnm h.rows)]
  rw [List.append_assoc, show k + 1 - (is.length + 1) = k - is.length by omega]
  rfl
end Go.AM.Tb
