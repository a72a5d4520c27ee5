/- A part of the proof: U30. -/
import Derived.Test.YtmegimhfoedcdaaU29
set_option linter.unusedSectionVars false
set_option linter.unusedVariables false
set_option linter.unusedSimpArgs false
namespace Go.AM.Ch
set_option maxHeartbeats 8000000
theorem fzL_ne {l : List Int} {n : Nat} (h : l.length = n) (hn : 1 ≤ n) : fzL l = .rd 1 n (iL l) := by
  rcases l with _ | ⟨a, r⟩
  · simp at h; omega
  · subst h; simp [fzL]
theorem e_appT {call : CallF} {H : Heap} {y : AV} {s : List Int} (hy : IsL y s) (h1 : 1 ≤ s.length) (h2 : s.length ≤ 1000) : evE call H (.app true 1 8) [.nilS, y] = some (fzL s, H) := by
  rw [fzL_ne rfl h1]
  have hl := iL_len s
  have hm : s.length ≤ most := by unfold most; omega
  cases hy with
  | nil => simp at h1
  | rd =>
    have h0 : ¬ s = [] := by intro e; subst e; simp at h1
    simp [evE, appOf, szOk, lenOf, rowOf, hl, h0, hm, killRow, newRow, List.take_of_length_le]
theorem c35d {x : AV} {b : List (List Int)} (hx : IsLL x b) (hB : IsB b) {i : Nat} (hi : i < b.length) {m : Nat} (hm : 1020 ≤ m) (H : Heap) : callPure (evF tab it m) true 35 [x, .int .i64 (i : Int)] H = some (.int .i64 (deg b.length (ed b) i), H) := by
  rw [← deg_sumI hB.bd hi]
  have hn := hB.n2
  exact c35 hx hi (by rw [hB.bd.row i hi]; omega) (fun v hv => by have := row_all' hB.bd hi v hv; omega) hm H
where
  row_all' {b : List (List Int)} (hb : Bd b) {i : Nat} (hi : i < b.length) : ∀ v ∈ getLL b (i : Int), 0 ≤ v ∧ v ≤ 3 := fun v hv => by
    obtain ⟨k, hk, e⟩ := List.getElem_of_mem hv
    have := hb.val i k hi (by rw [← hb.row i hi]; exact hk)
    rw [getI_nat] at this
    simpa [List.getD, hk, e] using this
theorem bit_unit {n v : Nat} (hv : v < n) : bitL n (2 ^ v) = (List.replicate n 0).set v 1 := by
  refine ext_getI (by simp [bitL_len]) fun i hi => ?_
  rw [bitL_len] at hi
  rw [bitL_get hi, getI_set (by simpa using hv)]
  have h := bitN_set (S := fun _ => false) (S' := fun j => j == v) (i := v) rfl (fun j => by simp) hv
  rw [bitN_none, Nat.zero_add] at h
  rw [← h, bitN_bit _ hi]
  by_cases e : i = v
  · subst e; simp
  · rw [if_neg (by simpa using e), if_neg e, getI_nat]; simp [List.getD, hi]
theorem pl_one {t : List Int} {n v : Nat} (ht : t.length = n) (hv : v < n) {a : Int} (ha : getI t (v : Int) = a) : pl t ((List.replicate n 0).set v 1) = t.set v (a + 1) := by
  refine ext_getI (by simp [pl_len]) fun i hi => ?_
  rw [pl_len] at hi
  rw [pl_get hi, getI_set (by simpa using hv), getI_set (by omega)]
  by_cases e : i = v
  · subst e; rw [if_pos rfl, if_pos rfl, ha]
  · rw [if_neg e, if_neg e, getI_nat (List.replicate n 0)]; simp [List.getD, show i < n by omega]
end Go.AM.Ch
