/- A part of the proof: T6. -/
import Derived.Test.YtdgkchedoooffaaT4
set_option linter.unusedVariables false
set_option linter.unusedSimpArgs false
set_option linter.unusedSectionVars false
namespace Go.AM.Tb
set_option maxHeartbeats 2000000
theorem reach_pre {H : Heap} : ∀ (pre : List AV) {k : Nat} {acc : List Nat} {r : List AV}, idFreeL pre = true → reach H (k + pre.length) acc (pre ++ r) = reach H k acc r
  | [], _, _, _, _ => rfl
  | v :: pre, k, acc, r, h => by
    simp only [idFreeL, Bool.and_eq_true] at h
    rw [List.length_cons, ← Nat.add_assoc, List.cons_append, reach_skip h.1]
    exact reach_pre pre h.2
theorem rows_at {rows : List (List Int)} {i : Nat} (hi : i < rows.length) : (rows.map iL)[i]? = some (iL (getLL rows (i : Int))) := by
  rw [getLL_nat]
  simp [List.getD, hi]
theorem e_stO {call : CallF} {H : Heap} {id : Nat} {l : List Int} {i : Nat} {v : Int} (h : H.data? id = some (iL l)) (hi : i < l.length) : evE call H (.st 1) [.ptr id i, .int .i64 v] = some (.undef, H.set id (some (.data (iL (l.set i v))))) := by
  have := e_stI (call := call) (v := v) (i := (i : Int)) h (by simpa using hi)
  simpa using this
theorem refs_set : ∀ (is : List Nat) (R : List (List AV)) (i a : Nat) (r : List AV), is.length = R.length → (refs is R).set i (.sl a 1 0 r.length) = refs (is.set i a) (R.set i r)
  | [], [], i, a, r, _ => by simp [refs]
  | [], _ :: _, _, _, _, h => by simp at h
  | _ :: _, [], _, _, _, h => by simp at h
  | i0 :: is, l :: R, 0, a, r, h => by simp [refs]
  | i0 :: is, l :: R, i + 1, a, r, h => by simp [refs, refs_set is R i a r (by simpa using h)]
theorem p_ldX {H : Heap} {a j : Nat} {cs : List AV} {v : AV} (h : H[a]? = some (some (.box cs))) (hj : cs[j]? = some v) : evP H (.ld false 1) [.ptr a j] = some v := by
  have hc : Heap.cells? H a = some cs := cells?_iff.2 (.inr h)
  obtain ⟨h1, h2⟩ := List.getElem?_eq_some_iff.1 hj
  have h5 : j + 1 ≤ cs.length := by omega
  simp only [evP, ldc, getRow, hc, Option.bind_some, if_pos h5]
  rw [List.drop_eq_getElem_cons h1, h2]
  simp [wholeOf]
structure LB (H : Heap) (a : Nat) (is : List Nat) (P : List (List Int)) : Prop where
  bx : H[a]? = some (some (.box (refs is (P.map iL))))
  ln : is.length = P.length
  rw : ∀ j i : Nat, is[j]? = some i → H[i]? = some (some (.data (iL (getLL P (j : Int)))))
  nd : (a :: is).Nodup
theorem LB.ld {H a is P} (h : LB H a is P) {j i : Nat} (hj : is[j]? = some i) : evP H (.ld false 1) [.ptr a j] = some (.sl i 1 0 (getLL P (j : Int)).length) := by
  have hjl := (List.getElem?_eq_some_iff.1 hj).1
  have hil : j < P.length := by rw [← h.ln]; exact hjl
  have hr := refs_get hj (rows_at hil)
  rw [iL_len] at hr
  exact p_ldX h.bx hr
theorem getLL_set {P : List (List Int)} {j q : Nat} {r : List Int} (hj : j < P.length) : getLL (P.set j r) (q : Int) = if q = j then r else getLL P (q : Int) := by
  rw [getLL_nat, getLL_nat]
  by_cases h : q = j
  · subst h; simp [List.getD, hj]
  · rw [if_neg h]; simp [List.getD, List.getElem?_set_ne (Ne.symm h)]
theorem LB.inj {H a is P} (h : LB H a is P) {j q i : Nat} (hj : is[j]? = some i) (hq : is[q]? = some i) : j = q := by
  have hn := (List.nodup_cons.1 h.nd).2
  obtain ⟨h1, h2⟩ := List.getElem?_eq_some_iff.1 hj
  obtain ⟨h3, h4⟩ := List.getElem?_eq_some_iff.1 hq
  exact (List.getElem_inj hn).1 (h2.trans h4.symm)
theorem LB.st {H a is P} (h : LB H a is P) {j i k : Nat} {x : Int} (hj : is[j]? = some i) (hk : k < (getLL P (j : Int)).length) :
    (∀ call, evE call H (.st 1) [.ptr i k, .int .i64 x] = some (.undef, H.set i (some (.data (iL ((getLL P (j : Int)).set k x)))))) ∧ LB (H.set i (some (.data (iL ((getLL P (j : Int)).set k x))))) a is (P.set j ((getLL P (j : Int)).set k x)) := by
  have hi := h.rw j i hj
  have hjl := (List.getElem?_eq_some_iff.1 hj).1
  have hjP : j < P.length := by rw [← h.ln]; exact hjl
  have him : i ∈ is := List.mem_of_getElem? hj
  obtain ⟨d1, d2⟩ := List.nodup_cons.1 h.nd
  have hia : i ≠ a := fun e => d1 (e ▸ him)
  refine ⟨fun call => e_stO (data?_iff.2 hi) hk, ?_, by simpa using h.ln, fun q i' hq => ?_, h.nd⟩
  · rw [List.getElem?_set_ne hia, h.bx]
    have : refs is (P.map iL) = refs is ((P.set j ((getLL P (j : Int)).set k x)).map iL) := by
      have e := refs_set is (P.map iL) j i (iL ((getLL P (j : Int)).set k x)) (by simpa using h.ln)
      have e2 : is.set j i = is := by
        obtain ⟨h1, h2⟩ := List.getElem?_eq_some_iff.1 hj
        rw [← h2]; exact List.set_getElem_self h1
      rw [e2, iL_len, List.length_set] at e
      rw [List.map_set, ← e]
      have hr := refs_get hj (rows_at hjP)
      rw [iL_len] at hr
      obtain ⟨h1, h2⟩ := List.getElem?_eq_some_iff.1 hr
      rw [← h2]; exact (List.set_getElem_self h1).symm
    rw [this]
  · rw [getLL_set hjP]
    by_cases e : q = j
    · subst e
      rw [hj] at hq; cases hq
      rw [if_pos rfl]
      exact List.getElem?_set_self (List.getElem?_eq_some_iff.1 hi).1
    · rw [if_neg e]
      have : i ≠ i' := fun e' => e (h.inj (e' ▸ hq) hj)
      rw [List.getElem?_set_ne this]
      exact h.rw q i' hq
end Go.AM.Tb
