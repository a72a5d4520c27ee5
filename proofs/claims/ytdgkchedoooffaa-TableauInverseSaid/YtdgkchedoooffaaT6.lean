/- A part of the proof: T6. -/
import Derived.Test.YtdgkchedoooffaaT5
set_option linter.unusedVariables false
set_option linter.unusedSimpArgs false
set_option linter.unusedSectionVars false
namespace Go.AM.Tb
set_option maxHeartbeats 2000000
theorem reach_pre {H : Heap} : ∀ (pre : List AV) {k : Nat} {acc : List Nat} {r : List AV}, idFreeL pre = true → reach H (k + pre.length) acc (pre ++ r) = reach H k acc r
  | [], _, _, _, _ => rfl
  | v :: pre, k, acc, r, h => by
    simp only [idFreeL, Bool.and_eq_true] at h
    rw [List.length_cons, ← Nat.add_assoc, List.cons_append, reach_skip h.1]
    exact reach_pre pre h.2
theorem rows_at {rows : List (List Int)} {i : Nat} (hi : i < rows.length) : (rows.map iL)[i]? = some (iL (getLL rows (i : Int))) := by
  rw [getLL_nat]
  simp [List.getD, hi]
theorem e_stO {call : CallF} {H : Heap} {id : Nat} {l : List Int} {i : Nat} {v : Int} (h : H.data? id = some (iL l)) (hi : i < l.length) : evE call H (.st 1) [.ptr id i, .int .i64 v] = some (.undef, H.set id (some (.data (iL (l.set i v))))) := by
  have := e_stI (call := call) (v := v) (i := (i : Int)) h (by simpa using hi)
  simpa using this
theorem rd_isL {n : Nat} {l : List Int} (h : l.length = n) : IsL (.rd 1 n (iL l)) l := by subst h; exact .rd _
theorem refs_set : ∀ (is : List Nat) (R : List (List AV)) (i a : Nat) (r : List AV), is.length = R.length → (refs is R).set i (.sl a 1 0 r.length) = refs (is.set i a) (R.set i r)
  | [], [], i, a, r, _ => by simp [refs]
  | [], _ :: _, _, _, _, h => by simp at h
  | _ :: _, [], _, _, _, h => by simp at h
  | i0 :: is, l :: R, 0, a, r, h => by simp [refs]
  | i0 :: is, l :: R, i + 1, a, r, h => by simp [refs, refs_set is R i a r (by simpa using h)]
theorem p_ldD {H : Heap} {i k : Nat} {l : List Int} (h : H[i]? = some (some (.data (iL l)))) (hk : k < l.length) : evP H (.ld false 1) [.ptr i k] = some (.int .i64 (getI l (k : Int))) := by
  have hc : Heap.cells? H i = some (iL l) := cells?_iff.2 (.inl h)
  have hr : (iL l)[k]? = some (.int .i64 (getI l (k : Int))) := by rw [getI_nat]; simp [iL, List.getD, hk]
  obtain ⟨h1, h2⟩ := List.getElem?_eq_some_iff.1 hr
  have h5 : k + 1 ≤ (iL l).length := by omega
  simp only [evP, ldc, getRow, hc, Option.bind_some, if_pos h5]
  rw [List.drop_eq_getElem_cons h1, h2]
  simp [wholeOf]
theorem p_ldX {H : Heap} {a j : Nat} {cs : List AV} {v : AV} (h : H[a]? = some (some (.box cs))) (hj : cs[j]? = some v) : evP H (.ld false 1) [.ptr a j] = some v := by
  have hc : Heap.cells? H a = some cs := cells?_iff.2 (.inr h)
  obtain ⟨h1, h2⟩ := List.getElem?_eq_some_iff.1 hj
  have h5 : j + 1 ≤ cs.length := by omega
  simp only [evP, ldc, getRow, hc, Option.bind_some, if_pos h5]
  rw [List.drop_eq_getElem_cons h1, h2]
  simp [wholeOf]
theorem putRow_set {cs : List AV} {j : Nat} {v : AV} (hj : j < cs.length) : putRow cs j [v] = cs.set j v := by
  unfold putRow
  rw [List.set_eq_take_append_cons_drop, if_pos hj]
  simp
theorem e_stX {call : CallF} {H : Heap} {a j : Nat} {cs : List AV} {v : AV} (h : H[a]? = some (some (.box cs))) (hj : j < cs.length) (h1 : v.cells = [v]) (h2 : v.one = true) : evE call H (.st 1) [.ptr a j, v] = some (.undef, H.set a (some (.box (cs.set j v)))) := by
  have h5 : j + 1 ≤ cs.length := by omega
  simp only [evE, stAt, h, h1, List.length_singleton, oneL, h2, Bool.and_self, and_self, if_true, if_pos h5, Option.map_some, putRow_set hj]
structure LB (H : Heap) (a : Nat) (is : List Nat) (P : List (List Int)) : Prop where
  bx : H[a]? = some (some (.box (refs is (P.map iL))))
  ln : is.length = P.length
  rw : ∀ j i : Nat, is[j]? = some i → H[i]? = some (some (.data (iL (getLL P (j : Int)))))
  nd : (a :: is).Nodup
theorem LB.lta {H a is P} (h : LB H a is P) : a < H.length := (List.getElem?_eq_some_iff.1 h.bx).1
theorem LB.lt {H a is P} (h : LB H a is P) : ∀ i ∈ a :: is, i < H.length := fun i hi => by
  rcases List.mem_cons.1 hi with rfl | hi
  · exact h.lta
  · obtain ⟨j, hj, rfl⟩ := List.mem_iff_getElem.1 hi
    exact (List.getElem?_eq_some_iff.1 (h.rw j _ (List.getElem?_eq_getElem hj))).1
theorem LB.ld {H a is P} (h : LB H a is P) {j i : Nat} (hj : is[j]? = some i) : evP H (.ld false 1) [.ptr a j] = some (.sl i 1 0 (getLL P (j : Int)).length) := by
  have hjl := (List.getElem?_eq_some_iff.1 hj).1
  have hil : j < P.length := by rw [← h.ln]; exact hjl
  have hr := refs_get hj (rows_at hil)
  rw [iL_len] at hr
  exact p_ldX h.bx hr
theorem LB.get {H a is P} (h : LB H a is P) {j i k : Nat} (hj : is[j]? = some i) (hk : k < (getLL P (j : Int)).length) : evP H (.ld false 1) [.ptr i k] = some (.int .i64 (getI (getLL P (j : Int)) (k : Int))) :=
  p_ldD (h.rw j i hj) hk
theorem LB.keep {H H' a is P} (h : LB H a is P) (he : ∀ i ∈ a :: is, H'[i]? = H[i]?) : LB H' a is P :=
  ⟨(he a (by simp)).trans h.bx, h.ln, fun j i hj => (he i (by simp [List.mem_of_getElem? hj])).trans (h.rw j i hj), h.nd⟩
theorem getLL_set {P : List (List Int)} {j q : Nat} {r : List Int} (hj : j < P.length) : getLL (P.set j r) (q : Int) = if q = j then r else getLL P (q : Int) := by
  rw [getLL_nat, getLL_nat]
  by_cases h : q = j
  · subst h; simp [List.getD, hj]
  · rw [if_neg h]; simp [List.getD, List.getElem?_set_ne (Ne.symm h)]
theorem LB.inj {H a is P} (h : LB H a is P) {j q i : Nat} (hj : is[j]? = some i) (hq : is[q]? = some i) : j = q := by
  have hn := (List.nodup_cons.1 h.nd).2
  obtain ⟨h1, h2⟩ := List.getElem?_eq_some_iff.1 hj
  obtain ⟨h3, h4⟩ := List.getElem?_eq_some_iff.1 hq
  exact (List.getElem_inj hn).1 (h2.trans h4.symm)
theorem LB.st {H a is P} (h : LB H a is P) {j i k : Nat} {x : Int} (hj : is[j]? = some i) (hk : k < (getLL P (j : Int)).length) :
    (∀ call, evE call H (.st 1) [.ptr i k, .int .i64 x] = some (.undef, H.set i (some (.data (iL ((getLL P (j : Int)).set k x)))))) ∧ LB (H.set i (some (.data (iL ((getLL P (j : Int)).set k x))))) a is (P.set j ((getLL P (j : Int)).set k x)) := by
  have hi := h.rw j i hj
  have hjl := (List.getElem?_eq_some_iff.1 hj).1
  have hjP : j < P.length := by rw [← h.ln]; exact hjl
  have him : i ∈ is := List.mem_of_getElem? hj
  obtain ⟨d1, d2⟩ := List.nodup_cons.1 h.nd
  have hia : i ≠ a := fun e => d1 (e ▸ him)
  refine ⟨fun call => e_stO (data?_iff.2 hi) hk, ?_, by simpa using h.ln, fun q i' hq => ?_, h.nd⟩
  · rw [List.getElem?_set_ne hia, h.bx]
    have : refs is (P.map iL) = refs is ((P.set j ((getLL P (j : Int)).set k x)).map iL) := by
      have e := refs_set is (P.map iL) j i (iL ((getLL P (j : Int)).set k x)) (by simpa using h.ln)
      have e2 : is.set j i = is := by
        obtain ⟨h1, h2⟩ := List.getElem?_eq_some_iff.1 hj
        rw [← h2]; exact List.set_getElem_self h1
      rw [e2, iL_len, List.length_set] at e
      rw [List.map_set, ← e]
      have hr := refs_get hj (rows_at hjP)
      rw [iL_len] at hr
      obtain ⟨h1, h2⟩ := List.getElem?_eq_some_iff.1 hr
      rw [← h2]; exact (List.set_getElem_self h1).symm
    rw [this]
  · rw [getLL_set hjP]
    by_cases e : q = j
    · subst e
      rw [hj] at hq; cases hq
      rw [if_pos rfl]
      exact List.getElem?_set_self (List.getElem?_eq_some_iff.1 hi).1
    · rw [if_neg e]
      have : i ≠ i' := fun e' => e (h.inj (e' ▸ hq) hj)
      rw [List.getElem?_set_ne this]
      exact h.rw q i' hq
def growH (H : Heap) (a : Nat) (is : List Nat) (P : List (List Int)) (j i : Nat) (x : Int) : Heap :=
  (H.set i none ++ [some (HO.data (iL (getLL P (j : Int) ++ [x])))]).set a (some (.box (refs (is.set j H.length) ((P.set j (getLL P (j : Int) ++ [x])).map iL))))
theorem LB.app {H a is P} (h : LB H a is P) {j i : Nat} {x : Int} (hj : is[j]? = some i) (hm : (getLL P (j : Int)).length < 1000) :
    (∀ call q, evE call H (.app false 1 q) [.sl i 1 0 (getLL P (j : Int)).length, .rd 1 1 [.int .i64 x]] = some (.sl H.length 1 0 ((getLL P (j : Int)).length + 1), H.set i none ++ [some (.data (iL (getLL P (j : Int) ++ [x])))])) ∧
    (∀ call, evE call (H.set i none ++ [some (HO.data (iL (getLL P (j : Int) ++ [x])))]) (.st 1) [.ptr a j, .sl H.length 1 0 ((getLL P (j : Int)).length + 1)] = some (.undef, growH H a is P j i x)) ∧
    LB (growH H a is P j i x) a (is.set j H.length) (P.set j (getLL P (j : Int) ++ [x])) ∧ (growH H a is P j i x).length = H.length + 1 ∧ ∀ z, z ∉ a :: is → z < H.length → (growH H a is P j i x)[z]? = H[z]? := by
  have hi := h.rw j i hj
  have hjl := (List.getElem?_eq_some_iff.1 hj).1
  have hjP : j < P.length := by rw [← h.ln]; exact hjl
  have him : i ∈ is := List.mem_of_getElem? hj
  obtain ⟨d1, d2⟩ := List.nodup_cons.1 h.nd
  have hia : i ≠ a := fun e => d1 (e ▸ him)
  have hal := h.lta
  have hlen : (H.set i none ++ [some (HO.data (iL (getLL P (j : Int) ++ [x])))]).length = H.length + 1 := by simp
  have hbx : (H.set i none ++ [some (HO.data (iL (getLL P (j : Int) ++ [x])))])[a]? = some (some (.box (refs is (P.map iL)))) := by
    rw [List.getElem?_append_left (by simpa using hal), List.getElem?_set_ne hia, h.bx]
  have hold : ∀ z, z ≠ a → z ≠ i → z < H.length → (growH H a is P j i x)[z]? = H[z]? := fun z h1 h2 h3 => by
    unfold growH
    rw [List.getElem?_set_ne (Ne.symm h1), List.getElem?_append_left (by simpa using h3), List.getElem?_set_ne (Ne.symm h2)]
  refine ⟨fun call q => ?_, fun call => ?_, ⟨?_, by simpa using h.ln, fun q i' hq => ?_, ?_⟩, by simp [growH], fun z hz hzl => ?_⟩
  · have := e_app_sl (call := call) (q := q) (bs := [.int .i64 x]) (n := 1) (data?_iff.2 hi) (iL_len _) (by decide) (by unfold most; omega)
    rw [this]
    simp [iL]
  · have hrl : (refs is (P.map iL)).length = P.length := by rw [refs_length (by simpa using h.ln)]; simp
    rw [e_stX hbx (by omega) rfl rfl]
    have e := refs_set is (P.map iL) j H.length (iL (getLL P (j : Int) ++ [x])) (by simpa using h.ln)
    rw [iL_len, List.length_append, List.length_singleton] at e
    unfold growH
    rw [e, List.map_set]
  · unfold growH
    rw [List.getElem?_set_self (by rw [hlen]; omega)]
  · rw [getLL_set hjP]
    have hi'm : i' ≠ a := fun e => by
      subst e
      rcases List.mem_or_eq_of_mem_set (List.mem_of_getElem? hq) with h1 | h1
      · exact d1 h1
      · omega
    by_cases e : q = j
    · subst e
      rw [List.getElem?_set_self hjl] at hq
      cases hq
      rw [if_pos rfl]
      unfold growH
      rw [List.getElem?_set_ne (by omega), List.getElem?_append_right (by simp)]
      simp
    · rw [if_neg e]
      rw [List.getElem?_set_ne (Ne.symm e)] at hq
      have : i' ≠ i := fun e' => e (h.inj (e' ▸ hq) hj)
      rw [hold i' hi'm this ((List.getElem?_eq_some_iff.1 (h.rw q i' hq)).1)]
      exact h.rw q i' hq
  · refine List.nodup_cons.2 ⟨fun hm' => ?_, ?_⟩
    · rcases List.mem_or_eq_of_mem_set hm' with h1 | h1
      · exact d1 h1
      · omega
    · have hlt : ∀ z ∈ is, z < H.length := fun z hz => h.lt z (by simp [hz])
      rw [List.nodup_iff_pairwise_ne, List.pairwise_iff_getElem]
      intro p q hp hq hpq
      simp only [List.length_set] at hp hq
      rw [List.getElem_set, List.getElem_set]
      have hne : is[p] ≠ is[q] := fun e => by
        have := (List.getElem_inj d2).1 e
        omega
      have a1 := hlt _ (List.getElem_mem hp)
      have a2 := hlt _ (List.getElem_mem hq)
      split <;> split <;> omega
  · simp only [List.mem_cons, not_or] at hz
    exact hold z hz.1 (fun e => hz.2 (e ▸ him)) hzl
end Go.AM.Tb
