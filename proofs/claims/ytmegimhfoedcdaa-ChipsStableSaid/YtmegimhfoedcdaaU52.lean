/- A part of the proof: U52. -/
import Derived.Test.YtmegimhfoedcdaaU51
import Derived.Test.YtmegimhfoedcdaaM3
set_option linter.unusedSectionVars false
set_option linter.unusedVariables false
set_option linter.unusedSimpArgs false
namespace Go.AM.Ch
set_option maxHeartbeats 4000000
/-! ### boards made of any numbers: rows that are written -/
theorem renL_free {f : Nat → Option Nat} : ∀ {gs : List AV}, idFreeL gs = true → renL f gs = some gs
  | [], _ => rfl
  | g :: r, h => by
    simp only [idFreeL, Bool.and_eq_true] at h
    simp only [renL, ren_self h.1, Option.bind_some, renL_free h.2, Option.map_some]
theorem reach_pre {H : Heap} : ∀ (pre : List AV) {k : Nat} {acc : List Nat} {r : List AV}, idFreeL pre = true → reach H (k + pre.length) acc (pre ++ r) = reach H k acc r
  | [], _, _, _, _ => rfl
  | v :: pre, k, acc, r, h => by
    simp only [idFreeL, Bool.and_eq_true] at h
    rw [List.length_cons, ← Nat.add_assoc, List.cons_append, reach_skip h.1]
    exact reach_pre pre h.2
theorem gcR {H : Heap} {pre gs : List AV} {p M : Nat} {is : List Nat} {R : List (List AV)} (hp : idFreeL pre = true) (hpl : pre.length ≤ 20) (hg : idFreeL gs = true)
    (hb : H[p]? = some (some (.box (refs is R)))) (hl : is.length = R.length) (hR : ∀ (j i : Nat) (l : List AV), is[j]? = some i → R[j]? = some l → H[i]? = some (some (.data l))) (hd : (p :: is).Nodup) (hk : is.length < 100) :
    gc 0 (pre ++ .sl p 1 0 M :: gs) H = some (pre ++ .sl 0 1 0 M :: gs, some (.box (refs (List.range' 1 is.length) R)) :: rowsH R) := by
  have hφ : nodupB (p :: is) = true := nodupB_iff.2 hd
  have q1 : posOf (p :: is) p = some 0 := posOf_of_get hφ (j := 0) rfl
  have pr : renL (posOf (p :: is)) (refs is R) = some (refs (List.range' 1 is.length) R) := renL_refs hφ is R 1 hl fun j i h => by rw [Nat.add_comm]; exact h
  have hpick := pickO_refs is R hl hR
  obtain ⟨d1, d2⟩ := List.nodup_cons.1 hd
  refine gc_of (φ := p :: is) ?_ hφ (vs' := pre ++ .sl 0 1 0 M :: gs) ?_ (Hp := some (.box (refs is R)) :: rowsH R) ?_ ?_
  · have b2 : boxCells H p = refs is R := by simp [boxCells, hb]
    have e : reach H 400 (rangeL 0 []) (roots H (rangeL 0 []) ++ (pre ++ .sl p 1 0 M :: gs)) = reach H (399 - pre.length) [p] (refs is R ++ gs) := by
      have h1 : rangeL 0 [] = [] := rfl
      have h2 : roots H (rangeL 0 []) = [] := rfl
      rw [h2, List.nil_append, h1, show (400 : Nat) = (400 - pre.length) + pre.length by omega, reach_pre pre hp, show 400 - pre.length = (399 - pre.length) + 1 by omega, reach_new, b2]
      simp
    rw [e, reach_refs' (by omega) hl (fun i hi => ?_) d2 (rows_box hl hR), reach_free _ _ _ _ hg]
    · rfl
    · have h3 : i ≠ p := fun e => d1 (e ▸ hi)
      simp [h3]
  · rw [renL_append, renL_free hp]
    simp [renL, AV.ren, q1, renL_free hg]
  · simp [pickO, hb, hpick]
  · simp [renH, renO, pr, renH_rows]
/-- n rows in memory -/
def HB (n : Nat) (rows : List (List Int)) : Heap := some (.box (refs (List.range' 1 n) (rows.map iL))) :: rowsH (rows.map iL)
structure Rows (n : Nat) (rows : List (List Int)) : Prop where
  len : rows.length = n
  each : ∀ r ∈ rows, r.length = n
theorem Rows.get {n : Nat} {rows : List (List Int)} (h : Rows n rows) {i : Nat} (hi : i < n) : (getLL rows (i : Int)).length = n := by
  rw [getLL_nat]
  have : i < rows.length := by rw [h.len]; exact hi
  simp only [List.getD, List.getElem?_eq_getElem this, Option.getD_some]
  exact h.each _ (List.getElem_mem this)
theorem rows_at {rows : List (List Int)} {i : Nat} (hi : i < rows.length) : (rows.map iL)[i]? = some (iL (getLL rows (i : Int))) := by
  rw [getLL_nat]
  simp [List.getD, hi]
theorem gcHB {pre gs : List AV} {n M : Nat} {rows : List (List Int)} (h : Rows n rows) (hn : n < 100) (hp : idFreeL pre = true) (hpl : pre.length ≤ 20) (hg : idFreeL gs = true) :
    gc 0 (pre ++ .sl 0 1 0 M :: gs) (HB n rows) = some (pre ++ .sl 0 1 0 M :: gs, HB n rows) := by
  have hl : (List.range' 1 n).length = (rows.map iL).length := by simp [h.len]
  have := gcR (H := HB n rows) (p := 0) (M := M) (is := List.range' 1 n) (R := rows.map iL) hp hpl hg rfl hl (rng_rows0 [some (.box (refs (List.range' 1 n) (rows.map iL)))] rfl) (by simp [List.mem_range'_1, List.nodup_range']) (by simpa using hn)
  simpa [HB] using this
theorem hb_row {n i : Nat} {rows : List (List Int)} (h : Rows n rows) (hi : i < n) : (HB n rows)[1 + i]? = some (some (.data (iL (getLL rows (i : Int))))) := by
  have hil : i < rows.length := by rw [h.len]; exact hi
  have := rng_rows0 [some (.box (refs (List.range' 1 n) (rows.map iL)))] (s := 1) (q := n) (R := rows.map iL) rfl i (1 + i) _ (by rw [List.getElem?_range' hi]; simp) (rows_at hil)
  exact this
theorem hb_ld {n i : Nat} {rows : List (List Int)} (h : Rows n rows) (hi : i < n) : evP (HB n rows) (.ld false 1) [.ptr 0 i] = some (.sl (1 + i) 1 0 n) := by
  have hil : i < rows.length := by rw [h.len]; exact hi
  have hc : Heap.cells? (HB n rows) 0 = some (refs (List.range' 1 n) (rows.map iL)) := rfl
  have hr := refs_get (is := List.range' 1 n) (ll := rows.map iL) (j := i) (i := 1 + i) (by rw [List.getElem?_range' hi]; simp) (rows_at hil)
  rw [iL_len, h.get hi] at hr
  obtain ⟨h1, h2⟩ := List.getElem?_eq_some_iff.1 hr
  have h5 : i + 1 ≤ (refs (List.range' 1 n) (rows.map iL)).length := by omega
  simp only [evP, ldc, getRow, hc, Option.bind_some, if_pos h5]
  rw [List.drop_eq_getElem_cons h1, h2]
  simp [wholeOf]
theorem refs_len : ∀ (is : List Nat) {R S : List (List AV)}, R.map List.length = S.map List.length → refs is R = refs is S
  | [], R, S, _ => by simp [refs]
  | i :: is, [], [], _ => rfl
  | i :: is, [], _ :: _, h => by simp at h
  | i :: is, _ :: _, [], h => by simp at h
  | i :: is, l :: R, k :: S, h => by
    simp only [List.map_cons, List.cons.injEq] at h
    simp [refs, h.1, refs_len is h.2]
/-- one number of one row is written -/
def setLL (rows : List (List Int)) (i j : Nat) (x : Int) : List (List Int) := rows.set i ((getLL rows (i : Int)).set j x)
theorem setLL_rows {n i j : Nat} {x : Int} {rows : List (List Int)} (h : Rows n rows) (hi : i < n) : Rows n (setLL rows i j x) := by
  refine ⟨by simp [setLL, h.len], fun r hr => ?_⟩
  unfold setLL at hr
  rcases List.mem_or_eq_of_mem_set hr with hr | hr
  · exact h.each r hr
  · rw [hr, List.length_set]; exact h.get hi
theorem setLL_get {n i j p q : Nat} {x : Int} {rows : List (List Int)} (h : Rows n rows) (hi : i < n) (hj : j < n) : getI (getLL (setLL rows i j x) (p : Int)) (q : Int) = if p = i ∧ q = j then x else getI (getLL rows (p : Int)) (q : Int) := by
  have hil : i < rows.length := by rw [h.len]; exact hi
  have hrl := h.get hi
  have e : getLL (setLL rows i j x) (p : Int) = if p = i then (getLL rows (i : Int)).set j x else getLL rows (p : Int) := by
    unfold setLL
    rw [getLL_nat, getLL_nat rows p]
    by_cases hp : p = i
    · subst hp; simp [List.getD, hil]
    · rw [if_neg hp]; simp [List.getD, List.getElem?_set_ne (Ne.symm hp)]
  rw [e]
  by_cases hp : p = i
  · subst hp
    rw [if_pos rfl, getI_set (by omega)]
    by_cases hq : q = j
    · rw [if_pos hq, if_pos ⟨rfl, hq⟩]
    · rw [if_neg hq, if_neg (fun h => hq h.2)]
  · rw [if_neg hp, if_neg (fun h => hp h.1)]
theorem hb_st {call : CallF} {n i j : Nat} {x : Int} {rows : List (List Int)} (h : Rows n rows) (hi : i < n) (hj : j < n) : evE call (HB n rows) (.st 1) [.ptr (1 + i) j, .int .i64 x] = some (.undef, HB n (setLL rows i j x)) := by
  have hil : i < rows.length := by rw [h.len]; exact hi
  have h1 := hb_row h hi
  have hd : Heap.data? (HB n rows) (1 + i) = some (iL (getLL rows (i : Int))) := data?_iff.2 h1
  have hst := e_stO (call := call) (H := HB n rows) (id := 1 + i) (l := getLL rows (i : Int)) (i := j) (v := x) hd (by rw [h.get hi]; exact hj)
  rw [hst]
  have e1 : (HB n rows).set (1 + i) (some (.data (iL ((getLL rows (i : Int)).set j x)))) = HB n (setLL rows i j x) := by
    unfold HB
    rw [Nat.add_comm, List.set_cons_succ]
    have e2 : (rowsH (rows.map iL)).set i (some (.data (iL ((getLL rows (i : Int)).set j x)))) = rowsH ((setLL rows i j x).map iL) := by
      simp [rowsH, setLL, List.map_set]
    have e3 : refs (List.range' 1 n) (rows.map iL) = refs (List.range' 1 n) ((setLL rows i j x).map iL) := refs_len _ (by
      refine List.ext_getElem (by simp [setLL]) fun k h1 h2 => ?_
      simp only [List.length_map] at h1
      have hkn : k < n := by rw [← h.len]; exact h1
      have a := h.get hkn
      have c := (setLL_rows (x := x) (j := j) h hi).get hkn
      rw [getLL_nat] at a c
      have h3 : k < (setLL rows i j x).length := by simpa [setLL] using h1
      simp only [List.getD, List.getElem?_eq_getElem h1, List.getElem?_eq_getElem h3, Option.getD_some] at a c
      simp [iL_len, a, c])
    rw [e2, e3]
  rw [e1]
theorem hb_frz {n : Nat} {rows : List (List Int)} (h : Rows n rows) (hn : 1 ≤ n) (hn2 : n ≤ 12) : frzV (HB n rows) 40 (.sl 0 1 0 n) = some (fzLL rows) := by
  have hl : (List.range' 1 n).length = (rows.map iL).length := by simp [h.len]
  have hz := frzL_refs (H := HB n rows) (List.range' 1 n) (rows.map iL) 38 hl (by simp; omega) (rng_rows0 [some (.box (refs (List.range' 1 n) (rows.map iL)))] rfl)
  have hbx : Heap.box? (HB n rows) 0 = some (refs (List.range' 1 n) (rows.map iL)) := rfl
  have hda : Heap.data? (HB n rows) 0 = none := rfl
  have hm : ((rows.map iL).map fun l => AV.rd 1 l.length l) = rows.map fzL := by
    rw [List.map_map]
    refine List.map_congr_left fun r hr => ?_
    have := h.each r hr
    rw [fzL_ne this hn]
    simp [iL_len, this]
  rw [hm] at hz
  have hlen : (rows.map fzL).length = n := by simp [h.len]
  rw [frzV_sl, hda, hbx]
  simp only [Option.none_or, Option.bind_some, hz]
  rw [if_pos (by simp [h.len])]
  have ht : (rows.map fzL).take n = rows.map fzL := List.take_of_length_le (by simp [h.len])
  have hne : rows ≠ [] := fun e => by rw [e] at h; have := h.len; simp at this; omega
  have : fzLL rows = .rd 1 n (rows.map fzL) := by
    cases rows with
    | nil => exact absurd rfl hne
    | cons r rs => have := h.len; simp only [List.length_cons] at this; simp [fzLL, this]
  rw [this]
  simp [ht]
end Go.AM.Ch
