/- A part of the proof: T8. -/
import Derived.Test.YtdgkchedoooffaaT7
import Derived.Test.YtdgkchedoooffaaTG2
set_option linter.unusedVariables false
set_option linter.unusedSimpArgs false
set_option linter.unusedSectionVars false
namespace Go.AM.Tb
set_option maxHeartbeats 2000000
theorem pickO_get {H : Heap} : ∀ (φ : List Nat), (∀ i ∈ φ, i < H.length) → ∃ R, pickO H φ = some R ∧ R.length = φ.length ∧ ∀ j i : Nat, φ[j]? = some i → R[j]? = H[i]?
  | [], _ => ⟨[], rfl, rfl, by simp⟩
  | i :: φ, h => by
    obtain ⟨R, h1, h2, h3⟩ := pickO_get φ fun z hz => h z (by simp [hz])
    have hi := h i (by simp)
    refine ⟨H[i] :: R, by simp [pickO, hi, h1], by simp [h2], fun j z hj => ?_⟩
    cases j with
    | zero => simp at hj; subst hj; simp [hi]
    | succ j => simpa using h3 j z (by simpa using hj)
theorem posOf_idx {φ : List Nat} (hφ : nodupB φ = true) {i : Nat} (h : i ∈ φ) : posOf φ i = some (φ.idxOf i) := by
  refine posOf_of_get hφ ?_
  have : φ.idxOf i < φ.length := List.idxOf_lt_length_of_mem h
  rw [List.getElem?_eq_getElem this, List.getElem_idxOf this]
theorem idx_inj {φ : List Nat} {i j : Nat} (hi : i ∈ φ) (hj : j ∈ φ) (h : φ.idxOf i = φ.idxOf j) : i = j := by
  have h1 : φ.idxOf i < φ.length := List.idxOf_lt_length_of_mem hi
  have h2 : φ.idxOf j < φ.length := List.idxOf_lt_length_of_mem hj
  have e1 := List.getElem_idxOf h1
  have e2 := List.getElem_idxOf h2
  rw [← e1, ← e2]
  simp only [h]
theorem fin_lb {k : Nat} {H : Heap} {φ : List Nat} {a : Nat} {is : List Nat} {P : List (List Int)} {c : Int} (hr : reach H 400 (rangeL k []) (roots H (rangeL k []) ++ [.tup [.sl a 1 0 P.length, .int .i64 c]]) = φ) (hn : φ.Nodup) (hlt : ∀ i ∈ φ, i < H.length)
    (h : LB H a is P) (hsub : ∀ i ∈ a :: is, i ∈ φ) (hpl : ∀ i ∈ φ, i ≠ a → ∀ o, H[i]? = some o → o = none ∨ ∃ c, o = some (.data c)) :
    ∃ R a' is', gc k [.tup [.sl a 1 0 P.length, .int .i64 c]] H = some ([.tup [.sl a' 1 0 P.length, .int .i64 c]], R) ∧ LB R a' is' P ∧ PL R a' ∧ R.length = φ.length := by
  have hφ := nodupB_iff.2 hn
  obtain ⟨R, p1, p2, p3⟩ := pickO_get φ hlt
  have hpos := fun i (hi : i ∈ a :: is) => posOf_idx hφ (hsub i hi)
  have hren : renL (posOf φ) (refs is (P.map iL)) = some (refs (is.map φ.idxOf) (P.map iL)) := renL_refs_f _ _ fun i hi => hpos i (by simp [hi])
  have hget : ∀ i ∈ φ, R[φ.idxOf i]? = H[i]? := fun i hi => p3 _ _ (by
    have : φ.idxOf i < φ.length := List.idxOf_lt_length_of_mem hi
    rw [List.getElem?_eq_getElem this, List.getElem_idxOf this])
  have ha : a ∈ φ := hsub a (by simp)
  have hb : R[φ.idxOf a]? = some (some (.box (refs is (P.map iL)))) := (hget a ha).trans h.bx
  have hal : φ.idxOf a < R.length := (List.getElem?_eq_some_iff.1 hb).1
  have hPL : PL R (φ.idxOf a) := fun j o hj ho => by
    have hjl := (List.getElem?_eq_some_iff.1 ho).1
    rw [p2] at hjl
    have e := p3 j φ[j] (List.getElem?_eq_getElem hjl)
    refine hpl φ[j] (List.getElem_mem hjl) (fun e' => hj ?_) o (e.symm.trans ho)
    have h1 : φ.idxOf a < φ.length := by omega
    have h2 := List.getElem_idxOf h1
    exact ((List.getElem_inj hn).1 (h2.trans e'.symm)).symm
  have hos := renH_pl (f := posOf φ) hren hPL (fun _ => hb)
  refine ⟨R.set (φ.idxOf a) (some (.box (refs (is.map φ.idxOf) (P.map iL)))), φ.idxOf a, is.map φ.idxOf, ?_, ⟨?_, by simpa using h.ln, fun j i hj => ?_, ?_⟩, fun i o hi ho => ?_, by simpa using p2⟩
  · refine gc_of hr hφ ?_ p1 hos
    simp [renL, AV.ren, idFreeL, AV.idFree, hpos a (by simp)]
  · exact List.getElem?_set_self hal
  · rw [List.getElem?_map] at hj
    obtain ⟨z, hz, rfl⟩ := Option.map_eq_some_iff.1 hj
    have hzm := List.mem_of_getElem? hz
    have hza : φ.idxOf z ≠ φ.idxOf a := fun e => (List.nodup_cons.1 h.nd).1 (idx_inj (hsub z (by simp [hzm])) ha e ▸ hzm)
    rw [List.getElem?_set_ne (Ne.symm hza), hget z (hsub z (by simp [hzm]))]
    exact h.rw j z hz
  · have : φ.idxOf a :: is.map φ.idxOf = (a :: is).map φ.idxOf := rfl
    rw [this]
    have hnd := h.nd
    rw [List.nodup_iff_pairwise_ne] at hnd ⊢
    rw [List.pairwise_map]
    exact List.Pairwise.imp_of_mem (fun {x y} hx hy hne e => hne (idx_inj (hsub x hx) (hsub y hy) e)) hnd
  · rw [List.getElem?_set_ne (Ne.symm hi)] at ho
    exact hPL i o hi ho
theorem rangeL_eq : ∀ (k : Nat) (acc : List Nat), rangeL k acc = List.range k ++ acc
  | 0, acc => by simp [rangeL]
  | k + 1, acc => by rw [rangeL, rangeL_eq k, List.range_succ]; simp
theorem rangeL_cons (n : Nat) : rangeL (n + 1) [] = 0 :: List.range' 1 n := by
  rw [rangeL_eq, List.append_nil, List.range_eq_range', List.range'_succ]
theorem reach_in {H : Heap} : ∀ (is : List Nat) (ll : List (List AV)) (k : Nat) (acc : List Nat) (r : List AV), is.length = ll.length → (∀ i ∈ is, i ∈ acc) → reach H (k + is.length) acc (refs is ll ++ r) = reach H k acc r
  | [], [], k, acc, r, _, _ => rfl
  | [], _ :: _, k, acc, r, h, _ => by simp at h
  | _ :: _, [], k, acc, r, h, _ => by simp at h
  | i :: is, l :: ll, k, acc, r, h, ha => by
    simp only [refs, List.cons_append, List.length_cons]
    rw [← Nat.add_assoc, reach_new, if_pos (by simpa using ha i (by simp))]
    exact reach_in is ll k acc r (by simpa using h) fun z hz => ha z (by simp [hz])
theorem roots_none {H : Heap} : ∀ {l : List Nat}, (∀ i ∈ l, boxCells H i = []) → roots H l = []
  | [], _ => rfl
  | i :: l, h => by simp only [roots, h i (by simp), List.nil_append]; exact roots_none fun z hz => h z (by simp [hz])
def HX (P : List (List Int)) (x : Int) : Heap := HB P ++ [some (.data [.int .i64 x])]
theorem hx_len (P x) : (HX P x).length = P.length + 2 := by simp [HX, hbs_len]
theorem hx_lb (P x) : LB (HX P x) 0 (List.range' 1 P.length) P := lb_hb P _
theorem hx_x (P x) : (HX P x)[P.length + 1]? = some (some (.data [.int .i64 x])) := by
  unfold HX
  rw [List.getElem?_append_right (by rw [hbs_len]; omega), hbs_len]
  simp
theorem roots_lb {H : Heap} {P : List (List Int)} (h : LB H 0 (List.range' 1 P.length) P) : roots H (rangeL (P.length + 1) []) = refs (List.range' 1 P.length) (P.map iL) := by
  rw [rangeL_cons]
  simp only [roots]
  rw [h.box, roots_none (rows_box h.lnm h.rows), List.append_nil]
theorem gcX {H : Heap} {P : List (List Int)} {x : Int} {b : Nat} {u w : Int} (h : LB H 0 (List.range' 1 P.length) P) (hb : H[b]? = some (some (.data [.int .i64 x]))) (hbn : P.length < b) (hk : P.length ≤ 100) :
    gc (P.length + 1) [.sl 0 1 0 P.length, .ptr b 0, .sl 0 1 0 P.length, .int .i64 u, .int .i64 w] H = some ([.sl 0 1 0 P.length, .ptr (P.length + 1) 0, .sl 0 1 0 P.length, .int .i64 u, .int .i64 w], HX P x) := by
  have hnm : b ∉ (0 :: List.range' 1 P.length) := by simp [List.mem_range'_1]; omega
  have hnd : ((0 :: List.range' 1 P.length) ++ [b]).Nodup := List.nodup_append.2 ⟨h.nd, by simp, fun z hz y hy e => by simp at hy; subst hy; subst e; exact hnm hz⟩
  have hφ := nodupB_iff.2 hnd
  have q1 : posOf ((0 :: List.range' 1 P.length) ++ [b]) 0 = some 0 := posOf_of_get hφ (j := 0) rfl
  have q2 : posOf ((0 :: List.range' 1 P.length) ++ [b]) b = some (P.length + 1) := posOf_of_get hφ (j := P.length + 1) (by
    rw [List.getElem?_append_right (by simp)]; simp)
  have pr : renL (posOf ((0 :: List.range' 1 P.length) ++ [b])) (refs (List.range' 1 P.length) (P.map iL)) = some (refs (List.range' 1 (List.range' 1 P.length).length) (P.map iL)) := renL_refs hφ _ _ 1 h.lnm fun j i hj => by
    have hjl := (List.getElem?_eq_some_iff.1 hj).1
    rw [List.getElem?_append_left (by simp at hjl ⊢; omega), Nat.add_comm]; exact hj
  have hp := h.pick
  refine gc_of (φ := (0 :: List.range' 1 P.length) ++ [b]) ?_ hφ ?_ (Hp := (some (.box (refs (List.range' 1 P.length) (P.map iL))) :: rowsH (P.map iL)) ++ [some (.data [.int .i64 x])]) ?_ ?_
  · rw [roots_lb h, rangeL_cons]
    have hin : (0 :: List.range' 1 P.length).contains 0 = true := by simp
    have hnb : (0 :: List.range' 1 P.length).contains b = false := by simpa using hnm
    have hin2 : (0 :: List.range' 1 P.length ++ [b]).contains 0 = true := by simp
    have hbc : boxCells H b = [] := by simp [boxCells, hb]
    have hl : (List.range' 1 P.length).length = P.length := by simp
    rw [show (400 : Nat) = (400 - P.length) + (List.range' 1 P.length).length by rw [hl]; omega, reach_in _ _ _ _ _ h.lnm (fun i hi => by simp [hi])]
    rw [show 400 - P.length = (395 - P.length) + 1 + 1 + 1 + 1 + 1 by omega, reach_new, if_pos hin, reach_newp, hnb, hbc]
    simp only [Bool.false_eq_true, if_false, List.nil_append]
    rw [reach_new, if_pos hin2, reach_int, reach_int, reach_end]
  · simp only [renL, AV.ren, q1, q2, Option.map_some, Option.bind_some]
  · rw [pickO_append, hp]; simp [pickO, hb]
  · rw [renH_append]
    rw [List.cons_append] at pr
    simp only [renH, renO, pr, renH_rows, HBs, HX, List.length_range', Option.map_some, Option.bind_some, Nat.zero_add, List.cons_append]
end Go.AM.Tb
