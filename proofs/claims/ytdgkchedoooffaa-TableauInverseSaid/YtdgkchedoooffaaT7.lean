/- A part of the proof: T7. -/
import Derived.Test.YtdgkchedoooffaaT6
set_option linter.unusedVariables false
set_option linter.unusedSimpArgs false
set_option linter.unusedSectionVars false
namespace Go.AM.Tb
set_option maxHeartbeats 2000000
def HBs (s : Nat) (P : List (List Int)) : Heap := some (.box (refs (List.range' (s + 1) P.length) (P.map iL))) :: rowsH (P.map iL)
abbrev HB (P : List (List Int)) : Heap := HBs 0 P
theorem hbs_len (s : Nat) (P : List (List Int)) : (HBs s P).length = P.length + 1 := by simp [HBs, rowsH]
theorem hbs_row {s : Nat} {P : List (List Int)} {i : Nat} (hi : i < P.length) : (HBs s P)[1 + i]? = some (some (.data (iL (getLL P (i : Int))))) := by
  unfold HBs
  rw [Nat.add_comm 1 i, List.getElem?_cons_succ]
  exact rowsH_get (rows_at hi)
theorem rngn {s n j : Nat} (h : j < n) : (List.range' s n)[j]? = some (s + j) := by rw [List.getElem?_range' h]; simp
theorem lb_at (X Y : Heap) (P : List (List Int)) : LB (X ++ (HBs X.length P ++ Y)) X.length (List.range' (X.length + 1) P.length) P := by
  refine ⟨?_, by simp, fun j i hj => ?_, ?_⟩
  · rw [List.getElem?_append_right (Nat.le_refl _), Nat.sub_self]
    rfl
  · obtain ⟨rfl, hjn⟩ := rng_get hj
    rw [List.getElem?_append_right (by omega), show X.length + 1 + j - X.length = 1 + j by omega, List.getElem?_append_left (by rw [hbs_len]; omega)]
    exact hbs_row hjn
  · rw [List.nodup_cons]
    exact ⟨by simp only [List.mem_range'_1]; omega, List.nodup_range'⟩
theorem lb_hb (P : List (List Int)) (Y : Heap) : LB (HB P ++ Y) 0 (List.range' 1 P.length) P := lb_at [] Y P
theorem LB.rows {H a is P} (h : LB H a is P) : ∀ (j i : Nat) (l : List AV), is[j]? = some i → (P.map iL)[j]? = some l → H[i]? = some (some (.data l)) := fun j i l hj hl => by
  rw [h.rw j i hj]
  have hjr : j < P.length := by have := (List.getElem?_eq_some_iff.1 hl).1; simpa using this
  rw [rows_at hjr] at hl
  cases hl
  rfl
theorem LB.lnm {H a is P} (h : LB H a is P) : is.length = (P.map iL).length := by rw [h.ln]; simp
theorem LB.box {H a is P} (h : LB H a is P) : boxCells H a = refs is (P.map iL) := by simp [boxCells, h.bx]
theorem LB.pick {H a is P} (h : LB H a is P) : pickO H (a :: is) = some (some (.box (refs is (P.map iL))) :: rowsH (P.map iL)) := by
  simp [pickO, h.bx, pickO_refs is _ h.lnm h.rows]
theorem LB.reach {H a is P} (h : LB H a is P) (k : Nat) (hk : is.length < k) (acc : List Nat) (hd : ∀ i ∈ a :: is, i ∉ acc) (o n : Nat) (r : List AV) : reach H k acc (.sl a 1 o n :: r) = reach H (k - (is.length + 1)) (acc ++ a :: is) r := by
  obtain ⟨d1, d2⟩ := List.nodup_cons.1 h.nd
  obtain ⟨k, rfl⟩ : ∃ j, k = j + 1 := ⟨k - 1, by omega⟩
  have hc : acc.contains a = false := by simpa using hd a (by simp)
  rw [reach_new, hc]
  simp only [Bool.false_eq_true, if_false]
  rw [h.box, reach_refs' (by omega) h.lnm (fun i hi => by
    simp only [List.mem_append, List.mem_singleton, not_or]
    exact ⟨hd i (by simp [hi]), fun e => d1 (e ▸ hi)⟩) d2 (rows_box h.lnm h.rows)]
  rw [List.append_assoc, show k + 1 - (is.length + 1) = k - is.length by omega]
  rfl
theorem gc2 {H : Heap} {a b : Nat} {is js : List Nat} {P Q : List (List Int)} (hA : LB H a is P) (hB : LB H b js Q) (hd : ∀ i ∈ b :: js, i ∉ a :: is) (hk : is.length ≤ 100) (hk2 : js.length ≤ 100) {gs : List AV} (hg : idFreeL gs = true) :
    gc 0 (.sl a 1 0 P.length :: .sl b 1 0 Q.length :: gs) H = some (.sl 0 1 0 P.length :: .sl (P.length + 1) 1 0 Q.length :: gs, HB P ++ HBs (P.length + 1) Q) := by
  have hnd : ((a :: is) ++ (b :: js)).Nodup := List.nodup_append.2 ⟨hA.nd, hB.nd, fun x hx y hy e => hd y hy (e ▸ hx)⟩
  have hφ : nodupB ((a :: is) ++ (b :: js)) = true := nodupB_iff.2 hnd
  have q1 : posOf ((a :: is) ++ (b :: js)) a = some 0 := posOf_of_get hφ (j := 0) rfl
  have q2 : posOf ((a :: is) ++ (b :: js)) b = some (P.length + 1) := posOf_of_get hφ (j := P.length + 1) (by
    rw [List.getElem?_append_right (by simp [hA.ln])]; simp [hA.ln])
  have pr : renL (posOf ((a :: is) ++ (b :: js))) (refs is (P.map iL)) = some (refs (List.range' 1 is.length) (P.map iL)) := renL_refs hφ is _ 1 hA.lnm fun j i hj => by
    have hjl := (List.getElem?_eq_some_iff.1 hj).1
    rw [List.getElem?_append_left (by simp; omega), Nat.add_comm]; exact hj
  have pr2 : renL (posOf ((a :: is) ++ (b :: js))) (refs js (Q.map iL)) = some (refs (List.range' (P.length + 2) js.length) (Q.map iL)) := renL_refs hφ js _ (P.length + 2) hB.lnm fun j i hj => by
    have hjl := (List.getElem?_eq_some_iff.1 hj).1
    rw [List.getElem?_append_right (by simp [hA.ln]; omega), List.length_cons, hA.ln, show P.length + 2 + j - (P.length + 1) = j + 1 by omega]; exact hj
  have hp := hA.pick
  have hp2 := hB.pick
  refine gc_of (φ := (a :: is) ++ (b :: js)) ?_ hφ ?_ (Hp := (some (.box (refs is (P.map iL))) :: rowsH (P.map iL)) ++ (some (.box (refs js (Q.map iL))) :: rowsH (Q.map iL))) ?_ ?_
  · have e : reach H 400 (rangeL 0 []) (roots H (rangeL 0 []) ++ (.sl a 1 0 P.length :: .sl b 1 0 Q.length :: gs)) = reach H 400 [] (.sl a 1 0 P.length :: .sl b 1 0 Q.length :: gs) := rfl
    rw [e, hA.reach 400 (by omega) [] (by simp), List.nil_append, hB.reach _ (by omega) _ (fun i hi => hd i hi), reach_free _ _ _ _ hg]
  · simp only [renL, AV.ren, q1, q2, renL_free _ hg, Option.map_some, Option.bind_some]
  · rw [pickO_append, hp, hp2]; rfl
  · rw [renH_append]
    rw [List.cons_append] at pr pr2 ⊢
    simp only [renH, renO, pr, pr2, renH_rows, HBs, hA.ln, hB.ln, Option.map_some, Option.bind_some, Nat.zero_add]
theorem writeBack_spec : ∀ (φ : List Nat) (H os : Heap), φ.Nodup → (∀ i ∈ φ, i < H.length) → φ.length ≤ os.length → ∃ H' : Heap, writeBack H φ os = some H' ∧ H'.length = H.length + (os.length - φ.length) ∧ (∀ j i : Nat, φ[j]? = some i → H'[i]? = os[j]?) ∧ (∀ i : Nat, i < H.length → i ∉ φ → H'[i]? = H[i]?) ∧ (∀ t : Nat, H'[H.length + t]? = os[φ.length + t]?)
  | [], H, os, _, _, _ => ⟨H ++ os, by cases os <;> rfl, by simp, fun j i h => by simp at h, fun i hi _ => by rw [List.getElem?_append_left hi], fun t => by rw [List.getElem?_append_right (by omega)]; simp⟩
  | i :: φ, H, [], _, _, h => by simp at h
  | i :: φ, H, o :: os, hn, hl, h => by
    obtain ⟨n1, n2⟩ := List.nodup_cons.1 hn
    obtain ⟨H', h1, h2, h3, h4, h5⟩ := writeBack_spec φ (H.set i o) os n2 (fun z hz => by simpa using hl z (by simp [hz])) (by simpa using h)
    refine ⟨H', by simpa [writeBack] using h1, by simpa using h2, fun j z hj => ?_, fun z hz hm => ?_, fun t => ?_⟩
    · cases j with
      | zero =>
        simp at hj
        subst hj
        have hil : i < H.length := hl i (by simp)
        rw [h4 i (by simpa using hil) n1, List.getElem?_set_self hil]
        rfl
      | succ j => simpa using h3 j z (by simpa using hj)
    · simp only [List.mem_cons, not_or] at hm
      rw [h4 z (by simpa using hz) hm.2, List.getElem?_set_ne (Ne.symm hm.1)]
    · have := h5 t
      simp only [List.length_set] at this
      rw [this, List.length_cons, Nat.add_right_comm]
      rfl
theorem renL_refs_f {f : Nat → Option Nat} {g : Nat → Nat} : ∀ (is : List Nat) (ll : List (List AV)), (∀ i ∈ is, f i = some (g i)) → renL f (refs is ll) = some (refs (is.map g) ll)
  | [], ll, _ => by simp [refs, renL]
  | _ :: _, [], _ => by simp [refs, renL]
  | i :: is, l :: ll, h => by
    simp [refs, renL, AV.ren, h i (by simp), renL_refs_f is ll fun z hz => h z (by simp [hz])]
def PL (R : Heap) (a : Nat) : Prop := ∀ i o, i ≠ a → R[i]? = some o → o = none ∨ ∃ c, o = some (.data c)
theorem renH_pl {f : Nat → Option Nat} {a : Nat} {cs cs' : List AV} (hf : renL f cs = some cs') : ∀ {R : Heap}, PL R a → (∀ h : a < R.length, R[a]? = some (some (.box cs))) → renH f R = some (R.set a (some (.box cs')))
  | [], _, _ => by simp [renH]
  | o :: R, hp, ha => by
    cases a with
    | zero =>
      have := ha (by simp)
      simp at this
      subst this
      have hr : renH f R = some R := by
        have : ∀ x ∈ R, renO f x = some x := fun x hx => by
          obtain ⟨j, hj, rfl⟩ := List.mem_iff_getElem.1 hx
          rcases hp (j + 1) R[j] (by omega) (by simp [hj]) with e | ⟨c, e⟩ <;> rw [e] <;> rfl
        clear hp ha
        induction R with
        | nil => rfl
        | cons x R ih => simp [renH, this x (by simp), ih fun y hy => this y (by simp [hy])]
      simp [renH, renO, hf, hr]
    | succ a =>
      have h0 : renO f o = some o := by
        rcases hp 0 o (by omega) rfl with e | ⟨c, e⟩ <;> rw [e] <;> rfl
      have := renH_pl (R := R) (a := a) hf (fun i o hi ho => hp (i + 1) o (by omega) (by simpa using ho)) (fun h => by simpa using ha (by simpa using h))
      simp [renH, h0, this]
theorem callMut_lb {call : CallF} {f : Nat} {H : Heap} {a : Nat} {is : List Nat} {P P' : List (List Int)} (h : LB H a is P) (hP : is.length ≤ 100) {rest : List AV} (hrest : idFreeL rest = true) {R : Heap} {a' : Nat} {is' : List Nat} {k : Int}
    (hc : call f (.sl 0 1 0 P.length :: rest) (HB P) = some (.tup [.sl a' 1 0 P'.length, .int .i64 k], R)) (h' : LB R a' is' P') (hp : PL R a') (hl : P.length + 1 ≤ R.length) :
    ∃ H' a2 is2, callMut call f (.sl a 1 0 P.length :: rest) H = some (.tup [.sl a2 1 0 P'.length, .int .i64 k], H') ∧ LB H' a2 is2 P' ∧ H.length ≤ H'.length ∧ (∀ i, i < H.length → i ∉ a :: is → H'[i]? = H[i]?) ∧ (∀ i ∈ a2 :: is2, i ∈ a :: is ∨ H.length ≤ i) := by
  have hφ : nodupB (a :: is) = true := nodupB_iff.2 h.nd
  have hln := h.ln
  have hreach : reach H 400 [] (.sl a 1 0 P.length :: rest) = a :: is := by
    rw [h.reach 400 (by omega) [] (by simp), reach_free _ _ _ _ hrest]; rfl
  have q1 : posOf (a :: is) a = some 0 := posOf_of_get hφ (j := 0) rfl
  have pr : renL (posOf (a :: is)) (refs is (P.map iL)) = some (refs (List.range' 1 is.length) (P.map iL)) := renL_refs hφ is _ 1 h.lnm fun j i hj => by rw [Nat.add_comm]; exact hj
  have hsub : subHeap (a :: is) (.sl a 1 0 P.length :: rest) H = some (.sl 0 1 0 P.length :: rest, HB P) := by
    unfold subHeap
    rw [if_pos hφ, h.pick]
    simp [renL, AV.ren, q1, renL_free _ hrest, renH, renO, pr, renH_rows, HBs, hln]
  let b : Nat → Nat := fun j => if j < (a :: is).length then (a :: is).getD j 0 else H.length + (j - (a :: is).length)
  have hb : ∀ j, backOf H.length (a :: is) j = some (b j) := fun j => by
    unfold backOf
    by_cases hj : j < (a :: is).length
    · simp only [b, if_pos hj, List.getD, List.getElem?_eq_getElem hj, Option.getD_some]
    · simp only [b, if_neg hj]
  have hlt := h.lt
  have hbi : ∀ j q, b j = b q → j = q := fun j q e => by
    simp only [b] at e
    split at e <;> split at e
    · rename_i h1 h2
      simp only [List.getD, List.getElem?_eq_getElem h1, List.getElem?_eq_getElem h2, Option.getD_some] at e
      exact (List.getElem_inj h.nd).1 e
    · rename_i h1 h2
      simp only [List.getD, List.getElem?_eq_getElem h1, Option.getD_some] at e
      have := hlt _ (List.getElem_mem h1)
      omega
    · rename_i h1 h2
      simp only [List.getD, List.getElem?_eq_getElem h2, Option.getD_some] at e
      have := hlt _ (List.getElem_mem h2)
      omega
    · omega
  have hren : renL (backOf H.length (a :: is)) (refs is' (P'.map iL)) = some (refs (is'.map b) (P'.map iL)) := renL_refs_f _ _ fun i _ => hb i
  have hos := renH_pl (f := backOf H.length (a :: is)) hren hp (fun _ => h'.bx)
  obtain ⟨H', w1, w2, w3, w4, w5⟩ := writeBack_spec (a :: is) H (R.set a' (some (.box (refs (is'.map b) (P'.map iL))))) h.nd hlt (by simp [hln]; omega)
  have hget : ∀ j, H'[b j]? = (R.set a' (some (.box (refs (is'.map b) (P'.map iL)))))[j]? := fun j => by
    by_cases hj : j < (a :: is).length
    · refine w3 j (b j) ?_
      simp only [b, if_pos hj, List.getD, List.getElem?_eq_getElem hj, Option.getD_some]
    · have := w5 (j - (a :: is).length)
      rw [show (a :: is).length + (j - (a :: is).length) = j by omega] at this
      rw [← this]
      simp only [b, if_neg hj]
  refine ⟨H', b a', is'.map b, ?_, ⟨?_, by simpa using h'.ln, fun j i hj => ?_, ?_⟩, by omega, fun i hi hm => w4 i hi hm, fun i hi => ?_⟩
  · have hrv : (AV.tup [.sl a' 1 0 P'.length, .int .i64 k]).ren (backOf H.length (a :: is)) = some (.tup [.sl (b a') 1 0 P'.length, .int .i64 k]) := by
      simp [AV.ren, idFreeL, AV.idFree, renL, hb]
    simp only [callMut, hreach, hsub, hc, Option.bind_some, hrv, hos, w1, Option.map_some]
  · rw [hget, List.getElem?_set_self h'.lta]
  · rw [List.getElem?_map] at hj
    obtain ⟨z, hz, rfl⟩ := Option.map_eq_some_iff.1 hj
    have hza : z ≠ a' := fun e => (List.nodup_cons.1 h'.nd).1 (e ▸ List.mem_of_getElem? hz)
    rw [hget, List.getElem?_set_ne (Ne.symm hza)]
    exact h'.rw j z hz
  · have : b a' :: is'.map b = (a' :: is').map b := rfl
    rw [this]
    have hnd := h'.nd
    rw [List.nodup_iff_pairwise_ne] at hnd ⊢
    rw [List.pairwise_map]
    exact hnd.imp fun hne e => hne (hbi _ _ e)
  · have : b a' :: is'.map b = (a' :: is').map b := rfl
    rw [this] at hi
    obtain ⟨j, _, rfl⟩ := List.mem_map.1 hi
    by_cases hj : j < (a :: is).length
    · left
      simp only [b, if_pos hj, List.getD, List.getElem?_eq_getElem hj, Option.getD_some]
      exact List.getElem_mem hj
    · right
      simp only [b, if_neg hj]
      omega
end Go.AM.Tb
