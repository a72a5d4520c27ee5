/- A part of the proof: T10. -/
import Derived.Test.YtdgkchedoooffaaT9
set_option linter.unusedVariables false
set_option linter.unusedSimpArgs false
set_option linter.unusedSectionVars false
namespace Go.AM.Tb
set_option maxHeartbeats 4000000
def addQ (Q : List (List Int)) (k : Nat) (n : Int) : List (List Int) := if k < Q.length then Q.set k (getLL Q (k : Int) ++ [n]) else Q ++ [[n]]
def pq (w : List Int) : Nat → List (List Int) × List (List Int)
  | 0 => ([], [])
  | i + 1 => (insT (pq w i).1 (getI w (i : Int)), addQ (pq w i).2 (insK (pq w i).1 (getI w (i : Int))) ((i : Int) + 1))
def lens (P : List (List Int)) : List Nat := P.map List.length
theorem addQ_lens : ∀ (P Q : List (List Int)) (x : Int) (n : Int), lens P = lens Q → lens (insT P x) = lens (addQ Q (insK P x) n)
  | [], [], x, n, _ => by simp [insT, insK, addQ, lens]
  | [], _ :: _, x, n, h => by simp [lens] at h
  | _ :: _, [], x, n, h => by simp [lens] at h
  | r :: R, s :: S, x, n, h => by
    simp only [lens, List.map_cons, List.cons.injEq] at h
    simp only [insT, insK]
    split
    · have ih := addQ_lens R S (r.getD (fgt x r) 0) n h.2
      simp only [addQ, lens] at ih ⊢
      simp only [List.length_cons, Nat.add_lt_add_iff_right]
      split
      · rename_i h2
        rw [if_pos h2] at ih
        have : getLL (s :: S) ((insK R (r.getD (fgt x r) 0) + 1 : Nat) : Int) = getLL S ((insK R (r.getD (fgt x r) 0) : Nat) : Int) := by rw [getLL_nat, getLL_nat]; rfl
        rw [this, List.set_cons_succ, List.map_cons, List.map_cons, ih, List.length_set, h.1]
      · rename_i h2
        rw [if_neg h2] at ih
        rw [List.map_cons, ih, List.length_set, h.1]
        rfl
    · have : getLL (s :: S) ((0 : Nat) : Int) = s := by rw [getLL_nat]; rfl
      simp only [addQ, List.length_cons, Nat.zero_lt_succ, if_true, this, lens, List.map_cons, List.map_set, List.set_cons_zero]
      simp [h.1, h.2]
theorem ins_sum : ∀ (P : List (List Int)) (x : Int), (lens (insT P x)).sum = (lens P).sum + 1
  | [], x => by simp [insT, lens]
  | r :: R, x => by
    simp only [insT]
    split
    · have := ins_sum R (r.getD (fgt x r) 0)
      simp only [lens, List.map_cons, List.sum_cons, List.length_set] at this ⊢
      omega
    · simp [lens]; omega
theorem pq_ok (w : List Int) : ∀ i, Tab (pq w i).1 ∧ lens (pq w i).1 = lens (pq w i).2 ∧ (lens (pq w i).1).sum = i
  | 0 => ⟨trivial, rfl, rfl⟩
  | i + 1 => by
    obtain ⟨h1, h2, h3⟩ := pq_ok w i
    exact ⟨tab_ins h1 _, addQ_lens _ _ _ _ h2, by simp only [pq]; rw [ins_sum, h3]⟩
theorem len_sum : ∀ (P : List (List Int)), (∀ r ∈ P, r ≠ []) → P.length ≤ (lens P).sum
  | [], _ => by simp
  | r :: P, h => by
    have := len_sum P fun s hs => h s (by simp [hs])
    have h0 : r.length ≠ 0 := fun e => h r (by simp) (List.length_eq_zero_iff.1 e)
    simp only [lens, List.map_cons, List.sum_cons, List.length_cons] at this ⊢
    omega
theorem row_sum {P : List (List Int)} {r : List Int} (h : r ∈ P) : r.length ≤ (lens P).sum := by
  induction P with
  | nil => simp at h
  | cons s P ih =>
    simp only [lens, List.map_cons, List.sum_cons] at ih ⊢
    rcases List.mem_cons.1 h with rfl | h
    · omega
    · have := ih h; omega
theorem lens_len {P Q : List (List Int)} (h : lens P = lens Q) : P.length = Q.length := by
  have := congrArg List.length h
  simpa [lens] using this
theorem pq_len (w : List Int) (i : Nat) : (pq w i).1.length ≤ i ∧ (pq w i).2.length = (pq w i).1.length ∧ (∀ r ∈ (pq w i).1, Srt r ∧ r.length ≤ i) ∧ ∀ r ∈ (pq w i).2, r.length ≤ i := by
  obtain ⟨h1, h2, h3⟩ := pq_ok w i
  refine ⟨by have := len_sum _ (fun r hr => (h1.rows r hr).2); omega, (lens_len h2).symm, fun r hr => ⟨(h1.rows r hr).1, by have := row_sum hr; omega⟩, fun r hr => ?_⟩
  have := row_sum hr
  rw [← h2, h3] at this
  exact this
theorem pq_pos (w : List Int) {i : Nat} (hi : 0 < i) : 0 < (pq w i).1.length := by
  obtain ⟨_, _, h3⟩ := pq_ok w i
  rcases h : (pq w i).1 with _ | ⟨r, R⟩
  · rw [h] at h3; simp [lens] at h3; omega
  · simp
def pushH (H : Heap) (b : Nat) (js : List Nat) (Q : List (List Int)) (n : Int) : Heap :=
  H.set b none ++ [some (.box [.nilS]), some (.box (refs js (Q.map iL) ++ [.sl (H.length + 2) 1 0 1])), some (.data [.int .i64 n])]
theorem LB.push {H : Heap} {b : Nat} {js : List Nat} {Q : List (List Int)} {n : Int} (h : LB H b js Q) (hm : Q.length < 1000) :
    (∀ call, evE call H (.bldB 1 1 [.nilS] [(0, 1)]) [.nilS] = some (.sl H.length 1 0 1, H ++ [some (.box [.nilS])])) ∧
    (∀ call q, evE call (H ++ [some (HO.box [.nilS])]) (.appB 1 q) [.sl b 1 0 Q.length, .sl H.length 1 0 1] = some (.sl (H.length + 1) 1 0 (Q.length + 1), H.set b none ++ [some (.box [.nilS]), some (.box (refs js (Q.map iL) ++ [.nilS]))])) ∧
    evP (H.set b none ++ [some (HO.box [.nilS]), some (.box (refs js (Q.map iL) ++ [.nilS]))]) (.ld false 1) [.ptr (H.length + 1) Q.length] = some .nilS ∧
    (∀ call q, evE call (H.set b none ++ [some (HO.box [.nilS]), some (.box (refs js (Q.map iL) ++ [.nilS]))]) (.app false 1 q) [.nilS, .rd 1 1 [.int .i64 n]] = some (.sl (H.length + 2) 1 0 1, H.set b none ++ [some (HO.box [.nilS]), some (.box (refs js (Q.map iL) ++ [.nilS])), some (.data [.int .i64 n])])) ∧
    (∀ call, evE call (H.set b none ++ [some (HO.box [.nilS]), some (.box (refs js (Q.map iL) ++ [.nilS])), some (.data [.int .i64 n])]) (.st 1) [.ptr (H.length + 1) Q.length, .sl (H.length + 2) 1 0 1] = some (.undef, pushH H b js Q n)) ∧
    LB (pushH H b js Q n) (H.length + 1) (js ++ [H.length + 2]) (Q ++ [[n]]) ∧ (∀ z, z ∉ b :: js → z < H.length → (pushH H b js Q n)[z]? = H[z]?) := by
  have hb := h.lta
  have hrl : (refs js (Q.map iL)).length = Q.length := by rw [refs_length h.lnm]; simp
  have hjb : ∀ z ∈ js, z ≠ b := fun z hz e => (List.nodup_cons.1 h.nd).1 (e ▸ hz)
  have hjl : ∀ z ∈ js, z < H.length := fun z hz => h.lt z (by simp [hz])
  have hold : ∀ z, z ≠ b → z < H.length → (pushH H b js Q n)[z]? = H[z]? := fun z h1 h2 => by
    unfold pushH
    rw [List.getElem?_append_left (by simpa using h2), List.getElem?_set_ne (Ne.symm h1)]
  refine ⟨fun call => e_bldB1 rfl rfl rfl, fun call q => ?_, ?_, fun call q => ?_, fun call => ?_, ⟨?_, by simp [h.ln], fun j i hj => ?_, ?_⟩, fun z hz hzl => hold z (fun e => hz (by simp [e])) hzl⟩
  · have h1 : (H ++ [some (HO.box [AV.nilS])])[b]? = some (some (.box (refs js (Q.map iL)))) := by rw [List.getElem?_append_left hb, h.bx]
    have := e_appB_sl (call := call) (q := q) (H := H ++ [some (HO.box [.nilS])]) (id := b) (id2 := H.length) (n := 1) (bs := [.nilS]) (cells?_iff.2 (.inr h1)) hrl (cells?_iff.2 (.inr (by simp))) rfl (by decide) (by unfold most; omega)
    rw [this]
    simp [List.set_append_left _ _ hb]
  · refine p_ldX (cs := refs js (Q.map iL) ++ [.nilS]) ?_ ?_
    · rw [List.getElem?_append_right (by simp)]; simp
    · rw [List.getElem?_append_right (by omega)]; simp [hrl]
  · have := e_app_nil (call := call) (q := q) (H := H.set b none ++ [some (HO.box [.nilS]), some (.box (refs js (Q.map iL) ++ [.nilS]))]) (cs := [.int .i64 n]) (n := 1) rfl (by decide) (by unfold most; omega)
    rw [this]
    simp
  · have := e_stX (call := call) (H := H.set b none ++ [some (HO.box [.nilS]), some (.box (refs js (Q.map iL) ++ [.nilS])), some (.data [.int .i64 n])]) (a := H.length + 1) (j := Q.length) (cs := refs js (Q.map iL) ++ [.nilS]) (v := .sl (H.length + 2) 1 0 1) (by rw [List.getElem?_append_right (by simp)]; simp) (by simp [hrl]) rfl rfl
    rw [this, List.set_append_right _ _ (by simp), List.set_append_right _ _ (by omega), hrl]
    simp [pushH]
  · unfold pushH
    rw [List.getElem?_append_right (by simp), List.map_append, refs_append h.lnm]
    simp [refs, iL]
  · rcases Nat.lt_or_ge j js.length with h1 | h1
    · rw [List.getElem?_append_left h1] at hj
      have hm' := List.mem_of_getElem? hj
      rw [hold i (hjb i hm') (hjl i hm'), h.rw j i hj, getLL_nat, getLL_nat]
      have := h.ln
      simp [List.getD, List.getElem?_append_left (show j < Q.length by omega)]
    · rw [List.getElem?_append_right h1] at hj
      obtain ⟨hj1, hj2⟩ := List.getElem?_eq_some_iff.1 hj
      simp at hj1 hj2
      have := h.ln
      obtain rfl : j = Q.length := by omega
      subst hj2
      unfold pushH
      rw [List.getElem?_append_right (by simp), getLL_nat]
      simp [List.getD, iL]
  · rw [List.nodup_cons, List.nodup_append]
    refine ⟨fun hm' => ?_, (List.nodup_cons.1 h.nd).2, by simp, fun x hx y hy e => ?_⟩
    · rcases List.mem_append.1 hm' with h1 | h1
      · have := hjl _ h1; omega
      · simp at h1
    · simp at hy
      have := hjl _ hx; omega
theorem gc2t {H : Heap} {a b : Nat} {is js : List Nat} {P Q : List (List Int)} (hA : LB H a is P) (hB : LB H b js Q) (hd : ∀ i ∈ b :: js, i ∉ a :: is) (hk : is.length ≤ 100) (hk2 : js.length ≤ 100) :
    gc 0 [.tup [.sl a 1 0 P.length, .sl b 1 0 Q.length]] H = some ([.tup [.sl 0 1 0 P.length, .sl (P.length + 1) 1 0 Q.length]], HB P ++ HBs (P.length + 1) Q) := by
  have hnd : ((a :: is) ++ (b :: js)).Nodup := List.nodup_append.2 ⟨hA.nd, hB.nd, fun x hx y hy e => hd y hy (e ▸ hx)⟩
  have hφ : nodupB ((a :: is) ++ (b :: js)) = true := nodupB_iff.2 hnd
  have q1 : posOf ((a :: is) ++ (b :: js)) a = some 0 := posOf_of_get hφ (j := 0) rfl
  have q2 : posOf ((a :: is) ++ (b :: js)) b = some (P.length + 1) := posOf_of_get hφ (j := P.length + 1) (by
    rw [List.getElem?_append_right (by simp [hA.ln])]; simp [hA.ln])
  have pr : renL (posOf ((a :: is) ++ (b :: js))) (refs is (P.map iL)) = some (refs (List.range' 1 is.length) (P.map iL)) := renL_refs hφ is _ 1 hA.lnm fun j i hj => by
    have hjl := (List.getElem?_eq_some_iff.1 hj).1
    rw [List.getElem?_append_left (by simp; omega), Nat.add_comm]; exact hj
  have pr2 : renL (posOf ((a :: is) ++ (b :: js))) (refs js (Q.map iL)) = some (refs (List.range' (P.length + 2) js.length) (Q.map iL)) := renL_refs hφ js _ (P.length + 2) hB.lnm fun j i hj => by
    have hjl := (List.getElem?_eq_some_iff.1 hj).1
    rw [List.getElem?_append_right (by simp [hA.ln]; omega), List.length_cons, hA.ln, show P.length + 2 + j - (P.length + 1) = j + 1 by omega]; exact hj
  have hp := hA.pick
  have hp2 := hB.pick
  refine gc_of (φ := (a :: is) ++ (b :: js)) ?_ hφ ?_ (Hp := (some (.box (refs is (P.map iL))) :: rowsH (P.map iL)) ++ (some (.box (refs js (Q.map iL))) :: rowsH (Q.map iL))) ?_ ?_
  · have e : reach H 400 (rangeL 0 []) (roots H (rangeL 0 []) ++ [.tup [.sl a 1 0 P.length, .sl b 1 0 Q.length]]) = reach H 399 [] ([.sl a 1 0 P.length, .sl b 1 0 Q.length] ++ []) := by
      rw [show reach H 400 (rangeL 0 []) (roots H (rangeL 0 []) ++ [.tup [.sl a 1 0 P.length, .sl b 1 0 Q.length]]) = reach H 400 [] [.tup [.sl a 1 0 P.length, .sl b 1 0 Q.length]] from rfl, reach_tup]
      simp [idFreeL, AV.idFree]
    rw [e, List.append_nil, hA.reach 399 (by omega) [] (by simp), List.nil_append, hB.reach _ (by omega) _ (fun i hi => hd i hi), reach_end]
  · simp only [renL, AV.ren, q1, q2, idFreeL, AV.idFree, Bool.false_and, Bool.false_eq_true, if_false, Option.map_some, Option.bind_some]
  · rw [pickO_append, hp, hp2]; rfl
  · rw [renH_append]
    rw [List.cons_append] at pr pr2 ⊢
    simp only [renH, renO, pr, pr2, renH_rows, HBs, hA.ln, hB.ln, Option.map_some, Option.bind_some, Nat.zero_add]
theorem lb_2a (P Q : List (List Int)) : LB (HB P ++ HBs (P.length + 1) Q) 0 (List.range' 1 P.length) P := lb_hb P _
theorem lb_2b (P Q : List (List Int)) : LB (HB P ++ HBs (P.length + 1) Q) (P.length + 1) (List.range' (P.length + 2) Q.length) Q := by
  have := lb_at (HB P) [] Q
  rw [List.append_nil, hbs_len] at this
  exact this
theorem fzL_ne {l : List Int} {n : Nat} (h : l.length = n) (hn : 1 ≤ n) : fzL l = .rd 1 n (iL l) := by
  rcases l with _ | ⟨a, r⟩
  · simp at h; omega
  · subst h; simp [fzL]
theorem fzLL_ne {l : List (List Int)} {n : Nat} (h : l.length = n) (hn : 1 ≤ n) : fzLL l = .rd 1 n (l.map fzL) := by
  rcases l with _ | ⟨a, r⟩
  · simp at h; omega
  · subst h; simp [fzLL]
theorem lb_frz {H : Heap} {a : Nat} {is : List Nat} {P : List (List Int)} (h : LB H a is P) (hP : P.length ≤ 100) (hne : ∀ r ∈ P, r ≠ []) (h0 : P ≠ []) {k : Nat} (hk : 110 ≤ k) : frzV H k (.sl a 1 0 P.length) = some (fzLL P) := by
  obtain ⟨k, rfl⟩ : ∃ j, k = j + 1 + 1 := ⟨k - 2, by omega⟩
  have hx := h.bx
  have h1 : H.data? a = none := by simp [Heap.data?, hx]
  have h2 : H.box? a = some (refs is (P.map iL)) := by simp [Heap.box?, hx]
  rw [frzV_sl, h1, h2, Option.none_or, Option.bind_some, frzL_refs is (P.map iL) k h.lnm (by have := h.ln; omega) h.rows]
  rw [fzLL_ne rfl (by rcases P with _ | _; exact absurd rfl h0; simp)]
  simp only [Option.bind_some, List.length_map, Nat.zero_add, Nat.mul_one, Nat.le_refl, if_true, List.drop_zero, List.map_map]
  congr 2
  rw [List.take_of_length_le (by simp)]
  refine List.map_congr_left fun r hr => ?_
  rw [fzL_ne rfl (by rcases r with _ | _; exact absurd rfl (hne _ hr); simp)]
  simp [iL_len]
end Go.AM.Tb
