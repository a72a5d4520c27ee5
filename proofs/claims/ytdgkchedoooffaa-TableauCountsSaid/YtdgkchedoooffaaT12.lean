/- A part of the proof: T12. -/
import Derived.Test.YtdgkchedoooffaaT9
set_option linter.unusedVariables false
set_option linter.unusedSimpArgs false
set_option linter.unusedSectionVars false
namespace Go.AM.Tb
set_option maxHeartbeats 4000000
def growR (H : Heap) (b : Nat) (js : List Nat) (Q : List (List Int)) (r : List Int) : Heap :=
  H.set b none ++ [some (.data (iL r)), some (.box [.sl H.length 1 0 r.length]), some (.box (refs js (Q.map iL) ++ [.sl H.length 1 0 r.length]))]
def growN (H : Heap) (r : List Int) : Heap := H ++ [some (.data (iL r)), some (.box [.sl H.length 1 0 r.length]), some (.box [.sl H.length 1 0 r.length])]
theorem e_row {call : CallF} {H : Heap} {i n : Nat} : evE call H (.bldB 1 1 [.nilS] [(0, 1)]) [.sl i 1 0 n] = some (.sl H.length 1 0 1, H ++ [some (.box [.sl i 1 0 n])]) := e_bldB1 rfl rfl rfl
theorem LB.grow {H : Heap} {b : Nat} {js : List Nat} {Q : List (List Int)} {r : List Int} (h : LB H b js Q) (hm : Q.length < 1000) :
    (∀ call, evE call (H ++ [some (HO.data (iL r))]) (.bldB 1 1 [.nilS] [(0, 1)]) [.sl H.length 1 0 r.length] = some (.sl (H.length + 1) 1 0 1, H ++ [some (HO.data (iL r)), some (.box [.sl H.length 1 0 r.length])])) ∧
    (∀ call q, evE call (H ++ [some (HO.data (iL r)), some (.box [.sl H.length 1 0 r.length])]) (.appB 1 q) [.sl b 1 0 Q.length, .sl (H.length + 1) 1 0 1] = some (.sl (H.length + 2) 1 0 (Q.length + 1), growR H b js Q r)) ∧
    LB (growR H b js Q r) (H.length + 2) (js ++ [H.length]) (Q ++ [r]) ∧ (∀ z, z ∉ b :: js → z < H.length → (growR H b js Q r)[z]? = H[z]?) := by
  have hb := h.lta
  have hrl : (refs js (Q.map iL)).length = Q.length := by rw [refs_length h.lnm]; simp
  have hjb : ∀ z ∈ js, z ≠ b := fun z hz e => (List.nodup_cons.1 h.nd).1 (e ▸ hz)
  have hjl : ∀ z ∈ js, z < H.length := fun z hz => h.lt z (by simp [hz])
  have hold : ∀ z, z ≠ b → z < H.length → (growR H b js Q r)[z]? = H[z]? := fun z h1 h2 => by
    unfold growR
    rw [List.getElem?_append_left (by simpa using h2), List.getElem?_set_ne (Ne.symm h1)]
  refine ⟨fun call => ?_, fun call q => ?_, ⟨?_, by simp [h.ln], fun j i hj => ?_, ?_⟩, fun z hz hzl => hold z (fun e => hz (by simp [e])) hzl⟩
  · rw [e_row]; simp
  · have h1 : (H ++ [some (HO.data (iL r)), some (.box [.sl H.length 1 0 r.length])])[b]? = some (some (.box (refs js (Q.map iL)))) := by rw [List.getElem?_append_left hb, h.bx]
    have := e_appB_sl (call := call) (q := q) (H := H ++ [some (HO.data (iL r)), some (.box [.sl H.length 1 0 r.length])]) (id := b) (id2 := H.length + 1) (n := 1) (bs := [.sl H.length 1 0 r.length]) (cells?_iff.2 (.inr h1)) hrl (cells?_iff.2 (.inr (by simp))) rfl (by decide) (by unfold most; omega)
    rw [this]
    simp [List.set_append_left _ _ hb, growR]
  · unfold growR
    rw [List.getElem?_append_right (by simp), List.map_append, refs_append h.lnm]
    simp [refs, iL_len]
  · rcases Nat.lt_or_ge j js.length with h1 | h1
    · rw [List.getElem?_append_left h1] at hj
      have hm' := List.mem_of_getElem? hj
      rw [hold i (hjb i hm') (hjl i hm'), h.rw j i hj, getLL_nat, getLL_nat]
      have := h.ln
      simp [List.getD, List.getElem?_append_left (show j < Q.length by omega)]
    · rw [List.getElem?_append_right h1] at hj
      obtain ⟨hj1, hj2⟩ := List.getElem?_eq_some_iff.1 hj
      simp at hj1 hj2
      have := h.ln
      obtain rfl : j = Q.length := by omega
      subst hj2
      unfold growR
      rw [List.getElem?_append_right (by simp), getLL_nat]
      simp [List.getD]
  · rw [List.nodup_cons, List.nodup_append]
    refine ⟨fun hm' => ?_, (List.nodup_cons.1 h.nd).2, by simp, fun x hx y hy e => ?_⟩
    · rcases List.mem_append.1 hm' with h1 | h1
      · have := hjl _ h1; omega
      · simp at h1
    · simp at hy
      have := hjl _ hx; omega
theorem lb_growN (H : Heap) (r : List Int) : (∀ call, evE call (H ++ [some (HO.data (iL r))]) (.bldB 1 1 [.nilS] [(0, 1)]) [.sl H.length 1 0 r.length] = some (.sl (H.length + 1) 1 0 1, H ++ [some (HO.data (iL r)), some (.box [.sl H.length 1 0 r.length])])) ∧
    (∀ call q, evE call (H ++ [some (HO.data (iL r)), some (.box [.sl H.length 1 0 r.length])]) (.appB 1 q) [.nilS, .sl (H.length + 1) 1 0 1] = some (.sl (H.length + 2) 1 0 1, growN H r)) ∧ LB (growN H r) (H.length + 2) [H.length] [r] ∧ ∀ z, z < H.length → (growN H r)[z]? = H[z]? := by
  have hold : ∀ z, z < H.length → (growN H r)[z]? = H[z]? := fun z h => by unfold growN; rw [List.getElem?_append_left h]
  refine ⟨fun call => by rw [e_row]; simp, fun call q => ?_, ⟨?_, rfl, fun j i hj => ?_, by simp⟩, hold⟩
  · have := e_appB_nil (call := call) (q := q) (H := H ++ [some (HO.data (iL r)), some (.box [.sl H.length 1 0 r.length])]) (id := H.length + 1) (n := 1) (cs := [.sl H.length 1 0 r.length]) (cells?_iff.2 (.inr (by simp))) rfl (by decide) (by decide)
    rw [this]
    simp [growN]
  · unfold growN
    rw [List.getElem?_append_right (by omega)]
    simp [refs, iL_len]
  · rcases j with _ | j
    · simp at hj; subst hj
      unfold growN
      rw [List.getElem?_append_right (by omega), getLL_nat]
      simp
    · simp at hj
theorem gc1p {pre gs : List AV} {H : Heap} {a : Nat} {is : List Nat} {P : List (List Int)} (h : LB H a is P) (hk : is.length ≤ 100) (hp : idFreeL pre = true) (hpl : pre.length ≤ 20) (hg : idFreeL gs = true) {n : Nat} (hn : P.length = n) :
    gc 0 (pre ++ .sl a 1 0 n :: gs) H = some (pre ++ .sl 0 1 0 n :: gs, HB P) := by
  subst hn
  have hφ : nodupB (a :: is) = true := nodupB_iff.2 h.nd
  have q1 : posOf (a :: is) a = some 0 := posOf_of_get hφ (j := 0) rfl
  have pr : renL (posOf (a :: is)) (refs is (P.map iL)) = some (refs (List.range' 1 is.length) (P.map iL)) := renL_refs hφ is _ 1 h.lnm fun j i hj => by rw [Nat.add_comm]; exact hj
  refine gc_of (φ := a :: is) ?_ hφ ?_ h.pick ?_
  · have e : reach H 400 (rangeL 0 []) (roots H (rangeL 0 []) ++ (pre ++ .sl a 1 0 P.length :: gs)) = reach H (400 - pre.length) [] (.sl a 1 0 P.length :: gs) := by
      rw [show reach H 400 (rangeL 0 []) (roots H (rangeL 0 []) ++ (pre ++ .sl a 1 0 P.length :: gs)) = reach H 400 [] (pre ++ .sl a 1 0 P.length :: gs) from rfl, show (400 : Nat) = (400 - pre.length) + pre.length by omega, reach_pre pre hp]
      congr 1; omega
    rw [e, h.reach (400 - pre.length) (by omega) [] (by simp), reach_free _ _ _ _ hg]
    rfl
  · rw [renL_append, renL_free _ hp]
    simp [renL, AV.ren, q1, renL_free _ hg]
  · simp [renH, renO, pr, renH_rows, HBs, h.ln]
theorem take_snoc {P : List (List Int)} {i : Nat} (h : i < P.length) : P.take (i + 1) = P.take i ++ [getLL P (i : Int)] := by
  rw [List.take_succ_eq_append_getElem h, getLL_get h]
def oV (a : Nat) (P : List (List Int)) : AV := if P.length = 0 then .nilS else .sl a 1 0 P.length
def oH (s : Nat) (P : List (List Int)) : Heap := if P.length = 0 then [] else HBs s P
theorem oV_pos {a : Nat} {P : List (List Int)} (h : 0 < P.length) : oV a P = .sl a 1 0 P.length := if_neg (by omega)
theorem oH_pos {a : Nat} {P : List (List Int)} (h : 0 < P.length) : oH a P = HBs a P := if_neg (by omega)
end Go.AM.Tb
