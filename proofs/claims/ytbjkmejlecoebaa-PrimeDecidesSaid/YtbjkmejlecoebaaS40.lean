/- A part of the proof: S40. -/
import Derived.Test.YtbjkmejlecoebaaS39
set_option linter.unusedSectionVars false
set_option linter.unusedVariables false
set_option linter.unusedSimpArgs false
namespace Go.AM
open Go.MapKept
section
variable {F : RoT} {pl : PlT} {H : Heap} {w w' : World}
/-- a row that a call has laid somewhere behind -/
theorem row_inv (hI : Inv F pl H w) (hb : Go.RowKit.Below w.heap.size w w') {g : Nat} {cur : Array Value} {t : TypeId} {cs : List AV} (hg : w.heap.size ≤ g) (hc : w'.heap[g]? = some (.cells cur t (0, 0)))
    (hl : cs.length ≤ cur.size) (hf : idFreeL cs = true) (h1 : oneL cs = true) (hr : ∀ (j : Nat) x, cs[j]? = some x → ∃ v, cur[j]? = some v ∧ ∀ pl' : PlT, Rel F pl' x v) :
    Inv F (extPl pl H.length ⟨g, 0, cur.size⟩) (H ++ [some (.data cs)]) w' ∧ Stp F pl H w F (extPl pl H.length ⟨g, 0, cur.size⟩) (H ++ [some (.data cs)]) w' ∧ LeF pl (extPl pl H.length ⟨g, 0, cur.size⟩) := by
  have hle : LeF pl (extPl pl H.length ⟨g, 0, cur.size⟩) := extPl_le (hI.fresh H.length (Nat.le_refl _))
  have hcl : ∀ a : Addr, a.block < w.heap.size → w'.cell? a = w.cell? a := fun a ha => by simp [World.cell?, hb.block _ ha]
  have hFb : ∀ a v, F a = some v → a.block < w.heap.size := fun a v h => by
    have := hI.ro a v h
    rcases Nat.lt_or_ge a.block w.heap.size with h' | h'
    · exact h'
    · simp [World.cell?, Array.getElem?_eq_none h'] at this
  have hgl : g < w'.heap.size := (Array.getElem?_eq_some_iff.1 hc).1
  have hcell : ∀ j : Nat, w'.cell? ⟨g, j, none⟩ = cur[j]? := fun j => by simp [World.cell?, hc]
  have hfz : ∀ j : Nat, w'.frozen? ⟨g, j, none⟩ = false := fun j => by simp [World.frozen?, hc]
  have old : ∀ i p, live (H ++ [some (.data cs)]) i → extPl pl H.length ⟨g, 0, cur.size⟩ i = some p → i ≠ H.length → live H i ∧ pl i = some p := fun i p hi hp e => by
    rw [extPl_old e] at hp
    exact ⟨(live_push_old e).1 hi, hp⟩
  refine ⟨Inv.of_objs (fun i hi => ?_) (fun i o ho => ?_) (fun i j p q hi hj hp hq e => ?_) (fun a v hv => ?_) (fun a v i p hv hi hp => ?_), ⟨⟨hb.os, hb.tape, hb.output, hb.size, fun k hk _ => hb.block k hk⟩, fun b hbo => ?_, LeF.refl _, fun a v hv => .inl hv⟩, hle⟩
  · simp at hi
    rw [extPl_old (by omega)]
    exact hI.fresh i (by omega)
  · by_cases e : i = H.length
    · subst e
      rw [get_push_new] at ho
      cases ho
      refine ⟨_, extPl_new, fun cs' e' => ?_, fun cs' e' => ?_, fun es e' => (by cases e'), hgl⟩
      · cases e'
        refine ⟨hl, h1, fun j hj => ?_, fun j x hx => ?_⟩
        · refine ⟨cur[j]'hj, ?_, hfz _⟩
          rw [hcell]
          simp only [Nat.zero_add]
          exact Array.getElem?_eq_getElem hj
        · obtain ⟨v, hv, hx'⟩ := hr j x hx
          refine ⟨v, ?_, hx' _⟩
          rw [hcell]
          simpa using hv
      · cases e'; exact hf
    · rw [get_push_old e] at ho
      obtain ⟨p, hp, hok⟩ := hI.obj ho
      refine ⟨p, by rw [extPl_old e]; exact hp, hok.mono (LeF.refl _) hle (hb.block _ (hI.pos i p ⟨o, ho⟩ hp))⟩
  · have lt : ∀ i p, live (H ++ [some (.data cs)]) i → extPl pl H.length ⟨g, 0, cur.size⟩ i = some p → i ≠ H.length → p.block < w.heap.size := fun i p hi hp e => by
      obtain ⟨a, b⟩ := old i p hi hp e
      exact hI.pos i p a b
    by_cases e1 : i = H.length
    · by_cases e2 : j = H.length
      · omega
      · have := lt j q hj hq e2
        subst e1
        rw [extPl_new] at hp; cases hp
        simp only at e
        omega
    · by_cases e2 : j = H.length
      · have := lt i p hi hp e1
        subst e2
        rw [extPl_new] at hq; cases hq
        simp only at e
        omega
      · obtain ⟨a, b⟩ := old i p hi hp e1
        obtain ⟨c, d⟩ := old j q hj hq e2
        exact hI.inj i j p q a c b d e
  · rw [hcl a (hFb a v hv)]
    exact hI.ro a v hv
  · by_cases e : i = H.length
    · subst e
      rw [extPl_new] at hp; cases hp
      have := hFb a v hv
      simp only
      omega
    · obtain ⟨b, c⟩ := old i p hi hp e
      exact hI.sep a v i p hv b c
  · obtain ⟨i, p, hi, hp, rfl⟩ := hbo
    by_cases e : i = H.length
    · subst e
      rw [extPl_new] at hp; cases hp
      exact .inr hg
    · obtain ⟨b, c⟩ := old i p hi hp e
      exact .inl ⟨i, p, b, c, rfl⟩
end
end Go.AM
namespace Go.AM.Pr
open Go.MapKept Go.Proofs
/-- the keys of a map, where they are ints -/
def keysI : List (AV × AV) → Option (List Int)
  | [] => some []
  | (.int .i64 n, _) :: r => if (Lit.int .i64 n).wf = true then (keysI r).map (n :: ·) else none
  | _ => none
def sortI (l : List Int) : List Int := l.mergeSort (fun x y => decide (x ≤ y))
/-- slices.Sorted at the iterator that maps.Keys gives -/
def spS : CallF := fun f args H =>
  if f = 55 then
    match args, H with
    | [.fn 69 [.ptr 0 0]], [some (.box [.mp 1]), some (.map es)] =>
      (keysI es).bind fun ks => if ks ≠ [] ∧ ks.length ≤ 1000 then some (.sl 2 1 0 ks.length, [some (.box [.mp 1]), some (.map es), some (.data (iL (sortI ks)))]) else none
    | _, _ => none
  else none
theorem keysI_eq : ∀ {es : List (AV × AV)} {ks : List Int}, keysI es = some ks → es.map (·.1) = iL ks ∧ ∀ k ∈ ks, (Lit.int .i64 k).wf = true
  | [], ks, h => by simp [keysI] at h; subst h; exact ⟨rfl, by simp⟩
  | (k, v) :: r, ks, h => by
    unfold keysI at h
    split at h
    · cases h; rename_i e; cases e
    · rename_i n v' r' e
      cases e
      split at h
      · rename_i hw
        obtain ⟨l, hl, rfl⟩ := Option.map_eq_some_iff.1 h
        obtain ⟨a, b⟩ := keysI_eq hl
        refine ⟨by simp [iL] at a ⊢; exact a, fun x hx => ?_⟩
        rcases List.mem_cons.1 hx with rfl | hx
        · exact hw
        · exact b x hx
      · cases h
    · cases h
theorem iL_one : ∀ l : List Int, oneL (iL l) = true
  | [] => rfl
  | a :: l => by
    have e : iL (a :: l) = .int .i64 a :: iL l := rfl
    rw [e]
    simp [oneL, AV.one, iL_one l]
theorem relL_ints {F : RoT} {pl : PlT} : ∀ {l : List Int} {us : List Value}, RelL F pl (iL l) us → us = l.map (Value.int .i64)
  | [], us, h => by simpa [iL] using h.nil_inv
  | a :: l, us, h => by
    have e : iL (a :: l) = .int .i64 a :: iL l := rfl
    rw [e] at h
    obtain ⟨u, r, rfl, h1, h2⟩ := h.uncons
    rw [rel_int_inv h1, relL_ints h2]
    rfl
theorem keysI_perm {ks : List Int} {ces : Array MapEntry} (hk : ces.toList.map (·.key) = ks.map (Value.int .i64)) (hw : ∀ k ∈ ks, (Lit.int .i64 k).wf = true) :
    ∀ x ∈ ces.toList, ∃ n : Int, x.key = .int .i64 n ∧ n ∈ ks ∧ (Lit.int .i64 n).wf = true := fun x hx => by
  have : x.key ∈ ces.toList.map (·.key) := List.mem_map.2 ⟨x, hx, rfl⟩
  rw [hk] at this
  obtain ⟨n, hn, e⟩ := List.mem_map.1 this
  exact ⟨n, e.symm, hn, hw n hn⟩
theorem map_of {H : Type} {l : List MapEntry} {f : MapEntry → Lit × DataW H} {g : MapEntry → Int} (h : ∀ x ∈ l, intOf (f x).1 = g x) : (l.map f).map (fun p => intOf p.1) = l.map g := by
  rw [List.map_map]
  exact List.map_congr_left fun x hx => h x hx
def anyR : Value → Option (DataW Nat × List MemPlace) := fun _ => some (.lit (.bool true), [])
theorem rg_key {x : MapEntry} {n : Int} (hx : x.key = .int .i64 n) (hw : (Lit.int .i64 n).wf = true) : Go.WideElems.rd Try.prog 3 anyR x = some (.int .i64 n, .lit (.bool true)) := by
  have hk : keyOf Try.prog 3 x.key = some (.int .i64 n) := by rw [hx]; exact Go.Maps.keyOf_int_mk Try.underlying3 hw
  simp [Go.WideElems.rd, hk, anyR]
theorem wMap {w : World} {b : Nat} {ces : Array MapEntry} {clock : Nat} {ks : List Int} (hb : w.heap[b]? = some (.map ces clock)) (hst : Stamped ces clock) (hk : ces.toList.map (·.key) = ks.map (Value.int .i64))
    (hw : ∀ k ∈ ks, (Lit.int .i64 k).wf = true) (hl : ks.length ≤ 1000) :
    ∃ D0 : DataW Nat, w.ownsMap Try.prog 3 anyR b ces.size D0 ∧ Go.Maps.size D0 = ks.length ∧ (intKeys D0).Perm ks := by
  have hp := keysI_perm hk hw
  have hs : ces.size = ks.length := by have := congrArg List.length hk; simpa using this
  have hrg : ∀ x ∈ ces.toList, intOf (Go.WideElems.rg Try.prog 3 anyR x).1 = (match x.key with | .int _ n => n | _ => 0) := fun x hx => by
    obtain ⟨n, h1, _, h3⟩ := hp x hx
    rw [Go.WideElems.rg_of (rg_key h1 h3), h1]
    rfl
  refine ⟨_, ⟨ces, clock, hb, ⟨?_, hst, fun x hx => ?_⟩, Nat.le_refl _, rfl⟩, ?_, ?_⟩
  · have : (1000 : Nat) ≤ maxLen := by unfold maxLen; omega
    omega
  · obtain ⟨n, h1, _, h3⟩ := hp x hx
    exact ⟨_, rg_key h1 h3⟩
  · show (List.foldr DataW.insert [] _).length = _
    rw [(Go.WideShapes.sorted_perm _).length_eq]
    simpa using hs
  · show ((List.foldr DataW.insert [] _).map fun p => intOf p.1).Perm ks
    refine ((Go.WideShapes.sorted_perm _).map _).trans ?_
    rw [map_of hrg]
    have : ces.toList.map (fun x : MapEntry => (match x.key with | .int _ n => n | _ => (0 : Int))) = (ces.toList.map (·.key)).map (fun v : Value => (match v with | .int _ n => n | _ => (0 : Int))) := by
      rw [List.map_map]; rfl
    rw [this, hk, List.map_map]
    have : (fun v : Value => (match v with | .int _ n => n | _ => (0 : Int))) ∘ Value.int IntKind.i64 = id := rfl
    rw [this, List.map_id]
theorem sortI_perm {a b : List Int} (h : a.Perm b) : a.mergeSort (fun x y => decide (x ≤ y)) = sortI b := mergeSort_of_perm_i h
theorem sortI_len (l : List Int) : (sortI l).length = l.length := (List.mergeSort_perm _ _).length_eq
set_option maxHeartbeats 1000000
theorem spS_ok : CallOk Try.prog spS := by
  intro f args H v H' h
  unfold spS at h
  split at h
  · rename_i hf
    subst hf
    split at h
    · rename_i es
      obtain ⟨ks, hks, h⟩ := Option.bind_eq_some_iff.1 h
      split at h
      · rename_i hc
        obtain ⟨hne, hl⟩ := hc
        simp only [Option.some.injEq, Prod.mk.injEq] at h
        obtain ⟨rfl, rfl⟩ := h
        refine ⟨⟨_, Try.func55, rfl, by kernel_rfl⟩, fun F pl w us hI hr => ?_⟩
        obtain ⟨u, r, rfl, hu, hr⟩ := hr.uncons
        rw [hr.nil_inv]
        cases hu with
        | @fn _ _ vs hvs hvr =>
        obtain ⟨pv, rfl⟩ : ∃ pv, vs = #[pv] := by
          rcases vs with ⟨_ | ⟨a, _ | ⟨b, l⟩⟩⟩
          · simp at hvs
          · exact ⟨a, rfl⟩
          · simp at hvs
        have hpv := hvr 0 (.ptr 0 0) pv rfl rfl
        cases hpv with
        | @ptr _ _ p hp =>
        obtain ⟨p', hp', c1, c2, c3⟩ := hI.cell 0 [.mp 1] rfl
        rw [hp] at hp'
        cases hp'
        obtain ⟨mv, hmv, hrel⟩ := c3 0 (.mp 1) rfl
        cases hrel with
        | @mp _ q hq =>
        obtain ⟨hfree, q', ces, clock, hq', hw, hm1, hm2, hst⟩ := hI.map 1 es rfl
        rw [hq] at hq'
        cases hq'
        obtain ⟨e1, e2⟩ := keysI_eq hks
        rw [e1] at hm1
        obtain ⟨D0, d1, d2, d3⟩ := wMap hw hst (relL_ints hm1) e2 hl
        have hBm := hI.pos 0 p ⟨_, rfl⟩ hp
        refine Calls.mono (OlvSortedKeys p.block (p.base + 0) q.block ces.size D0 w hBm hmv d1 (by rw [d2]; exact Nat.le_trans hl (by unfold maxLen; omega)) (by rw [d2]; omega)) fun e w' ⟨v, ss, he, hperm, hrow, hnil, hb⟩ => ?_
        subst he
        have hpk := hperm.trans d3
        have hsl := hpk.length_eq
        have hsn : ss ≠ [] := fun e => hne (by rw [e] at hpk; exact List.eq_nil_of_length_eq_zero (by rw [← hpk.length_eq]; rfl))
        rw [sortI_perm hpk] at hrow
        rcases hrow.2 with ⟨rfl, _⟩ | ⟨g, cap, cur, rfl, r1, r2, r3, r4, r5, r6⟩
        · exact absurd (hnil.1 rfl) hsn
        · have hcs : (iL (sortI ks)).length = ks.length := by rw [iL_len, sortI_len]
          obtain ⟨i1, i2, i3⟩ := row_inv (cs := iL (sortI ks)) hI hb r1 r2 (by rw [hcs]; omega) (iL_free _) (iL_one _) (fun j x hx => by
            have hj : j < (sortI ks).length := by have := (List.getElem?_eq_some_iff.1 hx).1; rwa [iL_len] at this
            have hx' : x = .int .i64 (sortI ks)[j] := by
              have := hx
              simp [iL, hj] at this
              exact this.symm
            subst hx'
            refine ⟨.int .i64 (sortI ks)[j], ?_, fun pl' => Rel.int _ _⟩
            have h6 : (cur.toList.take (ss.length * 1))[j]? = ((sortI ks).map encZ)[j]? := by rw [r6]
            rw [sortI_len] at hj
            rw [List.getElem?_take_of_lt (by omega)] at h6
            simpa [hj, sortI_len] using h6)
          refine ⟨_, F, _, rfl, ?_, i1, i2, i3⟩
          rw [← hsl]
          refine Rel.sl (p := ⟨g, 0, cur.size⟩) extPl_new r3 (fun _ => ⟨rfl, ?_⟩) rfl
          simp only
          omega
      · cases h
    · cases h
  · cases h
end Go.AM.Pr
