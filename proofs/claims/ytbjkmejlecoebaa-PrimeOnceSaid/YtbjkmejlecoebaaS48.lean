/- A part of the proof: S40 S45 S46 S47 S48. -/
import Derived.Test.YtbjkmejlecoebaaS39
set_option linter.unusedSectionVars false
set_option linter.unusedVariables false
set_option linter.unusedSimpArgs false
namespace Go.AM
open Go.MapKept
section
variable {F : RoT} {pl : PlT} {H : Heap} {w w' : World}
/-- a row that a call has laid somewhere behind -/
theorem row_inv (hI : Inv F pl H w) (hb : Go.RowKit.Below w.heap.size w w') {g : Nat} {cur : Array Value} {t : TypeId} {cs : List AV} (hg : w.heap.size ≤ g) (hc : w'.heap[g]? = some (.cells cur t (0, 0)))
    (hl : cs.length ≤ cur.size) (hf : idFreeL cs = true) (h1 : oneL cs = true) (hr : ∀ (j : Nat) x, cs[j]? = some x → ∃ v, cur[j]? = some v ∧ ∀ pl' : PlT, Rel F pl' x v) :
    Inv F (extPl pl H.length ⟨g, 0, cur.size⟩) (H ++ [some (.data cs)]) w' ∧ Stp F pl H w F (extPl pl H.length ⟨g, 0, cur.size⟩) (H ++ [some (.data cs)]) w' ∧ LeF pl (extPl pl H.length ⟨g, 0, cur.size⟩) := by
  have hle : LeF pl (extPl pl H.length ⟨g, 0, cur.size⟩) := extPl_le (hI.fresh H.length (Nat.le_refl _))
  have hcl : ∀ a : Addr, a.block < w.heap.size → w'.cell? a = w.cell? a := fun a ha => by simp [World.cell?, hb.block _ ha]
  have hFb : ∀ a v, F a = some v → a.block < w.heap.size := fun a v h => by
    have := hI.ro a v h
    rcases Nat.lt_or_ge a.block w.heap.size with h' | h'
    · exact h'
    · simp [World.cell?, Array.getElem?_eq_none h'] at this
  have hgl : g < w'.heap.size := (Array.getElem?_eq_some_iff.1 hc).1
  have hcell : ∀ j : Nat, w'.cell? ⟨g, j, none⟩ = cur[j]? := fun j => by simp [World.cell?, hc]
  have hfz : ∀ j : Nat, w'.frozen? ⟨g, j, none⟩ = false := fun j => by simp [World.frozen?, hc]
  have old : ∀ i p, live (H ++ [some (.data cs)]) i → extPl pl H.length ⟨g, 0, cur.size⟩ i = some p → i ≠ H.length → live H i ∧ pl i = some p := fun i p hi hp e => by
    rw [extPl_old e] at hp
    exact ⟨(live_push_old e).1 hi, hp⟩
  refine ⟨Inv.of_objs (fun i hi => ?_) (fun i o ho => ?_) (fun i j p q hi hj hp hq e => ?_) (fun a v hv => ?_) (fun a v i p hv hi hp => ?_), ⟨⟨hb.os, hb.tape, hb.output, hb.size, fun k hk _ => hb.block k hk⟩, fun b hbo => ?_, LeF.refl _, fun a v hv => .inl hv⟩, hle⟩
  · simp at hi
    rw [extPl_old (by omega)]
    exact hI.fresh i (by omega)
  · by_cases e : i = H.length
    · subst e
      rw [get_push_new] at ho
      cases ho
      refine ⟨_, extPl_new, fun cs' e' => ?_, fun cs' e' => ?_, fun es e' => (by cases e'), hgl⟩
      · cases e'
        refine ⟨hl, h1, fun j hj => ?_, fun j x hx => ?_⟩
        · refine ⟨cur[j]'hj, ?_, hfz _⟩
          rw [hcell]
          simp only [Nat.zero_add]
          exact Array.getElem?_eq_getElem hj
        · obtain ⟨v, hv, hx'⟩ := hr j x hx
          refine ⟨v, ?_, hx' _⟩
          rw [hcell]
          simpa using hv
      · cases e'; exact hf
    · rw [get_push_old e] at ho
      obtain ⟨p, hp, hok⟩ := hI.obj ho
      refine ⟨p, by rw [extPl_old e]; exact hp, hok.mono (LeF.refl _) hle (hb.block _ (hI.pos i p ⟨o, ho⟩ hp))⟩
  · have lt : ∀ i p, live (H ++ [some (.data cs)]) i → extPl pl H.length ⟨g, 0, cur.size⟩ i = some p → i ≠ H.length → p.block < w.heap.size := fun i p hi hp e => by
      obtain ⟨a, b⟩ := old i p hi hp e
      exact hI.pos i p a b
    by_cases e1 : i = H.length
    · by_cases e2 : j = H.length
      · omega
      · have := lt j q hj hq e2
        subst e1
        rw [extPl_new] at hp; cases hp
        simp only at e
        omega
    · by_cases e2 : j = H.length
      · have := lt i p hi hp e1
        subst e2
        rw [extPl_new] at hq; cases hq
        simp only at e
        omega
      · obtain ⟨a, b⟩ := old i p hi hp e1
        obtain ⟨c, d⟩ := old j q hj hq e2
        exact hI.inj i j p q a c b d e
  · rw [hcl a (hFb a v hv)]
    exact hI.ro a v hv
  · by_cases e : i = H.length
    · subst e
      rw [extPl_new] at hp; cases hp
      have := hFb a v hv
      simp only
      omega
    · obtain ⟨b, c⟩ := old i p hi hp e
      exact hI.sep a v i p hv b c
  · obtain ⟨i, p, hi, hp, rfl⟩ := hbo
    by_cases e : i = H.length
    · subst e
      rw [extPl_new] at hp; cases hp
      exact .inr hg
    · obtain ⟨b, c⟩ := old i p hi hp e
      exact .inl ⟨i, p, b, c, rfl⟩
end
end Go.AM
namespace Go.AM.Pr
open Go.MapKept Go.Proofs
/-- the keys of a map, where they are ints -/
def keysI : List (AV × AV) → Option (List Int)
  | [] => some []
  | (.int .i64 n, _) :: r => if (Lit.int .i64 n).wf = true then (keysI r).map (n :: ·) else none
  | _ => none
def sortI (l : List Int) : List Int := l.mergeSort (fun x y => decide (x ≤ y))
/-- slices.Sorted at the iterator that maps.Keys gives -/
def spS : CallF := fun f args H =>
  if f = 55 then
    match args, H with
    | [.fn 69 [.ptr 0 0]], [some (.box [.mp 1]), some (.map es)] =>
      (keysI es).bind fun ks => if ks ≠ [] ∧ ks.length ≤ 1000 then some (.sl 2 1 0 ks.length, [some (.box [.mp 1]), some (.map es), some (.data (iL (sortI ks)))]) else none
    | _, _ => none
  else none
theorem keysI_eq : ∀ {es : List (AV × AV)} {ks : List Int}, keysI es = some ks → es.map (·.1) = iL ks ∧ ∀ k ∈ ks, (Lit.int .i64 k).wf = true
  | [], ks, h => by simp [keysI] at h; subst h; exact ⟨rfl, by simp⟩
  | (k, v) :: r, ks, h => by
    unfold keysI at h
    split at h
    · cases h; rename_i e; cases e
    · rename_i n v' r' e
      cases e
      split at h
      · rename_i hw
        obtain ⟨l, hl, rfl⟩ := Option.map_eq_some_iff.1 h
        obtain ⟨a, b⟩ := keysI_eq hl
        refine ⟨by simp [iL] at a ⊢; exact a, fun x hx => ?_⟩
        rcases List.mem_cons.1 hx with rfl | hx
        · exact hw
        · exact b x hx
      · cases h
    · cases h
theorem iL_one : ∀ l : List Int, oneL (iL l) = true
  | [] => rfl
  | a :: l => by
    have e : iL (a :: l) = .int .i64 a :: iL l := rfl
    rw [e]
    simp [oneL, AV.one, iL_one l]
theorem relL_ints {F : RoT} {pl : PlT} : ∀ {l : List Int} {us : List Value}, RelL F pl (iL l) us → us = l.map (Value.int .i64)
  | [], us, h => by simpa [iL] using h.nil_inv
  | a :: l, us, h => by
    have e : iL (a :: l) = .int .i64 a :: iL l := rfl
    rw [e] at h
    obtain ⟨u, r, rfl, h1, h2⟩ := h.uncons
    rw [rel_int_inv h1, relL_ints h2]
    rfl
theorem keysI_perm {ks : List Int} {ces : Array MapEntry} (hk : ces.toList.map (·.key) = ks.map (Value.int .i64)) (hw : ∀ k ∈ ks, (Lit.int .i64 k).wf = true) :
    ∀ x ∈ ces.toList, ∃ n : Int, x.key = .int .i64 n ∧ n ∈ ks ∧ (Lit.int .i64 n).wf = true := fun x hx => by
  have : x.key ∈ ces.toList.map (·.key) := List.mem_map.2 ⟨x, hx, rfl⟩
  rw [hk] at this
  obtain ⟨n, hn, e⟩ := List.mem_map.1 this
  exact ⟨n, e.symm, hn, hw n hn⟩
theorem map_of {H : Type} {l : List MapEntry} {f : MapEntry → Lit × DataW H} {g : MapEntry → Int} (h : ∀ x ∈ l, intOf (f x).1 = g x) : (l.map f).map (fun p => intOf p.1) = l.map g := by
  rw [List.map_map]
  exact List.map_congr_left fun x hx => h x hx
def anyR : Value → Option (DataW Nat × List MemPlace) := fun _ => some (.lit (.bool true), [])
theorem rg_key {x : MapEntry} {n : Int} (hx : x.key = .int .i64 n) (hw : (Lit.int .i64 n).wf = true) : Go.WideElems.rd Try.prog 3 anyR x = some (.int .i64 n, .lit (.bool true)) := by
  have hk : keyOf Try.prog 3 x.key = some (.int .i64 n) := by rw [hx]; exact Go.Maps.keyOf_int_mk Try.underlying3 hw
  simp [Go.WideElems.rd, hk, anyR]
theorem wMap {w : World} {b : Nat} {ces : Array MapEntry} {clock : Nat} {ks : List Int} (hb : w.heap[b]? = some (.map ces clock)) (hst : Stamped ces clock) (hk : ces.toList.map (·.key) = ks.map (Value.int .i64))
    (hw : ∀ k ∈ ks, (Lit.int .i64 k).wf = true) (hl : ks.length ≤ 1000) :
    ∃ D0 : DataW Nat, w.ownsMap Try.prog 3 anyR b ces.size D0 ∧ Go.Maps.size D0 = ks.length ∧ (intKeys D0).Perm ks := by
  have hp := keysI_perm hk hw
  have hs : ces.size = ks.length := by have := congrArg List.length hk; simpa using this
  have hrg : ∀ x ∈ ces.toList, intOf (Go.WideElems.rg Try.prog 3 anyR x).1 = (match x.key with | .int _ n => n | _ => 0) := fun x hx => by
    obtain ⟨n, h1, _, h3⟩ := hp x hx
    rw [Go.WideElems.rg_of (rg_key h1 h3), h1]
    rfl
  refine ⟨_, ⟨ces, clock, hb, ⟨?_, hst, fun x hx => ?_⟩, Nat.le_refl _, rfl⟩, ?_, ?_⟩
  · have : (1000 : Nat) ≤ maxLen := by unfold maxLen; omega
    omega
  · obtain ⟨n, h1, _, h3⟩ := hp x hx
    exact ⟨_, rg_key h1 h3⟩
  · show (List.foldr DataW.insert [] _).length = _
    rw [(Go.WideShapes.sorted_perm _).length_eq]
    simpa using hs
  · show ((List.foldr DataW.insert [] _).map fun p => intOf p.1).Perm ks
    refine ((Go.WideShapes.sorted_perm _).map _).trans ?_
    rw [map_of hrg]
    have : ces.toList.map (fun x : MapEntry => (match x.key with | .int _ n => n | _ => (0 : Int))) = (ces.toList.map (·.key)).map (fun v : Value => (match v with | .int _ n => n | _ => (0 : Int))) := by
      rw [List.map_map]; rfl
    rw [this, hk, List.map_map]
    have : (fun v : Value => (match v with | .int _ n => n | _ => (0 : Int))) ∘ Value.int IntKind.i64 = id := rfl
    rw [this, List.map_id]
theorem sortI_perm {a b : List Int} (h : a.Perm b) : a.mergeSort (fun x y => decide (x ≤ y)) = sortI b := mergeSort_of_perm_i h
theorem sortI_len (l : List Int) : (sortI l).length = l.length := (List.mergeSort_perm _ _).length_eq
set_option maxHeartbeats 1000000
theorem spS_ok : CallOk Try.prog spS := by
  intro f args H v H' h
  unfold spS at h
  split at h
  · rename_i hf
    subst hf
    split at h
    · rename_i es
      obtain ⟨ks, hks, h⟩ := Option.bind_eq_some_iff.1 h
      split at h
      · rename_i hc
        obtain ⟨hne, hl⟩ := hc
        simp only [Option.some.injEq, Prod.mk.injEq] at h
        obtain ⟨rfl, rfl⟩ := h
        refine ⟨⟨_, Try.func55, rfl, by kernel_rfl⟩, fun F pl w us hI hr => ?_⟩
        obtain ⟨u, r, rfl, hu, hr⟩ := hr.uncons
        rw [hr.nil_inv]
        cases hu with
        | @fn _ _ vs hvs hvr =>
        obtain ⟨pv, rfl⟩ : ∃ pv, vs = #[pv] := by
          rcases vs with ⟨_ | ⟨a, _ | ⟨b, l⟩⟩⟩
          · simp at hvs
          · exact ⟨a, rfl⟩
          · simp at hvs
        have hpv := hvr 0 (.ptr 0 0) pv rfl rfl
        cases hpv with
        | @ptr _ _ p hp =>
        obtain ⟨p', hp', c1, c2, c3⟩ := hI.cell 0 [.mp 1] rfl
        rw [hp] at hp'
        cases hp'
        obtain ⟨mv, hmv, hrel⟩ := c3 0 (.mp 1) rfl
        cases hrel with
        | @mp _ q hq =>
        obtain ⟨hfree, q', ces, clock, hq', hw, hm1, hm2, hst⟩ := hI.map 1 es rfl
        rw [hq] at hq'
        cases hq'
        obtain ⟨e1, e2⟩ := keysI_eq hks
        rw [e1] at hm1
        obtain ⟨D0, d1, d2, d3⟩ := wMap hw hst (relL_ints hm1) e2 hl
        have hBm := hI.pos 0 p ⟨_, rfl⟩ hp
        refine Calls.mono (OlvSortedKeys p.block (p.base + 0) q.block ces.size D0 w hBm hmv d1 (by rw [d2]; exact Nat.le_trans hl (by unfold maxLen; omega)) (by rw [d2]; omega)) fun e w' ⟨v, ss, he, hperm, hrow, hnil, hb⟩ => ?_
        subst he
        have hpk := hperm.trans d3
        have hsl := hpk.length_eq
        have hsn : ss ≠ [] := fun e => hne (by rw [e] at hpk; exact List.eq_nil_of_length_eq_zero (by rw [← hpk.length_eq]; rfl))
        rw [sortI_perm hpk] at hrow
        rcases hrow.2 with ⟨rfl, _⟩ | ⟨g, cap, cur, rfl, r1, r2, r3, r4, r5, r6⟩
        · exact absurd (hnil.1 rfl) hsn
        · have hcs : (iL (sortI ks)).length = ks.length := by rw [iL_len, sortI_len]
          obtain ⟨i1, i2, i3⟩ := row_inv (cs := iL (sortI ks)) hI hb r1 r2 (by rw [hcs]; omega) (iL_free _) (iL_one _) (fun j x hx => by
            have hj : j < (sortI ks).length := by have := (List.getElem?_eq_some_iff.1 hx).1; rwa [iL_len] at this
            have hx' : x = .int .i64 (sortI ks)[j] := by
              have := hx
              simp [iL, hj] at this
              exact this.symm
            subst hx'
            refine ⟨.int .i64 (sortI ks)[j], ?_, fun pl' => Rel.int _ _⟩
            have h6 : (cur.toList.take (ss.length * 1))[j]? = ((sortI ks).map encZ)[j]? := by rw [r6]
            rw [sortI_len] at hj
            rw [List.getElem?_take_of_lt (by omega)] at h6
            simpa [hj, sortI_len] using h6)
          refine ⟨_, F, _, rfl, ?_, i1, i2, i3⟩
          rw [← hsl]
          refine Rel.sl (p := ⟨g, 0, cur.size⟩) extPl_new r3 (fun _ => ⟨rfl, ?_⟩) rfl
          simp only
          omega
      · cases h
    · cases h
  · cases h
end Go.AM.Pr

set_option linter.unusedSectionVars false
set_option linter.unusedVariables false
set_option linter.unusedSimpArgs false
namespace Go.AM.Pr
open Go.AM.Num
noncomputable def entE (x : Int) : En := if x = 2 then ⟨2, 1, .nilS, []⟩ else ⟨x, (witN x.toNat : Int), fzL (ps (facOf (x.toNat - 1))), ps (facOf (x.toNat - 1))⟩
theorem entE_p (x : Int) : (entE x).p = x := by
  unfold entE
  split
  · rename_i h; rw [h]
  · rfl
theorem entE_good (x : Int) : IsL (entE x).fv (entE x).f := by
  unfold entE
  split
  · exact .nil
  · exact isL_fz _
theorem ent_E (p : Nat) : ent p = .agg [.int .i64 (entE (p : Int)).p, .int .i64 (entE (p : Int)).w, (entE (p : Int)).fv] := by
  unfold ent entE
  by_cases h : p = 2
  · subst h; rfl
  · rw [if_neg h, if_neg (by omega), Int.toNat_natCast]
noncomputable def srt (s : List Nat) : List Int := sortI (s.map fun (p : Nat) => (p : Int))
noncomputable def prf (s : List Nat) : List En := (srt s).map entE
theorem srt_mem {s : List Nat} {x : Int} : x ∈ srt s ↔ ∃ p ∈ s, (p : Int) = x := by
  unfold srt sortI
  rw [(List.mergeSort_perm _ _).mem_iff, List.mem_map]
theorem srt_len (s : List Nat) : (srt s).length = s.length := by
  unfold srt
  rw [sortI_len, List.length_map]
theorem srt_lt {s : List Nat} (h : s.Nodup) : (srt s).Pairwise (· < ·) := by
  have h1 : (srt s).Pairwise (fun a b => decide (a ≤ b) = true) := List.pairwise_mergeSort (fun a b c h1 h2 => by simp at *; omega) (fun a b => by simp; omega) _
  have h2 : (srt s).Nodup := by
    unfold srt sortI
    rw [(List.mergeSort_perm _ _).nodup_iff]
    exact List.Pairwise.map (R := (· ≠ ·)) _ (fun a b h e => h (by exact Int.ofNat_inj.1 e)) h
  exact (h1.and h2).imp fun ⟨a, b⟩ => by
    simp only [decide_eq_true_eq] at a
    have : ¬ _ = _ := b
    omega
theorem prf_len (s : List Nat) : (prf s).length = s.length := by unfold prf; rw [List.length_map, srt_len]
theorem prf_ge {s : List Nat} {i : Nat} (h : i < (srt s).length) : ge (prf s) i = entE (srt s)[i] := by
  rw [ge_lt (by unfold prf; rw [List.length_map]; exact h)]
  simp [prf]
theorem prf_Bk (s : List Nat) (i : Nat) : Bk (prf s) i = (srt s).take i := by
  unfold Bk prf
  rw [← List.map_take, List.map_map]
  have : (fun x : En => x.p) ∘ entE = id := funext fun x => entE_p x
  rw [this, List.map_id]
theorem tmod2 {P : Nat} (h : P % 2 = 1) : (P : Int).tmod 2 ≠ 0 := by
  rw [Int.tmod_eq_emod_of_nonneg (by omega)]
  omega
theorem take_mem {l : List Int} {i j : Nat} (hl : l.Pairwise (· < ·)) (hi : i < l.length) (hj : j < l.length) (h : l[j] < l[i]) : l[j] ∈ l.take i := by
  have hji : j < i := by
    rcases Nat.lt_or_ge j i with h1 | h1
    · exact h1
    · exfalso
      rcases Nat.lt_or_ge i j with h2 | h2
      · have := List.pairwise_iff_getElem.1 hl i j hi hj h2
        omega
      · have : i = j := by omega
        subst this
        omega
  refine List.mem_of_getElem? (i := j) ?_
  rw [List.getElem?_take_of_lt hji]
  exact List.getElem?_eq_getElem hj
theorem prf_GP {p : Nat} (hp : IsPr p) (hp2 : p ≤ 2147483647) : GP (prf (pvF p p [])) (p : Int) := by
  obtain ⟨hg, hm, _⟩ := pvF_good p p [] (Nat.le_refl _) hp Gd.nil
  have hle : ∀ y ∈ pvF p p [], y ≤ p := fun y hy => by
    rcases pvF_le p p [] y hy with h | h
    · cases h
    · exact h
  generalize pvF p p [] = s at *
  have hlt := srt_lt hg.nd
  have hsl := srt_len s
  have hpl := prf_len s
  have hpos : 0 < s.length := List.length_pos_of_mem hm
  have hpm : (p : Int) ∈ srt s := srt_mem.2 ⟨p, hm, rfl⟩
  refine ⟨by omega, ?_, fun i hi => ?_⟩
  · rw [hpl, prf_ge (by omega), entE_p]
    obtain ⟨j, hj, hjp⟩ := List.getElem_of_mem hpm
    obtain ⟨y, hy, hye⟩ := srt_mem.1 (List.getElem_mem (l := srt s) (n := s.length - 1) (by omega))
    have := hle y hy
    rcases Nat.lt_or_ge j (s.length - 1) with h | h
    · have := List.pairwise_iff_getElem.1 hlt j (s.length - 1) hj (by omega) h
      omega
    · have : j = s.length - 1 := by omega
      subst this
      exact hjp
  · have hi' : i < (srt s).length := by omega
    refine ⟨?_, fun h0 => ?_⟩
    · rw [prf_ge hi', prf_Bk]
      obtain ⟨P, hP, hPx⟩ := srt_mem.1 (List.getElem_mem hi')
      have hPp := hg.pr P hP
      have hP1 := hPp.1
      have hPl := hle P hP
      by_cases h2 : P = 2
      · left
        rw [← hPx, h2]
        exact ⟨rfl, rfl, rfl⟩
      · right
        have hL := fac_pm hPp
        have hfl := fac_lt hP1
        have e : entE (srt s)[i] = ⟨(P : Int), (witN P : Int), fzL (ps (facOf (P - 1))), ps (facOf (P - 1))⟩ := by
          rw [← hPx]
          unfold entE
          rw [if_neg (by omega), Int.toNat_natCast]
        rw [e]
        obtain ⟨w1, w2, w3, w4⟩ := witN_spec hPp
        have w5 := wit_two hPp (by omega)
        have hodd := odd_pr hPp (by omega)
        have e1 : ((P : Int) - 1).toNat = P - 1 := by omega
        refine ⟨by show ¬ (P : Int) = 2; omega, by show (3 : Int) ≤ P; omega, tmod2 (by omega), ⟨by show (1 : Int) ≤ P; omega, by show (P : Int) ≤ 2147483647; omega⟩, by show (2 : Int) ≤ witN P; omega, by show (witN P : Int) < P; omega, fun k hk => ?_, fun q hq hd => ?_, ?_⟩
        · dsimp only at hk ⊢
          rw [ps_len] at hk
          have hk1 : ∀ j : Nat, (h : j < (facOf (P - 1)).length) → getI (ps (facOf (P - 1))) (j : Int) = (((facOf (P - 1))[j].1 : Nat) : Int) := fun j hj => by
            rw [getI_nat]
            simp [ps, List.getD, hj]
          obtain ⟨q1, q2, q3⟩ := hfl _ (List.getElem_mem hk)
          refine ⟨?_, fun h0 => ?_, ?_⟩
          · rw [hk1 k hk]
            have hqs := hg.cl P hP h2 _ (List.getElem_mem hk)
            obtain ⟨j, hj, hje⟩ := List.getElem_of_mem (srt_mem.2 ⟨_, hqs, rfl⟩)
            rw [← hje]
            exact take_mem hlt hi' hj (by rw [hje, ← hPx]; omega)
          · have e3 : (k : Int) - 1 = ((k - 1 : Nat) : Int) := by omega
            rw [e3, hk1 k hk, hk1 (k - 1) (by omega)]
            have := List.pairwise_iff_getElem.1 hL.asc (k - 1) k (by rw [List.length_map]; omega) (by rw [List.length_map]; omega) (by omega)
            simp only [List.getElem_map] at this
            omega
          · rw [hk1 k hk, e1, Int.toNat_natCast]
            exact q3
        · dsimp only at hd ⊢
          rw [e1] at hd
          obtain ⟨f, hf⟩ := pr_dvd_prod hq hL.all (by rw [hL.prod]; exact hd)
          exact List.mem_map.2 ⟨(q, f), hf, rfl⟩
        · dsimp only
          rw [Int.toNat_natCast, Int.toNat_natCast]
          exact w3
    · rw [prf_ge hi', prf_ge (by omega), entE_p, entE_p]
      exact List.pairwise_iff_getElem.1 hlt (i - 1) i (by omega) hi' (by omega)
theorem prf_small {s : List Nat} (hl : s.length ≤ 100) (hm : ∀ y ∈ s, IsPr y ∧ y ≤ 2147483647) : Small (prf s) := by
  refine ⟨by rw [prf_len]; omega, fun e he => ?_⟩
  obtain ⟨x, hx, rfl⟩ := List.mem_map.1 he
  obtain ⟨P, hP, rfl⟩ := srt_mem.1 hx
  obtain ⟨h1, h2⟩ := hm P hP
  unfold entE
  split
  · simp
  · rw [Int.toNat_natCast]
    show (ps (facOf (P - 1))).length ≤ 1000
    rw [ps_len]
    have := fac_len31 (fac_pm h1) (by omega)
    omega
theorem prf_goodE (s : List Nat) : GoodE (prf s) := fun e he => by
  obtain ⟨x, _, rfl⟩ := List.mem_map.1 he
  exact entE_good x
end Go.AM.Pr

set_option linter.unusedSectionVars false
set_option linter.unusedVariables false
set_option linter.unusedSimpArgs false
namespace Go.AM.Pr
attribute [local go_sem] gc subHeap reach_skip ren_free reach_new reach_newp reach_end rangeL roots boxCells nodupB posOf renL AV.ren pickO renH renO looks look bindEnv envOf reach_int reach_bool reach_nilS reach_rd putRow cells_sl cells_int cells_bool cells_nilS cells_rd cells_agg reach_agg reach_tup idFreeL idf_sl idf_ptr idf_int idf_bool idf_nilS idf_rd reach_fn reach_mp cells_fn cells_ptr cells_mp idf_mp idf_fn idf_agg idf_tup
open Go.AM.Num
set_option maxHeartbeats 4000000
abbrev evZ : Nat → CallF := evS spS tab it
theorem callsZ (n : Nat) : CallOk Go.Proofs.Try.prog (evZ n) := evS_sound spS_ok mix it_ok tok tab_ok n
theorem f56 {M : List (AV × AV)} {m : Nat} (hm : 1 ≤ m) : evF tab it m 56 [.mp 0] [some (.map M)] = some (.fn 69 [.ptr 1 0], [some (.map M), some (.box [.mp 0])]) := by
  obtain ⟨m, rfl⟩ : ∃ j, m = j + 1 := ⟨m - 1, by omega⟩
  refine f_enterH rfl rfl ?_
  generalize evF tab it m = call at *
  have ob : evE call [some (.map M)] (.box false) [.mp 0] = some (.ptr 1 0, [some (.map M), some (.box [.mp 0])]) := rfl
  repeat' first
 | (apply s_mov; (focus ((conv => lhs; whnf); done)))
 | (apply c_nil)
 | (apply s_en; (focus (repeat (first | apply opds_nil | (apply opds_cons; (first | (focus ((conv => lhs; whnf); done)) | exact rfl))))); exact ob)
 | (apply s_pn; (focus (repeat (first | apply opds_nil | (apply opds_cons; (first | (focus ((conv => lhs; whnf); done)) | exact rfl))))); exact p_mkfn)
 | (apply c_seq)
 | (apply c_reg)
 | (apply c_ret)
 | (with_reducible apply k_c)
  simp [finish, ress, resOf, look, tupOf, go_sem]
theorem p_idxO {H : Heap} {id n : Nat} {l : List Int} {i : Nat} (h : H.data? id = some (iL l)) (hn : n = l.length) (hi : i < n) : evP H (.idxA 1) [.sl id 1 0 n, .int .i64 (i : Int)] = some (.ptr id i) := by
  subst hn
  have : H.cells? id = some (iL l) := cells_of_data h
  have hl := iL_len l
  simp [evP, idxSl, getRow, this]
  omega
theorem p_ldO {H : Heap} {id : Nat} {l : List Int} {i : Nat} (h : H.data? id = some (iL l)) (hi : i < l.length) : evP H (.ld false 1) [.ptr id i] = some (.int .i64 l[i]) := by
  have : H.cells? id = some (iL l) := cells_of_data h
  have hl := iL_len l
  have e : ((iL l).drop i).take 1 = [.int .i64 l[i]] := by
    rw [List.drop_eq_getElem_cons (by omega)]
    simp [iL]
  have hg : getRow H id i 1 = some [.int .i64 l[i]] := by
    unfold getRow
    rw [this, Option.bind_some, if_pos (by omega), e]
  simp [evP, ldc, hg, wholeOf]
theorem e_st2 {call : CallF} {H : Heap} {id : Nat} {a b d : AV} {e : Int} (hH : H[id]? = some (some (.box [a, b]))) (h3 : d.one = true) (h4 : d.cells = [d]) : evE call H (.st 2) [.ptr id 0, .agg [.int .i64 e, d]] = some (.undef, H.set id (some (.box [.int .i64 e, d]))) := by
  have o1 : ∀ y : Int, (AV.int .i64 y).one = true := fun _ => rfl
  exact e_stA hH (by simp [go_sem, h4]) rfl (by simp [oneL, o1, h3]) rfl
theorem fin_cellT {p q n : Nat} {a v v' u : AV} {env : Env} {H H' : Heap} (h : look env p = a) (hu : look env q = u) (hl : evP H (.ld true n) [a] = some v) (hg : gc 0 [.tup [v, u]] H = some ([v'], H')) : finish 0 [.cell p true n, .t q] env H = some (v', H') := by
  simp only [evP] at hl
  simp [finish, ress, resOf, h, hu, hl, tupOf, hg]
/-- Decide, where the number is none, one, or composite -/
theorem f30e {n : Int} (hn : ¬ IsNum n) {m : Nat} (hm : 50000 ≤ m) : evZ m 30 [.int .i64 n] [] = some (.tup [.agg [.int .i64 0, .nilS], .int .i64 2], []) := by
  obtain ⟨m, rfl⟩ : ∃ j, m = j + 1 := ⟨m - 1, by omega⟩
  have e41 := fun H => callPure_up (sp := spS) (Nat.le_refl _) (c41 (m := m) (by omega) n H)
  simp only [hn, decide_false] at e41
  refine s_enter rfl rfl ?_
  generalize evS spS tab it m = call at *
  repeat' first
 | (apply s_mov; (focus ((conv => lhs; whnf); done)))
 | (apply c_nil)
 | (apply s_notF; exact rfl)
 | (apply s_cn; (focus (repeat (first | apply opds_nil | (apply opds_cons; (first | (focus ((conv => lhs; whnf); done)) | exact rfl))))); exact e41 _)
 | (apply s_st; (focus (repeat (first | apply opds_nil | (apply opds_cons; (first | (focus ((conv => lhs; whnf); done)) | exact rfl))))); exact e_st2 rfl rfl rfl)
 | (apply s_pd; exact rfl)
 | (apply isE; apply s_ed; (focus ((conv => lhs; whnf); done)))
 | (apply c_seq)
 | (apply c_reg)
 | (apply c_ret)
 | (apply c_condT; exact rfl)
 | (with_reducible apply k_c)
  all_goals exact fin_cellT (by rfl) (by rfl) (by rfl) (by simp [go_sem])
theorem f30o {m : Nat} (hm : 50000 ≤ m) : evZ m 30 [.int .i64 1] [] = some (.tup [.agg [.int .i64 1, .nilS], .int .i64 0], []) := by
  obtain ⟨m, rfl⟩ : ∃ j, m = j + 1 := ⟨m - 1, by omega⟩
  have e41 := fun H => callPure_up (sp := spS) (Nat.le_refl _) (c41 (m := m) (by omega) 1 H)
  have h1 : IsNum 1 := ⟨by omega, by omega⟩
  simp only [h1, decide_true] at e41
  refine s_enter rfl rfl ?_
  generalize evS spS tab it m = call at *
  repeat' first
 | (apply s_mov; (focus ((conv => lhs; whnf); done)))
 | (apply c_nil)
 | (apply s_notT; exact rfl)
 | ((first | apply s_lss | apply s_leq | apply s_gtr | apply s_geq | apply s_eql | apply s_neq); exact rfl; all_goals (intro _; try (exfalso; omega)))
 | (apply s_cn; (focus (repeat (first | apply opds_nil | (apply opds_cons; (first | (focus ((conv => lhs; whnf); done)) | exact rfl))))); exact e41 _)
 | (apply s_st; (focus (repeat (first | apply opds_nil | (apply opds_cons; (first | (focus ((conv => lhs; whnf); done)) | exact rfl))))); exact e_st2 rfl rfl rfl)
 | (apply s_pd; exact rfl)
 | (apply isE; apply s_ed; (focus ((conv => lhs; whnf); done)))
 | (apply c_seq)
 | (apply c_reg)
 | (apply c_skip)
 | (apply c_ret)
 | (apply c_condT; exact rfl)
 | (apply c_condF; exact rfl)
 | (with_reducible apply k_c)
  all_goals exact fin_cellT (by rfl) (by rfl) (by rfl) (by simp [go_sem])
theorem f30c {N q : Nat} {L : List (Nat × Nat)} {e : Nat} {r : List (Nat × Nat)} (hN : 2 ≤ N) (hN2 : N ≤ 2147483647) (hL : Fac L N) (hr : L = (q, e) :: r) (hq : q < N) {m : Nat} (hm : 50000 ≤ m) : evZ m 30 [.int .i64 (N : Int)] [] = some (.tup [.agg [.int .i64 (q : Int), .nilS], .int .i64 0], []) := by
  obtain ⟨m, rfl⟩ : ∃ j, m = j + 1 := ⟨m - 1, by omega⟩
  have e41 := fun H => callPure_up (sp := spS) (Nat.le_refl _) (c41 (m := m) (by omega) N H)
  have e42 := fun H => callPure_up (sp := spS) (Nat.le_refl _) (c42 (by omega) hN2 hL (m := m) (by omega) H)
  have h1 : IsNum (N : Int) := ⟨by omega, by omega⟩
  simp only [h1, decide_true] at e41
  have hlen : 0 < L.length := by rw [hr]; simp
  have i1 := fun H => p_idxG (H := H) (l := L) (i := 0) hlen
  have l1 := fun H => p_ld0 (H := H) (l := L) (i := 0) hlen
  have g1 : gp L 0 = (q, e) := by rw [hr]; rfl
  rw [g1] at l1
  simp only [Nat.zero_mul] at i1 l1
  have fl := fun H => p_fld0 (H := H) (l := L) (i := 0)
  simp only [Nat.zero_mul] at fl
  refine s_enter rfl rfl ?_
  generalize evS spS tab it m = call at *
  generalize fzP L = fz at *
  repeat' first
 | (apply s_mov; (focus ((conv => lhs; whnf); done)))
 | (apply c_nil)
 | (apply s_notT; exact rfl)
 | ((first | apply s_lss | apply s_leq | apply s_gtr | apply s_geq | apply s_eql | apply s_neq); exact rfl; all_goals (intro _; try (exfalso; omega)))
 | (apply s_cn; (focus (repeat (first | apply opds_nil | (apply opds_cons; (first | (focus ((conv => lhs; whnf); done)) | exact rfl))))); exact e41 _)
 | (apply s_cn; (focus (repeat (first | apply opds_nil | (apply opds_cons; (first | (focus ((conv => lhs; whnf); done)) | exact rfl))))); exact e42 _)
 | (apply s_pn; (focus (repeat (first | apply opds_nil | (apply opds_cons; (first | (focus ((conv => lhs; whnf); done)) | exact rfl))))); exact i1 _)
 | (apply s_pn; (focus (repeat (first | apply opds_nil | (apply opds_cons; (first | (focus ((conv => lhs; whnf); done)) | exact rfl))))); exact l1 _)
 | (apply s_pn; (focus (repeat (first | apply opds_nil | (apply opds_cons; (first | (focus ((conv => lhs; whnf); done)) | exact rfl))))); exact fl _)
 | (apply s_st; (focus (repeat (first | apply opds_nil | (apply opds_cons; (first | (focus ((conv => lhs; whnf); done)) | exact rfl))))); exact e_st2 rfl rfl rfl)
 | (apply s_pd; exact rfl)
 | (apply isE; apply s_ed; (focus ((conv => lhs; whnf); done)))
 | (apply c_seq)
 | (apply c_reg)
 | (apply c_skip)
 | (apply c_ret)
 | (apply c_condT; exact rfl)
 | (apply c_condF; exact rfl)
 | (with_reducible apply k_c)
  all_goals exact fin_cellT (by rfl) (by rfl) (by rfl) (by simp [go_sem])
end Go.AM.Pr

set_option linter.unusedSectionVars false
set_option linter.unusedVariables false
set_option linter.unusedSimpArgs false
namespace Go.AM.Pr
attribute [local go_sem] gc subHeap reach_skip ren_free reach_new reach_newp reach_end rangeL roots boxCells nodupB posOf renL AV.ren pickO renH renO looks look bindEnv envOf reach_int reach_bool reach_nilS reach_rd putRow cells_sl cells_int cells_bool cells_nilS cells_rd cells_agg reach_agg reach_tup idFreeL idf_sl idf_ptr idf_int idf_bool idf_nilS idf_rd reach_fn reach_mp cells_fn cells_ptr cells_mp idf_mp idf_fn idf_agg idf_tup
open Go.AM.Num
set_option maxHeartbeats 4000000
theorem keysI_mE : ∀ {s : List Nat}, (∀ y ∈ s, y ≤ 2147483647) → keysI (mE (KM s)) = some (s.map fun (p : Nat) => (p : Int))
  | [], _ => rfl
  | x :: s, h => by
    have ih := keysI_mE (s := s) fun y hy => h y (List.mem_cons_of_mem _ hy)
    have e : mE (KM (x :: s)) = (.int .i64 (x : Int), ent x) :: mE (KM s) := rfl
    have hx := h x List.mem_cons_self
    rw [e]
    simp only [keysI]
    have hw : (Lit.int .i64 (x : Int)).wf = true := by
      have h1 : (x : Int) ≤ 2147483647 := by omega
      have h2 : (0 : Int) ≤ x := by omega
      generalize (x : Int) = z at *
      have m1 : IntKind.i64.min = -9223372036854775808 := rfl
      have m2 : IntKind.i64.max = 9223372036854775807 := rfl
      simp [Lit.wf, m1, m2]
      omega
    rw [if_pos hw, ih]
    rfl
def oV : Nat → AV
  | 0 => .nilS
  | j + 1 => .sl 2 3 0 (j + 1)
def kV (n : Nat) : Nat → AV
  | 0 => .sl 2 1 0 n
  | _ + 1 => .sl 3 1 0 n
def oH (M : List (AV × AV)) (S C : List AV) : Nat → Heap
  | 0 => [some (.box [.int .i64 0, .nilS]), some (.map M), some (.data S)]
  | _ + 1 => [some (.box [.int .i64 0, .nilS]), some (.map M), some (.data C), some (.data S)]
theorem p_bldS {H : Heap} {id sz o n : Nat} : evP H (.bld [.int .i64 0, .nilS] [(1, 1)]) [.sl id sz o n] = some (.agg [.int .i64 0, .sl id sz o n]) := rfl
theorem prf_take {s : List Nat} {i : Nat} (h : i < (srt s).length) : pcE ((prf s).take (i + 1)) = pcE ((prf s).take i) ++ [.int .i64 (entE (srt s)[i]).p, .int .i64 (entE (srt s)[i]).w, (entE (srt s)[i]).fv] := by
  have h' : i < (prf s).length := by unfold prf; rw [List.length_map]; exact h
  rw [← List.take_append_getElem h', pcE_app]
  simp [prf, pcE]
theorem f30p {p : Nat} (hp : IsPr p) (hp2 : p ≤ 2147483647) {m : Nat} (hm : 50010 + 3 * p ≤ m) : ∃ k, (prf (pvF p p [])).length = k + 1 ∧
    evZ m 30 [.int .i64 (p : Int)] [] = some (.tup [.agg [.int .i64 0, .sl 0 3 0 (k + 1)], .int .i64 0], [some (.data (pcE (prf (pvF p p []))))]) := by
  obtain ⟨m, rfl⟩ : ∃ j, m = j + 2 := ⟨m - 2, by omega⟩
  have hp1 := hp.1
  obtain ⟨hg, hmem, _⟩ := pvF_good p p [] (Nat.le_refl _) hp Gd.nil
  have hle : ∀ y ∈ pvF p p [], y ≤ p := fun y hy => by
    rcases pvF_le p p [] y hy with h | h
    · cases h
    · exact h
  have hlen := pv_len hp hp2
  have hf := f54 p p [] (m + 1) (Nat.le_refl _) hp hp2 (by omega)
  generalize pvF p p [] = s at *
  obtain ⟨k, hk⟩ : ∃ k, s.length = k + 1 := ⟨s.length - 1, by have := List.length_pos_of_mem hmem; omega⟩
  refine ⟨k, by rw [prf_len, hk], ?_⟩
  have hsl := srt_len s
  have hpl := prf_len s
  have hgood := prf_goodE s
  have e41 := fun H => callPure_up (sp := spS) (Nat.le_refl _) (c41 (m := m + 1) (by omega) p H)
  have h1 : IsNum (p : Int) := ⟨by omega, by omega⟩
  simp only [h1, decide_true] at e41
  have hL : Fac [(p, 1)] p := fac_pr hp
  have e42 := fun H => callPure_up (sp := spS) (Nat.le_refl _) (c42 (by omega) hp2 hL (m := m + 1) (by omega) H)
  have i1 := fun H => p_idxG (H := H) (l := [(p, 1)]) (i := 0) (by simp)
  have l1 := fun H => p_ld0 (H := H) (l := [(p, 1)]) (i := 0) (by simp)
  have g1 : gp [(p, 1)] 0 = (p, 1) := rfl
  rw [g1] at l1
  simp only [Nat.zero_mul] at i1 l1
  have fl := fun H => p_fld0 (H := H) (l := [(p, 1)]) (i := 0)
  simp only [Nat.zero_mul] at fl
  have h54 : callMut (evS spS tab it (m + 1)) 54 [.int .i64 (p : Int), .mp 1] [some (.box [.int .i64 0, .nilS]), some (.map [])] = some (.tup [], [some (.box [.int .i64 0, .nilS]), some (.map (mE (KM s)))]) := by
    refine callMut_up (Nat.le_refl _) ?_
    have hf' : evF tab it (m + 1) 54 [.int .i64 (p : Int), .mp 0] [some (.map [])] = some (.tup [], [some (.map (mE (KM s)))]) := hf
    simp [callMut, subHeap, backOf, writeBack, hf', go_sem]
  have h56 : callMut (evS spS tab it (m + 1)) 56 [.mp 1] [some (.box [.int .i64 0, .nilS]), some (.map (mE (KM s)))] = some (.fn 69 [.ptr 2 0], [some (.box [.int .i64 0, .nilS]), some (.map (mE (KM s))), some (.box [.mp 1])]) := by
    refine callMut_up (Nat.le_refl _) ?_
    have := f56 (M := mE (KM s)) (m := m + 1) (by omega)
    simp [callMut, subHeap, backOf, writeBack, this, go_sem]
  have hksI := keysI_mE (s := s) fun y hy => Nat.le_trans (hle y hy) hp2
  have h55 : callMut (evS spS tab it (m + 1)) 55 [.fn 69 [.ptr 2 0]] [some (.box [.int .i64 0, .nilS]), some (.map (mE (KM s))), some (.box [.mp 1])] = some (.sl 3 1 0 (k + 1), [some (.box [.int .i64 0, .nilS]), some (.map (mE (KM s))), some (.box [.mp 1]), some (.data (iL (srt s)))]) := by
    have hs : spS 55 [.fn 69 [.ptr 0 0]] [some (.box [.mp 1]), some (.map (mE (KM s)))] = some (.sl 2 1 0 (k + 1), [some (.box [.mp 1]), some (.map (mE (KM s))), some (.data (iL (srt s)))]) := by
      have hne : s.map (fun (p : Nat) => (p : Int)) ≠ [] := fun e => by
        have := congrArg List.length e
        simp [hk] at this
      have hl2 : (s.map (fun (p : Nat) => (p : Int))).length = k + 1 := by rw [List.length_map, hk]
      simp only [spS, if_true, hksI, Option.bind_some]
      rw [if_pos ⟨hne, by omega⟩, hl2]
      rfl
    have hs' := evS_sp (it := it) (tab := tab) (m := m) (f := 55) rfl hs
    simp [callMut, subHeap, backOf, writeBack, hs', go_sem]
  have hdS : (iL (srt s)).length = k + 1 := by rw [iL_len]; omega
  have lk : ∀ (i : Nat) (hi : i < (srt s).length) (call : CallF) (H : Heap), H[1]? = some (some (.map (mE (KM s)))) → evE call H (.lkM [some .i64] false (.agg [.int .i64 0, .int .i64 0, .nilS])) [.mp 1, .int .i64 (srt s)[i]] = some (.agg [.int .i64 (entE (srt s)[i]).p, .int .i64 (entE (srt s)[i]).w, (entE (srt s)[i]).fv], H) := fun i hi call H h => by
    obtain ⟨P, hP, hPx⟩ := srt_mem.1 (List.getElem_mem hi)
    rw [e_lkMf h, ← hPx, KM_find, if_pos hP, Option.getD_some, ent_E]
  refine s_enter rfl rfl ?_
  generalize evS spS tab it (m + 1) = call at *
  generalize hM : mE (KM s) = M at *
  have gcX : ∀ (i : Nat) C, gc 0 [.ptr 0 0, .mp 1, oV i, kV (k + 1) i, .int .i64 ((k + 1 : Nat) : Int), .int .i64 (i : Int)] (oH M (iL (srt s)) C i) = some ([.ptr 0 0, .mp 1, oV i, kV (k + 1) i, .int .i64 ((k + 1 : Nat) : Int), .int .i64 (i : Int)], oH M (iL (srt s)) C i) := fun i C => by
    cases i <;> simp [oV, kV, oH, go_sem]
  generalize hS : iL (srt s) = S at *
  generalize fzP [(p, 1)] = fz at *
  repeat' first
 | (apply s_mov; (focus ((conv => lhs; whnf); done)))
 | (apply c_nil)
 | (apply s_notT; exact rfl)
 | ((first | apply s_lss | apply s_leq | apply s_gtr | apply s_geq | apply s_eql | apply s_neq); exact rfl; all_goals (intro _; try (exfalso; omega)))
 | (apply s_cn; (focus (repeat (first | apply opds_nil | (apply opds_cons; (first | (focus ((conv => lhs; whnf); done)) | exact rfl))))); exact e41 _)
 | (apply s_cn; (focus (repeat (first | apply opds_nil | (apply opds_cons; (first | (focus ((conv => lhs; whnf); done)) | exact rfl))))); exact e42 _)
 | (apply s_pn; (focus (repeat (first | apply opds_nil | (apply opds_cons; (first | (focus ((conv => lhs; whnf); done)) | exact rfl))))); exact i1 _)
 | (apply s_pn; (focus (repeat (first | apply opds_nil | (apply opds_cons; (first | (focus ((conv => lhs; whnf); done)) | exact rfl))))); exact l1 _)
 | (apply s_pn; (focus (repeat (first | apply opds_nil | (apply opds_cons; (first | (focus ((conv => lhs; whnf); done)) | exact rfl))))); exact fl _)
 | (apply s_en; (focus (repeat (first | apply opds_nil | (apply opds_cons; (first | (focus ((conv => lhs; whnf); done)) | exact rfl))))); exact h54)
 | (apply s_en; (focus (repeat (first | apply opds_nil | (apply opds_cons; (first | (focus ((conv => lhs; whnf); done)) | exact rfl))))); exact h56)
 | (apply s_en; (focus (repeat (first | apply opds_nil | (apply opds_cons; (first | (focus ((conv => lhs; whnf); done)) | exact rfl))))); exact h55)
 | (apply isE; apply s_ed; (focus ((conv => lhs; whnf); done)))
 | (apply s_lenSl; exact rfl)
 | (apply c_seq)
 | (apply c_reg)
 | (apply c_block)
 | (apply c_skip)
 | (apply c_condF; exact rfl)
 | (with_reducible apply k_c)
  refine c_loop ?_
  refine loop_gc (σ := Nat) (fun i => [.ptr 0 0, .mp 1, oV i, kV (k + 1) i, .int .i64 ((k + 1 : Nat) : Int), .int .i64 (i : Int)]) (fun i => oH M S (pcE ((prf s).take i)) i) (fun i => i ≤ k + 1) (fun i => k + 1 - i) ?_ _ 0 _ _ (by omega) (by omega) (by simp [go_sem, oV, kV, oH])
  intro i hi K hK
  have hCl := pcE_len ((prf s).take i)
  rw [List.length_take, hpl, hk, Nat.min_eq_left hi] at hCl
  by_cases hik : i < k + 1
  · have hi' : i < (srt s).length := by omega
    have lki := lk i hi'
    have hz := entE_good (srt s)[i]
    obtain ⟨z1, z2⟩ := isL_one hz
    have z3 := hz.free
    have hpt := prf_take hi'
    have ix := fun (H : Heap) (id : Nat) (h : H.data? id = some S) => p_idxO (H := H) (id := id) (n := k + 1) (l := srt s) (i := i) (by rw [hS]; exact h) (by omega) hik
    have lx := fun (H : Heap) (id : Nat) (h : H.data? id = some S) => p_ldO (H := H) (id := id) (l := srt s) (i := i) (by rw [hS]; exact h) hi'
    have hg2 := gcX (i + 1) (pcE ((prf s).take (i + 1)))
    have hK1 := hK (i + 1)
    rw [hpt] at hg2 hK1
    generalize (srt s)[i] = xi at *
    generalize (entE xi).p = ep at *
    generalize (entE xi).w = ew at *
    generalize (entE xi).fv = ef at *
    generalize pcE ((prf s).take i) = C at *
    cases i with
    | zero =>
      obtain rfl : C = [] := List.eq_nil_of_length_eq_zero (by omega)
      simp only [oV, kV, oH] at *
      repeat' first
 | (apply s_mov; (focus ((conv => lhs; whnf); done)))
 | (apply c_nil)
 | ((first | apply s_lss | apply s_leq | apply s_gtr | apply s_geq | apply s_eql | apply s_neq); exact rfl; all_goals (intro _; try (exfalso; omega)))
 | ((first | apply s_add | apply s_sub); exact rfl; omega)
 | (apply s_pn; (focus (repeat (first | apply opds_nil | (apply opds_cons; (first | (focus ((conv => lhs; whnf); done)) | exact rfl))))); exact ix _ _ rfl)
 | (apply s_pn; (focus (repeat (first | apply opds_nil | (apply opds_cons; (first | (focus ((conv => lhs; whnf); done)) | exact rfl))))); exact lx _ _ rfl)
 | (apply s_en; (focus (repeat (first | apply opds_nil | (apply opds_cons; (first | (focus ((conv => lhs; whnf); done)) | exact rfl))))); exact lki _ _ rfl)
 | (apply s_en; (focus (repeat (first | apply opds_nil | (apply opds_cons; (first | (focus ((conv => lhs; whnf); done)) | exact rfl))))); exact e_bldE z3 z1 z2)
 | (apply s_en; (focus (repeat (first | apply opds_nil | (apply opds_cons; (first | (focus ((conv => lhs; whnf); done)) | exact rfl))))); exact e_appz_nil (by omega) (by decide))
 | (apply c_seq)
 | (apply c_reg)
 | (apply c_block)
 | (apply c_skip)
 | (apply c_condT; exact rfl)
 | (with_reducible apply k_c)
      exact hK1 _ _ (by omega) (by omega) (by simp [go_sem])
    | succ j =>
      simp only [oV, kV, oH] at *
      repeat' first
 | (apply s_mov; (focus ((conv => lhs; whnf); done)))
 | (apply c_nil)
 | ((first | apply s_lss | apply s_leq | apply s_gtr | apply s_geq | apply s_eql | apply s_neq); exact rfl; all_goals (intro _; try (exfalso; omega)))
 | ((first | apply s_add | apply s_sub); exact rfl; omega)
 | (apply s_pn; (focus (repeat (first | apply opds_nil | (apply opds_cons; (first | (focus ((conv => lhs; whnf); done)) | exact rfl))))); exact ix _ _ rfl)
 | (apply s_pn; (focus (repeat (first | apply opds_nil | (apply opds_cons; (first | (focus ((conv => lhs; whnf); done)) | exact rfl))))); exact lx _ _ rfl)
 | (apply s_en; (focus (repeat (first | apply opds_nil | (apply opds_cons; (first | (focus ((conv => lhs; whnf); done)) | exact rfl))))); exact lki _ _ rfl)
 | (apply s_en; (focus (repeat (first | apply opds_nil | (apply opds_cons; (first | (focus ((conv => lhs; whnf); done)) | exact rfl))))); exact e_bldE z3 z1 z2)
 | (apply s_en; (focus (repeat (first | apply opds_nil | (apply opds_cons; (first | (focus ((conv => lhs; whnf); done)) | exact rfl))))); exact e_appz_sl rfl hCl (by omega) (by unfold most; omega))
 | (apply c_seq)
 | (apply c_reg)
 | (apply c_block)
 | (apply c_skip)
 | (apply c_condT; exact rfl)
 | (with_reducible apply k_c)
      exact hK1 _ _ (by omega) (by omega) (by simp [go_sem])
  · obtain rfl : i = k + 1 := by omega
    have hall : (prf s).take (k + 1) = prf s := List.take_of_length_le (by omega)
    rw [hall] at hCl ⊢
    generalize pcE (prf s) = C at *
    simp only [oV, kV, oH]
    repeat' first
 | (apply c_nil)
 | ((first | apply s_lss | apply s_leq | apply s_gtr | apply s_geq | apply s_eql | apply s_neq); exact rfl; all_goals (intro _; try (exfalso; omega)))
 | (apply c_seq)
 | (apply c_reg)
 | (apply c_exitH)
 | (apply c_condF; exact rfl)
 | (with_reducible apply k_c)
    apply c_pre (vs := [.ptr 0 0, .sl 1 3 0 (k + 1)]) (H' := [some (.box [.int .i64 0, .nilS]), some (.data C)])
    · simp [go_sem]
    repeat' first
 | (apply s_mov; (focus ((conv => lhs; whnf); done)))
 | (apply c_nil)
 | (apply s_pn; (focus (repeat (first | apply opds_nil | (apply opds_cons; (first | (focus ((conv => lhs; whnf); done)) | exact rfl))))); exact p_bldS)
 | (apply s_st; (focus (repeat (first | apply opds_nil | (apply opds_cons; (first | (focus ((conv => lhs; whnf); done)) | exact rfl))))); exact e_st2 rfl rfl rfl)
 | (apply c_seq)
 | (apply c_reg)
 | (apply c_ret)
 | (with_reducible apply k_c)
    exact fin_cellT (by rfl) (by rfl) (by rfl) (by simp [go_sem])
end Go.AM.Pr

set_option linter.unusedSectionVars false
set_option linter.unusedVariables false
set_option linter.unusedSimpArgs false
namespace Go.AM.Pr
open Go.AM.Num
set_option maxHeartbeats 4000000
theorem c30e {n : Int} (hn : ¬ IsNum n) {m : Nat} (hm : 50000 ≤ m) (H : Heap) : callPure (evZ m) true 30 [.int .i64 n] H = some (.tup [.agg [.int .i64 0, .nilS], .int .i64 2], H) :=
  callPure_of rfl (f30e hn hm) rfl rfl
theorem c30 {n : Int} (hn : IsNum n) {m : Nat} (hm : 50010 + 3 * n.toNat ≤ m) : ∃ (d : Int) (pv : AV) (l : List En), IsP pv l ∧ Small l ∧ RV n d l ∧ (d = 0 ↔ IsPN n) ∧
    ∀ H, callPure (evZ m) true 30 [.int .i64 n] H = some (.tup [.agg [.int .i64 d, pv], .int .i64 0], H) := by
  obtain ⟨N, rfl⟩ : ∃ N : Nat, n = N := ⟨n.toNat, by have := hn.1; omega⟩
  rw [Int.toNat_natCast] at hm
  have hN1 := hn.1
  have hN2 := hn.2
  have sn : Small [] := ⟨by simp, by simp⟩
  have gn : IsP .nilS [] := ⟨(by intro e he; cases he), .inl ⟨rfl, rfl⟩⟩
  rcases (by omega : N = 1 ∨ 2 ≤ N) with rfl | h2
  · refine ⟨1, .nilS, [], gn, sn, .inr ⟨by omega, rfl, .inl ⟨rfl, rfl⟩⟩, ⟨fun h => by omega, fun h => ?_⟩, fun H => callPure_of rfl (f30o (by omega)) rfl rfl⟩
    have := h.2.1
    exact absurd this (by decide)
  · have hL := facOf_fac (n := N) (by omega)
    obtain ⟨⟨q, e⟩, r, hr⟩ : ∃ x r, facOf N = x :: r := by
      refine List.exists_cons_of_ne_nil fun e' => ?_
      have := hL.prod
      rw [e'] at this
      simp [prodL] at this
      omega
    have hmem : (q, e) ∈ facOf N := by rw [hr]; exact List.mem_cons_self
    obtain ⟨hq, he⟩ := hL.all _ hmem
    simp only at hq he
    have hd : q ∣ N := by
      have := mem_dvd_prod hmem
      rw [hL.prod] at this
      exact Nat.dvd_trans (Nat.dvd_of_pow_dvd he (Nat.dvd_refl _)) this
    have hqN := Nat.le_of_dvd (by omega) hd
    have hq1 := hq.1
    rcases (by omega : q < N ∨ q = N) with h | h
    · refine ⟨(q : Int), .nilS, [], gn, sn, .inr ⟨by omega, rfl, .inr ⟨by omega, by omega, ?_⟩⟩, ⟨fun h => by omega, fun hp => ?_⟩, fun H => callPure_of rfl (f30c h2 (by omega) hL hr h (by omega)) rfl rfl⟩
      · obtain ⟨c, hc⟩ := hd
        rw [hc]
        push_cast
        exact Int.mul_tmod_right _ _
      · have := hp.2
        rw [Int.toNat_natCast] at this
        rcases this.2 q hd with e | e <;> omega
    · have hpr : IsPr N := h ▸ hq
      have hp2 : N ≤ 2147483647 := by omega
      obtain ⟨k, hk, hf⟩ := f30p hpr hp2 (m := m) (by omega)
      obtain ⟨hg, hmem, _⟩ := pvF_good N N [] (Nat.le_refl _) hpr Gd.nil
      have hsm := prf_small (pv_len hpr hp2) fun y hy => ⟨hg.pr y hy, by
        rcases pvF_le N N [] y hy with h | h
        · cases h
        · omega⟩
      have hgp := prf_GP hpr hp2
      have hge := prf_goodE (pvF N N [])
      have hcl := pcE_len (prf (pvF N N []))
      generalize prf (pvF N N []) = l at *
      refine ⟨0, .rd 3 l.length (pcE l), l, ⟨hge, .inr rfl⟩, hsm, .inl ⟨rfl, hgp⟩, ⟨fun _ => ⟨hn, by rw [Int.toNat_natCast]; exact hpr⟩, fun _ => rfl⟩, fun H => ?_⟩
      refine callPure_of rfl hf rfl ?_
      rw [hk] at hcl ⊢
      simp [frzV, frzL, idFreeL, AV.idFree, Heap.data?, hcl, List.take_of_length_le]
/-- law 13 -/
theorem f13 {n : Int} : ∃ m H', evZ m 13 [.int .i64 n] [] = some (.bool true, H') := by
  refine ⟨60001 + 3 * n.toNat, [], ?_⟩
  have h18 := fun H => callPure_up (sp := spS) (Nat.le_refl _) (awakeM (m := 60000 + 3 * n.toNat) (by omega) H)
  have h17 := fun H => callPure_up (sp := spS) (Nat.le_refl _) (c17 (m := 60000 + 3 * n.toNat) (by omega) n H)
  have h21 := fun H => callPure_up (sp := spS) (Nat.le_refl _) (c21 (m := 60000 + 3 * n.toNat) (by omega) n H)
  rw [show 60001 + 3 * n.toNat = 60000 + 3 * n.toNat + 1 by omega]
  by_cases hn : IsNum n
  · obtain ⟨d, pv, l, hv, hs, hR, hd, h30⟩ := c30 hn (m := 60000 + 3 * n.toNat) (by omega)
    have ha : idFreeL [AV.int .i64 n, .agg [.int .i64 d, pv]] = true := by simp [AV.idFree, idFreeL, hv.free]
    have h38 := fun H => callPure_up (sp := spS) (Nat.le_refl _) (callPure_free (H := H) ha (by simp) (f38 (d := d) hn hv hs (m := 60000 + 3 * n.toNat) (by omega)) rfl)
    have h31 := fun H => callPure_up (sp := spS) (Nat.le_refl _) (callPure_free (H := H) ha (by simp) (f31 (d := d) hn hv hs (m := 60000 + 3 * n.toNat) (by omega)) rfl)
    simp only [hR, hn, if_true, decide_true] at h38 h31 h17
    simp only [evZ] at h30
    have fo : pv.one = true := by obtain ⟨_, ⟨rfl, _⟩ | rfl⟩ := hv <;> rfl
    have fc : pv.cells = [pv] := by obtain ⟨_, ⟨rfl, _⟩ | rfl⟩ := hv <;> rfl
    refine s_enter rfl rfl ?_
    generalize evS spS tab it (60000 + 3 * n.toNat) = call at *
    by_cases hp : IsPN n
    · obtain rfl := hd.2 hp
      simp only [hp, decide_true] at h21
      repeat' first
 | (apply s_mov; (focus ((conv => lhs; whnf); done)))
 | (apply s_gT; exact rfl)
 | (apply c_nil)
 | (apply s_pickT; exact rfl; (focus ((conv => lhs; whnf); done)))
 | (apply s_notT; exact rfl)
 | ((first | apply s_lss | apply s_leq | apply s_gtr | apply s_geq | apply s_eql | apply s_neq); exact rfl; all_goals (intro _; try (exfalso; omega)))
 | (apply s_cn; (focus (repeat (first | apply opds_nil | (apply opds_cons; (first | (focus ((conv => lhs; whnf); done)) | exact rfl))))); exact h30 _)
 | (apply s_cn; (focus (repeat (first | apply opds_nil | (apply opds_cons; (first | (focus ((conv => lhs; whnf); done)) | exact rfl))))); exact h17 _)
 | (apply s_cn; (focus (repeat (first | apply opds_nil | (apply opds_cons; (first | (focus ((conv => lhs; whnf); done)) | exact rfl))))); exact h21 _)
 | (apply s_cn; (focus (repeat (first | apply opds_nil | (apply opds_cons; (first | (focus ((conv => lhs; whnf); done)) | exact rfl))))); exact h38 _)
 | (apply s_cn; (focus (repeat (first | apply opds_nil | (apply opds_cons; (first | (focus ((conv => lhs; whnf); done)) | exact rfl))))); exact h31 _)
 | (apply s_cn; (focus (repeat (first | apply opds_nil | (apply opds_cons; (first | (focus ((conv => lhs; whnf); done)) | exact rfl))))); exact h18 _)
 | (apply s_st; (focus (repeat (first | apply opds_nil | (apply opds_cons; (first | (focus ((conv => lhs; whnf); done)) | exact rfl))))); exact e_st2 rfl fo fc)
 | (apply isE; apply s_ed; (focus ((conv => lhs; whnf); done)))
 | (apply s_pd; (focus ((conv => lhs; whnf); done)))
 | (apply c_seq)
 | (apply c_reg)
 | (apply c_skip)
 | (apply c_ret)
 | (apply c_condF; exact rfl)
 | (with_reducible apply k_c)
      all_goals first | exact fin_t (by (conv => lhs; whnf)) (by rfl) rfl | (exfalso; omega)
    · have hd0 : d ≠ 0 := fun h => hp (hd.1 h)
      simp only [hp, decide_false] at h21
      repeat' first
 | (apply s_mov; (focus ((conv => lhs; whnf); done)))
 | (apply s_gT; exact rfl)
 | (apply c_nil)
 | (apply s_pickT; exact rfl; (focus ((conv => lhs; whnf); done)))
 | (apply s_notT; exact rfl)
 | ((first | apply s_lss | apply s_leq | apply s_gtr | apply s_geq | apply s_eql | apply s_neq); exact rfl; all_goals (intro _; try (exfalso; omega)))
 | (apply s_cn; (focus (repeat (first | apply opds_nil | (apply opds_cons; (first | (focus ((conv => lhs; whnf); done)) | exact rfl))))); exact h30 _)
 | (apply s_cn; (focus (repeat (first | apply opds_nil | (apply opds_cons; (first | (focus ((conv => lhs; whnf); done)) | exact rfl))))); exact h17 _)
 | (apply s_cn; (focus (repeat (first | apply opds_nil | (apply opds_cons; (first | (focus ((conv => lhs; whnf); done)) | exact rfl))))); exact h21 _)
 | (apply s_cn; (focus (repeat (first | apply opds_nil | (apply opds_cons; (first | (focus ((conv => lhs; whnf); done)) | exact rfl))))); exact h38 _)
 | (apply s_cn; (focus (repeat (first | apply opds_nil | (apply opds_cons; (first | (focus ((conv => lhs; whnf); done)) | exact rfl))))); exact h31 _)
 | (apply s_cn; (focus (repeat (first | apply opds_nil | (apply opds_cons; (first | (focus ((conv => lhs; whnf); done)) | exact rfl))))); exact h18 _)
 | (apply s_st; (focus (repeat (first | apply opds_nil | (apply opds_cons; (first | (focus ((conv => lhs; whnf); done)) | exact rfl))))); exact e_st2 rfl fo fc)
 | (apply isE; apply s_ed; (focus ((conv => lhs; whnf); done)))
 | (apply s_pd; (focus ((conv => lhs; whnf); done)))
 | (apply c_seq)
 | (apply c_reg)
 | (apply c_skip)
 | (apply c_ret)
 | (apply c_condF; exact rfl)
 | (with_reducible apply k_c)
      all_goals first | exact fin_t (by (conv => lhs; whnf)) (by rfl) rfl | (exfalso; omega)
  · have h30 := fun H => c30e hn (m := 60000 + 3 * n.toNat) (by omega) H
    have ha : idFreeL [AV.int .i64 n, .agg [.int .i64 0, .nilS]] = true := rfl
    have gn : IsP .nilS [] := ⟨(by intro e he; cases he), .inl ⟨rfl, rfl⟩⟩
    have h38 := fun H => callPure_up (sp := spS) (Nat.le_refl _) (callPure_free (H := H) ha (by simp) (f38e (d := 0) hn gn (m := 60000 + 3 * n.toNat) (by omega)) rfl)
    simp only [hn, decide_false] at h17
    simp only [evZ] at h30
    refine s_enter rfl rfl ?_
    generalize evS spS tab it (60000 + 3 * n.toNat) = call at *
    repeat' first
 | (apply s_mov; (focus ((conv => lhs; whnf); done)))
 | (apply s_gT; exact rfl)
 | (apply c_nil)
 | (apply s_pickT; exact rfl; (focus ((conv => lhs; whnf); done)))
 | (apply s_notF; exact rfl)
 | ((first | apply s_lss | apply s_leq | apply s_gtr | apply s_geq | apply s_eql | apply s_neq); exact rfl; all_goals (intro _; try (exfalso; omega)))
 | (apply s_cn; (focus (repeat (first | apply opds_nil | (apply opds_cons; (first | (focus ((conv => lhs; whnf); done)) | exact rfl))))); exact h30 _)
 | (apply s_cn; (focus (repeat (first | apply opds_nil | (apply opds_cons; (first | (focus ((conv => lhs; whnf); done)) | exact rfl))))); exact h17 _)
 | (apply s_cn; (focus (repeat (first | apply opds_nil | (apply opds_cons; (first | (focus ((conv => lhs; whnf); done)) | exact rfl))))); exact h38 _)
 | (apply s_cn; (focus (repeat (first | apply opds_nil | (apply opds_cons; (first | (focus ((conv => lhs; whnf); done)) | exact rfl))))); exact h18 _)
 | (apply s_st; (focus (repeat (first | apply opds_nil | (apply opds_cons; (first | (focus ((conv => lhs; whnf); done)) | exact rfl))))); exact e_st2 rfl rfl rfl)
 | (apply isE; apply s_ed; (focus ((conv => lhs; whnf); done)))
 | (apply s_pd; (focus ((conv => lhs; whnf); done)))
 | (apply c_seq)
 | (apply c_reg)
 | (apply c_ret)
 | (apply c_condT; exact rfl)
 | (with_reducible apply k_c)
    all_goals first | exact fin_t (by (conv => lhs; whnf)) (by rfl) rfl | (exfalso; omega)
end Go.AM.Pr
