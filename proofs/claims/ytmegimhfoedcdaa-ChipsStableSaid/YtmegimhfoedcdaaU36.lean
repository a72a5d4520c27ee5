/- A part of the proof: U36. -/
import Derived.Test.YtmegimhfoedcdaaU35
import Derived.Test.YtmegimhfoedcdaaU19
set_option linter.unusedSectionVars false
set_option linter.unusedVariables false
set_option linter.unusedSimpArgs false
namespace Go.AM.Ch
set_option maxHeartbeats 4000000
/-! ### burning -/
/-- burning edges of a place -/
def brn (b : List (List Int)) (ord : List Nat) (v : Nat) : Int := sumTo (fun j => getI (getLL b (v : Int)) (getI (nI ord) (j : Int))) ord.length
/-- does it burn next -/
def bP (b : List (List Int)) (l : List Int) (ord : List Nat) (v : Nat) : Bool := !ord.contains v && decide (getI l (v : Int) < brn b ord v)
def burnF (b : List (List Int)) (l : List Int) : Nat → List Nat → List Nat
  | 0, ord => ord
  | f + 1, ord => match (List.range b.length).find? (bP b l ord) with
    | none => ord
    | some v => burnF b l f (ord ++ [v])
def burnL (b : List (List Int)) (l : List Int) (q : Nat) : List Nat := burnF b l b.length [q]
theorem nI_get {ord : List Nat} {j : Nat} (h : j < ord.length) : getI (nI ord) (j : Int) = (ord[j] : Nat) := by
  rw [getI_nat]
  simp [nI, List.getD, h]
structure BrnOk (b : List (List Int)) (l : List Int) (q : Nat) (ord : List Nat) : Prop where
  nd : ord.Nodup
  lt : ∀ v ∈ ord, v < b.length
  hd : ord[0]? = some q
  low : ∀ k : Nat, 0 < k → (h : k < ord.length) → getI l ((ord[k] : Nat) : Int) < brn b (ord.take k) ord[k]
theorem BrnOk.init {b : List (List Int)} {l : List Int} {q : Nat} (hq : q < b.length) : BrnOk b l q [q] :=
  ⟨by simp, by simpa using hq, rfl, fun k h1 h2 => by simp at h2; omega⟩
theorem BrnOk.step {b : List (List Int)} {l : List Int} {q : Nat} {ord : List Nat} (h : BrnOk b l q ord) {v : Nat} (hv : v < b.length) (hp : bP b l ord v = true) : BrnOk b l q (ord ++ [v]) := by
  simp only [bP, Bool.and_eq_true, Bool.not_eq_true', decide_eq_true_eq] at hp
  obtain ⟨h1, h2⟩ := hp
  have hm : v ∉ ord := by simpa using h1
  have h0 := h.hd
  obtain ⟨h3, -⟩ := List.getElem?_eq_some_iff.1 h0
  refine ⟨?_, fun w hw => ?_, by rw [List.getElem?_append_left h3]; exact h0, fun k k1 k2 => ?_⟩
  · rw [List.nodup_append]
    exact ⟨h.nd, by simp, fun a ha c hc e => by simp at hc; subst hc; subst e; exact hm ha⟩
  · rcases List.mem_append.1 hw with hw | hw
    · exact h.lt w hw
    · simp at hw; subst hw; exact hv
  · simp only [List.length_append, List.length_cons, List.length_nil] at k2
    by_cases e : k < ord.length
    · rw [List.getElem_append_left e, List.take_append_of_le_length (by omega)]
      exact h.low k k1 e
    · obtain rfl : k = ord.length := by omega
      rw [List.getElem_append_right (by omega)]
      simpa using h2
theorem BrnOk.len {b : List (List Int)} {l : List Int} {q : Nat} {ord : List Nat} (h : BrnOk b l q ord) : 1 ≤ ord.length ∧ ord.length ≤ b.length := by
  obtain ⟨h3, -⟩ := List.getElem?_eq_some_iff.1 h.hd
  have := nodup_len h.nd fun w hw => List.mem_range.2 (h.lt w hw)
  rw [List.length_range] at this
  omega
theorem burnF_ok {b : List (List Int)} {l : List Int} {q : Nat} : ∀ (f : Nat) (ord : List Nat), BrnOk b l q ord → b.length ≤ f + ord.length → BrnOk b l q (burnF b l f ord) ∧ ∀ v, v < b.length → bP b l (burnF b l f ord) v = false
  | 0, ord, h, hf => ⟨h, fun v hv => by
      have hl := h.len
      have hm : v ∈ ord := by
        apply Classical.byContradiction
        intro hn
        have hnd : (v :: ord).Nodup := List.nodup_cons.2 ⟨hn, h.nd⟩
        have := nodup_len hnd (l2 := List.range b.length) fun w hw => by
          rcases List.mem_cons.1 hw with rfl | hw
          · exact List.mem_range.2 hv
          · exact List.mem_range.2 (h.lt w hw)
        rw [List.length_range] at this
        simp at this
        omega
      unfold bP burnF
      simp [hm]⟩
  | f + 1, ord, h, hf => by
    simp only [burnF]
    split
    · rename_i hn
      refine ⟨h, fun v hv => ?_⟩
      have := List.find?_eq_none.1 hn v (List.mem_range.2 hv)
      simpa using this
    · rename_i v hn
      have hp := List.find?_some hn
      have hv := List.mem_range.1 (List.mem_of_find?_eq_some hn)
      exact burnF_ok f _ (h.step hv hp) (by simp; omega)
theorem burnL_ok {b : List (List Int)} {l : List Int} {q : Nat} (hq : q < b.length) : BrnOk b l q (burnL b l q) ∧ ∀ v, v < b.length → bP b l (burnL b l q) v = false :=
  burnF_ok _ _ (BrnOk.init hq) (by omega)
theorem brn_out {b : List (List Int)} {ord : List Nat} (hnd : ord.Nodup) (hlt : ∀ v ∈ ord, v < b.length) (v : Nat) : brn b ord v = outE b.length (ed b) (fun u => !ord.contains u) v := by
  have h := preS_sum (O := nI ord) (n := b.length) (fun u => getI (getLL b (v : Int)) u) (k := ord.length) (by rw [nI_len]; omega) fun j hj => by
    rw [nI_get hj]
    have := hlt _ (List.getElem_mem hj)
    refine ⟨by omega, fun t ht => ?_⟩
    rw [nI_get (by omega)]
    intro e
    have e2 : ord[t] = ord[j] := by omega
    exact (List.pairwise_iff_getElem.1 hnd) t j (by omega) hj ht e2
  unfold brn
  rw [← h]
  unfold outE
  refine sumTo_congr fun u hu => ?_
  have e : preS (nI ord) ord.length u = ord.contains u := by
    rw [Bool.eq_iff_iff]
    simp only [preS, decide_eq_true_eq, List.contains_iff_mem]
    rw [List.take_of_length_le (by rw [nI_len]; omega)]
    simp only [nI, List.mem_map]
    constructor
    · rintro ⟨a, ha, e⟩
      have : a = u := by omega
      exact this ▸ ha
    · intro h; exact ⟨u, h, rfl⟩
  rw [e]
  show _ = if (!ord.contains u) = true then 0 else ed b v u
  cases ord.contains u <;> rfl
/-- the fire does not reach all: what is left can fire -/
theorem burn_leg {b : List (List Int)} {l : List Int} {q : Nat} (hq : q < b.length) : Leg b.length (ed b) (gf l) (fun u => !(burnL b l q).contains u) := fun v hv hs => by
  obtain ⟨h1, h2⟩ := burnL_ok (b := b) (l := l) hq
  have h3 := h2 v hv
  rw [← brn_out h1.nd h1.lt v]
  simp only [bP, hs, Bool.true_and, decide_eq_false_iff_not] at h3
  unfold gf
  omega
/-- the fire reaches all: reduced -/
theorem burn_red {b : List (List Int)} (hB : IsB b) {l : List Int} {q : Nat} (hq : q < b.length) (hl : ∀ v, v < b.length → v ≠ q → 0 ≤ gf l v) (hn : (burnL b l q).length = b.length) : Red b.length (ed b) q (gf l) := by
  obtain ⟨h1, h2⟩ := burnL_ok (b := b) (l := l) hq
  have g := gr_of hB
  generalize burnL b l q = ord at *
  refine ⟨hl, fun S hS ⟨w, hw, hsw⟩ => ?_⟩
  -- the first of the order that is in S
  have hall : ∀ v, v < b.length → v ∈ ord := fun v hv => by
    apply Classical.byContradiction
    intro hn'
    have hnd : (v :: ord).Nodup := List.nodup_cons.2 ⟨hn', h1.nd⟩
    have := nodup_len hnd (l2 := List.range b.length) fun w hw => by
      rcases List.mem_cons.1 hw with rfl | hw
      · exact List.mem_range.2 hv
      · exact List.mem_range.2 (h1.lt w hw)
    rw [List.length_range] at this
    simp at this
    omega
  have key : ∀ k : Nat, (∃ j : Nat, j < k ∧ ∃ h : j < ord.length, S ord[j] = true) → ∃ j : Nat, ∃ h : j < ord.length, S ord[j] = true ∧ ∀ t : Nat, t < j → (ht : t < ord.length) → S ord[t] = false := by
    intro k
    induction k with
    | zero => rintro ⟨j, hj, _⟩; omega
    | succ k ih =>
      rintro ⟨j, hj, hjl, hs⟩
      by_cases hex : ∃ j : Nat, j < k ∧ ∃ h : j < ord.length, S ord[j] = true
      · exact ih hex
      · refine ⟨j, hjl, hs, fun t ht htl => ?_⟩
        cases hc : S ord[t] with
        | false => rfl
        | true => exact absurd ⟨t, by omega, htl, hc⟩ hex
  obtain ⟨j0, hj0, e0⟩ := List.getElem_of_mem (hall w hw)
  obtain ⟨j, hj, hs, hfirst⟩ := key ord.length ⟨j0, hj0, hj0, by rw [e0]; exact hsw⟩
  have hj1 : 0 < j := by
    rcases Nat.eq_zero_or_pos j with e | e
    · subst e
      have := h1.hd
      rw [List.getElem?_eq_getElem hj] at this
      simp only [Option.some.injEq] at this
      rw [this, hS] at hs
      cases hs
    · exact e
  have hv : ord[j] < b.length := h1.lt _ (List.getElem_mem hj)
  refine ⟨ord[j], hv, hs, ?_⟩
  have hlow := h1.low j hj1 hj
  have hnd : (ord.take j).Nodup := List.Nodup.sublist (List.take_sublist _ _) h1.nd
  rw [brn_out hnd (fun v hv => h1.lt v (List.mem_of_mem_take hv))] at hlow
  have hle : outE b.length (ed b) (fun u => !(ord.take j).contains u) ord[j] ≤ outE b.length (ed b) S ord[j] := by
    refine sumTo_mono fun u hu => ?_
    have hn0 := g.nn ord[j] u hv hu
    by_cases hm : u ∈ ord.take j
    · have hc : (ord.take j).contains u = true := by simpa using hm
      obtain ⟨t, ht, e⟩ := List.getElem_of_mem hm
      rw [List.length_take] at ht
      simp only [List.getElem_take] at e
      have hSu := hfirst t (by omega) (by omega)
      rw [e] at hSu
      simp only [hc, hSu, Bool.not_true, Bool.false_eq_true, if_false]
      exact Int.le_refl _
    · have hc : (ord.take j).contains u = false := by simpa using hm
      simp only [hc, Bool.not_false, if_true]
      split <;> omega
  unfold gf
  omega
end Go.AM.Ch
