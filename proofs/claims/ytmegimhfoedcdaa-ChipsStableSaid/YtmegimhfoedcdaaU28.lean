/- A part of the proof: U28. -/
import Derived.Test.YtmegimhfoedcdaaU27
set_option linter.unusedSectionVars false
set_option linter.unusedVariables false
set_option linter.unusedSimpArgs false
namespace Go.AM.Ch
set_option maxHeartbeats 8000000
theorem p_quo {H : Heap} {a c : Int} (ha : 0 ≤ a ∧ a < 4611686018427387904) (hc : 0 < c) : evP H (.bin .quo) [.int .i64 a, .int .i64 c] = some (.int .i64 (a / c)) := by
  have h1 : a.tdiv c = a / c := Int.tdiv_eq_ediv_of_nonneg ha.1
  have h2 : 0 ≤ a / c := Int.ediv_nonneg ha.1 (by omega)
  have h3 : a / c ≤ a := Int.ediv_le_self c ha.1
  simp only [evP, binV, isShift, binInt]
  rw [if_neg (show ¬ c = 0 by omega), h1, show IntKind.i64.wrap (a / c) = a / c from wrapI (by omega)]
  rfl
/-- what Settle asks for -/
def SetIn (b : List (List Int)) (s : List Int) (q : Int) : Prop := IsB b ∧ InR b.length 1048576 s ∧ (0 ≤ q ∧ q < b.length) ∧ ∀ v : Nat, v < b.length → (v : Int) ≠ q → 0 ≤ getI s (v : Int)
noncomputable instance (b : List (List Int)) (s : List Int) (q : Int) : Decidable (SetIn b s q) := Classical.propDecidable _
theorem dst_deg {n : Nat} {E : Nat → Nat → Int} (g : Gr n E) {q : Nat} {D : Nat → Int} (d : Dst n E q D) {v : Nat} (hv : v < n) (hvq : v ≠ q) : 1 ≤ deg n E v := by
  obtain ⟨u, hu, he, _⟩ := d.near v hv hvq
  have := sumTo_term (f := fun j => E v j) (n := n) (k := u) (fun j hj => g.nn v j hv hj) hu
  unfold deg
  omega
theorem gf_set {n v : Nat} {k : Int} (hv : v < n) : ∀ j, j < n → gf ((List.replicate n 0).set v k) j = unit v k j := fun j hj => by
  unfold gf unit
  rw [getI_set (by simpa using hv)]
  split
  · rfl
  · rw [getI_nat]; simp [List.getD, hj]
theorem pl_unit {t : List Int} {n v : Nat} {k : Int} (ht : t.length = n) (hv : v < n) : ∀ j, j < n → gf (pl t ((List.replicate n 0).set v k)) j = gf t j + unit v k j := fun j hj => by
  rw [← gf_set hv j hj]
  exact pl_get (by omega)
end Go.AM.Ch
