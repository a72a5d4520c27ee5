/- A part of the proof: U33b. -/
import Derived.Test.YtmegimhfoedcdaaU33
set_option linter.unusedSectionVars false
set_option linter.unusedVariables false
set_option linter.unusedSimpArgs false
namespace Go.AM.Ch
set_option maxHeartbeats 8000000
/-- the reduced list -/
noncomputable def redL (b : List (List Int)) (l : List Int) (q : Nat) : List Int := apl b l (redT b l q)
theorem redL_len (b : List (List Int)) (l : List Int) (q : Nat) : (redL b l q).length = b.length := apl_len _ _ _
theorem redL_red {b : List (List Int)} (hB : IsB b) (l : List Int) {q : Nat} (hq : q < b.length) : Red b.length (ed b) q (gf (redL b l q)) := (redT_ok hB l hq).2.2.congr fun v hv => (apl_ap hB l _ hv).symm
/-- whatever script leads to a reduced list -/
theorem redL_eq {b : List (List Int)} (hB : IsB b) {l t : List Int} {q : Nat} (hq : q < b.length) (h : Red b.length (ed b) q (gf (apl b l t))) : apl b l t = redL b l q := by
  refine ext_getI (by rw [apl_len, redL_len]) fun i hi => ?_
  rw [apl_len] at hi
  have hr := redL_red hB l hq
  refine (red_uniq (gr_of hB) hq hr h (t := fun j => gf t j + (- gf (redT b l q) j)) (fun v hv => ?_) i hi).1
  have e1 : gf (apl b l t) v = ap b.length (ed b) (gf l) (gf t) v := apl_ap hB l t hv
  have e2 : gf (redL b l q) v = ap b.length (ed b) (gf l) (gf (redT b l q)) v := apl_ap hB l _ hv
  rw [e1]
  unfold ap at e2 ⊢
  rw [net_add, net_neg, e2]
  omega
end Go.AM.Ch
