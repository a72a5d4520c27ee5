/- A part of the proof: U31b. -/
import Derived.Test.YtmegimhfoedcdaaU28b
set_option linter.unusedSectionVars false
set_option linter.unusedVariables false
set_option linter.unusedSimpArgs false
namespace Go.AM.Ch
set_option maxHeartbeats 8000000
theorem frz_set {A T : List Int} {n : Nat} (hA : A.length = n) (hT : T.length = n) {e : Int} : frzV [some (.data (iL A)), some (.data (iL T))] 40 (.tup [.sl 0 1 0 n, .sl 1 1 0 n, .int .i64 e]) = some (.tup [.rd 1 n (iL A), .rd 1 n (iL T), .int .i64 e]) :=
  frzV_tup rfl (frzL_cons (frz_sl rfl hA) (frzL_cons (frz_sl rfl hT) (frzL_cons rfl frzL_nil)))
theorem frz_set2 {T : List Int} {x : AV} {n : Nat} (hx : x.idFree = true) (hT : T.length = n) : frzV [some (.data (iL T))] 40 (.tup [x, .sl 0 1 0 n]) = some (.tup [x, .rd 1 n (iL T)]) :=
  frzV_tup (by simp [idFreeL, AV.idFree]) (frzL_cons (frzV_of hx) (frzL_cons (frz_sl rfl hT) frzL_nil))
/-- settling ends -/
theorem set_ex {b : List (List Int)} {s : List Int} {q : Nat} (hB : IsB b) (hq : q < b.length) (hnn : ∀ v : Nat, v < b.length → v ≠ q → 0 ≤ getI s (v : Int)) : ∃ t : List Int, t.length = b.length ∧ SetOk b.length (ed b) q (gf s) (gf t) ∧ Stab b.length (ed b) q (gf s) (gf t) := by
  have g := gr_of hB
  have hd := dist_dst hB hq
  have key : ∀ N : Nat, ∀ t : List Int, t.length = b.length → SetOk b.length (ed b) q (gf s) (gf t) → pot b.length (gf (dist b q).1) (ap b.length (ed b) (gf s) (gf t)) < N → ∃ t : List Int, t.length = b.length ∧ SetOk b.length (ed b) q (gf s) (gf t) ∧ Stab b.length (ed b) q (gf s) (gf t) := by
    intro N
    induction N with
    | zero => intro t _ hok hp; have := pot_nn hd hok.pos; omega
    | succ N ih =>
      intro t htl hok hp
      by_cases hs : Stab b.length (ed b) q (gf s) (gf t)
      · exact ⟨t, htl, hok, hs⟩
      · have : ∃ v, v < b.length ∧ v ≠ q ∧ deg b.length (ed b) v ≤ ap b.length (ed b) (gf s) (gf t) v := by
          apply Classical.byContradiction
          intro hc
          exact hs fun v hv hvq => Classical.byContradiction fun h => hc ⟨v, hv, hvq, by omega⟩
        obtain ⟨v, hvn, hvq, hfire⟩ := this
        have hstep := hok.step g hvn hvq (k := 1) (by omega) (by rw [Int.one_mul]; exact hfire)
        have hpot := pot_step g hd (c := gf s) (t := gf t) hvn hvq (k := 1) (by omega)
        have hpu : ∀ j, j < b.length → gf t j + unit v 1 j = gf (pl t ((List.replicate b.length 0).set v 1)) j := fun j hj => (pl_unit htl hvn j hj).symm
        refine ih (pl t ((List.replicate b.length 0).set v 1)) (by rw [pl_len]; exact htl) (hstep.congr hq hpu) ?_
        have e : pot b.length (gf (dist b q).1) (ap b.length (ed b) (gf s) (gf (pl t ((List.replicate b.length 0).set v 1)))) = pot b.length (gf (dist b q).1) (ap b.length (ed b) (gf s) (fun j => gf t j + unit v 1 j)) := sumTo_congr fun i hi => by rw [ap_congr hi hpu rfl]
        omega
  have g0 : ∀ j, j < b.length → (fun _ : Nat => (0 : Int)) j = gf (List.replicate b.length 0) j := fun j hj => by unfold gf; rw [getI_nat]; simp [List.getD, hj]
  exact key ((pot b.length (gf (dist b q).1) (ap b.length (ed b) (gf s) (gf (List.replicate b.length 0)))).toNat + 1) _ (by simp) ((SetOk.init hnn).congr hq g0) (by omega)
theorem setT_ok {b : List (List Int)} {s : List Int} {q : Nat} (hB : IsB b) (hq : q < b.length) (hnn : ∀ v : Nat, v < b.length → v ≠ q → 0 ≤ getI s (v : Int)) : (setT b s q).length = b.length ∧ SetOk b.length (ed b) q (gf s) (gf (setT b s q)) ∧ Stab b.length (ed b) q (gf s) (gf (setT b s q)) := by
  obtain ⟨t, a, c, d⟩ := set_ex hB hq hnn
  rw [← setT_eq a c d]
  exact ⟨a, c, d⟩
end Go.AM.Ch
