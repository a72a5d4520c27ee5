/- A part of the proof: T13. -/
import Derived.Test.YtdgkchedoooffaaT12
set_option linter.unusedVariables false
set_option linter.unusedSimpArgs false
set_option linter.unusedSectionVars false
namespace Go.AM.Tb
set_option maxHeartbeats 4000000
theorem gc1t {H : Heap} {a : Nat} {is : List Nat} {P : List (List Int)} {c : Int} (h : LB H a is P) (hk : is.length ≤ 100) {n : Nat} (hn : P.length = n) :
    gc 0 [.tup [.sl a 1 0 n, .int .i64 c]] H = some ([.tup [.sl 0 1 0 n, .int .i64 c]], HB P) := by
  subst hn
  have hφ : nodupB (a :: is) = true := nodupB_iff.2 h.nd
  have q1 : posOf (a :: is) a = some 0 := posOf_of_get hφ (j := 0) rfl
  have pr : renL (posOf (a :: is)) (refs is (P.map iL)) = some (refs (List.range' 1 is.length) (P.map iL)) := renL_refs hφ is _ 1 h.lnm fun j i hj => by rw [Nat.add_comm]; exact hj
  refine gc_of (φ := a :: is) ?_ hφ ?_ h.pick ?_
  · have e : reach H 400 (rangeL 0 []) (roots H (rangeL 0 []) ++ [.tup [.sl a 1 0 P.length, .int .i64 c]]) = reach H 399 [] (.sl a 1 0 P.length :: [.int .i64 c]) := by
      rw [show reach H 400 (rangeL 0 []) (roots H (rangeL 0 []) ++ [.tup [.sl a 1 0 P.length, .int .i64 c]]) = reach H 400 [] [.tup [.sl a 1 0 P.length, .int .i64 c]] from rfl, reach_tup]
      simp [idFreeL, AV.idFree]
    rw [e, h.reach 399 (by omega) [] (by simp), reach_free _ _ _ _ rfl]
    rfl
  · simp only [renL, AV.ren, q1, idFreeL, AV.idFree, Bool.false_and, Bool.false_eq_true, if_false, Option.map_some, Option.bind_some]
  · simp [renH, renO, pr, renH_rows, HBs, h.ln]
end Go.AM.Tb
