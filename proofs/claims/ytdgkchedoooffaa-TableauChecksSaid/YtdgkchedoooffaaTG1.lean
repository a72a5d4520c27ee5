/- A part of the proof: TG1. -/
import Derived.Test.YtdgkchedoooffaaM3
set_option linter.unusedVariables false
set_option linter.unusedSimpArgs false
set_option linter.unusedSectionVars false
namespace Go.AM.Tb
inductive Kn1 : List Int → List Int → Prop
  | a (u v) {x y z : Int} (h1 : x ≤ y) (h2 : y < z) : Kn1 (u ++ x :: z :: y :: v) (u ++ z :: x :: y :: v)
  | b (u v) {x y z : Int} (h1 : x < y) (h2 : y ≤ z) : Kn1 (u ++ y :: x :: z :: v) (u ++ y :: z :: x :: v)
inductive Kn : List Int → List Int → Prop
  | refl (w) : Kn w w
  | fw {a b c} (h : Kn a b) (g : Kn1 b c) : Kn a c
  | bw {a b c} (h : Kn a b) (g : Kn1 c b) : Kn a c
theorem Kn.trans {a b c} (h : Kn a b) (g : Kn b c) : Kn a c := by
  induction g with
  | refl => exact h
  | fw _ g ih => exact .fw (ih) g
  | bw _ g ih => exact .bw (ih) g
theorem Kn.symm {a b} (h : Kn a b) : Kn b a := by
  induction h with
  | refl => exact .refl _
  | fw _ g ih => exact Kn.trans (.bw (.refl _) g) ih
  | bw _ g ih => exact Kn.trans (.fw (.refl _) g) ih
end Go.AM.Tb
