/-
  No cell of these rows narrows 'for every input' (looked for: loops, veiled, ifaces, maps, wideKeys, modest, calm, conditions, laid).
  DERIVED. THE GIVEN ROWS OF THIS SEAT. 16 by the template 'for every input the law returns true; each argument reads behind the call as it read before'; 0 by the template 'total and deterministic' (their statements: YtdgkchedoooffaaTotals.lean).
  GIVEN WITH THE SEED: the statements are not yours to turn. If you find one false, say at which input.
  Laid BY PROGRAM, IN A SANDBOX (cutbox-rows.mjs): the forced cells as the released guide's own fill.sh prints them over the translation d2801e4f98c3b246… (all of the seat's roots in one cut). By AI agents, Wed Nov 11 2026. No macro, syntax, notation, axiom, sorry.
-/
import Derived.Test.YtdgkchedoooffaaChecked
import GoSem.Claim
import GoSem.ClaimJoined
import GoSem.ClaimMapViews
import Derived.JoinedTies
import Derived.KernelRfl
namespace Go.Proofs.Ytdgkchedoooffaa
/- THE CELL 'sum', in the pinned program and in every row, IS THE sha256 OF THE DUMP (.gsa) THAT YtdgkchedoooffaaProg.lean LOADS. Nothing in Lean hashes anything: it is a label: what it is worth is what the hold of that sum in a sandbox is worth. -/
noncomputable def Try.pinned : Pinned := { name := "ytdgkchedoooffaa", sum := "d2801e4f98c3b246b0e0af1f3255c5c0f358633ee0b37a7438c5849b445aa982", checked := Try.checked }
namespace Rows
def none {H : Type} : Left H := { results := [], args := [] }

/-- 'olivettelaw04.TableauInserts': WHATEVER THE INPUT: true; the input reads as it did. -/
def tableauInsertsSpec : ChangeSpec := { name := "tableauInserts", fn := fun _ => fun
  | [d] => { results := [.lit (.bool true)], args := [d] }
  | _ => none }
def tableauInsertsRow : OpenClaim := { program := "ytdgkchedoooffaa", sum := "d2801e4f98c3b246b0e0af1f3255c5c0f358633ee0b37a7438c5849b445aa982", func := "olivette/olivettelaw04.TableauInserts", spec := "tableauInserts", unfollowed := true, recurses := true, plainKeys := false, apart := false }
def TableauInsertsSaid : Prop := tableauInsertsRow.holds Try.pinned (OpenSpec.ofChange tableauInsertsSpec)

/-- ITS FALSE NEIGHBOUR: 'it returns false'. Refute it at one input. -/
def tableauInsertsWrong : ChangeSpec := { name := "tableauInserts", fn := fun _ => fun
  | [d] => { results := [.lit (.bool false)], args := [d] }
  | _ => none }
def TableauInsertsWrongFalsely : Prop := tableauInsertsRow.holds Try.pinned (OpenSpec.ofChange tableauInsertsWrong)

/-- 'olivettelaw04.TableauCounts': WHATEVER THE INPUT: true; the input reads as it did. -/
def tableauCountsSpec : ChangeSpec := { name := "tableauCounts", fn := fun _ => fun
  | [d1, d2] => { results := [.lit (.bool true)], args := [d1, d2] }
  | _ => none }
def tableauCountsRow : OpenClaim := { program := "ytdgkchedoooffaa", sum := "d2801e4f98c3b246b0e0af1f3255c5c0f358633ee0b37a7438c5849b445aa982", func := "olivette/olivettelaw04.TableauCounts", spec := "tableauCounts", unfollowed := true, recurses := true, plainKeys := false, apart := false }
def TableauCountsSaid : Prop := tableauCountsRow.holds Try.pinned (OpenSpec.ofChange tableauCountsSpec)

/-- ITS FALSE NEIGHBOUR: 'it returns false'. Refute it at one input. -/
def tableauCountsWrong : ChangeSpec := { name := "tableauCounts", fn := fun _ => fun
  | [d1, d2] => { results := [.lit (.bool false)], args := [d1, d2] }
  | _ => none }
def TableauCountsWrongFalsely : Prop := tableauCountsRow.holds Try.pinned (OpenSpec.ofChange tableauCountsWrong)

/-- 'olivettelaw04.TableauGreene': WHATEVER THE INPUT: true; the input reads as it did. -/
def tableauGreeneSpec : ChangeSpec := { name := "tableauGreene", fn := fun _ => fun
  | [d1, d2] => { results := [.lit (.bool true)], args := [d1, d2] }
  | _ => none }
def tableauGreeneRow : OpenClaim := { program := "ytdgkchedoooffaa", sum := "d2801e4f98c3b246b0e0af1f3255c5c0f358633ee0b37a7438c5849b445aa982", func := "olivette/olivettelaw04.TableauGreene", spec := "tableauGreene", unfollowed := true, recurses := true, plainKeys := false, apart := false }
def TableauGreeneSaid : Prop := tableauGreeneRow.holds Try.pinned (OpenSpec.ofChange tableauGreeneSpec)

/-- ITS FALSE NEIGHBOUR: 'it returns false'. Refute it at one input. -/
def tableauGreeneWrong : ChangeSpec := { name := "tableauGreene", fn := fun _ => fun
  | [d1, d2] => { results := [.lit (.bool false)], args := [d1, d2] }
  | _ => none }
def TableauGreeneWrongFalsely : Prop := tableauGreeneRow.holds Try.pinned (OpenSpec.ofChange tableauGreeneWrong)

/-- 'olivettelaw04.TableauInverse': WHATEVER THE INPUT: true; the input reads as it did. -/
def tableauInverseSpec : ChangeSpec := { name := "tableauInverse", fn := fun _ => fun
  | [d] => { results := [.lit (.bool true)], args := [d] }
  | _ => none }
def tableauInverseRow : OpenClaim := { program := "ytdgkchedoooffaa", sum := "d2801e4f98c3b246b0e0af1f3255c5c0f358633ee0b37a7438c5849b445aa982", func := "olivette/olivettelaw04.TableauInverse", spec := "tableauInverse", unfollowed := true, recurses := true, plainKeys := false, apart := false }
def TableauInverseSaid : Prop := tableauInverseRow.holds Try.pinned (OpenSpec.ofChange tableauInverseSpec)

/-- ITS FALSE NEIGHBOUR: 'it returns false'. Refute it at one input. -/
def tableauInverseWrong : ChangeSpec := { name := "tableauInverse", fn := fun _ => fun
  | [d] => { results := [.lit (.bool false)], args := [d] }
  | _ => none }
def TableauInverseWrongFalsely : Prop := tableauInverseRow.holds Try.pinned (OpenSpec.ofChange tableauInverseWrong)

/-- 'olivettelaw04.TableauSquares': WHATEVER THE INPUT: true; the input reads as it did. -/
def tableauSquaresSpec : ChangeSpec := { name := "tableauSquares", fn := fun _ => fun
  | [d] => { results := [.lit (.bool true)], args := [d] }
  | _ => none }
def tableauSquaresRow : OpenClaim := { program := "ytdgkchedoooffaa", sum := "d2801e4f98c3b246b0e0af1f3255c5c0f358633ee0b37a7438c5849b445aa982", func := "olivette/olivettelaw04.TableauSquares", spec := "tableauSquares", unfollowed := true, recurses := true, plainKeys := false, apart := false }
def TableauSquaresSaid : Prop := tableauSquaresRow.holds Try.pinned (OpenSpec.ofChange tableauSquaresSpec)

/-- ITS FALSE NEIGHBOUR: 'it returns false'. Refute it at one input. -/
def tableauSquaresWrong : ChangeSpec := { name := "tableauSquares", fn := fun _ => fun
  | [d] => { results := [.lit (.bool false)], args := [d] }
  | _ => none }
def TableauSquaresWrongFalsely : Prop := tableauSquaresRow.holds Try.pinned (OpenSpec.ofChange tableauSquaresWrong)

/-- 'olivettelaw04.TableauCorners': WHATEVER THE INPUT: true; the input reads as it did. -/
def tableauCornersSpec : ChangeSpec := { name := "tableauCorners", fn := fun _ => fun
  | [d] => { results := [.lit (.bool true)], args := [d] }
  | _ => none }
def tableauCornersRow : OpenClaim := { program := "ytdgkchedoooffaa", sum := "d2801e4f98c3b246b0e0af1f3255c5c0f358633ee0b37a7438c5849b445aa982", func := "olivette/olivettelaw04.TableauCorners", spec := "tableauCorners", unfollowed := true, recurses := true, plainKeys := false, apart := false }
def TableauCornersSaid : Prop := tableauCornersRow.holds Try.pinned (OpenSpec.ofChange tableauCornersSpec)

/-- ITS FALSE NEIGHBOUR: 'it returns false'. Refute it at one input. -/
def tableauCornersWrong : ChangeSpec := { name := "tableauCorners", fn := fun _ => fun
  | [d] => { results := [.lit (.bool false)], args := [d] }
  | _ => none }
def TableauCornersWrongFalsely : Prop := tableauCornersRow.holds Try.pinned (OpenSpec.ofChange tableauCornersWrong)

/-- 'olivettelaw04.TableauFamilies': WHATEVER THE INPUT: true; the input reads as it did. -/
def tableauFamiliesSpec : ChangeSpec := { name := "tableauFamilies", fn := fun _ => fun
  | [d1, d2] => { results := [.lit (.bool true)], args := [d1, d2] }
  | _ => none }
def tableauFamiliesRow : OpenClaim := { program := "ytdgkchedoooffaa", sum := "d2801e4f98c3b246b0e0af1f3255c5c0f358633ee0b37a7438c5849b445aa982", func := "olivette/olivettelaw04.TableauFamilies", spec := "tableauFamilies", unfollowed := true, recurses := true, plainKeys := false, apart := false }
def TableauFamiliesSaid : Prop := tableauFamiliesRow.holds Try.pinned (OpenSpec.ofChange tableauFamiliesSpec)

/-- ITS FALSE NEIGHBOUR: 'it returns false'. Refute it at one input. -/
def tableauFamiliesWrong : ChangeSpec := { name := "tableauFamilies", fn := fun _ => fun
  | [d1, d2] => { results := [.lit (.bool false)], args := [d1, d2] }
  | _ => none }
def TableauFamiliesWrongFalsely : Prop := tableauFamiliesRow.holds Try.pinned (OpenSpec.ofChange tableauFamiliesWrong)

/-- 'olivettelaw04.TableauChecks': WHATEVER THE INPUT: true; the input reads as it did. -/
def tableauChecksSpec : ChangeSpec := { name := "tableauChecks", fn := fun _ => fun
  | [d1, d2, d3] => { results := [.lit (.bool true)], args := [d1, d2, d3] }
  | _ => none }
def tableauChecksRow : OpenClaim := { program := "ytdgkchedoooffaa", sum := "d2801e4f98c3b246b0e0af1f3255c5c0f358633ee0b37a7438c5849b445aa982", func := "olivette/olivettelaw04.TableauChecks", spec := "tableauChecks", unfollowed := true, recurses := true, plainKeys := false, apart := false }
def TableauChecksSaid : Prop := tableauChecksRow.holds Try.pinned (OpenSpec.ofChange tableauChecksSpec)

/-- ITS FALSE NEIGHBOUR: 'it returns false'. Refute it at one input. -/
def tableauChecksWrong : ChangeSpec := { name := "tableauChecks", fn := fun _ => fun
  | [d1, d2, d3] => { results := [.lit (.bool false)], args := [d1, d2, d3] }
  | _ => none }
def TableauChecksWrongFalsely : Prop := tableauChecksRow.holds Try.pinned (OpenSpec.ofChange tableauChecksWrong)

/-- 'olivettelaw04.TableauNever': WHATEVER THE INPUT: true; the input reads as it did. -/
def tableauNeverSpec : ChangeSpec := { name := "tableauNever", fn := fun _ => fun
  | [d1, d2, d3] => { results := [.lit (.bool true)], args := [d1, d2, d3] }
  | _ => none }
def tableauNeverRow : OpenClaim := { program := "ytdgkchedoooffaa", sum := "d2801e4f98c3b246b0e0af1f3255c5c0f358633ee0b37a7438c5849b445aa982", func := "olivette/olivettelaw04.TableauNever", spec := "tableauNever", unfollowed := true, recurses := true, plainKeys := false, apart := false }
def TableauNeverSaid : Prop := tableauNeverRow.holds Try.pinned (OpenSpec.ofChange tableauNeverSpec)

/-- ITS FALSE NEIGHBOUR: 'it returns false'. Refute it at one input. -/
def tableauNeverWrong : ChangeSpec := { name := "tableauNever", fn := fun _ => fun
  | [d1, d2, d3] => { results := [.lit (.bool false)], args := [d1, d2, d3] }
  | _ => none }
def TableauNeverWrongFalsely : Prop := tableauNeverRow.holds Try.pinned (OpenSpec.ofChange tableauNeverWrong)

/-- 'olivettelaw04.TableauIndexes': WHATEVER THE INPUT: true; the input reads as it did. -/
def tableauIndexesSpec : ChangeSpec := { name := "tableauIndexes", fn := fun _ => fun
  | [d] => { results := [.lit (.bool true)], args := [d] }
  | _ => none }
def tableauIndexesRow : OpenClaim := { program := "ytdgkchedoooffaa", sum := "d2801e4f98c3b246b0e0af1f3255c5c0f358633ee0b37a7438c5849b445aa982", func := "olivette/olivettelaw04.TableauIndexes", spec := "tableauIndexes", unfollowed := true, recurses := true, plainKeys := false, apart := false }
def TableauIndexesSaid : Prop := tableauIndexesRow.holds Try.pinned (OpenSpec.ofChange tableauIndexesSpec)

/-- ITS FALSE NEIGHBOUR: 'it returns false'. Refute it at one input. -/
def tableauIndexesWrong : ChangeSpec := { name := "tableauIndexes", fn := fun _ => fun
  | [d] => { results := [.lit (.bool false)], args := [d] }
  | _ => none }
def TableauIndexesWrongFalsely : Prop := tableauIndexesRow.holds Try.pinned (OpenSpec.ofChange tableauIndexesWrong)

/-- 'olivettelaw04.TableauOrder': WHATEVER THE INPUT: true; the input reads as it did. -/
def tableauOrderSpec : ChangeSpec := { name := "tableauOrder", fn := fun _ => fun
  | [d1, d2] => { results := [.lit (.bool true)], args := [d1, d2] }
  | _ => none }
def tableauOrderRow : OpenClaim := { program := "ytdgkchedoooffaa", sum := "d2801e4f98c3b246b0e0af1f3255c5c0f358633ee0b37a7438c5849b445aa982", func := "olivette/olivettelaw04.TableauOrder", spec := "tableauOrder", unfollowed := true, recurses := true, plainKeys := false, apart := false }
def TableauOrderSaid : Prop := tableauOrderRow.holds Try.pinned (OpenSpec.ofChange tableauOrderSpec)

/-- ITS FALSE NEIGHBOUR: 'it returns false'. Refute it at one input. -/
def tableauOrderWrong : ChangeSpec := { name := "tableauOrder", fn := fun _ => fun
  | [d1, d2] => { results := [.lit (.bool false)], args := [d1, d2] }
  | _ => none }
def TableauOrderWrongFalsely : Prop := tableauOrderRow.holds Try.pinned (OpenSpec.ofChange tableauOrderWrong)

/-- 'olivettelaw04.TableauWords': WHATEVER THE INPUT: true; the input reads as it did. -/
def tableauWordsSpec : ChangeSpec := { name := "tableauWords", fn := fun _ => fun
  | [d1, d2] => { results := [.lit (.bool true)], args := [d1, d2] }
  | _ => none }
def tableauWordsRow : OpenClaim := { program := "ytdgkchedoooffaa", sum := "d2801e4f98c3b246b0e0af1f3255c5c0f358633ee0b37a7438c5849b445aa982", func := "olivette/olivettelaw04.TableauWords", spec := "tableauWords", unfollowed := true, recurses := true, plainKeys := false, apart := false }
def TableauWordsSaid : Prop := tableauWordsRow.holds Try.pinned (OpenSpec.ofChange tableauWordsSpec)

/-- ITS FALSE NEIGHBOUR: 'it returns false'. Refute it at one input. -/
def tableauWordsWrong : ChangeSpec := { name := "tableauWords", fn := fun _ => fun
  | [d1, d2] => { results := [.lit (.bool false)], args := [d1, d2] }
  | _ => none }
def TableauWordsWrongFalsely : Prop := tableauWordsRow.holds Try.pinned (OpenSpec.ofChange tableauWordsWrong)

/-- 'olivettelaw04.TableauEvacuates': WHATEVER THE INPUT: true; the input reads as it did. -/
def tableauEvacuatesSpec : ChangeSpec := { name := "tableauEvacuates", fn := fun _ => fun
  | [d] => { results := [.lit (.bool true)], args := [d] }
  | _ => none }
def tableauEvacuatesRow : OpenClaim := { program := "ytdgkchedoooffaa", sum := "d2801e4f98c3b246b0e0af1f3255c5c0f358633ee0b37a7438c5849b445aa982", func := "olivette/olivettelaw04.TableauEvacuates", spec := "tableauEvacuates", unfollowed := true, recurses := true, plainKeys := false, apart := false }
def TableauEvacuatesSaid : Prop := tableauEvacuatesRow.holds Try.pinned (OpenSpec.ofChange tableauEvacuatesSpec)

/-- ITS FALSE NEIGHBOUR: 'it returns false'. Refute it at one input. -/
def tableauEvacuatesWrong : ChangeSpec := { name := "tableauEvacuates", fn := fun _ => fun
  | [d] => { results := [.lit (.bool false)], args := [d] }
  | _ => none }
def TableauEvacuatesWrongFalsely : Prop := tableauEvacuatesRow.holds Try.pinned (OpenSpec.ofChange tableauEvacuatesWrong)

/-- 'olivettelaw04.TableauBack': WHATEVER THE INPUT: true; the input reads as it did. -/
def tableauBackSpec : ChangeSpec := { name := "tableauBack", fn := fun _ => fun
  | [d] => { results := [.lit (.bool true)], args := [d] }
  | _ => none }
def tableauBackRow : OpenClaim := { program := "ytdgkchedoooffaa", sum := "d2801e4f98c3b246b0e0af1f3255c5c0f358633ee0b37a7438c5849b445aa982", func := "olivette/olivettelaw04.TableauBack", spec := "tableauBack", unfollowed := true, recurses := true, plainKeys := false, apart := false }
def TableauBackSaid : Prop := tableauBackRow.holds Try.pinned (OpenSpec.ofChange tableauBackSpec)

/-- ITS FALSE NEIGHBOUR: 'it returns false'. Refute it at one input. -/
def tableauBackWrong : ChangeSpec := { name := "tableauBack", fn := fun _ => fun
  | [d] => { results := [.lit (.bool false)], args := [d] }
  | _ => none }
def TableauBackWrongFalsely : Prop := tableauBackRow.holds Try.pinned (OpenSpec.ofChange tableauBackWrong)

/-- 'olivettelaw04.TableauTwice': WHATEVER THE INPUT: true; the input reads as it did. -/
def tableauTwiceSpec : ChangeSpec := { name := "tableauTwice", fn := fun _ => fun
  | [d] => { results := [.lit (.bool true)], args := [d] }
  | _ => none }
def tableauTwiceRow : OpenClaim := { program := "ytdgkchedoooffaa", sum := "d2801e4f98c3b246b0e0af1f3255c5c0f358633ee0b37a7438c5849b445aa982", func := "olivette/olivettelaw04.TableauTwice", spec := "tableauTwice", unfollowed := true, recurses := true, plainKeys := false, apart := false }
def TableauTwiceSaid : Prop := tableauTwiceRow.holds Try.pinned (OpenSpec.ofChange tableauTwiceSpec)

/-- ITS FALSE NEIGHBOUR: 'it returns false'. Refute it at one input. -/
def tableauTwiceWrong : ChangeSpec := { name := "tableauTwice", fn := fun _ => fun
  | [d] => { results := [.lit (.bool false)], args := [d] }
  | _ => none }
def TableauTwiceWrongFalsely : Prop := tableauTwiceRow.holds Try.pinned (OpenSpec.ofChange tableauTwiceWrong)

/-- 'olivettelaw04.TableauOwn': WHATEVER THE INPUT: true; the input reads as it did. -/
def tableauOwnSpec : ChangeSpec := { name := "tableauOwn", fn := fun _ => fun
  | [d] => { results := [.lit (.bool true)], args := [d] }
  | _ => none }
def tableauOwnRow : OpenClaim := { program := "ytdgkchedoooffaa", sum := "d2801e4f98c3b246b0e0af1f3255c5c0f358633ee0b37a7438c5849b445aa982", func := "olivette/olivettelaw04.TableauOwn", spec := "tableauOwn", unfollowed := true, recurses := true, plainKeys := false, apart := false }
def TableauOwnSaid : Prop := tableauOwnRow.holds Try.pinned (OpenSpec.ofChange tableauOwnSpec)

/-- ITS FALSE NEIGHBOUR: 'it returns false'. Refute it at one input. -/
def tableauOwnWrong : ChangeSpec := { name := "tableauOwn", fn := fun _ => fun
  | [d] => { results := [.lit (.bool false)], args := [d] }
  | _ => none }
def TableauOwnWrongFalsely : Prop := tableauOwnRow.holds Try.pinned (OpenSpec.ofChange tableauOwnWrong)

/- THE SECOND FORM. 'bulk': how many values and letters a reading holds, each counted each time it is reached (what is shared counts as often as it is met; a slice's spare places count too). A statement '..UptoSaid' is the law's where the arguments, and the package variables that the reading takes, are together of bulk at most 1048576: NARROWER than '..Said'. Prove '..Said' where nothing that the law and all that it calls make is longer than what came in: it says more and counts as full. Else prove '..UptoSaid'. A law counts once. -/
mutual
def uptoBulk {H : Type} : DataW H → Nat
  | .lit (.string bytes) => bytes.length + 1
  | .lit _ => 1
  | .nil => 1
  | .ptr d => uptoBulk d + 1
  | .slice elems spare => uptoBulkAll elems + uptoBulkAll spare + 1
  | .agg parts => uptoBulkAll parts + 1
  | .iface _ d => uptoBulk d + 1
  | .map entries => uptoBulkEntries entries + 1
  | .held _ => 1
def uptoBulkAll {H : Type} : List (DataW H) → Nat
  | [] => 0
  | d :: r => uptoBulk d + uptoBulkAll r
def uptoBulkEntries {H : Type} : List (Lit × DataW H) → Nat
  | [] => 0
  | x :: r => uptoBulkEntry x + uptoBulkEntries r
def uptoBulkEntry {H : Type} : Lit × DataW H → Nat
  | (.string bytes, d) => bytes.length + uptoBulk d + 1
  | (_, d) => uptoBulk d + 1
 end
def uptoSmall : (H : Type) → List (DataW H) → Bool := fun _ ds => decide (uptoBulkAll ds ≤ 1048576)
def OpenSpec.upto (s : _root_.Go.ChangeSpec) : _root_.Go.OpenSpec := { _root_.Go.OpenSpec.ofChange s with cond := some uptoSmall }

/-- 'olivettelaw04.TableauInserts', WHERE WHAT IT READS IS OF BULK AT MOST 1048576: true; the input reads as it did. -/
def tableauInsertsUptoRow : OpenClaim := { program := "ytdgkchedoooffaa", sum := "d2801e4f98c3b246b0e0af1f3255c5c0f358633ee0b37a7438c5849b445aa982", func := "olivette/olivettelaw04.TableauInserts", spec := "tableauInserts", unfollowed := true, recurses := true, plainKeys := false, apart := false, narrowed := true }
def TableauInsertsUptoSaid : Prop := tableauInsertsUptoRow.holds Try.pinned (OpenSpec.upto tableauInsertsSpec)

/-- 'olivettelaw04.TableauCounts', WHERE WHAT IT READS IS OF BULK AT MOST 1048576: true; the input reads as it did. -/
def tableauCountsUptoRow : OpenClaim := { program := "ytdgkchedoooffaa", sum := "d2801e4f98c3b246b0e0af1f3255c5c0f358633ee0b37a7438c5849b445aa982", func := "olivette/olivettelaw04.TableauCounts", spec := "tableauCounts", unfollowed := true, recurses := true, plainKeys := false, apart := false, narrowed := true }
def TableauCountsUptoSaid : Prop := tableauCountsUptoRow.holds Try.pinned (OpenSpec.upto tableauCountsSpec)

/-- 'olivettelaw04.TableauGreene', WHERE WHAT IT READS IS OF BULK AT MOST 1048576: true; the input reads as it did. -/
def tableauGreeneUptoRow : OpenClaim := { program := "ytdgkchedoooffaa", sum := "d2801e4f98c3b246b0e0af1f3255c5c0f358633ee0b37a7438c5849b445aa982", func := "olivette/olivettelaw04.TableauGreene", spec := "tableauGreene", unfollowed := true, recurses := true, plainKeys := false, apart := false, narrowed := true }
def TableauGreeneUptoSaid : Prop := tableauGreeneUptoRow.holds Try.pinned (OpenSpec.upto tableauGreeneSpec)

/-- 'olivettelaw04.TableauInverse', WHERE WHAT IT READS IS OF BULK AT MOST 1048576: true; the input reads as it did. -/
def tableauInverseUptoRow : OpenClaim := { program := "ytdgkchedoooffaa", sum := "d2801e4f98c3b246b0e0af1f3255c5c0f358633ee0b37a7438c5849b445aa982", func := "olivette/olivettelaw04.TableauInverse", spec := "tableauInverse", unfollowed := true, recurses := true, plainKeys := false, apart := false, narrowed := true }
def TableauInverseUptoSaid : Prop := tableauInverseUptoRow.holds Try.pinned (OpenSpec.upto tableauInverseSpec)

/-- 'olivettelaw04.TableauSquares', WHERE WHAT IT READS IS OF BULK AT MOST 1048576: true; the input reads as it did. -/
def tableauSquaresUptoRow : OpenClaim := { program := "ytdgkchedoooffaa", sum := "d2801e4f98c3b246b0e0af1f3255c5c0f358633ee0b37a7438c5849b445aa982", func := "olivette/olivettelaw04.TableauSquares", spec := "tableauSquares", unfollowed := true, recurses := true, plainKeys := false, apart := false, narrowed := true }
def TableauSquaresUptoSaid : Prop := tableauSquaresUptoRow.holds Try.pinned (OpenSpec.upto tableauSquaresSpec)

/-- 'olivettelaw04.TableauCorners', WHERE WHAT IT READS IS OF BULK AT MOST 1048576: true; the input reads as it did. -/
def tableauCornersUptoRow : OpenClaim := { program := "ytdgkchedoooffaa", sum := "d2801e4f98c3b246b0e0af1f3255c5c0f358633ee0b37a7438c5849b445aa982", func := "olivette/olivettelaw04.TableauCorners", spec := "tableauCorners", unfollowed := true, recurses := true, plainKeys := false, apart := false, narrowed := true }
def TableauCornersUptoSaid : Prop := tableauCornersUptoRow.holds Try.pinned (OpenSpec.upto tableauCornersSpec)

/-- 'olivettelaw04.TableauFamilies', WHERE WHAT IT READS IS OF BULK AT MOST 1048576: true; the input reads as it did. -/
def tableauFamiliesUptoRow : OpenClaim := { program := "ytdgkchedoooffaa", sum := "d2801e4f98c3b246b0e0af1f3255c5c0f358633ee0b37a7438c5849b445aa982", func := "olivette/olivettelaw04.TableauFamilies", spec := "tableauFamilies", unfollowed := true, recurses := true, plainKeys := false, apart := false, narrowed := true }
def TableauFamiliesUptoSaid : Prop := tableauFamiliesUptoRow.holds Try.pinned (OpenSpec.upto tableauFamiliesSpec)

/-- 'olivettelaw04.TableauChecks', WHERE WHAT IT READS IS OF BULK AT MOST 1048576: true; the input reads as it did. -/
def tableauChecksUptoRow : OpenClaim := { program := "ytdgkchedoooffaa", sum := "d2801e4f98c3b246b0e0af1f3255c5c0f358633ee0b37a7438c5849b445aa982", func := "olivette/olivettelaw04.TableauChecks", spec := "tableauChecks", unfollowed := true, recurses := true, plainKeys := false, apart := false, narrowed := true }
def TableauChecksUptoSaid : Prop := tableauChecksUptoRow.holds Try.pinned (OpenSpec.upto tableauChecksSpec)

/-- 'olivettelaw04.TableauNever', WHERE WHAT IT READS IS OF BULK AT MOST 1048576: true; the input reads as it did. -/
def tableauNeverUptoRow : OpenClaim := { program := "ytdgkchedoooffaa", sum := "d2801e4f98c3b246b0e0af1f3255c5c0f358633ee0b37a7438c5849b445aa982", func := "olivette/olivettelaw04.TableauNever", spec := "tableauNever", unfollowed := true, recurses := true, plainKeys := false, apart := false, narrowed := true }
def TableauNeverUptoSaid : Prop := tableauNeverUptoRow.holds Try.pinned (OpenSpec.upto tableauNeverSpec)

/-- 'olivettelaw04.TableauIndexes', WHERE WHAT IT READS IS OF BULK AT MOST 1048576: true; the input reads as it did. -/
def tableauIndexesUptoRow : OpenClaim := { program := "ytdgkchedoooffaa", sum := "d2801e4f98c3b246b0e0af1f3255c5c0f358633ee0b37a7438c5849b445aa982", func := "olivette/olivettelaw04.TableauIndexes", spec := "tableauIndexes", unfollowed := true, recurses := true, plainKeys := false, apart := false, narrowed := true }
def TableauIndexesUptoSaid : Prop := tableauIndexesUptoRow.holds Try.pinned (OpenSpec.upto tableauIndexesSpec)

/-- 'olivettelaw04.TableauOrder', WHERE WHAT IT READS IS OF BULK AT MOST 1048576: true; the input reads as it did. -/
def tableauOrderUptoRow : OpenClaim := { program := "ytdgkchedoooffaa", sum := "d2801e4f98c3b246b0e0af1f3255c5c0f358633ee0b37a7438c5849b445aa982", func := "olivette/olivettelaw04.TableauOrder", spec := "tableauOrder", unfollowed := true, recurses := true, plainKeys := false, apart := false, narrowed := true }
def TableauOrderUptoSaid : Prop := tableauOrderUptoRow.holds Try.pinned (OpenSpec.upto tableauOrderSpec)

/-- 'olivettelaw04.TableauWords', WHERE WHAT IT READS IS OF BULK AT MOST 1048576: true; the input reads as it did. -/
def tableauWordsUptoRow : OpenClaim := { program := "ytdgkchedoooffaa", sum := "d2801e4f98c3b246b0e0af1f3255c5c0f358633ee0b37a7438c5849b445aa982", func := "olivette/olivettelaw04.TableauWords", spec := "tableauWords", unfollowed := true, recurses := true, plainKeys := false, apart := false, narrowed := true }
def TableauWordsUptoSaid : Prop := tableauWordsUptoRow.holds Try.pinned (OpenSpec.upto tableauWordsSpec)

/-- 'olivettelaw04.TableauEvacuates', WHERE WHAT IT READS IS OF BULK AT MOST 1048576: true; the input reads as it did. -/
def tableauEvacuatesUptoRow : OpenClaim := { program := "ytdgkchedoooffaa", sum := "d2801e4f98c3b246b0e0af1f3255c5c0f358633ee0b37a7438c5849b445aa982", func := "olivette/olivettelaw04.TableauEvacuates", spec := "tableauEvacuates", unfollowed := true, recurses := true, plainKeys := false, apart := false, narrowed := true }
def TableauEvacuatesUptoSaid : Prop := tableauEvacuatesUptoRow.holds Try.pinned (OpenSpec.upto tableauEvacuatesSpec)

/-- 'olivettelaw04.TableauBack', WHERE WHAT IT READS IS OF BULK AT MOST 1048576: true; the input reads as it did. -/
def tableauBackUptoRow : OpenClaim := { program := "ytdgkchedoooffaa", sum := "d2801e4f98c3b246b0e0af1f3255c5c0f358633ee0b37a7438c5849b445aa982", func := "olivette/olivettelaw04.TableauBack", spec := "tableauBack", unfollowed := true, recurses := true, plainKeys := false, apart := false, narrowed := true }
def TableauBackUptoSaid : Prop := tableauBackUptoRow.holds Try.pinned (OpenSpec.upto tableauBackSpec)

/-- 'olivettelaw04.TableauTwice', WHERE WHAT IT READS IS OF BULK AT MOST 1048576: true; the input reads as it did. -/
def tableauTwiceUptoRow : OpenClaim := { program := "ytdgkchedoooffaa", sum := "d2801e4f98c3b246b0e0af1f3255c5c0f358633ee0b37a7438c5849b445aa982", func := "olivette/olivettelaw04.TableauTwice", spec := "tableauTwice", unfollowed := true, recurses := true, plainKeys := false, apart := false, narrowed := true }
def TableauTwiceUptoSaid : Prop := tableauTwiceUptoRow.holds Try.pinned (OpenSpec.upto tableauTwiceSpec)

/-- 'olivettelaw04.TableauOwn', WHERE WHAT IT READS IS OF BULK AT MOST 1048576: true; the input reads as it did. -/
def tableauOwnUptoRow : OpenClaim := { program := "ytdgkchedoooffaa", sum := "d2801e4f98c3b246b0e0af1f3255c5c0f358633ee0b37a7438c5849b445aa982", func := "olivette/olivettelaw04.TableauOwn", spec := "tableauOwn", unfollowed := true, recurses := true, plainKeys := false, apart := false, narrowed := true }
def TableauOwnUptoSaid : Prop := tableauOwnUptoRow.holds Try.pinned (OpenSpec.upto tableauOwnSpec)

end Rows
end Go.Proofs.Ytdgkchedoooffaa
