/-
  No cell of these rows narrows 'for every input' (looked for: loops, veiled, ifaces, maps, wideKeys, modest, calm, conditions, laid).
  DERIVED. THE GIVEN ROWS OF THIS SEAT. 13 by the template 'for every input the law returns true; each argument reads behind the call as it read before'; 0 by the template 'total and deterministic' (their statements: YtmeajfgjbebkiaaTotals.lean).
  GIVEN WITH THE SEED: the statements are not yours to turn. If you find one false, say at which input.
  Laid BY PROGRAM, IN A SANDBOX (cutbox-rows.mjs): the forced cells as the released guide's own fill.sh prints them over the translation 0192c65177918255… (all of the seat's roots in one cut). By AI agents, Wed Nov 11 2026. No macro, syntax, notation, axiom, sorry.
-/
import Derived.Test.YtmeajfgjbebkiaaChecked
import GoSem.Claim
import GoSem.ClaimJoined
import GoSem.ClaimMapViews
import Derived.JoinedTies
import Derived.KernelRfl
namespace Go.Proofs.Ytmeajfgjbebkiaa
/- THE CELL 'sum', in the pinned program and in every row, IS THE sha256 OF THE DUMP (.gsa) THAT YtmeajfgjbebkiaaProg.lean LOADS. Nothing in Lean hashes anything: it is a label: what it is worth is what the hold of that sum in a sandbox is worth. -/
noncomputable def Try.pinned : Pinned := { name := "ytmeajfgjbebkiaa", sum := "0192c65177918255e5f8fd182ae437fb49078339ab9b421a08c66e0f47096be6", checked := Try.checked }
namespace Rows
def none {H : Type} : Left H := { results := [], args := [] }

/-- 'olivettelaw08.ParityAttracts': WHATEVER THE INPUT: true; the input reads as it did. -/
def parityAttractsSpec : ChangeSpec := { name := "parityAttracts", fn := fun _ => fun
  | [d1, d2, d3] => { results := [.lit (.bool true)], args := [d1, d2, d3] }
  | _ => none }
def parityAttractsRow : OpenClaim := { program := "ytmeajfgjbebkiaa", sum := "0192c65177918255e5f8fd182ae437fb49078339ab9b421a08c66e0f47096be6", func := "olivette/olivettelaw08.ParityAttracts", spec := "parityAttracts", unfollowed := true, recurses := true, apart := false }
def ParityAttractsSaid : Prop := parityAttractsRow.holds Try.pinned (OpenSpec.ofChange parityAttractsSpec)

/-- ITS FALSE NEIGHBOUR: 'it returns false'. Refute it at one input. -/
def parityAttractsWrong : ChangeSpec := { name := "parityAttracts", fn := fun _ => fun
  | [d1, d2, d3] => { results := [.lit (.bool false)], args := [d1, d2, d3] }
  | _ => none }
def ParityAttractsWrongFalsely : Prop := parityAttractsRow.holds Try.pinned (OpenSpec.ofChange parityAttractsWrong)

/-- 'olivettelaw08.ParityPlays': WHATEVER THE INPUT: true; the input reads as it did. -/
def parityPlaysSpec : ChangeSpec := { name := "parityPlays", fn := fun _ => fun
  | [d1, d2, d3] => { results := [.lit (.bool true)], args := [d1, d2, d3] }
  | _ => none }
def parityPlaysRow : OpenClaim := { program := "ytmeajfgjbebkiaa", sum := "0192c65177918255e5f8fd182ae437fb49078339ab9b421a08c66e0f47096be6", func := "olivette/olivettelaw08.ParityPlays", spec := "parityPlays", unfollowed := true, recurses := true, apart := false }
def ParityPlaysSaid : Prop := parityPlaysRow.holds Try.pinned (OpenSpec.ofChange parityPlaysSpec)

/-- ITS FALSE NEIGHBOUR: 'it returns false'. Refute it at one input. -/
def parityPlaysWrong : ChangeSpec := { name := "parityPlays", fn := fun _ => fun
  | [d1, d2, d3] => { results := [.lit (.bool false)], args := [d1, d2, d3] }
  | _ => none }
def ParityPlaysWrongFalsely : Prop := parityPlaysRow.holds Try.pinned (OpenSpec.ofChange parityPlaysWrong)

/-- 'olivettelaw08.ParityRegions': WHATEVER THE INPUT: true; the input reads as it did. -/
def parityRegionsSpec : ChangeSpec := { name := "parityRegions", fn := fun _ => fun
  | [d1, d2] => { results := [.lit (.bool true)], args := [d1, d2] }
  | _ => none }
def parityRegionsRow : OpenClaim := { program := "ytmeajfgjbebkiaa", sum := "0192c65177918255e5f8fd182ae437fb49078339ab9b421a08c66e0f47096be6", func := "olivette/olivettelaw08.ParityRegions", spec := "parityRegions", unfollowed := true, recurses := true, apart := false }
def ParityRegionsSaid : Prop := parityRegionsRow.holds Try.pinned (OpenSpec.ofChange parityRegionsSpec)

/-- ITS FALSE NEIGHBOUR: 'it returns false'. Refute it at one input. -/
def parityRegionsWrong : ChangeSpec := { name := "parityRegions", fn := fun _ => fun
  | [d1, d2] => { results := [.lit (.bool false)], args := [d1, d2] }
  | _ => none }
def ParityRegionsWrongFalsely : Prop := parityRegionsRow.holds Try.pinned (OpenSpec.ofChange parityRegionsWrong)

/-- 'olivettelaw08.ParityMore': WHATEVER THE INPUT: true; the input reads as it did. -/
def parityMoreSpec : ChangeSpec := { name := "parityMore", fn := fun _ => fun
  | [d1, d2] => { results := [.lit (.bool true)], args := [d1, d2] }
  | _ => none }
def parityMoreRow : OpenClaim := { program := "ytmeajfgjbebkiaa", sum := "0192c65177918255e5f8fd182ae437fb49078339ab9b421a08c66e0f47096be6", func := "olivette/olivettelaw08.ParityMore", spec := "parityMore", unfollowed := true, recurses := true, apart := false }
def ParityMoreSaid : Prop := parityMoreRow.holds Try.pinned (OpenSpec.ofChange parityMoreSpec)

/-- ITS FALSE NEIGHBOUR: 'it returns false'. Refute it at one input. -/
def parityMoreWrong : ChangeSpec := { name := "parityMore", fn := fun _ => fun
  | [d1, d2] => { results := [.lit (.bool false)], args := [d1, d2] }
  | _ => none }
def ParityMoreWrongFalsely : Prop := parityMoreRow.holds Try.pinned (OpenSpec.ofChange parityMoreWrong)

/-- 'olivettelaw08.ParityPlayed': WHATEVER THE INPUT: true; the input reads as it did. -/
def parityPlayedSpec : ChangeSpec := { name := "parityPlayed", fn := fun _ => fun
  | [d1, d2, d3] => { results := [.lit (.bool true)], args := [d1, d2, d3] }
  | _ => none }
def parityPlayedRow : OpenClaim := { program := "ytmeajfgjbebkiaa", sum := "0192c65177918255e5f8fd182ae437fb49078339ab9b421a08c66e0f47096be6", func := "olivette/olivettelaw08.ParityPlayed", spec := "parityPlayed", unfollowed := true, recurses := true, apart := false }
def ParityPlayedSaid : Prop := parityPlayedRow.holds Try.pinned (OpenSpec.ofChange parityPlayedSpec)

/-- ITS FALSE NEIGHBOUR: 'it returns false'. Refute it at one input. -/
def parityPlayedWrong : ChangeSpec := { name := "parityPlayed", fn := fun _ => fun
  | [d1, d2, d3] => { results := [.lit (.bool false)], args := [d1, d2, d3] }
  | _ => none }
def ParityPlayedWrongFalsely : Prop := parityPlayedRow.holds Try.pinned (OpenSpec.ofChange parityPlayedWrong)

/-- 'olivettelaw08.ParityTurns': WHATEVER THE INPUT: true; the input reads as it did. -/
def parityTurnsSpec : ChangeSpec := { name := "parityTurns", fn := fun _ => fun
  | [d] => { results := [.lit (.bool true)], args := [d] }
  | _ => none }
def parityTurnsRow : OpenClaim := { program := "ytmeajfgjbebkiaa", sum := "0192c65177918255e5f8fd182ae437fb49078339ab9b421a08c66e0f47096be6", func := "olivette/olivettelaw08.ParityTurns", spec := "parityTurns", unfollowed := true, recurses := true, apart := false }
def ParityTurnsSaid : Prop := parityTurnsRow.holds Try.pinned (OpenSpec.ofChange parityTurnsSpec)

/-- ITS FALSE NEIGHBOUR: 'it returns false'. Refute it at one input. -/
def parityTurnsWrong : ChangeSpec := { name := "parityTurns", fn := fun _ => fun
  | [d] => { results := [.lit (.bool false)], args := [d] }
  | _ => none }
def ParityTurnsWrongFalsely : Prop := parityTurnsRow.holds Try.pinned (OpenSpec.ofChange parityTurnsWrong)

/-- 'olivettelaw08.ParityOwn': WHATEVER THE INPUT: true; the input reads as it did. -/
def parityOwnSpec : ChangeSpec := { name := "parityOwn", fn := fun _ => fun
  | [d] => { results := [.lit (.bool true)], args := [d] }
  | _ => none }
def parityOwnRow : OpenClaim := { program := "ytmeajfgjbebkiaa", sum := "0192c65177918255e5f8fd182ae437fb49078339ab9b421a08c66e0f47096be6", func := "olivette/olivettelaw08.ParityOwn", spec := "parityOwn", unfollowed := true, recurses := true, apart := false }
def ParityOwnSaid : Prop := parityOwnRow.holds Try.pinned (OpenSpec.ofChange parityOwnSpec)

/-- ITS FALSE NEIGHBOUR: 'it returns false'. Refute it at one input. -/
def parityOwnWrong : ChangeSpec := { name := "parityOwn", fn := fun _ => fun
  | [d] => { results := [.lit (.bool false)], args := [d] }
  | _ => none }
def ParityOwnWrongFalsely : Prop := parityOwnRow.holds Try.pinned (OpenSpec.ofChange parityOwnWrong)

/-- 'olivettelaw08.ParityBeats': WHATEVER THE INPUT: true; the input reads as it did. -/
def parityBeatsSpec : ChangeSpec := { name := "parityBeats", fn := fun _ => fun
  | [d1, d2, d3] => { results := [.lit (.bool true)], args := [d1, d2, d3] }
  | _ => none }
def parityBeatsRow : OpenClaim := { program := "ytmeajfgjbebkiaa", sum := "0192c65177918255e5f8fd182ae437fb49078339ab9b421a08c66e0f47096be6", func := "olivette/olivettelaw08.ParityBeats", spec := "parityBeats", unfollowed := true, recurses := true, apart := false }
def ParityBeatsSaid : Prop := parityBeatsRow.holds Try.pinned (OpenSpec.ofChange parityBeatsSpec)

/-- ITS FALSE NEIGHBOUR: 'it returns false'. Refute it at one input. -/
def parityBeatsWrong : ChangeSpec := { name := "parityBeats", fn := fun _ => fun
  | [d1, d2, d3] => { results := [.lit (.bool false)], args := [d1, d2, d3] }
  | _ => none }
def ParityBeatsWrongFalsely : Prop := parityBeatsRow.holds Try.pinned (OpenSpec.ofChange parityBeatsWrong)

/-- 'olivettelaw08.ParityBest': WHATEVER THE INPUT: true; the input reads as it did. -/
def parityBestSpec : ChangeSpec := { name := "parityBest", fn := fun _ => fun
  | [d1, d2] => { results := [.lit (.bool true)], args := [d1, d2] }
  | _ => none }
def parityBestRow : OpenClaim := { program := "ytmeajfgjbebkiaa", sum := "0192c65177918255e5f8fd182ae437fb49078339ab9b421a08c66e0f47096be6", func := "olivette/olivettelaw08.ParityBest", spec := "parityBest", unfollowed := true, recurses := true, apart := false }
def ParityBestSaid : Prop := parityBestRow.holds Try.pinned (OpenSpec.ofChange parityBestSpec)

/-- ITS FALSE NEIGHBOUR: 'it returns false'. Refute it at one input. -/
def parityBestWrong : ChangeSpec := { name := "parityBest", fn := fun _ => fun
  | [d1, d2] => { results := [.lit (.bool false)], args := [d1, d2] }
  | _ => none }
def ParityBestWrongFalsely : Prop := parityBestRow.holds Try.pinned (OpenSpec.ofChange parityBestWrong)

/-- 'olivettelaw08.ParitySolves': WHATEVER THE INPUT: true; the input reads as it did. -/
def paritySolvesSpec : ChangeSpec := { name := "paritySolves", fn := fun _ => fun
  | [d] => { results := [.lit (.bool true)], args := [d] }
  | _ => none }
def paritySolvesRow : OpenClaim := { program := "ytmeajfgjbebkiaa", sum := "0192c65177918255e5f8fd182ae437fb49078339ab9b421a08c66e0f47096be6", func := "olivette/olivettelaw08.ParitySolves", spec := "paritySolves", unfollowed := true, recurses := true, apart := false }
def ParitySolvesSaid : Prop := paritySolvesRow.holds Try.pinned (OpenSpec.ofChange paritySolvesSpec)

/-- ITS FALSE NEIGHBOUR: 'it returns false'. Refute it at one input. -/
def paritySolvesWrong : ChangeSpec := { name := "paritySolves", fn := fun _ => fun
  | [d] => { results := [.lit (.bool false)], args := [d] }
  | _ => none }
def ParitySolvesWrongFalsely : Prop := paritySolvesRow.holds Try.pinned (OpenSpec.ofChange paritySolvesWrong)

/-- 'olivettelaw08.ParityChecks': WHATEVER THE INPUT: true; the input reads as it did. -/
def parityChecksSpec : ChangeSpec := { name := "parityChecks", fn := fun _ => fun
  | [d1, d2] => { results := [.lit (.bool true)], args := [d1, d2] }
  | _ => none }
def parityChecksRow : OpenClaim := { program := "ytmeajfgjbebkiaa", sum := "0192c65177918255e5f8fd182ae437fb49078339ab9b421a08c66e0f47096be6", func := "olivette/olivettelaw08.ParityChecks", spec := "parityChecks", unfollowed := true, recurses := true, apart := false }
def ParityChecksSaid : Prop := parityChecksRow.holds Try.pinned (OpenSpec.ofChange parityChecksSpec)

/-- ITS FALSE NEIGHBOUR: 'it returns false'. Refute it at one input. -/
def parityChecksWrong : ChangeSpec := { name := "parityChecks", fn := fun _ => fun
  | [d1, d2] => { results := [.lit (.bool false)], args := [d1, d2] }
  | _ => none }
def ParityChecksWrongFalsely : Prop := parityChecksRow.holds Try.pinned (OpenSpec.ofChange parityChecksWrong)

/-- 'olivettelaw08.ParityOnce': WHATEVER THE INPUT: true; the input reads as it did. -/
def parityOnceSpec : ChangeSpec := { name := "parityOnce", fn := fun _ => fun
  | [d1, d2, d3] => { results := [.lit (.bool true)], args := [d1, d2, d3] }
  | _ => none }
def parityOnceRow : OpenClaim := { program := "ytmeajfgjbebkiaa", sum := "0192c65177918255e5f8fd182ae437fb49078339ab9b421a08c66e0f47096be6", func := "olivette/olivettelaw08.ParityOnce", spec := "parityOnce", unfollowed := true, recurses := true, apart := false }
def ParityOnceSaid : Prop := parityOnceRow.holds Try.pinned (OpenSpec.ofChange parityOnceSpec)

/-- ITS FALSE NEIGHBOUR: 'it returns false'. Refute it at one input. -/
def parityOnceWrong : ChangeSpec := { name := "parityOnce", fn := fun _ => fun
  | [d1, d2, d3] => { results := [.lit (.bool false)], args := [d1, d2, d3] }
  | _ => none }
def ParityOnceWrongFalsely : Prop := parityOnceRow.holds Try.pinned (OpenSpec.ofChange parityOnceWrong)

/-- 'olivettelaw08.ParityTurned': WHATEVER THE INPUT: true; the input reads as it did. -/
def parityTurnedSpec : ChangeSpec := { name := "parityTurned", fn := fun _ => fun
  | [d] => { results := [.lit (.bool true)], args := [d] }
  | _ => none }
def parityTurnedRow : OpenClaim := { program := "ytmeajfgjbebkiaa", sum := "0192c65177918255e5f8fd182ae437fb49078339ab9b421a08c66e0f47096be6", func := "olivette/olivettelaw08.ParityTurned", spec := "parityTurned", unfollowed := true, recurses := true, apart := false }
def ParityTurnedSaid : Prop := parityTurnedRow.holds Try.pinned (OpenSpec.ofChange parityTurnedSpec)

/-- ITS FALSE NEIGHBOUR: 'it returns false'. Refute it at one input. -/
def parityTurnedWrong : ChangeSpec := { name := "parityTurned", fn := fun _ => fun
  | [d] => { results := [.lit (.bool false)], args := [d] }
  | _ => none }
def ParityTurnedWrongFalsely : Prop := parityTurnedRow.holds Try.pinned (OpenSpec.ofChange parityTurnedWrong)

/- THE SECOND FORM. 'bulk': how many values and letters a reading holds, each counted each time it is reached (what is shared counts as often as it is met; a slice's spare places count too). A statement '..UptoSaid' is the law's where the arguments, and the package variables that the reading takes, are together of bulk at most 1048576: NARROWER than '..Said'. Prove '..Said' where nothing that the law and all that it calls make is longer than what came in: it says more and counts as full. Else prove '..UptoSaid'. A law counts once. -/
mutual
def uptoBulk {H : Type} : DataW H → Nat
  | .lit (.string bytes) => bytes.length + 1
  | .lit _ => 1
  | .nil => 1
  | .ptr d => uptoBulk d + 1
  | .slice elems spare => uptoBulkAll elems + uptoBulkAll spare + 1
  | .agg parts => uptoBulkAll parts + 1
  | .iface _ d => uptoBulk d + 1
  | .map entries => uptoBulkEntries entries + 1
  | .held _ => 1
def uptoBulkAll {H : Type} : List (DataW H) → Nat
  | [] => 0
  | d :: r => uptoBulk d + uptoBulkAll r
def uptoBulkEntries {H : Type} : List (Lit × DataW H) → Nat
  | [] => 0
  | x :: r => uptoBulkEntry x + uptoBulkEntries r
def uptoBulkEntry {H : Type} : Lit × DataW H → Nat
  | (.string bytes, d) => bytes.length + uptoBulk d + 1
  | (_, d) => uptoBulk d + 1
 end
def uptoSmall : (H : Type) → List (DataW H) → Bool := fun _ ds => decide (uptoBulkAll ds ≤ 1048576)
def OpenSpec.upto (s : _root_.Go.ChangeSpec) : _root_.Go.OpenSpec := { _root_.Go.OpenSpec.ofChange s with cond := some uptoSmall }

/-- 'olivettelaw08.ParityAttracts', WHERE WHAT IT READS IS OF BULK AT MOST 1048576: true; the input reads as it did. -/
def parityAttractsUptoRow : OpenClaim := { program := "ytmeajfgjbebkiaa", sum := "0192c65177918255e5f8fd182ae437fb49078339ab9b421a08c66e0f47096be6", func := "olivette/olivettelaw08.ParityAttracts", spec := "parityAttracts", unfollowed := true, recurses := true, apart := false, narrowed := true }
def ParityAttractsUptoSaid : Prop := parityAttractsUptoRow.holds Try.pinned (OpenSpec.upto parityAttractsSpec)

/-- 'olivettelaw08.ParityPlays', WHERE WHAT IT READS IS OF BULK AT MOST 1048576: true; the input reads as it did. -/
def parityPlaysUptoRow : OpenClaim := { program := "ytmeajfgjbebkiaa", sum := "0192c65177918255e5f8fd182ae437fb49078339ab9b421a08c66e0f47096be6", func := "olivette/olivettelaw08.ParityPlays", spec := "parityPlays", unfollowed := true, recurses := true, apart := false, narrowed := true }
def ParityPlaysUptoSaid : Prop := parityPlaysUptoRow.holds Try.pinned (OpenSpec.upto parityPlaysSpec)

/-- 'olivettelaw08.ParityRegions', WHERE WHAT IT READS IS OF BULK AT MOST 1048576: true; the input reads as it did. -/
def parityRegionsUptoRow : OpenClaim := { program := "ytmeajfgjbebkiaa", sum := "0192c65177918255e5f8fd182ae437fb49078339ab9b421a08c66e0f47096be6", func := "olivette/olivettelaw08.ParityRegions", spec := "parityRegions", unfollowed := true, recurses := true, apart := false, narrowed := true }
def ParityRegionsUptoSaid : Prop := parityRegionsUptoRow.holds Try.pinned (OpenSpec.upto parityRegionsSpec)

/-- 'olivettelaw08.ParityMore', WHERE WHAT IT READS IS OF BULK AT MOST 1048576: true; the input reads as it did. -/
def parityMoreUptoRow : OpenClaim := { program := "ytmeajfgjbebkiaa", sum := "0192c65177918255e5f8fd182ae437fb49078339ab9b421a08c66e0f47096be6", func := "olivette/olivettelaw08.ParityMore", spec := "parityMore", unfollowed := true, recurses := true, apart := false, narrowed := true }
def ParityMoreUptoSaid : Prop := parityMoreUptoRow.holds Try.pinned (OpenSpec.upto parityMoreSpec)

/-- 'olivettelaw08.ParityPlayed', WHERE WHAT IT READS IS OF BULK AT MOST 1048576: true; the input reads as it did. -/
def parityPlayedUptoRow : OpenClaim := { program := "ytmeajfgjbebkiaa", sum := "0192c65177918255e5f8fd182ae437fb49078339ab9b421a08c66e0f47096be6", func := "olivette/olivettelaw08.ParityPlayed", spec := "parityPlayed", unfollowed := true, recurses := true, apart := false, narrowed := true }
def ParityPlayedUptoSaid : Prop := parityPlayedUptoRow.holds Try.pinned (OpenSpec.upto parityPlayedSpec)

/-- 'olivettelaw08.ParityTurns', WHERE WHAT IT READS IS OF BULK AT MOST 1048576: true; the input reads as it did. -/
def parityTurnsUptoRow : OpenClaim := { program := "ytmeajfgjbebkiaa", sum := "0192c65177918255e5f8fd182ae437fb49078339ab9b421a08c66e0f47096be6", func := "olivette/olivettelaw08.ParityTurns", spec := "parityTurns", unfollowed := true, recurses := true, apart := false, narrowed := true }
def ParityTurnsUptoSaid : Prop := parityTurnsUptoRow.holds Try.pinned (OpenSpec.upto parityTurnsSpec)

/-- 'olivettelaw08.ParityOwn', WHERE WHAT IT READS IS OF BULK AT MOST 1048576: true; the input reads as it did. -/
def parityOwnUptoRow : OpenClaim := { program := "ytmeajfgjbebkiaa", sum := "0192c65177918255e5f8fd182ae437fb49078339ab9b421a08c66e0f47096be6", func := "olivette/olivettelaw08.ParityOwn", spec := "parityOwn", unfollowed := true, recurses := true, apart := false, narrowed := true }
def ParityOwnUptoSaid : Prop := parityOwnUptoRow.holds Try.pinned (OpenSpec.upto parityOwnSpec)

/-- 'olivettelaw08.ParityBeats', WHERE WHAT IT READS IS OF BULK AT MOST 1048576: true; the input reads as it did. -/
def parityBeatsUptoRow : OpenClaim := { program := "ytmeajfgjbebkiaa", sum := "0192c65177918255e5f8fd182ae437fb49078339ab9b421a08c66e0f47096be6", func := "olivette/olivettelaw08.ParityBeats", spec := "parityBeats", unfollowed := true, recurses := true, apart := false, narrowed := true }
def ParityBeatsUptoSaid : Prop := parityBeatsUptoRow.holds Try.pinned (OpenSpec.upto parityBeatsSpec)

/-- 'olivettelaw08.ParityBest', WHERE WHAT IT READS IS OF BULK AT MOST 1048576: true; the input reads as it did. -/
def parityBestUptoRow : OpenClaim := { program := "ytmeajfgjbebkiaa", sum := "0192c65177918255e5f8fd182ae437fb49078339ab9b421a08c66e0f47096be6", func := "olivette/olivettelaw08.ParityBest", spec := "parityBest", unfollowed := true, recurses := true, apart := false, narrowed := true }
def ParityBestUptoSaid : Prop := parityBestUptoRow.holds Try.pinned (OpenSpec.upto parityBestSpec)

/-- 'olivettelaw08.ParitySolves', WHERE WHAT IT READS IS OF BULK AT MOST 1048576: true; the input reads as it did. -/
def paritySolvesUptoRow : OpenClaim := { program := "ytmeajfgjbebkiaa", sum := "0192c65177918255e5f8fd182ae437fb49078339ab9b421a08c66e0f47096be6", func := "olivette/olivettelaw08.ParitySolves", spec := "paritySolves", unfollowed := true, recurses := true, apart := false, narrowed := true }
def ParitySolvesUptoSaid : Prop := paritySolvesUptoRow.holds Try.pinned (OpenSpec.upto paritySolvesSpec)

/-- 'olivettelaw08.ParityChecks', WHERE WHAT IT READS IS OF BULK AT MOST 1048576: true; the input reads as it did. -/
def parityChecksUptoRow : OpenClaim := { program := "ytmeajfgjbebkiaa", sum := "0192c65177918255e5f8fd182ae437fb49078339ab9b421a08c66e0f47096be6", func := "olivette/olivettelaw08.ParityChecks", spec := "parityChecks", unfollowed := true, recurses := true, apart := false, narrowed := true }
def ParityChecksUptoSaid : Prop := parityChecksUptoRow.holds Try.pinned (OpenSpec.upto parityChecksSpec)

/-- 'olivettelaw08.ParityOnce', WHERE WHAT IT READS IS OF BULK AT MOST 1048576: true; the input reads as it did. -/
def parityOnceUptoRow : OpenClaim := { program := "ytmeajfgjbebkiaa", sum := "0192c65177918255e5f8fd182ae437fb49078339ab9b421a08c66e0f47096be6", func := "olivette/olivettelaw08.ParityOnce", spec := "parityOnce", unfollowed := true, recurses := true, apart := false, narrowed := true }
def ParityOnceUptoSaid : Prop := parityOnceUptoRow.holds Try.pinned (OpenSpec.upto parityOnceSpec)

/-- 'olivettelaw08.ParityTurned', WHERE WHAT IT READS IS OF BULK AT MOST 1048576: true; the input reads as it did. -/
def parityTurnedUptoRow : OpenClaim := { program := "ytmeajfgjbebkiaa", sum := "0192c65177918255e5f8fd182ae437fb49078339ab9b421a08c66e0f47096be6", func := "olivette/olivettelaw08.ParityTurned", spec := "parityTurned", unfollowed := true, recurses := true, apart := false, narrowed := true }
def ParityTurnedUptoSaid : Prop := parityTurnedUptoRow.holds Try.pinned (OpenSpec.upto parityTurnedSpec)

end Rows
end Go.Proofs.Ytmeajfgjbebkiaa
