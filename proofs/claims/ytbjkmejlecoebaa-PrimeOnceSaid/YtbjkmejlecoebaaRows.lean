/-
  No cell of these rows narrows 'for every input' (looked for: loops, veiled, ifaces, maps, wideKeys, modest, calm, conditions, laid).
  DERIVED. THE GIVEN ROWS OF THIS SEAT. 13 by the template 'for every input the law returns true; each argument reads behind the call as it read before'; 0 by the template 'total and deterministic' (their statements: YtbjkmejlecoebaaTotals.lean).
  GIVEN WITH THE SEED: the statements are not yours to turn. If you find one false, say at which input.
  Laid BY PROGRAM, IN A SANDBOX (cutbox-rows.mjs): the forced cells as the released guide's own fill.sh prints them over the translation 3ec46dec951e175c… (all of the seat's roots in one cut). By AI agents, Wed Nov 11 2026. No macro, syntax, notation, axiom, sorry.
-/
import Derived.Test.YtbjkmejlecoebaaChecked
import GoSem.Claim
import GoSem.ClaimJoined
import GoSem.ClaimMapViews
import Derived.JoinedTies
import Derived.KernelRfl
namespace Go.Proofs.Ytbjkmejlecoebaa
/- THE CELL 'sum', in the pinned program and in every row, IS THE sha256 OF THE DUMP (.gsa) THAT YtbjkmejlecoebaaProg.lean LOADS. Nothing in Lean hashes anything: it is a label: what it is worth is what the hold of that sum in a sandbox is worth. -/
noncomputable def Try.pinned : Pinned := { name := "ytbjkmejlecoebaa", sum := "3ec46dec951e175c1d4ea3a5c8a2e906020c4e591e5c219559dbd5e5a1e7880e", checked := Try.checked }
namespace Rows
def none {H : Type} : Left H := { results := [], args := [] }

/-- 'olivettelaw01.PrimeFactors': WHATEVER THE INPUT: true; the input reads as it did. -/
def primeFactorsSpec : ChangeSpec := { name := "primeFactors", fn := fun _ => fun
  | [d] => { results := [.lit (.bool true)], args := [d] }
  | _ => none }
def primeFactorsRow : OpenClaim := { program := "ytbjkmejlecoebaa", sum := "3ec46dec951e175c1d4ea3a5c8a2e906020c4e591e5c219559dbd5e5a1e7880e", func := "olivette/olivettelaw01.PrimeFactors", spec := "primeFactors", unfollowed := true, recurses := true, apart := false }
def PrimeFactorsSaid : Prop := primeFactorsRow.holds Try.pinned (OpenSpec.ofChange primeFactorsSpec)

/-- ITS FALSE NEIGHBOUR: 'it returns false'. Refute it at one input. -/
def primeFactorsWrong : ChangeSpec := { name := "primeFactors", fn := fun _ => fun
  | [d] => { results := [.lit (.bool false)], args := [d] }
  | _ => none }
def PrimeFactorsWrongFalsely : Prop := primeFactorsRow.holds Try.pinned (OpenSpec.ofChange primeFactorsWrong)

/-- 'olivettelaw01.PrimeRoots': WHATEVER THE INPUT: true; the input reads as it did. -/
def primeRootsSpec : ChangeSpec := { name := "primeRoots", fn := fun _ => fun
  | [d1, d2] => { results := [.lit (.bool true)], args := [d1, d2] }
  | _ => none }
def primeRootsRow : OpenClaim := { program := "ytbjkmejlecoebaa", sum := "3ec46dec951e175c1d4ea3a5c8a2e906020c4e591e5c219559dbd5e5a1e7880e", func := "olivette/olivettelaw01.PrimeRoots", spec := "primeRoots", unfollowed := true, recurses := true, apart := false }
def PrimeRootsSaid : Prop := primeRootsRow.holds Try.pinned (OpenSpec.ofChange primeRootsSpec)

/-- ITS FALSE NEIGHBOUR: 'it returns false'. Refute it at one input. -/
def primeRootsWrong : ChangeSpec := { name := "primeRoots", fn := fun _ => fun
  | [d1, d2] => { results := [.lit (.bool false)], args := [d1, d2] }
  | _ => none }
def PrimeRootsWrongFalsely : Prop := primeRootsRow.holds Try.pinned (OpenSpec.ofChange primeRootsWrong)

/-- 'olivettelaw01.PrimeLogs': WHATEVER THE INPUT: true; the input reads as it did. -/
def primeLogsSpec : ChangeSpec := { name := "primeLogs", fn := fun _ => fun
  | [d1, d2, d3] => { results := [.lit (.bool true)], args := [d1, d2, d3] }
  | _ => none }
def primeLogsRow : OpenClaim := { program := "ytbjkmejlecoebaa", sum := "3ec46dec951e175c1d4ea3a5c8a2e906020c4e591e5c219559dbd5e5a1e7880e", func := "olivette/olivettelaw01.PrimeLogs", spec := "primeLogs", unfollowed := true, recurses := true, apart := false }
def PrimeLogsSaid : Prop := primeLogsRow.holds Try.pinned (OpenSpec.ofChange primeLogsSpec)

/-- ITS FALSE NEIGHBOUR: 'it returns false'. Refute it at one input. -/
def primeLogsWrong : ChangeSpec := { name := "primeLogs", fn := fun _ => fun
  | [d1, d2, d3] => { results := [.lit (.bool false)], args := [d1, d2, d3] }
  | _ => none }
def PrimeLogsWrongFalsely : Prop := primeLogsRow.holds Try.pinned (OpenSpec.ofChange primeLogsWrong)

/-- 'olivettelaw01.PrimeCommon': WHATEVER THE INPUT: true; the input reads as it did. -/
def primeCommonSpec : ChangeSpec := { name := "primeCommon", fn := fun _ => fun
  | [d1, d2] => { results := [.lit (.bool true)], args := [d1, d2] }
  | _ => none }
def primeCommonRow : OpenClaim := { program := "ytbjkmejlecoebaa", sum := "3ec46dec951e175c1d4ea3a5c8a2e906020c4e591e5c219559dbd5e5a1e7880e", func := "olivette/olivettelaw01.PrimeCommon", spec := "primeCommon", unfollowed := true, recurses := true, apart := false }
def PrimeCommonSaid : Prop := primeCommonRow.holds Try.pinned (OpenSpec.ofChange primeCommonSpec)

/-- ITS FALSE NEIGHBOUR: 'it returns false'. Refute it at one input. -/
def primeCommonWrong : ChangeSpec := { name := "primeCommon", fn := fun _ => fun
  | [d1, d2] => { results := [.lit (.bool false)], args := [d1, d2] }
  | _ => none }
def PrimeCommonWrongFalsely : Prop := primeCommonRow.holds Try.pinned (OpenSpec.ofChange primeCommonWrong)

/-- 'olivettelaw01.PrimeJoins': WHATEVER THE INPUT: true; the input reads as it did. -/
def primeJoinsSpec : ChangeSpec := { name := "primeJoins", fn := fun _ => fun
  | [d1, d2] => { results := [.lit (.bool true)], args := [d1, d2] }
  | _ => none }
def primeJoinsRow : OpenClaim := { program := "ytbjkmejlecoebaa", sum := "3ec46dec951e175c1d4ea3a5c8a2e906020c4e591e5c219559dbd5e5a1e7880e", func := "olivette/olivettelaw01.PrimeJoins", spec := "primeJoins", unfollowed := true, recurses := true, apart := false }
def PrimeJoinsSaid : Prop := primeJoinsRow.holds Try.pinned (OpenSpec.ofChange primeJoinsSpec)

/-- ITS FALSE NEIGHBOUR: 'it returns false'. Refute it at one input. -/
def primeJoinsWrong : ChangeSpec := { name := "primeJoins", fn := fun _ => fun
  | [d1, d2] => { results := [.lit (.bool false)], args := [d1, d2] }
  | _ => none }
def PrimeJoinsWrongFalsely : Prop := primeJoinsRow.holds Try.pinned (OpenSpec.ofChange primeJoinsWrong)

/-- 'olivettelaw01.PrimeRests': WHATEVER THE INPUT: true; the input reads as it did. -/
def primeRestsSpec : ChangeSpec := { name := "primeRests", fn := fun _ => fun
  | [d1, d2] => { results := [.lit (.bool true)], args := [d1, d2] }
  | _ => none }
def primeRestsRow : OpenClaim := { program := "ytbjkmejlecoebaa", sum := "3ec46dec951e175c1d4ea3a5c8a2e906020c4e591e5c219559dbd5e5a1e7880e", func := "olivette/olivettelaw01.PrimeRests", spec := "primeRests", unfollowed := true, recurses := true, apart := false }
def PrimeRestsSaid : Prop := primeRestsRow.holds Try.pinned (OpenSpec.ofChange primeRestsSpec)

/-- ITS FALSE NEIGHBOUR: 'it returns false'. Refute it at one input. -/
def primeRestsWrong : ChangeSpec := { name := "primeRests", fn := fun _ => fun
  | [d1, d2] => { results := [.lit (.bool false)], args := [d1, d2] }
  | _ => none }
def PrimeRestsWrongFalsely : Prop := primeRestsRow.holds Try.pinned (OpenSpec.ofChange primeRestsWrong)

/-- 'olivettelaw01.PrimeOwn': WHATEVER THE INPUT: true; the input reads as it did. -/
def primeOwnSpec : ChangeSpec := { name := "primeOwn", fn := fun _ => fun
  | [d1, d2, d3] => { results := [.lit (.bool true)], args := [d1, d2, d3] }
  | _ => none }
def primeOwnRow : OpenClaim := { program := "ytbjkmejlecoebaa", sum := "3ec46dec951e175c1d4ea3a5c8a2e906020c4e591e5c219559dbd5e5a1e7880e", func := "olivette/olivettelaw01.PrimeOwn", spec := "primeOwn", unfollowed := true, recurses := true, apart := false }
def PrimeOwnSaid : Prop := primeOwnRow.holds Try.pinned (OpenSpec.ofChange primeOwnSpec)

/-- ITS FALSE NEIGHBOUR: 'it returns false'. Refute it at one input. -/
def primeOwnWrong : ChangeSpec := { name := "primeOwn", fn := fun _ => fun
  | [d1, d2, d3] => { results := [.lit (.bool false)], args := [d1, d2, d3] }
  | _ => none }
def PrimeOwnWrongFalsely : Prop := primeOwnRow.holds Try.pinned (OpenSpec.ofChange primeOwnWrong)

/-- 'olivettelaw01.PrimeGenerators': WHATEVER THE INPUT: true; the input reads as it did. -/
def primeGeneratorsSpec : ChangeSpec := { name := "primeGenerators", fn := fun _ => fun
  | [d] => { results := [.lit (.bool true)], args := [d] }
  | _ => none }
def primeGeneratorsRow : OpenClaim := { program := "ytbjkmejlecoebaa", sum := "3ec46dec951e175c1d4ea3a5c8a2e906020c4e591e5c219559dbd5e5a1e7880e", func := "olivette/olivettelaw01.PrimeGenerators", spec := "primeGenerators", unfollowed := true, recurses := true, apart := false }
def PrimeGeneratorsSaid : Prop := primeGeneratorsRow.holds Try.pinned (OpenSpec.ofChange primeGeneratorsSpec)

/-- ITS FALSE NEIGHBOUR: 'it returns false'. Refute it at one input. -/
def primeGeneratorsWrong : ChangeSpec := { name := "primeGenerators", fn := fun _ => fun
  | [d] => { results := [.lit (.bool false)], args := [d] }
  | _ => none }
def PrimeGeneratorsWrongFalsely : Prop := primeGeneratorsRow.holds Try.pinned (OpenSpec.ofChange primeGeneratorsWrong)

/-- 'olivettelaw01.PrimePowers': WHATEVER THE INPUT: true; the input reads as it did. -/
def primePowersSpec : ChangeSpec := { name := "primePowers", fn := fun _ => fun
  | [d1, d2, d3] => { results := [.lit (.bool true)], args := [d1, d2, d3] }
  | _ => none }
def primePowersRow : OpenClaim := { program := "ytbjkmejlecoebaa", sum := "3ec46dec951e175c1d4ea3a5c8a2e906020c4e591e5c219559dbd5e5a1e7880e", func := "olivette/olivettelaw01.PrimePowers", spec := "primePowers", unfollowed := true, recurses := true, apart := false }
def PrimePowersSaid : Prop := primePowersRow.holds Try.pinned (OpenSpec.ofChange primePowersSpec)

/-- ITS FALSE NEIGHBOUR: 'it returns false'. Refute it at one input. -/
def primePowersWrong : ChangeSpec := { name := "primePowers", fn := fun _ => fun
  | [d1, d2, d3] => { results := [.lit (.bool false)], args := [d1, d2, d3] }
  | _ => none }
def PrimePowersWrongFalsely : Prop := primePowersRow.holds Try.pinned (OpenSpec.ofChange primePowersWrong)

/-- 'olivettelaw01.PrimeGroup': WHATEVER THE INPUT: true; the input reads as it did. -/
def primeGroupSpec : ChangeSpec := { name := "primeGroup", fn := fun _ => fun
  | [d1, d2, d3] => { results := [.lit (.bool true)], args := [d1, d2, d3] }
  | _ => none }
def primeGroupRow : OpenClaim := { program := "ytbjkmejlecoebaa", sum := "3ec46dec951e175c1d4ea3a5c8a2e906020c4e591e5c219559dbd5e5a1e7880e", func := "olivette/olivettelaw01.PrimeGroup", spec := "primeGroup", unfollowed := true, recurses := true, apart := false }
def PrimeGroupSaid : Prop := primeGroupRow.holds Try.pinned (OpenSpec.ofChange primeGroupSpec)

/-- ITS FALSE NEIGHBOUR: 'it returns false'. Refute it at one input. -/
def primeGroupWrong : ChangeSpec := { name := "primeGroup", fn := fun _ => fun
  | [d1, d2, d3] => { results := [.lit (.bool false)], args := [d1, d2, d3] }
  | _ => none }
def PrimeGroupWrongFalsely : Prop := primeGroupRow.holds Try.pinned (OpenSpec.ofChange primeGroupWrong)

/-- 'olivettelaw01.PrimeDecides': WHATEVER THE INPUT: true; the input reads as it did. -/
def primeDecidesSpec : ChangeSpec := { name := "primeDecides", fn := fun _ => fun
  | [d] => { results := [.lit (.bool true)], args := [d] }
  | _ => none }
def primeDecidesRow : OpenClaim := { program := "ytbjkmejlecoebaa", sum := "3ec46dec951e175c1d4ea3a5c8a2e906020c4e591e5c219559dbd5e5a1e7880e", func := "olivette/olivettelaw01.PrimeDecides", spec := "primeDecides", unfollowed := true, recurses := true, apart := false }
def PrimeDecidesSaid : Prop := primeDecidesRow.holds Try.pinned (OpenSpec.ofChange primeDecidesSpec)

/-- ITS FALSE NEIGHBOUR: 'it returns false'. Refute it at one input. -/
def primeDecidesWrong : ChangeSpec := { name := "primeDecides", fn := fun _ => fun
  | [d] => { results := [.lit (.bool false)], args := [d] }
  | _ => none }
def PrimeDecidesWrongFalsely : Prop := primeDecidesRow.holds Try.pinned (OpenSpec.ofChange primeDecidesWrong)

/-- 'olivettelaw01.PrimeChecks': WHATEVER THE INPUT: true; the input reads as it did. -/
def primeChecksSpec : ChangeSpec := { name := "primeChecks", fn := fun _ => fun
  | [d1, d2] => { results := [.lit (.bool true)], args := [d1, d2] }
  | _ => none }
def primeChecksRow : OpenClaim := { program := "ytbjkmejlecoebaa", sum := "3ec46dec951e175c1d4ea3a5c8a2e906020c4e591e5c219559dbd5e5a1e7880e", func := "olivette/olivettelaw01.PrimeChecks", spec := "primeChecks", unfollowed := true, recurses := true, apart := false }
def PrimeChecksSaid : Prop := primeChecksRow.holds Try.pinned (OpenSpec.ofChange primeChecksSpec)

/-- ITS FALSE NEIGHBOUR: 'it returns false'. Refute it at one input. -/
def primeChecksWrong : ChangeSpec := { name := "primeChecks", fn := fun _ => fun
  | [d1, d2] => { results := [.lit (.bool false)], args := [d1, d2] }
  | _ => none }
def PrimeChecksWrongFalsely : Prop := primeChecksRow.holds Try.pinned (OpenSpec.ofChange primeChecksWrong)

/-- 'olivettelaw01.PrimeOnce': WHATEVER THE INPUT: true; the input reads as it did. -/
def primeOnceSpec : ChangeSpec := { name := "primeOnce", fn := fun _ => fun
  | [d1, d2] => { results := [.lit (.bool true)], args := [d1, d2] }
  | _ => none }
def primeOnceRow : OpenClaim := { program := "ytbjkmejlecoebaa", sum := "3ec46dec951e175c1d4ea3a5c8a2e906020c4e591e5c219559dbd5e5a1e7880e", func := "olivette/olivettelaw01.PrimeOnce", spec := "primeOnce", unfollowed := true, recurses := true, apart := false }
def PrimeOnceSaid : Prop := primeOnceRow.holds Try.pinned (OpenSpec.ofChange primeOnceSpec)

/-- ITS FALSE NEIGHBOUR: 'it returns false'. Refute it at one input. -/
def primeOnceWrong : ChangeSpec := { name := "primeOnce", fn := fun _ => fun
  | [d1, d2] => { results := [.lit (.bool false)], args := [d1, d2] }
  | _ => none }
def PrimeOnceWrongFalsely : Prop := primeOnceRow.holds Try.pinned (OpenSpec.ofChange primeOnceWrong)

/- THE SECOND FORM. 'bulk': how many values and letters a reading holds, each counted each time it is reached (what is shared counts as often as it is met; a slice's spare places count too). A statement '..UptoSaid' is the law's where the arguments, and the package variables that the reading takes, are together of bulk at most 1048576: NARROWER than '..Said'. Prove '..Said' where nothing that the law and all that it calls make is longer than what came in: it says more and counts as full. Else prove '..UptoSaid'. A law counts once. -/
mutual
def uptoBulk {H : Type} : DataW H → Nat
  | .lit (.string bytes) => bytes.length + 1
  | .lit _ => 1
  | .nil => 1
  | .ptr d => uptoBulk d + 1
  | .slice elems spare => uptoBulkAll elems + uptoBulkAll spare + 1
  | .agg parts => uptoBulkAll parts + 1
  | .iface _ d => uptoBulk d + 1
  | .map entries => uptoBulkEntries entries + 1
  | .held _ => 1
def uptoBulkAll {H : Type} : List (DataW H) → Nat
  | [] => 0
  | d :: r => uptoBulk d + uptoBulkAll r
def uptoBulkEntries {H : Type} : List (Lit × DataW H) → Nat
  | [] => 0
  | x :: r => uptoBulkEntry x + uptoBulkEntries r
def uptoBulkEntry {H : Type} : Lit × DataW H → Nat
  | (.string bytes, d) => bytes.length + uptoBulk d + 1
  | (_, d) => uptoBulk d + 1
 end
def uptoSmall : (H : Type) → List (DataW H) → Bool := fun _ ds => decide (uptoBulkAll ds ≤ 1048576)
def OpenSpec.upto (s : _root_.Go.ChangeSpec) : _root_.Go.OpenSpec := { _root_.Go.OpenSpec.ofChange s with cond := some uptoSmall }

/-- 'olivettelaw01.PrimeFactors', WHERE WHAT IT READS IS OF BULK AT MOST 1048576: true; the input reads as it did. -/
def primeFactorsUptoRow : OpenClaim := { program := "ytbjkmejlecoebaa", sum := "3ec46dec951e175c1d4ea3a5c8a2e906020c4e591e5c219559dbd5e5a1e7880e", func := "olivette/olivettelaw01.PrimeFactors", spec := "primeFactors", unfollowed := true, recurses := true, apart := false, narrowed := true }
def PrimeFactorsUptoSaid : Prop := primeFactorsUptoRow.holds Try.pinned (OpenSpec.upto primeFactorsSpec)

/-- 'olivettelaw01.PrimeRoots', WHERE WHAT IT READS IS OF BULK AT MOST 1048576: true; the input reads as it did. -/
def primeRootsUptoRow : OpenClaim := { program := "ytbjkmejlecoebaa", sum := "3ec46dec951e175c1d4ea3a5c8a2e906020c4e591e5c219559dbd5e5a1e7880e", func := "olivette/olivettelaw01.PrimeRoots", spec := "primeRoots", unfollowed := true, recurses := true, apart := false, narrowed := true }
def PrimeRootsUptoSaid : Prop := primeRootsUptoRow.holds Try.pinned (OpenSpec.upto primeRootsSpec)

/-- 'olivettelaw01.PrimeLogs', WHERE WHAT IT READS IS OF BULK AT MOST 1048576: true; the input reads as it did. -/
def primeLogsUptoRow : OpenClaim := { program := "ytbjkmejlecoebaa", sum := "3ec46dec951e175c1d4ea3a5c8a2e906020c4e591e5c219559dbd5e5a1e7880e", func := "olivette/olivettelaw01.PrimeLogs", spec := "primeLogs", unfollowed := true, recurses := true, apart := false, narrowed := true }
def PrimeLogsUptoSaid : Prop := primeLogsUptoRow.holds Try.pinned (OpenSpec.upto primeLogsSpec)

/-- 'olivettelaw01.PrimeCommon', WHERE WHAT IT READS IS OF BULK AT MOST 1048576: true; the input reads as it did. -/
def primeCommonUptoRow : OpenClaim := { program := "ytbjkmejlecoebaa", sum := "3ec46dec951e175c1d4ea3a5c8a2e906020c4e591e5c219559dbd5e5a1e7880e", func := "olivette/olivettelaw01.PrimeCommon", spec := "primeCommon", unfollowed := true, recurses := true, apart := false, narrowed := true }
def PrimeCommonUptoSaid : Prop := primeCommonUptoRow.holds Try.pinned (OpenSpec.upto primeCommonSpec)

/-- 'olivettelaw01.PrimeJoins', WHERE WHAT IT READS IS OF BULK AT MOST 1048576: true; the input reads as it did. -/
def primeJoinsUptoRow : OpenClaim := { program := "ytbjkmejlecoebaa", sum := "3ec46dec951e175c1d4ea3a5c8a2e906020c4e591e5c219559dbd5e5a1e7880e", func := "olivette/olivettelaw01.PrimeJoins", spec := "primeJoins", unfollowed := true, recurses := true, apart := false, narrowed := true }
def PrimeJoinsUptoSaid : Prop := primeJoinsUptoRow.holds Try.pinned (OpenSpec.upto primeJoinsSpec)

/-- 'olivettelaw01.PrimeRests', WHERE WHAT IT READS IS OF BULK AT MOST 1048576: true; the input reads as it did. -/
def primeRestsUptoRow : OpenClaim := { program := "ytbjkmejlecoebaa", sum := "3ec46dec951e175c1d4ea3a5c8a2e906020c4e591e5c219559dbd5e5a1e7880e", func := "olivette/olivettelaw01.PrimeRests", spec := "primeRests", unfollowed := true, recurses := true, apart := false, narrowed := true }
def PrimeRestsUptoSaid : Prop := primeRestsUptoRow.holds Try.pinned (OpenSpec.upto primeRestsSpec)

/-- 'olivettelaw01.PrimeOwn', WHERE WHAT IT READS IS OF BULK AT MOST 1048576: true; the input reads as it did. -/
def primeOwnUptoRow : OpenClaim := { program := "ytbjkmejlecoebaa", sum := "3ec46dec951e175c1d4ea3a5c8a2e906020c4e591e5c219559dbd5e5a1e7880e", func := "olivette/olivettelaw01.PrimeOwn", spec := "primeOwn", unfollowed := true, recurses := true, apart := false, narrowed := true }
def PrimeOwnUptoSaid : Prop := primeOwnUptoRow.holds Try.pinned (OpenSpec.upto primeOwnSpec)

/-- 'olivettelaw01.PrimeGenerators', WHERE WHAT IT READS IS OF BULK AT MOST 1048576: true; the input reads as it did. -/
def primeGeneratorsUptoRow : OpenClaim := { program := "ytbjkmejlecoebaa", sum := "3ec46dec951e175c1d4ea3a5c8a2e906020c4e591e5c219559dbd5e5a1e7880e", func := "olivette/olivettelaw01.PrimeGenerators", spec := "primeGenerators", unfollowed := true, recurses := true, apart := false, narrowed := true }
def PrimeGeneratorsUptoSaid : Prop := primeGeneratorsUptoRow.holds Try.pinned (OpenSpec.upto primeGeneratorsSpec)

/-- 'olivettelaw01.PrimePowers', WHERE WHAT IT READS IS OF BULK AT MOST 1048576: true; the input reads as it did. -/
def primePowersUptoRow : OpenClaim := { program := "ytbjkmejlecoebaa", sum := "3ec46dec951e175c1d4ea3a5c8a2e906020c4e591e5c219559dbd5e5a1e7880e", func := "olivette/olivettelaw01.PrimePowers", spec := "primePowers", unfollowed := true, recurses := true, apart := false, narrowed := true }
def PrimePowersUptoSaid : Prop := primePowersUptoRow.holds Try.pinned (OpenSpec.upto primePowersSpec)

/-- 'olivettelaw01.PrimeGroup', WHERE WHAT IT READS IS OF BULK AT MOST 1048576: true; the input reads as it did. -/
def primeGroupUptoRow : OpenClaim := { program := "ytbjkmejlecoebaa", sum := "3ec46dec951e175c1d4ea3a5c8a2e906020c4e591e5c219559dbd5e5a1e7880e", func := "olivette/olivettelaw01.PrimeGroup", spec := "primeGroup", unfollowed := true, recurses := true, apart := false, narrowed := true }
def PrimeGroupUptoSaid : Prop := primeGroupUptoRow.holds Try.pinned (OpenSpec.upto primeGroupSpec)

/-- 'olivettelaw01.PrimeDecides', WHERE WHAT IT READS IS OF BULK AT MOST 1048576: true; the input reads as it did. -/
def primeDecidesUptoRow : OpenClaim := { program := "ytbjkmejlecoebaa", sum := "3ec46dec951e175c1d4ea3a5c8a2e906020c4e591e5c219559dbd5e5a1e7880e", func := "olivette/olivettelaw01.PrimeDecides", spec := "primeDecides", unfollowed := true, recurses := true, apart := false, narrowed := true }
def PrimeDecidesUptoSaid : Prop := primeDecidesUptoRow.holds Try.pinned (OpenSpec.upto primeDecidesSpec)

/-- 'olivettelaw01.PrimeChecks', WHERE WHAT IT READS IS OF BULK AT MOST 1048576: true; the input reads as it did. -/
def primeChecksUptoRow : OpenClaim := { program := "ytbjkmejlecoebaa", sum := "3ec46dec951e175c1d4ea3a5c8a2e906020c4e591e5c219559dbd5e5a1e7880e", func := "olivette/olivettelaw01.PrimeChecks", spec := "primeChecks", unfollowed := true, recurses := true, apart := false, narrowed := true }
def PrimeChecksUptoSaid : Prop := primeChecksUptoRow.holds Try.pinned (OpenSpec.upto primeChecksSpec)

/-- 'olivettelaw01.PrimeOnce', WHERE WHAT IT READS IS OF BULK AT MOST 1048576: true; the input reads as it did. -/
def primeOnceUptoRow : OpenClaim := { program := "ytbjkmejlecoebaa", sum := "3ec46dec951e175c1d4ea3a5c8a2e906020c4e591e5c219559dbd5e5a1e7880e", func := "olivette/olivettelaw01.PrimeOnce", spec := "primeOnce", unfollowed := true, recurses := true, apart := false, narrowed := true }
def PrimeOnceUptoSaid : Prop := primeOnceUptoRow.holds Try.pinned (OpenSpec.upto primeOnceSpec)

end Rows
end Go.Proofs.Ytbjkmejlecoebaa
