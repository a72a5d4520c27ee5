/-
  No cell of these rows narrows 'for every input' (looked for: loops, veiled, ifaces, maps, wideKeys, modest, calm, conditions, laid).
  DERIVED. THE GIVEN ROWS OF THIS SEAT. 15 by the template 'for every input the law returns true; each argument reads behind the call as it read before'; 0 by the template 'total and deterministic' (their statements: YtmegimhfoedcdaaTotals.lean).
  GIVEN WITH THE SEED: the statements are not yours to turn. If you find one false, say at which input.
  Laid BY PROGRAM, IN A SANDBOX (cutbox-rows.mjs): the forced cells as the released guide's own fill.sh prints them over the translation 71d41a12c02a0e66… (all of the seat's roots in one cut). By AI agents, Wed Nov 11 2026. No macro, syntax, notation, axiom, sorry.
-/
import Derived.Test.YtmegimhfoedcdaaChecked
import GoSem.Claim
import GoSem.ClaimJoined
import GoSem.ClaimMapViews
import Derived.JoinedTies
import Derived.KernelRfl
namespace Go.Proofs.Ytmegimhfoedcdaa
/- THE CELL 'sum', in the pinned program and in every row, IS THE sha256 OF THE DUMP (.gsa) THAT YtmegimhfoedcdaaProg.lean LOADS. Nothing in Lean hashes anything: it is a label: what it is worth is what the hold of that sum in a sandbox is worth. -/
noncomputable def Try.pinned : Pinned := { name := "ytmegimhfoedcdaa", sum := "71d41a12c02a0e664c644999c43078eec8491cac07784e1143093872eaf93a11", checked := Try.checked }
namespace Rows
def none {H : Type} : Left H := { results := [], args := [] }

/-- 'olivettelaw09.ChipsReduces': WHATEVER THE INPUT: true; the input reads as it did. -/
def chipsReducesSpec : ChangeSpec := { name := "chipsReduces", fn := fun _ => fun
  | [d1, d2, d3] => { results := [.lit (.bool true)], args := [d1, d2, d3] }
  | _ => none }
def chipsReducesRow : OpenClaim := { program := "ytmegimhfoedcdaa", sum := "71d41a12c02a0e664c644999c43078eec8491cac07784e1143093872eaf93a11", func := "olivette/olivettelaw09.ChipsReduces", spec := "chipsReduces", unfollowed := true, recurses := true, apart := false }
def ChipsReducesSaid : Prop := chipsReducesRow.holds Try.pinned (OpenSpec.ofChange chipsReducesSpec)

/-- ITS FALSE NEIGHBOUR: 'it returns false'. Refute it at one input. -/
def chipsReducesWrong : ChangeSpec := { name := "chipsReduces", fn := fun _ => fun
  | [d1, d2, d3] => { results := [.lit (.bool false)], args := [d1, d2, d3] }
  | _ => none }
def ChipsReducesWrongFalsely : Prop := chipsReducesRow.holds Try.pinned (OpenSpec.ofChange chipsReducesWrong)

/-- 'olivettelaw09.ChipsNumbers': WHATEVER THE INPUT: true; the input reads as it did. -/
def chipsNumbersSpec : ChangeSpec := { name := "chipsNumbers", fn := fun _ => fun
  | [d1, d2] => { results := [.lit (.bool true)], args := [d1, d2] }
  | _ => none }
def chipsNumbersRow : OpenClaim := { program := "ytmegimhfoedcdaa", sum := "71d41a12c02a0e664c644999c43078eec8491cac07784e1143093872eaf93a11", func := "olivette/olivettelaw09.ChipsNumbers", spec := "chipsNumbers", unfollowed := true, recurses := true, apart := false }
def ChipsNumbersSaid : Prop := chipsNumbersRow.holds Try.pinned (OpenSpec.ofChange chipsNumbersSpec)

/-- ITS FALSE NEIGHBOUR: 'it returns false'. Refute it at one input. -/
def chipsNumbersWrong : ChangeSpec := { name := "chipsNumbers", fn := fun _ => fun
  | [d1, d2] => { results := [.lit (.bool false)], args := [d1, d2] }
  | _ => none }
def ChipsNumbersWrongFalsely : Prop := chipsNumbersRow.holds Try.pinned (OpenSpec.ofChange chipsNumbersWrong)

/-- 'olivettelaw09.ChipsClasses': WHATEVER THE INPUT: true; the input reads as it did. -/
def chipsClassesSpec : ChangeSpec := { name := "chipsClasses", fn := fun _ => fun
  | [d1, d2] => { results := [.lit (.bool true)], args := [d1, d2] }
  | _ => none }
def chipsClassesRow : OpenClaim := { program := "ytmegimhfoedcdaa", sum := "71d41a12c02a0e664c644999c43078eec8491cac07784e1143093872eaf93a11", func := "olivette/olivettelaw09.ChipsClasses", spec := "chipsClasses", unfollowed := true, recurses := true, apart := false }
def ChipsClassesSaid : Prop := chipsClassesRow.holds Try.pinned (OpenSpec.ofChange chipsClassesSpec)

/-- ITS FALSE NEIGHBOUR: 'it returns false'. Refute it at one input. -/
def chipsClassesWrong : ChangeSpec := { name := "chipsClasses", fn := fun _ => fun
  | [d1, d2] => { results := [.lit (.bool false)], args := [d1, d2] }
  | _ => none }
def ChipsClassesWrongFalsely : Prop := chipsClassesRow.holds Try.pinned (OpenSpec.ofChange chipsClassesWrong)

/-- 'olivettelaw09.ChipsPeriods': WHATEVER THE INPUT: true; the input reads as it did. -/
def chipsPeriodsSpec : ChangeSpec := { name := "chipsPeriods", fn := fun _ => fun
  | [d1, d2] => { results := [.lit (.bool true)], args := [d1, d2] }
  | _ => none }
def chipsPeriodsRow : OpenClaim := { program := "ytmegimhfoedcdaa", sum := "71d41a12c02a0e664c644999c43078eec8491cac07784e1143093872eaf93a11", func := "olivette/olivettelaw09.ChipsPeriods", spec := "chipsPeriods", unfollowed := true, recurses := true, apart := false }
def ChipsPeriodsSaid : Prop := chipsPeriodsRow.holds Try.pinned (OpenSpec.ofChange chipsPeriodsSpec)

/-- ITS FALSE NEIGHBOUR: 'it returns false'. Refute it at one input. -/
def chipsPeriodsWrong : ChangeSpec := { name := "chipsPeriods", fn := fun _ => fun
  | [d1, d2] => { results := [.lit (.bool false)], args := [d1, d2] }
  | _ => none }
def ChipsPeriodsWrongFalsely : Prop := chipsPeriodsRow.holds Try.pinned (OpenSpec.ofChange chipsPeriodsWrong)

/-- 'olivettelaw09.ChipsApplies': WHATEVER THE INPUT: true; the input reads as it did. -/
def chipsAppliesSpec : ChangeSpec := { name := "chipsApplies", fn := fun _ => fun
  | [d1, d2, d3] => { results := [.lit (.bool true)], args := [d1, d2, d3] }
  | _ => none }
def chipsAppliesRow : OpenClaim := { program := "ytmegimhfoedcdaa", sum := "71d41a12c02a0e664c644999c43078eec8491cac07784e1143093872eaf93a11", func := "olivette/olivettelaw09.ChipsApplies", spec := "chipsApplies", unfollowed := true, recurses := true, apart := false }
def ChipsAppliesSaid : Prop := chipsAppliesRow.holds Try.pinned (OpenSpec.ofChange chipsAppliesSpec)

/-- ITS FALSE NEIGHBOUR: 'it returns false'. Refute it at one input. -/
def chipsAppliesWrong : ChangeSpec := { name := "chipsApplies", fn := fun _ => fun
  | [d1, d2, d3] => { results := [.lit (.bool false)], args := [d1, d2, d3] }
  | _ => none }
def ChipsAppliesWrongFalsely : Prop := chipsAppliesRow.holds Try.pinned (OpenSpec.ofChange chipsAppliesWrong)

/-- 'olivettelaw09.ChipsMoves': WHATEVER THE INPUT: true; the input reads as it did. -/
def chipsMovesSpec : ChangeSpec := { name := "chipsMoves", fn := fun _ => fun
  | [d1, d2, d3] => { results := [.lit (.bool true)], args := [d1, d2, d3] }
  | _ => none }
def chipsMovesRow : OpenClaim := { program := "ytmegimhfoedcdaa", sum := "71d41a12c02a0e664c644999c43078eec8491cac07784e1143093872eaf93a11", func := "olivette/olivettelaw09.ChipsMoves", spec := "chipsMoves", unfollowed := true, recurses := true, apart := false }
def ChipsMovesSaid : Prop := chipsMovesRow.holds Try.pinned (OpenSpec.ofChange chipsMovesSpec)

/-- ITS FALSE NEIGHBOUR: 'it returns false'. Refute it at one input. -/
def chipsMovesWrong : ChangeSpec := { name := "chipsMoves", fn := fun _ => fun
  | [d1, d2, d3] => { results := [.lit (.bool false)], args := [d1, d2, d3] }
  | _ => none }
def ChipsMovesWrongFalsely : Prop := chipsMovesRow.holds Try.pinned (OpenSpec.ofChange chipsMovesWrong)

/-- 'olivettelaw09.ChipsRanks': WHATEVER THE INPUT: true; the input reads as it did. -/
def chipsRanksSpec : ChangeSpec := { name := "chipsRanks", fn := fun _ => fun
  | [d1, d2] => { results := [.lit (.bool true)], args := [d1, d2] }
  | _ => none }
def chipsRanksRow : OpenClaim := { program := "ytmegimhfoedcdaa", sum := "71d41a12c02a0e664c644999c43078eec8491cac07784e1143093872eaf93a11", func := "olivette/olivettelaw09.ChipsRanks", spec := "chipsRanks", unfollowed := true, recurses := true, apart := false }
def ChipsRanksSaid : Prop := chipsRanksRow.holds Try.pinned (OpenSpec.ofChange chipsRanksSpec)

/-- ITS FALSE NEIGHBOUR: 'it returns false'. Refute it at one input. -/
def chipsRanksWrong : ChangeSpec := { name := "chipsRanks", fn := fun _ => fun
  | [d1, d2] => { results := [.lit (.bool false)], args := [d1, d2] }
  | _ => none }
def ChipsRanksWrongFalsely : Prop := chipsRanksRow.holds Try.pinned (OpenSpec.ofChange chipsRanksWrong)

/-- 'olivettelaw09.ChipsRoch': WHATEVER THE INPUT: true; the input reads as it did. -/
def chipsRochSpec : ChangeSpec := { name := "chipsRoch", fn := fun _ => fun
  | [d1, d2] => { results := [.lit (.bool true)], args := [d1, d2] }
  | _ => none }
def chipsRochRow : OpenClaim := { program := "ytmegimhfoedcdaa", sum := "71d41a12c02a0e664c644999c43078eec8491cac07784e1143093872eaf93a11", func := "olivette/olivettelaw09.ChipsRoch", spec := "chipsRoch", unfollowed := true, recurses := true, apart := false }
def ChipsRochSaid : Prop := chipsRochRow.holds Try.pinned (OpenSpec.ofChange chipsRochSpec)

/-- ITS FALSE NEIGHBOUR: 'it returns false'. Refute it at one input. -/
def chipsRochWrong : ChangeSpec := { name := "chipsRoch", fn := fun _ => fun
  | [d1, d2] => { results := [.lit (.bool false)], args := [d1, d2] }
  | _ => none }
def ChipsRochWrongFalsely : Prop := chipsRochRow.holds Try.pinned (OpenSpec.ofChange chipsRochWrong)

/-- 'olivettelaw09.ChipsTrees': WHATEVER THE INPUT: true; the input reads as it did. -/
def chipsTreesSpec : ChangeSpec := { name := "chipsTrees", fn := fun _ => fun
  | [d] => { results := [.lit (.bool true)], args := [d] }
  | _ => none }
def chipsTreesRow : OpenClaim := { program := "ytmegimhfoedcdaa", sum := "71d41a12c02a0e664c644999c43078eec8491cac07784e1143093872eaf93a11", func := "olivette/olivettelaw09.ChipsTrees", spec := "chipsTrees", unfollowed := true, recurses := true, apart := false }
def ChipsTreesSaid : Prop := chipsTreesRow.holds Try.pinned (OpenSpec.ofChange chipsTreesSpec)

/-- ITS FALSE NEIGHBOUR: 'it returns false'. Refute it at one input. -/
def chipsTreesWrong : ChangeSpec := { name := "chipsTrees", fn := fun _ => fun
  | [d] => { results := [.lit (.bool false)], args := [d] }
  | _ => none }
def ChipsTreesWrongFalsely : Prop := chipsTreesRow.holds Try.pinned (OpenSpec.ofChange chipsTreesWrong)

/-- 'olivettelaw09.ChipsOwn': WHATEVER THE INPUT: true; the input reads as it did. -/
def chipsOwnSpec : ChangeSpec := { name := "chipsOwn", fn := fun _ => fun
  | [d1, d2] => { results := [.lit (.bool true)], args := [d1, d2] }
  | _ => none }
def chipsOwnRow : OpenClaim := { program := "ytmegimhfoedcdaa", sum := "71d41a12c02a0e664c644999c43078eec8491cac07784e1143093872eaf93a11", func := "olivette/olivettelaw09.ChipsOwn", spec := "chipsOwn", unfollowed := true, recurses := true, apart := false }
def ChipsOwnSaid : Prop := chipsOwnRow.holds Try.pinned (OpenSpec.ofChange chipsOwnSpec)

/-- ITS FALSE NEIGHBOUR: 'it returns false'. Refute it at one input. -/
def chipsOwnWrong : ChangeSpec := { name := "chipsOwn", fn := fun _ => fun
  | [d1, d2] => { results := [.lit (.bool false)], args := [d1, d2] }
  | _ => none }
def ChipsOwnWrongFalsely : Prop := chipsOwnRow.holds Try.pinned (OpenSpec.ofChange chipsOwnWrong)

/-- 'olivettelaw09.ChipsSettles': WHATEVER THE INPUT: true; the input reads as it did. -/
def chipsSettlesSpec : ChangeSpec := { name := "chipsSettles", fn := fun _ => fun
  | [d1, d2, d3] => { results := [.lit (.bool true)], args := [d1, d2, d3] }
  | _ => none }
def chipsSettlesRow : OpenClaim := { program := "ytmegimhfoedcdaa", sum := "71d41a12c02a0e664c644999c43078eec8491cac07784e1143093872eaf93a11", func := "olivette/olivettelaw09.ChipsSettles", spec := "chipsSettles", unfollowed := true, recurses := true, apart := false }
def ChipsSettlesSaid : Prop := chipsSettlesRow.holds Try.pinned (OpenSpec.ofChange chipsSettlesSpec)

/-- ITS FALSE NEIGHBOUR: 'it returns false'. Refute it at one input. -/
def chipsSettlesWrong : ChangeSpec := { name := "chipsSettles", fn := fun _ => fun
  | [d1, d2, d3] => { results := [.lit (.bool false)], args := [d1, d2, d3] }
  | _ => none }
def ChipsSettlesWrongFalsely : Prop := chipsSettlesRow.holds Try.pinned (OpenSpec.ofChange chipsSettlesWrong)

/-- 'olivettelaw09.ChipsStable': WHATEVER THE INPUT: true; the input reads as it did. -/
def chipsStableSpec : ChangeSpec := { name := "chipsStable", fn := fun _ => fun
  | [d1, d2, d3] => { results := [.lit (.bool true)], args := [d1, d2, d3] }
  | _ => none }
def chipsStableRow : OpenClaim := { program := "ytmegimhfoedcdaa", sum := "71d41a12c02a0e664c644999c43078eec8491cac07784e1143093872eaf93a11", func := "olivette/olivettelaw09.ChipsStable", spec := "chipsStable", unfollowed := true, recurses := true, apart := false }
def ChipsStableSaid : Prop := chipsStableRow.holds Try.pinned (OpenSpec.ofChange chipsStableSpec)

/-- ITS FALSE NEIGHBOUR: 'it returns false'. Refute it at one input. -/
def chipsStableWrong : ChangeSpec := { name := "chipsStable", fn := fun _ => fun
  | [d1, d2, d3] => { results := [.lit (.bool false)], args := [d1, d2, d3] }
  | _ => none }
def ChipsStableWrongFalsely : Prop := chipsStableRow.holds Try.pinned (OpenSpec.ofChange chipsStableWrong)

/-- 'olivettelaw09.ChipsWins': WHATEVER THE INPUT: true; the input reads as it did. -/
def chipsWinsSpec : ChangeSpec := { name := "chipsWins", fn := fun _ => fun
  | [d1, d2] => { results := [.lit (.bool true)], args := [d1, d2] }
  | _ => none }
def chipsWinsRow : OpenClaim := { program := "ytmegimhfoedcdaa", sum := "71d41a12c02a0e664c644999c43078eec8491cac07784e1143093872eaf93a11", func := "olivette/olivettelaw09.ChipsWins", spec := "chipsWins", unfollowed := true, recurses := true, apart := false }
def ChipsWinsSaid : Prop := chipsWinsRow.holds Try.pinned (OpenSpec.ofChange chipsWinsSpec)

/-- ITS FALSE NEIGHBOUR: 'it returns false'. Refute it at one input. -/
def chipsWinsWrong : ChangeSpec := { name := "chipsWins", fn := fun _ => fun
  | [d1, d2] => { results := [.lit (.bool false)], args := [d1, d2] }
  | _ => none }
def ChipsWinsWrongFalsely : Prop := chipsWinsRow.holds Try.pinned (OpenSpec.ofChange chipsWinsWrong)

/-- 'olivettelaw09.ChipsChecks': WHATEVER THE INPUT: true; the input reads as it did. -/
def chipsChecksSpec : ChangeSpec := { name := "chipsChecks", fn := fun _ => fun
  | [d1, d2, d3] => { results := [.lit (.bool true)], args := [d1, d2, d3] }
  | _ => none }
def chipsChecksRow : OpenClaim := { program := "ytmegimhfoedcdaa", sum := "71d41a12c02a0e664c644999c43078eec8491cac07784e1143093872eaf93a11", func := "olivette/olivettelaw09.ChipsChecks", spec := "chipsChecks", unfollowed := true, recurses := true, apart := false }
def ChipsChecksSaid : Prop := chipsChecksRow.holds Try.pinned (OpenSpec.ofChange chipsChecksSpec)

/-- ITS FALSE NEIGHBOUR: 'it returns false'. Refute it at one input. -/
def chipsChecksWrong : ChangeSpec := { name := "chipsChecks", fn := fun _ => fun
  | [d1, d2, d3] => { results := [.lit (.bool false)], args := [d1, d2, d3] }
  | _ => none }
def ChipsChecksWrongFalsely : Prop := chipsChecksRow.holds Try.pinned (OpenSpec.ofChange chipsChecksWrong)

/-- 'olivettelaw09.ChipsOnce': WHATEVER THE INPUT: true; the input reads as it did. -/
def chipsOnceSpec : ChangeSpec := { name := "chipsOnce", fn := fun _ => fun
  | [d1, d2, d3] => { results := [.lit (.bool true)], args := [d1, d2, d3] }
  | _ => none }
def chipsOnceRow : OpenClaim := { program := "ytmegimhfoedcdaa", sum := "71d41a12c02a0e664c644999c43078eec8491cac07784e1143093872eaf93a11", func := "olivette/olivettelaw09.ChipsOnce", spec := "chipsOnce", unfollowed := true, recurses := true, apart := false }
def ChipsOnceSaid : Prop := chipsOnceRow.holds Try.pinned (OpenSpec.ofChange chipsOnceSpec)

/-- ITS FALSE NEIGHBOUR: 'it returns false'. Refute it at one input. -/
def chipsOnceWrong : ChangeSpec := { name := "chipsOnce", fn := fun _ => fun
  | [d1, d2, d3] => { results := [.lit (.bool false)], args := [d1, d2, d3] }
  | _ => none }
def ChipsOnceWrongFalsely : Prop := chipsOnceRow.holds Try.pinned (OpenSpec.ofChange chipsOnceWrong)

/- THE SECOND FORM. 'bulk': how many values and letters a reading holds, each counted each time it is reached (what is shared counts as often as it is met; a slice's spare places count too). A statement '..UptoSaid' is the law's where the arguments, and the package variables that the reading takes, are together of bulk at most 1048576: NARROWER than '..Said'. Prove '..Said' where nothing that the law and all that it calls make is longer than what came in: it says more and counts as full. Else prove '..UptoSaid'. A law counts once. -/
mutual
def uptoBulk {H : Type} : DataW H → Nat
  | .lit (.string bytes) => bytes.length + 1
  | .lit _ => 1
  | .nil => 1
  | .ptr d => uptoBulk d + 1
  | .slice elems spare => uptoBulkAll elems + uptoBulkAll spare + 1
  | .agg parts => uptoBulkAll parts + 1
  | .iface _ d => uptoBulk d + 1
  | .map entries => uptoBulkEntries entries + 1
  | .held _ => 1
def uptoBulkAll {H : Type} : List (DataW H) → Nat
  | [] => 0
  | d :: r => uptoBulk d + uptoBulkAll r
def uptoBulkEntries {H : Type} : List (Lit × DataW H) → Nat
  | [] => 0
  | x :: r => uptoBulkEntry x + uptoBulkEntries r
def uptoBulkEntry {H : Type} : Lit × DataW H → Nat
  | (.string bytes, d) => bytes.length + uptoBulk d + 1
  | (_, d) => uptoBulk d + 1
 end
def uptoSmall : (H : Type) → List (DataW H) → Bool := fun _ ds => decide (uptoBulkAll ds ≤ 1048576)
def OpenSpec.upto (s : _root_.Go.ChangeSpec) : _root_.Go.OpenSpec := { _root_.Go.OpenSpec.ofChange s with cond := some uptoSmall }

/-- 'olivettelaw09.ChipsReduces', WHERE WHAT IT READS IS OF BULK AT MOST 1048576: true; the input reads as it did. -/
def chipsReducesUptoRow : OpenClaim := { program := "ytmegimhfoedcdaa", sum := "71d41a12c02a0e664c644999c43078eec8491cac07784e1143093872eaf93a11", func := "olivette/olivettelaw09.ChipsReduces", spec := "chipsReduces", unfollowed := true, recurses := true, apart := false, narrowed := true }
def ChipsReducesUptoSaid : Prop := chipsReducesUptoRow.holds Try.pinned (OpenSpec.upto chipsReducesSpec)

/-- 'olivettelaw09.ChipsNumbers', WHERE WHAT IT READS IS OF BULK AT MOST 1048576: true; the input reads as it did. -/
def chipsNumbersUptoRow : OpenClaim := { program := "ytmegimhfoedcdaa", sum := "71d41a12c02a0e664c644999c43078eec8491cac07784e1143093872eaf93a11", func := "olivette/olivettelaw09.ChipsNumbers", spec := "chipsNumbers", unfollowed := true, recurses := true, apart := false, narrowed := true }
def ChipsNumbersUptoSaid : Prop := chipsNumbersUptoRow.holds Try.pinned (OpenSpec.upto chipsNumbersSpec)

/-- 'olivettelaw09.ChipsClasses', WHERE WHAT IT READS IS OF BULK AT MOST 1048576: true; the input reads as it did. -/
def chipsClassesUptoRow : OpenClaim := { program := "ytmegimhfoedcdaa", sum := "71d41a12c02a0e664c644999c43078eec8491cac07784e1143093872eaf93a11", func := "olivette/olivettelaw09.ChipsClasses", spec := "chipsClasses", unfollowed := true, recurses := true, apart := false, narrowed := true }
def ChipsClassesUptoSaid : Prop := chipsClassesUptoRow.holds Try.pinned (OpenSpec.upto chipsClassesSpec)

/-- 'olivettelaw09.ChipsPeriods', WHERE WHAT IT READS IS OF BULK AT MOST 1048576: true; the input reads as it did. -/
def chipsPeriodsUptoRow : OpenClaim := { program := "ytmegimhfoedcdaa", sum := "71d41a12c02a0e664c644999c43078eec8491cac07784e1143093872eaf93a11", func := "olivette/olivettelaw09.ChipsPeriods", spec := "chipsPeriods", unfollowed := true, recurses := true, apart := false, narrowed := true }
def ChipsPeriodsUptoSaid : Prop := chipsPeriodsUptoRow.holds Try.pinned (OpenSpec.upto chipsPeriodsSpec)

/-- 'olivettelaw09.ChipsApplies', WHERE WHAT IT READS IS OF BULK AT MOST 1048576: true; the input reads as it did. -/
def chipsAppliesUptoRow : OpenClaim := { program := "ytmegimhfoedcdaa", sum := "71d41a12c02a0e664c644999c43078eec8491cac07784e1143093872eaf93a11", func := "olivette/olivettelaw09.ChipsApplies", spec := "chipsApplies", unfollowed := true, recurses := true, apart := false, narrowed := true }
def ChipsAppliesUptoSaid : Prop := chipsAppliesUptoRow.holds Try.pinned (OpenSpec.upto chipsAppliesSpec)

/-- 'olivettelaw09.ChipsMoves', WHERE WHAT IT READS IS OF BULK AT MOST 1048576: true; the input reads as it did. -/
def chipsMovesUptoRow : OpenClaim := { program := "ytmegimhfoedcdaa", sum := "71d41a12c02a0e664c644999c43078eec8491cac07784e1143093872eaf93a11", func := "olivette/olivettelaw09.ChipsMoves", spec := "chipsMoves", unfollowed := true, recurses := true, apart := false, narrowed := true }
def ChipsMovesUptoSaid : Prop := chipsMovesUptoRow.holds Try.pinned (OpenSpec.upto chipsMovesSpec)

/-- 'olivettelaw09.ChipsRanks', WHERE WHAT IT READS IS OF BULK AT MOST 1048576: true; the input reads as it did. -/
def chipsRanksUptoRow : OpenClaim := { program := "ytmegimhfoedcdaa", sum := "71d41a12c02a0e664c644999c43078eec8491cac07784e1143093872eaf93a11", func := "olivette/olivettelaw09.ChipsRanks", spec := "chipsRanks", unfollowed := true, recurses := true, apart := false, narrowed := true }
def ChipsRanksUptoSaid : Prop := chipsRanksUptoRow.holds Try.pinned (OpenSpec.upto chipsRanksSpec)

/-- 'olivettelaw09.ChipsRoch', WHERE WHAT IT READS IS OF BULK AT MOST 1048576: true; the input reads as it did. -/
def chipsRochUptoRow : OpenClaim := { program := "ytmegimhfoedcdaa", sum := "71d41a12c02a0e664c644999c43078eec8491cac07784e1143093872eaf93a11", func := "olivette/olivettelaw09.ChipsRoch", spec := "chipsRoch", unfollowed := true, recurses := true, apart := false, narrowed := true }
def ChipsRochUptoSaid : Prop := chipsRochUptoRow.holds Try.pinned (OpenSpec.upto chipsRochSpec)

/-- 'olivettelaw09.ChipsTrees', WHERE WHAT IT READS IS OF BULK AT MOST 1048576: true; the input reads as it did. -/
def chipsTreesUptoRow : OpenClaim := { program := "ytmegimhfoedcdaa", sum := "71d41a12c02a0e664c644999c43078eec8491cac07784e1143093872eaf93a11", func := "olivette/olivettelaw09.ChipsTrees", spec := "chipsTrees", unfollowed := true, recurses := true, apart := false, narrowed := true }
def ChipsTreesUptoSaid : Prop := chipsTreesUptoRow.holds Try.pinned (OpenSpec.upto chipsTreesSpec)

/-- 'olivettelaw09.ChipsOwn', WHERE WHAT IT READS IS OF BULK AT MOST 1048576: true; the input reads as it did. -/
def chipsOwnUptoRow : OpenClaim := { program := "ytmegimhfoedcdaa", sum := "71d41a12c02a0e664c644999c43078eec8491cac07784e1143093872eaf93a11", func := "olivette/olivettelaw09.ChipsOwn", spec := "chipsOwn", unfollowed := true, recurses := true, apart := false, narrowed := true }
def ChipsOwnUptoSaid : Prop := chipsOwnUptoRow.holds Try.pinned (OpenSpec.upto chipsOwnSpec)

/-- 'olivettelaw09.ChipsSettles', WHERE WHAT IT READS IS OF BULK AT MOST 1048576: true; the input reads as it did. -/
def chipsSettlesUptoRow : OpenClaim := { program := "ytmegimhfoedcdaa", sum := "71d41a12c02a0e664c644999c43078eec8491cac07784e1143093872eaf93a11", func := "olivette/olivettelaw09.ChipsSettles", spec := "chipsSettles", unfollowed := true, recurses := true, apart := false, narrowed := true }
def ChipsSettlesUptoSaid : Prop := chipsSettlesUptoRow.holds Try.pinned (OpenSpec.upto chipsSettlesSpec)

/-- 'olivettelaw09.ChipsStable', WHERE WHAT IT READS IS OF BULK AT MOST 1048576: true; the input reads as it did. -/
def chipsStableUptoRow : OpenClaim := { program := "ytmegimhfoedcdaa", sum := "71d41a12c02a0e664c644999c43078eec8491cac07784e1143093872eaf93a11", func := "olivette/olivettelaw09.ChipsStable", spec := "chipsStable", unfollowed := true, recurses := true, apart := false, narrowed := true }
def ChipsStableUptoSaid : Prop := chipsStableUptoRow.holds Try.pinned (OpenSpec.upto chipsStableSpec)

/-- 'olivettelaw09.ChipsWins', WHERE WHAT IT READS IS OF BULK AT MOST 1048576: true; the input reads as it did. -/
def chipsWinsUptoRow : OpenClaim := { program := "ytmegimhfoedcdaa", sum := "71d41a12c02a0e664c644999c43078eec8491cac07784e1143093872eaf93a11", func := "olivette/olivettelaw09.ChipsWins", spec := "chipsWins", unfollowed := true, recurses := true, apart := false, narrowed := true }
def ChipsWinsUptoSaid : Prop := chipsWinsUptoRow.holds Try.pinned (OpenSpec.upto chipsWinsSpec)

/-- 'olivettelaw09.ChipsChecks', WHERE WHAT IT READS IS OF BULK AT MOST 1048576: true; the input reads as it did. -/
def chipsChecksUptoRow : OpenClaim := { program := "ytmegimhfoedcdaa", sum := "71d41a12c02a0e664c644999c43078eec8491cac07784e1143093872eaf93a11", func := "olivette/olivettelaw09.ChipsChecks", spec := "chipsChecks", unfollowed := true, recurses := true, apart := false, narrowed := true }
def ChipsChecksUptoSaid : Prop := chipsChecksUptoRow.holds Try.pinned (OpenSpec.upto chipsChecksSpec)

/-- 'olivettelaw09.ChipsOnce', WHERE WHAT IT READS IS OF BULK AT MOST 1048576: true; the input reads as it did. -/
def chipsOnceUptoRow : OpenClaim := { program := "ytmegimhfoedcdaa", sum := "71d41a12c02a0e664c644999c43078eec8491cac07784e1143093872eaf93a11", func := "olivette/olivettelaw09.ChipsOnce", spec := "chipsOnce", unfollowed := true, recurses := true, apart := false, narrowed := true }
def ChipsOnceUptoSaid : Prop := chipsOnceUptoRow.holds Try.pinned (OpenSpec.upto chipsOnceSpec)

end Rows
end Go.Proofs.Ytmegimhfoedcdaa
