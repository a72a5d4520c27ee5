/- The abstract machine, part M1. -/
import Derived.OrdersIn
import Derived.KernelRfl
import Derived.Laws.World
import Derived.Laws.IdiomCopy
import Derived.MapKept
import Derived.Laws.Cells
import Derived.Laws.NewFold
import Derived.ChangeKeysEq
import Derived.Laws.StructEq
import Derived.Laws.Cover3
import Derived.Laws.Pointers
import Derived.WalkSpells
import Derived.IntWalk
import Derived.WideKeyRuns
set_option linter.unusedVariables false
set_option linter.unusedSimpArgs false
set_option linter.unusedSectionVars false
namespace Go.AM
inductive AV where
  | undef
  | int (k : IntKind) (n : Int)
  | bool (b : Bool)
  | nilS | nilP | nilF | nilM
  | rd (sz len : Nat) (cells : List AV)
  | rp (cells : List AV)
  | sl (id sz off len : Nat)
  | ptr (id off : Nat)
  | fn (f : Nat) (cap : List AV)
  | agg (cells : List AV)
  | tup (vs : List AV)
  | mp (id : Nat)
  | yl (id : Nat)
  deriving Inhabited
mutual
def AV.idFree : AV → Bool
  | .sl .. => false
  | .ptr .. => false
  | .mp _ => false
  | .yl _ => false
  | .agg cs => idFreeL cs
  | .tup cs => idFreeL cs
  | .fn _ cs => idFreeL cs
  | _ => true
def idFreeL : List AV → Bool
  | [] => true
  | x :: xs => x.idFree && idFreeL xs
end
def AV.one : AV → Bool
  | .agg _ => false
  | .tup _ => false
  | .undef => false
  | _ => true
mutual
def AV.hasRd : AV → Bool
  | .rd _ _ [] => false
  | .rd .. => true
  | .rp _ => true
  | .agg cs => hasRdL cs
  | .tup cs => hasRdL cs
  | .fn _ cs => hasRdL cs
  | _ => false
def hasRdL : List AV → Bool
  | [] => false
  | x :: xs => x.hasRd || hasRdL xs
end
def AV.cells : AV → List AV
  | .agg cs => cs
  | v => [v]
inductive HO where
  | data (cells : List AV)
  | box (cells : List AV)
  | map (es : List (AV × AV))
  deriving Inhabited
abbrev Heap := List (Option HO)
def HO.cells? : HO → Option (List AV)
  | .data c => some c
  | .box c => some c
  | .map _ => none
def Heap.cells? (H : Heap) (id : Nat) : Option (List AV) := (H[id]?).bind fun o => o.bind HO.cells?
def Heap.data? (H : Heap) (id : Nat) : Option (List AV) := match H[id]? with
  | some (some (.data c)) => some c
  | _ => none
def Heap.map? (H : Heap) (id : Nat) : Option (List (AV × AV)) := match H[id]? with
  | some (some (.map c)) => some c
  | _ => none
def Heap.box? (H : Heap) (id : Nat) : Option (List AV) := match H[id]? with
  | some (some (.box c)) => some c
  | _ => none
abbrev Env := List (Nat × AV)
def look : Env → Nat → AV
  | [], _ => .undef
  | (s, v) :: r, t => if s = t then v else look r t
inductive Opd where
  | t (n : Nat)
  | c (v : AV)
  deriving Inhabited
def opd (env : Env) : Opd → AV
  | .t n => look env n
  | .c v => v
inductive PO where
  | mov | pick
  | ld (agg : Bool) (n : Nat)
  | nilc
  | bin (op : BinOp)
  | eqnil (neg : Bool)
  | beq (neg : Bool)
  | eqagg (neg : Bool) (ks : List (Option IntKind))
  | un (op : UnOp)
  | conv (k : IntKind)
  | fldA (off : Nat)
  | fld (agg : Bool) (off n : Nat)
  | idxA (sz : Nat)
  | idxP (len sz : Nat)
  | idx (agg : Bool) (len sz : Nat)
  | slc (sz : Nat) (lo hi : Bool)
  | slcP (len sz : Nat) (lo hi : Bool)
  | ext (i : Nat)
  | bld (zero : List AV) (places : List (Nat × Nat))
  | mkfn (f : Nat)
  | len
  | lenM
  | lenP (n : Nat)
  | mx | mn
  | fail
  deriving Inhabited
def getRow (H : Heap) (id off n : Nat) : Option (List AV) :=
  (H.cells? id).bind fun cs => if off + n ≤ cs.length then some ((cs.drop off).take n) else none
def ldc (H : Heap) (n : Nat) : AV → Option (List AV)
  | .rp cs => if n ≤ cs.length then some (cs.take n) else none
  | .ptr id off => getRow H id off n
  | _ => none
def wholeOf (agg : Bool) (cs : List AV) : Option AV :=
  if agg then some (.agg cs) else match cs with
    | [x] => some x
    | _ => none
def asB : AV → Option Bool
  | .bool b => some b
  | _ => none
def binInt (op : BinOp) (k : IntKind) (a b : Int) : Option AV :=
  match op with
  | .add => some (.int k (k.wrap (a + b)))
  | .sub => some (.int k (k.wrap (a - b)))
  | .mul => some (.int k (k.wrap (a * b)))
  | .quo => if b = 0 then none else some (.int k (k.wrap (a.tdiv b)))
  | .rem => if b = 0 then none else some (.int k (a.tmod b))
  | .and => some (.int k (k.wrap (BitVec.ofInt k.bits a &&& BitVec.ofInt k.bits b).toNat))
  | .or => some (.int k (k.wrap (BitVec.ofInt k.bits a ||| BitVec.ofInt k.bits b).toNat))
  | .xor => some (.int k (k.wrap (BitVec.ofInt k.bits a ^^^ BitVec.ofInt k.bits b).toNat))
  | .andNot => some (.int k (k.wrap (BitVec.ofInt k.bits a &&& ~~~(BitVec.ofInt k.bits b)).toNat))
  | .eql => some (.bool (a == b))
  | .neq => some (.bool (a != b))
  | .lss => some (.bool (decide (a < b)))
  | .leq => some (.bool (decide (a ≤ b)))
  | .gtr => some (.bool (decide (a > b)))
  | .geq => some (.bool (decide (a ≥ b)))
  | _ => none
def shiftInt (op : BinOp) (k : IntKind) (a b : Int) : Option AV :=
  if b < 0 then none else
  match op with
  | .shl => some (.int k (k.wrap (a * 2 ^ (min b.toNat k.bits))))
  | .shr => some (.int k (a.fdiv (2 ^ (min b.toNat k.bits))))
  | _ => none
def isShift : BinOp → Bool
  | .shl => true
  | .shr => true
  | _ => false
def binV (op : BinOp) : AV → AV → Option AV
  | .int k a, .int k' b => if isShift op then shiftInt op k a b else if k = k' then binInt op k a b else none
  | _, _ => none
def eqNil : AV → AV → Option Bool
  | .nilS, .nilS => some true
  | .nilS, .rd .. => some false
  | .rd .., .nilS => some false
  | .nilS, .sl .. => some false
  | .sl .., .nilS => some false
  | .nilM, .nilM => some true
  | .nilM, .mp _ => some false
  | .mp _, .nilM => some false
  | .nilP, .nilP => some true
  | .nilP, .ptr .. => some false
  | .nilP, .rp .. => some false
  | .ptr .., .nilP => some false
  | .rp .., .nilP => some false
  | _, _ => none
def eqCells : List (Option IntKind) → List AV → List AV → Option Bool
  | [], [], [] => some true
  | some q :: ks, .int k a :: r, .int k' b :: s => if k = q ∧ k' = q then (if a = b then eqCells ks r s else some false) else none
  | none :: ks, .bool a :: r, .bool b :: s => if a = b then eqCells ks r s else some false
  | _, _, _ => none
def negIf (neg : Bool) (b : Bool) : AV := .bool (if neg then !b else b)
def idxSl (sz : Nat) : AV → AV → Option AV
  | .rd sz' len cs, .int _ i => if sz = sz' ∧ 0 ≤ i ∧ i < len then some (.rp (cs.drop (i.toNat * sz))) else none
  | .sl id sz' off len, .int _ i => if sz = sz' ∧ 0 ≤ i ∧ i < len then some (.ptr id (off + i.toNat * sz)) else none
  | _, _ => none
def idxPt (len sz : Nat) : AV → AV → Option AV
  | .rp cs, .int _ i => if 0 ≤ i ∧ i < len then some (.rp (cs.drop (i.toNat * sz))) else none
  | .ptr id off, .int _ i => if 0 ≤ i ∧ i < len then some (.ptr id (off + i.toNat * sz)) else none
  | _, _ => none
def idxAg (agg : Bool) (len sz : Nat) : AV → AV → Option AV
  | .agg cs, .int _ i => if 0 ≤ i ∧ i < len ∧ i.toNat * sz + sz ≤ cs.length then wholeOf agg ((cs.drop (i.toNat * sz)).take sz) else none
  | _, _ => none
def fldAt (off : Nat) : AV → Option AV
  | .rp cs => some (.rp (cs.drop off))
  | .ptr id o => some (.ptr id (o + off))
  | _ => none
def fldOf (agg : Bool) (off n : Nat) : AV → Option AV
  | .agg cs => if off + n ≤ cs.length then wholeOf agg ((cs.drop off).take n) else none
  | _ => none
def natOf : AV → Option Nat
  | .int _ i => if 0 ≤ i then some i.toNat else none
  | _ => none
def slcOf (sz l h : Nat) : AV → Option AV
  | .nilS => if h = 0 ∧ l = 0 then some .nilS else none
  | .rd sz' len cs => if sz = sz' ∧ l ≤ h ∧ h ≤ len then some (.rd sz (h - l) ((cs.drop (l * sz)).take ((h - l) * sz))) else none
  | .sl id sz' off len => if sz = sz' ∧ l ≤ h ∧ h ≤ len then some (.sl id sz (off + l * sz) (h - l)) else none
  | _ => none
def lenOf : AV → Option Nat
  | .nilS => some 0
  | .rd _ len _ => some len
  | .sl _ _ _ len => some len
  | _ => none
def lenM (H : Heap) : AV → Option Nat
  | .nilM => some 0
  | .mp id => (H.map? id).map List.length
  | _ => none
def slcPOf (H : Heap) (len sz l h : Nat) : AV → Option AV
  | .ptr id off => if l ≤ h ∧ h ≤ len ∧ (getRow H id off (len * sz)).isSome = true then some (.sl id sz (off + l * sz) (h - l)) else none
  | _ => none
def nilCk : AV → Option AV
  | .ptr id off => some (.ptr id off)
  | .rp cs => some (.rp cs)
  | .fn f c => some (.fn f c)
  | _ => none
def AV.solid : AV → Bool
  | .undef => false
  | _ => true
def putPart (cells : List AV) (off : Nat) : List AV → List AV
  | [] => cells
  | x :: r => putPart (cells.set off x) (off + 1) r
def fillParts : List AV → List (Nat × Nat) → List AV → Option (List AV)
  | cells, [], [] => some cells
  | cells, (off, n) :: ps, v :: vs => if v.cells.length = n ∧ off + n ≤ cells.length ∧ v.solid = true then fillParts (putPart cells off v.cells) ps vs else none
  | _, _, _ => none
def mxOf : List AV → Option AV
  | [.int k a, .int _ b] => some (.int k (if b > a then b else a))
  | _ => none
def mnOf : List AV → Option AV
  | [.int k a, .int _ b] => some (.int k (if b < a then b else a))
  | _ => none
def evP (H : Heap) : PO → List AV → Option AV
  | .mov, [x] => some x
  | .pick, [c, a, b] => (asB c).bind fun c => some (if c then a else b)
  | .ld agg n, [p] => (ldc H n p).bind (wholeOf agg)
  | .nilc, [p] => nilCk p
  | .bin op, [a, b] => binV op a b
  | .eqnil neg, [a, b] => (eqNil a b).map (negIf neg)
  | .beq neg, [.bool a, .bool b] => some (negIf neg (a == b))
  | .eqagg neg ks, [.agg a, .agg b] => if a.length = ks.length then (eqCells ks a b).map (negIf neg) else none
  | .un .not, [.bool b] => some (.bool !b)
  | .un .neg, [.int k n] => some (.int k (k.wrap (0 - n)))
  | .conv k, [.int _ n] => some (.int k (k.wrap n))
  | .fldA off, [p] => fldAt off p
  | .fld agg off n, [v] => fldOf agg off n v
  | .idxA sz, [x, i] => idxSl sz x i
  | .idxP len sz, [x, i] => idxPt len sz x i
  | .idx agg len sz, [x, i] => idxAg agg len sz x i
  | .slc sz false false, [x] => (lenOf x).bind fun h => slcOf sz 0 h x
  | .slc sz true false, [x, l] => (natOf l).bind fun l => (lenOf x).bind fun h => slcOf sz l h x
  | .slc sz false true, [x, h] => (natOf h).bind fun h => slcOf sz 0 h x
  | .slc sz true true, [x, l, h] => (natOf l).bind fun l => (natOf h).bind fun h => slcOf sz l h x
  | .slcP len sz false false, [x] => slcPOf H len sz 0 len x
  | .slcP len sz true false, [x, l] => (natOf l).bind fun l => slcPOf H len sz l len x
  | .slcP len sz false true, [x, h] => (natOf h).bind fun h => slcPOf H len sz 0 h x
  | .slcP len sz true true, [x, l, h] => (natOf l).bind fun l => (natOf h).bind fun h => slcPOf H len sz l h x
  | .ext i, [.tup vs] => vs[i]?
  | .bld zero places, vs => (fillParts zero places vs).map .agg
  | .mkfn f, cap => some (.fn f cap)
  | .len, [x] => (lenOf x).map fun (n : Nat) => AV.int .i64 (n : Int)
  | .lenM, [x] => (lenM H x).map fun (n : Nat) => AV.int .i64 (n : Int)
  | .lenP n, [_] => some (.int .i64 n)
  | .mx, vs => mxOf vs
  | .mn, vs => mnOf vs
  | _, _ => none
mutual
def AV.ren (f : Nat → Option Nat) : AV → Option AV
  | .sl id sz off len => (f id).map fun id => .sl id sz off len
  | .ptr id off => (f id).map fun id => .ptr id off
  | .mp id => (f id).map fun id => .mp id
  | .agg cs => if idFreeL cs then some (.agg cs) else (renL f cs).map .agg
  | .tup cs => if idFreeL cs then some (.tup cs) else (renL f cs).map .tup
  | .fn g cs => if idFreeL cs then some (.fn g cs) else (renL f cs).map (.fn g)
  | .undef => some .undef
  | .int k n => some (.int k n)
  | .bool b => some (.bool b)
  | .nilS => some .nilS
  | .nilP => some .nilP
  | .nilF => some .nilF
  | .nilM => some .nilM
  | .rd sz len cs => some (.rd sz len cs)
  | .rp cs => some (.rp cs)
  | .yl id => (f id).map fun id => .yl id
def renL (f : Nat → Option Nat) : List AV → Option (List AV)
  | [] => some []
  | x :: xs => (x.ren f).bind fun y => (renL f xs).map fun ys => y :: ys
end
def renO (f : Nat → Option Nat) : Option HO → Option (Option HO)
  | none => some none
  | some (.data c) => some (some (.data c))
  | some (.box c) => (renL f c).map fun c => some (.box c)
  | some (.map es) => some (some (.map es))
def renH (f : Nat → Option Nat) : Heap → Option Heap
  | [] => some []
  | o :: H => (renO f o).bind fun o => (renH f H).map fun H => o :: H
def posOf : List Nat → Nat → Option Nat
  | [], _ => none
  | x :: xs, i => if x = i then some 0 else (posOf xs i).map (· + 1)
def nodupB : List Nat → Bool
  | [] => true
  | x :: xs => !xs.contains x && nodupB xs
def boxCells (H : Heap) (id : Nat) : List AV := match H[id]? with
  | some (some (.box c)) => c
  | _ => []
def reach (H : Heap) : Nat → List Nat → List AV → List Nat
  | 0, acc, _ => acc
  | _ + 1, acc, [] => acc
  | k + 1, acc, v :: r =>
    match v with
    | .sl id _ _ _ => if acc.contains id then reach H k acc r else reach H k (acc ++ [id]) (boxCells H id ++ r)
    | .ptr id _ => if acc.contains id then reach H k acc r else reach H k (acc ++ [id]) (boxCells H id ++ r)
    | .mp id => if acc.contains id then reach H k acc r else reach H k (acc ++ [id]) (boxCells H id ++ r)
    | .yl id => if acc.contains id then reach H k acc r else reach H k (acc ++ [id]) (boxCells H id ++ r)
    | .agg cs => if idFreeL cs then reach H k acc r else reach H k acc (cs ++ r)
    | .tup cs => if idFreeL cs then reach H k acc r else reach H k acc (cs ++ r)
    | .fn _ cs => if idFreeL cs then reach H k acc r else reach H k acc (cs ++ r)
    | _ => reach H k acc r
def pickO (H : Heap) : List Nat → Option Heap
  | [] => some []
  | i :: r => (H[i]?).bind fun o => (pickO H r).map fun os => o :: os
def rangeL : Nat → List Nat → List Nat
  | 0, acc => acc
  | n + 1, acc => rangeL n (n :: acc)
def subHeap (φ : List Nat) (vs : List AV) (H : Heap) : Option (List AV × Heap) :=
  if nodupB φ then
    (renL (posOf φ) vs).bind fun vs => (pickO H φ).bind fun H => (renH (posOf φ) H).map fun H => (vs, H)
  else none
def roots (H : Heap) : List Nat → List AV
  | [] => []
  | i :: r => boxCells H i ++ roots H r
def gc (k : Nat) (vs : List AV) (H : Heap) : Option (List AV × Heap) :=
  subHeap (reach H 400 (rangeL k []) (roots H (rangeL k []) ++ vs)) vs H
mutual
def frzV (H : Heap) : Nat → AV → Option AV
  | 0, _ => none
  | k + 1, .sl id sz off len => ((H.data? id).or ((H.box? id).bind fun cs => frzL H k cs)).bind fun cs => if off + len * sz ≤ cs.length then some (.rd sz len ((cs.drop off).take (len * sz))) else none
  | k + 1, .ptr id off => match H[id]? with
    | some (some (.data c)) => some (.rp (c.drop off))
    | some (some (.box c)) => (frzL H k c).map fun c => .rp (c.drop off)
    | _ => none
  | k + 1, .agg cs => if idFreeL cs then some (.agg cs) else (frzL H k cs).map .agg
  | k + 1, .tup cs => if idFreeL cs then some (.tup cs) else (frzL H k cs).map .tup
  | k + 1, .fn g cs => if idFreeL cs then some (.fn g cs) else (frzL H k cs).map (.fn g)
  | _ + 1, .mp _ => none
  | _ + 1, .undef => some .undef
  | _ + 1, .int k n => some (.int k n)
  | _ + 1, .bool b => some (.bool b)
  | _ + 1, .nilS => some .nilS
  | _ + 1, .nilP => some .nilP
  | _ + 1, .nilF => some .nilF
  | _ + 1, .nilM => some .nilM
  | _ + 1, .rd sz len cs => some (.rd sz len cs)
  | _ + 1, .rp cs => some (.rp cs)
  | _ + 1, .yl _ => none
def frzL (H : Heap) : Nat → List AV → Option (List AV)
  | 0, _ => none
  | _ + 1, [] => some []
  | k + 1, x :: xs => (frzV H k x).bind fun y => (frzL H k xs).map fun ys => y :: ys
end
abbrev KS := List (Option IntKind)
inductive EO where
  | alloc (dat : Bool) (zero : List AV)
  | box (dat : Bool)
  | st (n : Nat)
  | bldS (dat frz : Bool) (sz len : Nat) (zero : List AV) (places : List (Nat × Nat))
  | mkS (sz bytes : Nat) (zero : List AV)
  | app (frz : Bool) (sz bytes : Nat)
  | cpy (sz : Nat)
  | call (pure frz : Bool) (f : Nat)
  | callv (pure frz : Bool)
  | mkM
  | lkM (ks : KS) (ok : Bool) (zero : AV)
  | upM (ks : KS)
  | delM (ks : KS)
  | yld
  | frz
  | bldB (sz len : Nat) (zero : List AV) (places : List (Nat × Nat))
  | mkB (sz bytes : Nat) (zero : List AV)
  | appB (sz bytes : Nat)
  deriving Inhabited
def mkHO (dat : Bool) (cs : List AV) : Option HO := if dat then (if idFreeL cs then some (.data cs) else none) else some (.box cs)
def oneL : List AV → Bool
  | [] => true
  | x :: xs => x.one && oneL xs
def putRow (cs : List AV) (off : Nat) (vs : List AV) : List AV := cs.take off ++ vs ++ cs.drop (off + vs.length)
def stAt (H : Heap) (n : Nat) (p v : AV) : Option Heap :=
  match p with
  | .ptr id off =>
    let vs := v.cells
    if vs.length = n ∧ oneL vs = true then
      match H[id]? with
      | some (some (.data c)) => if off + n ≤ c.length ∧ idFreeL vs = true then some (H.set id (some (.data (putRow c off vs)))) else none
      | some (some (.box c)) => if off + n ≤ c.length then some (H.set id (some (.box (putRow c off vs)))) else none
      | _ => none
    else none
  | _ => none
def rowOf (H : Heap) : AV → Option (List AV)
  | .nilS => some []
  | .rd _ _ cs => some cs
  | .sl id sz off len => (H.data? id).bind fun cs => if off + len * sz ≤ cs.length then some ((cs.drop off).take (len * sz)) else none
  | _ => none
def szOk (sz : Nat) : AV → Bool
  | .nilS => true
  | .rd s _ _ => s == sz
  | .sl _ s _ _ => s == sz
  | _ => false
def killRow (H : Heap) : AV → Option Heap
  | .nilS => some H
  | .sl id _ _ _ => some (H.set id none)
  | _ => none
def most : Nat := 1048576
def newRow (frz : Bool) (sz len : Nat) (cs : List AV) (H : Heap) : AV × Heap :=
  if frz then (.rd sz len cs, H) else (.sl H.length sz 0 len, H ++ [some (.data cs)])
def appOf (frz : Bool) (sz : Nat) (H : Heap) (x y : AV) : Option (AV × Heap) :=
  if szOk sz x && szOk sz y then
    (lenOf x).bind fun n => (lenOf y).bind fun m =>
    if m = 0 then (if frz && !x.idFree then none else some (x, H)) else
    (rowOf H x).bind fun a => (rowOf H y).bind fun b =>
    if n + m ≤ most then (killRow H x).map fun H => newRow frz sz (n + m) (a ++ b) H else none
  else none
def rowC (H : Heap) : AV → Option (List AV)
  | .nilS => some []
  | .rd _ _ cs => some cs
  | .sl id sz off len => (H.cells? id).bind fun cs => if off + len * sz ≤ cs.length then some ((cs.drop off).take (len * sz)) else none
  | _ => none
def newBox (sz len : Nat) (cs : List AV) (H : Heap) : AV × Heap := (.sl H.length sz 0 len, H ++ [some (.box cs)])
def appBOf (sz : Nat) (H : Heap) (x y : AV) : Option (AV × Heap) :=
  if szOk sz x && szOk sz y then
    (lenOf x).bind fun n => (lenOf y).bind fun m =>
    if m = 0 then some (x, H) else
    (rowC H x).bind fun a => (rowC H y).bind fun b =>
    if n + m ≤ most then (killRow H x).map fun H => newBox sz (n + m) (a ++ b) H else none
  else none
def repl (n : Nat) (zero : List AV) : List AV := match n with
  | 0 => []
  | n + 1 => zero ++ repl n zero
def keyEq : KS → AV → AV → Option Bool
  | [some q], .int k n, .int k' m => if k = q ∧ k' = q then some (n == m) else none
  | ks, .agg a, .agg b => if 1 < ks.length ∧ a.length = ks.length then eqCells ks a b else none
  | _, _, _ => none
def findM (ks : KS) (k : AV) : List (AV × AV) → Option (Option AV)
  | [] => some none
  | (k', v) :: r => (keyEq ks k k').bind fun b => if b then some (some v) else findM ks k r
def putM (ks : KS) (k v : AV) : List (AV × AV) → Option (List (AV × AV))
  | [] => some [(k, v)]
  | (k', v') :: r => (keyEq ks k k').bind fun b => if b then some ((k, v) :: r) else (putM ks k v r).map fun r => (k', v') :: r
def delM (ks : KS) (k : AV) : List (AV × AV) → Option (List (AV × AV))
  | [] => some []
  | (k', v') :: r => (keyEq ks k k').bind fun b => if b then some r else (delM ks k r).map fun r => (k', v') :: r
def flatCells : KS → List AV → Bool
  | [], [] => true
  | some q :: ks, .int k _ :: r => k == q && flatCells ks r
  | none :: ks, .bool _ :: r => flatCells ks r
  | _, _ => false
def keyOk : KS → AV → Bool
  | [some q], .int k _ => k == q
  | ks, .agg a => decide (1 < ks.length) && flatCells ks a
  | _, _ => false
def HO.hasRd : Option HO → Bool
  | none => false
  | some (.data c) => hasRdL c
  | some (.box c) => hasRdL c
  | some (.map es) => es.any fun e => e.1.hasRd || e.2.hasRd
def shiftH (n : Nat) (v : AV) (H1 : Heap) : Option (AV × Heap) :=
  (v.ren fun i => some (n + i)).bind fun v => (renH (fun i => some (n + i)) H1).map fun H => (v, H)
abbrev CallF := Nat → List AV → Heap → Option (AV × Heap)
def callPure (call : CallF) (frz : Bool) (f : Nat) (args : List AV) (H : Heap) : Option (AV × Heap) :=
  (frzL H 140 args).bind fun args' => (call f args' []).bind fun r =>
  if idFreeL args || (!r.1.hasRd && r.2.all fun o => !HO.hasRd o) then
    if frz then (frzV r.2 140 r.1).map fun v => (v, H)
    else (shiftH H.length r.1 r.2).map fun q => (q.1, H ++ q.2)
  else none
def backOf (n : Nat) (φ : List Nat) (j : Nat) : Option Nat := if j < φ.length then φ[j]? else some (n + (j - φ.length))
def writeBack : Heap → List Nat → Heap → Option Heap
  | H, [], os => some (H ++ os)
  | H, i :: φ, o :: os => writeBack (H.set i o) φ os
  | _, _ :: _, [] => none
def callMut (call : CallF) (f : Nat) (args : List AV) (H : Heap) : Option (AV × Heap) :=
  let φ := reach H 400 [] args
  (subHeap φ args H).bind fun q => (call f q.1 q.2).bind fun r =>
  (r.1.ren (backOf H.length φ)).bind fun v => (renH (backOf H.length φ) r.2).bind fun os =>
  (writeBack H φ os).map fun H => (v, H)
def evE (call : CallF) (H : Heap) : EO → List AV → Option (AV × Heap)
  | .alloc dat zero, [] => (mkHO dat zero).map fun o => (.ptr H.length 0, H ++ [some o])
  | .box dat, [v] => if oneL v.cells then (mkHO dat v.cells).map fun o => (.ptr H.length 0, H ++ [some o]) else none
  | .st n, [p, v] => (stAt H n p v).map fun H => (.undef, H)
  | .bldS dat frz sz len zero places, vs => (fillParts (repl len zero) places vs).bind fun cs =>
    if oneL cs && idFreeL cs && dat && idFreeL vs then some (newRow frz sz len cs H) else none
  | .mkS sz bytes zero, [.int _ n, .int _ c] => if 0 ≤ n ∧ n = c ∧ n ≤ most then some (.sl H.length sz 0 n.toNat, H ++ [some (.data (repl n.toNat zero))]) else none
  | .app frz sz bytes, [x, y] => appOf frz sz H x y
  | .cpy sz, [d, s] => if szOk sz d && szOk sz s then
      (lenOf d).bind fun n => (lenOf s).bind fun m => (rowOf H s).bind fun b =>
      match d with
      | .sl id _ off _ => match H[id]? with
        | some (some (.data c)) => if off + (min m n) * sz ≤ c.length then some (.int .i64 (min m n), H.set id (some (.data (putRow c off (b.take ((min m n) * sz)))))) else none
        | _ => none
      | .nilS => some (.int .i64 0, H)
      | _ => none
    else none
  | .call true frz f, args => callPure call frz f args H
  | .call false _ f, args => callMut call f args H
  | .callv true frz, .fn f cap :: args => callPure call frz f (args ++ cap) H
  | .callv false _, .fn f cap :: args => callMut call f (args ++ cap) H
  | .mkM, [] => some (.mp H.length, H ++ [some (.map [])])
  | .lkM ks ok zero, [m, k] => if keyOk ks k then
      (match m with
        | .nilM => some []
        | .mp id => H.map? id
        | _ => none).bind fun es => (findM ks k es).map fun (o : Option AV) => ((if ok then .tup [o.getD zero, .bool o.isSome] else o.getD zero), H)
    else none
  | .upM ks, [.mp id, k, v] => if keyOk ks k && v.idFree then (H.map? id).bind fun es => (putM ks k v es).map fun es => (.undef, H.set id (some (.map es))) else none
  | .frz, [.sl id sz off len] => (H.data? id).bind fun cs => if off + len * sz ≤ cs.length then some (.rd sz len ((cs.drop off).take (len * sz)), H.set id none) else none
  | .frz, [.nilS] => some (.nilS, H)
  | .frz, [.rd sz len cs] => some (.rd sz len cs, H)
  | .delM ks, [.mp id, k] => if keyOk ks k then (H.map? id).bind fun es => (delM ks k es).map fun es => (.tup [], H.set id (some (.map es))) else none
  | .bldB sz len zero places, vs => (fillParts (repl len zero) places vs).bind fun cs => if oneL cs then some (newBox sz len cs H) else none
  | .mkB sz bytes zero, [.int _ n, .int _ c] => if 0 ≤ n ∧ n = c ∧ n ≤ most then some (newBox sz n.toNat (repl n.toNat zero) H) else none
  | .appB sz bytes, [x, y] => appBOf sz H x y
  | _, _ => none
structure AI where
  op : PO ⊕ EO
  xs : List Opd
  dst : Option Nat
  guard : Option (Nat × Bool)
  keep : List Opd
inductive AC where
  | skip | ret
  | reg (ops : List AI) (ord : Option (List Nat × List Nat × List Nat))
  | seq (a b : AC)
  | cond (c : Opd) (a b : AC)
  | block (id : Nat) (c : AC)
  | loop (c : AC)
  | exit (id : Nat)
  | pre (live : List Nat) (c : AC)
  | fz (s : Nat) (j : Option Nat) (c : AC)
  | rangeF (f : Opd) (p : Nat) (assign body : AC)
  deriving Inhabited
inductive ARes where
  | t (n : Nat)
  | cell (p : Nat) (agg : Bool) (n : Nat)
  deriving Inhabited
structure AFunc where
  np : Nat
  body : AC
  res : List ARes
  deriving Inhabited
abbrev R := Option (AV × Heap)
abbrev KT := Env → Heap → R
def asG : AV → Bool → Option Bool
  | .bool c, b => some (c == b)
  | .tup [], _ => some false
  | _, _ => none
def gdV (c : AV) (b : Bool) (x : Option AV) : Option AV := (asG c b).bind fun t => if t then x else some (.tup [])
def gdE (c : AV) (b : Bool) (H : Heap) (x : Option (AV × Heap)) : Option (AV × Heap) := (asG c b).bind fun t => if t then x else some (.tup [], H)
def ifB (c : AV) (x y : Unit → R) : R := (asB c).bind fun c => if c then x () else y ()
def putE (env : Env) : Option Nat → AV → Env
  | none, _ => env
  | some d, v => (d, v) :: env
def opds (env : Env) : List Opd → List AV
  | [] => []
  | x :: xs => opd env x :: opds env xs
def flatSame : List AV → List AV → Bool
  | [], [] => true
  | .int k a :: r, .int k' b :: s => k == k' && a == b && flatSame r s
  | .bool a :: r, .bool b :: s => a == b && flatSame r s
  | _, _ => false
def keptV (H H' : Heap) : AV → Bool
  | .ptr id _ => match H.cells? id, H'.cells? id with
    | some c, some c' => flatSame c c'
    | _, _ => false
  | .rp _ => true
  | _ => false
def keptOk (H H' : Heap) : List AV → Bool
  | [] => true
  | v :: r => keptV H H' v && keptOk H H' r
def evI (call : CallF) (i : AI) (K : KT) (env : Env) (H : Heap) : R :=
  match i.op, i.guard with
  | .inl p, none => (evP H p (opds env i.xs)).bind fun v => K (putE env i.dst v) H
  | .inl p, some (s, b) => (gdV (look env s) b (evP H p (opds env i.xs))).bind fun v => K (putE env i.dst v) H
  | .inr e, none => (evE call H e (opds env i.xs)).bind fun r => if keptOk H r.2 (opds env i.keep) then K (putE env i.dst r.1) r.2 else none
  | .inr e, some (s, b) => (gdE (look env s) b H (evE call H e (opds env i.xs))).bind fun r => if keptOk H r.2 (opds env i.keep) then K (putE env i.dst r.1) r.2 else none
def evR (call : CallF) : List AI → KT → KT
  | [], K => K
  | i :: r, K => evI call i (evR call r K)
def loopIt : Nat → (KT → KT) → KT
  | 0, _, _, _ => none
  | n + 1, s, env, H => s (loopIt n s) env H
def bindEnv : List Nat → Nat → List AV → Env
  | [], _, _ => []
  | s :: r, i, vs => (s, vs.getD i .undef) :: bindEnv r (i + 1) vs
def looks (env : Env) : List Nat → List AV
  | [] => []
  | s :: r => look env s :: looks env r
abbrev IterF := AV → Heap → Option (List AV)
def rangeIt (step : (Heap → R) → AV → Heap → R) : List AV → (Heap → R) → Heap → R
  | [], K, H => K H
  | x :: xs, K, H => step (rangeIt step xs K) x H
def fzS (env : Env) (H : Heap) (s : Nat) : Option Nat → Option (Env × Heap)
  | none => (evE (fun _ _ _ => none) H .frz [look env s]).map fun r => ((s, r.1) :: env, r.2)
  | some j => match look env s with
    | .ptr id 0 => match H[id]? with
      | some (some (.box cs)) => (evE (fun _ _ _ => none) H .frz [cs.getD j .undef]).bind fun r => match r.2[id]? with
        | some (some (.box cs')) => if r.1.one then some (env, r.2.set id (some (.box (cs'.set j r.1)))) else none
        | _ => none
      | _ => none
    | _ => none
def evC (call : CallF) (it : IterF) (n : Nat) : AC → Nat → KT → (Nat → KT) → KT → KT
  | .skip, _, K, _, _ => K
  | .ret, _, _, _, Rt => Rt
  | .reg ops _, _, K, _, _ => evR call ops K
  | .seq a b, k, K, X, Rt => evC call it n a k (evC call it n b k K X Rt) X Rt
  | .cond c a b, k, K, X, Rt => fun env H => ifB (opd env c) (fun _ => evC call it n a k K X Rt env H) (fun _ => evC call it n b k K X Rt env H)
  | .block id c, k, K, X, Rt => evC call it n c k K (fun i => if i = id then K else X i) Rt
  | .loop c, k, _, X, Rt => loopIt n fun K => evC call it n c k K X Rt
  | .exit i, _, _, X, _ => X i
  | .pre live c, k, K, X, Rt => fun env H => (gc k (looks env live) H).bind fun r => evC call it n c k K X Rt (bindEnv live 0 r.1) r.2
  | .fz s j c, k, K, X, Rt => fun env H => (fzS env H s j).bind fun r => evC call it n c k K X Rt r.1 r.2
  | .rangeF f p assign body, _, K, _, _ => fun env H => (it (opd env f) H).bind fun xs =>
      rangeIt (fun K x H' => evC call it n assign H.length (evC call it n body H.length (fun _ H2 => K H2) (fun _ _ _ => none) (fun _ _ => none)) (fun _ _ _ => none) (fun _ _ => none) (putE env (some p) x) H') xs (fun H' => K env H') H
def resOf (env : Env) (H : Heap) : ARes → Option AV
  | .t n => some (look env n)
  | .cell p agg n => (ldc H n (look env p)).bind (wholeOf agg)
def ress (env : Env) (H : Heap) : List ARes → Option (List AV)
  | [] => some []
  | r :: rs => (resOf env H r).bind fun v => (ress env H rs).map fun vs => v :: vs
def tupOf : List AV → AV
  | [v] => v
  | vs => .tup vs
def envOf : Nat → List AV → Env
  | _, [] => []
  | i, v :: vs => (i, v) :: envOf (i + 1) vs
def finish (k : Nat) (res : List ARes) : KT := fun env H => (ress env H res).bind fun vs => (gc k [tupOf vs] H).bind fun r => some (r.1.getD 0 .undef, r.2)
def evFn (call : CallF) (it : IterF) (n : Nat) (af : AFunc) (args : List AV) (H : Heap) : R :=
  if args.length = af.np then evC call it n af.body H.length (finish H.length af.res) (fun _ _ _ => none) (finish H.length af.res) (envOf 0 args) H else none
def evF (tab : Nat → Option AFunc) (it : IterF) : Nat → CallF
  | 0 => fun _ _ _ => none
  | n + 1 => fun f args H => (tab f).bind fun af => evFn (evF tab it n) it n af args H
def envNoRd : Env → Bool
  | [] => true
  | (_, v) :: r => !v.hasRd && envNoRd r
def yldV (K : KT) (env : Env) (dst : Option Nat) : List AV → R
  | [.yl _, x] => if x.idFree && !x.hasRd && envNoRd env then (K (putE env dst (.bool true)) [none]).bind fun r => match r.1 with
      | .tup ys => some (.tup (x :: ys), r.2)
      | _ => none
    else none
  | _ => none
def evIY (i : AI) (K : KT) (env : Env) (H : Heap) : R :=
  match i.op with
  | .inl p => (match i.guard with
    | none => (evP H p (opds env i.xs)).bind fun v => K (putE env i.dst v) H
    | some (s, b) => (gdV (look env s) b (evP H p (opds env i.xs))).bind fun v => K (putE env i.dst v) H)
  | .inr .yld => (match i.guard with
    | none => yldV K env i.dst (opds env i.xs)
    | some (s, b) => (asG (look env s) b).bind fun t => if t then yldV K env i.dst (opds env i.xs) else K (putE env i.dst (.tup [])) H)
  | .inr _ => none
def evRY : List AI → KT → KT
  | [], K => K
  | i :: r, K => evIY i (evRY r K)
def evCY (n : Nat) : AC → KT → (Nat → KT) → KT → KT
  | .skip, K, _, _ => K
  | .ret, _, _, Rt => Rt
  | .reg ops _, K, _, _ => evRY ops K
  | .seq a b, K, X, Rt => evCY n a (evCY n b K X Rt) X Rt
  | .cond c a b, K, X, Rt => fun env H => ifB (opd env c) (fun _ => evCY n a K X Rt env H) (fun _ => evCY n b K X Rt env H)
  | .block id c, K, X, Rt => evCY n c K (fun i => if i = id then K else X i) Rt
  | .loop c, _, X, Rt => loopIt n fun K => evCY n c K X Rt
  | .exit i, _, X, _ => X i
  | .pre live c, K, X, Rt => fun env H => evCY n c K X Rt (bindEnv live 0 (looks env live)) H
  | .rangeF .., _, _, _ => fun _ _ => none
  | .fz .., _, _, _ => fun _ _ => none
def finY : KT := fun _ _ => some (.tup [], [none])
def itF (tabI : Nat → Option AFunc) (n : Nat) : IterF := fun f H => match f with
  | .fn g cap => (tabI g).bind fun af => (frzL H 140 cap).bind fun cap => if af.np = cap.length + 1 then
      (evCY n af.body finY (fun _ _ _ => none) finY (envOf 0 (.yl 0 :: cap)) [none]).bind fun r => match r.1, r.2 with
        | .tup xs, [none] => some xs
        | _, _ => none
    else none
  | _ => none
structure Place where
  block : Nat
  base : Nat
  lim : Nat
abbrev PlT := Nat → Option Place
abbrev RoT := Addr → Option Value
inductive Rel (F : RoT) (pl : PlT) : AV → Value → Prop
  | undef (v : Value) : Rel F pl .undef v
  | int (k : IntKind) (n : Int) : Rel F pl (.int k n) (.int k n)
  | bool (b : Bool) : Rel F pl (.bool b) (.bool b)
  | nilS : Rel F pl .nilS (.slice none 0 0)
  | nilP : Rel F pl .nilP (.pointer none)
  | nilF : Rel F pl .nilF .nilFunc
  | nilM : Rel F pl .nilM (.map none)
  | rd {a : Addr} {sz len cap : Nat} {cs : List AV} (vs : Nat → Value) (hl : cs.length = len * sz) (hc : len ≤ cap) (hs : 0 < cap → a.spot = none) (hf : idFreeL cs = true ∧ oneL cs = true)
      (hm : ∀ j x, cs[j]? = some x → F ⟨a.block, a.off + j, none⟩ = some (vs j)) (hr : ∀ j x, cs[j]? = some x → Rel F pl x (vs j)) :
      Rel F pl (.rd sz len cs) (.slice (some a) len cap)
  | rp {b o : Nat} {cs : List AV} (vs : Nat → Value) (hf : idFreeL cs = true ∧ oneL cs = true)
      (hm : ∀ j x, cs[j]? = some x → F ⟨b, o + j, none⟩ = some (vs j)) (hr : ∀ j x, cs[j]? = some x → Rel F pl x (vs j)) :
      Rel F pl (.rp cs) (.pointer (some ⟨b, o, none⟩))
  | sl {id sz off len cap : Nat} {p : Place} {a : Addr} (hp : pl id = some p) (hc : len ≤ cap)
      (ha : 0 < cap → a = ⟨p.block, p.base + off, none⟩ ∧ off + cap * sz ≤ p.lim) (hs : a.spot = none) :
      Rel F pl (.sl id sz off len) (.slice (some a) len cap)
  | ptr {id off : Nat} {p : Place} (hp : pl id = some p) : Rel F pl (.ptr id off) (.pointer (some ⟨p.block, p.base + off, none⟩))
  | fn {f : Nat} {cap : List AV} {vs : Array Value} (hl : vs.size = cap.length) (hr : ∀ (j : Nat) x v, cap[j]? = some x → vs[j]? = some v → Rel F pl x v) :
      Rel F pl (.fn f cap) (.func (.func f) #[] vs)
  | agg {cs : List AV} {vs : Array Value} (hl : vs.size = cs.length) (hr : ∀ (j : Nat) x v, cs[j]? = some x → vs[j]? = some v → Rel F pl x v) :
      Rel F pl (.agg cs) (.agg vs)
  | tup {cs : List AV} {vs : Array Value} (hl : vs.size = cs.length) (hr : ∀ (j : Nat) x v, cs[j]? = some x → vs[j]? = some v → Rel F pl x v) :
      Rel F pl (.tup cs) (.tuple vs)
  | mp {id : Nat} {p : Place} (hp : pl id = some p) : Rel F pl (.mp id) (.map (some p.block))
  | yl {id : Nat} {p : Place} (hp : pl id = some p) : Rel F pl (.yl id) (.func (.yield p.block) #[] #[])
def RelL (F : RoT) (pl : PlT) (xs : List AV) (vs : List Value) : Prop :=
  vs.length = xs.length ∧ ∀ (j : Nat) x v, xs[j]? = some x → vs[j]? = some v → Rel F pl x v
theorem RelL.nil {F pl} : RelL F pl [] [] := ⟨rfl, fun j x v h => by simp at h⟩
theorem RelL.cons {F pl x v xs vs} (h : Rel F pl x v) (h' : RelL F pl xs vs) : RelL F pl (x :: xs) (v :: vs) :=
  ⟨by simp [h'.1], fun j y u hy hu => by
    cases j with
    | zero => simp at hy hu; subst hy; subst hu; exact h
    | succ j => simp at hy hu; exact h'.2 j y u hy hu⟩
theorem RelL.uncons {F pl x xs vs} (h : RelL F pl (x :: xs) vs) : ∃ v r, vs = v :: r ∧ Rel F pl x v ∧ RelL F pl xs r := by
  obtain ⟨hl, hr⟩ := h
  cases vs with
  | nil => simp at hl
  | cons v r => exact ⟨v, r, rfl, hr 0 x v rfl rfl, by simpa using hl, fun j y u hy hu => hr (j + 1) y u (by simpa using hy) (by simpa using hu)⟩
theorem RelL.nil_inv {F pl vs} (h : RelL F pl [] vs) : vs = [] := by
  cases vs with
  | nil => rfl
  | cons v r => simp [RelL] at h
theorem RelL.get {F pl xs vs} (h : RelL F pl xs vs) {j : Nat} {x} (hx : xs[j]? = some x) : ∃ v, vs[j]? = some v ∧ Rel F pl x v := by
  have hj : j < vs.length := by rw [h.1]; exact (List.getElem?_eq_some_iff.1 hx).1
  exact ⟨vs[j], List.getElem?_eq_getElem hj, h.2 j x _ hx (List.getElem?_eq_getElem hj)⟩
theorem RelL.append {F pl xs vs ys us} (h : RelL F pl xs vs) (h' : RelL F pl ys us) : RelL F pl (xs ++ ys) (vs ++ us) := by
  induction xs generalizing vs with
  | nil => rw [RelL.nil_inv h]; simpa using h'
  | cons x xs ih =>
    obtain ⟨v, r, rfl, h1, h2⟩ := h.uncons
    exact (ih h2).cons h1
theorem RelL.take {F pl xs vs} (h : RelL F pl xs vs) (n : Nat) : RelL F pl (xs.take n) (vs.take n) :=
  ⟨by simp [h.1], fun j x v hx hv => by
    rw [List.getElem?_take] at hx hv
    split at hx <;> simp_all
    exact h.2 j x v hx hv⟩
theorem RelL.drop {F pl xs vs} (h : RelL F pl xs vs) (n : Nat) : RelL F pl (xs.drop n) (vs.drop n) :=
  ⟨by simp [h.1], fun j x v hx hv => by
    rw [List.getElem?_drop] at hx hv
    exact h.2 _ x v hx hv⟩
theorem rel_agg_iff {F pl cs v} : Rel F pl (.agg cs) v ↔ ∃ vs : Array Value, v = .agg vs ∧ RelL F pl cs vs.toList := by
  constructor
  · intro h
    cases h with
    | agg hl hr => exact ⟨_, rfl, by simpa using hl, fun j x u hx hu => hr j x u hx (by simpa using hu)⟩
  · rintro ⟨vs, rfl, hl, hr⟩
    exact .agg (by simpa using hl) fun j x u hx hu => hr j x u hx (by simpa using hu)
theorem rel_tup_iff {F pl cs v} : Rel F pl (.tup cs) v ↔ ∃ vs : Array Value, v = .tuple vs ∧ RelL F pl cs vs.toList := by
  constructor
  · intro h
    cases h with
    | tup hl hr => exact ⟨_, rfl, by simpa using hl, fun j x u hx hu => hr j x u hx (by simpa using hu)⟩
  · rintro ⟨vs, rfl, hl, hr⟩
    exact .tup (by simpa using hl) fun j x u hx hu => hr j x u hx (by simpa using hu)
theorem rel_fn_iff {F pl f cs v} : Rel F pl (.fn f cs) v ↔ ∃ vs : Array Value, v = .func (.func f) #[] vs ∧ RelL F pl cs vs.toList := by
  constructor
  · intro h
    cases h with
    | fn hl hr => exact ⟨_, rfl, by simpa using hl, fun j x u hx hu => hr j x u hx (by simpa using hu)⟩
  · rintro ⟨vs, rfl, hl, hr⟩
    exact .fn (by simpa using hl) fun j x u hx hu => hr j x u hx (by simpa using hu)
def LeF {α β : Type} (f g : α → Option β) : Prop := ∀ a b, f a = some b → g a = some b
theorem LeF.refl {α β : Type} (f : α → Option β) : LeF f f := fun _ _ h => h
theorem LeF.trans {α β : Type} {f g h : α → Option β} (a : LeF f g) (b : LeF g h) : LeF f h := fun _ _ e => b _ _ (a _ _ e)
theorem Rel.mono {F F' : RoT} {pl pl' : PlT} (hF : LeF F F') (hp : LeF pl pl') {x v} (h : Rel F pl x v) : Rel F' pl' x v := by
  induction h with
  | undef v => exact .undef v
  | int k n => exact .int k n
  | bool b => exact .bool b
  | nilS => exact .nilS
  | nilP => exact .nilP
  | nilF => exact .nilF
  | nilM => exact .nilM
  | rd vs hl hc hs hf hm hr ih => exact .rd vs hl hc hs hf (fun j x hx => hF _ _ (hm j x hx)) ih
  | rp vs hf hm hr ih => exact .rp vs hf (fun j x hx => hF _ _ (hm j x hx)) ih
  | sl h hc ha hs => exact .sl (hp _ _ h) hc ha hs
  | ptr h => exact .ptr (hp _ _ h)
  | fn hl hr ih => exact .fn hl ih
  | agg hl hr ih => exact .agg hl ih
  | tup hl hr ih => exact .tup hl ih
  | mp h => exact .mp (hp _ _ h)
  | yl h => exact .yl (hp _ _ h)
theorem RelL.mono {F F' : RoT} {pl pl' : PlT} (hF : LeF F F') (hp : LeF pl pl') {x v} (h : RelL F pl x v) : RelL F' pl' x v :=
  ⟨h.1, fun j a b ha hb => (h.2 j a b ha hb).mono hF hp⟩
theorem idFreeL_get {xs : List AV} (h : idFreeL xs = true) {j : Nat} {x} (hx : xs[j]? = some x) : x.idFree = true := by
  induction xs generalizing j with
  | nil => simp at hx
  | cons y ys ih =>
    simp only [idFreeL, Bool.and_eq_true] at h
    cases j with
    | zero => simp at hx; subst hx; exact h.1
    | succ j => exact ih h.2 (by simpa using hx)
theorem idFreeL_iff {xs : List AV} : idFreeL xs = true ↔ ∀ x ∈ xs, x.idFree = true := by
  induction xs with
  | nil => simp [idFreeL]
  | cons y ys ih => simp [idFreeL, ih]
theorem idFreeL_append {xs ys : List AV} : idFreeL (xs ++ ys) = (idFreeL xs && idFreeL ys) := by
  induction xs with
  | nil => simp [idFreeL]
  | cons x xs ih => simp [idFreeL, ih, Bool.and_assoc]
theorem oneL_iff {xs : List AV} : oneL xs = true ↔ ∀ x ∈ xs, x.one = true := by
  induction xs with
  | nil => simp [oneL]
  | cons y ys ih => simp [oneL, ih]
theorem oneL_append {xs ys : List AV} : oneL (xs ++ ys) = (oneL xs && oneL ys) := by
  induction xs with
  | nil => simp [oneL]
  | cons x xs ih => simp [oneL, ih, Bool.and_assoc]
theorem fl_drop {cs : List AV} (k : Nat) (h : idFreeL cs = true ∧ oneL cs = true) : idFreeL (cs.drop k) = true ∧ oneL (cs.drop k) = true := by
  rw [idFreeL_iff, oneL_iff] at *
  exact ⟨fun x hx => h.1 x (List.mem_of_mem_drop hx), fun x hx => h.2 x (List.mem_of_mem_drop hx)⟩
theorem fl_take {cs : List AV} (k : Nat) (h : idFreeL cs = true ∧ oneL cs = true) : idFreeL (cs.take k) = true ∧ oneL (cs.take k) = true := by
  rw [idFreeL_iff, oneL_iff] at *
  exact ⟨fun x hx => h.1 x (List.mem_of_mem_take hx), fun x hx => h.2 x (List.mem_of_mem_take hx)⟩
theorem fl_append {cs ds : List AV} (h : idFreeL cs = true ∧ oneL cs = true) (h' : idFreeL ds = true ∧ oneL ds = true) : idFreeL (cs ++ ds) = true ∧ oneL (cs ++ ds) = true := by
  rw [idFreeL_append, oneL_append, h.1, h.2, h'.1, h'.2]
  exact ⟨rfl, rfl⟩
theorem Rel.free {F : RoT} {pl pl' : PlT} {x v} (h : Rel F pl x v) (hx : x.idFree = true) : Rel F pl' x v := by
  induction h with
  | undef v => exact .undef v
  | int k n => exact .int k n
  | bool b => exact .bool b
  | nilS => exact .nilS
  | nilP => exact .nilP
  | nilF => exact .nilF
  | nilM => exact .nilM
  | rd vs hl hc hs hf hm hr ih => exact .rd vs hl hc hs hf hm fun j x hj => ih j x hj (idFreeL_get hf.1 hj)
  | rp vs hf hm hr ih => exact .rp vs hf hm fun j x hj => ih j x hj (idFreeL_get hf.1 hj)
  | sl h hc ha hs => simp [AV.idFree] at hx
  | ptr h => simp [AV.idFree] at hx
  | fn hl hr ih => exact .fn hl fun j x u hj hu => ih j x u hj hu (idFreeL_get (by simpa [AV.idFree] using hx) hj)
  | agg hl hr ih => exact .agg hl fun j x u hj hu => ih j x u hj hu (idFreeL_get (by simpa [AV.idFree] using hx) hj)
  | tup hl hr ih => exact .tup hl fun j x u hj hu => ih j x u hj hu (idFreeL_get (by simpa [AV.idFree] using hx) hj)
  | mp h => simp [AV.idFree] at hx
  | yl h => simp [AV.idFree] at hx
theorem RelL.free {F : RoT} {pl pl' : PlT} {x v} (h : RelL F pl x v) (hx : idFreeL x = true) : RelL F pl' x v :=
  ⟨h.1, fun j a b ha hb => (h.2 j a b ha hb).free (idFreeL_get hx ha)⟩
theorem hasRdL_get {xs : List AV} (h : hasRdL xs = false) {j : Nat} {x} (hx : xs[j]? = some x) : x.hasRd = false := by
  induction xs generalizing j with
  | nil => simp at hx
  | cons y ys ih =>
    simp only [hasRdL, Bool.or_eq_false_iff] at h
    cases j with
    | zero => simp at hx; subst hx; exact h.1
    | succ j => exact ih h.2 (by simpa using hx)
theorem Rel.noRd {F F' : RoT} {pl : PlT} {x v} (h : Rel F pl x v) (hx : x.hasRd = false) : Rel F' pl x v := by
  induction h with
  | undef v => exact .undef v
  | int k n => exact .int k n
  | bool b => exact .bool b
  | nilS => exact .nilS
  | nilP => exact .nilP
  | nilF => exact .nilF
  | nilM => exact .nilM
  | rd vs hl hc hs hf hm hr ih =>
    rename_i a sz len cap cs
    cases cs with
    | nil => exact .rd vs hl hc hs hf (fun j x hx => by simp at hx) (fun j x hx => by simp at hx)
    | cons c cs => simp [AV.hasRd] at hx
  | rp vs hf hm hr ih => simp [AV.hasRd] at hx
  | sl h hc ha hs => exact .sl h hc ha hs
  | ptr h => exact .ptr h
  | fn hl hr ih => exact .fn hl fun j x u hj hu => ih j x u hj hu (hasRdL_get (by simpa [AV.hasRd] using hx) hj)
  | agg hl hr ih => exact .agg hl fun j x u hj hu => ih j x u hj hu (hasRdL_get (by simpa [AV.hasRd] using hx) hj)
  | tup hl hr ih => exact .tup hl fun j x u hj hu => ih j x u hj hu (hasRdL_get (by simpa [AV.hasRd] using hx) hj)
  | mp h => exact .mp h
  | yl h => exact .yl h
theorem renL_get {f : Nat → Option Nat} {xs ys : List AV} (h : renL f xs = some ys) : ys.length = xs.length ∧ ∀ (j : Nat) x y, xs[j]? = some x → ys[j]? = some y → x.ren f = some y := by
  induction xs generalizing ys with
  | nil => simp [renL] at h; subst h; exact ⟨rfl, fun j x y hx => by simp at hx⟩
  | cons x xs ih =>
    simp only [renL, Option.bind_eq_some_iff, Option.map_eq_some_iff] at h
    obtain ⟨y, hy, ys', hys, rfl⟩ := h
    obtain ⟨h1, h2⟩ := ih hys
    refine ⟨by simp [h1], fun j a b ha hb => ?_⟩
    cases j with
    | zero => simp at ha hb; subst ha; subst hb; exact hy
    | succ j => exact h2 j a b (by simpa using ha) (by simpa using hb)
theorem Rel.ren {F : RoT} {pl pl' : PlT} {f : Nat → Option Nat} (hf : ∀ i j p, f i = some j → pl i = some p → pl' j = some p) {x v} (h : Rel F pl x v) :
    ∀ {y}, x.ren f = some y → Rel F pl' y v := by
  have key : ∀ {cs : List AV} {ys : List AV} {vs : Array Value}, (∀ (j : Nat) x v, cs[j]? = some x → vs[j]? = some v → ∀ {y}, x.ren f = some y → Rel F pl' y v) →
      vs.size = cs.length → renL f cs = some ys → vs.size = ys.length ∧ ∀ (j : Nat) x v, ys[j]? = some x → vs[j]? = some v → Rel F pl' x v := by
    intro cs ys vs ih hl hren
    obtain ⟨h1, h2⟩ := renL_get hren
    refine ⟨by omega, fun j y v hy hv => ?_⟩
    have hj : j < cs.length := by have := (List.getElem?_eq_some_iff.1 hy).1; omega
    exact ih j cs[j] v (List.getElem?_eq_getElem hj) hv (h2 j _ y (List.getElem?_eq_getElem hj) hy)
  induction h with
  | undef v => intro y hy; simp [AV.ren] at hy; subst hy; exact .undef v
  | int k n => intro y hy; simp [AV.ren] at hy; subst hy; exact .int k n
  | bool b => intro y hy; simp [AV.ren] at hy; subst hy; exact .bool b
  | nilS => intro y hy; simp [AV.ren] at hy; subst hy; exact .nilS
  | nilP => intro y hy; simp [AV.ren] at hy; subst hy; exact .nilP
  | nilF => intro y hy; simp [AV.ren] at hy; subst hy; exact .nilF
  | nilM => intro y hy; simp [AV.ren] at hy; subst hy; exact .nilM
  | yl h =>
    intro y hy; simp only [AV.ren, Option.map_eq_some_iff] at hy
    obtain ⟨i, hi, rfl⟩ := hy
    exact .yl (hf _ _ _ hi h)
  | rd vs hl hc hs hfr hm hr ih =>
    intro y hy; simp [AV.ren] at hy; subst hy
    exact (Rel.rd (pl := pl) vs hl hc hs hfr hm hr).free rfl
  | rp vs hfr hm hr ih =>
    intro y hy; simp [AV.ren] at hy; subst hy
    exact (Rel.rp (pl := pl) vs hfr hm hr).free rfl
  | sl h hc ha hs =>
    intro y hy; simp only [AV.ren, Option.map_eq_some_iff] at hy
    obtain ⟨i, hi, rfl⟩ := hy
    exact .sl (hf _ _ _ hi h) hc ha hs
  | ptr h =>
    intro y hy; simp only [AV.ren, Option.map_eq_some_iff] at hy
    obtain ⟨i, hi, rfl⟩ := hy
    exact .ptr (hf _ _ _ hi h)
  | mp h =>
    intro y hy; simp only [AV.ren, Option.map_eq_some_iff] at hy
    obtain ⟨i, hi, rfl⟩ := hy
    exact .mp (hf _ _ _ hi h)
  | fn hl hr ih =>
    intro y hy
    simp only [AV.ren] at hy
    split at hy
    · rename_i hfree
      cases hy
      exact (Rel.fn (pl := pl) hl hr).free (by simpa [AV.idFree] using hfree)
    · simp only [Option.map_eq_some_iff] at hy
      obtain ⟨ys, hys, rfl⟩ := hy
      obtain ⟨h1, h2⟩ := key ih hl hys
      exact .fn h1 h2
  | agg hl hr ih =>
    intro y hy
    simp only [AV.ren] at hy
    split at hy
    · rename_i hfree
      cases hy
      exact (Rel.agg (pl := pl) hl hr).free (by simpa [AV.idFree] using hfree)
    · simp only [Option.map_eq_some_iff] at hy
      obtain ⟨ys, hys, rfl⟩ := hy
      obtain ⟨h1, h2⟩ := key ih hl hys
      exact .agg h1 h2
  | tup hl hr ih =>
    intro y hy
    simp only [AV.ren] at hy
    split at hy
    · rename_i hfree
      cases hy
      exact (Rel.tup (pl := pl) hl hr).free (by simpa [AV.idFree] using hfree)
    · simp only [Option.map_eq_some_iff] at hy
      obtain ⟨ys, hys, rfl⟩ := hy
      obtain ⟨h1, h2⟩ := key ih hl hys
      exact .tup h1 h2
theorem RelL.ren {F : RoT} {pl pl' : PlT} {f : Nat → Option Nat} (hf : ∀ i j p, f i = some j → pl i = some p → pl' j = some p) {xs vs ys} (h : RelL F pl xs vs)
    (hr : renL f xs = some ys) : RelL F pl' ys vs := by
  obtain ⟨h1, h2⟩ := renL_get hr
  refine ⟨by rw [h.1, h1], fun j y v hy hv => ?_⟩
  have hj : j < xs.length := by have := (List.getElem?_eq_some_iff.1 hy).1; omega
  exact (h.2 j xs[j] v (List.getElem?_eq_getElem hj) hv).ren hf (h2 j _ y (List.getElem?_eq_getElem hj) hy)
def live (H : Heap) (i : Nat) : Prop := ∃ o, H[i]? = some (some o)
theorem cells?_iff {H : Heap} {i cs} : H.cells? i = some cs ↔ H[i]? = some (some (.data cs)) ∨ H[i]? = some (some (.box cs)) := by
  unfold Heap.cells?
  cases h : H[i]? with
  | none => simp
  | some o => cases o with
    | none => simp
    | some o => cases o <;> simp [HO.cells?]
theorem data?_iff {H : Heap} {i cs} : H.data? i = some cs ↔ H[i]? = some (some (.data cs)) := by
  unfold Heap.data?
  cases h : H[i]? with
  | none => simp
  | some o => cases o with
    | none => simp
    | some o => cases o <;> simp
theorem box?_iff {H : Heap} {i cs} : H.box? i = some cs ↔ H[i]? = some (some (.box cs)) := by
  unfold Heap.box?
  cases h : H[i]? with
  | none => simp
  | some o => cases o with
    | none => simp
    | some o => cases o <;> simp
theorem map?_iff {H : Heap} {i cs} : H.map? i = some cs ↔ H[i]? = some (some (.map cs)) := by
  unfold Heap.map?
  cases h : H[i]? with
  | none => simp
  | some o => cases o with
    | none => simp
    | some o => cases o <;> simp
def MapRel (F : RoT) (pl : PlT) (es : List (AV × AV)) (ces : Array MapEntry) (clock : Nat) : Prop :=
  RelL F pl (es.map (·.1)) (ces.toList.map (·.key)) ∧ RelL F pl (es.map (·.2)) (ces.toList.map (·.val)) ∧ MapKept.Stamped ces clock
structure Inv (F : RoT) (pl : PlT) (H : Heap) (w : World) : Prop where
  fresh : ∀ i, H.length ≤ i → pl i = none
  cell : ∀ i cs, H.cells? i = some cs → ∃ p, pl i = some p ∧ cs.length ≤ p.lim ∧
    (∀ j, j < p.lim → ∃ v, w.cell? ⟨p.block, p.base + j, none⟩ = some v ∧ w.frozen? ⟨p.block, p.base + j, none⟩ = false) ∧
    ∀ (j : Nat) x, cs[j]? = some x → ∃ v, w.cell? ⟨p.block, p.base + j, none⟩ = some v ∧ Rel F pl x v
  data : ∀ i cs, H.data? i = some cs → idFreeL cs = true
  one : ∀ i cs, H.cells? i = some cs → oneL cs = true
  map : ∀ i es, H.map? i = some es → (∀ e ∈ es, e.1.idFree = true ∧ e.2.idFree = true) ∧ ∃ p ces clock, pl i = some p ∧ w.heap[p.block]? = some (.map ces clock) ∧ MapRel F pl es ces clock
  inj : ∀ i j p q, live H i → live H j → pl i = some p → pl j = some q → p.block = q.block → i = j
  ro : ∀ a v, F a = some v → w.cell? a = some v
  sep : ∀ a v i p, F a = some v → live H i → pl i = some p → a.block ≠ p.block
  pos : ∀ i p, live H i → pl i = some p → p.block < w.heap.size
def Own (pl : PlT) (H : Heap) (b : Nat) : Prop := ∃ i p, live H i ∧ pl i = some p ∧ p.block = b
structure Fr (O : Nat → Prop) (w w' : World) : Prop where
  os : w'.os = w.os
  tape : w'.tape = w.tape
  output : w'.output = w.output
  size : w.heap.size ≤ w'.heap.size
  block : ∀ k, k < w.heap.size → ¬ O k → w'.heap[k]? = w.heap[k]?
theorem Fr.refl (O : Nat → Prop) (w : World) : Fr O w w := ⟨rfl, rfl, rfl, Nat.le_refl _, fun _ _ _ => rfl⟩
theorem Fr.drew (O : Nat → Prop) (w : World) : Fr O w w.drew := ⟨rfl, rfl, rfl, Nat.le_refl _, fun _ _ _ => rfl⟩
theorem Fr.alloc (O : Nat → Prop) (w : World) (o : Obj) : Fr O w (w.alloc o) :=
  ⟨rfl, rfl, rfl, by simp, fun k hk _ => by simp only [World.alloc, Array.getElem?_push]; rw [if_neg (by omega)]⟩
theorem Fr.setCell {O : Nat → Prop} (w : World) (a : Addr) (v : Value) (h : O a.block) : Fr O w (w.setCell a v) :=
  ⟨rfl, rfl, rfl, by simp, fun k _ hO => by
    simp only [World.setCell, Array.getElem?_modify]
    rw [if_neg (fun e : a.block = k => hO (e ▸ h))]⟩
theorem Fr.setCells {O : Nat → Prop} (b : Nat) (h : O b) : ∀ (vs : List Value) (o : Nat) (w : World), Fr O w (w.setCells b o vs)
  | [], _, w => Fr.refl _ _
  | v :: r, o, w => by
    have h1 := Fr.setCell (O := O) w ⟨b, o, none⟩ v h
    have h2 := Fr.setCells (O := O) b h r (o + 1) (w.setCell ⟨b, o, none⟩ v)
    exact ⟨h2.os.trans h1.os, h2.tape.trans h1.tape, h2.output.trans h1.output, Nat.le_trans h1.size h2.size,
      fun k hk hO => (h2.block k (by simpa using hk) hO).trans (h1.block k hk hO)⟩
theorem Fr.mono {O O' : Nat → Prop} {w w' : World} (h : Fr O w w') (hO : ∀ k, k < w.heap.size → O k → O' k) : Fr O' w w' :=
  ⟨h.os, h.tape, h.output, h.size, fun k hk hn => h.block k hk fun ho => hn (hO k hk ho)⟩
theorem Fr.trans {O O' : Nat → Prop} {a b c : World} (h : Fr O a b) (k : Fr O' b c) (hO : ∀ i, i < a.heap.size → O' i → O i) : Fr O a c :=
  ⟨k.os.trans h.os, k.tape.trans h.tape, k.output.trans h.output, Nat.le_trans h.size k.size,
    fun i hi hn => (k.block i (Nat.lt_of_lt_of_le hi h.size) fun ho => hn (hO i hi ho)).trans (h.block i hi hn)⟩
structure Stp (F : RoT) (pl : PlT) (H : Heap) (w : World) (F' : RoT) (pl' : PlT) (H' : Heap) (w' : World) : Prop where
  fr : Fr (Own pl H) w w'
  own : ∀ b, Own pl' H' b → Own pl H b ∨ w.heap.size ≤ b
  leF : LeF F F'
  newF : ∀ a v, F' a = some v → F a = some v ∨ Own pl H a.block ∨ w.heap.size ≤ a.block
theorem Stp.refl (F : RoT) (pl : PlT) (H : Heap) (w : World) : Stp F pl H w F pl H w := ⟨Fr.refl _ _, fun b h => .inl h, LeF.refl _, fun _ _ h => .inl h⟩
theorem Stp.trans {F pl H w F1 pl1 H1 w1 F2 pl2 H2 w2} (h : Stp F pl H w F1 pl1 H1 w1) (k : Stp F1 pl1 H1 w1 F2 pl2 H2 w2) : Stp F pl H w F2 pl2 H2 w2 where
  fr := h.fr.trans k.fr fun i hi ho => (h.own i ho).resolve_right (by omega)
  own b hb := by
    rcases k.own b hb with h1 | h1
    · exact h.own b h1
    · exact .inr (Nat.le_trans h.fr.size h1)
  leF := h.leF.trans k.leF
  newF a v hv := by
    rcases k.newF a v hv with h1 | h1 | h1
    · exact h.newF a v h1
    · rcases h.own _ h1 with h2 | h2
      · exact .inr (.inl h2)
      · exact .inr (.inr h2)
    · exact .inr (.inr (Nat.le_trans h.fr.size h1))
theorem Inv.world {F pl H w w'} (h : Inv F pl H w) (hs : w'.heap.size = w.heap.size) (hh : ∀ k : Nat, w'.heap[k]? = w.heap[k]?) : Inv F pl H w' := by
  have hc : ∀ a, w'.cell? a = w.cell? a := fun a => by simp [World.cell?, hh]
  have hz : ∀ a, w'.frozen? a = w.frozen? a := fun a => by simp [World.frozen?, hh]
  exact ⟨h.fresh, fun i cs hi => by simpa only [hc, hz] using h.cell i cs hi, h.data, h.one, fun i es hi => by simpa only [hh] using h.map i es hi, h.inj,
    fun a v hv => by rw [hc]; exact h.ro a v hv, h.sep, fun i p hl hp => by rw [hs]; exact h.pos i p hl hp⟩
theorem Inv.drew {F pl H w} (h : Inv F pl H w) : Inv F pl H w.drew := h.world rfl fun _ => rfl
theorem live_of_cells {H : Heap} {i cs} (h : H.cells? i = some cs) : live H i := by
  rcases cells?_iff.1 h with h | h <;> exact ⟨_, h⟩
theorem cells_of_data {H : Heap} {i cs} (h : H.data? i = some cs) : H.cells? i = some cs := cells?_iff.2 (.inl (data?_iff.1 h))
def extPl (pl : PlT) (n : Nat) (p : Place) : PlT := fun i => if i = n then some p else pl i
theorem extPl_le {pl : PlT} {n p} (h : pl n = none) : LeF pl (extPl pl n p) := fun i q hq => by
  unfold extPl
  split
  · rename_i e; rw [e, h] at hq; cases hq
  · exact hq
theorem extPl_new {pl : PlT} {n p} : extPl pl n p n = some p := by simp [extPl]
theorem extPl_old {pl : PlT} {n p i} (h : i ≠ n) : extPl pl n p i = pl i := by simp [extPl, h]
theorem get_push_old {H : Heap} {o : Option HO} {i : Nat} (h : i ≠ H.length) : (H ++ [o])[i]? = H[i]? := by
  rcases Nat.lt_or_ge i H.length with h' | h'
  · rw [List.getElem?_append_left h']
  · rw [List.getElem?_append_right h', List.getElem?_eq_none h']
    rw [List.getElem?_eq_none]; simp; omega
theorem get_push_new {H : Heap} {o : Option HO} : (H ++ [o])[H.length]? = some o := by simp
theorem live_push_old {H : Heap} {o i} (h : i ≠ H.length) : live (H ++ [o]) i ↔ live H i := by simp only [live, get_push_old h]
theorem cells_push_old {H : Heap} {o i} (h : i ≠ H.length) : Heap.cells? (H ++ [o]) i = H.cells? i := by simp only [Heap.cells?, get_push_old h]
theorem data_push_old {H : Heap} {o i} (h : i ≠ H.length) : Heap.data? (H ++ [o]) i = H.data? i := by simp only [Heap.data?, get_push_old h]
theorem map_push_old {H : Heap} {o i} (h : i ≠ H.length) : Heap.map? (H ++ [o]) i = H.map? i := by simp only [Heap.map?, get_push_old h]
theorem cells_push_new {H : Heap} {o} : Heap.cells? (H ++ [some o]) H.length = o.cells? := by simp [Heap.cells?]
theorem Inv.lt {F pl H w i p} (h : Inv F pl H w) (hp : pl i = some p) : i < H.length := by
  rcases Nat.lt_or_ge i H.length with h' | h'
  · exact h'
  · rw [h.fresh i h'] at hp; cases hp
theorem Inv.push {F pl H w} (h : Inv F pl H w) (o : HO) {cs : List AV} (ho : o.cells? = some cs) (hd : ∀ cs', o = .data cs' → idFreeL cs' = true) (h1 : oneL cs = true) (c : Array Value) (t : TypeId)
    (hl : cs.length ≤ c.size) (hr : ∀ (j : Nat) x v, cs[j]? = some x → c[j]? = some v → Rel F pl x v) :
    Inv F (extPl pl H.length ⟨w.heap.size, 0, c.size⟩) (H ++ [some o]) (w.alloc (.cells c t)) ∧
    Stp F pl H w F (extPl pl H.length ⟨w.heap.size, 0, c.size⟩) (H ++ [some o]) (w.alloc (.cells c t)) ∧ LeF pl (extPl pl H.length ⟨w.heap.size, 0, c.size⟩) := by
  have hle := extPl_le (p := ⟨w.heap.size, 0, c.size⟩) (h.fresh H.length (Nat.le_refl _))
  have hold : ∀ a : Addr, a.block < w.heap.size → (w.alloc (.cells c t)).cell? a = w.cell? a := fun a ha => World.cell?_alloc_lt w _ a ha
  have hfold : ∀ a : Addr, a.block < w.heap.size → (w.alloc (.cells c t)).frozen? a = w.frozen? a := fun a ha => World.frozen?_alloc_old w _ a (Nat.ne_of_lt ha)
  have hblk : ∀ a v, F a = some v → a.block < w.heap.size := fun a v hv => by
    have := h.ro a v hv
    unfold World.cell? at this
    rcases Nat.lt_or_ge a.block w.heap.size with h' | h'
    · exact h'
    · rw [Array.getElem?_eq_none h'] at this; cases this
  refine ⟨⟨fun i hi => ?_, fun i ds hi => ?_, fun i ds hi => ?_, fun i ds hi => ?_, fun i es hi => ?_, fun i j p q hi hj hp hq e => ?_, fun a v hv => ?_, fun a v i p hv hi hp => ?_, fun i p hi hp => ?_⟩, ⟨Fr.alloc _ _ _, ?_, LeF.refl _, fun _ _ hv => .inl hv⟩, hle⟩
  · simp at hi
    rw [extPl_old (by omega)]
    exact h.fresh i (by omega)
  · by_cases e : i = H.length
    · subst e
      rw [cells_push_new, ho] at hi
      cases hi
      refine ⟨_, extPl_new, hl, fun j hj => ?_, fun j x hx => ?_⟩
      · simp only [Nat.zero_add]
        exact ⟨c[j], by rw [World.cell?_alloc_new]; exact Array.getElem?_eq_getElem hj, World.frozen?_alloc_new w _ _ _⟩
      · have hj : j < c.size := Nat.lt_of_lt_of_le (List.getElem?_eq_some_iff.1 hx).1 hl
        simp only [Nat.zero_add]
        exact ⟨c[j], by rw [World.cell?_alloc_new]; exact Array.getElem?_eq_getElem hj, (hr j x _ hx (Array.getElem?_eq_getElem hj)).mono (LeF.refl _) hle⟩
    · rw [cells_push_old e] at hi
      obtain ⟨p, hp, h1, h2, h3⟩ := h.cell i ds hi
      have hb := h.pos i p (live_of_cells hi) hp
      refine ⟨p, hle _ _ hp, h1, fun j hj => ?_, fun j x hx => ?_⟩
      · obtain ⟨v, hv, hf⟩ := h2 j hj
        exact ⟨v, (hold _ hb).trans hv, (hfold _ hb).trans hf⟩
      · obtain ⟨v, hv, hf⟩ := h3 j x hx
        exact ⟨v, (hold _ hb).trans hv, hf.mono (LeF.refl _) hle⟩
  · by_cases e : i = H.length
    · subst e
      rw [data?_iff, get_push_new] at hi
      cases hi
      exact hd _ rfl
    · rw [data_push_old e] at hi
      exact h.data i ds hi
  · by_cases e : i = H.length
    · subst e
      rw [cells_push_new, ho] at hi
      cases hi
      exact h1
    · rw [cells_push_old e] at hi
      exact h.one i ds hi
  · by_cases e : i = H.length
    · subst e
      rw [map?_iff, get_push_new] at hi
      cases hi
      simp [HO.cells?] at ho
    · rw [map_push_old e] at hi
      obtain ⟨h0, p, ces, clock, hp, hw, hm⟩ := h.map i es hi
      have hb := h.pos i p (by exact ⟨_, map?_iff.1 hi⟩) hp
      refine ⟨h0, p, ces, clock, hle _ _ hp, ?_, hm.1.mono (LeF.refl _) hle, hm.2.1.mono (LeF.refl _) hle, hm.2.2⟩
      simp only [World.alloc, Array.getElem?_push]
      rw [if_neg (by omega)]; exact hw
  · have lt : ∀ i p, live (H ++ [some o]) i → extPl pl H.length ⟨w.heap.size, 0, c.size⟩ i = some p → i ≠ H.length → p.block < w.heap.size := fun i p hi hp e => by
      rw [extPl_old e] at hp
      exact h.pos i p ((live_push_old e).1 hi) hp
    by_cases e1 : i = H.length
    · by_cases e2 : j = H.length
      · omega
      · have := lt j q hj hq e2
        subst e1
        rw [extPl_new] at hp; cases hp
        simp at e; omega
    · by_cases e2 : j = H.length
      · have := lt i p hi hp e1
        subst e2
        rw [extPl_new] at hq; cases hq
        simp at e; omega
      · rw [extPl_old e1] at hp
        rw [extPl_old e2] at hq
        exact h.inj i j p q ((live_push_old e1).1 hi) ((live_push_old e2).1 hj) hp hq e
  · rw [hold a (hblk a v hv)]; exact h.ro a v hv
  · by_cases e : i = H.length
    · subst e
      rw [extPl_new] at hp; cases hp
      have := hblk a v hv
      simp; omega
    · rw [extPl_old e] at hp
      exact h.sep a v i p hv ((live_push_old e).1 hi) hp
  · by_cases e : i = H.length
    · subst e
      rw [extPl_new] at hp; cases hp
      simp
    · rw [extPl_old e] at hp
      have := h.pos i p ((live_push_old e).1 hi) hp
      simp; omega
  · rintro b ⟨i, p, hi, hp, rfl⟩
    by_cases e : i = H.length
    · subst e
      rw [extPl_new] at hp; cases hp
      exact .inr (Nat.le_refl _)
    · rw [extPl_old e] at hp
      exact .inl ⟨i, p, (live_push_old e).1 hi, hp, rfl⟩
theorem get_set_ne {H : Heap} {i j : Nat} {o : Option HO} (h : i ≠ j) : (H.set i o)[j]? = H[j]? := List.getElem?_set_ne h
theorem cells_set_ne {H : Heap} {i j o} (h : i ≠ j) : Heap.cells? (H.set i o) j = H.cells? j := by simp only [Heap.cells?, get_set_ne h]
theorem data_set_ne {H : Heap} {i j o} (h : i ≠ j) : Heap.data? (H.set i o) j = H.data? j := by simp only [Heap.data?, get_set_ne h]
theorem map_set_ne {H : Heap} {i j o} (h : i ≠ j) : Heap.map? (H.set i o) j = H.map? j := by simp only [Heap.map?, get_set_ne h]
theorem live_set_ne {H : Heap} {i j o} (h : i ≠ j) : live (H.set i o) j ↔ live H j := by simp only [live, get_set_ne h]
theorem get_set_eq {H : Heap} {i : Nat} {o o' : Option HO} (h : H[i]? = some o') : (H.set i o)[i]? = some o := by
  rw [List.getElem?_set_self (List.getElem?_eq_some_iff.1 h).1]
theorem live_set {H : Heap} {i j o} (hi : live H i) (h : live (H.set i o) j) : live H j := by
  by_cases e : i = j
  · subst e; exact hi
  · exact (live_set_ne e).1 h
theorem Inv.write {F pl H w w'} (h : Inv F pl H w) {i : Nat} {cs : List AV} {p : Place} (hi : H.cells? i = some cs) (hp : pl i = some p) (o : HO) {cs' : List AV} (ho : o.cells? = some cs')
    (hd : ∀ c, o = .data c → idFreeL c = true) (h1' : oneL cs' = true) (hl : cs'.length ≤ p.lim) (hs : w'.heap.size = w.heap.size) (hb : ∀ k : Nat, k ≠ p.block → w'.heap[k]? = w.heap[k]?)
    (hf : ∀ a, w'.frozen? a = w.frozen? a) (hos : w'.os = w.os) (htp : w'.tape = w.tape) (hout : w'.output = w.output)
    (hex : ∀ j, j < p.lim → ∃ v, w'.cell? ⟨p.block, p.base + j, none⟩ = some v)
    (hr : ∀ (j : Nat) x, cs'[j]? = some x → ∃ v, w'.cell? ⟨p.block, p.base + j, none⟩ = some v ∧ Rel F pl x v) :
    Inv F pl (H.set i (some o)) w' ∧ Stp F pl H w F pl (H.set i (some o)) w' := by
  have hlive := live_of_cells hi
  obtain ⟨o', ho'⟩ := hlive
  have hc : ∀ a : Addr, a.block ≠ p.block → w'.cell? a = w.cell? a := fun a ha => by simp [World.cell?, hb _ ha]
  refine ⟨⟨fun k hk => h.fresh k (by simpa using hk), fun k ds hk => ?_, fun k ds hk => ?_, fun k ds hk => ?_, fun k es hk => ?_, fun a b q r ha hb' hq hr' e => ?_, fun a v hv => ?_, fun a v k q hv hk hq => ?_, fun k q hk hq => ?_⟩, ⟨⟨hos, htp, hout, by omega, fun k hk hn => ?_⟩, fun b hb' => ?_, LeF.refl _, fun _ _ hv => .inl hv⟩⟩
  · by_cases e : i = k
    · subst e
      have : Heap.cells? (H.set i (some o)) i = some cs' := by
        rw [show Heap.cells? (H.set i (some o)) i = _ from rfl]
        simp only [Heap.cells?, get_set_eq ho', Option.bind_some]
        exact ho
      rw [this] at hk; cases hk
      refine ⟨p, hp, hl, fun j hj => ?_, hr⟩
      obtain ⟨q, hq, h1, h2, h3⟩ := h.cell i cs hi
      rw [hp] at hq; cases hq
      obtain ⟨v, hv, hz⟩ := h2 j hj
      obtain ⟨v', hv'⟩ := hex j hj
      exact ⟨v', hv', (hf _).trans hz⟩
    · rw [cells_set_ne e] at hk
      obtain ⟨q, hq, h1, h2, h3⟩ := h.cell k ds hk
      have hne : q.block ≠ p.block := fun e' => e (h.inj i k p q ⟨_, ho'⟩ (live_of_cells hk) hp hq e'.symm)
      refine ⟨q, hq, h1, fun j hj => ?_, fun j x hx => ?_⟩
      · obtain ⟨v, hv, hz⟩ := h2 j hj
        exact ⟨v, (hc _ hne).trans hv, (hf _).trans hz⟩
      · obtain ⟨v, hv, hz⟩ := h3 j x hx
        exact ⟨v, (hc _ hne).trans hv, hz⟩
  · by_cases e : i = k
    · subst e
      rw [data?_iff, get_set_eq ho'] at hk
      cases hk
      exact hd _ rfl
    · rw [data_set_ne e] at hk
      exact h.data k ds hk
  · by_cases e : i = k
    · subst e
      have : Heap.cells? (H.set i (some o)) i = some cs' := by
        simp only [Heap.cells?, get_set_eq ho', Option.bind_some]
        exact ho
      rw [this] at hk; cases hk
      exact h1'
    · rw [cells_set_ne e] at hk
      exact h.one k ds hk
  · by_cases e : i = k
    · subst e
      rw [map?_iff, get_set_eq ho'] at hk
      cases hk
      simp [HO.cells?] at ho
    · rw [map_set_ne e] at hk
      obtain ⟨h0, q, ces, clock, hq, hw, hm⟩ := h.map k es hk
      have hne : q.block ≠ p.block := fun e' => e (h.inj i k p q ⟨_, ho'⟩ ⟨_, map?_iff.1 hk⟩ hp hq e'.symm)
      exact ⟨h0, q, ces, clock, hq, (hb _ hne).trans hw, hm⟩
  · exact h.inj a b q r (live_set ⟨_, ho'⟩ ha) (live_set ⟨_, ho'⟩ hb') hq hr' e
  · rw [hc a (h.sep a v i p hv ⟨_, ho'⟩ hp)]
    exact h.ro a v hv
  · exact h.sep a v k q hv (live_set ⟨_, ho'⟩ hk) hq
  · rw [hs]; exact h.pos k q (live_set ⟨_, ho'⟩ hk) hq
  · exact hb k fun e => hn ⟨i, p, ⟨_, ho'⟩, hp, e.symm⟩
  · obtain ⟨k, q, hk, hq, rfl⟩ := hb'
    exact .inl ⟨k, q, live_set ⟨_, ho'⟩ hk, hq, rfl⟩
theorem Inv.kill {F pl H w} (h : Inv F pl H w) (i : Nat) : Inv F pl (H.set i none) w ∧ Stp F pl H w F pl (H.set i none) w := by
  have hlv : ∀ k, live (H.set i none) k → live H k ∧ k ≠ i := fun k ⟨o, hk⟩ => by
    by_cases e : i = k
    · subst e
      rw [List.getElem?_set] at hk
      simp at hk
    · rw [get_set_ne e] at hk; exact ⟨⟨o, hk⟩, fun e' => e e'.symm⟩
  have hc : ∀ k cs, Heap.cells? (H.set i none) k = some cs → H.cells? k = some cs := fun k cs hk => by
    have hne := (hlv k (live_of_cells hk)).2
    rwa [cells_set_ne (Ne.symm hne)] at hk
  refine ⟨⟨fun k hk => h.fresh k (by simpa using hk), fun k ds hk => h.cell k ds (hc k ds hk), fun k ds hk => ?_, fun k ds hk => h.one k ds (hc k ds hk), fun k es hk => ?_, fun a b q r ha hb' hq hr' e => h.inj a b q r (hlv a ha).1 (hlv b hb').1 hq hr' e,
    h.ro, fun a v k q hv hk hq => h.sep a v k q hv (hlv k hk).1 hq, fun k q hk hq => h.pos k q (hlv k hk).1 hq⟩, ⟨Fr.refl _ _, fun b ⟨k, q, hk, hq, e⟩ => .inl ⟨k, q, (hlv k hk).1, hq, e⟩, LeF.refl _, fun _ _ hv => .inl hv⟩⟩
  · have hne := (hlv k ⟨_, data?_iff.1 hk⟩).2
    rw [data_set_ne (Ne.symm hne)] at hk
    exact h.data k ds hk
  · have hne := (hlv k ⟨_, map?_iff.1 hk⟩).2
    rw [map_set_ne (Ne.symm hne)] at hk
    exact h.map k es hk
inductive TK where
  | int (k : IntKind) | bool | slice (e : Nat) | array (n e : Nat) | struct (fs : List (Nat × Nat)) | ptr (e : Nat) | func | map (k e : Nat) | other
structure TS where
  kind : TK
  size : Nat
  bytes : Nat
  zero : List AV
def TK.agg : TK → Bool
  | .array .. => true
  | .struct _ => true
  | _ => false
def kindOk : TypeDesc → TK → Bool
  | .int k, .int k' => k == k'
  | .bool, .bool => true
  | .slice e, .slice e' => e == e'
  | .array n e, .array n' e' => n == n' && e == e'
  | .struct fs, .struct gs => fs.toList.map (fun f => (f.offset, f.type)) == gs
  | .pointer e, .ptr e' => e == e'
  | .func .., .func => true
  | .map k e, .map k' e' => k == k' && e == e'
  | _, _ => false
def constOk : Value → AV → Bool
  | .int k n, .int k' n' => k == k' && n == n'
  | .bool b, .bool b' => b == b'
  | .slice none 0 0, .nilS => true
  | .pointer none, .nilP => true
  | .nilFunc, .nilF => true
  | .map none, .nilM => true
  | _, _ => false
def constsOk : List Value → List AV → Bool
  | [], [] => true
  | v :: vs, x :: xs => constOk v x && constsOk vs xs
  | _, _ => false
def isAggV : Value → Bool
  | .agg _ => true
  | _ => false
def namesOk : TypeDesc → Bool
  | .struct fs => fs.toList.all fun f => f.name != "_"
  | _ => true
def tOkB (P : Program) (t : Nat) (s : TS) : Bool :=
  match P.underlying t, P.info? t with
  | some d, some i => kindOk d s.kind && i.size == s.size && i.bytes == s.bytes && (match i.zero with
    | some z => isAggV z == s.kind.agg && constsOk z.cells.toList s.zero
    | none => false) && (!s.kind.agg || (!P.eqGuardType P.depth t && !P.stoodInHeld t && namesOk d))
  | _, _ => false
abbrev Tab := Nat → Option TS
def TOk (P : Program) (T : Tab) : Prop := ∀ t s, T t = some s → tOkB P t s = true
theorem constOk_rel {F pl v x} (h : constOk v x = true) : Rel F pl x v := by
  unfold constOk at h
  split at h <;> first
    | exact .nilS
    | exact .nilP
    | exact .nilF
    | exact .nilM
    | (simp only [Bool.and_eq_true, beq_iff_eq] at h; obtain ⟨rfl, rfl⟩ := h; exact .int _ _)
    | (simp only [beq_iff_eq] at h; subst h; exact .bool _)
    | cases h
theorem constOk_free {v x} (h : constOk v x = true) : x.idFree = true ∧ x.one = true := by
  unfold constOk at h
  split at h <;> first
    | exact ⟨rfl, rfl⟩
    | cases h
theorem constsOk_rel {F pl} : ∀ {vs : List Value} {xs : List AV}, constsOk vs xs = true → RelL F pl xs vs
  | [], [], _ => .nil
  | v :: vs, x :: xs, h => by
    simp only [constsOk, Bool.and_eq_true] at h
    exact (constsOk_rel h.2).cons (constOk_rel h.1)
  | [], _ :: _, h => by simp [constsOk] at h
  | _ :: _, [], h => by simp [constsOk] at h
theorem constsOk_free : ∀ {vs : List Value} {xs : List AV}, constsOk vs xs = true → idFreeL xs = true
  | [], [], _ => rfl
  | v :: vs, x :: xs, h => by
    simp only [constsOk, Bool.and_eq_true] at h
    simp [idFreeL, (constOk_free h.1).1, constsOk_free h.2]
  | [], _ :: _, h => by simp [constsOk] at h
  | _ :: _, [], h => by simp [constsOk] at h
structure TFact (P : Program) (t : Nat) (s : TS) where
  d : TypeDesc
  i : TypeInfo
  z : Value
  hu : P.underlying t = some d
  hi : P.info? t = some i
  hk : kindOk d s.kind = true
  hs : i.size = s.size
  hb : i.bytes = s.bytes
  hz : i.zero = some z
  ha : isAggV z = s.kind.agg
  hc : constsOk z.cells.toList s.zero = true
  hg : s.kind.agg = true → P.eqGuardType P.depth t = false ∧ P.stoodInHeld t = false ∧ namesOk d = true
theorem tfact {P T t s} (hT : TOk P T) (h : T t = some s) : Nonempty (TFact P t s) := by
  have := hT t s h
  unfold tOkB at this
  split at this
  · rename_i d i hd hi
    simp only [Bool.and_eq_true, beq_iff_eq] at this
    obtain ⟨⟨⟨⟨h1, h2⟩, h3⟩, h4⟩, h5⟩ := this
    split at h4
    · rename_i z hz
      simp only [Bool.and_eq_true, beq_iff_eq] at h4
      exact ⟨⟨d, i, z, hd, hi, h1, h2, h3, hz, h4.1, h4.2, fun ha => by simpa [ha, and_assoc] using h5⟩⟩
    · cases h4
  · cases this
section
variable {P : Program} {t : Nat} {s : TS}
theorem TFact.run_underlying (f : TFact P t s) (w : World) : (underlying t).run P w = .ok f.d w := by simp [underlying, f.hu]
theorem TFact.run_typeInfo (f : TFact P t s) (w : World) : (typeInfo t).run P w = .ok f.i w := by simp [typeInfo, f.hi]
theorem TFact.run_sizeOf (f : TFact P t s) (w : World) : (sizeOf t).run P w = .ok s.size w := by simp [sizeOf, f.run_typeInfo, f.hs]
theorem TFact.run_zero (f : TFact P t s) (w : World) : (zeroValue t).run P w = .ok f.z w := by simp [zeroValue, f.run_typeInfo, f.hz]
theorem TFact.run_isAgg (f : TFact P t s) (w : World) : (isAgg t).run P w = .ok s.kind.agg w := by
  have hk := f.hk
  simp only [isAgg, Sem.run_bind, f.run_underlying, Result.andThen_ok]
  revert hk
  cases f.d <;> cases s.kind <;> simp [kindOk, TK.agg]
end
def okO : Operand → Opd → Bool
  | .tmp t, .t t' => t == t'
  | .const v, .c x => constOk v x
  | .func f, .c (.fn f' []) => f == f'
  | _, _ => false
def okOs : List Operand → List Opd → Bool
  | [], [] => true
  | x :: xs, y :: ys => okO x y && okOs xs ys
  | _, _ => false
structure EnvRel (N : Nat) (F : RoT) (pl : PlT) (env : Env) (tmps : Array Value) : Prop where
  size : tmps.size = N
  rel : ∀ s, Rel F pl (look env s) (tmps.getD s Go.undef)
theorem okO_rel {N F pl env} {a : Act} (he : EnvRel N F pl env a.tmps) {x y} (h : okO x y = true) : Rel F pl (opd env y) (a.eval x) := by
  unfold okO at h
  split at h
  · simp only [beq_iff_eq] at h; subst h; exact he.rel _
  · exact constOk_rel h
  · simp only [beq_iff_eq] at h; subst h
    exact rel_fn_iff.2 ⟨#[], rfl, .nil⟩
  · cases h
theorem okOs_rel {N F pl env} {a : Act} (he : EnvRel N F pl env a.tmps) : ∀ {xs ys}, okOs xs ys = true → RelL F pl (opds env ys) (xs.map a.eval)
  | [], [], _ => .nil
  | x :: xs, y :: ys, h => by
    simp only [okOs, Bool.and_eq_true] at h
    exact (okOs_rel he h.2).cons (okO_rel he h.1)
  | [], _ :: _, h => by simp [okOs] at h
  | _ :: _, [], h => by simp [okOs] at h
def OpdRel (F : RoT) (pl : PlT) (env : Env) (xs : List Opd) (ρ : Operand → Value) : Prop := ∀ ys, okOs ys xs = true → RelL F pl (opds env xs) (ys.map ρ)
theorem EnvRel.opd {N F pl env} {a : Act} (he : EnvRel N F pl env a.tmps) (xs : List Opd) : OpdRel F pl env xs a.eval := fun _ h => okOs_rel he h
theorem EnvRel.put {N F pl env} {a : Act} (he : EnvRel N F pl env a.tmps) (dst : Option Nat) (hd : ∀ d, dst = some d → d < N) {x v} (h : Rel F pl x v) : EnvRel N F pl (putE env dst x) (a.put dst v).tmps := by
  cases dst with
  | none => exact he
  | some d =>
    refine ⟨by simp [Act.put, he.size], fun s => ?_⟩
    simp only [putE, look, Act.put]
    by_cases e : d = s
    · subst e
      have := hd d rfl
      have hs := he.size
      simp only [if_true]
      simpa [Array.getD_eq_getD_getElem?, show d < a.tmps.size by omega] using h
    · simp only [if_neg e]
      have := he.rel s
      simpa [Array.getD_eq_getD_getElem?, Array.getElem?_setIfInBounds_ne e] using this
theorem addr_add (b o n : Nat) : (⟨b, o, none⟩ : Addr).add n = ⟨b, o + n, none⟩ := by unfold Addr.add; split <;> simp_all
theorem ldc_sound {F pl H w n p pv cs} (hI : Inv F pl H w) (hr : Rel F pl p pv) (h : ldc H n p = some cs) :
    ∃ b o, pv = .pointer (some ⟨b, o, none⟩) ∧ ∃ vs : List Value, vs.length = n ∧ RelL F pl cs vs ∧ ∀ (j : Nat) v, vs[j]? = some v → w.cell? ⟨b, o + j, none⟩ = some v := by
  have build : ∀ (b o : Nat), (∀ (j : Nat) x, cs[j]? = some x → ∃ v, w.cell? ⟨b, o + j, none⟩ = some v ∧ Rel F pl x v) →
      ∃ vs : List Value, vs.length = cs.length ∧ RelL F pl cs vs ∧ ∀ (j : Nat) v, vs[j]? = some v → w.cell? ⟨b, o + j, none⟩ = some v := by
    intro b o hh
    refine ⟨(List.range cs.length).map fun j => (w.cell? ⟨b, o + j, none⟩).getD Go.undef, by simp, ⟨by simp, fun j x v hx hv => ?_⟩, fun j v hv => ?_⟩
    · obtain ⟨u, hu, hru⟩ := hh j x hx
      have hj : j < cs.length := (List.getElem?_eq_some_iff.1 hx).1
      simp [hj, hu] at hv
      subst hv; exact hru
    · have hj : j < cs.length := by have := (List.getElem?_eq_some_iff.1 hv).1; simpa using this
      obtain ⟨u, hu, hru⟩ := hh j cs[j] (List.getElem?_eq_getElem hj)
      simp [hj, hu] at hv
      subst hv; exact hu
  cases hr with
  | rp vs hf hm hrr =>
    rename_i b o c
    simp only [ldc] at h
    split at h
    · rename_i hn
      cases h
      refine ⟨b, o, rfl, ?_⟩
      obtain ⟨us, h1, h2, h3⟩ := build b o fun j x hx => by
        rw [List.getElem?_take] at hx
        split at hx
        · exact ⟨vs j, hI.ro _ _ (hm j x hx), hrr j x hx⟩
        · cases hx
      exact ⟨us, by rw [h1]; simp; omega, h2, h3⟩
    · cases h
  | ptr hp =>
    rename_i id off q
    simp only [ldc, getRow, Option.bind_eq_some_iff] at h
    obtain ⟨c, hc, h⟩ := h
    split at h
    · rename_i hn
      cases h
      refine ⟨_, _, rfl, ?_⟩
      obtain ⟨q', hq', h1, h2, h3⟩ := hI.cell id c hc
      rw [hp] at hq'; cases hq'
      obtain ⟨us, g1, g2, g3⟩ := build q.block (q.base + off) fun j x hx => by
        rw [List.getElem?_take] at hx
        split at hx
        · rw [List.getElem?_drop] at hx
          obtain ⟨v, hv, hrv⟩ := h3 (off + j) x hx
          exact ⟨v, by rw [Nat.add_assoc]; exact hv, hrv⟩
        · cases hx
      exact ⟨us, by rw [g1]; simp; omega, g2, g3⟩
    · cases h
  | _ => simp [ldc] at h
theorem wholeOf_sound {F pl agg cs v vs} (hr : RelL F pl cs vs) (h : wholeOf agg cs = some v) :
    Rel F pl v (if agg then .agg vs.toArray else vs.getD 0 Go.undef) ∧ (agg = false → vs.length = 1) := by
  unfold wholeOf at h
  cases agg with
  | true => simp at h; subst h; exact ⟨rel_agg_iff.2 ⟨_, rfl, by simpa using hr⟩, by simp⟩
  | false =>
    simp at h
    split at h
    · cases h
      obtain ⟨u, r, rfl, h1, h2⟩ := hr.uncons
      rw [h2.nil_inv]
      exact ⟨by simpa using h1, by simp⟩
    · cases h
theorem run_loadAt {P : Program} {t s} (f : TFact P t s) {w : World} {b o : Nat} {vs : List Value} (hl : vs.length = s.size) (h1 : s.kind.agg = false → s.size = 1)
    (hc : ∀ (j : Nat) v, vs[j]? = some v → w.cell? ⟨b, o + j, none⟩ = some v) :
    (Instr.loadAt t (.pointer (some ⟨b, o, none⟩))).run P w = .ok (if s.kind.agg then .agg vs.toArray else vs.getD 0 Go.undef) w := by
  simp only [Instr.loadAt, Instr.sureAddr, loadVar, Sem.run_bind, Sem.run_pure, Result.andThen_ok, f.run_isAgg]
  cases ha : s.kind.agg with
  | true =>
    have := run_loadCells_list (P := P) (w := w) ⟨b, o, none⟩ vs (fun j v hv => by rw [addr_add]; exact hc j v hv)
    simp only [if_true, Sem.run_bind, f.run_sizeOf, Result.andThen_ok, ← hl, this, Sem.run_pure]
  | false =>
    have h1 := h1 ha
    cases vs with
    | nil => simp at hl; omega
    | cons v r =>
      have := hc 0 v rfl
      simp at this
      simp [this]
def YV (P : Program) (F : RoT) (pl : PlT) (w : World) (s : Sem Value) (v : AV) : Prop := ∃ u, s.run P w = .ok u w ∧ Rel F pl v u
section
variable {P : Program} {F : RoT} {pl : PlT} {H : Heap} {w : World}
theorem rel_int_inv {k n u} (h : Rel F pl (.int k n) u) : u = .int k n := by cases h; rfl
theorem rel_bool_inv {b u} (h : Rel F pl (.bool b) u) : u = .bool b := by cases h; rfl
theorem kind_bool {d} (h : kindOk d .bool = true) : d = .bool := by cases d <;> simp [kindOk] at h; rfl
theorem kind_int {d k} (h : kindOk d (.int k) = true) : d = .int k := by cases d <;> simp [kindOk] at h; subst h; rfl
theorem kind_slice {d e} (h : kindOk d (.slice e) = true) : d = .slice e := by cases d <;> simp [kindOk] at h; subst h; rfl
theorem kind_array {d n e} (h : kindOk d (.array n e) = true) : d = .array n e := by cases d <;> simp [kindOk] at h; obtain ⟨rfl, rfl⟩ := h; rfl
theorem kind_ptr {d e} (h : kindOk d (.ptr e) = true) : d = .pointer e := by cases d <;> simp [kindOk] at h; subst h; rfl
theorem kind_map {d k e} (h : kindOk d (.map k e) = true) : d = .map k e := by cases d <;> simp [kindOk] at h; obtain ⟨rfl, rfl⟩ := h; rfl
theorem kind_struct {d gs} (h : kindOk d (.struct gs) = true) : ∃ fs, d = .struct fs ∧ fs.toList.map (fun f => (f.offset, f.type)) = gs := by
  cases d <;> simp [kindOk] at h
  rename_i fs
  exact ⟨fs, rfl, h⟩
def TK.isK : TK → Option IntKind → Bool
  | .int k, some k' => k == k'
  | .bool, none => true
  | _, _ => false
theorem equal_cell {t s} (f : TFact P t s) {q : Option IntKind} (hk : s.kind.isK q = true) (d : Nat) {a b : AV} {ua ub : Value} {r : Bool} (ha : Rel F pl a ua) (hb : Rel F pl b ub) (h : eqCells [q] [a] [b] = some r) :
    (Op.equalIn (d + 1) t ua ub).run P w = .ok r w := by
  cases q with
  | some q =>
    cases a <;> cases b <;> simp [eqCells] at h
    rename_i k a k' b
    obtain ⟨⟨rfl, rfl⟩, h⟩ := h
    rw [rel_int_inv ha, rel_int_inv hb]
    cases hs : s.kind <;> simp [hs, TK.isK] at hk
    subst hk
    have := kind_int (hs ▸ f.hk)
    rw [run_equalIn_int w d t _ _ a b (f.hu.trans (by rw [this]))]
    split at h <;> simp_all
  | none =>
    cases a <;> cases b <;> simp [eqCells] at h
    rename_i a b
    rw [rel_bool_inv ha, rel_bool_inv hb]
    cases hs : s.kind <;> simp [hs, TK.isK] at hk
    have := kind_bool (hs ▸ f.hk)
    rw [run_equalIn_bool w d t a b (f.hu.trans (by rw [this]))]
    split at h <;> simp_all
theorem isK_scalar {k : TK} {q} (h : k.isK q = true) : k.agg = false := by cases k <;> cases q <;> simp_all [TK.isK, TK.agg]
theorem run_part_scalar {t s} (f : TFact P t s) (ha : s.kind.agg = false) {xs : Array Value} {j : Nat} {v : Value} (h : xs[j]? = some v) : (part t xs j).run P w = .ok v w := by
  simp [part, f.run_isAgg, ha, h]
theorem eqItems_sound {e s} (f : TFact P e s) {q : Option IntKind} (hk : s.kind.isK q = true) (d : Nat) (xs ys : Array Value) : ∀ (as bs : List AV) (k : Nat) {r : Bool},
    RelL F pl as (xs.toList.drop k) → RelL F pl bs (ys.toList.drop k) → eqCells (List.replicate as.length q) as bs = some r →
    (Op.eqItems (d + 1) e 1 xs ys (List.range' k as.length)).run P w = .ok r w
  | [], bs, k, r, ha, hb, h => by
    cases bs <;> simp [eqCells] at h
    subst h
    simp [Op.eqItems]
  | a :: as, [], k, r, ha, hb, h => by
    simp only [List.length_cons, List.replicate_succ] at h
    cases q <;> cases a <;> simp [eqCells] at h
  | a :: as, b :: bs, k, r, ha, hb, h => by
    obtain ⟨ua, xr, hx, h1, h2⟩ := ha.uncons
    obtain ⟨ub, yr, hy, g1, g2⟩ := hb.uncons
    have ex : xs[k]? = some ua := by
      have : (xs.toList.drop k)[0]? = some ua := by rw [hx]; rfl
      rwa [List.getElem?_drop, Nat.add_zero, Array.getElem?_toList] at this
    have ey : ys[k]? = some ub := by
      have : (ys.toList.drop k)[0]? = some ub := by rw [hy]; rfl
      rwa [List.getElem?_drop, Nat.add_zero, Array.getElem?_toList] at this
    have dx : xs.toList.drop (k + 1) = xr := by rw [← List.tail_drop, hx]; rfl
    have dy : ys.toList.drop (k + 1) = yr := by rw [← List.tail_drop, hy]; rfl
    have hag := isK_scalar hk
    simp only [List.length_cons, List.replicate_succ] at h
    have hcell : ∃ r1, eqCells [q] [a] [b] = some r1 ∧ ((r1 = true ∧ eqCells (List.replicate as.length q) as bs = some r) ∨ (r1 = false ∧ r = false)) := by
      cases q <;> cases a <;> cases b <;> simp only [eqCells] at h ⊢ <;> try (cases h; done)
      · split at h
        · rename_i e; exact ⟨true, by simp [e], .inl ⟨rfl, h⟩⟩
        · rename_i e; cases h; exact ⟨false, by simp [e], .inr ⟨rfl, rfl⟩⟩
      · split at h
        · rename_i e
          split at h
          · rename_i e'; exact ⟨true, by simp [e, e'], .inl ⟨rfl, h⟩⟩
          · rename_i e'; cases h; exact ⟨false, by simp [e, e'], .inr ⟨rfl, rfl⟩⟩
        · cases h
    obtain ⟨r1, hr1, hc⟩ := hcell
    have heq := equal_cell (w := w) f hk d h1 g1 hr1
    simp only [List.length_cons, List.range'_succ, Op.eqItems, Nat.mul_one, Sem.run_bind, run_part_scalar f hag ex, run_part_scalar f hag ey, Result.andThen_ok, heq]
    rcases hc with ⟨rfl, h⟩ | ⟨rfl, rfl⟩
    · simp only [Bool.not_true, Bool.false_eq_true, if_false]
      exact eqItems_sound f hk d xs ys as bs (k + 1) (by rw [dx]; exact h2) (by rw [dy]; exact g2) h
    · simp
def fldsK (T : Tab) : List (Nat × Nat) → KS → Nat → Bool
  | [], [], _ => true
  | (off, t) :: fs, q :: ks, k => off == k && (match T t with
    | some s => s.kind.isK q
    | none => false) && fldsK T fs ks (k + 1)
  | _, _, _ => false
theorem eqFields_sound {T : Tab} (hT : TOk P T) (d : Nat) (xs ys : Array Value) : ∀ (fs : List Field) (ks : KS) (as bs : List AV) (k : Nat) {r : Bool}, fldsK T (fs.map fun f => (f.offset, f.type)) ks k = true → (∀ f ∈ fs, f.name ≠ "_") →
    RelL F pl as (xs.toList.drop k) → RelL F pl bs (ys.toList.drop k) → eqCells ks as bs = some r → (Op.eqFields (d + 1) xs ys fs).run P w = .ok r w
  | [], ks, as, bs, k, r, hf, hn, ha, hb, h => by
    cases ks <;> simp [fldsK] at hf
    cases as <;> cases bs <;> simp [eqCells] at h
    subst h
    simp [Op.eqFields]
  | g :: fs, [], as, bs, k, r, hf, hn, ha, hb, h => by simp [fldsK] at hf
  | g :: fs, q :: ks, [], bs, k, r, hf, hn, ha, hb, h => by cases q <;> simp [eqCells] at h
  | g :: fs, q :: ks, a :: as, [], k, r, hf, hn, ha, hb, h => by cases q <;> cases a <;> simp [eqCells] at h
  | g :: fs, q :: ks, a :: as, b :: bs, k, r, hf, hn, ha, hb, h => by
    obtain ⟨ua, xr, hx, h1, h2⟩ := ha.uncons
    obtain ⟨ub, yr, hy, g1, g2⟩ := hb.uncons
    have ex : xs[k]? = some ua := by
      have : (xs.toList.drop k)[0]? = some ua := by rw [hx]; rfl
      rwa [List.getElem?_drop, Nat.add_zero, Array.getElem?_toList] at this
    have ey : ys[k]? = some ub := by
      have : (ys.toList.drop k)[0]? = some ub := by rw [hy]; rfl
      rwa [List.getElem?_drop, Nat.add_zero, Array.getElem?_toList] at this
    have dx : xs.toList.drop (k + 1) = xr := by rw [← List.tail_drop, hx]; rfl
    have dy : ys.toList.drop (k + 1) = yr := by rw [← List.tail_drop, hy]; rfl
    simp only [List.map_cons, fldsK, Bool.and_eq_true, beq_iff_eq] at hf
    obtain ⟨⟨hoff, hty⟩, hrest⟩ := hf
    split at hty
    · rename_i s hs
      obtain ⟨f⟩ := tfact hT hs
      have hag := isK_scalar hty
      have hcell : ∃ r1, eqCells [q] [a] [b] = some r1 ∧ ((r1 = true ∧ eqCells ks as bs = some r) ∨ (r1 = false ∧ r = false)) := by
        cases q <;> cases a <;> cases b <;> simp only [eqCells] at h ⊢ <;> try (cases h; done)
        · split at h
          · rename_i e; exact ⟨true, by simp [e], .inl ⟨rfl, h⟩⟩
          · rename_i e; cases h; exact ⟨false, by simp [e], .inr ⟨rfl, rfl⟩⟩
        · split at h
          · rename_i e
            split at h
            · rename_i e'; exact ⟨true, by simp [e, e'], .inl ⟨rfl, h⟩⟩
            · rename_i e'; cases h; exact ⟨false, by simp [e, e'], .inr ⟨rfl, rfl⟩⟩
          · cases h
      obtain ⟨r1, hr1, hc⟩ := hcell
      have heq := equal_cell (w := w) f hty d h1 g1 hr1
      have hnm := hn g List.mem_cons_self
      simp only [Op.eqFields, hnm, ne_eq, not_false_eq_true, if_true, hoff, Sem.run_bind, run_part_scalar f hag ex, run_part_scalar f hag ey, Result.andThen_ok, heq]
      rcases hc with ⟨rfl, h⟩ | ⟨rfl, rfl⟩
      · simp only [Bool.not_true, Bool.false_eq_true, if_false]
        exact eqFields_sound hT d xs ys fs ks as bs (k + 1) hrest (fun f hf => hn f (List.mem_cons_of_mem _ hf)) (by rw [dx]; exact h2) (by rw [dy]; exact g2) h
      · simp
    · cases hty
def eqKs (T : Tab) (t : Nat) (ks : KS) : Bool :=
  match T t with
  | some s => match s.kind with
    | .array n e => (match T e, ks with
      | some se, q :: _ => se.size == 1 && se.kind.isK q && ks.length == n && ks.all (fun x => x == q)
      | some _, [] => n == 0
      | _, _ => false)
    | .struct fs => fldsK T fs ks 0
    | .int k => ks == [some k]
    | .bool => ks == [none]
    | _ => false
  | none => false
theorem equal_flat {T : Tab} (hT : TOk P T) {t : Nat} {ks : KS} (hk : eqKs T t ks = true) {as bs : List AV} {xs ys : Array Value} (ha : RelL F pl as xs.toList) (hb : RelL F pl bs ys.toList) {r : Bool}
    (hl : as.length = ks.length) (h : eqCells ks as bs = some r) (hag : ∃ s, T t = some s ∧ s.kind.agg = true) : (Op.equal t (.agg xs) (.agg ys)).run P w = .ok r w := by
  obtain ⟨s, hs, hag⟩ := hag
  simp only [eqKs, hs] at hk
  obtain ⟨f⟩ := tfact hT hs
  obtain ⟨e1, e2, e3⟩ := f.hg hag
  unfold Op.equal Op.maxDepth
  cases hkd : s.kind <;> simp [hkd] at hk <;> simp [hkd, TK.agg] at hag
  · rename_i n e
    have hd := kind_array (hkd ▸ f.hk)
    split at hk
    · rename_i _ _ se q ks' hse
      obtain ⟨fe⟩ := tfact hT hse
      simp only [Bool.and_eq_true, beq_iff_eq, List.all_eq_true] at hk
      obtain ⟨⟨⟨h1, h2⟩, h3⟩, h4⟩ := hk
      have hrep : q :: ks' = List.replicate n q := by
        rw [List.eq_replicate_iff]
        exact ⟨h3, h4⟩
      have hc : P.cellsOf e = 1 := by simp [Program.cellsOf, fe.hi, fe.hs, h1]
      rw [show (10000 : Nat) = 9999 + 1 from rfl, run_equalIn_array w 9999 xs ys (f.hu.trans (by rw [hd])) fe.hi, hc]
      have hlen : as.length = n := by rw [hl, h3]
      rw [hrep, ← hlen] at h
      have := eqItems_sound (w := w) fe h2 9998 xs ys as bs 0 (by simpa using ha) (by simpa using hb) h
      rw [hlen, ← List.range_eq_range'] at this
      exact this
    · rename_i _ _ se hse
      have hn : n = 0 := by simpa using hk
      subst hn
      obtain ⟨fe⟩ := tfact hT hse
      rw [show (10000 : Nat) = 9999 + 1 from rfl, run_equalIn_array w 9999 xs ys (f.hu.trans (by rw [hd])) fe.hi]
      cases as <;> cases bs <;> simp [eqCells] at h
      subst h
      simp [Op.eqItems]
    · cases hk
  · rename_i gs
    obtain ⟨fs, hd, hgs⟩ := kind_struct (hkd ▸ f.hk)
    have hu := f.hu.trans (by rw [hd])
    have hfo : P.fieldsOf t = fs := by simp [Program.fieldsOf, hu]
    rw [show (10000 : Nat) = 9999 + 1 from rfl, run_equalIn_struct w 9999 t xs ys (by rw [hfo]; exact hu) e2, hfo]
    refine eqFields_sound hT 9998 xs ys fs.toList ks as bs 0 (by rw [hgs]; exact hk) (fun g hg => ?_) (by simpa using ha) (by simpa using hb) h
    rw [hd] at e3
    simp only [namesOk, List.all_eq_true, bne_iff_ne] at e3
    exact e3 g hg
end
section
variable {P : Program} {T : Tab} {F : RoT} {pl : PlT} {H : Heap} {w : World}
theorem ld_sound {t s} (f : TFact P t s) (hI : Inv F pl H w) {p pv v} (hr : Rel F pl p pv) (h1 : s.kind.agg = false → s.size = 1) (h : (ldc H s.size p).bind (wholeOf s.kind.agg) = some v) :
    YV P F pl w (Instr.loadAt t pv) v := by
  obtain ⟨cs, hcs, hv⟩ := Option.bind_eq_some_iff.1 h
  obtain ⟨b, o, rfl, vs, hl, hrl, hc⟩ := ldc_sound hI hr hcs
  exact ⟨_, run_loadAt f hl h1 hc, (wholeOf_sound hrl hv).1⟩
theorem bin_sound {op t} {x y : Operand} {a b v} {ua ub} (ha : Rel F pl a ua) (hb : Rel F pl b ub) (h : binV op a b = some v) :
    YV P F pl w (do eqGuard op t x y ua ub; binOp op t ua ub) v := by
  cases a <;> try (simp [binV] at h; done)
  rename_i k a
  cases b <;> try (simp [binV] at h; done)
  rename_i k' b
  rw [rel_int_inv ha, rel_int_inv hb]
  simp only [binV] at h
  have hg : (eqGuard op t x y (.int k a) (.int k' b)).run P w = .ok () w := by
    unfold eqGuard
    cases op <;> simp
  split at h
  · rename_i hsh
    unfold shiftInt at h
    split at h
    · cases h
    · rename_i hn
      cases op <;> simp [isShift] at hsh
      · simp at h; subst h
        refine ⟨_, ?_, Rel.int _ _⟩
        rw [Sem.run_bind, hg, Result.andThen_ok]
        simp [binOp, Op.shift, hn]
      · simp at h; subst h
        refine ⟨_, ?_, Rel.int _ _⟩
        rw [Sem.run_bind, hg, Result.andThen_ok]
        simp [binOp, Op.shift, hn]
  · rename_i hsh
    split at h
    · rename_i hkk
      subst hkk
      cases op <;> simp [isShift] at hsh <;> simp only [binInt] at h <;>
        first
          | (split at h
             · cases h
             · rename_i hz
               cases h
               refine ⟨_, ?_, Rel.int _ _⟩
               rw [Sem.run_bind, hg, Result.andThen_ok]
               simp [binOp, Op.intDiv, hz])
          | (cases h
             refine ⟨_, ?_, Rel.int _ _⟩
             rw [Sem.run_bind, hg, Result.andThen_ok]
             simp [binOp, Op.intArith, Op.intBits]
             done)
          | (cases h
             refine ⟨_, ?_, Rel.bool _⟩
             rw [Sem.run_bind, hg, Result.andThen_ok]
             simp [binOp, Op.intCmp]
             done)
    · cases h
theorem beq_sound {neg t} (hk : ∃ s, T t = some s ∧ s.kind = .bool) (hT : TOk P T) {x y : Operand} {a b : Bool} :
    YV P F pl w (do eqGuard (if neg then .neq else .eql) t x y (.bool a) (.bool b); binOp (if neg then .neq else .eql) t (.bool a) (.bool b)) (negIf neg (a == b)) := by
  obtain ⟨s, hs, hk⟩ := hk
  obtain ⟨f⟩ := tfact hT hs
  have hd := kind_bool (hk ▸ f.hk)
  have hu := f.hu.trans (by rw [hd])
  refine ⟨_, ?_, Rel.bool _⟩
  cases neg <;> simp [eqGuard, binOp, run_equal_bool _ _ _ _ hu, negIf]
theorem eqagg_sound {neg t ks} (hk : eqKs T t ks = true) (hT : TOk P T) (hag : ∃ s, T t = some s ∧ s.kind.agg = true) {x y : Operand} {as bs : List AV} {ua ub v}
    (ha : Rel F pl (.agg as) ua) (hb : Rel F pl (.agg bs) ub) (hl : as.length = ks.length) (h : (eqCells ks as bs).map (negIf neg) = some v) :
    YV P F pl w (do eqGuard (if neg then .neq else .eql) t x y ua ub; binOp (if neg then .neq else .eql) t ua ub) v := by
  obtain ⟨xs, rfl, ha'⟩ := rel_agg_iff.1 ha
  obtain ⟨ys, rfl, hb'⟩ := rel_agg_iff.1 hb
  obtain ⟨r, hr, rfl⟩ := Option.map_eq_some_iff.1 h
  obtain ⟨s, hs, hg⟩ := hag
  obtain ⟨f⟩ := tfact hT hs
  have he := equal_flat (w := w) hT hk ha' hb' hl hr ⟨s, hs, hg⟩
  have hgd := fun op => run_eqGuard_agg (P := P) w op t x y xs ys (f.hg hg).1
  refine ⟨_, ?_, Rel.bool _⟩
  cases neg <;> simp [hgd, binOp, he, negIf]
theorem run_equalIn_nil_ptr (d : Nat) {t e : Nat} {p : Option Addr} (h : P.underlying t = some (.pointer e)) : (Op.equalIn (d + 1) t (.pointer none) (.pointer p)).run P w = .ok p.isNone w := by
  simp only [Op.equalIn, Sem.run_bind, run_underlying h, Result.andThen_ok]
  cases p <;> simp
theorem run_equal_nil_ptr {t e : Nat} {p : Option Addr} (h : P.underlying t = some (.pointer e)) : (Op.equal t (.pointer none) (.pointer p)).run P w = .ok p.isNone w := run_equalIn_nil_ptr 9999 h
theorem eqnil_sound {neg t s} (f : TFact P t s) (hk : (∃ e, s.kind = .slice e) ∨ (∃ k e, s.kind = .map k e) ∨ (∃ e, s.kind = .ptr e)) {x y : Operand} {a b v} {ua ub}
    (ha : Rel F pl a ua) (hb : Rel F pl b ub) (hsl : (∃ e, s.kind = .slice e) → (a = .nilS ∨ b = .nilS)) (hmp : (∃ k e, s.kind = .map k e) → (a = .nilM ∨ b = .nilM)) (hpt : (∃ e, s.kind = .ptr e) → (a = .nilP ∨ b = .nilP))
    (h : (eqNil a b).map (negIf neg) = some v) :
    YV P F pl w (do eqGuard (if neg then .neq else .eql) t x y ua ub; binOp (if neg then .neq else .eql) t ua ub) v := by
  obtain ⟨r, hr, rfl⟩ := Option.map_eq_some_iff.1 h
  refine ⟨_, ?_, Rel.bool _⟩
  rcases hk with ⟨e, hk⟩ | ⟨k, e, hk⟩ | ⟨e, hk⟩
  · have hu : P.underlying t = some (.slice e) := by rw [f.hu, kind_slice (hk ▸ f.hk : kindOk f.d (.slice e) = true)]
    rcases hsl ⟨e, hk⟩ with rfl | rfl
    · cases ha
      cases hb <;> simp [eqNil] at hr <;> subst hr <;> cases neg <;> simp [eqGuard, binOp, Op.equal, Op.maxDepth, run_equalIn_nil_slice w 9999 t e _ _ _ _ _ hu, negIf]
    · cases hb
      cases ha <;> simp [eqNil] at hr <;> subst hr <;> cases neg <;> simp [eqGuard, binOp, run_equal_slice_nil w t e _ _ _ hu, negIf]
  · have hu : P.underlying t = some (.map k e) := by rw [f.hu, kind_map (hk ▸ f.hk : kindOk f.d (.map k e) = true)]
    rcases hmp ⟨k, e, hk⟩ with rfl | rfl
    · cases ha
      cases hb <;> simp [eqNil] at hr <;> subst hr <;> cases neg <;> simp [eqGuard, binOp, Op.equal, Op.maxDepth, run_equalIn_nil_map w 9999 t k e _ hu, negIf]
    · cases hb
      cases ha <;> simp [eqNil] at hr <;> subst hr <;> cases neg <;> simp [eqGuard, binOp, run_equal_map_nil w t k e _ hu, negIf]
  · have hu : P.underlying t = some (.pointer e) := by rw [f.hu, kind_ptr (hk ▸ f.hk : kindOk f.d (.ptr e) = true)]
    have hpe : P.pointee t = e := by simp [Program.pointee, hu]
    rcases hpt ⟨e, hk⟩ with rfl | rfl
    · cases ha
      cases hb <;> simp [eqNil] at hr <;> subst hr <;> cases neg <;> simp [eqGuard, binOp, run_equal_nil_ptr hu, negIf]
    · cases hb
      cases ha <;> simp [eqNil] at hr <;> subst hr <;> cases neg <;> simp [eqGuard, binOp, run_equal_pointer_nil w t _ (by rw [hpe]; exact hu), negIf]
theorem fldA_sound {t : Nat} {s st gs f off} (ft : TFact P t s) (hk : s.kind = .struct gs) {ty : Nat} (hf : gs[f]? = some (off, ty)) (fs : TFact P ty st) (hz : st.size ≠ 0) {p up v} (hp : Rel F pl p up) (h : fldAt off p = some v) :
    YV P F pl w (Instr.fieldAt t up f) v := by
  obtain ⟨fs', hd, hgs⟩ := kind_struct (hk ▸ ft.hk)
  have hfl : ∃ g, fs'[f]? = some g ∧ g.offset = off ∧ g.type = ty := by
    rw [← hgs, List.getElem?_map, Option.map_eq_some_iff] at hf
    obtain ⟨g, hg, he⟩ := hf
    exact ⟨g, by simpa using hg, by injection he, by injection he⟩
  obtain ⟨g, hg, rfl, rfl⟩ := hfl
  have hrun : ∀ b o, (Instr.fieldAt t (.pointer (some ⟨b, o, none⟩)) f).run P w = .ok (.pointer (some ⟨b, o + g.offset, none⟩)) w := fun b o => by
    simp [Instr.fieldAt, ft.run_underlying, hd, hg, Instr.sureAddr, fieldPlace, fs.run_sizeOf, hz, addr_add]
  cases hp <;> simp [fldAt] at h
  · rename_i vs hf hm hr
    subst h
    refine ⟨_, hrun _ _, ?_⟩
    refine Rel.rp (fun j => vs (g.offset + j)) (fl_drop _ hf) (fun j x hx => ?_) fun j x hx => ?_
    · rw [List.getElem?_drop] at hx
      rw [Nat.add_assoc]; exact hm _ x hx
    · rw [List.getElem?_drop] at hx
      exact hr _ x hx
  · rename_i id o q hq
    subst h
    refine ⟨_, hrun _ _, ?_⟩
    rw [Nat.add_assoc]
    exact Rel.ptr hq
theorem drop_rp {b o : Nat} {cs : List AV} {vs : Nat → Value} (k : Nat) (hf : idFreeL cs = true ∧ oneL cs = true) (hm : ∀ (j : Nat) x, cs[j]? = some x → F ⟨b, o + j, none⟩ = some (vs j)) (hr : ∀ (j : Nat) x, cs[j]? = some x → Rel F pl x (vs j)) :
    Rel F pl (.rp (cs.drop k)) (.pointer (some ⟨b, o + k, none⟩)) := by
  refine Rel.rp (fun j => vs (k + j)) (fl_drop _ hf) (fun j x hx => ?_) fun j x hx => ?_
  · rw [List.getElem?_drop] at hx
    rw [Nat.add_assoc]; exact hm _ x hx
  · rw [List.getElem?_drop] at hx
    exact hr _ x hx
theorem idxA_sound {t : Nat} {s se e} (ft : TFact P t s) (hk : s.kind = .slice e) (fe : TFact P e se) {x i ux ui v} (hx : Rel F pl x ux) (hi : Rel F pl i ui) (h : idxSl se.size x i = some v) :
    YV P F pl w (Instr.indexAt t ux ui) v := by
  have hd := kind_slice (hk ▸ ft.hk)
  cases i <;> try (cases x <;> simp [idxSl] at h; done)
  rename_i k i
  rw [rel_int_inv hi]
  have hrun : ∀ b o (len cap : Nat), 0 ≤ i → i < len → (Instr.indexAt t (.slice (some ⟨b, o, none⟩) len cap) (.int k i)).run P w = .ok (.pointer (some ⟨b, o + i.toNat * se.size, none⟩)) w := fun b o len cap h0 h1 => by
    simp [Instr.indexAt, asIntOf, ft.run_underlying, hd, h0, h1, fe.run_sizeOf, addr_add]
  cases hx <;> simp [idxSl] at h
  · rename_i a sz len cap cs vs hl hc hs hf hm hr
    obtain ⟨⟨rfl, h0, h1⟩, rfl⟩ := h
    obtain ⟨ab, ao, asp⟩ := a
    have hs : asp = none := hs (by omega)
    subst hs
    exact ⟨_, hrun _ _ _ _ h0 h1, drop_rp _ hf hm hr⟩
  · rename_i id sz off len cap p a hp hc ha hs
    obtain ⟨⟨rfl, h0, h1⟩, rfl⟩ := h
    obtain ⟨rfl, _⟩ := ha (by omega)
    refine ⟨_, hrun _ _ _ _ h0 h1, ?_⟩
    rw [Nat.add_assoc]
    exact Rel.ptr hp
theorem idxP_sound {t : Nat} {s se n e} (ft : TFact P t s) (hk : s.kind = .array n e) (fe : TFact P e se) {x i ux ui v} (hx : Rel F pl x ux) (hi : Rel F pl i ui) (h : idxPt n se.size x i = some v) :
    YV P F pl w (Instr.indexAt t ux ui) v := by
  have hd := kind_array (hk ▸ ft.hk)
  cases i <;> try (cases x <;> simp [idxPt] at h; done)
  rename_i k i
  rw [rel_int_inv hi]
  have hrun : ∀ b o, 0 ≤ i → i < n → (Instr.indexAt t (.pointer (some ⟨b, o, none⟩)) (.int k i)).run P w = .ok (.pointer (some ⟨b, o + i.toNat * se.size, none⟩)) w := fun b o h0 h1 => by
    simp [Instr.indexAt, asIntOf, ft.run_underlying, hd, h0, h1, fe.run_sizeOf, addr_add, Instr.sureAddr]
  cases hx <;> simp [idxPt] at h
  · rename_i b o cs vs hf hm hr
    obtain ⟨⟨h0, h1⟩, rfl⟩ := h
    exact ⟨_, hrun _ _ h0 h1, drop_rp _ hf hm hr⟩
  · rename_i id off p hp
    obtain ⟨⟨h0, h1⟩, rfl⟩ := h
    refine ⟨_, hrun _ _ h0 h1, ?_⟩
    rw [Nat.add_assoc]
    exact Rel.ptr hp
theorem run_part {t : Nat} {s} (ft : TFact P t s) (h1 : s.kind.agg = false → s.size = 1) {cs : List AV} {vs : Array Value} (hr : RelL F pl cs vs.toList) {off : Nat} {v} (hl : off + s.size ≤ cs.length)
    (h : wholeOf s.kind.agg ((cs.drop off).take s.size) = some v) : YV P F pl w (part t vs off) v := by
  have h2 := (hr.drop off).take s.size
  obtain ⟨h3, h4⟩ := wholeOf_sound h2 h
  have hex : (vs.extract off (off + s.size)).toList = (vs.toList.drop off).take s.size := by
    rw [Array.toList_extract]
    simp [List.extract]
  cases ha : s.kind.agg with
  | true =>
    rw [ha] at h3
    refine ⟨.agg (vs.extract off (off + s.size)), by simp [part, ft.run_isAgg, ha, ft.run_sizeOf], ?_⟩
    rw [show vs.extract off (off + s.size) = ((vs.toList.drop off).take s.size).toArray from by rw [← hex]]
    simpa using h3
  | false =>
    rw [ha] at h3
    have h1 := h1 ha
    have hvl : vs.size = cs.length := by simpa using hr.1
    have hlt : off < vs.size := by omega
    refine ⟨vs[off], by simp [part, ft.run_isAgg, ha, hlt], ?_⟩
    have : ((vs.toList.drop off).take s.size).getD 0 Go.undef = vs[off] := by
      rw [h1]
      simp [List.getD_eq_getElem?_getD, List.getElem?_take, List.getElem?_drop, hlt]
    simp only [Bool.false_eq_true, if_false] at h3
    rw [this] at h3
    exact h3
theorem fld_sound {t : Nat} {s st gs f off} (ft : TFact P t s) (hk : s.kind = .struct gs) {ty : Nat} (hf : gs[f]? = some (off, ty)) (fs : TFact P ty st) (h1 : st.kind.agg = false → st.size = 1) {p up v} (hp : Rel F pl p up)
    (h : fldOf st.kind.agg off st.size p = some v) : YV P F pl w (Instr.field t up f) v := by
  obtain ⟨fs', hd, hgs⟩ := kind_struct (hk ▸ ft.hk)
  have hfl : ∃ g, fs'[f]? = some g ∧ g.offset = off ∧ g.type = ty := by
    rw [← hgs, List.getElem?_map, Option.map_eq_some_iff] at hf
    obtain ⟨g, hg, he⟩ := hf
    exact ⟨g, by simpa using hg, by injection he, by injection he⟩
  obtain ⟨g, hg, rfl, rfl⟩ := hfl
  cases p <;> simp [fldOf] at h
  rename_i cs
  obtain ⟨vs, rfl, hr⟩ := rel_agg_iff.1 hp
  obtain ⟨u, hu, hru⟩ := run_part (w := w) fs h1 hr h.1 h.2
  exact ⟨u, by simp [Instr.field, ft.run_underlying, hd, hg, asAgg, hu], hru⟩
theorem idx_sound {t : Nat} {s se n e} (ft : TFact P t s) (hk : s.kind = .array n e) (fe : TFact P e se) (h1 : se.kind.agg = false → se.size = 1) {x i ux ui v} (hx : Rel F pl x ux) (hi : Rel F pl i ui) (h : idxAg se.kind.agg n se.size x i = some v) :
    YV P F pl w (Instr.index t ux ui) v := by
  have hd := kind_array (hk ▸ ft.hk)
  cases x <;> try (cases i <;> simp [idxAg] at h; done)
  rename_i cs
  cases i <;> try (simp [idxAg] at h; done)
  rename_i k i
  rw [rel_int_inv hi]
  obtain ⟨vs, rfl, hr⟩ := rel_agg_iff.1 hx
  simp [idxAg] at h
  obtain ⟨⟨h0, h2, h3⟩, h⟩ := h
  obtain ⟨u, hu, hru⟩ := run_part (w := w) fe h1 hr h3 h
  exact ⟨u, by simp [Instr.index, asIntOf, ft.run_underlying, hd, h0, h2, fe.run_sizeOf, hu], hru⟩
theorem nilCk_sound {p up v} (hp : Rel F pl p up) (h : nilCk p = some v) : ((∃ a, up = .pointer (some a)) ∨ (∃ f vs, up = .func (.func f) #[] vs)) ∧ Rel F pl v up := by
  cases hp <;> simp [nilCk] at h
  · rename_i vs hf hm hr
    subst h
    exact ⟨.inl ⟨_, rfl⟩, .rp vs hf hm hr⟩
  · rename_i hq
    subst h
    exact ⟨.inl ⟨_, rfl⟩, .ptr hq⟩
  · rename_i hl hr
    subst h
    exact ⟨.inr ⟨_, _, rfl⟩, .fn hl hr⟩
theorem lenOf_sound {x ux n} (hx : Rel F pl x ux) (h : lenOf x = some n) : ∃ a cap, ux = .slice a n cap ∧ n ≤ cap ∧ (a = none → n = 0 ∧ cap = 0) := by
  cases hx <;> simp [lenOf] at h
  · subst h; exact ⟨_, _, rfl, Nat.le_refl _, fun _ => ⟨rfl, rfl⟩⟩
  · subst h; exact ⟨_, _, rfl, by assumption, by simp⟩
  · subst h; exact ⟨_, _, rfl, by assumption, by simp⟩
theorem slcOf_sound {sz l h x ux v} (hx : Rel F pl x ux) (he : slcOf sz l h x = some v) : ∃ a n cap, ux = .slice a n cap ∧ l ≤ h ∧ h ≤ n ∧ n ≤ cap ∧
    ∀ (size : Nat), size = sz → Rel F pl v (.slice (if cap = l then a else a.map (·.add (l * size))) (h - l) (cap - l)) := by
  cases hx <;> simp [slcOf] at he
  · obtain ⟨⟨rfl, rfl⟩, rfl⟩ := he
    exact ⟨_, _, _, rfl, Nat.le_refl _, Nat.le_refl _, Nat.le_refl _, fun size _ => by simpa using Rel.nilS⟩
  · rename_i a sz' len cap cs vs hl hc hsp hf hm hr
    obtain ⟨⟨rfl, h1, h2⟩, rfl⟩ := he
    refine ⟨_, _, _, rfl, h1, h2, hc, fun size hs => ?_⟩
    subst hs
    have key : ∀ a' : Addr, (0 < cap - l → a'.spot = none) → a'.block = a.block → (h - l = 0 ∨ a'.off = a.off + l * size) → Rel F pl (.rd size (h - l) ((cs.drop (l * size)).take ((h - l) * size))) (.slice (some a') (h - l) (cap - l)) := by
      intro a' hs' hb' ho'
      refine Rel.rd (fun j => vs (l * size + j)) ?_ (by omega) hs' (fl_take _ (fl_drop _ hf)) (fun j x hx => ?_) fun j x hx => ?_
      · have h3 : h * size ≤ len * size := Nat.mul_le_mul_right _ h2
        have h4 : (h - l) * size = h * size - l * size := Nat.sub_mul _ _ _
        rw [List.length_take, List.length_drop, hl]
        omega
      · rw [List.getElem?_take] at hx
        split at hx
        · rename_i hj
          rw [List.getElem?_drop] at hx
          rcases ho' with h0 | ho'
          · rw [h0] at hj; omega
          · rw [hb', ho', Nat.add_assoc]; exact hm _ x hx
        · cases hx
      · rw [List.getElem?_take] at hx
        split at hx
        · rw [List.getElem?_drop] at hx
          exact hr _ x hx
        · cases hx
    split
    · rename_i e
      exact key a (fun h0 => by omega) rfl (.inl (by omega))
    · rename_i e
      rw [Option.map_some]
      have hsp := hsp (by omega)
      exact key _ (fun _ => by unfold Addr.add; split <;> simp [hsp]) (by unfold Addr.add; split <;> rfl) (.inr (by unfold Addr.add; split <;> simp_all))
  · rename_i id sz' off len cap p a hp hc ha hsp
    obtain ⟨⟨rfl, h1, h2⟩, rfl⟩ := he
    refine ⟨_, _, _, rfl, h1, h2, hc, fun size hs => ?_⟩
    subst hs
    split
    · rename_i e
      exact Rel.sl hp (by omega) (fun h0 => by omega) hsp
    · rename_i e
      rw [Option.map_some]
      refine Rel.sl hp (by omega) (fun h0 => ?_) (by unfold Addr.add; split <;> simp [hsp])
      obtain ⟨rfl, h5⟩ := ha (by omega)
      have h4 : (cap - l) * size = cap * size - l * size := Nat.sub_mul _ _ _
      have h6 : l * size ≤ cap * size := Nat.mul_le_mul_right _ (by omega)
      exact ⟨by rw [addr_add, Nat.add_assoc], by omega⟩
theorem natOf_sound {x ux n} (hx : Rel F pl x ux) (h : natOf x = some n) : ∃ k, ux = .int k n := by
  cases hx <;> simp [natOf] at h
  obtain ⟨h0, rfl⟩ := h
  rename_i k i
  exact ⟨k, by rw [Int.toNat_of_nonneg h0]⟩
theorem run_sliceBound {k : IntKind} {n y : Nat} {code : BoundsCode} (h : n ≤ y) (w : World) : (Instr.sliceBound (.int k n) y code).run P w = .ok n w := by
  simp [Instr.sliceBound, asIntOf, h]
theorem slc_sound {t : Nat} {s se e} (ft : TFact P t s) (hk : s.kind = .slice e) (fe : TFact P e se) {x ux v} {l h : Nat} {lo hi : Option Value} (hx : Rel F pl x ux) (he : slcOf se.size l h x = some v)
    (hlo : (lo = none ∧ l = 0) ∨ ∃ k, lo = some (.int k l)) (hhi : (hi = none ∧ lenOf x = some h) ∨ ∃ k, hi = some (.int k h)) :
    YV P F pl w (Instr.sliceAt t ux lo hi none) v := by
  have hd := kind_slice (hk ▸ ft.hk)
  obtain ⟨a, n, cap, rfl, h1, h2, h3, h4⟩ := slcOf_sound hx he
  have hb : (Instr.sliceBounds true n cap lo hi none).run P w = .ok (l, h, cap) w := by
    unfold Instr.sliceBounds
    rcases hhi with ⟨rfl, hl⟩ | ⟨k, rfl⟩
    · obtain ⟨a', cap', e1, _⟩ := lenOf_sound hx hl
      cases e1
      rcases hlo with ⟨rfl, rfl⟩ | ⟨k', rfl⟩
      · simp
      · simp [run_sliceBound h1]
    · rcases hlo with ⟨rfl, rfl⟩ | ⟨k', rfl⟩
      · simp [run_sliceBound (Nat.le_trans h2 h3)]
      · simp [run_sliceBound h1, run_sliceBound (Nat.le_trans h2 h3)]
  refine ⟨_, ?_, h4 _ rfl⟩
  simp only [Instr.sliceAt, Sem.run_bind, ft.run_underlying, hd, Result.andThen_ok]
  simp only [Instr.slice, Sem.run_bind, ft.run_underlying, hd, Result.andThen_ok, hb, fe.run_sizeOf, Sem.run_pure]
theorem slcP_sound {t : Nat} {s se n e} (ft : TFact P t s) (hk : s.kind = .array n e) (fe : TFact P e se) {x ux v} {l h : Nat} {lo hi : Option Value} (hI : Inv F pl H w) (hx : Rel F pl x ux)
    (he : slcPOf H n se.size l h x = some v)
    (hlo : (lo = none ∧ l = 0) ∨ ∃ k, lo = some (.int k l)) (hhi : (hi = none ∧ h = n) ∨ ∃ k, hi = some (.int k h)) :
    YV P F pl w (Instr.sliceAt t ux lo hi none) v := by
  have hd := kind_array (hk ▸ ft.hk)
  cases hx <;> simp [slcPOf] at he
  rename_i id off p hp
  obtain ⟨⟨h1, h2, h3⟩, rfl⟩ := he
  obtain ⟨cs0, hcs0⟩ := Option.isSome_iff_exists.1 h3
  obtain ⟨cs, hcs, hle⟩ := Option.bind_eq_some_iff.1 hcs0
  have hle : off + n * se.size ≤ cs.length := by
    split at hle
    · assumption
    · cases hle
  obtain ⟨p', hp', hlim, _⟩ := hI.cell id cs hcs
  rw [hp] at hp'; cases hp'
  have hb : (Instr.sliceBounds false n n lo hi none).run P w = .ok (l, h, n) w := by
    unfold Instr.sliceBounds
    rcases hhi with ⟨rfl, rfl⟩ | ⟨k, rfl⟩
    · rcases hlo with ⟨rfl, rfl⟩ | ⟨k', rfl⟩
      · simp
      · simp [run_sliceBound h1]
    · rcases hlo with ⟨rfl, rfl⟩ | ⟨k', rfl⟩
      · simp [run_sliceBound h2]
      · simp [run_sliceBound h1, run_sliceBound h2]
  refine ⟨.slice (some (if n = l then ⟨p.block, p.base + off, none⟩ else (⟨p.block, p.base + off, none⟩ : Addr).add (l * se.size))) (h - l) (n - l), by simp only [Instr.sliceAt, Sem.run_bind, ft.run_underlying, hd, Result.andThen_ok, Instr.sureAddr, Sem.run_pure, hb, fe.run_sizeOf], ?_⟩
  split
  · rename_i e
    exact Rel.sl hp (by omega) (fun h0 => by omega) rfl
  · refine Rel.sl hp (by omega) (fun h0 => ?_) (by unfold Addr.add; split <;> simp)
    have h4 : (n - l) * se.size = n * se.size - l * se.size := Nat.sub_mul _ _ _
    have h6 : l * se.size ≤ n * se.size := Nat.mul_le_mul_right _ (by omega)
    exact ⟨by rw [addr_add, Nat.add_assoc], by omega⟩
end
section
variable {P : Program} {T : Tab} {F : RoT} {pl : PlT} {H : Heap} {w : World}
theorem cells_rel {x u} (h : Rel F pl x u) (hs : x.solid = true) : RelL F pl x.cells u.cells.toList := by
  cases h <;> first
    | (simp [AV.solid] at hs; done)
    | (rename_i hl hr; exact ⟨by simpa [AV.cells, Value.cells] using hl, fun j a b ha hb => hr j a b (by simpa [AV.cells] using ha) (by simpa [Value.cells] using hb)⟩)
    | skip
  all_goals (refine RelL.cons ?_ RelL.nil)
  · exact .int _ _
  · exact .bool _
  · exact .nilS
  · exact .nilP
  · exact .nilF
  · exact .nilM
  · exact .rd _ (by assumption) (by assumption) (by assumption) (by assumption) (by assumption) (by assumption)
  · exact .rp _ (by assumption) (by assumption) (by assumption)
  · exact .sl (by assumption) (by assumption) (by assumption) (by assumption)
  · exact .ptr (by assumption)
  · exact .fn (by assumption) (by assumption)
  · exact .tup (by assumption) (by assumption)
  · exact .mp (by assumption)
  · exact .yl (by assumption)
theorem RelL.set {xs vs x v} (h : RelL F pl xs vs) (i : Nat) (hx : Rel F pl x v) : RelL F pl (xs.set i x) (vs.set i v) :=
  ⟨by simp [h.1], fun j a b ha hb => by
    rw [List.getElem?_set] at ha hb
    have := h.1
    split at ha
    · rename_i e
      subst e
      simp only [if_true] at hb
      split at ha
      · rename_i hlt
        rw [if_pos (by omega)] at hb
        cases ha; cases hb; exact hx
      · cases ha
    · rename_i e
      rw [if_neg e] at hb
      exact h.2 j a b ha hb⟩
theorem putPart_sound : ∀ (xs : List AV) (vs : List Value) (off k : Nat) (cells : List AV) (arr : Array Value), RelL F pl xs vs → RelL F pl cells arr.toList →
    RelL F pl (putPart cells (off + k) xs) ((vs.zipIdx k).foldl (fun cs (p : Value × Nat) => cs.setIfInBounds (off + p.2) p.1) arr).toList
  | [], vs, off, k, cells, arr, hx, hc => by
    rw [hx.nil_inv]
    simpa [putPart] using hc
  | x :: xs, vs, off, k, cells, arr, hx, hc => by
    obtain ⟨v, r, rfl, h1, h2⟩ := hx.uncons
    rw [List.zipIdx_cons, List.foldl_cons, putPart, Nat.add_assoc]
    exact putPart_sound xs r off (k + 1) _ _ h2 (by rw [Array.toList_setIfInBounds]; exact hc.set _ h1)
theorem putPart_length : ∀ (xs : List AV) (off : Nat) (cells : List AV), (putPart cells off xs).length = cells.length
  | [], _, _ => rfl
  | x :: xs, off, cells => by rw [putPart, putPart_length]; simp
def placesOk (place : Nat → Option (Nat × Nat)) : List Nat → List (Nat × Nat) → Bool
  | [], [] => true
  | i :: is, p :: ps => place i == some p && placesOk place is ps
  | _, _ => false
theorem fill_sound (place : Nat → Option (Nat × Nat)) : ∀ (is : List Nat) (ps : List (Nat × Nat)) (vs : List AV) (us : List Value) (cells : List AV) (arr : Array Value) {cs : List AV},
    placesOk place is ps = true → RelL F pl vs us → RelL F pl cells arr.toList → fillParts cells ps vs = some cs →
    ∃ arr', Instr.fill place arr (is.zip us) = some arr' ∧ RelL F pl cs arr'.toList
  | [], ps, vs, us, cells, arr, cs, hp, hv, hc, h => by
    cases ps <;> simp [placesOk] at hp
    cases vs <;> simp [fillParts] at h
    subst h
    exact ⟨arr, by simp [Instr.fill], hc⟩
  | i :: is, [], vs, us, cells, arr, cs, hp, hv, hc, h => by simp [placesOk] at hp
  | i :: is, (off, n) :: ps, [], us, cells, arr, cs, hp, hv, hc, h => by simp [fillParts] at h
  | i :: is, (off, n) :: ps, v :: vs, us, cells, arr, cs, hp, hv, hc, h => by
    obtain ⟨u, r, rfl, h1, h2⟩ := hv.uncons
    simp only [placesOk, Bool.and_eq_true, beq_iff_eq] at hp
    simp only [fillParts] at h
    split at h
    · rename_i hcond
      obtain ⟨e1, e2, e3⟩ := hcond
      have hcr := cells_rel h1 e3
      have hsz : u.cells.size = n := by rw [← e1, ← hcr.1, Array.length_toList]
      have hal : arr.size = cells.length := by rw [← hc.1, Array.length_toList]
      have hput := putPart_sound v.cells u.cells.toList off 0 cells arr hcr hc
      have hfold : (u.cells.zipIdx.foldl (fun cs (p : Value × Nat) => cs.setIfInBounds (off + p.2) p.1) arr) = ((u.cells.toList.zipIdx 0).foldl (fun cs (p : Value × Nat) => cs.setIfInBounds (off + p.2) p.1) arr) := by
        rw [← Array.foldl_toList, Array.toList_zipIdx]
      obtain ⟨arr', h3, h4⟩ := fill_sound place is ps vs r (putPart cells off v.cells) _ hp.2 h2 hput h
      refine ⟨arr', ?_, h4⟩
      rw [List.zip_cons_cons, Instr.fill, hp.1]
      simp only [hsz, ne_eq, not_true_eq_false, decide_false, Bool.false_or, decide_eq_true_eq]
      rw [if_neg (by omega)]
      rw [← hfold] at h3
      exact h3
    · cases h
theorem run_listMapM {α β : Type} (f : α → Sem β) (g : α → β) : ∀ (l : List α), (∀ x ∈ l, (f x).run P w = .ok (g x) w) → (l.mapM f).run P w = .ok (l.map g) w
  | [], _ => by simp
  | x :: l, h => by
    have ih := run_listMapM f g l fun y hy => h y (List.mem_cons_of_mem _ hy)
    simp [List.mapM_cons, h x List.mem_cons_self, ih]
theorem run_arrayMapM {α β : Type} (f : α → Sem β) (g : α → β) (l : Array α) (h : ∀ x ∈ l, (f x).run P w = .ok (g x) w) : (l.mapM f).run P w = .ok (l.map g) w := by
  obtain ⟨l⟩ := l
  rw [List.mapM_toArray]
  have := run_listMapM (P := P) (w := w) f g l (fun x hx => h x (by simpa using hx))
  simp [this]
def placeOf (T : Tab) (k : TK) (i : Nat) : Option (Nat × Nat) :=
  match k with
  | .struct gs => (gs[i]?).bind fun g => (T g.2).map fun s => (g.1, s.size)
  | .array _ e => (T e).map fun s => (i * s.size, s.size)
  | _ => none
def allT (T : Tab) : List (Nat × Nat) → Bool
  | [] => true
  | g :: gs => (T g.2).isSome && allT T gs
theorem allT_get {gs : List (Nat × Nat)} (h : allT T gs = true) : ∀ g ∈ gs, (T g.2).isSome = true := by
  induction gs with
  | nil => simp
  | cons g gs ih =>
    simp only [allT, Bool.and_eq_true] at h
    intro x hx
    rcases List.mem_cons.1 hx with rfl | hx
    · exact h.1
    · exact ih h.2 x hx
theorem placesOk_mono {f g : Nat → Option (Nat × Nat)} : ∀ {is ps}, (∀ i p, f i = some p → g i = some p) → placesOk f is ps = true → placesOk g is ps = true
  | [], [], _, _ => rfl
  | i :: is, p :: ps, h, hp => by
    simp only [placesOk, Bool.and_eq_true, beq_iff_eq] at hp ⊢
    exact ⟨h _ _ hp.1, placesOk_mono h hp.2⟩
  | [], _ :: _, _, hp => by simp [placesOk] at hp
  | _ :: _, [], _, hp => by simp [placesOk] at hp
theorem build_sound (hT : TOk P T) {t : Nat} {s} (ft : TFact P t s) (hs : (∃ gs, s.kind = .struct gs ∧ allT T gs = true) ∨ ∃ n e, s.kind = .array n e ∧ (T e).isSome = true) {parts : Array (Nat × Value)} {places vs v}
    (hp : placesOk (placeOf T s.kind) (parts.toList.map (·.1)) places = true) (hv : RelL F pl vs (parts.toList.map (·.2))) (h : (fillParts s.zero places vs).map AV.agg = some v) :
    YV P F pl w (Instr.build t parts) v := by
  obtain ⟨cs, hcs, rfl⟩ := Option.map_eq_some_iff.1 h
  have hz : RelL F pl s.zero ft.z.cells.toList := constsOk_rel ft.hc
  have hzip : (parts.toList.map (·.1)).zip (parts.toList.map (·.2)) = parts.toList := by
    rw [List.zip_map']; simp
  rcases hs with ⟨gs, hk, hall⟩ | ⟨n, e, hk, hte⟩
  · obtain ⟨fs, hd, hgs⟩ := kind_struct (hk ▸ ft.hk)
    rw [hk] at hp
    have hm : (fs.mapM fun f => (do pure (f.offset, ← sizeOf f.type) : Sem (Nat × Nat))).run P w = .ok (fs.map fun f => (f.offset, P.cellsOf f.type)) w :=
      run_arrayMapM _ _ fs fun f hf => by
        have : (T f.type).isSome = true := by
          refine allT_get hall (f.offset, f.type) ?_
          rw [← hgs]
          exact List.mem_map.2 ⟨f, by simpa using hf, rfl⟩
        obtain ⟨s', hs'⟩ := Option.isSome_iff_exists.1 this
        obtain ⟨f'⟩ := tfact hT hs'
        simp [f'.run_sizeOf, Program.cellsOf, f'.hi, f'.hs]
    obtain ⟨arr', h1, h2⟩ := fill_sound ((fs.map fun f => (f.offset, P.cellsOf f.type))[·]?) (parts.toList.map (·.1)) places vs (parts.toList.map (·.2)) s.zero ft.z.cells
      (placesOk_mono (fun i p hip => by
        simp only [placeOf, ← hgs, List.getElem?_map, Option.bind_eq_some_iff, Option.map_eq_some_iff] at hip
        obtain ⟨g, ⟨f, hf, rfl⟩, s', hs', rfl⟩ := hip
        obtain ⟨f'⟩ := tfact hT hs'
        have hf' : fs[i]? = some f := by simpa using hf
        simp [hf', Program.cellsOf, f'.hi, f'.hs]) hp) hv hz hcs
    rw [hzip] at h1
    exact ⟨.agg arr', by simp only [Instr.build, Sem.run_bind, ft.run_zero, ft.run_underlying, hd, Result.andThen_ok, hm, h1, Sem.run_pure], rel_agg_iff.2 ⟨_, rfl, h2⟩⟩
  · have hd := kind_array (hk ▸ ft.hk)
    rw [hk] at hp
    obtain ⟨se, hte⟩ := Option.isSome_iff_exists.1 hte
    obtain ⟨fe⟩ := tfact hT hte
    obtain ⟨arr', h1, h2⟩ := fill_sound (fun i => some (i * se.size, se.size)) (parts.toList.map (·.1)) places vs (parts.toList.map (·.2)) s.zero ft.z.cells
      (placesOk_mono (fun i p hip => by simpa [placeOf, hte] using hip) hp) hv hz hcs
    rw [hzip] at h1
    exact ⟨.agg arr', by simp only [Instr.build, Sem.run_bind, ft.run_zero, ft.run_underlying, hd, Result.andThen_ok, fe.run_sizeOf, h1, Sem.run_pure], rel_agg_iff.2 ⟨_, rfl, h2⟩⟩
def hasT (T : Tab) (t : Nat) (p : TS → Bool) : Bool := match T t with
  | some s => p s
  | none => false
theorem hasT_inv {t p} (h : hasT T t p = true) : ∃ s, T t = some s ∧ p s = true := by
  unfold hasT at h
  split at h
  · exact ⟨_, by assumption, h⟩
  · cases h
def okP (T : Tab) (op : Op) (p : PO) (xs : List Opd) : Bool :=
  match op, p with
  | .move x, .mov => okOs [x] xs
  | .assign x, .mov => okOs [x] xs
  | .pick c a b, .pick => okOs [c, a, b] xs
  | .load t a, .ld agg n => hasT T t (fun s => s.kind.agg == agg && s.size == n && (agg || n == 1)) && okOs [a] xs
  | .nilCheck x, .nilc => okOs [x] xs
  | .binOp o _ x y _, .bin o' => o == o' && okOs [x, y] xs
  | .binOp o t x y _, .beq neg => o == (if neg then .neq else .eql) && hasT T t (fun s => s.kind.isK none) && okOs [x, y] xs
  | .binOp o t x y _, .eqagg neg ks => o == (if neg then .neq else .eql) && hasT T t (fun s => s.kind.agg) && eqKs T t ks && okOs [x, y] xs
  | .binOp o t x y _, .eqnil neg => o == (if neg then .neq else .eql) && hasT T t (fun s => match s.kind, xs with
      | .slice _, [_, .c .nilS] => true
      | .slice _, [.c .nilS, _] => true
      | .map _ _, [_, .c .nilM] => true
      | .map _ _, [.c .nilM, _] => true
      | .ptr _, [_, .c .nilP] => true
      | .ptr _, [.c .nilP, _] => true
      | _, _ => false) && okOs [x, y] xs
  | .unOp o _ x, .un o' => o == o' && okOs [x] xs
  | .convert src dst x, .conv k => hasT T src (fun _ => true) && hasT T dst (fun s => s.kind.isK (some k)) && okOs [x] xs
  | .fieldAddr s x f, .fldA off => hasT T s (fun s => match s.kind with
      | .struct gs => (match gs[f]? with
        | some g => g.1 == off && hasT T g.2 (fun s => s.size != 0)
        | none => false)
      | _ => false) && okOs [x] xs
  | .field s x f, .fld agg off n => hasT T s (fun s => match s.kind with
      | .struct gs => (match gs[f]? with
        | some g => g.1 == off && hasT T g.2 (fun s => s.kind.agg == agg && s.size == n && (agg || n == 1))
        | none => false)
      | _ => false) && okOs [x] xs
  | .indexAddr t x i, .idxA sz => hasT T t (fun s => match s.kind with
      | .slice e => hasT T e (fun s => s.size == sz)
      | _ => false) && okOs [x, i] xs
  | .indexAddr t x i, .idxP len sz => hasT T t (fun s => match s.kind with
      | .array n e => n == len && hasT T e (fun s => s.size == sz)
      | _ => false) && okOs [x, i] xs
  | .index t x i, .idx agg len sz => hasT T t (fun s => match s.kind with
      | .array n e => n == len && hasT T e (fun s => s.kind.agg == agg && s.size == sz && (agg || sz == 1))
      | _ => false) && okOs [x, i] xs
  | .slice t x lo hi none, .slc sz l h => hasT T t (fun s => match s.kind with
      | .slice e => hasT T e (fun s => s.size == sz)
      | _ => false) && lo.isSome == l && hi.isSome == h && okOs (x :: (lo.toList ++ hi.toList)) xs
  | .slice t x lo hi none, .slcP len sz l h => hasT T t (fun s => match s.kind with
      | .array n e => n == len && hasT T e (fun s => s.size == sz)
      | _ => false) && lo.isSome == l && hi.isSome == h && okOs (x :: (lo.toList ++ hi.toList)) xs
  | .extract x i, .ext i' => i == i' && okOs [x] xs
  | .build t parts, .bld zero places => hasT T t (fun s => (match s.kind with
      | .struct gs => allT T gs
      | .array _ e => (T e).isSome
      | _ => false) && placesOk (placeOf T s.kind) (parts.toList.map (·.1)) places && sameAV zero s.zero) && okOs (parts.toList.map (·.2)) xs
  | .makeFunc (.func f) first captured, .mkfn f' => f == f' && first.size == 0 && okOs captured.toList xs
  | .call c, .len => c.callee matches .builtin .len && (match c.argTypes[0]? with
      | some t => hasT T t (fun s => match s.kind with
        | .slice _ => true
        | _ => false)
      | none => false) && c.args.size == 1 && okOs c.args.toList xs
  | .call c, .lenM => c.callee matches .builtin .len && (match c.argTypes[0]? with
      | some t => hasT T t (fun s => match s.kind with
        | .map _ _ => true
        | _ => false)
      | none => false) && c.args.size == 1 && okOs c.args.toList xs
  | .call c, .mx => c.callee matches .builtin .max && c.args.size == 2 && okOs c.args.toList xs
  | .call c, .mn => c.callee matches .builtin .min && c.args.size == 2 && okOs c.args.toList xs
  | .makeInterface _ _, .fail => true
  | .panic _, .fail => true
  | _, _ => false
where
  sameAV : List AV → List AV → Bool
    | [], [] => true
    | .int k n :: xs, .int k' n' :: ys => k == k' && n == n' && sameAV xs ys
    | .bool b :: xs, .bool b' :: ys => b == b' && sameAV xs ys
    | .nilS :: xs, .nilS :: ys => sameAV xs ys
    | .nilP :: xs, .nilP :: ys => sameAV xs ys
    | .nilF :: xs, .nilF :: ys => sameAV xs ys
    | .nilM :: xs, .nilM :: ys => sameAV xs ys
    | _, _ => false
theorem sameAV_eq : ∀ {xs ys : List AV}, okP.sameAV xs ys = true → xs = ys
  | [], [], _ => rfl
  | x :: xs, y :: ys, h => by
    cases x <;> cases y <;> simp only [okP.sameAV, Bool.and_eq_true, beq_iff_eq, Bool.false_eq_true] at h
    · rw [h.1.1, h.1.2, sameAV_eq h.2]
    · rw [h.1, sameAV_eq h.2]
    · rw [sameAV_eq h]
    · rw [sameAV_eq h]
    · rw [sameAV_eq h]
    · rw [sameAV_eq h]
  | [], _ :: _, h => by simp [okP.sameAV] at h
  | x :: _, [], h => by cases x <;> simp [okP.sameAV] at h
end
section
variable {P : Program} {T : Tab} {F : RoT} {pl : PlT} {H : Heap} {w : World} {N : Nat} {env : Env} {a : Act}
theorem rel1 {ys u} (h : RelL F pl ys [u]) : ∃ y, ys = [y] ∧ Rel F pl y u := by
  cases ys with
  | nil => simp [RelL] at h
  | cons y r =>
    obtain ⟨v, r', e, h1, h2⟩ := h.uncons
    cases e
    cases r with
    | nil => exact ⟨y, rfl, h1⟩
    | cons z s => simp [RelL] at h2
theorem relC {ys u us} (h : RelL F pl ys (u :: us)) : ∃ y r, ys = y :: r ∧ Rel F pl y u ∧ RelL F pl r us := by
  cases ys with
  | nil => simp [RelL] at h
  | cons y r =>
    obtain ⟨v, r', e, h1, h2⟩ := h.uncons
    cases e
    exact ⟨y, r, rfl, h1, h2⟩
theorem rel0 {ys} (h : RelL F pl ys []) : ys = [] := by
  cases ys with
  | nil => rfl
  | cons y r => simp [RelL] at h
theorem rel2 {ys u v} (h : RelL F pl ys [u, v]) : ∃ x y, ys = [x, y] ∧ Rel F pl x u ∧ Rel F pl y v := by
  obtain ⟨x, r, rfl, h1, h2⟩ := relC h
  obtain ⟨y, rfl, h3⟩ := rel1 h2
  exact ⟨x, y, rfl, h1, h3⟩
theorem rel3 {ys u v t} (h : RelL F pl ys [u, v, t]) : ∃ x y z, ys = [x, y, z] ∧ Rel F pl x u ∧ Rel F pl y v ∧ Rel F pl z t := by
  obtain ⟨x, r, rfl, h1, h2⟩ := relC h
  obtain ⟨y, z, rfl, h3⟩ := rel2 h2
  exact ⟨x, y, z, rfl, h1, h3⟩
theorem size_one {α : Type} {xs : Array α} (h : xs.size = 1) : ∃ x, xs = #[x] := by
  obtain ⟨l⟩ := xs
  cases l with
  | nil => simp at h
  | cons x r => cases r with
    | nil => exact ⟨x, rfl⟩
    | cons y s => simp at h
theorem size_two {α : Type} {xs : Array α} (h : xs.size = 2) : ∃ x y, xs = #[x, y] := by
  obtain ⟨l⟩ := xs
  cases l with
  | nil => simp at h
  | cons x r => cases r with
    | nil => simp at h
    | cons y s => cases s with
      | nil => exact ⟨x, y, rfl⟩
      | cons z t => simp at h
def Yields1 (P : Program) (F : RoT) (pl : PlT) (w : World) (s : Sem Next) (v : AV) : Prop := ∃ u, s.run P w = .ok (.value u) w ∧ Rel F pl v u
theorem YV.yields {s : Sem Value} {v} (h : YV P F pl w s v) : Yields1 P F pl w (do pure (.value (← s))) v := by
  obtain ⟨u, hu, hr⟩ := h
  exact ⟨u, by simp [hu], hr⟩
theorem isK_int {k : TK} {q} (h : k.isK (some q) = true) : k = .int q := by cases k <;> simp [TK.isK] at h; rw [h]
theorem isK_bool {k : TK} (h : k.isK none = true) : k = .bool := by cases k <;> simp [TK.isK] at h; rfl
theorem evP_sound (hT : TOk P T) (hI : Inv F pl H w) {o : Oper} {p : PO} {xs : List Opd} (he : OpdRel F pl env xs a.eval) {v : AV} (hok : okP T o.op p xs = true) (h : evP H p (opds env xs) = some v) :
    Yields1 P F pl w (execOp a.eval o) v := by
  obtain ⟨dst, op, type, pos, after, guard⟩ := o
  dsimp only at hok
  unfold okP at hok
  split at hok
  · -- move
    obtain ⟨y, e, hr⟩ := rel1 (he _ hok)
    rw [e] at h
    simp [evP] at h; subst h
    exact ⟨_, rfl, hr⟩
  · -- assign
    obtain ⟨y, e, hr⟩ := rel1 (he _ hok)
    rw [e] at h
    simp [evP] at h; subst h
    exact ⟨_, rfl, hr⟩
  · -- pick
    obtain ⟨c, x, y, e, h1, h2, h3⟩ := rel3 (he _ hok)
    rw [e] at h
    simp only [evP, Option.bind_eq_some_iff] at h
    obtain ⟨b, hb, h⟩ := h
    cases c <;> simp [asB] at hb
    subst hb
    have := rel_bool_inv h1
    cases h
    refine ⟨_, by simp [execOp, this, asBool]; rfl, ?_⟩
    split <;> assumption
  · -- load
    simp only [Bool.and_eq_true] at hok
    obtain ⟨s, hs, hc⟩ := hasT_inv hok.1
    simp only [Bool.and_eq_true, beq_iff_eq, Bool.or_eq_true] at hc
    obtain ⟨⟨rfl, rfl⟩, hn⟩ := hc
    obtain ⟨f⟩ := tfact hT hs
    obtain ⟨y, e, hr⟩ := rel1 (he _ hok.2)
    rw [e] at h
    exact (ld_sound f hI hr (fun ha => by rw [ha] at hn; simpa using hn) h).yields
  · -- nilCheck
    obtain ⟨y, e, hr⟩ := rel1 (he _ hok)
    rw [e] at h
    obtain ⟨h1, h2⟩ := nilCk_sound hr h
    rcases h1 with ⟨b, hb⟩ | ⟨f, vs, hb⟩
    · exact ⟨_, by simp only [execOp, hb]; rfl, by rw [← hb]; exact h2⟩
    · exact ⟨_, by simp only [execOp, hb]; rfl, by rw [← hb]; exact h2⟩
  · -- binOp
    simp only [Bool.and_eq_true, beq_iff_eq] at hok
    obtain ⟨rfl, hok⟩ := hok
    obtain ⟨x, y, e, h1, h2⟩ := rel2 (he _ hok)
    rw [e] at h
    exact (bin_sound h1 h2 h).yields
  · -- beq
    simp only [Bool.and_eq_true, beq_iff_eq] at hok
    obtain ⟨⟨rfl, ht⟩, hok⟩ := hok
    obtain ⟨s, hs, hk⟩ := hasT_inv ht
    obtain ⟨x, y, e, h1, h2⟩ := rel2 (he _ hok)
    rw [e] at h
    cases x <;> try (simp [evP] at h; done)
    cases y <;> simp [evP] at h
    subst h
    have e1 := rel_bool_inv h1
    have e2 := rel_bool_inv h2
    simp only [execOp, e1, e2]
    exact (beq_sound ⟨s, hs, isK_bool hk⟩ hT).yields
  · -- eqagg
    simp only [Bool.and_eq_true, beq_iff_eq] at hok
    obtain ⟨⟨⟨rfl, ht⟩, hk⟩, hok⟩ := hok
    obtain ⟨s, hs, hg⟩ := hasT_inv ht
    obtain ⟨x, y, e, h1, h2⟩ := rel2 (he _ hok)
    rw [e] at h
    cases x <;> try (simp [evP] at h; done)
    cases y <;> try (simp [evP] at h; done)
    simp only [evP] at h
    split at h
    · rename_i hl
      exact (eqagg_sound hk hT ⟨s, hs, hg⟩ h1 h2 hl h).yields
    · cases h
  · -- eqnil
    simp only [Bool.and_eq_true, beq_iff_eq] at hok
    obtain ⟨⟨rfl, ht⟩, hok⟩ := hok
    obtain ⟨s, hs, hk⟩ := hasT_inv ht
    obtain ⟨f⟩ := tfact hT hs
    obtain ⟨x, y, e, h1, h2⟩ := rel2 (he _ hok)
    rw [e] at h
    simp only [evP] at h
    split at hk <;> try (cases hk; done)
    all_goals simp only [opds, opd, List.cons.injEq, and_true] at e
    all_goals obtain ⟨e1, e2⟩ := e
    · obtain ⟨e0, hsk⟩ : ∃ e0, s.kind = .slice e0 := ⟨_, by assumption⟩
      exact (eqnil_sound f (.inl ⟨_, hsk⟩) h1 h2 (fun _ => .inr e2.symm) (by simp [hsk]) (by simp [hsk]) h).yields
    · obtain ⟨e0, hsk⟩ : ∃ e0, s.kind = .slice e0 := ⟨_, by assumption⟩
      exact (eqnil_sound f (.inl ⟨_, hsk⟩) h1 h2 (fun _ => .inl e1.symm) (by simp [hsk]) (by simp [hsk]) h).yields
    · obtain ⟨k0, e0, hsk⟩ : ∃ k0 e0, s.kind = .map k0 e0 := ⟨_, _, by assumption⟩
      exact (eqnil_sound f (.inr (.inl ⟨_, _, hsk⟩)) h1 h2 (by simp [hsk]) (fun _ => .inr e2.symm) (by simp [hsk]) h).yields
    · obtain ⟨k0, e0, hsk⟩ : ∃ k0 e0, s.kind = .map k0 e0 := ⟨_, _, by assumption⟩
      exact (eqnil_sound f (.inr (.inl ⟨_, _, hsk⟩)) h1 h2 (by simp [hsk]) (fun _ => .inl e1.symm) (by simp [hsk]) h).yields
    · obtain ⟨e0, hsk⟩ : ∃ e0, s.kind = .ptr e0 := ⟨_, by assumption⟩
      exact (eqnil_sound f (.inr (.inr ⟨_, hsk⟩)) h1 h2 (by simp [hsk]) (by simp [hsk]) (fun _ => .inr e2.symm) h).yields
    · obtain ⟨e0, hsk⟩ : ∃ e0, s.kind = .ptr e0 := ⟨_, by assumption⟩
      exact (eqnil_sound f (.inr (.inr ⟨_, hsk⟩)) h1 h2 (by simp [hsk]) (by simp [hsk]) (fun _ => .inl e1.symm) h).yields
  · -- unOp
    rename_i o1 ty1 x1 o2
    simp only [Bool.and_eq_true, beq_iff_eq] at hok
    obtain ⟨heq, hok⟩ := hok
    subst heq
    obtain ⟨x, e, h1⟩ := rel1 (he _ hok)
    rw [e] at h
    cases o1 <;> cases x <;> simp [evP] at h
    · subst h
      have e1 := rel_int_inv h1
      exact ⟨_, by simp [execOp, e1, Op.unary, Op.intArith], .int _ _⟩
    · subst h
      have e1 := rel_bool_inv h1
      exact ⟨_, by simp [execOp, e1, Op.unary], .bool _⟩
  · -- convert
    simp only [Bool.and_eq_true] at hok
    obtain ⟨⟨ht1, ht2⟩, hok⟩ := hok
    obtain ⟨s1, hs1, _⟩ := hasT_inv ht1
    obtain ⟨s2, hs2, hk⟩ := hasT_inv ht2
    obtain ⟨f1⟩ := tfact hT hs1
    obtain ⟨f2⟩ := tfact hT hs2
    obtain ⟨x, e, h1⟩ := rel1 (he _ hok)
    rw [e] at h
    cases x <;> simp [evP] at h
    subst h
    have e1 := rel_int_inv h1
    have hd := kind_int (isK_int hk ▸ f2.hk)
    exact ⟨_, by simp [execOp, e1, convert, f1.run_underlying, f2.run_underlying, hd, Conv.intToInt], .int _ _⟩
  · -- fieldAddr
    simp only [Bool.and_eq_true] at hok
    obtain ⟨s, hs, hk⟩ := hasT_inv hok.1
    obtain ⟨f⟩ := tfact hT hs
    obtain ⟨x, e, h1⟩ := rel1 (he _ hok.2)
    rw [e] at h
    split at hk
    · rename_i gs hsk
      split at hk
      · rename_i g hg
        simp only [Bool.and_eq_true, beq_iff_eq] at hk
        obtain ⟨rfl, hk⟩ := hk
        obtain ⟨st, hst, hz⟩ := hasT_inv hk
        obtain ⟨ft⟩ := tfact hT hst
        exact (fldA_sound f hsk (by simpa using hg) ft (by simpa using hz) h1 h).yields
      · cases hk
    · cases hk
  · -- field
    simp only [Bool.and_eq_true] at hok
    obtain ⟨s, hs, hk⟩ := hasT_inv hok.1
    obtain ⟨f⟩ := tfact hT hs
    obtain ⟨x, e, h1⟩ := rel1 (he _ hok.2)
    rw [e] at h
    split at hk
    · rename_i gs hsk
      split at hk
      · rename_i g hg
        simp only [Bool.and_eq_true, beq_iff_eq] at hk
        obtain ⟨rfl, hk⟩ := hk
        obtain ⟨st, hst, hz⟩ := hasT_inv hk
        simp only [Bool.and_eq_true, beq_iff_eq, Bool.or_eq_true] at hz
        obtain ⟨⟨rfl, rfl⟩, hn⟩ := hz
        obtain ⟨ft⟩ := tfact hT hst
        exact (fld_sound f hsk (by simpa using hg) ft (fun ha => by rw [ha] at hn; simpa using hn) h1 h).yields
      · cases hk
    · cases hk
  · -- indexAddr, slice
    simp only [Bool.and_eq_true] at hok
    obtain ⟨s, hs, hk⟩ := hasT_inv hok.1
    obtain ⟨f⟩ := tfact hT hs
    obtain ⟨x, y, e, h1, h2⟩ := rel2 (he _ hok.2)
    rw [e] at h
    split at hk
    · rename_i el hsk
      obtain ⟨se, hse, hz⟩ := hasT_inv hk
      simp only [beq_iff_eq] at hz
      subst hz
      obtain ⟨fe⟩ := tfact hT hse
      exact (idxA_sound f hsk fe h1 h2 h).yields
    · cases hk
  · -- indexAddr, array
    simp only [Bool.and_eq_true] at hok
    obtain ⟨s, hs, hk⟩ := hasT_inv hok.1
    obtain ⟨f⟩ := tfact hT hs
    obtain ⟨x, y, e, h1, h2⟩ := rel2 (he _ hok.2)
    rw [e] at h
    split at hk
    · rename_i n el hsk
      simp only [Bool.and_eq_true, beq_iff_eq] at hk
      obtain ⟨rfl, hk⟩ := hk
      obtain ⟨se, hse, hz⟩ := hasT_inv hk
      simp only [beq_iff_eq] at hz
      subst hz
      obtain ⟨fe⟩ := tfact hT hse
      exact (idxP_sound f hsk fe h1 h2 h).yields
    · cases hk
  · -- index
    simp only [Bool.and_eq_true] at hok
    obtain ⟨s, hs, hk⟩ := hasT_inv hok.1
    obtain ⟨f⟩ := tfact hT hs
    obtain ⟨x, y, e, h1, h2⟩ := rel2 (he _ hok.2)
    rw [e] at h
    split at hk
    · rename_i n el hsk
      simp only [Bool.and_eq_true, beq_iff_eq] at hk
      obtain ⟨rfl, hk⟩ := hk
      obtain ⟨se, hse, hz⟩ := hasT_inv hk
      simp only [Bool.and_eq_true, beq_iff_eq, Bool.or_eq_true] at hz
      obtain ⟨⟨rfl, rfl⟩, hn⟩ := hz
      obtain ⟨fe⟩ := tfact hT hse
      exact (idx_sound f hsk fe (fun ha => by rw [ha] at hn; simpa using hn) h1 h2 h).yields
    · cases hk
  · -- slice of a slice
    rename_i t x lo hi sz l hh
    simp only [Bool.and_eq_true, beq_iff_eq] at hok
    obtain ⟨⟨⟨ht, rfl⟩, rfl⟩, hok⟩ := hok
    obtain ⟨s, hs, hk⟩ := hasT_inv ht
    obtain ⟨f⟩ := tfact hT hs
    split at hk
    · rename_i el hsk
      obtain ⟨se, hse, hz⟩ := hasT_inv hk
      simp only [beq_iff_eq] at hz
      subst hz
      obtain ⟨fe⟩ := tfact hT hse
      have hr := he _ hok
      cases lo <;> cases hi <;> simp only [Option.toList, List.nil_append, List.append_nil, List.cons_append, List.map_cons, List.map_nil] at hr
      · obtain ⟨x, e, h1⟩ := rel1 hr
        rw [e] at h
        simp only [evP, Option.isSome, Option.bind_eq_some_iff] at h
        obtain ⟨n, hn, h⟩ := h
        exact (slc_sound (lo := none) (hi := none) f hsk fe h1 h (.inl ⟨rfl, rfl⟩) (.inl ⟨rfl, hn⟩)).yields
      · obtain ⟨x, y, e, h1, h2⟩ := rel2 hr
        rw [e] at h
        simp only [evP, Option.isSome, Option.bind_eq_some_iff] at h
        obtain ⟨n, hn, h⟩ := h
        obtain ⟨k, hk⟩ := natOf_sound h2 hn
        exact (slc_sound (lo := none) f hsk fe h1 h (.inl ⟨rfl, rfl⟩) (.inr ⟨k, by rw [Option.map_some, hk]⟩)).yields
      · obtain ⟨x, y, e, h1, h2⟩ := rel2 hr
        rw [e] at h
        simp only [evP, Option.isSome, Option.bind_eq_some_iff] at h
        obtain ⟨n, hn, m, hm, h⟩ := h
        obtain ⟨k, hk⟩ := natOf_sound h2 hn
        exact (slc_sound (hi := none) f hsk fe h1 h (.inr ⟨k, by rw [Option.map_some, hk]⟩) (.inl ⟨rfl, hm⟩)).yields
      · obtain ⟨x, y, z, e, h1, h2, h3⟩ := rel3 hr
        rw [e] at h
        simp only [evP, Option.isSome, Option.bind_eq_some_iff] at h
        obtain ⟨n, hn, m, hm, h⟩ := h
        obtain ⟨k, hk⟩ := natOf_sound h2 hn
        obtain ⟨k', hk'⟩ := natOf_sound h3 hm
        exact (slc_sound f hsk fe h1 h (.inr ⟨k, by rw [Option.map_some, hk]⟩) (.inr ⟨k', by rw [Option.map_some, hk']⟩)).yields
    · cases hk
  · -- slice of an array
    rename_i t x lo hi len sz l hh
    simp only [Bool.and_eq_true, beq_iff_eq] at hok
    obtain ⟨⟨⟨ht, rfl⟩, rfl⟩, hok⟩ := hok
    obtain ⟨s, hs, hk⟩ := hasT_inv ht
    obtain ⟨f⟩ := tfact hT hs
    split at hk
    · rename_i n el hsk
      simp only [Bool.and_eq_true, beq_iff_eq] at hk
      obtain ⟨rfl, hk⟩ := hk
      obtain ⟨se, hse, hz⟩ := hasT_inv hk
      simp only [beq_iff_eq] at hz
      subst hz
      obtain ⟨fe⟩ := tfact hT hse
      have hr := he _ hok
      cases lo <;> cases hi <;> simp only [Option.toList, List.nil_append, List.append_nil, List.cons_append, List.map_cons, List.map_nil] at hr
      · obtain ⟨x, e, h1⟩ := rel1 hr
        rw [e] at h
        simp only [evP, Option.isSome] at h
        exact (slcP_sound (lo := none) (hi := none) f hsk fe hI h1 h (.inl ⟨rfl, rfl⟩) (.inl ⟨rfl, rfl⟩)).yields
      · obtain ⟨x, y, e, h1, h2⟩ := rel2 hr
        rw [e] at h
        simp only [evP, Option.isSome, Option.bind_eq_some_iff] at h
        obtain ⟨m, hn, h⟩ := h
        obtain ⟨k, hk⟩ := natOf_sound h2 hn
        exact (slcP_sound (lo := none) f hsk fe hI h1 h (.inl ⟨rfl, rfl⟩) (.inr ⟨k, by rw [Option.map_some, hk]⟩)).yields
      · obtain ⟨x, y, e, h1, h2⟩ := rel2 hr
        rw [e] at h
        simp only [evP, Option.isSome, Option.bind_eq_some_iff] at h
        obtain ⟨m, hn, h⟩ := h
        obtain ⟨k, hk⟩ := natOf_sound h2 hn
        exact (slcP_sound (hi := none) f hsk fe hI h1 h (.inr ⟨k, by rw [Option.map_some, hk]⟩) (.inl ⟨rfl, rfl⟩)).yields
      · obtain ⟨x, y, z, e, h1, h2, h3⟩ := rel3 hr
        rw [e] at h
        simp only [evP, Option.isSome, Option.bind_eq_some_iff] at h
        obtain ⟨m, hn, m', hm, h⟩ := h
        obtain ⟨k, hk⟩ := natOf_sound h2 hn
        obtain ⟨k', hk'⟩ := natOf_sound h3 hm
        exact (slcP_sound f hsk fe hI h1 h (.inr ⟨k, by rw [Option.map_some, hk]⟩) (.inr ⟨k', by rw [Option.map_some, hk']⟩)).yields
    · cases hk
  · -- extract
    rename_i x0 i0 i1
    simp only [Bool.and_eq_true, beq_iff_eq] at hok
    obtain ⟨heq, hok⟩ := hok
    subst heq
    obtain ⟨x, e, h1⟩ := rel1 (he _ hok)
    rw [e] at h
    cases x <;> simp [evP] at h
    obtain ⟨vs, hvs, hr⟩ := rel_tup_iff.1 h1
    obtain ⟨u, hu, hru⟩ := hr.get h
    have hu' : vs[i0]? = some u := by simpa using hu
    exact ⟨u, by simp [execOp, hvs, Instr.extract, hu'], hru⟩
  · -- build
    rename_i t parts zero places
    simp only [Bool.and_eq_true] at hok
    obtain ⟨s, hs, hk⟩ := hasT_inv hok.1
    simp only [Bool.and_eq_true] at hk
    obtain ⟨⟨hk, hp⟩, hz⟩ := hk
    have hz := sameAV_eq hz
    subst hz
    obtain ⟨f⟩ := tfact hT hs
    have hr := he _ hok.2
    simp only [evP] at h
    refine (build_sound hT f ?_ (parts := parts.map fun (i, x) => (i, a.eval x)) (by simpa [Function.comp_def] using hp) (by simpa [Function.comp_def] using hr) h).yields
    split at hk
    · exact .inl ⟨_, by assumption, hk⟩
    · exact .inr ⟨_, _, by assumption, hk⟩
    · cases hk
  · -- makeFunc
    simp only [Bool.and_eq_true, beq_iff_eq] at hok
    obtain ⟨⟨rfl, hfirst⟩, hok⟩ := hok
    have hfirst := Array.eq_empty_of_size_eq_zero hfirst
    subst hfirst
    have hr := he _ hok
    simp [evP] at h; subst h
    exact ⟨_, by simp [execOp, Instr.makeFunc]; rfl, rel_fn_iff.2 ⟨_, rfl, by simpa using hr⟩⟩
  · -- len
    simp only [Bool.and_eq_true, beq_iff_eq] at hok
    obtain ⟨⟨⟨hcal, ht⟩, hsz⟩, hok⟩ := hok
    rename_i c
    obtain ⟨callee, args, ts⟩ := c
    have hcal : callee = .builtin .len := by
      cases callee with
      | builtin b => cases b <;> first | rfl | cases hcal
      | _ => cases hcal
    subst hcal
    dsimp only at ht hsz hok
    split at ht
    · rename_i t htt
      obtain ⟨s, hs, hk⟩ := hasT_inv ht
      obtain ⟨f⟩ := tfact hT hs
      obtain ⟨x, rfl⟩ := size_one hsz
      obtain ⟨y, e, h1⟩ := rel1 (he _ hok)
      rw [e] at h
      simp only [evP, Option.map_eq_some_iff] at h
      obtain ⟨n, hl, rfl⟩ := h
      split at hk
      · rename_i el hsk
        have hd := kind_slice (hsk ▸ f.hk)
        obtain ⟨b, cap, e1, _⟩ := lenOf_sound h1 hl
        exact ⟨.int .i64 n, by simp [execOp, resolve, invoke, builtin, e1, Builtin.len_, htt, f.run_underlying, hd, goInt], .int _ _⟩
      · cases hk
    · cases ht
  · -- len of a map
    simp only [Bool.and_eq_true, beq_iff_eq] at hok
    obtain ⟨⟨⟨hcal, ht⟩, hsz⟩, hok⟩ := hok
    rename_i c
    obtain ⟨callee, args, ts⟩ := c
    have hcal : callee = .builtin .len := by
      cases callee with
      | builtin b => cases b <;> first | rfl | cases hcal
      | _ => cases hcal
    subst hcal
    dsimp only at ht hsz hok
    split at ht
    · rename_i t htt
      obtain ⟨s, hs, hk⟩ := hasT_inv ht
      obtain ⟨f⟩ := tfact hT hs
      obtain ⟨x, rfl⟩ := size_one hsz
      obtain ⟨y, e, h1⟩ := rel1 (he _ hok)
      rw [e] at h
      simp only [evP, Option.map_eq_some_iff] at h
      obtain ⟨n, hl, rfl⟩ := h
      split at hk
      · rename_i k el hsk
        have hd := kind_map (hsk ▸ f.hk)
        generalize he1 : a.eval x = u at h1
        cases h1 <;> simp [lenM] at hl
        · subst hl
          exact ⟨.int .i64 0, by simp [execOp, resolve, invoke, builtin, he1, Builtin.len_, htt, f.run_underlying, hd, goInt], .int _ _⟩
        · obtain ⟨es, hes, rfl⟩ := hl
          rename_i id0 p0 hp0
          obtain ⟨_, p, ces, clock, hp, hw, hm⟩ := hI.map _ _ hes
          rw [hp0] at hp; cases hp
          have hlen : ces.size = es.length := by have := hm.1.1; simpa using this
          exact ⟨.int .i64 es.length, by simp [execOp, resolve, invoke, builtin, he1, Builtin.len_, htt, f.run_underlying, hd, goInt, getObj, Sem.run, hw, hlen], .int _ _⟩
      · cases hk
    · cases ht
  · -- max
    simp only [Bool.and_eq_true, beq_iff_eq] at hok
    obtain ⟨⟨hcal, hsz⟩, hok⟩ := hok
    rename_i c
    obtain ⟨callee, args, ts⟩ := c
    have hcal : callee = .builtin .max := by
      cases callee with
      | builtin b => cases b <;> first | rfl | cases hcal
      | _ => cases hcal
    subst hcal
    dsimp only at hsz hok
    obtain ⟨x, y, rfl⟩ := size_two hsz
    obtain ⟨u, v, e, h1, h2⟩ := rel2 (he _ hok)
    rw [e] at h
    simp only [evP] at h
    cases u <;> try (simp [mxOf] at h; done)
    cases v <;> simp [mxOf] at h
    subst h
    have e1 := rel_int_inv h1
    have e2 := rel_int_inv h2
    exact ⟨_, by simp [execOp, resolve, invoke, builtin, e1, e2, Builtin.max_, Builtin.max2], .int _ _⟩
  · -- min
    simp only [Bool.and_eq_true, beq_iff_eq] at hok
    obtain ⟨⟨hcal, hsz⟩, hok⟩ := hok
    rename_i c
    obtain ⟨callee, args, ts⟩ := c
    have hcal : callee = .builtin .min := by
      cases callee with
      | builtin b => cases b <;> first | rfl | cases hcal
      | _ => cases hcal
    subst hcal
    dsimp only at hsz hok
    obtain ⟨x, y, rfl⟩ := size_two hsz
    obtain ⟨u, v, e, h1, h2⟩ := rel2 (he _ hok)
    rw [e] at h
    simp only [evP] at h
    cases u <;> try (simp [mnOf] at h; done)
    cases v <;> simp [mnOf] at h
    subst h
    have e1 := rel_int_inv h1
    have e2 := rel_int_inv h2
    exact ⟨_, by simp [execOp, resolve, invoke, builtin, e1, e2, Builtin.min_, Builtin.min2], .int _ _⟩
  · simp [evP] at h
  · simp [evP] at h
  · cases hok
end
section
variable {P : Program} {T : Tab} {F : RoT} {pl : PlT} {H : Heap} {w : World} {N : Nat} {env : Env} {a : Act} {call : CallF}
def Eff (P : Program) (F : RoT) (pl : PlT) (H : Heap) (w : World) (s : Sem Next) (v : AV) (H' : Heap) : Prop :=
  ∃ w' F' pl', ((∃ u, s.run P w = .ok (.value u) w' ∧ Rel F' pl' v u) ∨ (s.run P w = .ok .skip w' ∧ v = .undef)) ∧ Inv F' pl' H' w' ∧ Stp F pl H w F' pl' H' w' ∧ LeF pl pl'
def roPl (F : RoT) (w : World) (b : Nat) : RoT := fun a => if a.block = b then w.cell? a else F a
theorem roPl_le {b : Nat} (h : ∀ a v, F a = some v → w.cell? a = some v) : LeF F (roPl F w b) := fun a v hv => by
  unfold roPl
  split
  · exact h a v hv
  · exact hv
theorem Inv.freeze (h : Inv F pl H w) {i : Nat} {p : Place} (hi : live H i) (hp : pl i = some p) :
    Inv (roPl F w p.block) pl (H.set i none) w ∧ Stp F pl H w (roPl F w p.block) pl (H.set i none) w := by
  obtain ⟨h1, h2⟩ := h.kill i
  have hle := roPl_le (b := p.block) h.ro
  have hlv : ∀ k, live (H.set i none) k → live H k ∧ k ≠ i := fun k ⟨o, hk⟩ => by
    by_cases e : i = k
    · subst e
      rw [List.getElem?_set] at hk
      simp at hk
    · rw [get_set_ne e] at hk; exact ⟨⟨o, hk⟩, fun e' => e e'.symm⟩
  refine ⟨⟨h1.fresh, fun k cs hk => ?_, h1.data, h1.one, fun k es hk => ?_, h1.inj, fun a v hv => ?_, fun a v k q hv hk hq => ?_, h1.pos⟩, ⟨h2.fr, h2.own, hle, fun a v hv => ?_⟩⟩
  · obtain ⟨q, hq, g1, g2, g3⟩ := h1.cell k cs hk
    exact ⟨q, hq, g1, g2, fun j x hx => let ⟨v, hv, hr⟩ := g3 j x hx; ⟨v, hv, hr.mono hle (LeF.refl _)⟩⟩
  · obtain ⟨g0, q, ces, clock, hq, hw, hm⟩ := h1.map k es hk
    exact ⟨g0, q, ces, clock, hq, hw, hm.1.mono hle (LeF.refl _), hm.2.1.mono hle (LeF.refl _), hm.2.2⟩
  · unfold roPl at hv
    split at hv
    · exact hv
    · exact h.ro a v hv
  · unfold roPl at hv
    obtain ⟨hk1, hk2⟩ := hlv k hk
    split at hv
    · rename_i e
      rw [e]
      exact fun e' => hk2 (h.inj i k p q hi hk1 hp hq e').symm
    · exact h.sep a v k q hv hk1 hq
  · unfold roPl at hv
    split at hv
    · rename_i e
      exact .inr (.inl ⟨i, p, hi, hp, e.symm⟩)
    · exact .inl hv
theorem Inv.pushRo (h : Inv F pl H w) {cs : List AV} (hd : idFreeL cs = true ∧ oneL cs = true) (c : Array Value) (t : TypeId) (hl : cs.length ≤ c.size) (hr : ∀ (j : Nat) x v, cs[j]? = some x → c[j]? = some v → Rel F pl x v) :
    Inv (roPl F (w.alloc (.cells c t)) w.heap.size) pl H (w.alloc (.cells c t)) ∧ Stp F pl H w (roPl F (w.alloc (.cells c t)) w.heap.size) pl H (w.alloc (.cells c t)) := by
  obtain ⟨h1, h2, h3⟩ := h.push (.data cs) rfl (fun _ e => by cases e; exact hd.1) hd.2 c t hl hr
  have hi : live (H ++ [some (.data cs)]) H.length := ⟨_, get_push_new⟩
  obtain ⟨h4, h5⟩ := h1.freeze hi extPl_new
  have hset : (H ++ [some (HO.data cs)]).set H.length none = H ++ [none] := by simp
  rw [hset] at h4 h5
  have hcell : ∀ k, Heap.cells? (H ++ [none]) k = H.cells? k := fun k => by
    by_cases e : k = H.length
    · subst e; simp [Heap.cells?]
    · exact cells_push_old e
  have hdata : ∀ k, Heap.data? (H ++ [none]) k = H.data? k := fun k => by
    by_cases e : k = H.length
    · subst e; simp [Heap.data?]
    · exact data_push_old e
  have hmap : ∀ k, Heap.map? (H ++ [none]) k = H.map? k := fun k => by
    by_cases e : k = H.length
    · subst e; simp [Heap.map?]
    · exact map_push_old e
  have hlive : ∀ k, live H k → live (H ++ [none]) k ∧ k ≠ H.length := fun k hk => by
    have hne : k ≠ H.length := fun e => by subst e; obtain ⟨o, ho⟩ := hk; simp at ho
    exact ⟨(live_push_old hne).2 hk, hne⟩
  have hex : ∀ k, k ≠ H.length → extPl pl H.length ⟨w.heap.size, 0, c.size⟩ k = pl k := fun k hk => extPl_old hk
  have hrel : ∀ {k : Nat} {x v}, x.idFree = true ∨ True → Rel (roPl F (w.alloc (.cells c t)) w.heap.size) pl x v → True := fun _ _ => trivial
  have hle : LeF F (roPl F (w.alloc (.cells c t)) w.heap.size) := roPl_le h1.ro
  refine ⟨⟨h.fresh, fun k ds hk => ?_, h.data, h.one, fun k es hk => ?_, h.inj, h4.ro, fun a v k q hv hk hq => ?_, fun k q hk hq => ?_⟩, ⟨h2.fr, fun b ⟨k, q, hk, hq, e⟩ => .inl ⟨k, q, hk, hq, e⟩, hle, fun a v hv => ?_⟩⟩
  · obtain ⟨q, hq, g1, g2, g3⟩ := h.cell k ds hk
    have hb := h.pos k q (live_of_cells hk) hq
    have hold : ∀ a : Addr, a.block < w.heap.size → (w.alloc (.cells c t)).cell? a = w.cell? a := fun a ha => World.cell?_alloc_lt w _ a ha
    have hfold : ∀ a : Addr, a.block < w.heap.size → (w.alloc (.cells c t)).frozen? a = w.frozen? a := fun a ha => World.frozen?_alloc_old w _ a (Nat.ne_of_lt ha)
    exact ⟨q, hq, g1, fun j hj => let ⟨v, hv, hf⟩ := g2 j hj; ⟨v, (hold _ hb).trans hv, (hfold _ hb).trans hf⟩, fun j x hx => let ⟨v, hv, hr⟩ := g3 j x hx; ⟨v, (hold _ hb).trans hv, hr.mono hle (LeF.refl _)⟩⟩
  · obtain ⟨g0, q, ces, clock, hq, hw, hm⟩ := h.map k es hk
    have hb := h.pos k q ⟨_, map?_iff.1 hk⟩ hq
    refine ⟨g0, q, ces, clock, hq, ?_, hm.1.mono hle (LeF.refl _), hm.2.1.mono hle (LeF.refl _), hm.2.2⟩
    simp only [World.alloc, Array.getElem?_push]
    rw [if_neg (by omega)]; exact hw
  · obtain ⟨hk1, hk2⟩ := hlive k hk
    exact h4.sep a v k q hv hk1 (by rw [hex k hk2]; exact hq)
  · have := h.pos k q hk hq
    simp; omega
  · unfold roPl at hv
    split at hv
    · rename_i e
      exact .inr (.inr (by omega))
    · exact .inl hv
theorem run_newVar (t : TypeId) (v : Value) : (newVar t v).run P w = .ok ⟨w.heap.size, 0, none⟩ (w.alloc (.cells v.cells t)) := by
  simp [newVar, Go.newRow]
theorem mkHO_inv {dat : Bool} {cs : List AV} {o : HO} (h : mkHO dat cs = some o) : o.cells? = some cs ∧ ∀ c, o = .data c → idFreeL c = true := by
  unfold mkHO at h
  split at h
  · split at h
    · cases h
      exact ⟨rfl, fun c e => by cases e; assumption⟩
    · cases h
  · cases h
    exact ⟨rfl, fun c e => by cases e⟩
theorem constsOk_one : ∀ {vs : List Value} {xs : List AV}, constsOk vs xs = true → oneL xs = true
  | [], [], _ => rfl
  | v :: vs, x :: xs, h => by
    simp only [constsOk, Bool.and_eq_true] at h
    simp [oneL, (constOk_free h.1).2, constsOk_one h.2]
  | [], _ :: _, h => by simp [constsOk] at h
  | _ :: _, [], h => by simp [constsOk] at h
theorem alloc_sound {t : Nat} {s} (ft : TFact P t s) (hI : Inv F pl H w) {dat v H'} (h : evE call H (.alloc dat s.zero) [] = some (v, H')) :
    Eff P F pl H w (do pure (.value (← Instr.alloc t true (.tuple #[])))) v H' := by
  simp only [evE, Option.map_eq_some_iff, Prod.mk.injEq] at h
  obtain ⟨o, ho, rfl, rfl⟩ := h
  obtain ⟨h1, h2⟩ := mkHO_inv ho
  have hz := constsOk_rel (F := F) (pl := pl) ft.hc
  obtain ⟨g1, g2, g3⟩ := hI.push o h1 h2 (constsOk_one ft.hc) ft.z.cells t (by rw [← hz.1]; simp) (fun j x v hx hv => hz.2 j x v hx (by simpa using hv))
  exact ⟨_, _, _, .inl ⟨.pointer (some ⟨w.heap.size, 0, none⟩), by simp [Instr.alloc, ft.run_zero, run_newVar], by simpa using (Rel.ptr (off := 0) (F := F) (extPl_new (pl := pl)))⟩, g1, g2, g3⟩
theorem oneL_solid {v : AV} (h : oneL v.cells = true) : v.solid = true := by
  cases v <;> first
    | rfl
    | simp [AV.cells, oneL, AV.one] at h
theorem box_sound {t : Nat} (hI : Inv F pl H w) {dat x u v H'} (hx : Rel F pl x u) (h : evE call H (.box dat) [x] = some (v, H')) :
    Eff P F pl H w (do pure (.value (← Instr.box t u))) v H' := by
  simp only [evE] at h
  split at h
  · rename_i hone
    simp only [Option.map_eq_some_iff, Prod.mk.injEq] at h
    obtain ⟨o, ho, rfl, rfl⟩ := h
    obtain ⟨h1, h2⟩ := mkHO_inv ho
    have hz := cells_rel hx (oneL_solid hone)
    obtain ⟨g1, g2, g3⟩ := hI.push o h1 h2 hone u.cells t (by rw [← hz.1]; simp) (fun j x v hx hv => hz.2 j x v hx (by simpa using hv))
    exact ⟨_, _, _, .inl ⟨.pointer (some ⟨w.heap.size, 0, none⟩), by simp [Instr.box, run_newVar], by simpa using (Rel.ptr (off := 0) (F := F) (extPl_new (pl := pl)))⟩, g1, g2, g3⟩
  · cases h
theorem one_rel {x u} (h : Rel F pl x u) (h1 : x.one = true) : u.oneCell' = true := by
  cases h <;> first
    | rfl
    | simp [AV.one] at h1
theorem oneL_rel {xs us} (h : RelL F pl xs us) (h1 : oneL xs = true) : ∀ u ∈ us, u.oneCell' = true := by
  intro u hu
  obtain ⟨j, hj, rfl⟩ := List.mem_iff_getElem.1 hu
  have hj' : j < xs.length := by rw [← h.1]; exact hj
  rw [oneL_iff] at h1
  exact one_rel (h.2 j xs[j] us[j] (List.getElem?_eq_getElem hj') (List.getElem?_eq_getElem hj)) (h1 _ (List.getElem_mem hj'))
theorem putRow_get {c vs : List AV} {off : Nat} (hl : off + vs.length ≤ c.length) (j : Nat) : (putRow c off vs)[j]? = if j < off then c[j]? else if j < off + vs.length then vs[j - off]? else c[j]? := by
  unfold putRow
  have h0 : (c.take off).length = off := by rw [List.length_take]; omega
  by_cases h1 : j < off
  · rw [if_pos h1, List.append_assoc, List.getElem?_append_left (by omega), List.getElem?_take, if_pos h1]
  · rw [if_neg h1]
    by_cases h2 : j < off + vs.length
    · rw [if_pos h2, List.append_assoc, List.getElem?_append_right (by omega), h0, List.getElem?_append_left (by omega)]
    · rw [if_neg h2, List.getElem?_append_right (by rw [List.length_append, h0]; omega), List.length_append, h0, List.getElem?_drop]
      congr 1
      omega
theorem putRow_length {c vs : List AV} {off : Nat} (hl : off + vs.length ≤ c.length) : (putRow c off vs).length = c.length := by
  unfold putRow
  rw [List.length_append, List.length_append, List.length_take, List.length_drop]
  omega
theorem putRow_all {c vs : List AV} {off : Nat} {p : AV → Bool} (h1 : ∀ x ∈ c, p x = true) (h2 : ∀ x ∈ vs, p x = true) : ∀ x ∈ putRow c off vs, p x = true := by
  intro x hx
  unfold putRow at hx
  rcases List.mem_append.1 hx with hx | hx
  · rcases List.mem_append.1 hx with hx | hx
    · exact h1 x (List.mem_of_mem_take hx)
    · exact h2 x hx
  · exact h1 x (List.mem_of_mem_drop hx)
theorem getD_setCells_other {b o k : Nat} (vs : List Value) (h : k ≠ b) : (w.setCells b o vs).heap[k]? = w.heap[k]? := by
  induction vs generalizing o w with
  | nil => rfl
  | cons v r ih =>
    rw [World.setCells, ih]
    simp only [World.setCell, Array.getElem?_modify]
    rw [if_neg (by omega)]
theorem size_setCells (b o : Nat) (vs : List Value) : (w.setCells b o vs).heap.size = w.heap.size := by
  induction vs generalizing o w with
  | nil => rfl
  | cons v r ih => rw [World.setCells, ih]; simp
theorem same_setCells (b o : Nat) (vs : List Value) : (w.setCells b o vs).os = w.os ∧ (w.setCells b o vs).tape = w.tape ∧ (w.setCells b o vs).output = w.output := by
  induction vs generalizing o w with
  | nil => exact ⟨rfl, rfl, rfl⟩
  | cons v r ih => rw [World.setCells]; obtain ⟨h1, h2, h3⟩ := ih (o := o + 1) (w := w.setCell ⟨b, o, none⟩ v); exact ⟨h1, h2, h3⟩
theorem Inv.setCells (h : Inv F pl H w) {i : Nat} {c vs : List AV} {us : List Value} {p : Place} {off : Nat} (hi : H.cells? i = some c) (hp : pl i = some p) (hl : off + vs.length ≤ c.length) (hr : RelL F pl vs us) (h1 : oneL vs = true)
    (o : HO) (ho : o.cells? = some (putRow c off vs)) (hd : ∀ c', o = .data c' → idFreeL c' = true) :
    Inv F pl (H.set i (some o)) (w.setCells p.block (p.base + off) us) ∧ Stp F pl H w F pl (H.set i (some o)) (w.setCells p.block (p.base + off) us) := by
  obtain ⟨q, hq, g1, g2, g3⟩ := h.cell i c hi
  rw [hp] at hq; cases hq
  have hul := hr.1
  have hin : ∀ j, j < us.length → (w.cell? ⟨p.block, p.base + off + j, none⟩).isSome = true := fun j hj => by
    obtain ⟨v, hv, _⟩ := g2 (off + j) (by omega)
    rw [Nat.add_assoc, hv]; rfl
  have hput : ∀ j (hj : j < us.length), (w.setCells p.block (p.base + off) us).cell? ⟨p.block, p.base + off + j, none⟩ = some us[j] := fun j hj => World.cell?_setCells_in p.block us (p.base + off) w hin j hj
  have hout : ∀ x : Addr, (x.block = p.block → x.spot = none → x.off < p.base + off ∨ p.base + off + us.length ≤ x.off) → (w.setCells p.block (p.base + off) us).cell? x = w.cell? x := fun x hx => World.cell?_setCells_out p.block us (p.base + off) w x hx
  obtain ⟨s1, s2, s3⟩ := same_setCells (w := w) p.block (p.base + off) us
  refine h.write hi hp o ho hd ?_ (by rw [putRow_length hl]; exact g1) (size_setCells _ _ _) (fun k hk => getD_setCells_other us hk) (fun a => World.frozen?_setCells _ _ _ _ _) s1 s2 s3 (fun j hj => ?_) fun j x hx => ?_
  · rw [oneL_iff]
    exact putRow_all (oneL_iff.1 (h.one i c hi)) (oneL_iff.1 h1)
  · by_cases hc : off ≤ j ∧ j < off + us.length
    · have := hput (j - off) (by omega)
      rw [show p.base + off + (j - off) = p.base + j from by omega] at this
      exact ⟨_, this⟩
    · obtain ⟨v, hv, _⟩ := g2 j hj
      exact ⟨v, (hout _ fun _ _ => by dsimp only; omega).trans hv⟩
  · rw [putRow_get hl] at hx
    split at hx
    · obtain ⟨v, hv, hrv⟩ := g3 j x hx
      exact ⟨v, (hout _ fun _ _ => by dsimp only; omega).trans hv, hrv⟩
    · split at hx
      · have hju : j - off < us.length := by omega
        have := hput (j - off) hju
        rw [show p.base + off + (j - off) = p.base + j from by omega] at this
        exact ⟨_, this, hr.2 _ x _ hx (List.getElem?_eq_getElem hju)⟩
      · obtain ⟨v, hv, hrv⟩ := g3 j x hx
        exact ⟨v, (hout _ fun _ _ => by dsimp only; omega).trans hv, hrv⟩
theorem run_storeCells_at (hI : Inv F pl H w) {i : Nat} {c : List AV} {us : List Value} {p : Place} {off : Nat} (hi : H.cells? i = some c) (hp : pl i = some p) (hl : off + us.length ≤ p.lim) (h1 : ∀ u ∈ us, u.oneCell' = true) :
    (storeCells ⟨p.block, p.base + off, none⟩ us 0).run P w = .ok () (w.setCells p.block (p.base + off) us) := by
  obtain ⟨q, hq, g1, g2, g3⟩ := hI.cell i c hi
  rw [hp] at hq; cases hq
  refine run_storeCells_cells p.block (p.base + off) us 0 w (fun j hj => ?_) (fun j hj => ?_) h1
  · obtain ⟨v, hv, _⟩ := g2 (off + j) (by omega)
    rw [Nat.add_zero, Nat.add_assoc, hv]; rfl
  · obtain ⟨v, _, hv⟩ := g2 (off + j) (by omega)
    rw [Nat.add_zero, Nat.add_assoc, hv]
theorem st_sound {t : Nat} {s} (ft : TFact P t s) (hI : Inv F pl H w) {p x : AV} {up ux : Value} {v H'} (hp : Rel F pl p up) (hx : Rel F pl x ux) (h : evE call H (.st s.size) [p, x] = some (v, H')) :
    Eff P F pl H w (do (Instr.storeAt t up ux : Sem Unit); pure .skip) v H' := by
  simp only [evE, Option.map_eq_some_iff, Prod.mk.injEq] at h
  obtain ⟨H1, h, rfl, rfl⟩ := h
  unfold stAt at h
  split at h
  · rename_i id off
    dsimp only at h
    split at h
    · rename_i hc
      obtain ⟨hlen, hone⟩ := hc
      have hcr := cells_rel hx (oneL_solid hone)
      have hus := oneL_rel hcr hone
      cases hp
      rename_i q hq
      have main : ∀ (c : List AV) (o : HO), H.cells? id = some c → off + s.size ≤ c.length → o.cells? = some (putRow c off x.cells) → (∀ c', o = .data c' → idFreeL c' = true) →
          Eff P F pl H w (do (Instr.storeAt t (.pointer (some ⟨q.block, q.base + off, none⟩)) ux : Sem Unit); pure .skip) .undef (H.set id (some o)) := by
        intro c o hcs hle ho hd
        obtain ⟨q', hq', g1, g2, g3⟩ := hI.cell id c hcs
        rw [hq] at hq'; cases hq'
        obtain ⟨r1, r2⟩ := hI.setCells hcs hq (by rw [hlen]; exact hle) hcr hone o ho hd
        have hsz : ux.cells.size = s.size := by have := hcr.1; rw [Array.length_toList] at this; omega
        have hst := run_storeCells_at (P := P) (us := ux.cells.toList) (off := off) hI hcs hq (by rw [Array.length_toList]; omega) hus
        refine ⟨_, F, pl, .inr ⟨?_, rfl⟩, r1, r2, LeF.refl _⟩
        simp [Instr.storeAt, Instr.sureAddr, storeVar, ft.run_sizeOf, hsz, hst]
      split at h
      · rename_i c hcd
        split at h
        · rename_i hc2
          cases h
          have hcs : H.cells? id = some c := cells?_iff.2 (.inl hcd)
          refine main c _ hcs hc2.1 rfl fun c' e => ?_
          cases e
          rw [idFreeL_iff]
          exact putRow_all (idFreeL_iff.1 (hI.data id c (data?_iff.2 hcd))) (idFreeL_iff.1 hc2.2)
        · cases h
      · rename_i c hcd
        split at h
        · rename_i hc2
          cases h
          exact main c _ (cells?_iff.2 (.inr hcd)) hc2 rfl fun c' e => by cases e
        · cases h
      · cases h
    · cases h
  · cases h
end
section
variable {P : Program} {T : Tab} {F : RoT} {pl : PlT} {H : Heap} {w : World} {N : Nat} {env : Env} {a : Act} {call : CallF}
theorem repl_length (n : Nat) (z : List AV) : (repl n z).length = n * z.length := by
  induction n with
  | zero => simp [repl]
  | succ n ih => rw [repl, List.length_append, ih, Nat.succ_mul]; omega
theorem repl_get (n : Nat) (z : List AV) (j : Nat) (hj : j < n * z.length) : (repl n z)[j]? = z[j % z.length]? := by
  induction n generalizing j with
  | zero => simp at hj
  | succ n ih =>
    rw [repl]
    by_cases h : j < z.length
    · rw [List.getElem?_append_left h, Nat.mod_eq_of_lt h]
    · rw [List.getElem?_append_right (by omega), ih (j - z.length) (by rw [Nat.succ_mul] at hj; omega)]
      rw [← Nat.mod_eq_sub_mod (by omega)]
theorem repl_all {n : Nat} {z : List AV} {p : AV → Bool} (h : ∀ x ∈ z, p x = true) : ∀ x ∈ repl n z, p x = true := by
  induction n with
  | zero => simp [repl]
  | succ n ih =>
    intro x hx
    rcases List.mem_append.1 hx with hx | hx
    · exact h x hx
    · exact ih x hx
theorem repl_rel {n m : Nat} {z : List AV} {u : Array Value} (h : RelL F pl z u.toList) (hm : m = n * z.length) : RelL F pl (repl n z) ((Array.range m).map (fun i => u[i % u.size]!)).toList := by
  have hsz : u.size = z.length := by rw [← h.1, Array.length_toList]
  refine ⟨by simp [repl_length, hm], fun j x v hx hv => ?_⟩
  have hj : j < n * z.length := by rw [← repl_length]; exact (List.getElem?_eq_some_iff.1 hx).1
  have hz : 0 < z.length := by
    rcases Nat.eq_zero_or_pos z.length with e | e
    · rw [e] at hj; omega
    · exact e
  rw [repl_get n z j hj] at hx
  have hlt : j % z.length < u.size := by rw [hsz]; exact Nat.mod_lt _ hz
  have : v = u[j % z.length] := by
    have hjm : j < m := by omega
    simp [hjm, hsz, show j % z.length < u.size from hlt] at hv
    rw [← hv]
    exact getElem!_pos u _ hlt
  subst this
  exact h.2 _ x _ hx (by simp [hlt])
theorem newRow_sound (hI : Inv F pl H w) {frz : Bool} {sz len cap : Nat} {cs : List AV} (hfl : idFreeL cs = true ∧ oneL cs = true) (hlen : cs.length = len * sz) (hc : len ≤ cap) (c : Array Value) (t : TypeId) (hcap : cap * sz ≤ c.size)
    (hr : ∀ (j : Nat) x v, cs[j]? = some x → c[j]? = some v → Rel F pl x v) {v H'} (h : newRow frz sz len cs H = (v, H')) :
    ∃ F' pl', Rel F' pl' v (.slice (some ⟨w.heap.size, 0, none⟩) len cap) ∧ Inv F' pl' H' (w.alloc (.cells c t)) ∧ Stp F pl H w F' pl' H' (w.alloc (.cells c t)) ∧ LeF pl pl' := by
  have hlc : cs.length ≤ c.size := by
    rw [hlen]
    exact Nat.le_trans (Nat.mul_le_mul_right _ hc) hcap
  unfold newRow at h
  split at h
  · cases h
    obtain ⟨g1, g2⟩ := hI.pushRo hfl c t hlc hr
    refine ⟨_, pl, ?_, g1, g2, LeF.refl _⟩
    refine Rel.rd (fun j => (c[j]?).getD Go.undef) hlen hc (fun _ => rfl) hfl (fun j x hx => ?_) fun j x hx => ?_
    · have hj : j < c.size := Nat.lt_of_lt_of_le (List.getElem?_eq_some_iff.1 hx).1 hlc
      simp [roPl, hj]
    · have hj : j < c.size := Nat.lt_of_lt_of_le (List.getElem?_eq_some_iff.1 hx).1 hlc
      refine Rel.mono (roPl_le fun a v hv => ?_) (LeF.refl _) ?_ (F := F) (pl := pl)
      · have := g2.leF a v hv
        exact g1.ro a v this
      · exact hr j x _ hx (by simp [hj])
  · cases h
    obtain ⟨g1, g2, g3⟩ := hI.push (.data cs) rfl (fun _ e => by cases e; exact hfl.1) hfl.2 c t hlc hr
    exact ⟨F, _, Rel.sl extPl_new hc (fun _ => ⟨by simp, by simpa using hcap⟩) rfl, g1, g2, g3⟩
theorem bldS_sound {t e : Nat} {s se} (ft : TFact P t s) (hk : s.kind = .slice e) (fe : TFact P e se) (hz : se.zero.length = se.size) (hI : Inv F pl H w) {parts : Array (Nat × Value)} {places vs} {frz dat : Bool} {len v H'} (hsz : len * se.size ≤ 2 ^ 24)
    (hp : placesOk (fun i => some (i * se.size, se.size)) (parts.toList.map (·.1)) places = true) (hv : RelL F pl vs (parts.toList.map (·.2))) (h : evE call H (.bldS dat frz se.size len se.zero places) vs = some (v, H')) :
    Eff P F pl H w (do pure (.value (← Instr.buildSlice t len parts))) v H' := by
  simp only [evE, Option.bind_eq_some_iff] at h
  obtain ⟨cs, hcs, h⟩ := h
  split at h
  · rename_i hc
    simp only [Bool.and_eq_true] at hc
    injection h with h
    have hd := kind_slice (hk ▸ ft.hk)
    have hzr := constsOk_rel (F := F) (pl := pl) fe.hc
    have hzip : (parts.toList.map (·.1)).zip (parts.toList.map (·.2)) = parts.toList := by rw [List.zip_map']; simp
    have hzip' : (List.map (·.1) parts.toList).zip (List.map (·.2) parts.toList) = parts.toList := hzip
    have key : ∀ (u : Array Value), RelL F pl (repl len se.zero) ((Array.range (len * se.size)).map (fun i => u[i % u.size]!)).toList →
        ∃ arr', Instr.fill (fun i => some (i * se.size, se.size)) ((Array.range (len * se.size)).map (fun i => u[i % u.size]!)) parts.toList = some arr' ∧ RelL F pl cs arr'.toList := by
      intro u hu
      obtain ⟨arr', h1, h2⟩ := fill_sound _ (parts.toList.map (·.1)) places vs (parts.toList.map (·.2)) (repl len se.zero) _ hp hv hu hcs
      rw [hzip] at h1
      exact ⟨arr', h1, h2⟩
    have hlenc : ∀ {cells ps ws} {cs : List AV}, fillParts cells ps ws = some cs → cs.length = cells.length := by
      intro cells ps
      induction ps generalizing cells with
      | nil => intro ws cs h; cases ws <;> simp [fillParts] at h; rw [h]
      | cons p ps ih =>
        intro ws cs h
        cases ws <;> simp [fillParts] at h
        rw [ih h.2, putPart_length]
    have hcl : cs.length = len * se.size := by rw [hlenc hcs, repl_length, hz]
    have fin : ∀ (arr' : Array Value), RelL F pl cs arr'.toList → (Instr.buildSlice t len parts).run P w = .ok (.slice (some ⟨w.heap.size, 0, none⟩) len len) (w.alloc (.cells arr' e)) →
        Eff P F pl H w (do pure (.value (← Instr.buildSlice t len parts))) v H' := by
      intro arr' hr hrun
      have hasz : arr'.size = len * se.size := by have := hr.1; rw [Array.length_toList] at this; omega
      obtain ⟨F', pl', r1, r2, r3, r4⟩ := newRow_sound hI (cap := len) ⟨hc.1.1.2, hc.1.1.1⟩ hcl (Nat.le_refl _) arr' e (by rw [hasz]; exact Nat.le_refl _) (fun j x u hx hu => hr.2 j x u hx (by simpa using hu)) h
      exact ⟨_, F', pl', .inl ⟨_, by simp [hrun], r1⟩, r2, r3, r4⟩
    by_cases h0 : len * se.size = 0
    · obtain ⟨arr', h1, h2⟩ := key #[] (by
        have : repl len se.zero = [] := by
          have := repl_length len se.zero
          rw [hz, h0] at this
          exact List.eq_nil_of_length_eq_zero this
        rw [this, h0]
        simpa using RelL.nil)
      refine fin arr' h2 ?_
      have hng : ¬ (len * se.size > 2 ^ 24) := by omega
      simp only [h0] at h1 hng
      simp [Instr.buildSlice, ft.run_underlying, hd, fe.run_sizeOf, h0]
      simp only [List.size_toArray, List.length_nil] at h1
      simp at h1
      simp [h1, Go.newRow]
    · obtain ⟨arr', h1, h2⟩ := key fe.z.cells (repl_rel hzr (by rw [hz]))
      refine fin arr' h2 ?_
      have hng : ¬ (len * se.size > 2 ^ 24) := by omega
      simp only [Instr.buildSlice, Sem.run_bind, ft.run_underlying, hd, Result.andThen_ok, fe.run_sizeOf, Sem.run_ite, if_neg hng, if_neg h0, fe.run_zero, Sem.run_pure, h1]
      simp [Go.newRow]
  · cases h
theorem run_askRoom (b : Nat) : (askRoom b).run P w = .ok () w := by
  unfold askRoom
  split <;> simp [mark, Sem.run]
theorem wrap_small {n : Int} (h0 : 0 ≤ n) (h1 : n ≤ 1048576) : IntKind.i64.wrap n = n := IntWalk.i64_in n (by omega)
theorem repl_fl {n : Nat} {z : List AV} (h : idFreeL z = true ∧ oneL z = true) : idFreeL (repl n z) = true ∧ oneL (repl n z) = true := by
  rw [idFreeL_iff, oneL_iff] at *
  exact ⟨repl_all h.1, repl_all h.2⟩
theorem mkS_sound {t e : Nat} {s se} (ft : TFact P t s) (hk : s.kind = .slice e) (fe : TFact P e se) (hz : se.zero.length = se.size) (hb : se.bytes ≤ 1048576) (hI : Inv F pl H w) {x y : AV} {ux uy : Value} (hx : Rel F pl x ux) (hy : Rel F pl y uy)
    {v H'} (h : evE call H (.mkS se.size se.bytes se.zero) [x, y] = some (v, H')) :
    Eff P F pl H w (do pure (.value (← Instr.makeSlice t ux uy))) v H' := by
  cases x <;> try (cases y <;> simp [evE] at h; done)
  cases y <;> try (simp [evE] at h; done)
  rename_i k n k' c
  rw [rel_int_inv hx, rel_int_inv hy]
  simp only [evE] at h
  split at h
  · rename_i hc
    obtain ⟨h0, rfl, hm⟩ := hc
    injection h with h
    have hm' : n ≤ 1048576 := hm
    have hd := kind_slice (hk ▸ ft.hk)
    have hw := wrap_small h0 hm'
    have hzr := constsOk_rel (F := F) (pl := pl) fe.hc
    have hzf : idFreeL se.zero = true ∧ oneL se.zero = true := ⟨constsOk_free fe.hc, constsOk_one fe.hc⟩
    have hlen : (repl n.toNat se.zero).length = n.toNat * se.size := by rw [repl_length, hz]
    have hbn : ¬ (281474976710656 < (fe.i.bytes : Int) * n) := by
      rw [fe.hb]
      have h3 : (se.bytes : Int) ≤ 1048576 := by omega
      have h4 : (se.bytes : Int) * n ≤ 1048576 * n := Int.mul_le_mul_of_nonneg_right h3 h0
      omega
    have key : ∀ (arr : Array Value), RelL F pl (repl n.toNat se.zero) arr.toList → (Instr.makeSlice t (.int k n) (.int k' n)).run P w = .ok (.slice (some ⟨w.heap.size, 0, none⟩) n.toNat n.toNat) (w.alloc (.cells arr e)) →
        Eff P F pl H w (do pure (.value (← Instr.makeSlice t (.int k n) (.int k' n)))) v H' := by
      intro arr hr hrun
      have hasz : arr.size = n.toNat * se.size := by have := hr.1; rw [Array.length_toList] at this; omega
      obtain ⟨F', pl', r1, r2, r3, r4⟩ := newRow_sound hI (frz := false) (len := n.toNat) (cap := n.toNat) (repl_fl hzf) hlen (Nat.le_refl _) arr e (by rw [hasz]; exact Nat.le_refl _) (fun j x u hx hu => hr.2 j x u hx (by simpa using hu)) (show newRow false se.size n.toNat (repl n.toNat se.zero) H = (v, H') from h)
      exact ⟨_, F', pl', .inl ⟨_, by simp [hrun], r1⟩, r2, r3, r4⟩
    have hneg : (n < 0) = False := by simp only [eq_iff_iff, iff_false]; omega
    by_cases hn0 : n.toNat * se.size = 0
    · refine key #[] (by
        have : repl n.toNat se.zero = [] := List.eq_nil_of_length_eq_zero (by rw [hlen, hn0])
        rw [this]; simpa using RelL.nil) ?_
      simp [Instr.makeSlice, ft.run_underlying, hd, asInt, asIntOf, fe.run_typeInfo, hw, hneg, hbn, run_askRoom, fe.run_sizeOf, hn0, Go.newRow]
      rw [show Array.range 0 = #[] from by decide]
      exact congrArg (fun c => w.alloc (Obj.cells c e)) (by simp)
    · refine key _ (repl_rel (n := n.toNat) (m := n.toNat * se.size) hzr (by rw [hz])) ?_
      simp [Instr.makeSlice, ft.run_underlying, hd, asInt, asIntOf, fe.run_typeInfo, hw, hneg, hbn, run_askRoom, fe.run_sizeOf, hn0, Go.newRow, fe.run_zero]
  · cases h
theorem rowOf_sound (hI : Inv F pl H w) {sz m : Nat} {y uy b} (hy : Rel F pl y uy) (hs : szOk sz y = true) (hl : lenOf y = some m) (h : rowOf H y = some b) :
    (idFreeL b = true ∧ oneL b = true) ∧ b.length = m * sz ∧ ∃ vs : List Value, RelL F pl b vs ∧ ∀ k, k ≤ m * sz → (match uy with
      | .slice (some a) _ _ => (loadCells a k).run P w = .ok (vs.take k).toArray w
      | _ => True) := by
  cases hy <;> simp [lenOf] at hl <;> simp only [rowOf] at h
  · cases h
    subst hl
    exact ⟨⟨rfl, rfl⟩, by simp, [], .nil, fun _ _ => trivial⟩
  · rename_i ad sz' len' cap cs' vs hlen hc hspt hf hm hr
    cases h
    subst hl
    simp only [szOk, beq_iff_eq] at hs
    subst hs
    refine ⟨hf, hlen, (List.range b.length).map vs, ⟨by simp, fun j x v hx hv => ?_⟩, fun k hk => ?_⟩
    · have hj : j < b.length := (List.getElem?_eq_some_iff.1 hx).1
      simp [hj] at hv
      subst hv
      exact hr j x hx
    · dsimp only
      rcases Nat.eq_zero_or_pos k with rfl | hk0
      · simpa using run_loadCells_list (P := P) (w := w) ad [] (by simp)
      have hpos : 0 < len' := by
        rcases Nat.eq_zero_or_pos len' with e | e
        · rw [e] at hk; omega
        · exact e
      obtain ⟨bb, o, asp⟩ := ad
      have hsp0 : asp = none := hspt (by omega)
      subst hsp0
      have := run_loadCells_list (P := P) (w := w) ⟨bb, o, none⟩ (((List.range b.length).map vs).take k) (fun j v hv => by
        rw [addr_add]
        rw [List.getElem?_take] at hv
        split at hv
        · have hj : j < b.length := by have := (List.getElem?_eq_some_iff.1 hv).1; simpa using this
          simp [hj] at hv
          subst hv
          exact hI.ro _ _ (hm j b[j] (List.getElem?_eq_getElem hj))
        · cases hv)
      rw [List.length_take, List.length_map, List.length_range, Nat.min_eq_left (by omega)] at this
      exact this
  · rename_i id sz' off len' cap p a hp hc ha hspot
    have hl := hl.symm
    subst hl
    simp only [szOk, beq_iff_eq] at hs
    have hs := hs.symm
    subst hs
    obtain ⟨cs, hcs, h⟩ := Option.bind_eq_some_iff.1 h
    split at h
    · rename_i hle
      cases h
      have hcell := cells_of_data hcs
      obtain ⟨q, hq, g1, g2, g3⟩ := hI.cell id cs hcell
      rw [hp] at hq; cases hq
      have hfl : idFreeL cs = true ∧ oneL cs = true := ⟨hI.data id cs hcs, hI.one id cs hcell⟩
      have hbl : ((cs.drop off).take (m * sz)).length = m * sz := by rw [List.length_take, List.length_drop]; omega
      refine ⟨fl_take _ (fl_drop _ hfl), hbl, (List.range (m * sz)).map (fun j => (w.cell? ⟨p.block, p.base + off + j, none⟩).getD Go.undef), ⟨by simp [hbl], fun j x v hx hv => ?_⟩, fun k hk => ?_⟩
      · have hj : j < m * sz := by have := (List.getElem?_eq_some_iff.1 hx).1; omega
        rw [List.getElem?_take, if_pos hj, List.getElem?_drop] at hx
        obtain ⟨u, hu, hru⟩ := g3 _ x hx
        rw [← Nat.add_assoc] at hu
        simp [hj, hu] at hv
        subst hv
        exact hru
      · dsimp only
        rcases Nat.eq_zero_or_pos k with rfl | hk0
        · simpa using run_loadCells_list (P := P) (w := w) a [] (by simp)
        · have hm0 : 0 < m := by
            rcases Nat.eq_zero_or_pos m with e | e
            · rw [e] at hk; omega
            · exact e
          obtain ⟨rfl, _⟩ := ha (by omega)
          have := run_loadCells_list (P := P) (w := w) ⟨p.block, p.base + off, none⟩ (((List.range (m * sz)).map (fun j => (w.cell? ⟨p.block, p.base + off + j, none⟩).getD Go.undef)).take k) (fun j v hv => by
            rw [addr_add]
            rw [List.getElem?_take] at hv
            split at hv
            · have hj : j < m * sz := by have := (List.getElem?_eq_some_iff.1 hv).1; simpa using this
              have hx : cs[off + j]? = some cs[off + j] := List.getElem?_eq_getElem (by omega)
              obtain ⟨u, hu, hru⟩ := g3 _ _ hx
              rw [← Nat.add_assoc] at hu
              simp [hj, hu] at hv
              subst hv
              exact hu
            · cases hv)
          rw [List.length_take, List.length_map, List.length_range, Nat.min_eq_left (by omega)] at this
          exact this
    · cases h
theorem firstCells_sound (hI : Inv F pl H w) {sz m : Nat} {y uy b} (hy : Rel F pl y uy) (hs : szOk sz y = true) (hl : lenOf y = some m) (h : rowOf H y = some b) (k : Nat) (hk : k ≤ m) :
    (idFreeL b = true ∧ oneL b = true) ∧ b.length = m * sz ∧ ∃ vs : List Value, RelL F pl b vs ∧ (Builtin.firstCells sz k uy).run P w = .ok (vs.take (k * sz)).toArray w := by
  obtain ⟨h1, h2, vs, h3, h4⟩ := rowOf_sound (P := P) hI hy hs hl h
  refine ⟨h1, h2, vs, h3, ?_⟩
  have h4 := h4 (k * sz) (Nat.mul_le_mul_right _ hk)
  obtain ⟨a, cap, rfl, hc, ha⟩ := lenOf_sound hy hl
  cases a with
  | none =>
    obtain ⟨rfl, rfl⟩ := ha rfl
    have : b = [] := List.eq_nil_of_length_eq_zero (by rw [h2]; simp)
    subst this
    rw [h3.nil_inv]
    simp [Builtin.firstCells]
  | some a => simpa [Builtin.firstCells] using h4
theorem growBy_le (n : Nat) : ∀ (r c : Nat), c ≤ 2 * n + 1024 → Builtin.growBy n r c ≤ 3 * n + 2048
  | 0, c, h => by simp [Builtin.growBy]; omega
  | r + 1, c, h => by
    unfold Builtin.growBy
    split
    · omega
    · rename_i hc
      exact growBy_le n r _ (by omega)
theorem nextslicecap_le {need cap : Nat} (h : cap < need) : Builtin.nextslicecap need cap ≤ 3 * need + 2048 := by
  unfold Builtin.nextslicecap
  split
  · omega
  · split
    · omega
    · exact growBy_le need 4 cap (by omega)
theorem killRow_sound (hI : Inv F pl H w) {x H1} (h : killRow H x = some H1) : Inv F pl H1 w ∧ Stp F pl H w F pl H1 w ∧ H1.length = H.length ∧ (∀ i, live H1 i → live H i) := by
  unfold killRow at h
  split at h
  · cases h; exact ⟨hI, Stp.refl _ _ _ _, rfl, fun _ h => h⟩
  · cases h
    rename_i id _ _ _
    obtain ⟨g1, g2⟩ := hI.kill id
    refine ⟨g1, g2, by simp, fun i ⟨o, ho⟩ => ?_⟩
    by_cases e : id = i
    · subst e
      rw [List.getElem?_set] at ho
      simp at ho
    · rw [get_set_ne e] at ho; exact ⟨o, ho⟩
  · cases h
theorem newBox_sound (hI : Inv F pl H w) {sz len cap : Nat} {cs : List AV} (h1 : oneL cs = true) (hlen : cs.length = len * sz) (hc : len ≤ cap) (c : Array Value) (t : TypeId) (hcap : cap * sz ≤ c.size)
    (hr : ∀ (j : Nat) x v, cs[j]? = some x → c[j]? = some v → Rel F pl x v) {v H'} (h : newBox sz len cs H = (v, H')) :
    ∃ F' pl', Rel F' pl' v (.slice (some ⟨w.heap.size, 0, none⟩) len cap) ∧ Inv F' pl' H' (w.alloc (.cells c t)) ∧ Stp F pl H w F' pl' H' (w.alloc (.cells c t)) ∧ LeF pl pl' := by
  have hlc : cs.length ≤ c.size := by
    rw [hlen]
    exact Nat.le_trans (Nat.mul_le_mul_right _ hc) hcap
  unfold newBox at h
  cases h
  obtain ⟨g1, g2, g3⟩ := hI.push (.box cs) rfl (fun _ e => by cases e) h1 c t hlc hr
  exact ⟨F, _, Rel.sl extPl_new hc (fun _ => ⟨by simp, by simpa using hcap⟩) rfl, g1, g2, g3⟩
theorem bldB_sound {t e : Nat} {s se} (ft : TFact P t s) (hk : s.kind = .slice e) (fe : TFact P e se) (hz : se.zero.length = se.size) (hI : Inv F pl H w) {parts : Array (Nat × Value)} {places vs} {len v H'} (hsz : len * se.size ≤ 2 ^ 24)
    (hp : placesOk (fun i => some (i * se.size, se.size)) (parts.toList.map (·.1)) places = true) (hv : RelL F pl vs (parts.toList.map (·.2))) (h : evE call H (.bldB se.size len se.zero places) vs = some (v, H')) :
    Eff P F pl H w (do pure (.value (← Instr.buildSlice t len parts))) v H' := by
  simp only [evE, Option.bind_eq_some_iff] at h
  obtain ⟨cs, hcs, h⟩ := h
  split at h
  · rename_i hc
    injection h with h
    have hd := kind_slice (hk ▸ ft.hk)
    have hzr := constsOk_rel (F := F) (pl := pl) fe.hc
    have hzip : (parts.toList.map (·.1)).zip (parts.toList.map (·.2)) = parts.toList := by rw [List.zip_map']; simp
    have hzip' : (List.map (·.1) parts.toList).zip (List.map (·.2) parts.toList) = parts.toList := hzip
    have key : ∀ (u : Array Value), RelL F pl (repl len se.zero) ((Array.range (len * se.size)).map (fun i => u[i % u.size]!)).toList →
        ∃ arr', Instr.fill (fun i => some (i * se.size, se.size)) ((Array.range (len * se.size)).map (fun i => u[i % u.size]!)) parts.toList = some arr' ∧ RelL F pl cs arr'.toList := by
      intro u hu
      obtain ⟨arr', h1, h2⟩ := fill_sound _ (parts.toList.map (·.1)) places vs (parts.toList.map (·.2)) (repl len se.zero) _ hp hv hu hcs
      rw [hzip] at h1
      exact ⟨arr', h1, h2⟩
    have hlenc : ∀ {cells ps ws} {cs : List AV}, fillParts cells ps ws = some cs → cs.length = cells.length := by
      intro cells ps
      induction ps generalizing cells with
      | nil => intro ws cs h; cases ws <;> simp [fillParts] at h; rw [h]
      | cons p ps ih =>
        intro ws cs h
        cases ws <;> simp [fillParts] at h
        rw [ih h.2, putPart_length]
    have hcl : cs.length = len * se.size := by rw [hlenc hcs, repl_length, hz]
    have fin : ∀ (arr' : Array Value), RelL F pl cs arr'.toList → (Instr.buildSlice t len parts).run P w = .ok (.slice (some ⟨w.heap.size, 0, none⟩) len len) (w.alloc (.cells arr' e)) →
        Eff P F pl H w (do pure (.value (← Instr.buildSlice t len parts))) v H' := by
      intro arr' hr hrun
      have hasz : arr'.size = len * se.size := by have := hr.1; rw [Array.length_toList] at this; omega
      obtain ⟨F', pl', r1, r2, r3, r4⟩ := newBox_sound hI (cap := len) hc hcl (Nat.le_refl _) arr' e (by rw [hasz]; exact Nat.le_refl _) (fun j x u hx hu => hr.2 j x u hx (by simpa using hu)) h
      exact ⟨_, F', pl', .inl ⟨_, by simp [hrun], r1⟩, r2, r3, r4⟩
    by_cases h0 : len * se.size = 0
    · obtain ⟨arr', h1, h2⟩ := key #[] (by
        have : repl len se.zero = [] := by
          have := repl_length len se.zero
          rw [hz, h0] at this
          exact List.eq_nil_of_length_eq_zero this
        rw [this, h0]
        simpa using RelL.nil)
      refine fin arr' h2 ?_
      have hng : ¬ (len * se.size > 2 ^ 24) := by omega
      simp only [h0] at h1 hng
      simp [Instr.buildSlice, ft.run_underlying, hd, fe.run_sizeOf, h0]
      simp only [List.size_toArray, List.length_nil] at h1
      simp at h1
      simp [h1, Go.newRow]
    · obtain ⟨arr', h1, h2⟩ := key fe.z.cells (repl_rel hzr (by rw [hz]))
      refine fin arr' h2 ?_
      have hng : ¬ (len * se.size > 2 ^ 24) := by omega
      simp only [Instr.buildSlice, Sem.run_bind, ft.run_underlying, hd, Result.andThen_ok, fe.run_sizeOf, Sem.run_ite, if_neg hng, if_neg h0, fe.run_zero, Sem.run_pure, h1]
      simp [Go.newRow]
  · cases h
theorem mkB_sound {t e : Nat} {s se} (ft : TFact P t s) (hk : s.kind = .slice e) (fe : TFact P e se) (hz : se.zero.length = se.size) (hb : se.bytes ≤ 1048576) (hI : Inv F pl H w) {x y : AV} {ux uy : Value} (hx : Rel F pl x ux) (hy : Rel F pl y uy)
    {v H'} (h : evE call H (.mkB se.size se.bytes se.zero) [x, y] = some (v, H')) :
    Eff P F pl H w (do pure (.value (← Instr.makeSlice t ux uy))) v H' := by
  cases x <;> try (cases y <;> simp [evE] at h; done)
  cases y <;> try (simp [evE] at h; done)
  rename_i k n k' c
  rw [rel_int_inv hx, rel_int_inv hy]
  simp only [evE] at h
  split at h
  · rename_i hc
    obtain ⟨h0, rfl, hm⟩ := hc
    injection h with h
    have hm' : n ≤ 1048576 := hm
    have hd := kind_slice (hk ▸ ft.hk)
    have hw := wrap_small h0 hm'
    have hzr := constsOk_rel (F := F) (pl := pl) fe.hc
    have hzf : idFreeL se.zero = true ∧ oneL se.zero = true := ⟨constsOk_free fe.hc, constsOk_one fe.hc⟩
    have hlen : (repl n.toNat se.zero).length = n.toNat * se.size := by rw [repl_length, hz]
    have hbn : ¬ (281474976710656 < (fe.i.bytes : Int) * n) := by
      rw [fe.hb]
      have h3 : (se.bytes : Int) ≤ 1048576 := by omega
      have h4 : (se.bytes : Int) * n ≤ 1048576 * n := Int.mul_le_mul_of_nonneg_right h3 h0
      omega
    have key : ∀ (arr : Array Value), RelL F pl (repl n.toNat se.zero) arr.toList → (Instr.makeSlice t (.int k n) (.int k' n)).run P w = .ok (.slice (some ⟨w.heap.size, 0, none⟩) n.toNat n.toNat) (w.alloc (.cells arr e)) →
        Eff P F pl H w (do pure (.value (← Instr.makeSlice t (.int k n) (.int k' n)))) v H' := by
      intro arr hr hrun
      have hasz : arr.size = n.toNat * se.size := by have := hr.1; rw [Array.length_toList] at this; omega
      obtain ⟨F', pl', r1, r2, r3, r4⟩ := newBox_sound hI (len := n.toNat) (cap := n.toNat) (repl_fl hzf).2 hlen (Nat.le_refl _) arr e (by rw [hasz]; exact Nat.le_refl _) (fun j x u hx hu => hr.2 j x u hx (by simpa using hu)) (show newBox se.size n.toNat (repl n.toNat se.zero) H = (v, H') from h)
      exact ⟨_, F', pl', .inl ⟨_, by simp [hrun], r1⟩, r2, r3, r4⟩
    have hneg : (n < 0) = False := by simp only [eq_iff_iff, iff_false]; omega
    by_cases hn0 : n.toNat * se.size = 0
    · refine key #[] (by
        have : repl n.toNat se.zero = [] := List.eq_nil_of_length_eq_zero (by rw [hlen, hn0])
        rw [this]; simpa using RelL.nil) ?_
      simp [Instr.makeSlice, ft.run_underlying, hd, asInt, asIntOf, fe.run_typeInfo, hw, hneg, hbn, run_askRoom, fe.run_sizeOf, hn0, Go.newRow]
      rw [show Array.range 0 = #[] from by decide]
      exact congrArg (fun c => w.alloc (Obj.cells c e)) (by simp)
    · refine key _ (repl_rel (n := n.toNat) (m := n.toNat * se.size) hzr (by rw [hz])) ?_
      simp [Instr.makeSlice, ft.run_underlying, hd, asInt, asIntOf, fe.run_typeInfo, hw, hneg, hbn, run_askRoom, fe.run_sizeOf, hn0, Go.newRow, fe.run_zero]
  · cases h
theorem one_drop {cs : List AV} (k : Nat) (h : oneL cs = true) : oneL (cs.drop k) = true := by
  rw [oneL_iff] at *
  exact fun x hx => h x (List.mem_of_mem_drop hx)
theorem one_take {cs : List AV} (k : Nat) (h : oneL cs = true) : oneL (cs.take k) = true := by
  rw [oneL_iff] at *
  exact fun x hx => h x (List.mem_of_mem_take hx)
theorem one_append {cs ds : List AV} (h : oneL cs = true) (h' : oneL ds = true) : oneL (cs ++ ds) = true := by rw [oneL_append, h, h']; rfl
theorem rowC_sound (hI : Inv F pl H w) {sz m : Nat} {y uy b} (hy : Rel F pl y uy) (hs : szOk sz y = true) (hl : lenOf y = some m) (h : rowC H y = some b) :
    oneL b = true ∧ b.length = m * sz ∧ ∃ vs : List Value, RelL F pl b vs ∧ ∀ k, k ≤ m * sz → (match uy with
      | .slice (some a) _ _ => (loadCells a k).run P w = .ok (vs.take k).toArray w
      | _ => True) := by
  cases hy <;> simp [lenOf] at hl <;> simp only [rowC] at h
  · cases h
    subst hl
    exact ⟨rfl, by simp, [], .nil, fun _ _ => trivial⟩
  · rename_i ad sz' len' cap cs' vs hlen hc hspt hf hm hr
    cases h
    subst hl
    simp only [szOk, beq_iff_eq] at hs
    subst hs
    refine ⟨hf.2, hlen, (List.range b.length).map vs, ⟨by simp, fun j x v hx hv => ?_⟩, fun k hk => ?_⟩
    · have hj : j < b.length := (List.getElem?_eq_some_iff.1 hx).1
      simp [hj] at hv
      subst hv
      exact hr j x hx
    · dsimp only
      rcases Nat.eq_zero_or_pos k with rfl | hk0
      · simpa using run_loadCells_list (P := P) (w := w) ad [] (by simp)
      have hpos : 0 < len' := by
        rcases Nat.eq_zero_or_pos len' with e | e
        · rw [e] at hk; omega
        · exact e
      obtain ⟨bb, o, asp⟩ := ad
      have hsp0 : asp = none := hspt (by omega)
      subst hsp0
      have := run_loadCells_list (P := P) (w := w) ⟨bb, o, none⟩ (((List.range b.length).map vs).take k) (fun j v hv => by
        rw [addr_add]
        rw [List.getElem?_take] at hv
        split at hv
        · have hj : j < b.length := by have := (List.getElem?_eq_some_iff.1 hv).1; simpa using this
          simp [hj] at hv
          subst hv
          exact hI.ro _ _ (hm j b[j] (List.getElem?_eq_getElem hj))
        · cases hv)
      rw [List.length_take, List.length_map, List.length_range, Nat.min_eq_left (by omega)] at this
      exact this
  · rename_i id sz' off len' cap p a hp hc ha hspot
    have hl := hl.symm
    subst hl
    simp only [szOk, beq_iff_eq] at hs
    have hs := hs.symm
    subst hs
    obtain ⟨cs, hcs, h⟩ := Option.bind_eq_some_iff.1 h
    split at h
    · rename_i hle
      cases h
      have hcell := hcs
      obtain ⟨q, hq, g1, g2, g3⟩ := hI.cell id cs hcell
      rw [hp] at hq; cases hq
      have hfl := hI.one id cs hcell
      have hbl : ((cs.drop off).take (m * sz)).length = m * sz := by rw [List.length_take, List.length_drop]; omega
      refine ⟨one_take _ (one_drop _ hfl), hbl, (List.range (m * sz)).map (fun j => (w.cell? ⟨p.block, p.base + off + j, none⟩).getD Go.undef), ⟨by simp [hbl], fun j x v hx hv => ?_⟩, fun k hk => ?_⟩
      · have hj : j < m * sz := by have := (List.getElem?_eq_some_iff.1 hx).1; omega
        rw [List.getElem?_take, if_pos hj, List.getElem?_drop] at hx
        obtain ⟨u, hu, hru⟩ := g3 _ x hx
        rw [← Nat.add_assoc] at hu
        simp [hj, hu] at hv
        subst hv
        exact hru
      · dsimp only
        rcases Nat.eq_zero_or_pos k with rfl | hk0
        · simpa using run_loadCells_list (P := P) (w := w) a [] (by simp)
        · have hm0 : 0 < m := by
            rcases Nat.eq_zero_or_pos m with e | e
            · rw [e] at hk; omega
            · exact e
          obtain ⟨rfl, _⟩ := ha (by omega)
          have := run_loadCells_list (P := P) (w := w) ⟨p.block, p.base + off, none⟩ (((List.range (m * sz)).map (fun j => (w.cell? ⟨p.block, p.base + off + j, none⟩).getD Go.undef)).take k) (fun j v hv => by
            rw [addr_add]
            rw [List.getElem?_take] at hv
            split at hv
            · have hj : j < m * sz := by have := (List.getElem?_eq_some_iff.1 hv).1; simpa using this
              have hx : cs[off + j]? = some cs[off + j] := List.getElem?_eq_getElem (by omega)
              obtain ⟨u, hu, hru⟩ := g3 _ _ hx
              rw [← Nat.add_assoc] at hu
              simp [hj, hu] at hv
              subst hv
              exact hu
            · cases hv)
          rw [List.length_take, List.length_map, List.length_range, Nat.min_eq_left (by omega)] at this
          exact this
    · cases h
theorem firstCellsC_sound (hI : Inv F pl H w) {sz m : Nat} {y uy b} (hy : Rel F pl y uy) (hs : szOk sz y = true) (hl : lenOf y = some m) (h : rowC H y = some b) (k : Nat) (hk : k ≤ m) :
    oneL b = true ∧ b.length = m * sz ∧ ∃ vs : List Value, RelL F pl b vs ∧ (Builtin.firstCells sz k uy).run P w = .ok (vs.take (k * sz)).toArray w := by
  obtain ⟨h1, h2, vs, h3, h4⟩ := rowC_sound (P := P) hI hy hs hl h
  refine ⟨h1, h2, vs, h3, ?_⟩
  have h4 := h4 (k * sz) (Nat.mul_le_mul_right _ hk)
  obtain ⟨a, cap, rfl, hc, ha⟩ := lenOf_sound hy hl
  cases a with
  | none =>
    obtain ⟨rfl, rfl⟩ := ha rfl
    have : b = [] := List.eq_nil_of_length_eq_zero (by rw [h2]; simp)
    subst this
    rw [h3.nil_inv]
    simp [Builtin.firstCells]
  | some a => simpa [Builtin.firstCells] using h4
end
section
variable {P : Program} {T : Tab} {F : RoT} {pl : PlT} {H : Heap} {w : World} {N : Nat} {env : Env} {a : Act} {call : CallF}
theorem Stp.drew (F : RoT) (pl : PlT) (H : Heap) (w : World) : Stp F pl H w F pl H w.drew := ⟨Fr.drew _ _, fun b h => .inl h, LeF.refl _, fun _ _ h => .inl h⟩
theorem Inv.move (h : Inv F pl H w) {i : Nat} {cs : List AV} {p : Place} {off : Nat} (hi : H.data? i = some cs) (hp : pl i = some p) (ho : off ≤ cs.length) :
    Inv F (extPl pl H.length ⟨p.block, p.base + off, p.lim - off⟩) (H.set i none ++ [some (.data (cs.drop off))]) w ∧
    Stp F pl H w F (extPl pl H.length ⟨p.block, p.base + off, p.lim - off⟩) (H.set i none ++ [some (.data (cs.drop off))]) w ∧ LeF pl (extPl pl H.length ⟨p.block, p.base + off, p.lim - off⟩) := by
  have hic := cells_of_data hi
  have hlt : i < H.length := h.lt hp
  obtain ⟨g1, g2⟩ := h.kill i
  have hlen : (H.set i none).length = H.length := by simp
  have hle := extPl_le (p := ⟨p.block, p.base + off, p.lim - off⟩) (h.fresh H.length (Nat.le_refl _))
  obtain ⟨q, hq, c1, c2, c3⟩ := h.cell i cs hic
  rw [hp] at hq; cases hq
  have hil : live H i := live_of_cells hic
  have hlv : ∀ k, live (H.set i none) k → live H k ∧ k ≠ i := fun k ⟨o, hk⟩ => by
    by_cases e : i = k
    · subst e
      rw [List.getElem?_set] at hk
      simp at hk
    · rw [get_set_ne e] at hk; exact ⟨⟨o, hk⟩, fun e' => e e'.symm⟩
  have hold : ∀ k, k ≠ H.length → extPl pl H.length ⟨p.block, p.base + off, p.lim - off⟩ k = pl k := fun k hk => extPl_old hk
  have hfl : idFreeL cs = true ∧ oneL cs = true := ⟨h.data i cs hi, h.one i cs hic⟩
  have hplace : ∀ k q, live (H.set i none ++ [some (.data (cs.drop off))]) k → extPl pl H.length ⟨p.block, p.base + off, p.lim - off⟩ k = some q →
      (k = H.length ∧ q = ⟨p.block, p.base + off, p.lim - off⟩) ∨ (k ≠ H.length ∧ live H k ∧ k ≠ i ∧ pl k = some q) := fun k q hk hq => by
    by_cases e : k = H.length
    · subst e
      rw [extPl_new] at hq; cases hq
      exact .inl ⟨rfl, rfl⟩
    · rw [hold k e] at hq
      have := (live_push_old (H := H.set i none) (by rw [hlen]; exact e)).1 hk
      exact .inr ⟨e, (hlv k this).1, (hlv k this).2, hq⟩
  refine ⟨⟨fun k hk => ?_, fun k ds hk => ?_, fun k ds hk => ?_, fun k ds hk => ?_, fun k es hk => ?_, fun k j q r hk hj hq hr e => ?_, h.ro, fun a v k q hv hk hq => ?_, fun k q hk hq => ?_⟩, ⟨Fr.refl _ _, fun b ⟨k, q, hk, hq, e⟩ => ?_, LeF.refl _, fun _ _ hv => .inl hv⟩, hle⟩
  · simp at hk
    rw [hold k (by omega)]
    exact h.fresh k (by omega)
  · by_cases e : k = H.length
    · subst e
      have hds : ds = cs.drop off := by
        have := cells_push_new (H := H.set i none) (o := .data (cs.drop off))
        rw [hlen] at this
        rw [this] at hk
        simp [HO.cells?] at hk
        exact hk.symm
      subst hds
      refine ⟨_, extPl_new, by rw [List.length_drop]; dsimp only; omega, fun j hj => ?_, fun j x hx => ?_⟩
      · obtain ⟨v, hv, hz⟩ := c2 (off + j) (by dsimp only at hj; omega)
        dsimp only
        rw [Nat.add_assoc]
        exact ⟨v, hv, hz⟩
      · rw [List.getElem?_drop] at hx
        obtain ⟨v, hv, hz⟩ := c3 (off + j) x hx
        dsimp only
        rw [Nat.add_assoc]
        exact ⟨v, hv, hz.mono (LeF.refl _) hle⟩
    · rw [cells_push_old (by rw [hlen]; exact e)] at hk
      obtain ⟨q, hq, d1, d2, d3⟩ := g1.cell k ds hk
      exact ⟨q, hle _ _ hq, d1, d2, fun j x hx => let ⟨v, hv, hr⟩ := d3 j x hx; ⟨v, hv, hr.mono (LeF.refl _) hle⟩⟩
  · by_cases e : k = H.length
    · subst e
      have hds : ds = cs.drop off := by
        rw [data?_iff] at hk
        have := get_push_new (H := H.set i none) (o := some (.data (cs.drop off)))
        rw [hlen] at this
        rw [this] at hk
        injection hk with hk; injection hk with hk; injection hk with hk
        exact hk.symm
      subst hds
      exact (fl_drop _ hfl).1
    · rw [data_push_old (by rw [hlen]; exact e)] at hk
      exact g1.data k ds hk
  · by_cases e : k = H.length
    · subst e
      have hds : ds = cs.drop off := by
        have := cells_push_new (H := H.set i none) (o := .data (cs.drop off))
        rw [hlen] at this
        rw [this] at hk
        simp [HO.cells?] at hk
        exact hk.symm
      subst hds
      exact (fl_drop _ hfl).2
    · rw [cells_push_old (by rw [hlen]; exact e)] at hk
      exact g1.one k ds hk
  · by_cases e : k = H.length
    · subst e
      rw [map?_iff] at hk
      have := get_push_new (H := H.set i none) (o := some (.data (cs.drop off)))
      rw [hlen] at this
      rw [this] at hk
      injection hk with hk; injection hk with hk; cases hk
    · rw [map_push_old (by rw [hlen]; exact e)] at hk
      obtain ⟨g0, q, ces, clock, hq, hw, hm⟩ := g1.map k es hk
      exact ⟨g0, q, ces, clock, hle _ _ hq, hw, hm.1.mono (LeF.refl _) hle, hm.2.1.mono (LeF.refl _) hle, hm.2.2⟩
  · rcases hplace k q hk hq with ⟨rfl, rfl⟩ | ⟨a1, a2, a3, a4⟩
    · rcases hplace j r hj hr with ⟨rfl, rfl⟩ | ⟨b1, b2, b3, b4⟩
      · rfl
      · exact absurd (h.inj i j p r hil b2 hp b4 e).symm b3
    · rcases hplace j r hj hr with ⟨rfl, rfl⟩ | ⟨b1, b2, b3, b4⟩
      · exact absurd (h.inj k i q p a2 hil a4 hp e) a3
      · exact h.inj k j q r a2 b2 a4 b4 e
  · rcases hplace k q hk hq with ⟨rfl, rfl⟩ | ⟨a1, a2, a3, a4⟩
    · exact h.sep a v i p hv hil hp
    · exact h.sep a v k q hv a2 a4
  · rcases hplace k q hk hq with ⟨rfl, rfl⟩ | ⟨a1, a2, a3, a4⟩
    · exact h.pos i p hil hp
    · exact h.pos k q a2 a4
  · rcases hplace k q hk hq with ⟨rfl, rfl⟩ | ⟨a1, a2, a3, a4⟩
    · exact .inl ⟨i, p, hil, hp, e⟩
    · exact .inl ⟨k, q, a2, a4, e⟩
theorem Inv.extend (h : Inv F pl H w) {i : Nat} {c vs : List AV} {us : List Value} {p : Place} {k : Nat} (hi : H.data? i = some c) (hp : pl i = some p) (hk : k ≤ c.length) (hl : k + vs.length ≤ p.lim) (hr : RelL F pl vs us) (h1 : idFreeL vs = true ∧ oneL vs = true) :
    Inv F pl (H.set i (some (.data (c.take k ++ vs)))) (w.setCells p.block (p.base + k) us) ∧ Stp F pl H w F pl (H.set i (some (.data (c.take k ++ vs)))) (w.setCells p.block (p.base + k) us) := by
  have hic := cells_of_data hi
  obtain ⟨q, hq, g1, g2, g3⟩ := h.cell i c hic
  rw [hp] at hq; cases hq
  have hul := hr.1
  have hin : ∀ j, j < us.length → (w.cell? ⟨p.block, p.base + k + j, none⟩).isSome = true := fun j hj => by
    obtain ⟨v, hv, _⟩ := g2 (k + j) (by omega)
    rw [Nat.add_assoc, hv]; rfl
  have hput : ∀ j (hj : j < us.length), (w.setCells p.block (p.base + k) us).cell? ⟨p.block, p.base + k + j, none⟩ = some us[j] := fun j hj => World.cell?_setCells_in p.block us (p.base + k) w hin j hj
  have hout : ∀ x : Addr, (x.block = p.block → x.spot = none → x.off < p.base + k ∨ p.base + k + us.length ≤ x.off) → (w.setCells p.block (p.base + k) us).cell? x = w.cell? x := fun x hx => World.cell?_setCells_out p.block us (p.base + k) w x hx
  obtain ⟨s1, s2, s3⟩ := same_setCells (w := w) p.block (p.base + k) us
  have hfl : idFreeL c = true ∧ oneL c = true := ⟨h.data i c hi, h.one i c hic⟩
  have hfl2 := fl_append (fl_take k hfl) h1
  have htl : (c.take k).length = k := by rw [List.length_take]; omega
  refine h.write hic hp _ rfl (fun c' e => by cases e; exact hfl2.1) hfl2.2 (by rw [List.length_append, htl]; exact hl) (size_setCells _ _ _) (fun k hk => getD_setCells_other us hk) (fun a => World.frozen?_setCells _ _ _ _ _) s1 s2 s3 (fun j hj => ?_) fun j x hx => ?_
  · by_cases hc : k ≤ j ∧ j < k + us.length
    · have := hput (j - k) (by omega)
      rw [show p.base + k + (j - k) = p.base + j from by omega] at this
      exact ⟨_, this⟩
    · obtain ⟨v, hv, _⟩ := g2 j hj
      exact ⟨v, (hout _ fun _ _ => by dsimp only; omega).trans hv⟩
  · by_cases hj : j < k
    · rw [List.getElem?_append_left (by omega), List.getElem?_take, if_pos hj] at hx
      obtain ⟨v, hv, hrv⟩ := g3 j x hx
      exact ⟨v, (hout _ fun _ _ => by dsimp only; omega).trans hv, hrv⟩
    · rw [List.getElem?_append_right (by omega), htl] at hx
      have hju : j - k < us.length := by have := (List.getElem?_eq_some_iff.1 hx).1; omega
      have := hput (j - k) hju
      rw [show p.base + k + (j - k) = p.base + j from by omega] at this
      exact ⟨_, this, hr.2 _ x _ hx (List.getElem?_eq_getElem hju)⟩
theorem app_sound {t t2 e e2 : Nat} {s s2 se} (ft : TFact P t s) (hk : s.kind = .slice e) (ft2 : TFact P t2 s2) (hk2 : s2.kind = .slice e2) (fe : TFact P e se) (hz : se.zero.length = se.size) (hb : se.bytes ≤ 1048576) (hI : Inv F pl H w)
    {x y : AV} {ux uy : Value} (hx : Rel F pl x ux) (hy : Rel F pl y uy) {frz : Bool} {ty : TypeId} {v H'} (h : evE call H (.app frz se.size se.bytes) [x, y] = some (v, H')) :
    Eff P F pl H w (do pure (.value (← Builtin.append_ #[t, t2] ty #[ux, uy]))) v H' := by
  simp only [evE] at h
  unfold appOf at h
  split at h
  · rename_i hsz
    simp only [Bool.and_eq_true] at hsz
    simp only [Option.bind_eq_some_iff] at h
    obtain ⟨n, hn, m, hm, h⟩ := h
    obtain ⟨ax, cx, rfl, hcx, hax⟩ := lenOf_sound hx hn
    obtain ⟨ay, cy, rfl, hcy, hay⟩ := lenOf_sound hy hm
    have hd := kind_slice (hk ▸ ft.hk)
    have hd2 := kind_slice (hk2 ▸ ft2.hk)
    have hzr := constsOk_rel (F := F) (pl := pl) fe.hc
    have hzs : fe.z.cells.size = se.size := by have := hzr.1; rw [Array.length_toList] at this; omega
    have hrun : ∀ (res : Result Value), ((do
        let new ← Builtin.firstCells se.size m (.slice ay m cy)
        if n + m ≤ cx then do
          if let some a := ax then storeCells (a.add (n * se.size)) new.toList
          pure (.slice ax (n + m) cx)
        else pure (.slice ax (n + m) cx) : Sem Value).run P w = res) → True := fun _ _ => trivial
    split at h
    · -- nothing is appended
      rename_i hm0
      subst hm0
      split at h
      · cases h
      · cases h
        refine ⟨w, F, pl, .inl ⟨.slice ax n cx, ?_, hx⟩, hI, Stp.refl _ _ _ _, LeF.refl _⟩
        have h0 : (Builtin.firstCells se.size 0 (.slice ay 0 cy)).run P w = .ok #[] w := by
          cases ay with
          | none => simp [Builtin.firstCells]
          | some b => simpa [Builtin.firstCells] using run_loadCells_list (P := P) (w := w) b [] (by simp)
        have hcn : n ≤ cx := hcx
        cases ax with
        | none => simp [Builtin.append_, ft.run_underlying, ft2.run_underlying, hd, hd2, fe.run_sizeOf, Builtin.lenOf, hcn, h0]
        | some b => simp [Builtin.append_, ft.run_underlying, ft2.run_underlying, hd, hd2, fe.run_sizeOf, Builtin.lenOf, hcn, h0, storeCells]
    · rename_i hm0
      simp only [Option.bind_eq_some_iff] at h
      obtain ⟨ra, hra, rb, hrb, h⟩ := h
      split at h
      · rename_i hmost
        have hmost' : n + m ≤ 1048576 := hmost
        have h0 := Option.map_eq_some_iff.1 h
        clear h
        obtain ⟨H1, hH1, h⟩ := h0
        obtain ⟨fx1, fx2, vx, fx3, fx4⟩ := firstCells_sound (P := P) hI hx hsz.1 hn hra n (Nat.le_refl _)
        obtain ⟨fy1, fy2, vy, fy3, fy4⟩ := firstCells_sound (P := P) hI hy hsz.2 hm hrb m (Nat.le_refl _)
        have vxl : vx.length = n * se.size := by rw [fx3.1, fx2]
        have vyl : vy.length = m * se.size := by rw [fy3.1, fy2]
        rw [← vxl, List.take_length] at fx4
        rw [← vyl, List.take_length] at fy4
        have hnm : (n + m) * se.size = n * se.size + m * se.size := Nat.add_mul _ _ _
        have hab : (ra ++ rb).length = (n + m) * se.size := by rw [List.length_append, fx2, fy2, hnm]
        by_cases hfit : n + m ≤ cx
        · -- it fits
          cases ax with
          | none => have := hax rfl; omega
          | some b =>
            obtain ⟨id, sz', off, p, rfl, hp, ha⟩ : ∃ id sz' off p, x = .sl id sz' off n ∧ pl id = some p ∧ (0 < cx → b = ⟨p.block, p.base + off, none⟩ ∧ off + cx * sz' ≤ p.lim) := by
              cases hx with
              | sl hp hc' ha hs => exact ⟨_, _, _, _, rfl, hp, ha⟩
              | rd => simp [killRow] at hH1
              | undef => simp [killRow] at hH1
            simp [killRow] at hH1
            subst hH1
            simp only [szOk, beq_iff_eq] at hsz
            obtain ⟨hsz1, hsz2⟩ := hsz
            subst hsz1
            obtain ⟨hbe, hlim⟩ := ha (by omega)
            subst hbe
            simp only [rowOf] at hra
            obtain ⟨c, hcd, hra⟩ := Option.bind_eq_some_iff.1 hra
            split at hra
            · rename_i hle
              cases hra
              have hkl : off + n * se.size ≤ c.length := hle
              have hcapn : (n + m) * se.size ≤ cx * se.size := Nat.mul_le_mul_right _ hfit
              obtain ⟨g1, g2⟩ := hI.extend (k := off + n * se.size) hcd hp hkl (by rw [fy2]; omega) fy3 fy1
              have hcont : c.take (off + n * se.size) ++ rb = c.take off ++ ((c.drop off).take (n * se.size) ++ rb) := by
                rw [List.take_add, List.append_assoc]
              have hst := run_storeCells_at (P := P) (us := vy) (off := off + n * se.size) hI (cells_of_data hcd) hp (by rw [vyl]; omega) (oneL_rel fy3 fy1.2)
              have hrun : (Builtin.append_ #[t, t2] ty #[.slice (some ⟨p.block, p.base + off, none⟩) n cx, .slice ay m cy]).run P w = .ok (.slice (some ⟨p.block, p.base + off, none⟩) (n + m) cx) (w.setCells p.block (p.base + (off + n * se.size)) vy) := by
                simp [Builtin.append_, ft.run_underlying, ft2.run_underlying, hd, hd2, fe.run_sizeOf, Builtin.lenOf, hfit, fy4, addr_add]
                rw [Nat.add_assoc, hst]
                rfl
              have hd1 : Heap.data? (H.set id (some (.data (c.take (off + n * se.size) ++ rb)))) id = some (c.take (off + n * se.size) ++ rb) := by
                rw [data?_iff]
                exact get_set_eq (data?_iff.1 hcd)
              have hoff : (c.take off).length = off := by rw [List.length_take]; omega
              have hdrop : (c.take (off + n * se.size) ++ rb).drop off = (c.drop off).take (n * se.size) ++ rb := by
                rw [hcont, List.drop_left' hoff]
              have hset : (H.set id (some (HO.data (c.take (off + n * se.size) ++ rb)))).set id none = H.set id none := by rw [List.set_set]
              cases frz with
              | false =>
                simp only [newRow, Bool.false_eq_true, if_false] at h
                obtain ⟨m1, m2, m3⟩ := g1.move (off := off) hd1 hp (by rw [List.length_append, List.length_take]; omega)
                rw [hset, hdrop] at m1 m2
                have hlen : (H.set id (some (HO.data (c.take (off + n * se.size) ++ rb)))).length = H.length := by simp
                rw [hlen] at m1 m2 m3
                have hlen2 : (H.set id none).length = H.length := by simp
                obtain ⟨rfl, rfl⟩ := Prod.mk.inj h
                refine ⟨_, F, _, .inl ⟨.slice (some ⟨p.block, p.base + off, none⟩) (n + m) cx, by simp [hrun], ?_⟩, m1, g2.trans m2, m3⟩
                rw [hlen2]
                exact Rel.sl extPl_new hfit (fun _ => ⟨by simp, by dsimp only; omega⟩) rfl
              | true =>
                simp only [newRow, if_true] at h
                obtain ⟨rfl, rfl⟩ := Prod.mk.inj h
                obtain ⟨m1, m2⟩ := g1.freeze (live_of_cells (cells_of_data hd1)) hp
                rw [hset] at m1 m2
                refine ⟨_, _, pl, .inl ⟨.slice (some ⟨p.block, p.base + off, none⟩) (n + m) cx, by simp [hrun], ?_⟩, m1, g2.trans m2, LeF.refl _⟩
                obtain ⟨q, hq, d1, d2, d3⟩ := g1.cell id _ (cells_of_data hd1)
                rw [hp] at hq; cases hq
                have hget : ∀ (j : Nat) x, ((c.drop off).take (n * se.size) ++ rb)[j]? = some x → (c.take (off + n * se.size) ++ rb)[off + j]? = some x := fun j x hx => by
                  rw [← hdrop, List.getElem?_drop] at hx; exact hx
                refine Rel.rd (fun j => ((w.setCells p.block (p.base + (off + n * se.size)) vy).cell? ⟨p.block, p.base + off + j, none⟩).getD Go.undef) hab hfit (fun _ => rfl) (fl_append fx1 fy1) (fun j x hx => ?_) fun j x hx => ?_
                · obtain ⟨u, hu, hru⟩ := d3 _ x (hget j x hx)
                  rw [← Nat.add_assoc p.base off j] at hu
                  simp [roPl, hu]
                · obtain ⟨u, hu, hru⟩ := d3 _ x (hget j x hx)
                  rw [← Nat.add_assoc p.base off j] at hu
                  rw [hu]
                  exact hru.mono m2.leF (LeF.refl _)
            · cases hra
        · -- a new row
          have hgrow := nextslicecap_le (need := n + m) (cap := cx) (by omega)
          have hbytes : ¬ (Builtin.nextslicecap (n + m) cx * fe.i.bytes > 2 ^ 48) := by
            rw [fe.hb]
            have h3 : Builtin.nextslicecap (n + m) cx * se.bytes ≤ (3 * 1048576 + 2048) * 1048576 := Nat.mul_le_mul (by omega) hb
            omega
          generalize hcap : (n + m) + w.tape w.drawn (.appendCap (n + m) cx e) % (2 ^ 63 - (n + m)) = cap
          have hge : n + m ≤ cap := by omega
          have hmaxn : ¬ (((n + m : Nat) : Int) > IntKind.i64.max) := by
            have : IntKind.i64.max = 9223372036854775807 := by decide
            omega
          let arr := vx.toArray ++ vy.toArray ++ Builtin.zeroCells fe.z.cells (cap - (n + m))
          have harr : arr.toList = vx ++ (vy ++ (Builtin.zeroCells fe.z.cells (cap - (n + m))).toList) := by simp [arr]
          have hasz : arr.size = cap * se.size := by
            have hzc : (Builtin.zeroCells fe.z.cells (cap - (n + m))).size = (cap - (n + m)) * se.size := by simp [Builtin.zeroCells, hzs]
            have : (cap - (n + m)) * se.size = cap * se.size - (n + m) * se.size := Nat.sub_mul _ _ _
            have h5 : (n + m) * se.size ≤ cap * se.size := Nat.mul_le_mul_right _ hge
            simp only [arr, Array.size_append, List.size_toArray, hzc, vxl, vyl]
            omega
          have hread1 : ∀ w2 : World, (∀ k : Nat, w2.heap[k]? = w.heap[k]?) → True := fun _ _ => trivial
          obtain ⟨_, _, vx', fx3', fx4'⟩ := firstCells_sound (P := P) hI.drew hx hsz.1 hn hra n (Nat.le_refl _)
          obtain ⟨_, _, vy', fy3', fy4'⟩ := firstCells_sound (P := P) hI.drew hy hsz.2 hm hrb m (Nat.le_refl _)
          have vxl' : vx'.length = n * se.size := by rw [fx3'.1, fx2]
          have vyl' : vy'.length = m * se.size := by rw [fy3'.1, fy2]
          rw [← vxl', List.take_length] at fx4'
          rw [← vyl', List.take_length] at fy4'
          obtain ⟨k1, k2, k3, k4⟩ := killRow_sound hI.drew hH1
          let arr' := vx'.toArray ++ vy'.toArray ++ Builtin.zeroCells fe.z.cells (cap - (n + m))
          have harr' : arr'.toList = (vx' ++ vy') ++ (Builtin.zeroCells fe.z.cells (cap - (n + m))).toList := by simp [arr']
          have hasz' : arr'.size = cap * se.size := by
            have hzc : (Builtin.zeroCells fe.z.cells (cap - (n + m))).size = (cap - (n + m)) * se.size := by simp [Builtin.zeroCells, hzs]
            have : (cap - (n + m)) * se.size = cap * se.size - (n + m) * se.size := Nat.sub_mul _ _ _
            have h5 : (n + m) * se.size ≤ cap * se.size := Nat.mul_le_mul_right _ hge
            simp only [arr', Array.size_append, List.size_toArray, hzc, vxl', vyl']
            omega
          have hrel : ∀ (j : Nat) x u, (ra ++ rb)[j]? = some x → arr'[j]? = some u → Rel F pl x u := fun j x u hx' hu' => by
            have hj : j < (ra ++ rb).length := (List.getElem?_eq_some_iff.1 hx').1
            have hu2 : arr'.toList[j]? = some u := by simpa using hu'
            have hab' := fx3'.append fy3'
            rw [harr', List.getElem?_append_left (by rw [hab'.1]; exact hj)] at hu2
            exact hab'.2 j x u hx' hu2
          obtain ⟨F', pl', r1, r2, r3, r4⟩ := newRow_sound k1 (frz := frz) (cap := cap) (fl_append fx1 fy1) hab hge arr' e (by rw [hasz']; exact Nat.le_refl _) hrel h
          refine ⟨_, F', pl', .inl ⟨.slice (some ⟨w.drew.heap.size, 0, none⟩) (n + m) cap, ?_, r1⟩, r2, ((Stp.drew F pl H w).trans k2).trans r3, r4⟩
          have hmx : ¬ (IntKind.i64.max < ((n + m : Nat) : Int) ∧ fe.i.bytes = 0) := fun hh => hmaxn hh.1
          have hmx2 : ¬ (9223372036854775807 < (n : Int) + (m : Int)) := by omega
          have hforced : (Question.appendCap (n + m) cx e).forced = false := rfl
          have hcut : (Question.appendCap (n + m) cx e).cut (w.tape w.drawn (.appendCap (n + m) cx e)) = cap := hcap
          have hbytes2 : ¬ (281474976710656 < Builtin.nextslicecap (n + m) cx * fe.i.bytes) := by
            have e : (2 : Nat) ^ 48 = 281474976710656 := by decide
            rw [e] at hbytes
            omega
          simp [Builtin.append_, ft.run_underlying, ft2.run_underlying, hd, hd2, fe.run_sizeOf, Builtin.lenOf, hfit, fe.run_typeInfo, hmx2, hbytes2, hforced, hcut, run_askRoom, fx4', fy4', fe.run_zero, Go.newRow, arr']
      · cases h
  · cases h
theorem cpy_sound {t t2 e : Nat} {s se} (ft : TFact P t s) (hk : s.kind = .slice e) (fe : TFact P e se) (hI : Inv F pl H w)
    {x y : AV} {ux uy : Value} (hx : Rel F pl x ux) (hy : Rel F pl y uy) {ty : TypeId} {v H'} (h : evE call H (.cpy se.size) [x, y] = some (v, H')) :
    Eff P F pl H w (do pure (.value (← Builtin.copy_ #[t, t2] ty #[ux, uy]))) v H' := by
  simp only [evE] at h
  split at h
  · rename_i hsz
    simp only [Bool.and_eq_true] at hsz
    simp only [Option.bind_eq_some_iff] at h
    obtain ⟨n, hn, m, hm, rb, hrb, h⟩ := h
    obtain ⟨ax, cx, rfl, hcx, hax⟩ := lenOf_sound hx hn
    obtain ⟨ay, cy, rfl, hcy, hay⟩ := lenOf_sound hy hm
    have hd := kind_slice (hk ▸ ft.hk)
    obtain ⟨f1, f2, vy, f3, f4⟩ := firstCells_sound (P := P) hI hy hsz.2 hm hrb (min m n) (Nat.min_le_left _ _)
    have hmin : Nat.min m n = min m n := rfl
    have vyl : vy.length = m * se.size := by rw [f3.1, f2]
    split at h
    · rename_i id sz' off len'
      split at h
      · rename_i c hcd
        split at h
        · rename_i hle
          simp only [Option.some.injEq, Prod.mk.injEq] at h
          obtain ⟨rfl, rfl⟩ := h
          obtain ⟨p, rfl, hp, ha⟩ : ∃ p, len' = n ∧ pl id = some p ∧ ∃ b, ax = some b ∧ (0 < cx → b = ⟨p.block, p.base + off, none⟩) := by
            cases hx with
            | sl hp hc' ha hs => exact ⟨_, rfl, hp, _, rfl, fun h0 => (ha h0).1⟩
          obtain ⟨b, rfl, ha⟩ := ha
          simp only [szOk, beq_iff_eq] at hsz
          have hml : (rb.take (min m len' * se.size)).length = min m len' * se.size := by
            have : min m len' * se.size ≤ m * se.size := Nat.mul_le_mul_right _ (Nat.min_le_left _ _)
            rw [List.length_take, f2]; omega
          have hcs : H.cells? id = some c := cells?_iff.2 (.inl hcd)
          have hfl := fl_take (min m len' * se.size) f1
          have hvl : (vy.take (min m len' * se.size)).length = min m len' * se.size := by rw [(f3.take _).1, hml]
          obtain ⟨g1, g2⟩ := hI.setCells hcs hp (off := off) (by rw [hml]; exact hle) (f3.take (min m len' * se.size)) hfl.2 (.data (putRow c off (rb.take (min m len' * se.size)))) rfl (fun c' e => by
            cases e
            rw [idFreeL_iff]
            exact putRow_all (idFreeL_iff.1 (hI.data id c (data?_iff.2 hcd))) (idFreeL_iff.1 hfl.1))
          obtain ⟨q, hq, c1, c2, c3⟩ := hI.cell id c hcs
          rw [hp] at hq; cases hq
          refine ⟨_, F, pl, .inl ⟨.int .i64 (min m len'), ?_, .int _ _⟩, g1, g2, LeF.refl _⟩
          by_cases h0 : min m len' = 0
          · have hnil : (vy.take (min m len' * se.size)) = [] := by
              refine List.eq_nil_of_length_eq_zero ?_
              rw [hvl, h0]; omega
            rw [hnil] at f4 ⊢
            simp [Builtin.copy_, ft.run_underlying, hd, Builtin.lenOf, hmin, fe.run_sizeOf, f4, storeCells, goInt, World.setCells]
            omega
          · have hb := ha (by omega)
            subst hb
            have hst := run_storeCells_at (P := P) (us := vy.take (min m len' * se.size)) (off := off) hI hcs hp (by rw [hvl]; omega) (oneL_rel (f3.take _) hfl.2)
            simp [Builtin.copy_, ft.run_underlying, hd, Builtin.lenOf, hmin, fe.run_sizeOf, f4, hst, goInt]
            omega
        · cases h
      · cases h
    · cases h
      cases hx
      refine ⟨w, F, pl, .inl ⟨.int .i64 0, ?_, .int _ _⟩, hI, Stp.refl _ _ _ _, LeF.refl _⟩
      have hmin0 : Nat.min m 0 = 0 := by simp
      simp at f4
      simp [Builtin.copy_, ft.run_underlying, hd, Builtin.lenOf, fe.run_sizeOf, f4, goInt, hmin0]
    · cases h
  · cases h
theorem Inv.moveB (h : Inv F pl H w) {i : Nat} {cs : List AV} {p : Place} {off : Nat} (hi : H.cells? i = some cs) (hp : pl i = some p) (ho : off ≤ cs.length) :
    Inv F (extPl pl H.length ⟨p.block, p.base + off, p.lim - off⟩) (H.set i none ++ [some (.box (cs.drop off))]) w ∧
    Stp F pl H w F (extPl pl H.length ⟨p.block, p.base + off, p.lim - off⟩) (H.set i none ++ [some (.box (cs.drop off))]) w ∧ LeF pl (extPl pl H.length ⟨p.block, p.base + off, p.lim - off⟩) := by
  have hic := hi
  have hlt : i < H.length := h.lt hp
  obtain ⟨g1, g2⟩ := h.kill i
  have hlen : (H.set i none).length = H.length := by simp
  have hle := extPl_le (p := ⟨p.block, p.base + off, p.lim - off⟩) (h.fresh H.length (Nat.le_refl _))
  obtain ⟨q, hq, c1, c2, c3⟩ := h.cell i cs hic
  rw [hp] at hq; cases hq
  have hil : live H i := live_of_cells hic
  have hlv : ∀ k, live (H.set i none) k → live H k ∧ k ≠ i := fun k ⟨o, hk⟩ => by
    by_cases e : i = k
    · subst e
      rw [List.getElem?_set] at hk
      simp at hk
    · rw [get_set_ne e] at hk; exact ⟨⟨o, hk⟩, fun e' => e e'.symm⟩
  have hold : ∀ k, k ≠ H.length → extPl pl H.length ⟨p.block, p.base + off, p.lim - off⟩ k = pl k := fun k hk => extPl_old hk
  have hfl := h.one i cs hic
  have hplace : ∀ k q, live (H.set i none ++ [some (.box (cs.drop off))]) k → extPl pl H.length ⟨p.block, p.base + off, p.lim - off⟩ k = some q →
      (k = H.length ∧ q = ⟨p.block, p.base + off, p.lim - off⟩) ∨ (k ≠ H.length ∧ live H k ∧ k ≠ i ∧ pl k = some q) := fun k q hk hq => by
    by_cases e : k = H.length
    · subst e
      rw [extPl_new] at hq; cases hq
      exact .inl ⟨rfl, rfl⟩
    · rw [hold k e] at hq
      have := (live_push_old (H := H.set i none) (by rw [hlen]; exact e)).1 hk
      exact .inr ⟨e, (hlv k this).1, (hlv k this).2, hq⟩
  refine ⟨⟨fun k hk => ?_, fun k ds hk => ?_, fun k ds hk => ?_, fun k ds hk => ?_, fun k es hk => ?_, fun k j q r hk hj hq hr e => ?_, h.ro, fun a v k q hv hk hq => ?_, fun k q hk hq => ?_⟩, ⟨Fr.refl _ _, fun b ⟨k, q, hk, hq, e⟩ => ?_, LeF.refl _, fun _ _ hv => .inl hv⟩, hle⟩
  · simp at hk
    rw [hold k (by omega)]
    exact h.fresh k (by omega)
  · by_cases e : k = H.length
    · subst e
      have hds : ds = cs.drop off := by
        have := cells_push_new (H := H.set i none) (o := .box (cs.drop off))
        rw [hlen] at this
        rw [this] at hk
        simp [HO.cells?] at hk
        exact hk.symm
      subst hds
      refine ⟨_, extPl_new, by rw [List.length_drop]; dsimp only; omega, fun j hj => ?_, fun j x hx => ?_⟩
      · obtain ⟨v, hv, hz⟩ := c2 (off + j) (by dsimp only at hj; omega)
        dsimp only
        rw [Nat.add_assoc]
        exact ⟨v, hv, hz⟩
      · rw [List.getElem?_drop] at hx
        obtain ⟨v, hv, hz⟩ := c3 (off + j) x hx
        dsimp only
        rw [Nat.add_assoc]
        exact ⟨v, hv, hz.mono (LeF.refl _) hle⟩
    · rw [cells_push_old (by rw [hlen]; exact e)] at hk
      obtain ⟨q, hq, d1, d2, d3⟩ := g1.cell k ds hk
      exact ⟨q, hle _ _ hq, d1, d2, fun j x hx => let ⟨v, hv, hr⟩ := d3 j x hx; ⟨v, hv, hr.mono (LeF.refl _) hle⟩⟩
  · by_cases e : k = H.length
    · subst e
      rw [data?_iff] at hk
      have := get_push_new (H := H.set i none) (o := some (.box (cs.drop off)))
      rw [hlen] at this
      rw [this] at hk
      injection hk with hk; injection hk with hk; cases hk
    · rw [data_push_old (by rw [hlen]; exact e)] at hk
      exact g1.data k ds hk
  · by_cases e : k = H.length
    · subst e
      have hds : ds = cs.drop off := by
        have := cells_push_new (H := H.set i none) (o := .box (cs.drop off))
        rw [hlen] at this
        rw [this] at hk
        simp [HO.cells?] at hk
        exact hk.symm
      subst hds
      exact one_drop _ hfl
    · rw [cells_push_old (by rw [hlen]; exact e)] at hk
      exact g1.one k ds hk
  · by_cases e : k = H.length
    · subst e
      rw [map?_iff] at hk
      have := get_push_new (H := H.set i none) (o := some (.box (cs.drop off)))
      rw [hlen] at this
      rw [this] at hk
      injection hk with hk; injection hk with hk; cases hk
    · rw [map_push_old (by rw [hlen]; exact e)] at hk
      obtain ⟨g0, q, ces, clock, hq, hw, hm⟩ := g1.map k es hk
      exact ⟨g0, q, ces, clock, hle _ _ hq, hw, hm.1.mono (LeF.refl _) hle, hm.2.1.mono (LeF.refl _) hle, hm.2.2⟩
  · rcases hplace k q hk hq with ⟨rfl, rfl⟩ | ⟨a1, a2, a3, a4⟩
    · rcases hplace j r hj hr with ⟨rfl, rfl⟩ | ⟨b1, b2, b3, b4⟩
      · rfl
      · exact absurd (h.inj i j p r hil b2 hp b4 e).symm b3
    · rcases hplace j r hj hr with ⟨rfl, rfl⟩ | ⟨b1, b2, b3, b4⟩
      · exact absurd (h.inj k i q p a2 hil a4 hp e) a3
      · exact h.inj k j q r a2 b2 a4 b4 e
  · rcases hplace k q hk hq with ⟨rfl, rfl⟩ | ⟨a1, a2, a3, a4⟩
    · exact h.sep a v i p hv hil hp
    · exact h.sep a v k q hv a2 a4
  · rcases hplace k q hk hq with ⟨rfl, rfl⟩ | ⟨a1, a2, a3, a4⟩
    · exact h.pos i p hil hp
    · exact h.pos k q a2 a4
  · rcases hplace k q hk hq with ⟨rfl, rfl⟩ | ⟨a1, a2, a3, a4⟩
    · exact .inl ⟨i, p, hil, hp, e⟩
    · exact .inl ⟨k, q, a2, a4, e⟩
theorem Inv.extendB (h : Inv F pl H w) {i : Nat} {c vs : List AV} {us : List Value} {p : Place} {k : Nat} (hi : H.cells? i = some c) (hp : pl i = some p) (hk : k ≤ c.length) (hl : k + vs.length ≤ p.lim) (hr : RelL F pl vs us) (h1 : oneL vs = true) :
    Inv F pl (H.set i (some (.box (c.take k ++ vs)))) (w.setCells p.block (p.base + k) us) ∧ Stp F pl H w F pl (H.set i (some (.box (c.take k ++ vs)))) (w.setCells p.block (p.base + k) us) := by
  have hic := hi
  obtain ⟨q, hq, g1, g2, g3⟩ := h.cell i c hic
  rw [hp] at hq; cases hq
  have hul := hr.1
  have hin : ∀ j, j < us.length → (w.cell? ⟨p.block, p.base + k + j, none⟩).isSome = true := fun j hj => by
    obtain ⟨v, hv, _⟩ := g2 (k + j) (by omega)
    rw [Nat.add_assoc, hv]; rfl
  have hput : ∀ j (hj : j < us.length), (w.setCells p.block (p.base + k) us).cell? ⟨p.block, p.base + k + j, none⟩ = some us[j] := fun j hj => World.cell?_setCells_in p.block us (p.base + k) w hin j hj
  have hout : ∀ x : Addr, (x.block = p.block → x.spot = none → x.off < p.base + k ∨ p.base + k + us.length ≤ x.off) → (w.setCells p.block (p.base + k) us).cell? x = w.cell? x := fun x hx => World.cell?_setCells_out p.block us (p.base + k) w x hx
  obtain ⟨s1, s2, s3⟩ := same_setCells (w := w) p.block (p.base + k) us
  have hfl := h.one i c hic
  have hfl2 := one_append (one_take k hfl) h1
  have htl : (c.take k).length = k := by rw [List.length_take]; omega
  refine h.write hic hp _ rfl (fun c' e => by cases e) hfl2 (by rw [List.length_append, htl]; exact hl) (size_setCells _ _ _) (fun k hk => getD_setCells_other us hk) (fun a => World.frozen?_setCells _ _ _ _ _) s1 s2 s3 (fun j hj => ?_) fun j x hx => ?_
  · by_cases hc : k ≤ j ∧ j < k + us.length
    · have := hput (j - k) (by omega)
      rw [show p.base + k + (j - k) = p.base + j from by omega] at this
      exact ⟨_, this⟩
    · obtain ⟨v, hv, _⟩ := g2 j hj
      exact ⟨v, (hout _ fun _ _ => by dsimp only; omega).trans hv⟩
  · by_cases hj : j < k
    · rw [List.getElem?_append_left (by omega), List.getElem?_take, if_pos hj] at hx
      obtain ⟨v, hv, hrv⟩ := g3 j x hx
      exact ⟨v, (hout _ fun _ _ => by dsimp only; omega).trans hv, hrv⟩
    · rw [List.getElem?_append_right (by omega), htl] at hx
      have hju : j - k < us.length := by have := (List.getElem?_eq_some_iff.1 hx).1; omega
      have := hput (j - k) hju
      rw [show p.base + k + (j - k) = p.base + j from by omega] at this
      exact ⟨_, this, hr.2 _ x _ hx (List.getElem?_eq_getElem hju)⟩
theorem appB_sound {t t2 e e2 : Nat} {s s2 se} (ft : TFact P t s) (hk : s.kind = .slice e) (ft2 : TFact P t2 s2) (hk2 : s2.kind = .slice e2) (fe : TFact P e se) (hz : se.zero.length = se.size) (hb : se.bytes ≤ 1048576) (hI : Inv F pl H w)
    {x y : AV} {ux uy : Value} (hx : Rel F pl x ux) (hy : Rel F pl y uy) {ty : TypeId} {v H'} (h : evE call H (.appB se.size se.bytes) [x, y] = some (v, H')) :
    Eff P F pl H w (do pure (.value (← Builtin.append_ #[t, t2] ty #[ux, uy]))) v H' := by
  simp only [evE] at h
  unfold appBOf at h
  split at h
  · rename_i hsz
    simp only [Bool.and_eq_true] at hsz
    simp only [Option.bind_eq_some_iff] at h
    obtain ⟨n, hn, m, hm, h⟩ := h
    obtain ⟨ax, cx, rfl, hcx, hax⟩ := lenOf_sound hx hn
    obtain ⟨ay, cy, rfl, hcy, hay⟩ := lenOf_sound hy hm
    have hd := kind_slice (hk ▸ ft.hk)
    have hd2 := kind_slice (hk2 ▸ ft2.hk)
    have hzr := constsOk_rel (F := F) (pl := pl) fe.hc
    have hzs : fe.z.cells.size = se.size := by have := hzr.1; rw [Array.length_toList] at this; omega
    have hrun : ∀ (res : Result Value), ((do
        let new ← Builtin.firstCells se.size m (.slice ay m cy)
        if n + m ≤ cx then do
          if let some a := ax then storeCells (a.add (n * se.size)) new.toList
          pure (.slice ax (n + m) cx)
        else pure (.slice ax (n + m) cx) : Sem Value).run P w = res) → True := fun _ _ => trivial
    split at h
    · -- nothing is appended
      rename_i hm0
      subst hm0
      · cases h
        refine ⟨w, F, pl, .inl ⟨.slice ax n cx, ?_, hx⟩, hI, Stp.refl _ _ _ _, LeF.refl _⟩
        have h0 : (Builtin.firstCells se.size 0 (.slice ay 0 cy)).run P w = .ok #[] w := by
          cases ay with
          | none => simp [Builtin.firstCells]
          | some b => simpa [Builtin.firstCells] using run_loadCells_list (P := P) (w := w) b [] (by simp)
        have hcn : n ≤ cx := hcx
        cases ax with
        | none => simp [Builtin.append_, ft.run_underlying, ft2.run_underlying, hd, hd2, fe.run_sizeOf, Builtin.lenOf, hcn, h0]
        | some b => simp [Builtin.append_, ft.run_underlying, ft2.run_underlying, hd, hd2, fe.run_sizeOf, Builtin.lenOf, hcn, h0, storeCells]
    · rename_i hm0
      simp only [Option.bind_eq_some_iff] at h
      obtain ⟨ra, hra, rb, hrb, h⟩ := h
      split at h
      · rename_i hmost
        have hmost' : n + m ≤ 1048576 := hmost
        have h0 := Option.map_eq_some_iff.1 h
        clear h
        obtain ⟨H1, hH1, h⟩ := h0
        obtain ⟨fx1, fx2, vx, fx3, fx4⟩ := firstCellsC_sound (P := P) hI hx hsz.1 hn hra n (Nat.le_refl _)
        obtain ⟨fy1, fy2, vy, fy3, fy4⟩ := firstCellsC_sound (P := P) hI hy hsz.2 hm hrb m (Nat.le_refl _)
        have vxl : vx.length = n * se.size := by rw [fx3.1, fx2]
        have vyl : vy.length = m * se.size := by rw [fy3.1, fy2]
        rw [← vxl, List.take_length] at fx4
        rw [← vyl, List.take_length] at fy4
        have hnm : (n + m) * se.size = n * se.size + m * se.size := Nat.add_mul _ _ _
        have hab : (ra ++ rb).length = (n + m) * se.size := by rw [List.length_append, fx2, fy2, hnm]
        by_cases hfit : n + m ≤ cx
        · -- it fits
          cases ax with
          | none => have := hax rfl; omega
          | some b =>
            obtain ⟨id, sz', off, p, rfl, hp, ha⟩ : ∃ id sz' off p, x = .sl id sz' off n ∧ pl id = some p ∧ (0 < cx → b = ⟨p.block, p.base + off, none⟩ ∧ off + cx * sz' ≤ p.lim) := by
              cases hx with
              | sl hp hc' ha hs => exact ⟨_, _, _, _, rfl, hp, ha⟩
              | rd => simp [killRow] at hH1
              | undef => simp [killRow] at hH1
            simp [killRow] at hH1
            subst hH1
            simp only [szOk, beq_iff_eq] at hsz
            obtain ⟨hsz1, hsz2⟩ := hsz
            subst hsz1
            obtain ⟨hbe, hlim⟩ := ha (by omega)
            subst hbe
            simp only [rowC] at hra
            obtain ⟨c, hcd, hra⟩ := Option.bind_eq_some_iff.1 hra
            split at hra
            · rename_i hle
              cases hra
              have hkl : off + n * se.size ≤ c.length := hle
              have hcapn : (n + m) * se.size ≤ cx * se.size := Nat.mul_le_mul_right _ hfit
              obtain ⟨g1, g2⟩ := hI.extendB (k := off + n * se.size) hcd hp hkl (by rw [fy2]; omega) fy3 fy1
              have hcont : c.take (off + n * se.size) ++ rb = c.take off ++ ((c.drop off).take (n * se.size) ++ rb) := by
                rw [List.take_add, List.append_assoc]
              have hst := run_storeCells_at (P := P) (us := vy) (off := off + n * se.size) hI (hcd) hp (by rw [vyl]; omega) (oneL_rel fy3 fy1)
              have hrun : (Builtin.append_ #[t, t2] ty #[.slice (some ⟨p.block, p.base + off, none⟩) n cx, .slice ay m cy]).run P w = .ok (.slice (some ⟨p.block, p.base + off, none⟩) (n + m) cx) (w.setCells p.block (p.base + (off + n * se.size)) vy) := by
                simp [Builtin.append_, ft.run_underlying, ft2.run_underlying, hd, hd2, fe.run_sizeOf, Builtin.lenOf, hfit, fy4, addr_add]
                rw [Nat.add_assoc, hst]
                rfl
              obtain ⟨oo, hoo⟩ := live_of_cells hcd
              have hd1 : Heap.cells? (H.set id (some (.box (c.take (off + n * se.size) ++ rb)))) id = some (c.take (off + n * se.size) ++ rb) := by
                rw [cells?_iff]
                exact .inr (get_set_eq hoo)
              have hoff : (c.take off).length = off := by rw [List.length_take]; omega
              have hdrop : (c.take (off + n * se.size) ++ rb).drop off = (c.drop off).take (n * se.size) ++ rb := by
                rw [hcont, List.drop_left' hoff]
              have hset : (H.set id (some (HO.box (c.take (off + n * se.size) ++ rb)))).set id none = H.set id none := by rw [List.set_set]
              simp only [newBox] at h
              obtain ⟨m1, m2, m3⟩ := g1.moveB (off := off) hd1 hp (by rw [List.length_append, List.length_take]; omega)
              rw [hset, hdrop] at m1 m2
              have hlen : (H.set id (some (HO.box (c.take (off + n * se.size) ++ rb)))).length = H.length := by simp
              rw [hlen] at m1 m2 m3
              have hlen2 : (H.set id none).length = H.length := by simp
              obtain ⟨rfl, rfl⟩ := Prod.mk.inj h
              refine ⟨_, F, _, .inl ⟨.slice (some ⟨p.block, p.base + off, none⟩) (n + m) cx, by simp [hrun], ?_⟩, m1, g2.trans m2, m3⟩
              rw [hlen2]
              exact Rel.sl extPl_new hfit (fun _ => ⟨by simp, by dsimp only; omega⟩) rfl
            · cases hra
        · -- a new row
          have hgrow := nextslicecap_le (need := n + m) (cap := cx) (by omega)
          have hbytes : ¬ (Builtin.nextslicecap (n + m) cx * fe.i.bytes > 2 ^ 48) := by
            rw [fe.hb]
            have h3 : Builtin.nextslicecap (n + m) cx * se.bytes ≤ (3 * 1048576 + 2048) * 1048576 := Nat.mul_le_mul (by omega) hb
            omega
          generalize hcap : (n + m) + w.tape w.drawn (.appendCap (n + m) cx e) % (2 ^ 63 - (n + m)) = cap
          have hge : n + m ≤ cap := by omega
          have hmaxn : ¬ (((n + m : Nat) : Int) > IntKind.i64.max) := by
            have : IntKind.i64.max = 9223372036854775807 := by decide
            omega
          let arr := vx.toArray ++ vy.toArray ++ Builtin.zeroCells fe.z.cells (cap - (n + m))
          have harr : arr.toList = vx ++ (vy ++ (Builtin.zeroCells fe.z.cells (cap - (n + m))).toList) := by simp [arr]
          have hasz : arr.size = cap * se.size := by
            have hzc : (Builtin.zeroCells fe.z.cells (cap - (n + m))).size = (cap - (n + m)) * se.size := by simp [Builtin.zeroCells, hzs]
            have : (cap - (n + m)) * se.size = cap * se.size - (n + m) * se.size := Nat.sub_mul _ _ _
            have h5 : (n + m) * se.size ≤ cap * se.size := Nat.mul_le_mul_right _ hge
            simp only [arr, Array.size_append, List.size_toArray, hzc, vxl, vyl]
            omega
          have hread1 : ∀ w2 : World, (∀ k : Nat, w2.heap[k]? = w.heap[k]?) → True := fun _ _ => trivial
          obtain ⟨_, _, vx', fx3', fx4'⟩ := firstCellsC_sound (P := P) hI.drew hx hsz.1 hn hra n (Nat.le_refl _)
          obtain ⟨_, _, vy', fy3', fy4'⟩ := firstCellsC_sound (P := P) hI.drew hy hsz.2 hm hrb m (Nat.le_refl _)
          have vxl' : vx'.length = n * se.size := by rw [fx3'.1, fx2]
          have vyl' : vy'.length = m * se.size := by rw [fy3'.1, fy2]
          rw [← vxl', List.take_length] at fx4'
          rw [← vyl', List.take_length] at fy4'
          obtain ⟨k1, k2, k3, k4⟩ := killRow_sound hI.drew hH1
          let arr' := vx'.toArray ++ vy'.toArray ++ Builtin.zeroCells fe.z.cells (cap - (n + m))
          have harr' : arr'.toList = (vx' ++ vy') ++ (Builtin.zeroCells fe.z.cells (cap - (n + m))).toList := by simp [arr']
          have hasz' : arr'.size = cap * se.size := by
            have hzc : (Builtin.zeroCells fe.z.cells (cap - (n + m))).size = (cap - (n + m)) * se.size := by simp [Builtin.zeroCells, hzs]
            have : (cap - (n + m)) * se.size = cap * se.size - (n + m) * se.size := Nat.sub_mul _ _ _
            have h5 : (n + m) * se.size ≤ cap * se.size := Nat.mul_le_mul_right _ hge
            simp only [arr', Array.size_append, List.size_toArray, hzc, vxl', vyl']
            omega
          have hrel : ∀ (j : Nat) x u, (ra ++ rb)[j]? = some x → arr'[j]? = some u → Rel F pl x u := fun j x u hx' hu' => by
            have hj : j < (ra ++ rb).length := (List.getElem?_eq_some_iff.1 hx').1
            have hu2 : arr'.toList[j]? = some u := by simpa using hu'
            have hab' := fx3'.append fy3'
            rw [harr', List.getElem?_append_left (by rw [hab'.1]; exact hj)] at hu2
            exact hab'.2 j x u hx' hu2
          obtain ⟨F', pl', r1, r2, r3, r4⟩ := newBox_sound k1 (cap := cap) (one_append fx1 fy1) hab hge arr' e (by rw [hasz']; exact Nat.le_refl _) hrel h
          refine ⟨_, F', pl', .inl ⟨.slice (some ⟨w.drew.heap.size, 0, none⟩) (n + m) cap, ?_, r1⟩, r2, ((Stp.drew F pl H w).trans k2).trans r3, r4⟩
          have hmx : ¬ (IntKind.i64.max < ((n + m : Nat) : Int) ∧ fe.i.bytes = 0) := fun hh => hmaxn hh.1
          have hmx2 : ¬ (9223372036854775807 < (n : Int) + (m : Int)) := by omega
          have hforced : (Question.appendCap (n + m) cx e).forced = false := rfl
          have hcut : (Question.appendCap (n + m) cx e).cut (w.tape w.drawn (.appendCap (n + m) cx e)) = cap := hcap
          have hbytes2 : ¬ (281474976710656 < Builtin.nextslicecap (n + m) cx * fe.i.bytes) := by
            have e : (2 : Nat) ^ 48 = 281474976710656 := by decide
            rw [e] at hbytes
            omega
          simp [Builtin.append_, ft.run_underlying, ft2.run_underlying, hd, hd2, fe.run_sizeOf, Builtin.lenOf, hfit, fe.run_typeInfo, hmx2, hbytes2, hforced, hcut, run_askRoom, fx4', fy4', fe.run_zero, Go.newRow, arr']
      · cases h
  · cases h
theorem Inv.pushMap (h : Inv F pl H w) :
    Inv F (extPl pl H.length ⟨w.heap.size, 0, 0⟩) (H ++ [some (.map [])]) (w.alloc (.map #[] 0)) ∧
    Stp F pl H w F (extPl pl H.length ⟨w.heap.size, 0, 0⟩) (H ++ [some (.map [])]) (w.alloc (.map #[] 0)) ∧ LeF pl (extPl pl H.length ⟨w.heap.size, 0, 0⟩) := by
  have hle := extPl_le (p := ⟨w.heap.size, 0, 0⟩) (h.fresh H.length (Nat.le_refl _))
  have hold : ∀ a : Addr, a.block < w.heap.size → (w.alloc (.map #[] 0)).cell? a = w.cell? a := fun a ha => World.cell?_alloc_lt w _ a ha
  have hfold : ∀ a : Addr, a.block < w.heap.size → (w.alloc (.map #[] 0)).frozen? a = w.frozen? a := fun a ha => World.frozen?_alloc_old w _ a (Nat.ne_of_lt ha)
  have hblk : ∀ a v, F a = some v → a.block < w.heap.size := fun a v hv => by
    have := h.ro a v hv
    unfold World.cell? at this
    rcases Nat.lt_or_ge a.block w.heap.size with h' | h'
    · exact h'
    · rw [Array.getElem?_eq_none h'] at this; cases this
  refine ⟨⟨fun i hi => ?_, fun i ds hi => ?_, fun i ds hi => ?_, fun i ds hi => ?_, fun i es hi => ?_, fun i j p q hi hj hp hq e => ?_, fun a v hv => ?_, fun a v i p hv hi hp => ?_, fun i p hi hp => ?_⟩, ⟨Fr.alloc _ _ _, ?_, LeF.refl _, fun _ _ hv => .inl hv⟩, hle⟩
  · simp at hi
    rw [extPl_old (by omega)]
    exact h.fresh i (by omega)
  · by_cases e : i = H.length
    · subst e
      rw [cells_push_new] at hi
      simp [HO.cells?] at hi
    · rw [cells_push_old e] at hi
      obtain ⟨p, hp, h1, h2, h3⟩ := h.cell i ds hi
      have hb := h.pos i p (live_of_cells hi) hp
      refine ⟨p, hle _ _ hp, h1, fun j hj => ?_, fun j x hx => ?_⟩
      · obtain ⟨v, hv, hf⟩ := h2 j hj
        exact ⟨v, (hold _ hb).trans hv, (hfold _ hb).trans hf⟩
      · obtain ⟨v, hv, hf⟩ := h3 j x hx
        exact ⟨v, (hold _ hb).trans hv, hf.mono (LeF.refl _) hle⟩
  · by_cases e : i = H.length
    · subst e
      rw [data?_iff, get_push_new] at hi
      cases hi
    · rw [data_push_old e] at hi
      exact h.data i ds hi
  · by_cases e : i = H.length
    · subst e
      rw [cells_push_new] at hi
      simp [HO.cells?] at hi
    · rw [cells_push_old e] at hi
      exact h.one i ds hi
  · by_cases e : i = H.length
    · subst e
      rw [map?_iff, get_push_new] at hi
      cases hi
      refine ⟨by simp, _, #[], 0, extPl_new, ?_, ?_, ?_, MapKept.stamped_empty 0⟩
      · exact (MapKept.heap_alloc w _).1
      · exact RelL.nil
      · exact RelL.nil
    · rw [map_push_old e] at hi
      obtain ⟨h0, p, ces, clock, hp, hw, hm⟩ := h.map i es hi
      have hb := h.pos i p (by exact ⟨_, map?_iff.1 hi⟩) hp
      refine ⟨h0, p, ces, clock, hle _ _ hp, ?_, hm.1.mono (LeF.refl _) hle, hm.2.1.mono (LeF.refl _) hle, hm.2.2⟩
      simp only [World.alloc, Array.getElem?_push]
      rw [if_neg (by omega)]; exact hw
  · have lt : ∀ i p, live (H ++ [some (.map [])]) i → extPl pl H.length ⟨w.heap.size, 0, 0⟩ i = some p → i ≠ H.length → p.block < w.heap.size := fun i p hi hp e => by
      rw [extPl_old e] at hp
      exact h.pos i p ((live_push_old e).1 hi) hp
    by_cases e1 : i = H.length
    · by_cases e2 : j = H.length
      · omega
      · have := lt j q hj hq e2
        subst e1
        rw [extPl_new] at hp; cases hp
        simp at e; omega
    · by_cases e2 : j = H.length
      · have := lt i p hi hp e1
        subst e2
        rw [extPl_new] at hq; cases hq
        simp at e; omega
      · rw [extPl_old e1] at hp
        rw [extPl_old e2] at hq
        exact h.inj i j p q ((live_push_old e1).1 hi) ((live_push_old e2).1 hj) hp hq e
  · rw [hold a (hblk a v hv)]; exact h.ro a v hv
  · by_cases e : i = H.length
    · subst e
      rw [extPl_new] at hp; cases hp
      have := hblk a v hv
      simp; omega
    · rw [extPl_old e] at hp
      exact h.sep a v i p hv ((live_push_old e).1 hi) hp
  · by_cases e : i = H.length
    · subst e
      rw [extPl_new] at hp; cases hp
      simp
    · rw [extPl_old e] at hp
      have := h.pos i p ((live_push_old e).1 hi) hp
      simp; omega
  · rintro b ⟨i, p, hi, hp, rfl⟩
    by_cases e : i = H.length
    · subst e
      rw [extPl_new] at hp; cases hp
      exact .inr (Nat.le_refl _)
    · rw [extPl_old e] at hp
      exact .inl ⟨i, p, (live_push_old e).1 hi, hp, rfl⟩
theorem Inv.writeMap (h : Inv F pl H w) {i : Nat} {es es' : List (AV × AV)} {p : Place} {ces : Array MapEntry} {clock : Nat} (hi : H.map? i = some es) (hp : pl i = some p) (hw : w.heap[p.block]? = some (.map ces clock))
    (hfr : ∀ e ∈ es', e.1.idFree = true ∧ e.2.idFree = true) {ces' : Array MapEntry} (clock' : Nat) (hm : MapRel F pl es' ces' clock') :
    Inv F pl (H.set i (some (.map es'))) { w with heap := w.heap.setIfInBounds p.block (.map ces' clock') } ∧ Stp F pl H w F pl (H.set i (some (.map es'))) { w with heap := w.heap.setIfInBounds p.block (.map ces' clock') } := by
  have ho := map?_iff.1 hi
  have hlive : live H i := ⟨_, ho⟩
  generalize hw' : ({ w with heap := w.heap.setIfInBounds p.block (.map ces' clock') } : World) = w'
  have hb : ∀ k : Nat, k ≠ p.block → w'.heap[k]? = w.heap[k]? := fun k hk => by
    rw [← hw']; simp only [Array.getElem?_setIfInBounds]; rw [if_neg (Ne.symm hk)]
  have hpb := h.pos i p hlive hp
  have hbp : w'.heap[p.block]? = some (.map ces' clock') := by
    rw [← hw']; simp [Array.getElem?_setIfInBounds, hpb]
  have hsz : w'.heap.size = w.heap.size := by rw [← hw']; simp
  have hos : w'.os = w.os := by rw [← hw']
  have htp : w'.tape = w.tape := by rw [← hw']
  have hout : w'.output = w.output := by rw [← hw']
  have hc : ∀ a : Addr, a.block ≠ p.block → w'.cell? a = w.cell? a := fun a ha => by simp [World.cell?, hb _ ha]
  have hz : ∀ a : Addr, a.block ≠ p.block → w'.frozen? a = w.frozen? a := fun a ha => by simp [World.frozen?, hb _ ha]
  have hneq : ∀ k q, live H k → pl k = some q → i ≠ k → q.block ≠ p.block := fun k q hk hq e e' => e (h.inj i k p q hlive hk hp hq e'.symm)
  have hset : (H.set i (some (HO.map es')))[i]? = some (some (.map es')) := get_set_eq ho
  refine ⟨⟨fun k hk => h.fresh k (by simpa using hk), fun k ds hk => ?_, fun k ds hk => ?_, fun k ds hk => ?_, fun k fs hk => ?_, fun a b q r ha hb' hq hr' e => ?_, fun a v hv => ?_, fun a v k q hv hk hq => ?_, fun k q hk hq => ?_⟩, ⟨⟨hos, htp, hout, by omega, fun k hk hn => ?_⟩, fun b hb' => ?_, LeF.refl _, fun _ _ hv => .inl hv⟩⟩
  · by_cases e : i = k
    · subst e
      simp [Heap.cells?, hset, HO.cells?] at hk
    · rw [cells_set_ne e] at hk
      obtain ⟨q, hq, h1, h2, h3⟩ := h.cell k ds hk
      have hne := hneq k q (live_of_cells hk) hq e
      refine ⟨q, hq, h1, fun j hj => ?_, fun j x hx => ?_⟩
      · obtain ⟨v, hv, hf⟩ := h2 j hj
        exact ⟨v, (hc _ hne).trans hv, (hz _ hne).trans hf⟩
      · obtain ⟨v, hv, hf⟩ := h3 j x hx
        exact ⟨v, (hc _ hne).trans hv, hf⟩
  · by_cases e : i = k
    · subst e
      simp [Heap.data?, hset] at hk
    · rw [data_set_ne e] at hk
      exact h.data k ds hk
  · by_cases e : i = k
    · subst e
      simp [Heap.cells?, hset, HO.cells?] at hk
    · rw [cells_set_ne e] at hk
      exact h.one k ds hk
  · by_cases e : i = k
    · subst e
      rw [map?_iff, hset] at hk
      cases hk
      exact ⟨hfr, p, ces', clock', hp, hbp, hm⟩
    · rw [map_set_ne e] at hk
      obtain ⟨h0, q, ces1, clock1, hq, hw1, hm1⟩ := h.map k fs hk
      have hne := hneq k q ⟨_, map?_iff.1 hk⟩ hq e
      exact ⟨h0, q, ces1, clock1, hq, (hb _ hne).trans hw1, hm1⟩
  · exact h.inj a b q r (live_set hlive ha) (live_set hlive hb') hq hr' e
  · rw [hc a (h.sep a v i p hv hlive hp)]
    exact h.ro a v hv
  · exact h.sep a v k q hv (live_set hlive hk) hq
  · rw [hsz]; exact h.pos k q (live_set hlive hk) hq
  · exact hb k fun e => hn ⟨i, p, hlive, hp, e.symm⟩
  · obtain ⟨k, q, hk, hq, rfl⟩ := hb'
    exact .inl ⟨k, q, live_set hlive hk, hq, rfl⟩
theorem keyEq_inv {q : IntKind} {n : Int} {y : AV} {b : Bool} (h : keyEq [some q] (.int q n) y = some b) : ∃ m, y = .int q m ∧ b = (n == m) := by
  cases y <;> simp [keyEq] at h
  obtain ⟨rfl, rfl⟩ := h
  exact ⟨_, rfl, rfl⟩
theorem findM_int {q : IntKind} {n : Int} : ∀ {es : List (AV × AV)} {l : List MapEntry} {o : Option AV} (i : Nat), RelL F pl (es.map (·.1)) (l.map (·.key)) → RelL F pl (es.map (·.2)) (l.map (·.val)) → findM [some q] (.int q n) es = some o →
    (o = none ∧ Instr.findNow (.int q) (.int q n) l i = some none) ∨ ∃ v j u, o = some v ∧ Instr.findNow (.int q) (.int q n) l i = some (some (i + j, u)) ∧ Rel F pl v u
  | [], l, o, i, hk, hv, h => by
    have : l = [] := by have := hk.nil_inv; simpa using this
    subst this
    simp [findM] at h
    exact .inl ⟨h.symm, rfl⟩
  | (k', v') :: es, l, o, i, hk, hv, h => by
    cases l with
    | nil => simp [RelL] at hk
    | cons e l =>
      simp only [List.map_cons] at hk hv
      obtain ⟨_, _, e1, h1, h2⟩ := hk.uncons
      injection e1 with e1 e1'; subst e1; subst e1'
      obtain ⟨_, _, e2, h3, h4⟩ := hv.uncons
      injection e2 with e2 e2'; subst e2; subst e2'
      simp only [findM, Option.bind_eq_some_iff] at h
      obtain ⟨b, hb, h⟩ := h
      obtain ⟨m, rfl, rfl⟩ := keyEq_inv hb
      have hkey := rel_int_inv h1
      by_cases hnm : n = m
      · subst hnm
        simp at h
        exact .inr ⟨v', 0, e.val, h.symm, by simp [Instr.findNow, Instr.sameNow, hkey], h3⟩
      · have hne : (n == m) = false := by simpa using hnm
        rw [hne] at h
        simp only [Bool.false_eq_true, if_false] at h
        rcases findM_int (i + 1) h2 h4 h with ⟨g1, g2⟩ | ⟨v, j, u, g1, g2, g3⟩
        · exact .inl ⟨g1, by simp [Instr.findNow, Instr.sameNow, hkey, hne, g2]⟩
        · exact .inr ⟨v, j + 1, u, g1, by simp [Instr.findNow, Instr.sameNow, hkey, hne, g2]; omega, g3⟩
theorem putM_int {q : IntKind} {n : Int} {v : AV} : ∀ {es es' : List (AV × AV)} {l : List MapEntry} (i : Nat), RelL F pl (es.map (·.1)) (l.map (·.key)) → RelL F pl (es.map (·.2)) (l.map (·.val)) → putM [some q] (.int q n) v es = some es' →
    ((es' = es ++ [(.int q n, v)] ∧ ∀ x ∈ l, x.key ≠ .int q n) ∧ Instr.findNow (.int q) (.int q n) l i = some none) ∨ ∃ j u ex, es' = es.set j (.int q n, v) ∧ j < es.length ∧ l[j]? = some ex ∧ ex.key = .int q n ∧ Instr.findNow (.int q) (.int q n) l i = some (some (i + j, u))
  | [], es', l, i, hk, hv, h => by
    have : l = [] := by have := hk.nil_inv; simpa using this
    subst this
    simp [putM] at h
    exact .inl ⟨⟨by rw [← h]; rfl, by simp⟩, rfl⟩
  | (k', v') :: es, es', l, i, hk, hv, h => by
    cases l with
    | nil => simp [RelL] at hk
    | cons e l =>
      simp only [List.map_cons] at hk hv
      obtain ⟨_, _, e1, h1, h2⟩ := hk.uncons
      injection e1 with e1 e1'; subst e1; subst e1'
      obtain ⟨_, _, e2, h3, h4⟩ := hv.uncons
      injection e2 with e2 e2'; subst e2; subst e2'
      simp only [putM, Option.bind_eq_some_iff] at h
      obtain ⟨b, hb, h⟩ := h
      obtain ⟨m, rfl, rfl⟩ := keyEq_inv hb
      have hkey := rel_int_inv h1
      by_cases hnm : n = m
      · subst hnm
        simp at h
        exact .inr ⟨0, e.val, e, by rw [← h]; rfl, by simp, rfl, hkey, by simp [Instr.findNow, Instr.sameNow, hkey]⟩
      · have hne : (n == m) = false := by simpa using hnm
        rw [hne] at h
        simp only [Bool.false_eq_true, if_false, Option.map_eq_some_iff] at h
        obtain ⟨r, hr, rfl⟩ := h
        rcases putM_int (i + 1) h2 h4 hr with ⟨⟨g1, g0⟩, g2⟩ | ⟨j, u, ex, g1, g2, g3, g4, g5⟩
        · exact .inl ⟨⟨by rw [g1]; rfl, fun x hx => by
            rcases List.mem_cons.1 hx with rfl | hx
            · rw [hkey]; intro e; injection e with _ e; exact hnm e.symm
            · exact g0 x hx⟩, by simp [Instr.findNow, Instr.sameNow, hkey, hne, g2]⟩
        · exact .inr ⟨j + 1, u, ex, by rw [g1]; rfl, by simpa using g2, by simpa using g3, g4, by simp [Instr.findNow, Instr.sameNow, hkey, hne, g5]; omega⟩
structure KeyP (P : Program) (k : TypeId) (ks : KS) : Prop where
  free : ∀ {x : AV}, keyOk ks x = true → x.idFree = true
  check : ∀ {F : RoT} {pl : PlT} (w : World) (em : Bool) {x : AV} {ux : Value}, keyOk ks x = true → Rel F pl x ux → (Instr.checkKey em 10000 k ux).run P w = .ok () w
  find : ∀ {F : RoT} {pl : PlT} (w : World) {x : AV} {ux : Value} {es : List (AV × AV)} {l : List MapEntry} {o : Option AV}, keyOk ks x = true → Rel F pl x ux → RelL F pl (es.map (·.1)) (l.map (·.key)) → RelL F pl (es.map (·.2)) (l.map (·.val)) → findM ks x es = some o →
    (o = none ∧ (Instr.findKey k ux l).run P w = .ok none w) ∨ ∃ v j u, o = some v ∧ (Instr.findKey k ux l).run P w = .ok (some (j, u)) w ∧ Rel F pl v u
  put : ∀ {F : RoT} {pl : PlT} (w : World) {x v : AV} {ux : Value} {es es' : List (AV × AV)} {l : List MapEntry}, keyOk ks x = true → Rel F pl x ux → RelL F pl (es.map (·.1)) (l.map (·.key)) → RelL F pl (es.map (·.2)) (l.map (·.val)) → putM ks x v es = some es' →
    ((es' = es ++ [(x, v)] ∧ ∀ y ∈ l, y.key ≠ ux) ∧ (Instr.findKey k ux l).run P w = .ok none w) ∨ ∃ j u ex, es' = es.set j (x, v) ∧ j < es.length ∧ l[j]? = some ex ∧ ex.key = ux ∧ (Instr.findKey k ux l).run P w = .ok (some (j, u)) w
  stays : ∀ {F : RoT} {pl : PlT} (w : World) {x : AV} {ux : Value}, keyOk ks x = true → Rel F pl x ux → (Instr.keyThatStays ux ux).run P w = .ok ux w
theorem keyOk_int {q : IntKind} {x : AV} (h : keyOk [some q] x = true) : ∃ n, x = .int q n := by
  cases x <;> simp [keyOk] at h
  subst h
  exact ⟨_, rfl⟩
theorem flat_free : ∀ {ks : KS} {a : List AV}, flatCells ks a = true → idFreeL a = true ∧ a.length = ks.length
  | [], [], _ => ⟨rfl, rfl⟩
  | [], _ :: _, h => by simp [flatCells] at h
  | some q :: ks, [], h => by simp [flatCells] at h
  | none :: ks, [], h => by simp [flatCells] at h
  | some q :: ks, x :: r, h => by
    cases x <;> simp [flatCells] at h
    have := flat_free h.2
    exact ⟨by simpa [idFreeL, AV.idFree] using this.1, by simp [this.2]⟩
  | none :: ks, x :: r, h => by
    cases x <;> simp [flatCells] at h
    have := flat_free h
    exact ⟨by simpa [idFreeL, AV.idFree] using this.1, by simp [this.2]⟩
theorem eqCells_vals {F : RoT} {pl : PlT} : ∀ {ks : KS} {as bs : List AV} {us vs : List Value} {b : Bool}, RelL F pl as us → RelL F pl bs vs → eqCells ks as bs = some b → (b = true ↔ us = vs)
  | [], as, bs, us, vs, b, ha, hb, h => by
    cases as <;> cases bs <;> simp [eqCells] at h
    subst h
    rw [ha.nil_inv, hb.nil_inv]
    simp
  | q :: ks, [], bs, us, vs, b, ha, hb, h => by cases q <;> simp [eqCells] at h
  | q :: ks, a :: as, [], us, vs, b, ha, hb, h => by cases q <;> cases a <;> simp [eqCells] at h
  | q :: ks, a :: as, x :: bs, us, vs, b, ha, hb, h => by
    obtain ⟨ua, ur, rfl, h1, h2⟩ := ha.uncons
    obtain ⟨ub, vr, rfl, g1, g2⟩ := hb.uncons
    cases q with
    | some q =>
      cases a <;> cases x <;> simp [eqCells] at h
      obtain ⟨⟨rfl, rfl⟩, h⟩ := h
      have e1 := rel_int_inv h1
      have e2 := rel_int_inv g1
      subst e1; subst e2
      split at h
      · rename_i e
        subst e
        rw [eqCells_vals h2 g2 h]
        simp
      · rename_i e
        cases h
        simp [e]
    | none =>
      cases a <;> cases x <;> simp [eqCells] at h
      have e1 := rel_bool_inv h1
      have e2 := rel_bool_inv g1
      subst e1; subst e2
      split at h
      · rename_i e
        subst e
        rw [eqCells_vals h2 g2 h]
        simp
      · rename_i e
        cases h
        simp [e]
theorem sameBits_flat {F : RoT} {pl : PlT} (m : Nat) : ∀ {ks : KS} {a : List AV} {us : List Value}, flatCells ks a = true → RelL F pl a us → ((us.zip us).all fun (x, y) => Instr.sameBits m x y) = true
  | [], [], us, _, h => by rw [h.nil_inv]; rfl
  | [], _ :: _, us, h, _ => by simp [flatCells] at h
  | some q :: ks, [], us, h, _ => by simp [flatCells] at h
  | none :: ks, [], us, h, _ => by simp [flatCells] at h
  | some q :: ks, x :: r, us, h, hr => by
    cases x <;> simp [flatCells] at h
    obtain ⟨ua, ur, rfl, h1, h2⟩ := hr.uncons
    have := sameBits_flat m h.2 h2
    rw [rel_int_inv h1, List.zip_cons_cons, List.all_cons, this]
    simp [Instr.sameBits]
  | none :: ks, x :: r, us, h, hr => by
    cases x <;> simp [flatCells] at h
    obtain ⟨ua, ur, rfl, h1, h2⟩ := hr.uncons
    have := sameBits_flat m h h2
    rw [rel_bool_inv h1, List.zip_cons_cons, List.all_cons, this]
    simp [Instr.sameBits]
theorem check_scalar {t : Nat} {s : TS} (f : TFact P t s) {q : Option IntKind} (hk : s.kind.isK q = true) (em : Bool) (n : Nat) (v : Value) : (Instr.checkKey em (n + 1) t v).run P w = .ok () w := by
  have hu := f.hu
  cases hs : s.kind <;> cases q <;> simp [hs, TK.isK] at hk
  · have := kind_int (hs ▸ f.hk)
    rw [this] at hu
    simp [Instr.checkKey, run_underlying hu]
  · have := kind_bool (hs ▸ f.hk)
    rw [this] at hu
    simp [Instr.checkKey, run_underlying hu]
theorem flds_each {T : Tab} {fs : List Field} {ks : KS} {k : Nat} (h : fldsK T (fs.map fun f => (f.offset, f.type)) ks k = true) : ks.length = fs.length ∧ ∀ f ∈ fs, (k ≤ f.offset ∧ f.offset < k + fs.length) ∧ ∃ s q, T f.type = some s ∧ s.kind.isK q = true := by
  induction fs generalizing ks k with
  | nil => cases ks <;> simp [fldsK] at h; exact ⟨rfl, by simp⟩
  | cons g fs ih =>
    cases ks with
    | nil => simp [fldsK] at h
    | cons q ks =>
      simp only [List.map_cons, fldsK, Bool.and_eq_true, beq_iff_eq] at h
      obtain ⟨⟨h1, h2⟩, h3⟩ := h
      obtain ⟨g1, g2⟩ := ih h3
      refine ⟨by simp [g1], fun f hf => ?_⟩
      rcases List.mem_cons.1 hf with rfl | hf
      · refine ⟨by simp only [List.length_cons]; omega, ?_⟩
        split at h2
        · rename_i s hs; exact ⟨s, q, hs, h2⟩
        · cases h2
      · obtain ⟨⟨a, b⟩, c⟩ := g2 f hf
        exact ⟨by simp only [List.length_cons]; omega, c⟩
theorem check_flat {T : Tab} (hT : TOk P T) {t : Nat} {s : TS} (hs : T t = some s) (hag : s.kind.agg = true) {ks : KS} (hk : eqKs T t ks = true) (em : Bool) {xs : Array Value} (hl : xs.size = ks.length) :
    (Instr.checkKey em 10000 t (.agg xs)).run P w = .ok () w := by
  simp only [eqKs, hs] at hk
  obtain ⟨f⟩ := tfact hT hs
  have hu := f.hu
  cases hkd : s.kind <;> simp [hkd] at hk <;> simp [hkd, TK.agg] at hag
  · rename_i n e
    have hd := kind_array (hkd ▸ f.hk)
    rw [hd] at hu
    split at hk
    · rename_i _ _ se q ks' hse
      obtain ⟨fe⟩ := tfact hT hse
      simp only [Bool.and_eq_true, beq_iff_eq, List.all_eq_true] at hk
      obtain ⟨⟨⟨h1, h2⟩, h3⟩, h4⟩ := hk
      rw [show (10000 : Nat) = 9999 + 1 from rfl, Instr.checkKey]
      simp only [Sem.run_bind, run_underlying hu, Result.andThen_ok]
      simp only [Std.Legacy.Range.forIn_eq_forIn_range', Std.Legacy.Range.size, Nat.sub_zero, Nat.add_one_sub_one, Nat.div_one]
      have hin : ∀ i ∈ List.range' 0 n, i < xs.size := fun i hi => by
        rw [List.mem_range'_1] at hi; omega
      clear h3 h4 hl
      generalize List.range' 0 n = is at hin
      induction is with
      | nil => simp
      | cons j is ih =>
        have p1 := run_part_scalar (w := w) fe (isK_scalar h2) (Array.getElem?_eq_getElem (hin j (by simp)))
        have p2 := check_scalar (w := w) fe h2 em 9998 (xs[j]'(hin j (by simp)))
        simp only [List.forIn_cons, Sem.run_bind, fe.run_sizeOf, h1, Nat.mul_one, Result.andThen_ok, p1, p2, Sem.run_pure]
        exact ih fun i hi => hin i (by simp [hi])
    · rename_i _ _ se hse
      have hn : n = 0 := by simpa using hk
      subst hn
      rw [show (10000 : Nat) = 9999 + 1 from rfl, Instr.checkKey]
      simp only [Sem.run_bind, run_underlying hu, Result.andThen_ok]
      simp only [Std.Legacy.Range.forIn_eq_forIn_range', Std.Legacy.Range.size]
      simp
    · cases hk
  · rename_i gs
    obtain ⟨fs, hd, hgs⟩ := kind_struct (hkd ▸ f.hk)
    rw [hd] at hu
    obtain ⟨e1, e2, e3⟩ := f.hg (by rw [hkd]; rfl)
    rw [← hgs] at hk
    obtain ⟨hlen, heach⟩ := flds_each hk
    rw [show (10000 : Nat) = 9999 + 1 from rfl, Instr.checkKey]
    simp only [Sem.run_bind, run_underlying hu, Result.andThen_ok]
    rw [← Array.forIn_toList]
    have hoff : ∀ g ∈ fs.toList, g.offset < xs.size := fun g hg => by
      have := (heach g hg).1.2
      omega
    have hty : ∀ g ∈ fs.toList, ∃ s q, T g.type = some s ∧ s.kind.isK q = true := fun g hg => (heach g hg).2
    clear heach hlen hk hgs hu hd hl e1 e2 e3
    generalize fs.toList = L at hoff hty
    induction L with
    | nil => simp
    | cons g L ih =>
      obtain ⟨sg, q, hsg, hq⟩ := hty g (by simp)
      obtain ⟨fg⟩ := tfact hT hsg
      have p1 := run_part_scalar (w := w) fg (isK_scalar hq) (Array.getElem?_eq_getElem (hoff g (by simp)))
      have p2 := check_scalar (w := w) fg hq em 9998 (xs[g.offset]'(hoff g (by simp)))
      have := ih (fun g hg => hoff g (by simp [hg])) (fun g hg => hty g (by simp [hg]))
      simp only [List.forIn_cons, Sem.run_bind, Result.andThen_ok]
      split
      · simp only [Sem.run_bind, p1, p2, Result.andThen_ok, Sem.run_pure]
        exact this
      · simp only [Sem.run_bind, Result.andThen_ok, Sem.run_pure]
        exact this
theorem keyP_int {k : Nat} {sk : TS} {q : IntKind} (fk : TFact P k sk) (hki : sk.kind = .int q) : KeyP P k [some q] := by
  have hdk := kind_int (hki ▸ fk.hk)
  have hud : P.underlying k = some (.int q) := by rw [fk.hu, hdk]
  refine ⟨fun h => ?_, fun w em x ux h hx => ?_, fun w x ux es l o h hx hk hv ho => ?_, fun w x v ux es es' l h hx hk hv ho => ?_, fun w x ux h hx => ?_⟩
  · obtain ⟨n, rfl⟩ := keyOk_int h; rfl
  · obtain ⟨n, rfl⟩ := keyOk_int h
    rw [rel_int_inv hx]
    exact MapKept.run_checkKey hud (show MapKept.IsKey (.int q) (.int q n) from rfl) em 9999
  · obtain ⟨n, rfl⟩ := keyOk_int h
    rw [rel_int_inv hx]
    rcases findM_int 0 hk hv ho with ⟨h1, h2⟩ | ⟨v, j, u, h1, h2, h3⟩
    · exact .inl ⟨h1, MapKept.run_findKey hud h2⟩
    · exact .inr ⟨v, _, u, h1, MapKept.run_findKey hud h2, h3⟩
  · obtain ⟨n, rfl⟩ := keyOk_int h
    rw [rel_int_inv hx]
    rcases putM_int 0 hk hv ho with ⟨h1, h2⟩ | ⟨j, u, ex, h1, h2, h3, h4, h5⟩
    · exact .inl ⟨h1, MapKept.run_findKey hud h2⟩
    · exact .inr ⟨j, u, ex, h1, h2, h3, h4, by have := MapKept.run_findKey (w := w) hud h5; simpa using this⟩
  · obtain ⟨n, rfl⟩ := keyOk_int h
    rw [rel_int_inv hx]
    exact MapKept.run_keyThatStays (show MapKept.IsKey (.int q) (.int q n) from rfl)
theorem keyOk_flat {ks : KS} (hl : 1 < ks.length) {x : AV} (h : keyOk ks x = true) : ∃ a, x = .agg a ∧ flatCells ks a = true := by
  cases x with
  | int k n => cases ks with
    | nil => simp at hl
    | cons q ks => cases ks with
      | nil => simp at hl
      | cons q' ks => cases q <;> simp [keyOk] at h
  | agg a => refine ⟨a, rfl, ?_⟩; unfold keyOk at h; split at h <;> simp_all
  | _ => unfold keyOk at h; split at h <;> simp_all
theorem keyEq_flat {ks : KS} {a : List AV} {y : AV} {b : Bool} (h : keyEq ks (.agg a) y = some b) : ∃ c, y = .agg c ∧ a.length = ks.length ∧ eqCells ks a c = some b := by
  cases y with
  | agg c =>
    have e : keyEq ks (.agg a) (.agg c) = if 1 < ks.length ∧ a.length = ks.length then eqCells ks a c else none := by
      unfold keyEq
      split <;> simp_all
    rw [e] at h
    split at h
    · rename_i hh; exact ⟨_, rfl, hh.2, h⟩
    · cases h
  | _ => (unfold keyEq at h; split at h <;> simp_all)
theorem wide_of {k : Nat} {sk : TS} (f : TFact P k sk) (hag : sk.kind.agg = true) (hf : ∃ ks, eqKs T k ks = true ∧ T k = some sk) : (match P.underlying k with | some (.array _ _) | some (.struct _) => true | _ => false) = true := by
  obtain ⟨ks, hk, hs⟩ := hf
  simp only [eqKs, hs] at hk
  have hu := f.hu
  have hkk := f.hk
  cases hkd : sk.kind <;> simp [hkd, TK.agg] at hag hk
  · have hd := kind_array (hkd ▸ f.hk)
    rw [hu, hd]
  · obtain ⟨fs, hd, hgs⟩ := kind_struct (hkd ▸ f.hk)
    rw [hu, hd]
theorem findAsk_flat (hT : TOk P T) {k : Nat} {sk : TS} (hs : T k = some sk) (hag : sk.kind.agg = true) {ks : KS} (hk : eqKs T k ks = true) {a : List AV} {us : Array Value} (hx : RelL F pl a us.toList) :
    ∀ {es : List (AV × AV)} {l : List MapEntry} {o : Option AV} (i : Nat), RelL F pl (es.map (·.1)) (l.map (·.key)) → RelL F pl (es.map (·.2)) (l.map (·.val)) → findM ks (.agg a) es = some o →
    (o = none ∧ (Instr.findAsking k (.agg us) l i).run P w = .ok none w) ∨ ∃ v j u, o = some v ∧ (Instr.findAsking k (.agg us) l i).run P w = .ok (some (i + j, u)) w ∧ Rel F pl v u
  | [], l, o, i, hk1, hv, h => by
    have : l = [] := by have := hk1.nil_inv; simpa using this
    subst this
    simp [findM] at h
    exact .inl ⟨h.symm, by simp [Instr.findAsking]⟩
  | (k', v') :: es, l, o, i, hk1, hv, h => by
    cases l with
    | nil => simp [RelL] at hk1
    | cons e l =>
      simp only [List.map_cons] at hk1 hv
      obtain ⟨_, _, e1, h1, h2⟩ := hk1.uncons
      injection e1 with e1 e1'; subst e1; subst e1'
      obtain ⟨_, _, e2, h3, h4⟩ := hv.uncons
      injection e2 with e2 e2'; subst e2; subst e2'
      simp only [findM, Option.bind_eq_some_iff] at h
      obtain ⟨b, hb, h⟩ := h
      obtain ⟨c, rfl, hlen, hc⟩ := keyEq_flat hb
      obtain ⟨vs, hvs, hr⟩ := rel_agg_iff.1 h1
      have heq := equal_flat (w := w) hT hk hx hr hlen hc ⟨sk, hs, hag⟩
      rw [← hvs] at heq
      cases b with
      | true =>
        simp at h
        exact .inr ⟨v', 0, e.val, h.symm, by simp [Instr.findAsking, heq], h3⟩
      | false =>
        simp only [Bool.false_eq_true, if_false] at h
        rcases findAsk_flat hT hs hag hk hx (i + 1) h2 h4 h with ⟨g1, g2⟩ | ⟨v, j, u, g1, g2, g3⟩
        · exact .inl ⟨g1, by simp [Instr.findAsking, heq, g2]⟩
        · exact .inr ⟨v, j + 1, u, g1, by simp [Instr.findAsking, heq, g2]; omega, g3⟩
theorem putAsk_flat (hT : TOk P T) {k : Nat} {sk : TS} (hs : T k = some sk) (hag : sk.kind.agg = true) {ks : KS} (hk : eqKs T k ks = true) {a : List AV} {v : AV} {us : Array Value} (hx : RelL F pl a us.toList) :
    ∀ {es es' : List (AV × AV)} {l : List MapEntry} (i : Nat), RelL F pl (es.map (·.1)) (l.map (·.key)) → RelL F pl (es.map (·.2)) (l.map (·.val)) → putM ks (.agg a) v es = some es' →
    ((es' = es ++ [(.agg a, v)] ∧ ∀ y ∈ l, y.key ≠ .agg us) ∧ (Instr.findAsking k (.agg us) l i).run P w = .ok none w) ∨ ∃ j u ex, es' = es.set j (.agg a, v) ∧ j < es.length ∧ l[j]? = some ex ∧ ex.key = .agg us ∧ (Instr.findAsking k (.agg us) l i).run P w = .ok (some (i + j, u)) w
  | [], es', l, i, hk1, hv, h => by
    have : l = [] := by have := hk1.nil_inv; simpa using this
    subst this
    simp [putM] at h
    exact .inl ⟨⟨by rw [← h]; rfl, by simp⟩, by simp [Instr.findAsking]⟩
  | (k', v') :: es, es', l, i, hk1, hv, h => by
    cases l with
    | nil => simp [RelL] at hk1
    | cons e l =>
      simp only [List.map_cons] at hk1 hv
      obtain ⟨_, _, e1, h1, h2⟩ := hk1.uncons
      injection e1 with e1 e1'; subst e1; subst e1'
      obtain ⟨_, _, e2, h3, h4⟩ := hv.uncons
      injection e2 with e2 e2'; subst e2; subst e2'
      simp only [putM, Option.bind_eq_some_iff] at h
      obtain ⟨b, hb, h⟩ := h
      obtain ⟨c, rfl, hlen, hc⟩ := keyEq_flat hb
      obtain ⟨vs, hvs, hr⟩ := rel_agg_iff.1 h1
      have heq := equal_flat (w := w) hT hk hx hr hlen hc ⟨sk, hs, hag⟩
      have hval := eqCells_vals hx hr hc
      rw [← hvs] at heq
      cases b with
      | true =>
        simp at h
        have e3 : us = vs := Array.ext' (hval.1 rfl)
        exact .inr ⟨0, e.val, e, by rw [← h]; rfl, by simp, rfl, by rw [hvs, e3], by simp [Instr.findAsking, heq]⟩
      | false =>
        simp only [Bool.false_eq_true, if_false, Option.map_eq_some_iff] at h
        obtain ⟨r, hr', rfl⟩ := h
        rcases putAsk_flat hT hs hag hk hx (i + 1) h2 h4 hr' with ⟨⟨g1, g0⟩, g2⟩ | ⟨j, u, ex, g1, g2, g3, g4, g5⟩
        · exact .inl ⟨⟨by rw [g1]; rfl, fun y hy => by
            rcases List.mem_cons.1 hy with rfl | hy
            · rw [hvs]; intro e; injection e with e; exact absurd (hval.2 (by rw [e])) (by simp)
            · exact g0 y hy⟩, by simp [Instr.findAsking, heq, g2]⟩
        · exact .inr ⟨j + 1, u, ex, by rw [g1]; rfl, by simpa using g2, by simpa using g3, g4, by simp [Instr.findAsking, heq, g5]; omega⟩
theorem keyP_flat (hT : TOk P T) {k : Nat} {sk : TS} (hs : T k = some sk) (hag : sk.kind.agg = true) {ks : KS} (hl : 1 < ks.length) (hk : eqKs T k ks = true) : KeyP P k ks := by
  obtain ⟨f⟩ := tfact hT hs
  have hwide := wide_of f hag ⟨ks, hk, hs⟩
  refine ⟨fun h => ?_, fun w em x ux h hx => ?_, fun w x ux es l o h hx hk1 hv ho => ?_, fun w x v ux es es' l h hx hk1 hv ho => ?_, fun w x ux h hx => ?_⟩
  · obtain ⟨a, rfl, ha⟩ := keyOk_flat hl h; exact (flat_free ha).1
  · obtain ⟨a, rfl, ha⟩ := keyOk_flat hl h
    obtain ⟨us, rfl, hr⟩ := rel_agg_iff.1 hx
    refine check_flat hT hs hag hk em ?_
    have := hr.1
    rw [Array.length_toList] at this
    rw [this, (flat_free ha).2]
  · obtain ⟨a, rfl, ha⟩ := keyOk_flat hl h
    obtain ⟨us, rfl, hr⟩ := rel_agg_iff.1 hx
    rw [run_findKey_eq w hwide]
    rcases findAsk_flat hT hs hag hk hr 0 hk1 hv ho with h1 | ⟨v, j, u, h1, h2, h3⟩
    · exact .inl h1
    · exact .inr ⟨v, _, u, h1, h2, h3⟩
  · obtain ⟨a, rfl, ha⟩ := keyOk_flat hl h
    obtain ⟨us, rfl, hr⟩ := rel_agg_iff.1 hx
    rw [run_findKey_eq w hwide]
    rcases putAsk_flat hT hs hag hk hr 0 hk1 hv ho with h1 | ⟨j, u, ex, h1, h2, h3, h4, h5⟩
    · exact .inl h1
    · exact .inr ⟨j, u, ex, h1, h2, h3, h4, by simpa using h5⟩
  · obtain ⟨a, rfl, ha⟩ := keyOk_flat hl h
    obtain ⟨us, rfl, hr⟩ := rel_agg_iff.1 hx
    have hb : Instr.sameBits 10000 (.agg us) (.agg us) = true := by
      rw [show (10000 : Nat) = 9999 + 1 from rfl]
      simp only [Instr.sameBits, beq_self_eq_true, Bool.true_and]
      exact sameBits_flat 9999 ha hr
    simp [Instr.keyThatStays, hb]
theorem mkM_sound {t k e : Nat} {s} (ft : TFact P t s) (hk : s.kind = .map k e) (hI : Inv F pl H w) {v H'} (h : evE call H .mkM [] = some (v, H')) :
    Eff P F pl H w (do pure (.value (← Instr.makeMap t none))) v H' := by
  simp only [evE, Option.some.injEq, Prod.mk.injEq] at h
  obtain ⟨rfl, rfl⟩ := h
  obtain ⟨g1, g2, g3⟩ := hI.pushMap
  exact ⟨_, F, _, .inl ⟨.map (some w.heap.size), by simp [Instr.makeMap], Rel.mp (p := ⟨w.heap.size, 0, 0⟩) extPl_new⟩, g1, g2, g3⟩
theorem zero_rel {e : Nat} {se : TS} (fe : TFact P e se) {z : AV} (h : wholeOf se.kind.agg se.zero = some z) : Rel F pl z fe.z := by
  have hr := constsOk_rel (F := F) (pl := pl) fe.hc
  have ha := fe.ha
  unfold wholeOf at h
  split at h
  · rename_i hg
    cases h
    rw [hg] at ha
    cases hz : fe.z <;> rw [hz] at ha hr <;> simp [isAggV] at ha
    exact rel_agg_iff.2 ⟨_, rfl, by simpa [Value.cells] using hr⟩
  · rename_i hg
    have hg' : isAggV fe.z = false := by rw [ha]; simpa using hg
    split at h
    · rename_i x hx
      cases h
      rw [hx] at hr
      have hc : fe.z.cells = #[fe.z] := by
        cases hz : fe.z <;> first
          | rfl
          | (rw [hz] at hg'; simp [isAggV] at hg')
      rw [hc] at hr
      exact hr.2 0 _ _ rfl rfl
    · cases h
theorem lkM_sound {t k e : Nat} {ks : KS} {s se} (ft : TFact P t s) (hk : s.kind = .map k e) (fk : KeyP P k ks) (fe : TFact P e se) {z : AV} (hz : wholeOf se.kind.agg se.zero = some z) (hI : Inv F pl H w)
    {m x : AV} {um ux : Value} (hm : Rel F pl m um) (hx : Rel F pl x ux) {ok : Bool} {v H'} (h : evE call H (.lkM ks ok z) [m, x] = some (v, H')) :
    Eff P F pl H w (do pure (.value (← Instr.lookup t um ux ok))) v H' := by
  have hzr := zero_rel (F := F) (pl := pl) fe hz
  have hd := kind_map (hk ▸ ft.hk)
  simp only [evE] at h
  split at h
  · rename_i hfk
    obtain ⟨es, hes, h⟩ := Option.bind_eq_some_iff.1 h
    obtain ⟨o, ho, h⟩ := Option.map_eq_some_iff.1 h
    simp only [Prod.mk.injEq] at h
    obtain ⟨rfl, rfl⟩ := h
    have fin : ∀ (u : Value) (b : Bool), Rel F pl (o.getD z) u → o.isSome = b → (Instr.lookup t um ux ok).run P w = .ok (if ok then .tuple #[u, .bool b] else u) w →
        Eff P F pl H w (do pure (.value (← Instr.lookup t um ux ok))) (if ok then .tup [o.getD z, .bool o.isSome] else o.getD z) H := by
      intro u b hu hb hrun
      refine ⟨w, F, pl, .inl ⟨_, by simp [hrun]; rfl, ?_⟩, hI, Stp.refl _ _ _ _, LeF.refl _⟩
      cases ok with
      | false => simpa using hu
      | true =>
        simp only [if_true]
        rw [hb]
        exact rel_tup_iff.2 ⟨_, rfl, by simpa using (RelL.nil.cons (Rel.bool b)).cons hu⟩
    have hck := fun em => fk.check w em hfk hx
    cases m with
    | nilM =>
      cases hm
      simp at hes
      subst hes
      simp [findM] at ho
      subst ho
      refine fin fe.z false (by simpa using hzr) rfl ?_
      rcases fk.find w hfk hx (es := []) (l := []) RelL.nil RelL.nil rfl with ⟨_, hf⟩ | ⟨_, _, _, e, _⟩
      · cases ok <;> simp [Instr.lookup, ft.run_underlying, hd, hck, hf, fe.run_zero]
      · cases e
    | mp id =>
      cases hm with
      | @mp _ p hp =>
      obtain ⟨_, p', ces, clock, hp', hw, hmr⟩ := hI.map id es hes
      rw [hp] at hp'; cases hp'
      rcases fk.find w hfk hx hmr.1 hmr.2.1 ho with ⟨rfl, hf⟩ | ⟨v, j, u, rfl, hf, hvu⟩
      · refine fin fe.z false (by simpa using hzr) rfl ?_
        cases ok <;> simp [Instr.lookup, ft.run_underlying, hd, MapKept.run_getObj_map hw, hck, hf, fe.run_zero]
      · refine fin u true (by simpa using hvu) rfl ?_
        cases ok <;> simp [Instr.lookup, ft.run_underlying, hd, MapKept.run_getObj_map hw, hck, hf]
    | _ => simp at hes
  · cases h
theorem upM_sound {t k e : Nat} {ks : KS} {s} (ft : TFact P t s) (hk : s.kind = .map k e) (fk : KeyP P k ks) (hI : Inv F pl H w)
    {m x y : AV} {um ux uy : Value} (hm : Rel F pl m um) (hx : Rel F pl x ux) (hy : Rel F pl y uy) {v H'} (h : evE call H (.upM ks) [m, x, y] = some (v, H')) :
    Eff P F pl H w (do (Instr.mapUpdate t um ux uy : Sem Unit); pure .skip) v H' := by
  have hd := kind_map (hk ▸ ft.hk)
  cases m with
  | mp id =>
    simp only [evE] at h
    split at h
    · rename_i hfk
      simp only [Bool.and_eq_true] at hfk
      have hxf := fk.free hfk.1
      have hck := fun em => fk.check w em hfk.1 hx
      obtain ⟨es, hes, h⟩ := Option.bind_eq_some_iff.1 h
      obtain ⟨es', hes', h⟩ := Option.map_eq_some_iff.1 h
      simp only [Prod.mk.injEq] at h
      obtain ⟨rfl, rfl⟩ := h
      cases hm with
      | @mp _ p hp =>
      obtain ⟨hfr, p', ces, clock, hp', hw, hmr⟩ := hI.map id es hes
      rw [hp] at hp'; cases hp'
      rcases fk.put w hfk.1 hx hmr.1 hmr.2.1 hes' with ⟨⟨rfl, hno⟩, hf⟩ | ⟨j, u, ex, rfl, hj, hex, hexk, hf⟩
      · obtain ⟨g1, g2⟩ := hI.writeMap hes hp hw (es' := es ++ [(x, y)]) (fun e he => by
          rcases List.mem_append.1 he with he | he
          · exact hfr e he
          · simp at he; subst he; exact ⟨hxf, hfk.2⟩) (ces' := ces.push { key := ux, val := uy, born := clock }) (clock + 1)
          ⟨by simpa using hmr.1.append (RelL.nil.cons hx), by simpa using hmr.2.1.append (RelL.nil.cons hy), MapKept.stamped_push hmr.2.2 hno⟩
        refine ⟨_, F, pl, .inr ⟨?_, rfl⟩, g1, g2, LeF.refl _⟩
        simp [Instr.mapUpdate, ft.run_underlying, hd, MapKept.run_getObj_map hw, hck, hf, MapKept.run_setObj_map _ hw]
      · have hcj : ces[j]? = some ex := by simpa using hex
        have hmod : ∀ (f : MapEntry → MapEntry), (ces.modify j f).toList = ces.toList.set j (f ex) := fun f => by
          refine List.ext_getElem? fun i => ?_
          simp only [Array.getElem?_toList, Array.getElem?_modify, List.getElem?_set]
          split
          · rename_i e; subst e
            obtain ⟨hlt, hge⟩ := Array.getElem?_eq_some_iff.1 hcj
            simp [hcj, hlt, hge]
          · rfl
        obtain ⟨g1, g2⟩ := hI.writeMap hes hp hw (es' := es.set j (x, y)) (fun e he => by
          rcases List.mem_or_eq_of_mem_set he with he | rfl
          · exact hfr e he
          · exact ⟨hxf, hfk.2⟩) (ces' := ces.modify j fun e => { e with key := ux, val := uy }) clock
          ⟨by rw [hmod]; simpa [List.map_set] using hmr.1.set j hx, by rw [hmod]; simpa [List.map_set] using hmr.2.1.set j hy, MapKept.stamped_modify hmr.2.2 _ _ (fun _ _ => rfl) (fun e' _ he' => by rw [hcj] at he'; cases he'; exact hexk.symm)⟩
        refine ⟨_, F, pl, .inr ⟨?_, rfl⟩, g1, g2, LeF.refl _⟩
        have hst := fk.stays w hfk.1 hx
        simp [Instr.mapUpdate, ft.run_underlying, hd, MapKept.run_getObj_map hw, hck, hf, hcj, hexk, hst, MapKept.run_setObj_map _ hw]
    · cases h
  | _ => simp [evE] at h
end
end Go.AM
