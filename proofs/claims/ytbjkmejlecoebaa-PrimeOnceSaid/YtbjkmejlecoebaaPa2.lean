/- The functions as the abstract machine has them. -/
import Derived.Test.YtbjkmejlecoebaaPa1
namespace Go.AM.Pr
def sp34_5 : AC := (.seq (.reg [⟨.inl .mov, [.t 0], some 8, none, []⟩, ⟨.inl .mov, [.t 1], some 9, none, []⟩, ⟨.inr (.call true true 49), [.t 8, .t 9], some 10, none, []⟩, ⟨.inl (.un .not), [.t 10], some 11, none, []⟩] none)
 (.cond (.t 11) st34_0 .skip))

/-- olivette/prime.Inverse -/
def af34 : AFunc := ⟨2,
 (.seq (.reg [⟨.inl .mov, [.c (.int .i64 (0))], some 4, none, []⟩, ⟨.inl .mov, [.c (.int .i64 (0))], some 5, none, []⟩] none)
 (.seq sp34_5
 sq34_4)),
 [.t 4, .t 5]⟩

def st35_0 : AC := (.seq (.reg [⟨.inl .mov, [.t 7], some 16, none, []⟩, ⟨.inl .mov, [.c (.int .i64 (0))], some 4, none, []⟩, ⟨.inl .mov, [.t 16], some 5, none, []⟩] none)
 .ret)

def sq35_1 : AC := (.seq (.reg [⟨.inl .mov, [.t 7], some 14, none, []⟩, ⟨.inl (.bin .neq), [.t 14, .c (.int .i64 (0))], some 15, none, []⟩] none)
 (.cond (.t 15) st35_0 .skip))

def sq35_2 : AC := (.seq (.reg [⟨.inl .mov, [.t 0], some 17, none, []⟩, ⟨.inl .mov, [.t 1], some 18, none, []⟩, ⟨.inr (.call true true 48), [.t 17, .t 18], some 19, none, []⟩, ⟨.inl .mov, [.t 19], some 4, none, []⟩, ⟨.inl .mov, [.c (.int .i64 (0))], some 5, none, []⟩] none)
 .ret)

def sp35_3 : AC := (.seq (.reg [⟨.inl .mov, [.t 0], some 9, none, []⟩, ⟨.inl .mov, [.t 1], some 10, none, []⟩, ⟨.inr (.call true true 34), [.t 9, .t 10], some 11, none, []⟩, ⟨.inl .mov, [.t 11], some 8, none, []⟩, ⟨.inl (.ext 0), [.t 8], some 12, none, []⟩, ⟨.inl (.ext 1), [.t 8], some 13, none, []⟩, ⟨.inl .mov, [.t 12], some 6, none, []⟩, ⟨.inl .mov, [.t 13], some 7, none, []⟩] none)
 sq35_1)

/-- olivette/prime.Order -/
def af35 : AFunc := ⟨2,
 (.seq (.reg [⟨.inl .mov, [.c (.int .i64 (0))], some 4, none, []⟩, ⟨.inl .mov, [.c (.int .i64 (0))], some 5, none, []⟩] none)
 (.seq sp35_3
 sq35_2)),
 [.t 4, .t 5]⟩

def st36_0 : AC := (.seq (.reg [⟨.inl .mov, [.c (.int .i64 (0))], some 4, none, []⟩, ⟨.inl .mov, [.c (.bool false)], some 5, none, []⟩] none)
 .ret)

def sq36_1 : AC := (.seq (.reg [⟨.inl .mov, [.t 9], some 36, none, []⟩, ⟨.inl .mov, [.t 36], some 8, none, []⟩] none)
 (.reg [⟨.inl .mov, [.t 12], some 37, none, []⟩, ⟨.inl .mov, [.t 37], some 9, none, []⟩] none))

def sq36_2 : AC := (.seq (.reg [⟨.inl .mov, [.t 8], some 31, none, []⟩, ⟨.inl .mov, [.t 10], some 32, none, []⟩, ⟨.inl .mov, [.t 9], some 33, none, []⟩, ⟨.inl (.bin .mul), [.t 32, .t 33], some 34, none, []⟩, ⟨.inl (.bin .sub), [.t 31, .t 34], some 35, none, []⟩, ⟨.inl .mov, [.t 35], some 12, none, []⟩] none)
 sq36_1)

def sq36_3 : AC := (.seq (.reg [⟨.inl .mov, [.t 7], some 29, none, []⟩, ⟨.inl .mov, [.t 29], some 6, none, []⟩] none)
 (.seq (.reg [⟨.inl .mov, [.t 11], some 30, none, []⟩, ⟨.inl .mov, [.t 30], some 7, none, []⟩] none)
 sq36_2))

def sq36_4 : AC := (.seq (.reg [⟨.inl .mov, [.t 6], some 24, none, []⟩, ⟨.inl .mov, [.t 10], some 25, none, []⟩, ⟨.inl .mov, [.t 7], some 26, none, []⟩, ⟨.inl (.bin .mul), [.t 25, .t 26], some 27, none, []⟩, ⟨.inl (.bin .sub), [.t 24, .t 27], some 28, none, []⟩, ⟨.inl .mov, [.t 28], some 11, none, []⟩] none)
 sq36_3)

def sq36_5 : AC := (.block 1 (.seq (.reg [⟨.inl .mov, [.t 6], some 21, none, []⟩, ⟨.inl .mov, [.t 7], some 22, none, []⟩, ⟨.inl (.bin .quo), [.t 21, .t 22], some 23, none, []⟩, ⟨.inl .mov, [.t 23], some 10, none, []⟩] none)
 sq36_4))

def sp36_6 : AC := (.seq (.reg [⟨.inl .mov, [.t 7], some 19, none, []⟩, ⟨.inl (.bin .gtr), [.t 19, .c (.int .i64 (0))], some 20, none, []⟩] none)
 (.cond (.t 20) .skip (.exit 0)))

def lb36_7 : AC := (.pre [1, 6, 7, 8, 9] (.seq sp36_6
 sq36_5))

def sq36_8 : AC := (.pre [1, 8] (.seq (.reg [⟨.inl .mov, [.t 8], some 38, none, []⟩, ⟨.inl .mov, [.t 1], some 39, none, []⟩, ⟨.inl (.bin .rem), [.t 38, .t 39], some 40, none, []⟩, ⟨.inl .mov, [.t 1], some 41, none, []⟩, ⟨.inl (.bin .add), [.t 40, .t 41], some 42, none, []⟩, ⟨.inl .mov, [.t 1], some 43, none, []⟩, ⟨.inl (.bin .rem), [.t 42, .t 43], some 44, none, []⟩, ⟨.inl .mov, [.t 44], some 4, none, []⟩, ⟨.inl .mov, [.c (.bool true)], some 5, none, []⟩] none)
 .ret))

def sq36_9 : AC := (.seq (.reg [⟨.inl .mov, [.t 1], some 17, none, []⟩, ⟨.inl .mov, [.t 0], some 18, none, []⟩, ⟨.inl .mov, [.t 17], some 6, none, []⟩, ⟨.inl .mov, [.t 18], some 7, none, []⟩, ⟨.inl .mov, [.c (.int .i64 (0))], some 8, none, []⟩, ⟨.inl .mov, [.c (.int .i64 (1))], some 9, none, []⟩] none)
 (.seq (.block 0 (.loop lb36_7))
 sq36_8))

def sp36_10 : AC := (.seq (.reg [⟨.inl .mov, [.t 0], some 13, none, []⟩, ⟨.inl .mov, [.t 1], some 14, none, []⟩, ⟨.inr (.call true true 53), [.t 13, .t 14], some 15, none, []⟩, ⟨.inl (.bin .neq), [.t 15, .c (.int .i64 (1))], some 16, none, []⟩] none)
 (.cond (.t 16) st36_0 .skip))

/-- olivette/olivetteref01.Inverse -/
def af36 : AFunc := ⟨2,
 (.seq (.reg [⟨.inl .mov, [.c (.int .i64 (0))], some 4, none, []⟩, ⟨.inl .mov, [.c (.bool false)], some 5, none, []⟩] none)
 (.seq sp36_10
 sq36_9)),
 [.t 4, .t 5]⟩

def sq37_0 : AC := (.reg [⟨.inl .mov, [.t 8], some 31, none, []⟩, ⟨.inl (.bin .add), [.t 31, .c (.int .i64 (1))], some 32, none, []⟩, ⟨.inl .mov, [.t 32], some 8, none, []⟩] none)

def sp37_1 : AC := (.block 1 (.seq (.reg [⟨.inl .mov, [.t 0], some 33, none, []⟩, ⟨.inl .mov, [.t 1], some 34, none, []⟩, ⟨.inl .mov, [.t 7], some 35, none, []⟩, ⟨.inl .mov, [.t 8], some 36, none, []⟩, ⟨.inl (.idxA 2), [.t 35, .t 36], some 37, none, []⟩, ⟨.inl (.fldA 0), [.t 37], some 38, none, []⟩, ⟨.inl (.ld false 1), [.t 38], some 39, none, []⟩, ⟨.inl (.bin .quo), [.t 34, .t 39], some 40, none, []⟩, ⟨.inl .mov, [.t 2], some 41, none, []⟩, ⟨.inr (.call true true 22), [.t 33, .t 40, .t 41], some 42, none, []⟩, ⟨.inl .mov, [.t 2], some 43, none, []⟩, ⟨.inl (.bin .rem), [.c (.int .i64 (1)), .t 43], some 44, none, []⟩, ⟨.inl (.bin .eql), [.t 42, .t 44], some 45, none, []⟩] (some ([0, 1, 2, 3, 4, 5, 6, 7, 8, 9, 10, 11, 12], [], [0, 0, 0, 0, 12, 28, 60, 126, 0, 511, 0, 1024, 4095])))
 (.cond (.t 45) (.seq (.reg [⟨.inl .mov, [.c (.bool false)], some 6, none, []⟩] none)
 .ret) .skip)))

def sp37_2 : AC := (.seq (.reg [⟨.inl .mov, [.t 8], some 27, none, []⟩, ⟨.inl .mov, [.t 7], some 28, none, []⟩, ⟨.inl .len, [.t 28], some 29, none, []⟩, ⟨.inl (.bin .lss), [.t 27, .t 29], some 30, none, []⟩] none)
 (.cond (.t 30) .skip (.exit 0)))

def lb37_3 : AC := (.pre [0, 1, 2, 7, 8] (.seq sp37_2
 (.seq sp37_1
 sq37_0)))

def sq37_4 : AC := (.seq (.seq (.reg [⟨.inl .mov, [.c (.int .i64 (0))], some 8, none, []⟩] none)
 (.block 0 (.loop lb37_3)))
 (.pre [] (.seq (.reg [⟨.inl .mov, [.c (.bool true)], some 6, none, []⟩] none)
 .ret)))

def sq37_5 : AC := (.seq (.reg [⟨.inl .mov, [.t 1], some 25, none, []⟩, ⟨.inr (.call true true 19), [.t 25], some 26, none, []⟩, ⟨.inl .mov, [.t 26], some 7, none, []⟩] none)
 sq37_4)

def sp37_6 : AC := (.seq (.reg [⟨.inl .mov, [.t 1], some 9, none, []⟩, ⟨.inl (.bin .lss), [.t 9, .c (.int .i64 (1))], some 10, none, []⟩, ⟨.inl .mov, [.t 10], some 11, none, []⟩, ⟨.inl .mov, [.t 1], some 12, some (11, false), []⟩, ⟨.inl .mov, [.t 2], some 13, some (11, false), []⟩, ⟨.inl (.bin .gtr), [.t 12, .t 13], some 14, some (11, false), []⟩, ⟨.inl .pick, [.t 11, .c (.bool true), .t 14], some 15, none, []⟩, ⟨.inl .mov, [.t 15], some 16, none, []⟩, ⟨.inl .mov, [.t 0], some 17, some (16, false), []⟩, ⟨.inl .mov, [.t 1], some 18, some (16, false), []⟩, ⟨.inl .mov, [.t 2], some 19, some (16, false), []⟩, ⟨.inr (.call true true 22), [.t 17, .t 18, .t 19], some 20, some (16, false), []⟩, ⟨.inl .mov, [.t 2], some 21, some (16, false), []⟩, ⟨.inl (.bin .rem), [.c (.int .i64 (1)), .t 21], some 22, some (16, false), []⟩, ⟨.inl (.bin .neq), [.t 20, .t 22], some 23, some (16, false), []⟩, ⟨.inl .pick, [.t 16, .c (.bool true), .t 23], some 24, none, []⟩] (some ([0, 1, 2, 3, 4, 5, 6, 7, 8, 9, 10, 11, 12, 13, 14, 15], [], [0, 1, 3, 7, 7, 31, 63, 127, 255, 255, 255, 2047, 255, 4351, 16383, 32767])))
 (.cond (.t 24) (.seq (.reg [⟨.inl .mov, [.c (.bool false)], some 6, none, []⟩] none)
 .ret) .skip))

/-- olivette/olivetteref01.IsOrder -/
def af37 : AFunc := ⟨3,
 (.seq (.reg [⟨.inl .mov, [.c (.bool false)], some 6, none, []⟩] none)
 (.seq sp37_6
 sq37_5)),
 [.t 6]⟩

def st38_0 : AC := (.reg [⟨.inl (.fldA 0), [.t 3], some 42, none, []⟩, ⟨.inl (.ld false 1), [.t 42], some 43, none, []⟩, ⟨.inl (.bin .eql), [.t 43, .c (.int .i64 (1))], some 44, none, []⟩, ⟨.inl .mov, [.t 44], some 45, none, []⟩, ⟨.inl (.fldA 1), [.t 3], some 46, some (45, true), []⟩, ⟨.inl (.ld false 1), [.t 46], some 47, some (45, true), []⟩, ⟨.inl .len, [.t 47], some 48, some (45, true), []⟩, ⟨.inl (.bin .eql), [.t 48, .c (.int .i64 (0))], some 49, some (45, true), []⟩, ⟨.inl .pick, [.t 45, .t 49, .c (.bool false)], some 50, none, []⟩, ⟨.inl .mov, [.t 50], some 5, none, []⟩] none)

def sf38_1 : AC := (.reg [⟨.inl (.fldA 0), [.t 3], some 9, none, []⟩, ⟨.inl (.ld false 1), [.t 9], some 10, none, []⟩, ⟨.inl (.bin .gtr), [.t 10, .c (.int .i64 (1))], some 11, none, []⟩, ⟨.inl .mov, [.t 11], some 12, none, []⟩, ⟨.inl (.fldA 0), [.t 3], some 13, some (12, true), []⟩, ⟨.inl (.ld false 1), [.t 13], some 14, some (12, true), []⟩, ⟨.inl .mov, [.t 0], some 15, some (12, true), []⟩, ⟨.inl (.bin .lss), [.t 14, .t 15], some 16, some (12, true), []⟩, ⟨.inl .pick, [.t 12, .t 16, .c (.bool false)], some 17, none, []⟩, ⟨.inl .mov, [.t 17], some 18, none, []⟩, ⟨.inl .mov, [.t 0], some 19, some (18, true), []⟩, ⟨.inl (.fldA 0), [.t 3], some 20, some (18, true), []⟩, ⟨.inl (.ld false 1), [.t 20], some 21, some (18, true), []⟩, ⟨.inl (.bin .rem), [.t 19, .t 21], some 22, some (18, true), []⟩, ⟨.inl (.bin .eql), [.t 22, .c (.int .i64 (0))], some 23, some (18, true), []⟩, ⟨.inl .pick, [.t 18, .t 23, .c (.bool false)], some 24, none, []⟩, ⟨.inl .mov, [.t 24], some 25, none, []⟩, ⟨.inl (.fldA 1), [.t 3], some 26, some (25, true), []⟩, ⟨.inl (.ld false 1), [.t 26], some 27, some (25, true), []⟩, ⟨.inl .len, [.t 27], some 28, some (25, true), []⟩, ⟨.inl (.bin .eql), [.t 28, .c (.int .i64 (0))], some 29, some (25, true), []⟩, ⟨.inl .pick, [.t 25, .t 29, .c (.bool false)], some 30, none, []⟩, ⟨.inl .mov, [.t 30], some 5, none, []⟩] none)

def st38_2 : AC := (.reg [⟨.inl .mov, [.t 0], some 35, none, []⟩, ⟨.inl (.fldA 1), [.t 3], some 36, none, []⟩, ⟨.inl (.ld false 1), [.t 36], some 37, none, []⟩, ⟨.inr (.call true true 61), [.t 35, .t 37], some 38, none, []⟩, ⟨.inl .mov, [.t 38], some 5, none, []⟩] none)

def sf38_3 : AC := (.seq (.reg [⟨.inl .mov, [.t 0], some 40, none, []⟩, ⟨.inl (.bin .eql), [.t 40, .c (.int .i64 (1))], some 41, none, []⟩, ⟨.inl .mov, [.t 41], some 39, none, []⟩] none)
 (.cond (.t 39) st38_0 sf38_1))

def sp38_4 : AC := (.seq (.reg [⟨.inl .mov, [.t 5], some 51, none, []⟩, ⟨.inl (.un .not), [.t 51], some 52, none, []⟩] none)
 (.cond (.t 52) (.seq (.reg [⟨.inl .mov, [.c (.int .i64 (10))], some 4, none, []⟩] none)
 .ret) .skip))

def sp38_5 : AC := (.block 0 (.seq (.reg [⟨.inl (.fldA 0), [.t 3], some 32, none, []⟩, ⟨.inl (.ld false 1), [.t 32], some 33, none, []⟩, ⟨.inl (.bin .eql), [.t 33, .c (.int .i64 (0))], some 34, none, []⟩, ⟨.inl .mov, [.t 34], some 31, none, []⟩] none)
 (.cond (.t 31) st38_2 sf38_3)))

def sq38_6 : AC := (.seq (.reg [⟨.inl .mov, [.c (.bool false)], some 5, none, []⟩] none)
 (.seq sp38_5
 (.seq sp38_4
 (.seq (.reg [⟨.inl .mov, [.c (.int .i64 (0))], some 4, none, []⟩] none)
 .ret))))

def sp38_7 : AC := (.seq (.reg [⟨.inl .mov, [.t 0], some 6, none, []⟩, ⟨.inr (.call true true 41), [.t 6], some 7, none, []⟩, ⟨.inl (.un .not), [.t 7], some 8, none, []⟩] none)
 (.cond (.t 8) (.seq (.reg [⟨.inl .mov, [.c (.int .i64 (2))], some 4, none, []⟩] none)
 .ret) .skip))

/-- olivette/prime.Check -/
def af38 : AFunc := ⟨2,
 (.seq (.reg [⟨.inr (.box false), [.t 1], some 3, none, []⟩, ⟨.inl .mov, [.c (.int .i64 (0))], some 4, none, []⟩] none)
 (.seq sp38_7
 sq38_6)),
 [.t 4]⟩

def sq39_0 : AC := (.reg [⟨.inl (.fldA 1), [.t 3], some 52, none, []⟩, ⟨.inl (.ld false 1), [.t 52], some 53, none, []⟩, ⟨.inl (.ld true 3), [.t 5], some 54, none, []⟩, ⟨.inr (.bldS true true 3 1 [.int .i64 0, .int .i64 0, .nilS] [(0, 3)]), [.t 54], some 55, none, []⟩, ⟨.inr (.app false 3 40), [.t 53, .t 55], some 56, none, []⟩, ⟨.inl (.fldA 1), [.t 3], some 57, none, []⟩, ⟨.inr (.st 1), [.t 57, .t 56], none, none, []⟩] none)

def sq39_1 : AC := (.seq (.reg [⟨.inl (.fldA 2), [.t 5], some 33, none, []⟩, ⟨.inl (.ld false 1), [.t 33], some 34, none, []⟩, ⟨.inl (.fldA 1), [.t 1], some 35, none, []⟩, ⟨.inl (.ld false 1), [.t 35], some 36, none, []⟩, ⟨.inl .mov, [.t 4], some 37, none, []⟩, ⟨.inl (.idxA 3), [.t 36, .t 37], some 38, none, []⟩, ⟨.inl (.fldA 2), [.t 38], some 39, none, []⟩, ⟨.inl (.ld false 1), [.t 39], some 40, none, []⟩, ⟨.inl (.fldA 1), [.t 1], some 41, none, []⟩, ⟨.inl (.ld false 1), [.t 41], some 42, none, []⟩, ⟨.inl .mov, [.t 4], some 43, none, []⟩, ⟨.inl (.idxA 3), [.t 42, .t 43], some 44, none, []⟩, ⟨.inl (.fldA 2), [.t 44], some 45, none, []⟩, ⟨.inl (.ld false 1), [.t 45], some 46, none, []⟩, ⟨.inl .len, [.t 46], some 47, none, []⟩, ⟨.inl .mn, [.t 47, .c (.int .i64 (20))], some 48, none, []⟩, ⟨.inl (.slc 1 false true), [.t 40, .t 48], some 49, none, []⟩, ⟨.inr (.app true 1 8), [.t 34, .t 49], some 50, none, []⟩, ⟨.inl (.fldA 2), [.t 5], some 51, none, []⟩, ⟨.inr (.st 1), [.t 51, .t 50], none, none, []⟩] (some ([0, 1, 2, 3, 4, 5, 6, 7, 8, 9, 10, 11, 12, 13, 14, 15, 16, 17, 18, 19], [], [0, 1, 0, 4, 0, 28, 60, 124, 0, 256, 0, 1792, 3840, 7936, 16128, 32512, 65532, 131071, 262143, 524287])))
 sq39_0)

def sq39_2 : AC := (.reg [⟨.inl .mov, [.t 4], some 18, none, []⟩, ⟨.inl (.bin .add), [.t 18, .c (.int .i64 (1))], some 19, none, []⟩, ⟨.inl .mov, [.t 19], some 4, none, []⟩] none)

def sp39_3 : AC := (.block 1 (.seq (.reg [⟨.inl (.fldA 1), [.t 1], some 20, none, []⟩, ⟨.inl (.ld false 1), [.t 20], some 21, none, []⟩, ⟨.inl .mov, [.t 4], some 22, none, []⟩, ⟨.inl (.idxA 3), [.t 21, .t 22], some 23, none, []⟩, ⟨.inl (.fldA 0), [.t 23], some 24, none, []⟩, ⟨.inl (.ld false 1), [.t 24], some 25, none, []⟩, ⟨.inl (.fldA 1), [.t 1], some 26, none, []⟩, ⟨.inl (.ld false 1), [.t 26], some 27, none, []⟩, ⟨.inl .mov, [.t 4], some 28, none, []⟩, ⟨.inl (.idxA 3), [.t 27, .t 28], some 29, none, []⟩, ⟨.inl (.fldA 1), [.t 29], some 30, none, []⟩, ⟨.inl (.ld false 1), [.t 30], some 31, none, []⟩, ⟨.inl (.bld [.int .i64 0, .int .i64 0, .nilS] [(0, 1), (1, 1)]), [.t 25, .t 31], some 32, none, []⟩, ⟨.inr (.alloc false [.int .i64 0, .int .i64 0, .nilS]), [], some 5, none, []⟩, ⟨.inr (.st 3), [.t 5, .t 32], none, none, []⟩] (some ([0, 1, 2, 3, 4, 5, 6, 7, 8, 9, 10, 11, 12, 13, 14], [], [0, 1, 0, 7, 15, 31, 0, 64, 0, 448, 960, 1984, 4095, 0, 16383])))
 sq39_1))

def sp39_4 : AC := (.seq (.reg [⟨.inl .mov, [.t 4], some 9, none, []⟩, ⟨.inl (.fldA 1), [.t 1], some 10, none, []⟩, ⟨.inl (.ld false 1), [.t 10], some 11, none, []⟩, ⟨.inl .len, [.t 11], some 12, none, []⟩, ⟨.inl (.bin .lss), [.t 9, .t 12], some 13, none, []⟩, ⟨.inl .mov, [.t 13], some 14, none, []⟩, ⟨.inl .mov, [.t 4], some 15, some (14, true), []⟩, ⟨.inl (.bin .lss), [.t 15, .c (.int .i64 (60))], some 16, some (14, true), []⟩, ⟨.inl .pick, [.t 14, .t 16, .c (.bool false)], some 17, none, []⟩] none)
 (.cond (.t 17) .skip (.exit 0)))

def lb39_5 : AC := (.pre [1, 2, 3, 4] (.seq sp39_4
 (.seq sp39_3
 sq39_2)))

def sq39_6 : AC := (.pre [2, 3] (.seq (.reg [⟨.inl (.ld true 2), [.t 3], some 58, none, []⟩, ⟨.inr (.st 2), [.t 2, .t 58], none, none, []⟩] none)
 .ret))

def sq39_7 : AC := (.seq (.reg [⟨.inl (.fldA 0), [.t 1], some 6, none, []⟩, ⟨.inl (.ld false 1), [.t 6], some 7, none, []⟩, ⟨.inl (.bld [.int .i64 0, .nilS] [(0, 1)]), [.t 7], some 8, none, []⟩, ⟨.inr (.alloc false [.int .i64 0, .nilS]), [], some 3, none, []⟩, ⟨.inr (.st 2), [.t 3, .t 8], none, none, []⟩] none)
 (.seq (.seq (.reg [⟨.inl .mov, [.c (.int .i64 (0))], some 4, none, []⟩] none)
 (.block 0 (.loop lb39_5)))
 sq39_6))

/-- olivette/olivettelaw01.own -/
def af39 : AFunc := ⟨1,
 (.seq (.reg [⟨.inr (.box false), [.t 0], some 1, none, []⟩, ⟨.inr (.alloc false [.int .i64 0, .nilS]), [], some 2, none, []⟩] none)
 sq39_7),
 [.cell 2 true 2]⟩

def sq40_0 : AC := (.reg [⟨.inl .mov, [.t 5], some 25, none, []⟩, ⟨.inl (.bin .add), [.t 25, .c (.int .i64 (1))], some 26, none, []⟩, ⟨.inl .mov, [.t 26], some 5, none, []⟩] none)

def sp40_1 : AC := (.block 1 (.seq (.reg [⟨.inl (.fldA 1), [.t 2], some 27, none, []⟩, ⟨.inl (.ld false 1), [.t 27], some 28, none, []⟩, ⟨.inl .mov, [.t 5], some 29, none, []⟩, ⟨.inl (.idxA 3), [.t 28, .t 29], some 30, none, []⟩, ⟨.inl (.fldA 0), [.t 30], some 31, none, []⟩, ⟨.inl (.ld false 1), [.t 31], some 32, none, []⟩, ⟨.inl (.fldA 1), [.t 3], some 33, none, []⟩, ⟨.inl (.ld false 1), [.t 33], some 34, none, []⟩, ⟨.inl .mov, [.t 5], some 35, none, []⟩, ⟨.inl (.idxA 3), [.t 34, .t 35], some 36, none, []⟩, ⟨.inl (.fldA 0), [.t 36], some 37, none, []⟩, ⟨.inl (.ld false 1), [.t 37], some 38, none, []⟩, ⟨.inl (.bin .neq), [.t 32, .t 38], some 39, none, []⟩, ⟨.inl .mov, [.t 39], some 40, none, []⟩, ⟨.inl (.fldA 1), [.t 2], some 41, some (40, false), []⟩, ⟨.inl (.ld false 1), [.t 41], some 42, some (40, false), []⟩, ⟨.inl .mov, [.t 5], some 43, some (40, false), []⟩, ⟨.inl (.idxA 3), [.t 42, .t 43], some 44, some (40, false), []⟩, ⟨.inl (.fldA 1), [.t 44], some 45, some (40, false), []⟩, ⟨.inl (.ld false 1), [.t 45], some 46, some (40, false), []⟩, ⟨.inl (.fldA 1), [.t 3], some 47, some (40, false), []⟩, ⟨.inl (.ld false 1), [.t 47], some 48, some (40, false), []⟩, ⟨.inl .mov, [.t 5], some 49, some (40, false), []⟩, ⟨.inl (.idxA 3), [.t 48, .t 49], some 50, some (40, false), []⟩, ⟨.inl (.fldA 1), [.t 50], some 51, some (40, false), []⟩, ⟨.inl (.ld false 1), [.t 51], some 52, some (40, false), []⟩, ⟨.inl (.bin .neq), [.t 46, .t 52], some 53, some (40, false), []⟩, ⟨.inl .pick, [.t 40, .c (.bool true), .t 53], some 54, none, []⟩, ⟨.inl .mov, [.t 54], some 55, none, []⟩, ⟨.inl (.fldA 1), [.t 2], some 56, some (55, false), []⟩, ⟨.inl (.ld false 1), [.t 56], some 57, some (55, false), []⟩, ⟨.inl .mov, [.t 5], some 58, some (55, false), []⟩, ⟨.inl (.idxA 3), [.t 57, .t 58], some 59, some (55, false), []⟩, ⟨.inl (.fldA 2), [.t 59], some 60, some (55, false), []⟩, ⟨.inl (.ld false 1), [.t 60], some 61, some (55, false), []⟩, ⟨.inl (.fldA 1), [.t 3], some 62, some (55, false), []⟩, ⟨.inl (.ld false 1), [.t 62], some 63, some (55, false), []⟩, ⟨.inl .mov, [.t 5], some 64, some (55, false), []⟩, ⟨.inl (.idxA 3), [.t 63, .t 64], some 65, some (55, false), []⟩, ⟨.inl (.fldA 2), [.t 65], some 66, some (55, false), []⟩, ⟨.inl (.ld false 1), [.t 66], some 67, some (55, false), []⟩, ⟨.inr (.call true true 27), [.t 61, .t 67], some 68, some (55, false), []⟩, ⟨.inl (.un .not), [.t 68], some 69, some (55, false), []⟩, ⟨.inl .pick, [.t 55, .c (.bool true), .t 69], some 70, none, []⟩] (some ([0, 1, 2, 3, 4, 5, 6, 7, 8, 9, 10, 11, 12, 13, 14, 15, 16, 17, 18, 19, 20, 21, 22, 23, 24, 25, 26, 27, 28, 29, 30, 31, 32, 33, 34, 35, 36, 37, 38, 39, 40, 41, 42, 43], [], [0, 1, 0, 7, 15, 31, 0, 64, 0, 448, 960, 1984, 4095, 8191, 16383, 32767, 16383, 131071, 262143, 524287, 16383, 1064959, 16383, 7356415, 15745023, 32522239, 67108863, 134217727, 268435455, 536870911, 1073741823, 536870911, 4294967295, 8589934591, 17179869183, 536870911, 34896609279, 536870911, 241055039487, 515932946431, 1065688760319, 2199023255551, 4398046511103, 8796093022207])))
 (.cond (.t 70) (.seq (.reg [⟨.inl .mov, [.c (.bool false)], some 4, none, []⟩] none)
 .ret) .skip)))

def sp40_2 : AC := (.seq (.reg [⟨.inl .mov, [.t 5], some 20, none, []⟩, ⟨.inl (.fldA 1), [.t 2], some 21, none, []⟩, ⟨.inl (.ld false 1), [.t 21], some 22, none, []⟩, ⟨.inl .len, [.t 22], some 23, none, []⟩, ⟨.inl (.bin .lss), [.t 20, .t 23], some 24, none, []⟩] none)
 (.cond (.t 24) .skip (.exit 0)))

def lb40_3 : AC := (.pre [2, 3, 5] (.seq sp40_2
 (.seq sp40_1
 sq40_0)))

def sq40_4 : AC := (.seq (.seq (.reg [⟨.inl .mov, [.c (.int .i64 (0))], some 5, none, []⟩] none)
 (.block 0 (.loop lb40_3)))
 (.pre [] (.seq (.reg [⟨.inl .mov, [.c (.bool true)], some 4, none, []⟩] none)
 .ret)))

def sp40_5 : AC := (.seq (.reg [⟨.inl (.fldA 0), [.t 2], some 6, none, []⟩, ⟨.inl (.ld false 1), [.t 6], some 7, none, []⟩, ⟨.inl (.fldA 0), [.t 3], some 8, none, []⟩, ⟨.inl (.ld false 1), [.t 8], some 9, none, []⟩, ⟨.inl (.bin .neq), [.t 7, .t 9], some 10, none, []⟩, ⟨.inl .mov, [.t 10], some 11, none, []⟩, ⟨.inl (.fldA 1), [.t 2], some 12, some (11, false), []⟩, ⟨.inl (.ld false 1), [.t 12], some 13, some (11, false), []⟩, ⟨.inl .len, [.t 13], some 14, some (11, false), []⟩, ⟨.inl (.fldA 1), [.t 3], some 15, some (11, false), []⟩, ⟨.inl (.ld false 1), [.t 15], some 16, some (11, false), []⟩, ⟨.inl .len, [.t 16], some 17, some (11, false), []⟩, ⟨.inl (.bin .neq), [.t 14, .t 17], some 18, some (11, false), []⟩, ⟨.inl .pick, [.t 11, .c (.bool true), .t 18], some 19, none, []⟩] none)
 (.cond (.t 19) (.seq (.reg [⟨.inl .mov, [.c (.bool false)], some 4, none, []⟩] none)
 .ret) .skip))

/-- olivette/olivettelaw01.equal -/
def af40 : AFunc := ⟨2,
 (.seq (.reg [⟨.inr (.box false), [.t 0], some 2, none, []⟩, ⟨.inr (.box false), [.t 1], some 3, none, []⟩, ⟨.inl .mov, [.c (.bool false)], some 4, none, []⟩] none)
 (.seq sp40_5
 sq40_4)),
 [.t 4]⟩

def sq41_0 : AC := (.seq (.reg [⟨.inl .mov, [.t 0], some 3, none, []⟩, ⟨.inl (.bin .geq), [.t 3, .c (.int .i64 (1))], some 4, none, []⟩, ⟨.inl .mov, [.t 4], some 5, none, []⟩, ⟨.inl .mov, [.t 0], some 6, some (5, true), []⟩, ⟨.inl (.bin .leq), [.t 6, .c (.int .i64 (2147483647))], some 7, some (5, true), []⟩, ⟨.inl .pick, [.t 5, .t 7, .c (.bool false)], some 8, none, []⟩, ⟨.inl .mov, [.t 8], some 2, none, []⟩] none)
 .ret)

/-- olivette/prime.isNumber -/
def af41 : AFunc := ⟨1,
 (.seq (.reg [⟨.inl .mov, [.c (.bool false)], some 2, none, []⟩] none)
 sq41_0),
 [.t 2]⟩

def sq42_0 : AC := (.seq (.reg [⟨.inl .mov, [.t 0], some 4, none, []⟩, ⟨.inl (.mkfn 62), [.t 3], some 5, none, []⟩, ⟨.inr (.call false true 58), [.t 4, .t 5], some 6, none, []⟩] none)
 (.seq (.reg [⟨.inl (.ld false 1), [.t 3], some 7, none, []⟩, ⟨.inl .mov, [.t 7], some 2, none, []⟩] none)
 .ret))

/-- olivette/prime.factor -/
def af42 : AFunc := ⟨1,
 (.seq (.reg [⟨.inl .mov, [.c (.nilS)], some 2, none, []⟩] none)
 (.seq (.reg [⟨.inr (.alloc false [.nilS]), [], some 3, none, []⟩] none)
 sq42_0)),
 [.t 2]⟩

def sq43_0 : AC := (.cond (.t 14) (.seq (.reg [⟨.inl .mov, [.t 3], some 15, none, []⟩, ⟨.inl .mov, [.t 15], some 2, none, []⟩] none)
 .ret) .skip)

def sq43_1 : AC := (.reg [⟨.inl .mov, [.t 3], some 9, none, []⟩, ⟨.inl (.bin .add), [.t 9, .c (.int .i64 (1))], some 10, none, []⟩, ⟨.inl .mov, [.t 10], some 3, none, []⟩] none)

def sp43_2 : AC := (.block 1 (.seq (.reg [⟨.inl .mov, [.t 0], some 11, none, []⟩, ⟨.inl .mov, [.t 3], some 12, none, []⟩, ⟨.inl (.bin .rem), [.t 11, .t 12], some 13, none, []⟩, ⟨.inl (.bin .eql), [.t 13, .c (.int .i64 (0))], some 14, none, []⟩] none)
 sq43_0))

def sp43_3 : AC := (.seq (.reg [⟨.inl .mov, [.t 3], some 4, none, []⟩, ⟨.inl .mov, [.t 3], some 5, none, []⟩, ⟨.inl (.bin .mul), [.t 4, .t 5], some 6, none, []⟩, ⟨.inl .mov, [.t 0], some 7, none, []⟩, ⟨.inl (.bin .leq), [.t 6, .t 7], some 8, none, []⟩] none)
 (.cond (.t 8) .skip (.exit 0)))

def lb43_4 : AC := (.pre [0, 3] (.seq sp43_3
 (.seq sp43_2
 sq43_1)))

def sq43_5 : AC := (.seq (.seq (.reg [⟨.inl .mov, [.c (.int .i64 (2))], some 3, none, []⟩] none)
 (.block 0 (.loop lb43_4)))
 (.pre [0] (.seq (.reg [⟨.inl .mov, [.t 0], some 16, none, []⟩, ⟨.inl .mov, [.t 16], some 2, none, []⟩] none)
 .ret)))

/-- olivette/olivetteref01.Divisor -/
def af43 : AFunc := ⟨1,
 (.seq (.reg [⟨.inl .mov, [.c (.int .i64 (0))], some 2, none, []⟩] none)
 sq43_5),
 [.t 2]⟩

def sq44_0 : AC := (.seq (.reg [⟨.inl .mov, [.t 0], some 3, none, []⟩, ⟨.inr (.call true true 41), [.t 3], some 4, none, []⟩, ⟨.inl .mov, [.t 4], some 5, none, []⟩, ⟨.inl .mov, [.t 0], some 6, some (5, true), []⟩, ⟨.inr (.call true true 63), [.t 6], some 7, some (5, true), []⟩, ⟨.inl .pick, [.t 5, .t 7, .c (.bool false)], some 8, none, []⟩, ⟨.inl .mov, [.t 8], some 2, none, []⟩] none)
 .ret)

/-- olivette/prime.isPrimeNumber -/
def af44 : AFunc := ⟨1,
 (.seq (.reg [⟨.inl .mov, [.c (.bool false)], some 2, none, []⟩] none)
 sq44_0),
 [.t 2]⟩

def st45_0 : AC := (.seq (.reg [⟨.inl .mov, [.c (.int .i64 (0))], some 4, none, []⟩, ⟨.inl .mov, [.c (.bool true)], some 5, none, []⟩] none)
 .ret)

def st45_1 : AC := (.seq (.reg [⟨.inl .mov, [.c (.int .i64 (0))], some 4, none, []⟩, ⟨.inl .mov, [.c (.bool false)], some 5, none, []⟩] none)
 .ret)

def sq45_2 : AC := (.reg [⟨.inl .mov, [.t 7], some 31, none, []⟩, ⟨.inl (.bin .add), [.t 31, .c (.int .i64 (1))], some 32, none, []⟩, ⟨.inl .mov, [.t 32], some 7, none, []⟩] none)

def sq45_3 : AC := (.block 1 (.seq (.reg [⟨.inl .mov, [.t 6], some 29, none, []⟩, ⟨.inl (.bin .quo), [.t 29, .c (.int .i64 (2))], some 30, none, []⟩, ⟨.inl .mov, [.t 30], some 6, none, []⟩] none)
 sq45_2))

def sp45_4 : AC := (.seq (.reg [⟨.inl .mov, [.t 6], some 26, none, []⟩, ⟨.inl (.bin .rem), [.t 26, .c (.int .i64 (2))], some 27, none, []⟩, ⟨.inl (.bin .eql), [.t 27, .c (.int .i64 (0))], some 28, none, []⟩] none)
 (.cond (.t 28) .skip (.exit 0)))

def lb45_5 : AC := (.pre [0, 1, 6, 7] (.seq sp45_4
 sq45_3))

def sq45_6 : AC := (.block 3 (.reg [⟨.inl .mov, [.t 8], some 40, none, []⟩, ⟨.inl (.bin .add), [.t 40, .c (.int .i64 (1))], some 41, none, []⟩, ⟨.inl .mov, [.t 41], some 8, none, []⟩] none))

def sp45_7 : AC := (.seq (.reg [⟨.inl .mov, [.t 8], some 33, none, []⟩, ⟨.inl .mov, [.t 1], some 34, none, []⟩, ⟨.inl (.bin .sub), [.t 34, .c (.int .i64 (1))], some 35, none, []⟩, ⟨.inl (.bin .quo), [.t 35, .c (.int .i64 (2))], some 36, none, []⟩, ⟨.inl .mov, [.t 1], some 37, none, []⟩, ⟨.inr (.call true true 47), [.t 33, .t 36, .t 37], some 38, none, []⟩, ⟨.inl (.bin .eql), [.t 38, .c (.int .i64 (1))], some 39, none, []⟩] none)
 (.cond (.t 39) .skip (.exit 2)))

def lb45_8 : AC := (.pre [0, 1, 6, 7, 8] (.seq sp45_7
 sq45_6))

def sq45_9 : AC := (.reg [⟨.inl .mov, [.t 12], some 61, none, []⟩, ⟨.inl (.bin .add), [.t 61, .c (.int .i64 (1))], some 62, none, []⟩, ⟨.inl .mov, [.t 62], some 12, none, []⟩] none)

def sp45_10 : AC := (.block 7 (.reg [⟨.inl .mov, [.t 13], some 63, none, []⟩, ⟨.inl .mov, [.t 13], some 64, none, []⟩, ⟨.inl .mov, [.t 1], some 65, none, []⟩, ⟨.inr (.call true true 46), [.t 63, .t 64, .t 65], some 66, none, []⟩, ⟨.inl .mov, [.t 66], some 13, none, []⟩] none))

def sp45_11 : AC := (.seq (.reg [⟨.inl .mov, [.t 13], some 59, none, []⟩, ⟨.inl (.bin .neq), [.t 59, .c (.int .i64 (1))], some 60, none, []⟩] none)
 (.cond (.t 60) .skip (.exit 6)))

def lb45_12 : AC := (.pre [1, 7, 9, 10, 11, 12, 13] (.seq sp45_11
 (.seq sp45_10
 sq45_9)))

def sq45_13 : AC := (.reg [⟨.inl .mov, [.t 11], some 84, none, []⟩, ⟨.inl .mov, [.t 9], some 85, none, []⟩, ⟨.inl .mov, [.t 1], some 86, none, []⟩, ⟨.inr (.call true true 46), [.t 84, .t 85, .t 86], some 87, none, []⟩, ⟨.inl .mov, [.t 87], some 11, none, []⟩] none)

def sq45_14 : AC := (.seq (.reg [⟨.inl .mov, [.t 10], some 75, none, []⟩, ⟨.inl .mov, [.t 14], some 76, none, []⟩, ⟨.inl .mov, [.t 1], some 77, none, []⟩, ⟨.inr (.call true true 46), [.t 75, .t 76, .t 77], some 78, none, []⟩, ⟨.inl .mov, [.t 14], some 79, none, []⟩, ⟨.inl .mov, [.t 14], some 80, none, []⟩, ⟨.inl .mov, [.t 1], some 81, none, []⟩, ⟨.inr (.call true true 46), [.t 79, .t 80, .t 81], some 82, none, []⟩, ⟨.inl .mov, [.t 12], some 83, none, []⟩, ⟨.inl .mov, [.t 78], some 10, none, []⟩, ⟨.inl .mov, [.t 82], some 9, none, []⟩, ⟨.inl .mov, [.t 83], some 7, none, []⟩] none)
 sq45_13)

def sq45_15 : AC := (.pre [1, 7, 9, 10, 11, 12] (.seq (.reg [⟨.inl .mov, [.t 9], some 67, none, []⟩, ⟨.inl .mov, [.t 7], some 68, none, []⟩, ⟨.inl .mov, [.t 12], some 69, none, []⟩, ⟨.inl (.bin .sub), [.t 68, .t 69], some 70, none, []⟩, ⟨.inl (.bin .sub), [.t 70, .c (.int .i64 (1))], some 71, none, []⟩, ⟨.inl (.bin .shl), [.c (.int .i64 (1)), .t 71], some 72, none, []⟩, ⟨.inl .mov, [.t 1], some 73, none, []⟩, ⟨.inr (.call true true 47), [.t 67, .t 72, .t 73], some 74, none, []⟩, ⟨.inl .mov, [.t 74], some 14, none, []⟩] none)
 sq45_14))

def sp45_16 : AC := (.seq (.reg [⟨.inl .mov, [.t 11], some 58, none, []⟩, ⟨.inl .mov, [.t 58], some 13, none, []⟩] none)
 (.block 6 (.loop lb45_12)))

def sp45_17 : AC := (.seq (.reg [⟨.inl .mov, [.t 11], some 56, none, []⟩, ⟨.inl (.bin .neq), [.t 56, .c (.int .i64 (1))], some 57, none, []⟩] none)
 (.cond (.t 57) .skip (.exit 4)))

def lb45_18 : AC := (.pre [1, 7, 9, 10, 11] (.seq sp45_17
 (.block 5 (.seq (.reg [⟨.inl .mov, [.c (.int .i64 (0))], some 12, none, []⟩] none)
 (.seq sp45_16
 sq45_15)))))

def sq45_19 : AC := (.pre [10] (.seq (.reg [⟨.inl .mov, [.t 10], some 88, none, []⟩, ⟨.inl .mov, [.t 88], some 4, none, []⟩, ⟨.inl .mov, [.c (.bool true)], some 5, none, []⟩] none)
 .ret))

def sq45_20 : AC := (.pre [0, 1, 6, 7, 8] (.seq (.reg [⟨.inl .mov, [.t 8], some 42, none, []⟩, ⟨.inl .mov, [.t 6], some 43, none, []⟩, ⟨.inl .mov, [.t 1], some 44, none, []⟩, ⟨.inr (.call true true 47), [.t 42, .t 43, .t 44], some 45, none, []⟩, ⟨.inl .mov, [.t 0], some 46, none, []⟩, ⟨.inl .mov, [.t 6], some 47, none, []⟩, ⟨.inl (.bin .add), [.t 47, .c (.int .i64 (1))], some 48, none, []⟩, ⟨.inl (.bin .quo), [.t 48, .c (.int .i64 (2))], some 49, none, []⟩, ⟨.inl .mov, [.t 1], some 50, none, []⟩, ⟨.inr (.call true true 47), [.t 46, .t 49, .t 50], some 51, none, []⟩, ⟨.inl .mov, [.t 0], some 52, none, []⟩, ⟨.inl .mov, [.t 6], some 53, none, []⟩, ⟨.inl .mov, [.t 1], some 54, none, []⟩, ⟨.inr (.call true true 47), [.t 52, .t 53, .t 54], some 55, none, []⟩, ⟨.inl .mov, [.t 45], some 9, none, []⟩, ⟨.inl .mov, [.t 51], some 10, none, []⟩, ⟨.inl .mov, [.t 55], some 11, none, []⟩] none)
 (.seq (.block 4 (.loop lb45_18))
 sq45_19)))

def sq45_21 : AC := (.pre [0, 1, 6, 7] (.seq (.reg [⟨.inl .mov, [.c (.int .i64 (2))], some 8, none, []⟩] none)
 (.seq (.block 2 (.loop lb45_8))
 sq45_20)))

def sq45_22 : AC := (.seq (.reg [⟨.inl .mov, [.t 1], some 24, none, []⟩, ⟨.inl (.bin .sub), [.t 24, .c (.int .i64 (1))], some 25, none, []⟩, ⟨.inl .mov, [.t 25], some 6, none, []⟩, ⟨.inl .mov, [.c (.int .i64 (0))], some 7, none, []⟩] none)
 (.seq (.block 0 (.loop lb45_5))
 sq45_21))

def sp45_23 : AC := (.seq (.reg [⟨.inl .mov, [.t 0], some 17, none, []⟩, ⟨.inl .mov, [.t 1], some 18, none, []⟩, ⟨.inl (.bin .sub), [.t 18, .c (.int .i64 (1))], some 19, none, []⟩, ⟨.inl (.bin .quo), [.t 19, .c (.int .i64 (2))], some 20, none, []⟩, ⟨.inl .mov, [.t 1], some 21, none, []⟩, ⟨.inr (.call true true 47), [.t 17, .t 20, .t 21], some 22, none, []⟩, ⟨.inl (.bin .neq), [.t 22, .c (.int .i64 (1))], some 23, none, []⟩] none)
 (.cond (.t 23) st45_1 .skip))

def sp45_24 : AC := (.seq (.reg [⟨.inl .mov, [.t 0], some 15, none, []⟩, ⟨.inl (.bin .eql), [.t 15, .c (.int .i64 (0))], some 16, none, []⟩] none)
 (.cond (.t 16) st45_0 .skip))

/-- olivette/prime.root -/
def af45 : AFunc := ⟨2,
 (.seq (.reg [⟨.inl .mov, [.c (.int .i64 (0))], some 4, none, []⟩, ⟨.inl .mov, [.c (.bool false)], some 5, none, []⟩] none)
 (.seq sp45_24
 (.seq sp45_23
 sq45_22))),
 [.t 4, .t 5]⟩

def sq46_0 : AC := (.seq (.reg [⟨.inl .mov, [.t 0], some 7, none, []⟩, ⟨.inl .mov, [.t 1], some 8, none, []⟩, ⟨.inl (.bin .mul), [.t 7, .t 8], some 9, none, []⟩, ⟨.inl .mov, [.t 2], some 10, none, []⟩, ⟨.inl (.bin .rem), [.t 9, .t 10], some 11, none, []⟩, ⟨.inl .mov, [.t 11], some 6, none, []⟩] none)
 .ret)

/-- olivette/prime.mul -/
def af46 : AFunc := ⟨3,
 (.seq (.reg [⟨.inl .mov, [.c (.int .i64 (0))], some 6, none, []⟩] none)
 sq46_0),
 [.t 6]⟩

def st47_0 : AC := (.reg [⟨.inl .mov, [.t 7], some 17, none, []⟩, ⟨.inl .mov, [.t 0], some 18, none, []⟩, ⟨.inl .mov, [.t 2], some 19, none, []⟩, ⟨.inr (.call true true 46), [.t 17, .t 18, .t 19], some 20, none, []⟩, ⟨.inl .mov, [.t 20], some 7, none, []⟩] none)

def sq47_1 : AC := (.reg [⟨.inl .mov, [.t 0], some 21, none, []⟩, ⟨.inl .mov, [.t 0], some 22, none, []⟩, ⟨.inl .mov, [.t 2], some 23, none, []⟩, ⟨.inr (.call true true 46), [.t 21, .t 22, .t 23], some 24, none, []⟩, ⟨.inl .mov, [.t 24], some 0, none, []⟩] none)

def sp47_2 : AC := (.seq (.reg [⟨.inl .mov, [.t 1], some 14, none, []⟩, ⟨.inl (.bin .and), [.t 14, .c (.int .i64 (1))], some 15, none, []⟩, ⟨.inl (.bin .eql), [.t 15, .c (.int .i64 (1))], some 16, none, []⟩] none)
 (.cond (.t 16) st47_0 .skip))

def sq47_3 : AC := (.reg [⟨.inl .mov, [.t 1], some 12, none, []⟩, ⟨.inl (.bin .shr), [.t 12, .c (.int .u64 (1))], some 13, none, []⟩, ⟨.inl .mov, [.t 13], some 1, none, []⟩] none)

def sp47_4 : AC := (.seq (.reg [⟨.inl .mov, [.t 1], some 10, none, []⟩, ⟨.inl (.bin .gtr), [.t 10, .c (.int .i64 (0))], some 11, none, []⟩] none)
 (.cond (.t 11) .skip (.exit 0)))

def lb47_5 : AC := (.pre [0, 1, 2, 7] (.seq sp47_4
 (.seq (.block 1 (.seq sp47_2
 sq47_1))
 sq47_3)))

def sq47_6 : AC := (.seq (.block 0 (.loop lb47_5))
 (.pre [7] (.seq (.reg [⟨.inl .mov, [.t 7], some 25, none, []⟩, ⟨.inl .mov, [.t 25], some 6, none, []⟩] none)
 .ret)))

def sq47_7 : AC := (.seq (.reg [⟨.inl .mov, [.t 2], some 8, none, []⟩, ⟨.inl (.bin .rem), [.c (.int .i64 (1)), .t 8], some 9, none, []⟩, ⟨.inl .mov, [.t 9], some 7, none, []⟩] none)
 sq47_6)

/-- olivette/prime.power -/
def af47 : AFunc := ⟨3,
 (.seq (.reg [⟨.inl .mov, [.c (.int .i64 (0))], some 6, none, []⟩] none)
 sq47_7),
 [.t 6]⟩

def sq48_0 : AC := (.seq (.reg [⟨.inl (.ld false 1), [.t 5], some 8, none, []⟩, ⟨.inl (.mkfn 65), [.t 2, .t 5, .t 3], some 9, none, []⟩, ⟨.inr (.call false true 58), [.t 8, .t 9], some 10, none, []⟩] none)
 (.seq (.reg [⟨.inl (.ld false 1), [.t 5], some 11, none, []⟩, ⟨.inl .mov, [.t 11], some 4, none, []⟩] none)
 .ret))

def sq48_1 : AC := (.seq (.reg [⟨.inl (.ld false 1), [.t 3], some 6, none, []⟩, ⟨.inr (.call true true 64), [.t 6], some 7, none, []⟩, ⟨.inr (.alloc true [.int .i64 0]), [], some 5, none, []⟩, ⟨.inr (.st 1), [.t 5, .t 7], none, none, []⟩] none)
 sq48_0)

/-- olivette/prime.order -/
def af48 : AFunc := ⟨2,
 (.seq (.reg [⟨.inr (.box true), [.t 0], some 2, none, []⟩, ⟨.inr (.box true), [.t 1], some 3, none, []⟩, ⟨.inl .mov, [.c (.int .i64 (0))], some 4, none, []⟩] none)
 sq48_1),
 [.t 4]⟩

def sq49_0 : AC := (.seq (.reg [⟨.inl .mov, [.t 1], some 5, none, []⟩, ⟨.inr (.call true true 41), [.t 5], some 6, none, []⟩, ⟨.inl .mov, [.t 6], some 7, none, []⟩, ⟨.inl .mov, [.t 0], some 8, some (7, true), []⟩, ⟨.inl (.bin .geq), [.t 8, .c (.int .i64 (0))], some 9, some (7, true), []⟩, ⟨.inl .pick, [.t 7, .t 9, .c (.bool false)], some 10, none, []⟩, ⟨.inl .mov, [.t 10], some 11, none, []⟩, ⟨.inl .mov, [.t 0], some 12, some (11, true), []⟩, ⟨.inl .mov, [.t 1], some 13, some (11, true), []⟩, ⟨.inl (.bin .lss), [.t 12, .t 13], some 14, some (11, true), []⟩, ⟨.inl .pick, [.t 11, .t 14, .c (.bool false)], some 15, none, []⟩, ⟨.inl .mov, [.t 15], some 4, none, []⟩] none)
 .ret)

/-- olivette/prime.isRest -/
def af49 : AFunc := ⟨2,
 (.seq (.reg [⟨.inl .mov, [.c (.bool false)], some 4, none, []⟩] none)
 sq49_0),
 [.t 4]⟩

def sq50_0 : AC := (.reg [⟨.inl .mov, [.t 7], some 20, none, []⟩, ⟨.inl .mov, [.t 6], some 21, none, []⟩, ⟨.inl .mov, [.t 8], some 22, none, []⟩, ⟨.inl .mov, [.t 7], some 23, none, []⟩, ⟨.inl (.bin .mul), [.t 22, .t 23], some 24, none, []⟩, ⟨.inl (.bin .sub), [.t 21, .t 24], some 25, none, []⟩, ⟨.inl .mov, [.t 20], some 6, none, []⟩, ⟨.inl .mov, [.t 25], some 7, none, []⟩] none)

def sq50_1 : AC := (.seq (.reg [⟨.inl .mov, [.t 1], some 14, none, []⟩, ⟨.inl .mov, [.t 0], some 15, none, []⟩, ⟨.inl .mov, [.t 8], some 16, none, []⟩, ⟨.inl .mov, [.t 1], some 17, none, []⟩, ⟨.inl (.bin .mul), [.t 16, .t 17], some 18, none, []⟩, ⟨.inl (.bin .sub), [.t 15, .t 18], some 19, none, []⟩, ⟨.inl .mov, [.t 14], some 0, none, []⟩, ⟨.inl .mov, [.t 19], some 1, none, []⟩] none)
 sq50_0)

def sq50_2 : AC := (.block 1 (.seq (.reg [⟨.inl .mov, [.t 0], some 11, none, []⟩, ⟨.inl .mov, [.t 1], some 12, none, []⟩, ⟨.inl (.bin .quo), [.t 11, .t 12], some 13, none, []⟩, ⟨.inl .mov, [.t 13], some 8, none, []⟩] none)
 sq50_1))

def sp50_3 : AC := (.seq (.reg [⟨.inl .mov, [.t 1], some 9, none, []⟩, ⟨.inl (.bin .neq), [.t 9, .c (.int .i64 (0))], some 10, none, []⟩] none)
 (.cond (.t 10) .skip (.exit 0)))

def lb50_4 : AC := (.pre [0, 1, 6, 7] (.seq sp50_3
 sq50_2))

def sq50_5 : AC := (.pre [0, 6] (.seq (.reg [⟨.inl .mov, [.t 0], some 26, none, []⟩, ⟨.inl .mov, [.t 6], some 27, none, []⟩, ⟨.inl .mov, [.t 26], some 4, none, []⟩, ⟨.inl .mov, [.t 27], some 5, none, []⟩] none)
 .ret))

def sq50_6 : AC := (.seq (.reg [⟨.inl .mov, [.c (.int .i64 (1))], some 6, none, []⟩, ⟨.inl .mov, [.c (.int .i64 (0))], some 7, none, []⟩] none)
 (.seq (.block 0 (.loop lb50_4))
 sq50_5))

/-- olivette/prime.euclid -/
def af50 : AFunc := ⟨2,
 (.seq (.reg [⟨.inl .mov, [.c (.int .i64 (0))], some 4, none, []⟩, ⟨.inl .mov, [.c (.int .i64 (0))], some 5, none, []⟩] none)
 sq50_6),
 [.t 4, .t 5]⟩

def sq51_0 : AC := (.seq (.reg [⟨.inl .mov, [.t 0], some 48, none, []⟩, ⟨.inl .mov, [.t 1], some 49, none, []⟩, ⟨.inl (.bin .mul), [.t 48, .t 49], some 50, none, []⟩, ⟨.inl .mov, [.t 50], some 5, none, []⟩] none)
 .ret)

def sq51_1 : AC := (.seq (.reg [⟨.inl .mov, [.t 7], some 40, none, []⟩, ⟨.inl .mov, [.t 9], some 41, none, []⟩, ⟨.inl (.bin .mul), [.t 40, .t 41], some 42, none, []⟩, ⟨.inl .mov, [.t 13], some 43, none, []⟩, ⟨.inl (.bin .add), [.t 42, .t 43], some 44, none, []⟩, ⟨.inl .mov, [.t 12], some 45, none, []⟩, ⟨.inl (.bin .shr), [.t 45, .c (.int .u64 (32))], some 46, none, []⟩, ⟨.inl (.bin .add), [.t 44, .t 46], some 47, none, []⟩, ⟨.inl .mov, [.t 47], some 4, none, []⟩] none)
 sq51_0)

def sq51_2 : AC := (.seq (.reg [⟨.inl .mov, [.t 12], some 35, none, []⟩, ⟨.inl .mov, [.t 6], some 36, none, []⟩, ⟨.inl .mov, [.t 9], some 37, none, []⟩, ⟨.inl (.bin .mul), [.t 36, .t 37], some 38, none, []⟩, ⟨.inl (.bin .add), [.t 35, .t 38], some 39, none, []⟩, ⟨.inl .mov, [.t 39], some 12, none, []⟩] none)
 sq51_1)

def sq51_3 : AC := (.seq (.reg [⟨.inl .mov, [.t 11], some 33, none, []⟩, ⟨.inl (.bin .shr), [.t 33, .c (.int .u64 (32))], some 34, none, []⟩, ⟨.inl .mov, [.t 34], some 13, none, []⟩] none)
 sq51_2)

def sq51_4 : AC := (.seq (.reg [⟨.inl .mov, [.t 11], some 31, none, []⟩, ⟨.inl (.bin .and), [.t 31, .c (.int .u64 (4294967295))], some 32, none, []⟩, ⟨.inl .mov, [.t 32], some 12, none, []⟩] none)
 sq51_3)

def sq51_5 : AC := (.seq (.reg [⟨.inl .mov, [.t 7], some 25, none, []⟩, ⟨.inl .mov, [.t 8], some 26, none, []⟩, ⟨.inl (.bin .mul), [.t 25, .t 26], some 27, none, []⟩, ⟨.inl .mov, [.t 10], some 28, none, []⟩, ⟨.inl (.bin .shr), [.t 28, .c (.int .u64 (32))], some 29, none, []⟩, ⟨.inl (.bin .add), [.t 27, .t 29], some 30, none, []⟩, ⟨.inl .mov, [.t 30], some 11, none, []⟩] none)
 sq51_4)

def sq51_6 : AC := (.seq (.reg [⟨.inl .mov, [.t 6], some 22, none, []⟩, ⟨.inl .mov, [.t 8], some 23, none, []⟩, ⟨.inl (.bin .mul), [.t 22, .t 23], some 24, none, []⟩, ⟨.inl .mov, [.t 24], some 10, none, []⟩] none)
 sq51_5)

def sq51_7 : AC := (.seq (.reg [⟨.inl .mov, [.t 1], some 20, none, []⟩, ⟨.inl (.bin .shr), [.t 20, .c (.int .u64 (32))], some 21, none, []⟩, ⟨.inl .mov, [.t 21], some 9, none, []⟩] none)
 sq51_6)

def sq51_8 : AC := (.seq (.reg [⟨.inl .mov, [.t 1], some 18, none, []⟩, ⟨.inl (.bin .and), [.t 18, .c (.int .u64 (4294967295))], some 19, none, []⟩, ⟨.inl .mov, [.t 19], some 8, none, []⟩] none)
 sq51_7)

def sq51_9 : AC := (.seq (.reg [⟨.inl .mov, [.t 0], some 16, none, []⟩, ⟨.inl (.bin .shr), [.t 16, .c (.int .u64 (32))], some 17, none, []⟩, ⟨.inl .mov, [.t 17], some 7, none, []⟩] none)
 sq51_8)

def sq51_10 : AC := (.seq (.reg [⟨.inl .mov, [.t 0], some 14, none, []⟩, ⟨.inl (.bin .and), [.t 14, .c (.int .u64 (4294967295))], some 15, none, []⟩, ⟨.inl .mov, [.t 15], some 6, none, []⟩] none)
 sq51_9)

/-- math/bits.Mul64 -/
def af51 : AFunc := ⟨2,
 (.seq (.reg [⟨.inl .mov, [.c (.int .u64 (0))], some 4, none, []⟩, ⟨.inl .mov, [.c (.int .u64 (0))], some 5, none, []⟩] none)
 sq51_10),
 [.t 4, .t 5]⟩

def st52_0 : AC := (.seq (.reg [⟨.inl .mov, [.c (.int .i64 (0))], some 2, none, []⟩, ⟨.inl .mov, [.c (.bool false)], some 3, none, []⟩] none)
 .ret)

def sq52_1 : AC := (.reg [⟨.inl .mov, [.t 4], some 33, none, []⟩, ⟨.inl .mov, [.t 6], some 34, none, []⟩, ⟨.inl (.bin .mul), [.t 33, .t 34], some 35, none, []⟩, ⟨.inl .mov, [.t 35], some 4, none, []⟩] none)

def sp52_2 : AC := (.seq (.reg [⟨.inl .mov, [.t 4], some 29, none, []⟩, ⟨.inl .mov, [.t 6], some 30, none, []⟩, ⟨.inl (.bin .quo), [.c (.int .i64 (4611686018427387904)), .t 30], some 31, none, []⟩, ⟨.inl (.bin .gtr), [.t 29, .t 31], some 32, none, []⟩] none)
 (.cond (.t 32) st52_0 .skip))

def sq52_3 : AC := (.reg [⟨.inl .mov, [.t 5], some 11, none, []⟩, ⟨.inl (.bin .add), [.t 11, .c (.int .i64 (1))], some 12, none, []⟩, ⟨.inl .mov, [.t 12], some 5, none, []⟩] none)

def sp52_4 : AC := (.block 1 (.seq (.reg [⟨.inl .mov, [.t 0], some 17, none, []⟩, ⟨.inl .mov, [.t 5], some 18, none, []⟩, ⟨.inl (.idxA 1), [.t 17, .t 18], some 19, none, []⟩, ⟨.inl (.ld false 1), [.t 19], some 20, none, []⟩, ⟨.inl .mov, [.t 4], some 21, none, []⟩, ⟨.inl .mov, [.t 0], some 22, none, []⟩, ⟨.inl .mov, [.t 5], some 23, none, []⟩, ⟨.inl (.idxA 1), [.t 22, .t 23], some 24, none, []⟩, ⟨.inl (.ld false 1), [.t 24], some 25, none, []⟩, ⟨.inl (.bin .rem), [.t 21, .t 25], some 26, none, []⟩, ⟨.inr (.call true true 53), [.t 20, .t 26], some 27, none, []⟩, ⟨.inl .mov, [.t 0], some 13, none, []⟩, ⟨.inl .mov, [.t 5], some 14, none, []⟩, ⟨.inl (.idxA 1), [.t 13, .t 14], some 15, none, []⟩, ⟨.inl (.ld false 1), [.t 15], some 16, none, []⟩, ⟨.inl (.bin .quo), [.t 16, .t 27], some 28, none, []⟩, ⟨.inl .mov, [.t 28], some 6, none, []⟩] (some ([4, 5, 6, 7, 8, 9, 10, 11, 12, 13, 14, 0, 1, 2, 3, 15, 16], [], [0, 0, 3, 7, 0, 0, 48, 112, 0, 0, 0, 1536, 3584, 7936, 16368, 32767, 65535])))
 (.seq sp52_2
 sq52_1)))

def sp52_5 : AC := (.seq (.reg [⟨.inl .mov, [.t 5], some 7, none, []⟩, ⟨.inl .mov, [.t 0], some 8, none, []⟩, ⟨.inl .len, [.t 8], some 9, none, []⟩, ⟨.inl (.bin .lss), [.t 7, .t 9], some 10, none, []⟩] none)
 (.cond (.t 10) .skip (.exit 0)))

def lb52_6 : AC := (.pre [0, 4, 5] (.seq sp52_5
 (.seq sp52_4
 sq52_3)))

def sq52_7 : AC := (.pre [4] (.seq (.reg [⟨.inl .mov, [.t 4], some 36, none, []⟩, ⟨.inl .mov, [.t 36], some 2, none, []⟩, ⟨.inl .mov, [.c (.bool true)], some 3, none, []⟩] none)
 .ret))

def sq52_8 : AC := (.seq (.reg [⟨.inl .mov, [.c (.int .i64 (1))], some 4, none, []⟩] none)
 (.seq (.seq (.reg [⟨.inl .mov, [.c (.int .i64 (0))], some 5, none, []⟩] none)
 (.block 0 (.loop lb52_6)))
 sq52_7))

/-- olivette/olivetteref01.Least -/
def af52 : AFunc := ⟨1,
 (.seq (.reg [⟨.inl .mov, [.c (.int .i64 (0))], some 2, none, []⟩, ⟨.inl .mov, [.c (.bool false)], some 3, none, []⟩] none)
 sq52_8),
 [.t 2, .t 3]⟩

def sq53_0 : AC := (.seq (.reg [⟨.inl .mov, [.t 1], some 11, none, []⟩, ⟨.inl .mov, [.t 11], some 0, none, []⟩] none)
 (.reg [⟨.inl .mov, [.t 5], some 12, none, []⟩, ⟨.inl .mov, [.t 12], some 1, none, []⟩] none))

def sq53_1 : AC := (.block 1 (.seq (.reg [⟨.inl .mov, [.t 0], some 8, none, []⟩, ⟨.inl .mov, [.t 1], some 9, none, []⟩, ⟨.inl (.bin .rem), [.t 8, .t 9], some 10, none, []⟩, ⟨.inl .mov, [.t 10], some 5, none, []⟩] none)
 sq53_0))

def sp53_2 : AC := (.seq (.reg [⟨.inl .mov, [.t 1], some 6, none, []⟩, ⟨.inl (.bin .gtr), [.t 6, .c (.int .i64 (0))], some 7, none, []⟩] none)
 (.cond (.t 7) .skip (.exit 0)))

def lb53_3 : AC := (.pre [0, 1] (.seq sp53_2
 sq53_1))

def sq53_4 : AC := (.seq (.block 0 (.loop lb53_3))
 (.pre [0] (.seq (.reg [⟨.inl .mov, [.t 0], some 13, none, []⟩, ⟨.inl .mov, [.t 13], some 4, none, []⟩] none)
 .ret)))

/-- olivette/olivetteref01.Gcd -/
def af53 : AFunc := ⟨2,
 (.seq (.reg [⟨.inl .mov, [.c (.int .i64 (0))], some 4, none, []⟩] none)
 sq53_4),
 [.t 4]⟩

def st54_0 : AC := (.seq (.reg [⟨.inl (.ld false 1), [.t 3], some 17, none, []⟩, ⟨.inl .mov, [.t 0], some 18, none, []⟩, ⟨.inl (.bld [.int .i64 0, .int .i64 0, .nilS] [(0, 1), (1, 1)]), [.c (.int .i64 (2)), .c (.int .i64 (1))], some 19, none, []⟩, ⟨.inr (.upM [some .i64]), [.t 17, .t 18, .t 19], none, none, []⟩] none)
 .ret)

def sq54_1 : AC := (.block 1 (.reg [⟨.inl .mov, [.t 7], some 29, none, []⟩, ⟨.inl (.bin .add), [.t 29, .c (.int .i64 (1))], some 30, none, []⟩, ⟨.inl .mov, [.t 30], some 7, none, []⟩] none))

def sp54_2 : AC := (.seq (.reg [⟨.inl .mov, [.t 7], some 24, none, []⟩, ⟨.inl .mov, [.t 0], some 25, none, []⟩, ⟨.inl (.ld false 1), [.t 6], some 26, none, []⟩, ⟨.inr (.call true true 60), [.t 24, .t 25, .t 26], some 27, none, []⟩, ⟨.inl (.un .not), [.t 27], some 28, none, []⟩] none)
 (.cond (.t 28) .skip (.exit 0)))

def lb54_3 : AC := (.pre [0, 3, 6, 7] (.seq sp54_2
 sq54_1))

def sq54_4 : AC := (.pre [0, 3, 6, 7] (.reg [⟨.inl (.ld false 1), [.t 3], some 31, none, []⟩, ⟨.inl .mov, [.t 0], some 32, none, []⟩, ⟨.inl .mov, [.t 0], some 33, none, []⟩, ⟨.inl .mov, [.t 7], some 34, none, []⟩, ⟨.inl (.ld false 1), [.t 6], some 35, none, []⟩, ⟨.inl (.bld [.int .i64 0, .int .i64 0, .nilS] [(0, 1), (1, 1), (2, 1)]), [.t 33, .t 34, .t 35], some 36, none, []⟩, ⟨.inr (.upM [some .i64]), [.t 31, .t 32, .t 36], none, none, []⟩] none))

def sq54_5 : AC := (.fz 6 (some 0) (.seq (.reg [⟨.inl .mov, [.c (.int .i64 (2))], some 7, none, []⟩] none)
 (.seq (.block 0 (.loop lb54_3))
 sq54_4)))

def sq54_6 : AC := (.fz 6 (some 0) (.seq (.reg [⟨.inl .mov, [.t 0], some 20, none, []⟩, ⟨.inl (.bin .sub), [.t 20, .c (.int .i64 (1))], some 21, none, []⟩, ⟨.inl (.mkfn 66), [.t 6, .t 3], some 22, none, []⟩, ⟨.inr (.call false true 58), [.t 21, .t 22], some 23, none, []⟩] none)
 sq54_5))

def sp54_7 : AC := (.seq (.reg [⟨.inl .mov, [.t 0], some 15, none, []⟩, ⟨.inl (.bin .eql), [.t 15, .c (.int .i64 (2))], some 16, none, []⟩] none)
 (.cond (.t 16) st54_0 .skip))

def sp54_8 : AC := (.seq (.reg [⟨.inl (.ld false 1), [.t 3], some 9, none, []⟩, ⟨.inl .mov, [.t 0], some 10, none, []⟩, ⟨.inr (.lkM [some .i64] true (.agg [.int .i64 0, .int .i64 0, .nilS])), [.t 9, .t 10], some 11, none, []⟩, ⟨.inl .mov, [.t 11], some 8, none, []⟩, ⟨.inl (.ext 0), [.t 8], some 12, none, []⟩, ⟨.inl (.ext 1), [.t 8], some 13, none, []⟩, ⟨.inr (.alloc false [.int .i64 0, .int .i64 0, .nilS]), [], some 4, none, []⟩, ⟨.inr (.st 3), [.t 4, .t 12], none, none, []⟩, ⟨.inl .mov, [.t 13], some 5, none, []⟩] none)
 (.seq (.reg [⟨.inl .mov, [.t 5], some 14, none, []⟩] none)
 (.cond (.t 14) .ret .skip)))

/-- olivette/prime.prove -/
def af54 : AFunc := ⟨2,
 (.seq (.reg [⟨.inr (.box false), [.t 1], some 3, none, []⟩] none)
 (.seq sp54_8
 (.seq sp54_7
 (.seq (.reg [⟨.inr (.alloc false [.nilS]), [], some 6, none, []⟩] none)
 sq54_6)))),
 []⟩

/-- maps.Keys[map[int]olivette/api.Proof,int,olivette/api.Proof] -/
def af56 : AFunc := ⟨1,
 (.seq (.reg [⟨.inr (.box false), [.t 0], some 1, none, []⟩, ⟨.inl .mov, [.c (.nilF)], some 2, none, []⟩] none)
 (.seq (.reg [⟨.inl (.mkfn 69), [.t 1], some 3, none, []⟩, ⟨.inl .mov, [.t 3], some 2, none, []⟩] none)
 .ret)),
 [.t 2]⟩

def sp57_0 : AC := (.seq (.reg [⟨.inl (.fldA 1), [.t 6], some 42, none, []⟩, ⟨.inl (.ld false 1), [.t 42], some 43, none, []⟩, ⟨.inl (.bin .neq), [.t 43, .c (.int .i64 (1))], some 44, none, []⟩, ⟨.inl .mov, [.t 44], some 45, none, []⟩, ⟨.inl (.fldA 2), [.t 6], some 46, some (45, false), []⟩, ⟨.inl (.ld false 1), [.t 46], some 47, some (45, false), []⟩, ⟨.inl .len, [.t 47], some 48, some (45, false), []⟩, ⟨.inl (.bin .gtr), [.t 48, .c (.int .i64 (0))], some 49, some (45, false), []⟩, ⟨.inl .pick, [.t 45, .c (.bool true), .t 49], some 50, none, []⟩] none)
 (.cond (.t 50) (.seq (.reg [⟨.inl .mov, [.c (.bool false)], some 4, none, []⟩] none)
 .ret) .skip))

def sq57_1 : AC := (.block 5 (.reg [⟨.inl .mov, [.t 7], some 143, none, []⟩, ⟨.inl .mov, [.t 9], some 144, none, []⟩, ⟨.inl (.bin .quo), [.t 143, .t 144], some 145, none, []⟩, ⟨.inl .mov, [.t 145], some 7, none, []⟩] none))

def sp57_2 : AC := (.seq (.reg [⟨.inl .mov, [.t 7], some 139, none, []⟩, ⟨.inl .mov, [.t 9], some 140, none, []⟩, ⟨.inl (.bin .rem), [.t 139, .t 140], some 141, none, []⟩, ⟨.inl (.bin .eql), [.t 141, .c (.int .i64 (0))], some 142, none, []⟩] none)
 (.cond (.t 142) .skip (.exit 4)))

def lb57_3 : AC := (.pre [0, 1, 5, 6, 7, 8, 9] (.seq sp57_2
 sq57_1))

def sp57_4 : AC := (.seq (.reg [⟨.inl .mov, [.t 8], some 98, none, []⟩, ⟨.inl (.bin .gtr), [.t 98, .c (.int .i64 (0))], some 99, none, []⟩, ⟨.inl .mov, [.t 99], some 100, none, []⟩, ⟨.inl (.fldA 2), [.t 6], some 101, some (100, true), []⟩, ⟨.inl (.ld false 1), [.t 101], some 102, some (100, true), []⟩, ⟨.inl .mov, [.t 8], some 103, some (100, true), []⟩, ⟨.inl (.bin .sub), [.t 103, .c (.int .i64 (1))], some 104, some (100, true), []⟩, ⟨.inl (.idxA 1), [.t 102, .t 104], some 105, some (100, true), []⟩, ⟨.inl (.ld false 1), [.t 105], some 106, some (100, true), []⟩, ⟨.inl .mov, [.t 9], some 107, some (100, true), []⟩, ⟨.inl (.bin .geq), [.t 106, .t 107], some 108, some (100, true), []⟩, ⟨.inl .pick, [.t 100, .t 108, .c (.bool false)], some 109, none, []⟩, ⟨.inl .mov, [.t 109], some 110, none, []⟩, ⟨.inl .mov, [.t 1], some 111, some (110, false), []⟩, ⟨.inl .mov, [.t 5], some 112, some (110, false), []⟩, ⟨.inl (.slc 3 false true), [.t 111, .t 112], some 113, some (110, false), []⟩, ⟨.inl .mov, [.t 9], some 114, some (110, false), []⟩, ⟨.inr (.call true true 70), [.t 113, .t 114], some 115, some (110, false), []⟩, ⟨.inl (.un .not), [.t 115], some 116, some (110, false), []⟩, ⟨.inl .pick, [.t 110, .c (.bool true), .t 116], some 117, none, []⟩, ⟨.inl .mov, [.t 117], some 118, none, []⟩, ⟨.inl (.fldA 0), [.t 6], some 119, some (118, false), []⟩, ⟨.inl (.ld false 1), [.t 119], some 120, some (118, false), []⟩, ⟨.inl (.bin .sub), [.t 120, .c (.int .i64 (1))], some 121, some (118, false), []⟩, ⟨.inl .mov, [.t 9], some 122, some (118, false), []⟩, ⟨.inl (.bin .rem), [.t 121, .t 122], some 123, some (118, false), []⟩, ⟨.inl (.bin .neq), [.t 123, .c (.int .i64 (0))], some 124, some (118, false), []⟩, ⟨.inl .pick, [.t 118, .c (.bool true), .t 124], some 125, none, []⟩, ⟨.inl .mov, [.t 125], some 126, none, []⟩, ⟨.inl (.fldA 1), [.t 6], some 127, some (126, false), []⟩, ⟨.inl (.ld false 1), [.t 127], some 128, some (126, false), []⟩, ⟨.inl (.fldA 0), [.t 6], some 129, some (126, false), []⟩, ⟨.inl (.ld false 1), [.t 129], some 130, some (126, false), []⟩, ⟨.inl (.bin .sub), [.t 130, .c (.int .i64 (1))], some 131, some (126, false), []⟩, ⟨.inl .mov, [.t 9], some 132, some (126, false), []⟩, ⟨.inl (.bin .quo), [.t 131, .t 132], some 133, some (126, false), []⟩, ⟨.inl (.fldA 0), [.t 6], some 134, some (126, false), []⟩, ⟨.inl (.ld false 1), [.t 134], some 135, some (126, false), []⟩, ⟨.inr (.call true true 22), [.t 128, .t 133, .t 135], some 136, some (126, false), []⟩, ⟨.inl (.bin .eql), [.t 136, .c (.int .i64 (1))], some 137, some (126, false), []⟩, ⟨.inl .pick, [.t 126, .c (.bool true), .t 137], some 138, none, []⟩] (some ([0, 1, 2, 3, 4, 5, 6, 7, 8, 9, 10, 11, 12, 13, 14, 15, 16, 17, 18, 19, 20, 21, 22, 23, 24, 25, 26, 27, 28, 29, 30, 31, 32, 33, 34, 35, 36, 37, 38, 39, 40], [], [0, 1, 3, 7, 15, 7, 39, 127, 255, 7, 1023, 2047, 4095, 8191, 8191, 32767, 8191, 131071, 262143, 524287, 1048575, 2097151, 4194303, 8388607, 2097151, 33554431, 67108863, 134217727, 268435455, 536870911, 1073741823, 536870911, 2684354559, 6979321855, 536870911, 32749125631, 536870911, 69256347647, 274877906943, 549755813887, 1099511627775])))
 (.cond (.t 138) (.seq (.reg [⟨.inl .mov, [.c (.bool false)], some 4, none, []⟩] none)
 .ret) .skip))

def sq57_5 : AC := (.pre [0, 1, 5, 6, 7, 8] (.reg [⟨.inl .mov, [.t 8], some 91, none, []⟩, ⟨.inl (.bin .add), [.t 91, .c (.int .i64 (1))], some 92, none, []⟩, ⟨.inl .mov, [.t 92], some 8, none, []⟩] none))

def sp57_6 : AC := (.block 3 (.seq (.reg [⟨.inl (.fldA 2), [.t 6], some 93, none, []⟩, ⟨.inl (.ld false 1), [.t 93], some 94, none, []⟩, ⟨.inl .mov, [.t 8], some 95, none, []⟩, ⟨.inl (.idxA 1), [.t 94, .t 95], some 96, none, []⟩, ⟨.inl (.ld false 1), [.t 96], some 97, none, []⟩, ⟨.inl .mov, [.t 97], some 9, none, []⟩] none)
 (.seq sp57_4
 (.block 4 (.loop lb57_3)))))

def sp57_7 : AC := (.seq (.reg [⟨.inl .mov, [.t 8], some 86, none, []⟩, ⟨.inl (.fldA 2), [.t 6], some 87, none, []⟩, ⟨.inl (.ld false 1), [.t 87], some 88, none, []⟩, ⟨.inl .len, [.t 88], some 89, none, []⟩, ⟨.inl (.bin .lss), [.t 86, .t 89], some 90, none, []⟩] none)
 (.cond (.t 90) .skip (.exit 2)))

def lb57_8 : AC := (.pre [0, 1, 5, 6, 7, 8] (.seq sp57_7
 (.seq sp57_6
 sq57_5)))

def sq57_9 : AC := (.pre [0, 1, 5, 7] (.seq (.reg [⟨.inl .mov, [.t 7], some 146, none, []⟩, ⟨.inl (.bin .neq), [.t 146, .c (.int .i64 (1))], some 147, none, []⟩] none)
 (.cond (.t 147) (.seq (.reg [⟨.inl .mov, [.c (.bool false)], some 4, none, []⟩] none)
 .ret) .skip)))

def sq57_10 : AC := (.seq (.reg [⟨.inl (.fldA 0), [.t 6], some 83, none, []⟩, ⟨.inl (.ld false 1), [.t 83], some 84, none, []⟩, ⟨.inl (.bin .sub), [.t 84, .c (.int .i64 (1))], some 85, none, []⟩, ⟨.inl .mov, [.t 85], some 7, none, []⟩] none)
 (.seq (.seq (.reg [⟨.inl .mov, [.c (.int .i64 (0))], some 8, none, []⟩] none)
 (.block 2 (.loop lb57_8)))
 sq57_9))

def sp57_11 : AC := (.seq (.reg [⟨.inl (.fldA 0), [.t 6], some 51, none, []⟩, ⟨.inl (.ld false 1), [.t 51], some 52, none, []⟩, ⟨.inl (.bin .lss), [.t 52, .c (.int .i64 (3))], some 53, none, []⟩, ⟨.inl .mov, [.t 53], some 54, none, []⟩, ⟨.inl (.fldA 0), [.t 6], some 55, some (54, false), []⟩, ⟨.inl (.ld false 1), [.t 55], some 56, some (54, false), []⟩, ⟨.inl (.bin .rem), [.t 56, .c (.int .i64 (2))], some 57, some (54, false), []⟩, ⟨.inl (.bin .eql), [.t 57, .c (.int .i64 (0))], some 58, some (54, false), []⟩, ⟨.inl .pick, [.t 54, .c (.bool true), .t 58], some 59, none, []⟩, ⟨.inl .mov, [.t 59], some 60, none, []⟩, ⟨.inl (.fldA 1), [.t 6], some 61, some (60, false), []⟩, ⟨.inl (.ld false 1), [.t 61], some 62, some (60, false), []⟩, ⟨.inl (.bin .lss), [.t 62, .c (.int .i64 (2))], some 63, some (60, false), []⟩, ⟨.inl .pick, [.t 60, .c (.bool true), .t 63], some 64, none, []⟩, ⟨.inl .mov, [.t 64], some 65, none, []⟩, ⟨.inl (.fldA 1), [.t 6], some 66, some (65, false), []⟩, ⟨.inl (.ld false 1), [.t 66], some 67, some (65, false), []⟩, ⟨.inl (.fldA 0), [.t 6], some 68, some (65, false), []⟩, ⟨.inl (.ld false 1), [.t 68], some 69, some (65, false), []⟩, ⟨.inl (.bin .geq), [.t 67, .t 69], some 70, some (65, false), []⟩, ⟨.inl .pick, [.t 65, .c (.bool true), .t 70], some 71, none, []⟩, ⟨.inl .mov, [.t 71], some 72, none, []⟩, ⟨.inl (.fldA 1), [.t 6], some 73, some (72, false), []⟩, ⟨.inl (.ld false 1), [.t 73], some 74, some (72, false), []⟩, ⟨.inl (.fldA 0), [.t 6], some 75, some (72, false), []⟩, ⟨.inl (.ld false 1), [.t 75], some 76, some (72, false), []⟩, ⟨.inl (.bin .sub), [.t 76, .c (.int .i64 (1))], some 77, some (72, false), []⟩, ⟨.inl (.fldA 0), [.t 6], some 78, some (72, false), []⟩, ⟨.inl (.ld false 1), [.t 78], some 79, some (72, false), []⟩, ⟨.inr (.call true true 22), [.t 74, .t 77, .t 79], some 80, some (72, false), []⟩, ⟨.inl (.bin .neq), [.t 80, .c (.int .i64 (1))], some 81, some (72, false), []⟩, ⟨.inl .pick, [.t 72, .c (.bool true), .t 81], some 82, none, []⟩] none)
 (.cond (.t 82) (.seq (.reg [⟨.inl .mov, [.c (.bool false)], some 4, none, []⟩] none)
 .ret) .skip))

def sp57_12 : AC := (.seq (.reg [⟨.inl (.fldA 0), [.t 6], some 39, none, []⟩, ⟨.inl (.ld false 1), [.t 39], some 40, none, []⟩, ⟨.inl (.bin .eql), [.t 40, .c (.int .i64 (2))], some 41, none, []⟩] none)
 (.cond (.t 41) (.seq sp57_0
 (.exit 1)) .skip))

def sp57_13 : AC := (.seq (.reg [⟨.inl .mov, [.t 5], some 20, none, []⟩, ⟨.inl (.bin .gtr), [.t 20, .c (.int .i64 (0))], some 21, none, []⟩, ⟨.inl .mov, [.t 21], some 22, none, []⟩, ⟨.inl .mov, [.t 1], some 23, some (22, true), []⟩, ⟨.inl .mov, [.t 5], some 24, some (22, true), []⟩, ⟨.inl (.bin .sub), [.t 24, .c (.int .i64 (1))], some 25, some (22, true), []⟩, ⟨.inl (.idxA 3), [.t 23, .t 25], some 26, some (22, true), []⟩, ⟨.inl (.fldA 0), [.t 26], some 27, some (22, true), []⟩, ⟨.inl (.ld false 1), [.t 27], some 28, some (22, true), []⟩, ⟨.inl (.fldA 0), [.t 6], some 29, some (22, true), []⟩, ⟨.inl (.ld false 1), [.t 29], some 30, some (22, true), []⟩, ⟨.inl (.bin .geq), [.t 28, .t 30], some 31, some (22, true), []⟩, ⟨.inl .pick, [.t 22, .t 31, .c (.bool false)], some 32, none, []⟩, ⟨.inl .mov, [.t 32], some 33, none, []⟩, ⟨.inl (.fldA 0), [.t 6], some 34, some (33, false), []⟩, ⟨.inl (.ld false 1), [.t 34], some 35, some (33, false), []⟩, ⟨.inl .mov, [.t 0], some 36, some (33, false), []⟩, ⟨.inl (.bin .gtr), [.t 35, .t 36], some 37, some (33, false), []⟩, ⟨.inl .pick, [.t 33, .c (.bool true), .t 37], some 38, none, []⟩] (some ([0, 1, 2, 3, 4, 5, 6, 7, 8, 9, 10, 11, 12, 13, 14, 15, 16, 17, 18], [], [0, 1, 3, 7, 7, 23, 63, 127, 255, 7, 519, 2047, 4095, 8191, 16383, 32767, 16383, 131071, 262143])))
 (.cond (.t 38) (.seq (.reg [⟨.inl .mov, [.c (.bool false)], some 4, none, []⟩] none)
 .ret) .skip))

def sq57_14 : AC := (.pre [0, 1, 5] (.reg [⟨.inl .mov, [.t 5], some 14, none, []⟩, ⟨.inl (.bin .add), [.t 14, .c (.int .i64 (1))], some 15, none, []⟩, ⟨.inl .mov, [.t 15], some 5, none, []⟩] none))

def sp57_15 : AC := (.block 1 (.seq (.reg [⟨.inl .mov, [.t 1], some 16, none, []⟩, ⟨.inl .mov, [.t 5], some 17, none, []⟩, ⟨.inl (.idxA 3), [.t 16, .t 17], some 18, none, []⟩, ⟨.inl (.ld true 3), [.t 18], some 19, none, []⟩, ⟨.inr (.alloc false [.int .i64 0, .int .i64 0, .nilS]), [], some 6, none, []⟩, ⟨.inr (.st 3), [.t 6, .t 19], none, none, []⟩] none)
 (.seq sp57_13
 (.seq sp57_12
 (.seq sp57_11
 sq57_10)))))

def sp57_16 : AC := (.seq (.reg [⟨.inl .mov, [.t 5], some 10, none, []⟩, ⟨.inl .mov, [.t 1], some 11, none, []⟩, ⟨.inl .len, [.t 11], some 12, none, []⟩, ⟨.inl (.bin .lss), [.t 10, .t 12], some 13, none, []⟩] none)
 (.cond (.t 13) .skip (.exit 0)))

def lb57_17 : AC := (.pre [0, 1, 5] (.seq sp57_16
 (.seq sp57_15
 sq57_14)))

def sq57_18 : AC := (.pre [0, 1] (.seq (.reg [⟨.inl .mov, [.t 1], some 148, none, []⟩, ⟨.inl .len, [.t 148], some 149, none, []⟩, ⟨.inl (.bin .gtr), [.t 149, .c (.int .i64 (0))], some 150, none, []⟩, ⟨.inl .mov, [.t 150], some 151, none, []⟩, ⟨.inl .mov, [.t 1], some 152, some (151, true), []⟩, ⟨.inl .mov, [.t 1], some 153, some (151, true), []⟩, ⟨.inl .len, [.t 153], some 154, some (151, true), []⟩, ⟨.inl (.bin .sub), [.t 154, .c (.int .i64 (1))], some 155, some (151, true), []⟩, ⟨.inl (.idxA 3), [.t 152, .t 155], some 156, some (151, true), []⟩, ⟨.inl (.fldA 0), [.t 156], some 157, some (151, true), []⟩, ⟨.inl (.ld false 1), [.t 157], some 158, some (151, true), []⟩, ⟨.inl .mov, [.t 0], some 159, some (151, true), []⟩, ⟨.inl (.bin .eql), [.t 158, .t 159], some 160, some (151, true), []⟩, ⟨.inl .pick, [.t 151, .t 160, .c (.bool false)], some 161, none, []⟩, ⟨.inl .mov, [.t 161], some 4, none, []⟩] none)
 .ret))

/-- olivette/olivetteref01.IsProof -/
def af57 : AFunc := ⟨2,
 (.seq (.reg [⟨.inl .mov, [.c (.bool false)], some 4, none, []⟩] none)
 (.seq (.seq (.reg [⟨.inl .mov, [.c (.int .i64 (0))], some 5, none, []⟩] none)
 (.block 0 (.loop lb57_17)))
 sq57_18)),
 [.t 4]⟩

def sq58_0 : AC := (.reg [⟨.inl .mov, [.t 5], some 20, none, []⟩, ⟨.inl (.bin .add), [.t 20, .c (.int .i64 (1))], some 21, none, []⟩, ⟨.inl .mov, [.t 21], some 5, none, []⟩] none)

def sq58_1 : AC := (.block 3 (.seq (.reg [⟨.inl .mov, [.t 0], some 17, none, []⟩, ⟨.inl .mov, [.t 4], some 18, none, []⟩, ⟨.inl (.bin .quo), [.t 17, .t 18], some 19, none, []⟩, ⟨.inl .mov, [.t 19], some 0, none, []⟩] none)
 sq58_0))

def sp58_2 : AC := (.seq (.reg [⟨.inl .mov, [.t 0], some 13, none, []⟩, ⟨.inl .mov, [.t 4], some 14, none, []⟩, ⟨.inl (.bin .rem), [.t 13, .t 14], some 15, none, []⟩, ⟨.inl (.bin .eql), [.t 15, .c (.int .i64 (0))], some 16, none, []⟩] none)
 (.cond (.t 16) .skip (.exit 2)))

def lb58_3 : AC := (.pre [0, 1, 4, 5] (.seq sp58_2
 sq58_1))

def st58_4 : AC := (.reg [⟨.inl .mov, [.t 1], some 24, none, []⟩, ⟨.inl .mov, [.t 4], some 25, none, []⟩, ⟨.inl .mov, [.t 5], some 26, none, []⟩, ⟨.inr (.callv false true), [.t 24, .t 25, .t 26], some 27, none, []⟩] none)

def sq58_5 : AC := (.pre [0, 1, 4, 5] (.seq (.reg [⟨.inl .mov, [.t 5], some 22, none, []⟩, ⟨.inl (.bin .gtr), [.t 22, .c (.int .i64 (0))], some 23, none, []⟩] none)
 (.cond (.t 23) st58_4 .skip)))

def sq58_6 : AC := (.pre [0, 1, 4] (.reg [⟨.inl .mov, [.t 4], some 11, none, []⟩, ⟨.inl (.bin .add), [.t 11, .c (.int .i64 (1))], some 12, none, []⟩, ⟨.inl .mov, [.t 12], some 4, none, []⟩] none))

def sp58_7 : AC := (.block 1 (.seq (.reg [⟨.inl .mov, [.c (.int .i64 (0))], some 5, none, []⟩] none)
 (.seq (.block 2 (.loop lb58_3))
 sq58_5)))

def sp58_8 : AC := (.seq (.reg [⟨.inl .mov, [.t 4], some 6, none, []⟩, ⟨.inl .mov, [.t 4], some 7, none, []⟩, ⟨.inl (.bin .mul), [.t 6, .t 7], some 8, none, []⟩, ⟨.inl .mov, [.t 0], some 9, none, []⟩, ⟨.inl (.bin .leq), [.t 8, .t 9], some 10, none, []⟩] none)
 (.cond (.t 10) .skip (.exit 0)))

def lb58_9 : AC := (.pre [0, 1, 4] (.seq sp58_8
 (.seq sp58_7
 sq58_6)))

def st58_10 : AC := (.reg [⟨.inl .mov, [.t 1], some 30, none, []⟩, ⟨.inl .mov, [.t 0], some 31, none, []⟩, ⟨.inr (.callv false true), [.t 30, .t 31, .c (.int .i64 (1))], some 32, none, []⟩] none)

def sq58_11 : AC := (.pre [0, 1] (.seq (.reg [⟨.inl .mov, [.t 0], some 28, none, []⟩, ⟨.inl (.bin .gtr), [.t 28, .c (.int .i64 (1))], some 29, none, []⟩] none)
 (.cond (.t 29) st58_10 .skip)))

/-- olivette/prime.divide -/
def af58 : AFunc := ⟨2,
 (.seq (.seq (.reg [⟨.inl .mov, [.c (.int .i64 (2))], some 4, none, []⟩] none)
 (.block 0 (.loop lb58_9)))
 sq58_11),
 []⟩

/-- olivette/prime.Generator$1 -/
def af59 : AFunc := ⟨3,
 (.reg [⟨.inl (.ld false 1), [.t 2], some 5, none, []⟩, ⟨.inl .mov, [.t 0], some 6, none, []⟩, ⟨.inr (.bldS true true 1 1 [.int .i64 0] [(0, 1)]), [.t 6], some 7, none, []⟩, ⟨.inr (.app false 1 8), [.t 5, .t 7], some 8, none, []⟩, ⟨.inr (.st 1), [.t 2, .t 8], none, none, []⟩] none),
 []⟩

def sq60_0 : AC := (.seq (.reg [⟨.inl .mov, [.t 2], some 13, none, []⟩, ⟨.inl (.mkfn 72), [.t 3, .t 4], some 14, none, []⟩, ⟨.inr (.call true true 71), [.t 13, .t 14], some 15, none, []⟩, ⟨.inl (.un .not), [.t 15], some 16, none, []⟩, ⟨.inl .mov, [.t 16], some 6, none, []⟩] none)
 .ret)

def sp60_1 : AC := (.seq (.reg [⟨.inl (.ld false 1), [.t 3], some 7, none, []⟩, ⟨.inl (.ld false 1), [.t 4], some 8, none, []⟩, ⟨.inl (.bin .sub), [.t 8, .c (.int .i64 (1))], some 9, none, []⟩, ⟨.inl (.ld false 1), [.t 4], some 10, none, []⟩, ⟨.inr (.call true true 47), [.t 7, .t 9, .t 10], some 11, none, []⟩, ⟨.inl (.bin .neq), [.t 11, .c (.int .i64 (1))], some 12, none, []⟩] none)
 (.cond (.t 12) (.seq (.reg [⟨.inl .mov, [.c (.bool false)], some 6, none, []⟩] none)
 .ret) .skip))

/-- olivette/prime.isWitness -/
def af60 : AFunc := ⟨3,
 (.seq (.reg [⟨.inr (.box true), [.t 0], some 3, none, []⟩, ⟨.inr (.box true), [.t 1], some 4, none, []⟩, ⟨.inl .mov, [.c (.bool false)], some 6, none, []⟩] none)
 (.seq sp60_1
 sq60_0)),
 [.t 6]⟩

def sq61_0 : AC := (.reg [⟨.inl .mov, [.t 5], some 28, none, []⟩, ⟨.inl (.fldA 0), [.t 8], some 29, none, []⟩, ⟨.inl (.ld false 1), [.t 29], some 30, none, []⟩, ⟨.inr (.upM [some .i64]), [.t 28, .t 30, .c (.bool true)], none, none, []⟩] none)

def sq61_1 : AC := (.seq (.reg [⟨.inl (.fldA 0), [.t 8], some 26, none, []⟩, ⟨.inl (.ld false 1), [.t 26], some 27, none, []⟩, ⟨.inl .mov, [.t 27], some 6, none, []⟩] none)
 sq61_0)

def sp61_2 : AC := (.seq (.reg [⟨.inl (.fldA 0), [.t 8], some 16, none, []⟩, ⟨.inl (.ld false 1), [.t 16], some 17, none, []⟩, ⟨.inl .mov, [.t 6], some 18, none, []⟩, ⟨.inl (.bin .leq), [.t 17, .t 18], some 19, none, []⟩, ⟨.inl .mov, [.t 19], some 20, none, []⟩, ⟨.inl (.ld true 3), [.t 8], some 21, some (20, false), []⟩, ⟨.inl .mov, [.t 5], some 22, some (20, false), []⟩, ⟨.inr (.call false true 73), [.t 21, .t 22], some 23, some (20, false), []⟩, ⟨.inl (.un .not), [.t 23], some 24, some (20, false), []⟩, ⟨.inl .pick, [.t 20, .c (.bool true), .t 24], some 25, none, []⟩] none)
 (.cond (.t 25) (.seq (.reg [⟨.inl .mov, [.c (.bool false)], some 4, none, []⟩] none)
 .ret) .skip))

def sq61_3 : AC := (.reg [⟨.inl (.bin .add), [.t 12, .c (.int .i64 (1))], some 31, none, []⟩, ⟨.inl .mov, [.t 31], some 12, none, []⟩] none)

def sp61_4 : AC := (.block 1 (.seq (.reg [⟨.inl (.idxA 3), [.t 10, .t 12], some 14, none, []⟩, ⟨.inl (.ld true 3), [.t 14], some 15, none, []⟩, ⟨.inr (.alloc false [.int .i64 0, .int .i64 0, .nilS]), [], some 8, none, []⟩, ⟨.inr (.st 3), [.t 8, .t 15], none, none, []⟩] none)
 (.seq sp61_2
 sq61_1)))

def lb61_5 : AC := (.pre [0, 5, 6, 10, 11, 12] (.seq (.reg [⟨.inl (.bin .lss), [.t 12, .t 11], some 13, none, []⟩] none)
 (.seq (.cond (.t 13) .skip (.exit 0))
 (.seq sp61_4
 sq61_3))))

def sq61_6 : AC := (.pre [0, 6] (.seq (.reg [⟨.inl .mov, [.t 6], some 32, none, []⟩, ⟨.inl .mov, [.t 0], some 33, none, []⟩, ⟨.inl (.bin .eql), [.t 32, .t 33], some 34, none, []⟩, ⟨.inl .mov, [.t 34], some 4, none, []⟩] none)
 .ret))

def sp61_7 : AC := (.seq (.reg [⟨.inl .mov, [.t 1], some 10, none, []⟩, ⟨.inl .len, [.t 10], some 11, none, []⟩, ⟨.inl .mov, [.c (.int .i64 (0))], some 12, none, []⟩] none)
 (.block 0 (.loop lb61_5)))

def sq61_8 : AC := (.seq (.reg [⟨.inr .mkM, [], some 9, none, []⟩, ⟨.inl .mov, [.t 9], some 5, none, []⟩] none)
 (.seq (.reg [⟨.inl .mov, [.c (.int .i64 (0))], some 6, none, []⟩] none)
 (.seq sp61_7
 sq61_6)))

/-- olivette/prime.isProof -/
def af61 : AFunc := ⟨2,
 (.seq (.reg [⟨.inl .mov, [.c (.bool false)], some 4, none, []⟩] none)
 sq61_8),
 [.t 4]⟩

/-- olivette/prime.factor$1 -/
def af62 : AFunc := ⟨3,
 (.reg [⟨.inl (.ld false 1), [.t 2], some 5, none, []⟩, ⟨.inl .mov, [.t 0], some 6, none, []⟩, ⟨.inl .mov, [.t 1], some 7, none, []⟩, ⟨.inl (.bld [.int .i64 0, .int .i64 0] [(0, 1), (1, 1)]), [.t 6, .t 7], some 8, none, []⟩, ⟨.inr (.bldS true true 2 1 [.int .i64 0, .int .i64 0] [(0, 2)]), [.t 8], some 9, none, []⟩, ⟨.inr (.app false 2 16), [.t 5, .t 9], some 10, none, []⟩, ⟨.inr (.st 1), [.t 2, .t 10], none, none, []⟩] none),
 []⟩

def sq63_0 : AC := (.seq (.reg [⟨.inl .mov, [.t 3], some 6, none, []⟩, ⟨.inl .len, [.t 6], some 7, none, []⟩, ⟨.inl (.bin .eql), [.t 7, .c (.int .i64 (1))], some 8, none, []⟩, ⟨.inl .mov, [.t 8], some 9, none, []⟩, ⟨.inl .mov, [.t 3], some 10, some (9, true), []⟩, ⟨.inl (.idxA 2), [.t 10, .c (.int .i64 (0))], some 11, some (9, true), []⟩, ⟨.inl (.fldA 1), [.t 11], some 12, some (9, true), []⟩, ⟨.inl (.ld false 1), [.t 12], some 13, some (9, true), []⟩, ⟨.inl (.bin .eql), [.t 13, .c (.int .i64 (1))], some 14, some (9, true), []⟩, ⟨.inl .pick, [.t 9, .t 14, .c (.bool false)], some 15, none, []⟩, ⟨.inl .mov, [.t 15], some 2, none, []⟩] none)
 .ret)

def sq63_1 : AC := (.seq (.reg [⟨.inl .mov, [.t 0], some 4, none, []⟩, ⟨.inr (.call true true 42), [.t 4], some 5, none, []⟩, ⟨.inl .mov, [.t 5], some 3, none, []⟩] none)
 sq63_0)

/-- olivette/prime.isPrime -/
def af63 : AFunc := ⟨1,
 (.seq (.reg [⟨.inl .mov, [.c (.bool false)], some 2, none, []⟩] none)
 sq63_1),
 [.t 2]⟩

def sq64_0 : AC := (.seq (.reg [⟨.inl .mov, [.t 0], some 5, none, []⟩, ⟨.inl (.mkfn 74), [.t 3], some 6, none, []⟩, ⟨.inr (.call false true 58), [.t 5, .t 6], some 7, none, []⟩] none)
 (.seq (.reg [⟨.inl (.ld false 1), [.t 3], some 8, none, []⟩, ⟨.inl .mov, [.t 8], some 2, none, []⟩] none)
 .ret))

def sq64_1 : AC := (.seq (.reg [⟨.inl .mov, [.t 0], some 4, none, []⟩, ⟨.inr (.alloc true [.int .i64 0]), [], some 3, none, []⟩, ⟨.inr (.st 1), [.t 3, .t 4], none, none, []⟩] none)
 sq64_0)

/-- olivette/prime.totient -/
def af64 : AFunc := ⟨1,
 (.seq (.reg [⟨.inl .mov, [.c (.int .i64 (0))], some 2, none, []⟩] none)
 sq64_1),
 [.t 2]⟩

def sq65_0 : AC := (.reg [⟨.inl .mov, [.t 1], some 20, none, []⟩, ⟨.inl (.bin .sub), [.t 20, .c (.int .i64 (1))], some 21, none, []⟩, ⟨.inl .mov, [.t 21], some 1, none, []⟩] none)

def sp65_1 : AC := (.block 1 (.reg [⟨.inl (.ld false 1), [.t 3], some 22, none, []⟩, ⟨.inl .mov, [.t 0], some 23, none, []⟩, ⟨.inl (.bin .quo), [.t 22, .t 23], some 24, none, []⟩, ⟨.inr (.st 1), [.t 3, .t 24], none, none, []⟩] none))

def sp65_2 : AC := (.seq (.reg [⟨.inl .mov, [.t 1], some 7, none, []⟩, ⟨.inl (.bin .gtr), [.t 7, .c (.int .i64 (0))], some 8, none, []⟩, ⟨.inl .mov, [.t 8], some 9, none, []⟩, ⟨.inl (.ld false 1), [.t 2], some 10, some (9, true), []⟩, ⟨.inl (.ld false 1), [.t 3], some 11, some (9, true), []⟩, ⟨.inl .mov, [.t 0], some 12, some (9, true), []⟩, ⟨.inl (.bin .quo), [.t 11, .t 12], some 13, some (9, true), []⟩, ⟨.inl (.ld false 1), [.t 4], some 14, some (9, true), []⟩, ⟨.inr (.call true true 47), [.t 10, .t 13, .t 14], some 15, some (9, true), []⟩, ⟨.inl (.ld false 1), [.t 4], some 16, some (9, true), []⟩, ⟨.inl (.bin .rem), [.c (.int .i64 (1)), .t 16], some 17, some (9, true), []⟩, ⟨.inl (.bin .eql), [.t 15, .t 17], some 18, some (9, true), []⟩, ⟨.inl .pick, [.t 9, .t 18, .c (.bool false)], some 19, none, []⟩] (some ([0, 1, 2, 3, 4, 5, 6, 7, 8, 9, 10, 11, 12], [], [0, 1, 3, 7, 7, 7, 55, 7, 255, 7, 519, 2047, 4095])))
 (.cond (.t 19) .skip (.exit 0)))

def lb65_3 : AC := (.pre [0, 1, 2, 3, 4] (.seq sp65_2
 (.seq sp65_1
 sq65_0)))

/-- olivette/prime.order$1 -/
def af65 : AFunc := ⟨5,
 (.block 0 (.loop lb65_3)),
 []⟩

def sq66_0 : AC := (.reg [⟨.inl .mov, [.t 0], some 10, none, []⟩, ⟨.inl (.ld false 1), [.t 3], some 11, none, []⟩, ⟨.inr (.call false true 54), [.t 10, .t 11], some 12, none, []⟩] none)

/-- olivette/prime.prove$1 -/
def af66 : AFunc := ⟨4,
 (.seq (.reg [⟨.inl (.ld false 1), [.t 2], some 6, none, []⟩, ⟨.inl .mov, [.t 0], some 7, none, []⟩, ⟨.inr (.bldS true true 1 1 [.int .i64 0] [(0, 1)]), [.t 7], some 8, none, []⟩, ⟨.inr (.app false 1 8), [.t 6, .t 8], some 9, none, []⟩, ⟨.inr (.st 1), [.t 2, .t 9], none, none, []⟩] none)
 sq66_0),
 []⟩

def sq70_0 : AC := (.reg [⟨.inl .mov, [.t 5], some 10, none, []⟩, ⟨.inl (.bin .add), [.t 10, .c (.int .i64 (1))], some 11, none, []⟩, ⟨.inl .mov, [.t 11], some 5, none, []⟩] none)

def sp70_1 : AC := (.block 1 (.seq (.reg [⟨.inl .mov, [.t 0], some 12, none, []⟩, ⟨.inl .mov, [.t 5], some 13, none, []⟩, ⟨.inl (.idxA 3), [.t 12, .t 13], some 14, none, []⟩, ⟨.inl (.fldA 0), [.t 14], some 15, none, []⟩, ⟨.inl (.ld false 1), [.t 15], some 16, none, []⟩, ⟨.inl .mov, [.t 1], some 17, none, []⟩, ⟨.inl (.bin .eql), [.t 16, .t 17], some 18, none, []⟩] none)
 (.cond (.t 18) (.seq (.reg [⟨.inl .mov, [.c (.bool true)], some 4, none, []⟩] none)
 .ret) .skip)))

def sp70_2 : AC := (.seq (.reg [⟨.inl .mov, [.t 5], some 6, none, []⟩, ⟨.inl .mov, [.t 0], some 7, none, []⟩, ⟨.inl .len, [.t 7], some 8, none, []⟩, ⟨.inl (.bin .lss), [.t 6, .t 8], some 9, none, []⟩] none)
 (.cond (.t 9) .skip (.exit 0)))

def lb70_3 : AC := (.pre [0, 1, 5] (.seq sp70_2
 (.seq sp70_1
 sq70_0)))

def sq70_4 : AC := (.seq (.seq (.reg [⟨.inl .mov, [.c (.int .i64 (0))], some 5, none, []⟩] none)
 (.block 0 (.loop lb70_3)))
 (.pre [] (.seq (.reg [⟨.inl .mov, [.c (.bool false)], some 4, none, []⟩] none)
 .ret)))

/-- olivette/olivetteref01.earlier -/
def af70 : AFunc := ⟨2,
 (.seq (.reg [⟨.inl .mov, [.c (.bool false)], some 4, none, []⟩] none)
 sq70_4),
 [.t 4]⟩

def sq71_0 : AC := (.seq (.reg [⟨.inl .mov, [.t 0], some 5, none, []⟩, ⟨.inl .mov, [.t 1], some 6, none, []⟩, ⟨.inr (.call true true 78), [.t 5, .t 6], some 7, none, []⟩, ⟨.inl (.bin .geq), [.t 7, .c (.int .i64 (0))], some 8, none, []⟩, ⟨.inl .mov, [.t 8], some 4, none, []⟩] none)
 .ret)

/-- slices.ContainsFunc[[]int,int] -/
def af71 : AFunc := ⟨2,
 (.seq (.reg [⟨.inl .mov, [.c (.bool false)], some 4, none, []⟩] none)
 sq71_0),
 [.t 4]⟩

def sq72_0 : AC := (.seq (.reg [⟨.inl (.ld false 1), [.t 1], some 5, none, []⟩, ⟨.inl (.ld false 1), [.t 2], some 6, none, []⟩, ⟨.inl (.bin .sub), [.t 6, .c (.int .i64 (1))], some 7, none, []⟩, ⟨.inl .mov, [.t 0], some 8, none, []⟩, ⟨.inl (.bin .quo), [.t 7, .t 8], some 9, none, []⟩, ⟨.inl (.ld false 1), [.t 2], some 10, none, []⟩, ⟨.inr (.call true true 47), [.t 5, .t 9, .t 10], some 11, none, []⟩, ⟨.inl (.bin .eql), [.t 11, .c (.int .i64 (1))], some 12, none, []⟩, ⟨.inl .mov, [.t 12], some 4, none, []⟩] (some ([0, 1, 2, 3, 4, 5, 6, 7, 8], [], [0, 0, 2, 0, 14, 0, 63, 127, 255])))
 .ret)

/-- olivette/prime.isWitness$1 -/
def af72 : AFunc := ⟨3,
 (.seq (.reg [⟨.inl .mov, [.c (.bool false)], some 4, none, []⟩] none)
 sq72_0),
 [.t 4]⟩

def st73_0 : AC := (.seq (.reg [⟨.inl (.fldA 1), [.t 2], some 11, none, []⟩, ⟨.inl (.ld false 1), [.t 11], some 12, none, []⟩, ⟨.inl (.bin .eql), [.t 12, .c (.int .i64 (1))], some 13, none, []⟩, ⟨.inl .mov, [.t 13], some 14, none, []⟩, ⟨.inl (.fldA 2), [.t 2], some 15, some (14, true), []⟩, ⟨.inl (.ld false 1), [.t 15], some 16, some (14, true), []⟩, ⟨.inl .len, [.t 16], some 17, some (14, true), []⟩, ⟨.inl (.bin .eql), [.t 17, .c (.int .i64 (0))], some 18, some (14, true), []⟩, ⟨.inl .pick, [.t 14, .t 18, .c (.bool false)], some 19, none, []⟩, ⟨.inl .mov, [.t 19], some 4, none, []⟩] none)
 .ret)

def sq73_1 : AC := (.block 3 (.reg [⟨.inl .mov, [.t 5], some 86, none, []⟩, ⟨.inl .mov, [.t 7], some 87, none, []⟩, ⟨.inl (.bin .quo), [.t 86, .t 87], some 88, none, []⟩, ⟨.inl .mov, [.t 88], some 5, none, []⟩] none))

def sp73_2 : AC := (.seq (.reg [⟨.inl .mov, [.t 5], some 82, none, []⟩, ⟨.inl .mov, [.t 7], some 83, none, []⟩, ⟨.inl (.bin .rem), [.t 82, .t 83], some 84, none, []⟩, ⟨.inl (.bin .eql), [.t 84, .c (.int .i64 (0))], some 85, none, []⟩] none)
 (.cond (.t 85) .skip (.exit 2)))

def lb73_3 : AC := (.pre [1, 2, 5, 7, 51, 52, 53] (.seq sp73_2
 sq73_1))

def sp73_4 : AC := (.seq (.reg [⟨.inl .mov, [.t 1], some 58, none, []⟩, ⟨.inl .mov, [.t 7], some 59, none, []⟩, ⟨.inr (.lkM [some .i64] false (.bool false)), [.t 58, .t 59], some 60, none, []⟩, ⟨.inl (.un .not), [.t 60], some 61, none, []⟩, ⟨.inl .mov, [.t 61], some 62, none, []⟩, ⟨.inl .mov, [.t 6], some 63, some (62, false), []⟩, ⟨.inl (.bin .gtr), [.t 63, .c (.int .i64 (0))], some 64, some (62, false), []⟩, ⟨.inl .mov, [.t 64], some 65, some (62, false), []⟩, ⟨.inl (.fldA 2), [.t 2], some 66, some (65, true), []⟩, ⟨.inl (.ld false 1), [.t 66], some 67, some (65, true), []⟩, ⟨.inl .mov, [.t 6], some 68, some (65, true), []⟩, ⟨.inl (.bin .sub), [.t 68, .c (.int .i64 (1))], some 69, some (65, true), []⟩, ⟨.inl (.idxA 1), [.t 67, .t 69], some 70, some (65, true), []⟩, ⟨.inl (.ld false 1), [.t 70], some 71, some (65, true), []⟩, ⟨.inl .mov, [.t 7], some 72, some (65, true), []⟩, ⟨.inl (.bin .geq), [.t 71, .t 72], some 73, some (65, true), []⟩, ⟨.inl .pick, [.t 65, .t 73, .c (.bool false)], some 74, some (62, false), []⟩, ⟨.inl .pick, [.t 62, .c (.bool true), .t 74], some 75, none, []⟩, ⟨.inl .mov, [.t 75], some 76, none, []⟩, ⟨.inl .mov, [.t 5], some 77, some (76, false), []⟩, ⟨.inl .mov, [.t 7], some 78, some (76, false), []⟩, ⟨.inl (.bin .rem), [.t 77, .t 78], some 79, some (76, false), []⟩, ⟨.inl (.bin .neq), [.t 79, .c (.int .i64 (0))], some 80, some (76, false), []⟩, ⟨.inl .pick, [.t 76, .c (.bool true), .t 80], some 81, none, []⟩] none)
 (.cond (.t 81) (.seq (.reg [⟨.inl .mov, [.c (.bool false)], some 4, none, []⟩] none)
 .ret) .skip))

def sq73_5 : AC := (.pre [1, 2, 5, 51, 52, 53] (.reg [⟨.inl (.bin .add), [.t 53, .c (.int .i64 (1))], some 89, none, []⟩, ⟨.inl .mov, [.t 89], some 53, none, []⟩] none))

def sp73_6 : AC := (.block 1 (.seq (.reg [⟨.inl .mov, [.t 53], some 55, none, []⟩, ⟨.inl (.idxA 1), [.t 51, .t 53], some 56, none, []⟩, ⟨.inl (.ld false 1), [.t 56], some 57, none, []⟩, ⟨.inl .mov, [.t 55], some 6, none, []⟩, ⟨.inl .mov, [.t 57], some 7, none, []⟩] none)
 (.seq sp73_4
 (.block 2 (.loop lb73_3)))))

def lb73_7 : AC := (.pre [1, 2, 5, 51, 52, 53] (.seq (.reg [⟨.inl (.bin .lss), [.t 53, .t 52], some 54, none, []⟩] none)
 (.seq (.cond (.t 54) .skip (.exit 0))
 (.seq sp73_6
 sq73_5))))

def sq73_8 : AC := (.pre [2, 5] (.seq (.reg [⟨.inl .mov, [.t 5], some 90, none, []⟩, ⟨.inl (.bin .eql), [.t 90, .c (.int .i64 (1))], some 91, none, []⟩, ⟨.inl .mov, [.t 91], some 92, none, []⟩, ⟨.inl (.fldA 1), [.t 2], some 93, some (92, true), []⟩, ⟨.inl (.ld false 1), [.t 93], some 94, some (92, true), []⟩, ⟨.inl (.fldA 0), [.t 2], some 95, some (92, true), []⟩, ⟨.inl (.ld false 1), [.t 95], some 96, some (92, true), []⟩, ⟨.inl (.fldA 2), [.t 2], some 97, some (92, true), []⟩, ⟨.inl (.ld false 1), [.t 97], some 98, some (92, true), []⟩, ⟨.inr (.call true true 60), [.t 94, .t 96, .t 98], some 99, some (92, true), []⟩, ⟨.inl .pick, [.t 92, .t 99, .c (.bool false)], some 100, none, []⟩, ⟨.inl .mov, [.t 100], some 4, none, []⟩] none)
 .ret))

def sp73_9 : AC := (.seq (.reg [⟨.inl (.fldA 2), [.t 2], some 50, none, []⟩, ⟨.inl (.ld false 1), [.t 50], some 51, none, []⟩, ⟨.inl .len, [.t 51], some 52, none, []⟩, ⟨.inl .mov, [.c (.int .i64 (0))], some 53, none, []⟩] none)
 (.block 0 (.loop lb73_7)))

def sq73_10 : AC := (.seq (.reg [⟨.inl (.fldA 0), [.t 2], some 47, none, []⟩, ⟨.inl (.ld false 1), [.t 47], some 48, none, []⟩, ⟨.inl (.bin .sub), [.t 48, .c (.int .i64 (1))], some 49, none, []⟩, ⟨.inl .mov, [.t 49], some 5, none, []⟩] none)
 (.seq sp73_9
 sq73_8))

def sp73_11 : AC := (.seq (.reg [⟨.inl (.fldA 0), [.t 2], some 20, none, []⟩, ⟨.inl (.ld false 1), [.t 20], some 21, none, []⟩, ⟨.inl (.bin .lss), [.t 21, .c (.int .i64 (3))], some 22, none, []⟩, ⟨.inl .mov, [.t 22], some 23, none, []⟩, ⟨.inl (.fldA 0), [.t 2], some 24, some (23, false), []⟩, ⟨.inl (.ld false 1), [.t 24], some 25, some (23, false), []⟩, ⟨.inl (.bin .rem), [.t 25, .c (.int .i64 (2))], some 26, some (23, false), []⟩, ⟨.inl (.bin .eql), [.t 26, .c (.int .i64 (0))], some 27, some (23, false), []⟩, ⟨.inl .pick, [.t 23, .c (.bool true), .t 27], some 28, none, []⟩, ⟨.inl .mov, [.t 28], some 29, none, []⟩, ⟨.inl (.fldA 0), [.t 2], some 30, some (29, false), []⟩, ⟨.inl (.ld false 1), [.t 30], some 31, some (29, false), []⟩, ⟨.inr (.call true true 41), [.t 31], some 32, some (29, false), []⟩, ⟨.inl (.un .not), [.t 32], some 33, some (29, false), []⟩, ⟨.inl .pick, [.t 29, .c (.bool true), .t 33], some 34, none, []⟩, ⟨.inl .mov, [.t 34], some 35, none, []⟩, ⟨.inl (.fldA 1), [.t 2], some 36, some (35, false), []⟩, ⟨.inl (.ld false 1), [.t 36], some 37, some (35, false), []⟩, ⟨.inl (.bin .lss), [.t 37, .c (.int .i64 (2))], some 38, some (35, false), []⟩, ⟨.inl .pick, [.t 35, .c (.bool true), .t 38], some 39, none, []⟩, ⟨.inl .mov, [.t 39], some 40, none, []⟩, ⟨.inl (.fldA 1), [.t 2], some 41, some (40, false), []⟩, ⟨.inl (.ld false 1), [.t 41], some 42, some (40, false), []⟩, ⟨.inl (.fldA 0), [.t 2], some 43, some (40, false), []⟩, ⟨.inl (.ld false 1), [.t 43], some 44, some (40, false), []⟩, ⟨.inl (.bin .geq), [.t 42, .t 44], some 45, some (40, false), []⟩, ⟨.inl .pick, [.t 40, .c (.bool true), .t 45], some 46, none, []⟩] none)
 (.cond (.t 46) (.seq (.reg [⟨.inl .mov, [.c (.bool false)], some 4, none, []⟩] none)
 .ret) .skip))

def sp73_12 : AC := (.seq (.reg [⟨.inl (.fldA 0), [.t 2], some 8, none, []⟩, ⟨.inl (.ld false 1), [.t 8], some 9, none, []⟩, ⟨.inl (.bin .eql), [.t 9, .c (.int .i64 (2))], some 10, none, []⟩] none)
 (.cond (.t 10) st73_0 .skip))

/-- olivette/prime.isEntry -/
def af73 : AFunc := ⟨2,
 (.seq (.reg [⟨.inr (.box false), [.t 0], some 2, none, []⟩, ⟨.inl .mov, [.c (.bool false)], some 4, none, []⟩] none)
 (.seq sp73_12
 (.seq sp73_11
 sq73_10))),
 [.t 4]⟩

/-- olivette/prime.totient$1 -/
def af74 : AFunc := ⟨3,
 (.reg [⟨.inl (.ld false 1), [.t 2], some 5, none, []⟩, ⟨.inl .mov, [.t 0], some 6, none, []⟩, ⟨.inl (.bin .quo), [.t 5, .t 6], some 7, none, []⟩, ⟨.inl .mov, [.t 0], some 8, none, []⟩, ⟨.inl (.bin .sub), [.t 8, .c (.int .i64 (1))], some 9, none, []⟩, ⟨.inl (.bin .mul), [.t 7, .t 9], some 10, none, []⟩, ⟨.inr (.st 1), [.t 2, .t 10], none, none, []⟩] none),
 []⟩

def sq78_0 : AC := (.cond (.t 16) (.seq (.reg [⟨.inl .mov, [.t 5], some 17, none, []⟩, ⟨.inl .mov, [.t 17], some 4, none, []⟩] none)
 .ret) .skip)

def sq78_1 : AC := (.seq (.reg [⟨.inl .mov, [.t 1], some 11, none, []⟩, ⟨.inl .mov, [.t 0], some 12, none, []⟩, ⟨.inl .mov, [.t 5], some 13, none, []⟩, ⟨.inl (.idxA 1), [.t 12, .t 13], some 14, none, []⟩, ⟨.inl (.ld false 1), [.t 14], some 15, none, []⟩, ⟨.inr (.callv true true), [.t 11, .t 15], some 16, none, []⟩] none)
 sq78_0)

def sq78_2 : AC := (.seq (.block 1 (.seq (.reg [⟨.inl .mov, [.t 8], some 10, none, []⟩, ⟨.inl .mov, [.t 10], some 5, none, []⟩] none)
 sq78_1))
 (.reg [⟨.inl (.bin .add), [.t 8, .c (.int .i64 (1))], some 18, none, []⟩, ⟨.inl .mov, [.t 18], some 8, none, []⟩] none))

def lb78_3 : AC := (.pre [0, 1, 7, 8] (.seq (.reg [⟨.inl (.bin .lss), [.t 8, .t 7], some 9, none, []⟩] none)
 (.seq (.cond (.t 9) .skip (.exit 0))
 sq78_2)))

def sp78_4 : AC := (.seq (.reg [⟨.inl .mov, [.t 0], some 6, none, []⟩, ⟨.inl .len, [.t 6], some 7, none, []⟩, ⟨.inl .mov, [.c (.int .i64 (0))], some 8, none, []⟩] none)
 (.block 0 (.loop lb78_3)))

/-- slices.IndexFunc[[]int,int] -/
def af78 : AFunc := ⟨2,
 (.seq (.reg [⟨.inl .mov, [.c (.int .i64 (0))], some 4, none, []⟩] none)
 (.seq sp78_4
 (.pre [] (.seq (.reg [⟨.inl .mov, [.c (.int .i64 (-1))], some 4, none, []⟩] none)
 .ret)))),
 [.t 4]⟩


def tab : Nat → Option AFunc
  | 3 => some af3
  | 6 => some af6
  | 10 => some af10
  | 13 => some af13
  | 14 => some af14
  | 15 => some af15
  | 16 => some af16
  | 17 => some af17
  | 18 => some af18
  | 19 => some af19
  | 20 => some af20
  | 21 => some af21
  | 22 => some af22
  | 23 => some af23
  | 24 => some af24
  | 25 => some af25
  | 26 => some af26
  | 27 => some af27
  | 28 => some af28
  | 29 => some af29
  | 30 => some af30
  | 31 => some af31
  | 32 => some af32
  | 33 => some af33
  | 34 => some af34
  | 35 => some af35
  | 36 => some af36
  | 37 => some af37
  | 38 => some af38
  | 39 => some af39
  | 40 => some af40
  | 41 => some af41
  | 42 => some af42
  | 43 => some af43
  | 44 => some af44
  | 45 => some af45
  | 46 => some af46
  | 47 => some af47
  | 48 => some af48
  | 49 => some af49
  | 50 => some af50
  | 51 => some af51
  | 52 => some af52
  | 53 => some af53
  | 54 => some af54
  | 56 => some af56
  | 57 => some af57
  | 58 => some af58
  | 59 => some af59
  | 60 => some af60
  | 61 => some af61
  | 62 => some af62
  | 63 => some af63
  | 64 => some af64
  | 65 => some af65
  | 66 => some af66
  | 70 => some af70
  | 71 => some af71
  | 72 => some af72
  | 73 => some af73
  | 74 => some af74
  | 78 => some af78
  | _ => none
def tabI : Nat → Option AFunc
  | _ => none
def types : List (Nat × TS) := [
  (3, ⟨.int .i64, 1, 8, [.int .i64 0]⟩),
  (4, ⟨.bool, 1, 1, [.bool false]⟩),
  (22, ⟨.slice 30, 1, 24, [.nilS]⟩),
  (30, ⟨.struct [(0, 3), (1, 3)], 2, 16, [.int .i64 0, .int .i64 0]⟩),
  (38, ⟨.slice 3, 1, 24, [.nilS]⟩),
  (45, ⟨.slice 51, 1, 24, [.nilS]⟩),
  (47, ⟨.struct [(0, 3), (1, 45)], 2, 32, [.int .i64 0, .nilS]⟩),
  (51, ⟨.struct [(0, 3), (1, 3), (2, 38)], 3, 40, [.int .i64 0, .int .i64 0, .nilS]⟩),
  (61, ⟨.map 3 3, 1, 8, [.nilM]⟩),
  (64, ⟨.int .u64, 1, 8, [.int .u64 0]⟩),
  (68, ⟨.int .u64, 1, 8, [.int .u64 0]⟩),
  (69, ⟨.map 3 51, 1, 8, [.nilM]⟩),
  (83, ⟨.map 3 4, 1, 8, [.nilM]⟩)
]
end Go.AM.Pr
