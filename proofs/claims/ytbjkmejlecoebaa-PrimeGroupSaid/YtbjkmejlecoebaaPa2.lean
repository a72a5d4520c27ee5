/- The functions as the abstract machine has them. -/
import Derived.Test.YtbjkmejlecoebaaPa1
namespace Go.AM.Pr
def sp25_7 : AC := (.seq (.reg [⟨.inl .mov, [.t 9], some 40, none, []⟩, ⟨.inl .mov, [.t 1], some 41, none, []⟩, ⟨.inl .mov, [.t 8], some 42, none, []⟩, ⟨.inl (.idxA 1), [.t 41, .t 42], some 43, none, []⟩, ⟨.inl (.ld false 1), [.t 43], some 44, none, []⟩, ⟨.inr (.call true true 49), [.t 40, .t 44], some 45, none, []⟩, ⟨.inl (.un .not), [.t 45], some 46, none, []⟩] none)
 (.cond (.t 46) st25_1 .skip))

def sq25_8 : AC := (.reg [⟨.inl (.bin .add), [.t 35, .c (.int .i64 (1))], some 77, none, []⟩, ⟨.inl .mov, [.t 77], some 35, none, []⟩] none)

def sp25_9 : AC := (.block 1 (.seq (.reg [⟨.inl .mov, [.t 35], some 37, none, []⟩, ⟨.inl (.idxA 1), [.t 33, .t 35], some 38, none, []⟩, ⟨.inl (.ld false 1), [.t 38], some 39, none, []⟩, ⟨.inl .mov, [.t 37], some 8, none, []⟩, ⟨.inl .mov, [.t 39], some 9, none, []⟩] none)
 (.seq sp25_7
 sq25_6)))

def lb25_10 : AC := (.pre [0, 1, 7, 33, 34, 35] (.seq (.reg [⟨.inl (.bin .lss), [.t 35, .t 34], some 36, none, []⟩] none)
 (.seq (.cond (.t 36) .skip (.exit 0))
 (.seq sp25_9
 sq25_8))))

def st25_11 : AC := (.seq (.reg [⟨.inl .mov, [.c (.int .i64 (0))], some 4, none, []⟩, ⟨.inl .mov, [.c (.int .i64 (0))], some 5, none, []⟩, ⟨.inl .mov, [.c (.int .i64 (6))], some 6, none, []⟩] none)
 .ret)

def sq25_12 : AC := (.reg [⟨.inl .mov, [.t 15], some 146, none, []⟩, ⟨.inl .mov, [.t 20], some 147, none, []⟩, ⟨.inl (.bin .mul), [.t 146, .t 147], some 148, none, []⟩, ⟨.inl .mov, [.t 148], some 15, none, []⟩] none)

def sq25_13 : AC := (.seq (.reg [⟨.inl .mov, [.t 14], some 141, none, []⟩, ⟨.inl .mov, [.t 15], some 142, none, []⟩, ⟨.inl .mov, [.t 22], some 143, none, []⟩, ⟨.inl (.bin .mul), [.t 142, .t 143], some 144, none, []⟩, ⟨.inl (.bin .add), [.t 141, .t 144], some 145, none, []⟩, ⟨.inl .mov, [.t 145], some 14, none, []⟩] none)
 sq25_12)

def sq25_14 : AC := (.seq (.reg [⟨.inl .mov, [.t 21], some 127, none, []⟩, ⟨.inl .mov, [.t 18], some 128, none, []⟩, ⟨.inl (.bin .quo), [.t 127, .t 128], some 129, none, []⟩, ⟨.inl .mov, [.t 20], some 130, none, []⟩, ⟨.inl (.bin .rem), [.t 129, .t 130], some 131, none, []⟩, ⟨.inl .mov, [.t 19], some 132, none, []⟩, ⟨.inl .mov, [.t 20], some 133, none, []⟩, ⟨.inl (.bin .rem), [.t 132, .t 133], some 134, none, []⟩, ⟨.inl .mov, [.t 20], some 135, none, []⟩, ⟨.inl (.bin .add), [.t 134, .t 135], some 136, none, []⟩, ⟨.inl .mov, [.t 20], some 137, none, []⟩, ⟨.inl (.bin .rem), [.t 136, .t 137], some 138, none, []⟩, ⟨.inl .mov, [.t 20], some 139, none, []⟩, ⟨.inr (.call true true 46), [.t 131, .t 138, .t 139], some 140, none, []⟩, ⟨.inl .mov, [.t 140], some 22, none, []⟩] (some ([0, 1, 2, 3, 4, 5, 6, 7, 8, 9, 10, 11, 12, 13, 14], [], [0, 0, 3, 0, 15, 0, 0, 96, 0, 480, 0, 2016, 0, 8191, 16383])))
 sq25_13)

def sp25_15 : AC := (.seq (.reg [⟨.inl .mov, [.t 21], some 123, none, []⟩, ⟨.inl .mov, [.t 18], some 124, none, []⟩, ⟨.inl (.bin .rem), [.t 123, .t 124], some 125, none, []⟩, ⟨.inl (.bin .neq), [.t 125, .c (.int .i64 (0))], some 126, none, []⟩] none)
 (.cond (.t 126) st25_11 .skip))

def sq25_16 : AC := (.seq (.reg [⟨.inl .mov, [.t 17], some 105, none, []⟩, ⟨.inl .mov, [.t 14], some 106, none, []⟩, ⟨.inl (.bin .sub), [.t 105, .t 106], some 107, none, []⟩, ⟨.inl .mov, [.t 1], some 108, none, []⟩, ⟨.inl .mov, [.t 16], some 109, none, []⟩, ⟨.inl (.idxA 1), [.t 108, .t 109], some 110, none, []⟩, ⟨.inl (.ld false 1), [.t 110], some 111, none, []⟩, ⟨.inl (.bin .rem), [.t 107, .t 111], some 112, none, []⟩, ⟨.inl .mov, [.t 1], some 113, none, []⟩, ⟨.inl .mov, [.t 16], some 114, none, []⟩, ⟨.inl (.idxA 1), [.t 113, .t 114], some 115, none, []⟩, ⟨.inl (.ld false 1), [.t 115], some 116, none, []⟩, ⟨.inl (.bin .add), [.t 112, .t 116], some 117, none, []⟩, ⟨.inl .mov, [.t 1], some 118, none, []⟩, ⟨.inl .mov, [.t 16], some 119, none, []⟩, ⟨.inl (.idxA 1), [.t 118, .t 119], some 120, none, []⟩, ⟨.inl (.ld false 1), [.t 120], some 121, none, []⟩, ⟨.inl (.bin .rem), [.t 117, .t 121], some 122, none, []⟩, ⟨.inl .mov, [.t 122], some 21, none, []⟩] (some ([0, 1, 2, 3, 4, 5, 6, 7, 8, 9, 10, 11, 12, 13, 14, 15, 16, 17, 18], [], [0, 0, 3, 0, 0, 24, 56, 127, 0, 0, 768, 1792, 4095, 0, 0, 24576, 57344, 131071, 262143])))
 (.seq sp25_15
 sq25_14))

def sq25_17 : AC := (.seq (.reg [⟨.inl .mov, [.t 1], some 99, none, []⟩, ⟨.inl .mov, [.t 16], some 100, none, []⟩, ⟨.inl (.idxA 1), [.t 99, .t 100], some 101, none, []⟩, ⟨.inl (.ld false 1), [.t 101], some 102, none, []⟩, ⟨.inl .mov, [.t 18], some 103, none, []⟩, ⟨.inl (.bin .quo), [.t 102, .t 103], some 104, none, []⟩, ⟨.inl .mov, [.t 104], some 20, none, []⟩] none)
 sq25_16)

def sq25_18 : AC := (.seq (.reg [⟨.inl .mov, [.t 15], some 86, none, []⟩, ⟨.inl .mov, [.t 1], some 87, none, []⟩, ⟨.inl .mov, [.t 16], some 88, none, []⟩, ⟨.inl (.idxA 1), [.t 87, .t 88], some 89, none, []⟩, ⟨.inl (.ld false 1), [.t 89], some 90, none, []⟩, ⟨.inl (.bin .rem), [.t 86, .t 90], some 91, none, []⟩, ⟨.inl .mov, [.t 1], some 92, none, []⟩, ⟨.inl .mov, [.t 16], some 93, none, []⟩, ⟨.inl (.idxA 1), [.t 92, .t 93], some 94, none, []⟩, ⟨.inl (.ld false 1), [.t 94], some 95, none, []⟩, ⟨.inr (.call true true 50), [.t 91, .t 95], some 96, none, []⟩, ⟨.inl .mov, [.t 96], some 85, none, []⟩, ⟨.inl (.ext 0), [.t 85], some 97, none, []⟩, ⟨.inl (.ext 1), [.t 85], some 98, none, []⟩, ⟨.inl .mov, [.t 97], some 18, none, []⟩, ⟨.inl .mov, [.t 98], some 19, none, []⟩] (some ([0, 1, 2, 3, 4, 5, 6, 7, 8, 9, 10, 11, 12, 13, 14, 15], [], [0, 0, 0, 6, 14, 31, 0, 0, 192, 448, 1023, 2047, 4095, 4095, 8191, 32767])))
 sq25_17)

def sq25_19 : AC := (.reg [⟨.inl (.bin .add), [.t 80, .c (.int .i64 (1))], some 149, none, []⟩, ⟨.inl .mov, [.t 149], some 80, none, []⟩] none)

def sp25_20 : AC := (.block 3 (.seq (.reg [⟨.inl .mov, [.t 80], some 82, none, []⟩, ⟨.inl (.idxA 1), [.t 78, .t 80], some 83, none, []⟩, ⟨.inl (.ld false 1), [.t 83], some 84, none, []⟩, ⟨.inl .mov, [.t 82], some 16, none, []⟩, ⟨.inl .mov, [.t 84], some 17, none, []⟩] none)
 sq25_18))

def lb25_21 : AC := (.pre [1, 7, 14, 15, 78, 79, 80] (.seq (.reg [⟨.inl (.bin .lss), [.t 80, .t 79], some 81, none, []⟩] none)
 (.seq (.cond (.t 81) .skip (.exit 2))
 (.seq sp25_20
 sq25_19))))

def sq25_22 : AC := (.pre [7, 14] (.seq (.reg [⟨.inl .mov, [.t 14], some 150, none, []⟩, ⟨.inl .mov, [.t 7], some 151, none, []⟩, ⟨.inl .mov, [.t 150], some 4, none, []⟩, ⟨.inl .mov, [.t 151], some 5, none, []⟩, ⟨.inl .mov, [.c (.int .i64 (0))], some 6, none, []⟩] none)
 .ret))

def sp25_23 : AC := (.seq (.reg [⟨.inl .mov, [.t 0], some 78, none, []⟩, ⟨.inl .len, [.t 78], some 79, none, []⟩, ⟨.inl .mov, [.c (.int .i64 (0))], some 80, none, []⟩] none)
 (.block 2 (.loop lb25_21)))

def sq25_24 : AC := (.pre [0, 1, 7] (.seq (.reg [⟨.inl .mov, [.c (.int .i64 (0))], some 14, none, []⟩, ⟨.inl .mov, [.c (.int .i64 (1))], some 15, none, []⟩] none)
 (.seq sp25_23
 sq25_22)))

def sp25_25 : AC := (.seq (.reg [⟨.inl .mov, [.t 0], some 33, none, []⟩, ⟨.inl .len, [.t 33], some 34, none, []⟩, ⟨.inl .mov, [.c (.int .i64 (0))], some 35, none, []⟩] none)
 (.block 0 (.loop lb25_10)))

def sp25_26 : AC := (.seq (.reg [⟨.inl .mov, [.t 0], some 23, none, []⟩, ⟨.inl .len, [.t 23], some 24, none, []⟩, ⟨.inl .mov, [.t 1], some 25, none, []⟩, ⟨.inl .len, [.t 25], some 26, none, []⟩, ⟨.inl (.bin .neq), [.t 24, .t 26], some 27, none, []⟩, ⟨.inl .mov, [.t 27], some 28, none, []⟩, ⟨.inl .mov, [.t 0], some 29, some (28, false), []⟩, ⟨.inl .len, [.t 29], some 30, some (28, false), []⟩, ⟨.inl (.bin .gtr), [.t 30, .c (.int .i64 (32))], some 31, some (28, false), []⟩, ⟨.inl .pick, [.t 28, .c (.bool true), .t 31], some 32, none, []⟩] none)
 (.cond (.t 32) st25_0 .skip))

/-- olivette/prime.Common -/
def af25 : AFunc := ⟨2,
 (.seq (.reg [⟨.inl .mov, [.c (.int .i64 (0))], some 4, none, []⟩, ⟨.inl .mov, [.c (.int .i64 (0))], some 5, none, []⟩, ⟨.inl .mov, [.c (.int .i64 (0))], some 6, none, []⟩] none)
 (.seq sp25_26
 (.seq (.reg [⟨.inl .mov, [.c (.int .i64 (1))], some 7, none, []⟩] none)
 (.seq sp25_25
 sq25_24)))),
 [.t 4, .t 5, .t 6]⟩

def sq28_0 : AC := (.cond (.t 11) (.seq (.reg [⟨.inl .mov, [.t 0], some 12, none, []⟩, ⟨.inl .mov, [.t 12], some 4, none, []⟩] none)
 .ret) .skip)

def sq28_1 : AC := (.seq (.reg [⟨.inl .mov, [.t 0], some 13, none, []⟩, ⟨.inl .mov, [.t 1], some 14, none, []⟩, ⟨.inr (.call true true 29), [.t 13, .t 14], some 15, none, []⟩, ⟨.inl (.bin .add), [.c (.int .i64 (1)), .t 15], some 16, none, []⟩, ⟨.inl .mov, [.t 16], some 4, none, []⟩] none)
 .ret)

def sp28_2 : AC := (.seq (.reg [⟨.inl .mov, [.t 0], some 5, none, []⟩, ⟨.inl (.bin .geq), [.t 5, .c (.int .i64 (1))], some 6, none, []⟩, ⟨.inl .mov, [.t 6], some 7, none, []⟩, ⟨.inl .mov, [.t 0], some 8, some (7, true), []⟩, ⟨.inl .mov, [.t 1], some 9, some (7, true), []⟩, ⟨.inl (.bin .leq), [.t 8, .t 9], some 10, some (7, true), []⟩, ⟨.inl .pick, [.t 7, .t 10, .c (.bool false)], some 11, none, []⟩] none)
 sq28_0)

/-- olivette/olivettelaw01.number -/
def af28 : AFunc := ⟨2,
 (.seq (.reg [⟨.inl .mov, [.c (.int .i64 (0))], some 4, none, []⟩] none)
 (.seq sp28_2
 sq28_1)),
 [.t 4]⟩

def sq29_0 : AC := (.seq (.reg [⟨.inl .mov, [.t 0], some 5, none, []⟩, ⟨.inl (.conv .u64), [.t 5], some 6, none, []⟩, ⟨.inl .mov, [.t 1], some 7, none, []⟩, ⟨.inl (.conv .u64), [.t 7], some 8, none, []⟩, ⟨.inl (.bin .rem), [.t 6, .t 8], some 9, none, []⟩, ⟨.inl (.conv .i64), [.t 9], some 10, none, []⟩, ⟨.inl .mov, [.t 10], some 4, none, []⟩] none)
 .ret)

/-- olivette/olivettelaw01.mod -/
def af29 : AFunc := ⟨2,
 (.seq (.reg [⟨.inl .mov, [.c (.int .i64 (0))], some 4, none, []⟩] none)
 sq29_0),
 [.t 4]⟩

def st30_0 : AC := (.seq (.reg [⟨.inl (.bld [.int .i64 0, .nilS] []), [], some 12, none, []⟩, ⟨.inr (.st 2), [.t 2, .t 12], none, none, []⟩, ⟨.inl .mov, [.c (.int .i64 (2))], some 3, none, []⟩] none)
 .ret)

def st30_1 : AC := (.seq (.reg [⟨.inl (.bld [.int .i64 0, .nilS] [(0, 1)]), [.c (.int .i64 (1))], some 15, none, []⟩, ⟨.inr (.st 2), [.t 2, .t 15], none, none, []⟩, ⟨.inl .mov, [.c (.int .i64 (0))], some 3, none, []⟩] none)
 .ret)

def st30_2 : AC := (.seq (.reg [⟨.inl .mov, [.t 4], some 24, none, []⟩, ⟨.inl (.bld [.int .i64 0, .nilS] [(0, 1)]), [.t 24], some 25, none, []⟩, ⟨.inr (.st 2), [.t 2, .t 25], none, none, []⟩, ⟨.inl .mov, [.c (.int .i64 (0))], some 3, none, []⟩] none)
 .ret)

def sq30_3 : AC := (.seq (.reg [⟨.inl .mov, [.t 4], some 21, none, []⟩, ⟨.inl .mov, [.t 0], some 22, none, []⟩, ⟨.inl (.bin .lss), [.t 21, .t 22], some 23, none, []⟩] none)
 (.cond (.t 23) st30_2 .skip))

def sq30_4 : AC := (.reg [⟨.inl .mov, [.t 6], some 38, none, []⟩, ⟨.inl .mov, [.t 5], some 39, none, []⟩, ⟨.inl .mov, [.t 8], some 40, none, []⟩, ⟨.inr (.lkM [some .i64] false (.agg [.int .i64 0, .int .i64 0, .nilS])), [.t 39, .t 40], some 41, none, []⟩, ⟨.inr (.bldS true true 3 1 [.int .i64 0, .int .i64 0, .nilS] [(0, 3)]), [.t 41], some 42, none, []⟩, ⟨.inr (.app false 3 40), [.t 38, .t 42], some 43, none, []⟩, ⟨.inl .mov, [.t 43], some 6, none, []⟩] none)

def sq30_5 : AC := (.reg [⟨.inl (.bin .add), [.t 34, .c (.int .i64 (1))], some 44, none, []⟩, ⟨.inl .mov, [.t 44], some 34, none, []⟩] none)

def sp30_6 : AC := (.block 1 (.seq (.reg [⟨.inl (.idxA 1), [.t 32, .t 34], some 36, none, []⟩, ⟨.inl (.ld false 1), [.t 36], some 37, none, []⟩, ⟨.inl .mov, [.t 37], some 8, none, []⟩] none)
 sq30_4))

def lb30_7 : AC := (.pre [2, 5, 6, 32, 33, 34] (.seq (.reg [⟨.inl (.bin .lss), [.t 34, .t 33], some 35, none, []⟩] none)
 (.seq (.cond (.t 35) .skip (.exit 0))
 (.seq sp30_6
 sq30_5))))

def sq30_8 : AC := (.pre [2, 6] (.seq (.reg [⟨.inl .mov, [.t 6], some 45, none, []⟩, ⟨.inl (.bld [.int .i64 0, .nilS] [(1, 1)]), [.t 45], some 46, none, []⟩, ⟨.inr (.st 2), [.t 2, .t 46], none, none, []⟩, ⟨.inl .mov, [.c (.int .i64 (0))], some 3, none, []⟩] none)
 .ret))

def sp30_9 : AC := (.seq (.reg [⟨.inl .mov, [.t 5], some 30, none, []⟩, ⟨.inr (.call true true 56), [.t 30], some 31, none, []⟩, ⟨.inr (.call true true 55), [.t 31], some 32, none, []⟩, ⟨.inl .len, [.t 32], some 33, none, []⟩, ⟨.inl .mov, [.c (.int .i64 (0))], some 34, none, []⟩] none)
 (.block 0 (.loop lb30_7)))

def sq30_10 : AC := (.seq (.reg [⟨.inl .mov, [.t 0], some 27, none, []⟩, ⟨.inl .mov, [.t 5], some 28, none, []⟩, ⟨.inr (.call false true 54), [.t 27, .t 28], some 29, none, []⟩] none)
 (.seq (.reg [⟨.inl .mov, [.c (.nilS)], some 6, none, []⟩] none)
 (.seq sp30_9
 sq30_8)))

def sp30_11 : AC := (.seq (.reg [⟨.inl .mov, [.t 0], some 16, none, []⟩, ⟨.inr (.call true true 42), [.t 16], some 17, none, []⟩, ⟨.inl (.idxA 2), [.t 17, .c (.int .i64 (0))], some 18, none, []⟩, ⟨.inl (.fldA 0), [.t 18], some 19, none, []⟩, ⟨.inl (.ld false 1), [.t 19], some 20, none, []⟩, ⟨.inl .mov, [.t 20], some 4, none, []⟩] none)
 sq30_3)

def sp30_12 : AC := (.seq (.reg [⟨.inl .mov, [.t 0], some 13, none, []⟩, ⟨.inl (.bin .eql), [.t 13, .c (.int .i64 (1))], some 14, none, []⟩] none)
 (.cond (.t 14) st30_1 .skip))

def sq30_13 : AC := (.seq sp30_12
 (.seq sp30_11
 (.seq (.reg [⟨.inr .mkM, [], some 26, none, []⟩, ⟨.inl .mov, [.t 26], some 5, none, []⟩] none)
 sq30_10)))

def sp30_14 : AC := (.seq (.reg [⟨.inl .mov, [.t 0], some 9, none, []⟩, ⟨.inr (.call true true 41), [.t 9], some 10, none, []⟩, ⟨.inl (.un .not), [.t 10], some 11, none, []⟩] none)
 (.cond (.t 11) st30_0 .skip))

/-- olivette/prime.Decide -/
def af30 : AFunc := ⟨1,
 (.seq (.reg [⟨.inr (.alloc false [.int .i64 0, .nilS]), [], some 2, none, []⟩, ⟨.inl .mov, [.c (.int .i64 (0))], some 3, none, []⟩] none)
 (.seq sp30_14
 sq30_13)),
 [.cell 2 true 2, .t 3]⟩

def st32_0 : AC := (.seq (.reg [⟨.inl .mov, [.c (.int .i64 (0))], some 2, none, []⟩, ⟨.inl .mov, [.c (.int .i64 (2))], some 3, none, []⟩] none)
 .ret)

def sq32_1 : AC := (.block 1 (.reg [⟨.inl .mov, [.t 5], some 18, none, []⟩, ⟨.inl (.bin .add), [.t 18, .c (.int .i64 (1))], some 19, none, []⟩, ⟨.inl .mov, [.t 19], some 5, none, []⟩] none))

def sp32_2 : AC := (.seq (.reg [⟨.inl .mov, [.t 5], some 13, none, []⟩, ⟨.inl .mov, [.t 0], some 14, none, []⟩, ⟨.inl (.ld false 1), [.t 4], some 15, none, []⟩, ⟨.inr (.call true true 60), [.t 13, .t 14, .t 15], some 16, none, []⟩, ⟨.inl (.un .not), [.t 16], some 17, none, []⟩] none)
 (.cond (.t 17) .skip (.exit 0)))

def lb32_3 : AC := (.pre [0, 4, 5] (.seq sp32_2
 sq32_1))

def sq32_4 : AC := (.pre [5] (.seq (.reg [⟨.inl .mov, [.t 5], some 20, none, []⟩, ⟨.inl .mov, [.t 20], some 2, none, []⟩, ⟨.inl .mov, [.c (.int .i64 (0))], some 3, none, []⟩] none)
 .ret))

def sq32_5 : AC := (.seq (.reg [⟨.inl .mov, [.t 0], some 9, none, []⟩, ⟨.inl (.bin .sub), [.t 9, .c (.int .i64 (1))], some 10, none, []⟩, ⟨.inl (.mkfn 59), [.t 4], some 11, none, []⟩, ⟨.inr (.call false true 58), [.t 10, .t 11], some 12, none, []⟩] none)
 (.seq (.reg [⟨.inl .mov, [.c (.int .i64 (1))], some 5, none, []⟩] none)
 (.seq (.block 0 (.loop lb32_3))
 sq32_4)))

def sp32_6 : AC := (.seq (.reg [⟨.inl .mov, [.t 0], some 6, none, []⟩, ⟨.inr (.call true true 44), [.t 6], some 7, none, []⟩, ⟨.inl (.un .not), [.t 7], some 8, none, []⟩] none)
 (.cond (.t 8) st32_0 .skip))

/-- olivette/prime.Generator -/
def af32 : AFunc := ⟨1,
 (.seq (.reg [⟨.inl .mov, [.c (.int .i64 (0))], some 2, none, []⟩, ⟨.inl .mov, [.c (.int .i64 (0))], some 3, none, []⟩] none)
 (.seq sp32_6
 (.seq (.reg [⟨.inr (.alloc false [.nilS]), [], some 4, none, []⟩] none)
 sq32_5))),
 [.t 2, .t 3]⟩

def st33_0 : AC := (.seq (.reg [⟨.inl .mov, [.c (.int .i64 (0))], some 6, none, []⟩, ⟨.inl .mov, [.c (.int .i64 (2))], some 7, none, []⟩] none)
 .ret)

def sq33_1 : AC := (.seq (.reg [⟨.inl .mov, [.t 0], some 16, none, []⟩, ⟨.inl .mov, [.t 1], some 17, none, []⟩, ⟨.inl .mov, [.t 2], some 18, none, []⟩, ⟨.inr (.call true true 47), [.t 16, .t 17, .t 18], some 19, none, []⟩, ⟨.inl .mov, [.t 19], some 6, none, []⟩, ⟨.inl .mov, [.c (.int .i64 (0))], some 7, none, []⟩] none)
 .ret)

def sp33_2 : AC := (.seq (.reg [⟨.inl .mov, [.t 0], some 8, none, []⟩, ⟨.inl .mov, [.t 2], some 9, none, []⟩, ⟨.inr (.call true true 49), [.t 8, .t 9], some 10, none, []⟩, ⟨.inl (.un .not), [.t 10], some 11, none, []⟩, ⟨.inl .mov, [.t 11], some 12, none, []⟩, ⟨.inl .mov, [.t 1], some 13, some (12, false), []⟩, ⟨.inl (.bin .lss), [.t 13, .c (.int .i64 (0))], some 14, some (12, false), []⟩, ⟨.inl .pick, [.t 12, .c (.bool true), .t 14], some 15, none, []⟩] none)
 (.cond (.t 15) st33_0 .skip))

/-- olivette/prime.Power -/
def af33 : AFunc := ⟨3,
 (.seq (.reg [⟨.inl .mov, [.c (.int .i64 (0))], some 6, none, []⟩, ⟨.inl .mov, [.c (.int .i64 (0))], some 7, none, []⟩] none)
 (.seq sp33_2
 sq33_1)),
 [.t 6, .t 7]⟩

def st34_0 : AC := (.seq (.reg [⟨.inl .mov, [.c (.int .i64 (0))], some 4, none, []⟩, ⟨.inl .mov, [.c (.int .i64 (2))], some 5, none, []⟩] none)
 .ret)

def st34_1 : AC := (.seq (.reg [⟨.inl .mov, [.c (.int .i64 (0))], some 4, none, []⟩, ⟨.inl .mov, [.c (.int .i64 (6))], some 5, none, []⟩] none)
 .ret)

def sq34_2 : AC := (.seq (.reg [⟨.inl .mov, [.t 7], some 20, none, []⟩, ⟨.inl .mov, [.t 1], some 21, none, []⟩, ⟨.inl (.bin .rem), [.t 20, .t 21], some 22, none, []⟩, ⟨.inl .mov, [.t 1], some 23, none, []⟩, ⟨.inl (.bin .add), [.t 22, .t 23], some 24, none, []⟩, ⟨.inl .mov, [.t 1], some 25, none, []⟩, ⟨.inl (.bin .rem), [.t 24, .t 25], some 26, none, []⟩, ⟨.inl .mov, [.t 26], some 4, none, []⟩, ⟨.inl .mov, [.c (.int .i64 (0))], some 5, none, []⟩] none)
 .ret)

def sp34_3 : AC := (.seq (.reg [⟨.inl .mov, [.t 6], some 18, none, []⟩, ⟨.inl (.bin .neq), [.t 18, .c (.int .i64 (1))], some 19, none, []⟩] none)
 (.cond (.t 19) st34_1 .skip))

def sq34_4 : AC := (.seq (.reg [⟨.inl .mov, [.t 0], some 13, none, []⟩, ⟨.inl .mov, [.t 1], some 14, none, []⟩, ⟨.inr (.call true true 50), [.t 13, .t 14], some 15, none, []⟩, ⟨.inl .mov, [.t 15], some 12, none, []⟩, ⟨.inl (.ext 0), [.t 12], some 16, none, []⟩, ⟨.inl (.ext 1), [.t 12], some 17, none, []⟩, ⟨.inl .mov, [.t 16], some 6, none, []⟩, ⟨.inl .mov, [.t 17], some 7, none, []⟩] none)
 (.seq sp34_3
 sq34_2))

def sp34_5 : AC := (.seq (.reg [⟨.inl .mov, [.t 0], some 8, none, []⟩, ⟨.inl .mov, [.t 1], some 9, none, []⟩, ⟨.inr (.call true true 49), [.t 8, .t 9], some 10, none, []⟩, ⟨.inl (.un .not), [.t 10], some 11, none, []⟩] none)
 (.cond (.t 11) st34_0 .skip))

/-- olivette/prime.Inverse -/
def af34 : AFunc := ⟨2,
 (.seq (.reg [⟨.inl .mov, [.c (.int .i64 (0))], some 4, none, []⟩, ⟨.inl .mov, [.c (.int .i64 (0))], some 5, none, []⟩] none)
 (.seq sp34_5
 sq34_4)),
 [.t 4, .t 5]⟩

def st35_0 : AC := (.seq (.reg [⟨.inl .mov, [.t 7], some 16, none, []⟩, ⟨.inl .mov, [.c (.int .i64 (0))], some 4, none, []⟩, ⟨.inl .mov, [.t 16], some 5, none, []⟩] none)
 .ret)

def sq35_1 : AC := (.seq (.reg [⟨.inl .mov, [.t 7], some 14, none, []⟩, ⟨.inl (.bin .neq), [.t 14, .c (.int .i64 (0))], some 15, none, []⟩] none)
 (.cond (.t 15) st35_0 .skip))

def sq35_2 : AC := (.seq (.reg [⟨.inl .mov, [.t 0], some 17, none, []⟩, ⟨.inl .mov, [.t 1], some 18, none, []⟩, ⟨.inr (.call true true 48), [.t 17, .t 18], some 19, none, []⟩, ⟨.inl .mov, [.t 19], some 4, none, []⟩, ⟨.inl .mov, [.c (.int .i64 (0))], some 5, none, []⟩] none)
 .ret)

def sp35_3 : AC := (.seq (.reg [⟨.inl .mov, [.t 0], some 9, none, []⟩, ⟨.inl .mov, [.t 1], some 10, none, []⟩, ⟨.inr (.call true true 34), [.t 9, .t 10], some 11, none, []⟩, ⟨.inl .mov, [.t 11], some 8, none, []⟩, ⟨.inl (.ext 0), [.t 8], some 12, none, []⟩, ⟨.inl (.ext 1), [.t 8], some 13, none, []⟩, ⟨.inl .mov, [.t 12], some 6, none, []⟩, ⟨.inl .mov, [.t 13], some 7, none, []⟩] none)
 sq35_1)

/-- olivette/prime.Order -/
def af35 : AFunc := ⟨2,
 (.seq (.reg [⟨.inl .mov, [.c (.int .i64 (0))], some 4, none, []⟩, ⟨.inl .mov, [.c (.int .i64 (0))], some 5, none, []⟩] none)
 (.seq sp35_3
 sq35_2)),
 [.t 4, .t 5]⟩

def st36_0 : AC := (.seq (.reg [⟨.inl .mov, [.c (.int .i64 (0))], some 4, none, []⟩, ⟨.inl .mov, [.c (.bool false)], some 5, none, []⟩] none)
 .ret)

def sq36_1 : AC := (.seq (.reg [⟨.inl .mov, [.t 9], some 36, none, []⟩, ⟨.inl .mov, [.t 36], some 8, none, []⟩] none)
 (.reg [⟨.inl .mov, [.t 12], some 37, none, []⟩, ⟨.inl .mov, [.t 37], some 9, none, []⟩] none))

def sq36_2 : AC := (.seq (.reg [⟨.inl .mov, [.t 8], some 31, none, []⟩, ⟨.inl .mov, [.t 10], some 32, none, []⟩, ⟨.inl .mov, [.t 9], some 33, none, []⟩, ⟨.inl (.bin .mul), [.t 32, .t 33], some 34, none, []⟩, ⟨.inl (.bin .sub), [.t 31, .t 34], some 35, none, []⟩, ⟨.inl .mov, [.t 35], some 12, none, []⟩] none)
 sq36_1)

def sq36_3 : AC := (.seq (.reg [⟨.inl .mov, [.t 7], some 29, none, []⟩, ⟨.inl .mov, [.t 29], some 6, none, []⟩] none)
 (.seq (.reg [⟨.inl .mov, [.t 11], some 30, none, []⟩, ⟨.inl .mov, [.t 30], some 7, none, []⟩] none)
 sq36_2))

def sq36_4 : AC := (.seq (.reg [⟨.inl .mov, [.t 6], some 24, none, []⟩, ⟨.inl .mov, [.t 10], some 25, none, []⟩, ⟨.inl .mov, [.t 7], some 26, none, []⟩, ⟨.inl (.bin .mul), [.t 25, .t 26], some 27, none, []⟩, ⟨.inl (.bin .sub), [.t 24, .t 27], some 28, none, []⟩, ⟨.inl .mov, [.t 28], some 11, none, []⟩] none)
 sq36_3)

def sq36_5 : AC := (.block 1 (.seq (.reg [⟨.inl .mov, [.t 6], some 21, none, []⟩, ⟨.inl .mov, [.t 7], some 22, none, []⟩, ⟨.inl (.bin .quo), [.t 21, .t 22], some 23, none, []⟩, ⟨.inl .mov, [.t 23], some 10, none, []⟩] none)
 sq36_4))

def sp36_6 : AC := (.seq (.reg [⟨.inl .mov, [.t 7], some 19, none, []⟩, ⟨.inl (.bin .gtr), [.t 19, .c (.int .i64 (0))], some 20, none, []⟩] none)
 (.cond (.t 20) .skip (.exit 0)))

def lb36_7 : AC := (.pre [1, 6, 7, 8, 9] (.seq sp36_6
 sq36_5))

def sq36_8 : AC := (.pre [1, 8] (.seq (.reg [⟨.inl .mov, [.t 8], some 38, none, []⟩, ⟨.inl .mov, [.t 1], some 39, none, []⟩, ⟨.inl (.bin .rem), [.t 38, .t 39], some 40, none, []⟩, ⟨.inl .mov, [.t 1], some 41, none, []⟩, ⟨.inl (.bin .add), [.t 40, .t 41], some 42, none, []⟩, ⟨.inl .mov, [.t 1], some 43, none, []⟩, ⟨.inl (.bin .rem), [.t 42, .t 43], some 44, none, []⟩, ⟨.inl .mov, [.t 44], some 4, none, []⟩, ⟨.inl .mov, [.c (.bool true)], some 5, none, []⟩] none)
 .ret))

def sq36_9 : AC := (.seq (.reg [⟨.inl .mov, [.t 1], some 17, none, []⟩, ⟨.inl .mov, [.t 0], some 18, none, []⟩, ⟨.inl .mov, [.t 17], some 6, none, []⟩, ⟨.inl .mov, [.t 18], some 7, none, []⟩, ⟨.inl .mov, [.c (.int .i64 (0))], some 8, none, []⟩, ⟨.inl .mov, [.c (.int .i64 (1))], some 9, none, []⟩] none)
 (.seq (.block 0 (.loop lb36_7))
 sq36_8))

def sp36_10 : AC := (.seq (.reg [⟨.inl .mov, [.t 0], some 13, none, []⟩, ⟨.inl .mov, [.t 1], some 14, none, []⟩, ⟨.inr (.call true true 53), [.t 13, .t 14], some 15, none, []⟩, ⟨.inl (.bin .neq), [.t 15, .c (.int .i64 (1))], some 16, none, []⟩] none)
 (.cond (.t 16) st36_0 .skip))

/-- olivette/olivetteref01.Inverse -/
def af36 : AFunc := ⟨2,
 (.seq (.reg [⟨.inl .mov, [.c (.int .i64 (0))], some 4, none, []⟩, ⟨.inl .mov, [.c (.bool false)], some 5, none, []⟩] none)
 (.seq sp36_10
 sq36_9)),
 [.t 4, .t 5]⟩

def sq37_0 : AC := (.reg [⟨.inl .mov, [.t 8], some 31, none, []⟩, ⟨.inl (.bin .add), [.t 31, .c (.int .i64 (1))], some 32, none, []⟩, ⟨.inl .mov, [.t 32], some 8, none, []⟩] none)

def sp37_1 : AC := (.block 1 (.seq (.reg [⟨.inl .mov, [.t 0], some 33, none, []⟩, ⟨.inl .mov, [.t 1], some 34, none, []⟩, ⟨.inl .mov, [.t 7], some 35, none, []⟩, ⟨.inl .mov, [.t 8], some 36, none, []⟩, ⟨.inl (.idxA 2), [.t 35, .t 36], some 37, none, []⟩, ⟨.inl (.fldA 0), [.t 37], some 38, none, []⟩, ⟨.inl (.ld false 1), [.t 38], some 39, none, []⟩, ⟨.inl (.bin .quo), [.t 34, .t 39], some 40, none, []⟩, ⟨.inl .mov, [.t 2], some 41, none, []⟩, ⟨.inr (.call true true 22), [.t 33, .t 40, .t 41], some 42, none, []⟩, ⟨.inl .mov, [.t 2], some 43, none, []⟩, ⟨.inl (.bin .rem), [.c (.int .i64 (1)), .t 43], some 44, none, []⟩, ⟨.inl (.bin .eql), [.t 42, .t 44], some 45, none, []⟩] (some ([0, 1, 2, 3, 4, 5, 6, 7, 8, 9, 10, 11, 12], [], [0, 0, 0, 0, 12, 28, 60, 126, 0, 511, 0, 1024, 4095])))
 (.cond (.t 45) (.seq (.reg [⟨.inl .mov, [.c (.bool false)], some 6, none, []⟩] none)
 .ret) .skip)))

def sp37_2 : AC := (.seq (.reg [⟨.inl .mov, [.t 8], some 27, none, []⟩, ⟨.inl .mov, [.t 7], some 28, none, []⟩, ⟨.inl .len, [.t 28], some 29, none, []⟩, ⟨.inl (.bin .lss), [.t 27, .t 29], some 30, none, []⟩] none)
 (.cond (.t 30) .skip (.exit 0)))

def lb37_3 : AC := (.pre [0, 1, 2, 7, 8] (.seq sp37_2
 (.seq sp37_1
 sq37_0)))

def sq37_4 : AC := (.seq (.seq (.reg [⟨.inl .mov, [.c (.int .i64 (0))], some 8, none, []⟩] none)
 (.block 0 (.loop lb37_3)))
 (.pre [] (.seq (.reg [⟨.inl .mov, [.c (.bool true)], some 6, none, []⟩] none)
 .ret)))

def sq37_5 : AC := (.seq (.reg [⟨.inl .mov, [.t 1], some 25, none, []⟩, ⟨.inr (.call true true 19), [.t 25], some 26, none, []⟩, ⟨.inl .mov, [.t 26], some 7, none, []⟩] none)
 sq37_4)

def sp37_6 : AC := (.seq (.reg [⟨.inl .mov, [.t 1], some 9, none, []⟩, ⟨.inl (.bin .lss), [.t 9, .c (.int .i64 (1))], some 10, none, []⟩, ⟨.inl .mov, [.t 10], some 11, none, []⟩, ⟨.inl .mov, [.t 1], some 12, some (11, false), []⟩, ⟨.inl .mov, [.t 2], some 13, some (11, false), []⟩, ⟨.inl (.bin .gtr), [.t 12, .t 13], some 14, some (11, false), []⟩, ⟨.inl .pick, [.t 11, .c (.bool true), .t 14], some 15, none, []⟩, ⟨.inl .mov, [.t 15], some 16, none, []⟩, ⟨.inl .mov, [.t 0], some 17, some (16, false), []⟩, ⟨.inl .mov, [.t 1], some 18, some (16, false), []⟩, ⟨.inl .mov, [.t 2], some 19, some (16, false), []⟩, ⟨.inr (.call true true 22), [.t 17, .t 18, .t 19], some 20, some (16, false), []⟩, ⟨.inl .mov, [.t 2], some 21, some (16, false), []⟩, ⟨.inl (.bin .rem), [.c (.int .i64 (1)), .t 21], some 22, some (16, false), []⟩, ⟨.inl (.bin .neq), [.t 20, .t 22], some 23, some (16, false), []⟩, ⟨.inl .pick, [.t 16, .c (.bool true), .t 23], some 24, none, []⟩] (some ([0, 1, 2, 3, 4, 5, 6, 7, 8, 9, 10, 11, 12, 13, 14, 15], [], [0, 1, 3, 7, 7, 31, 63, 127, 255, 255, 255, 2047, 255, 4351, 16383, 32767])))
 (.cond (.t 24) (.seq (.reg [⟨.inl .mov, [.c (.bool false)], some 6, none, []⟩] none)
 .ret) .skip))

/-- olivette/olivetteref01.IsOrder -/
def af37 : AFunc := ⟨3,
 (.seq (.reg [⟨.inl .mov, [.c (.bool false)], some 6, none, []⟩] none)
 (.seq sp37_6
 sq37_5)),
 [.t 6]⟩

def sq41_0 : AC := (.seq (.reg [⟨.inl .mov, [.t 0], some 3, none, []⟩, ⟨.inl (.bin .geq), [.t 3, .c (.int .i64 (1))], some 4, none, []⟩, ⟨.inl .mov, [.t 4], some 5, none, []⟩, ⟨.inl .mov, [.t 0], some 6, some (5, true), []⟩, ⟨.inl (.bin .leq), [.t 6, .c (.int .i64 (2147483647))], some 7, some (5, true), []⟩, ⟨.inl .pick, [.t 5, .t 7, .c (.bool false)], some 8, none, []⟩, ⟨.inl .mov, [.t 8], some 2, none, []⟩] none)
 .ret)

/-- olivette/prime.isNumber -/
def af41 : AFunc := ⟨1,
 (.seq (.reg [⟨.inl .mov, [.c (.bool false)], some 2, none, []⟩] none)
 sq41_0),
 [.t 2]⟩

def sq42_0 : AC := (.seq (.reg [⟨.inl .mov, [.t 0], some 4, none, []⟩, ⟨.inl (.mkfn 62), [.t 3], some 5, none, []⟩, ⟨.inr (.call false true 58), [.t 4, .t 5], some 6, none, []⟩] none)
 (.seq (.reg [⟨.inl (.ld false 1), [.t 3], some 7, none, []⟩, ⟨.inl .mov, [.t 7], some 2, none, []⟩] none)
 .ret))

/-- olivette/prime.factor -/
def af42 : AFunc := ⟨1,
 (.seq (.reg [⟨.inl .mov, [.c (.nilS)], some 2, none, []⟩] none)
 (.seq (.reg [⟨.inr (.alloc false [.nilS]), [], some 3, none, []⟩] none)
 sq42_0)),
 [.t 2]⟩

def sq43_0 : AC := (.cond (.t 14) (.seq (.reg [⟨.inl .mov, [.t 3], some 15, none, []⟩, ⟨.inl .mov, [.t 15], some 2, none, []⟩] none)
 .ret) .skip)

def sq43_1 : AC := (.reg [⟨.inl .mov, [.t 3], some 9, none, []⟩, ⟨.inl (.bin .add), [.t 9, .c (.int .i64 (1))], some 10, none, []⟩, ⟨.inl .mov, [.t 10], some 3, none, []⟩] none)

def sp43_2 : AC := (.block 1 (.seq (.reg [⟨.inl .mov, [.t 0], some 11, none, []⟩, ⟨.inl .mov, [.t 3], some 12, none, []⟩, ⟨.inl (.bin .rem), [.t 11, .t 12], some 13, none, []⟩, ⟨.inl (.bin .eql), [.t 13, .c (.int .i64 (0))], some 14, none, []⟩] none)
 sq43_0))

def sp43_3 : AC := (.seq (.reg [⟨.inl .mov, [.t 3], some 4, none, []⟩, ⟨.inl .mov, [.t 3], some 5, none, []⟩, ⟨.inl (.bin .mul), [.t 4, .t 5], some 6, none, []⟩, ⟨.inl .mov, [.t 0], some 7, none, []⟩, ⟨.inl (.bin .leq), [.t 6, .t 7], some 8, none, []⟩] none)
 (.cond (.t 8) .skip (.exit 0)))

def lb43_4 : AC := (.pre [0, 3] (.seq sp43_3
 (.seq sp43_2
 sq43_1)))

def sq43_5 : AC := (.seq (.seq (.reg [⟨.inl .mov, [.c (.int .i64 (2))], some 3, none, []⟩] none)
 (.block 0 (.loop lb43_4)))
 (.pre [0] (.seq (.reg [⟨.inl .mov, [.t 0], some 16, none, []⟩, ⟨.inl .mov, [.t 16], some 2, none, []⟩] none)
 .ret)))

/-- olivette/olivetteref01.Divisor -/
def af43 : AFunc := ⟨1,
 (.seq (.reg [⟨.inl .mov, [.c (.int .i64 (0))], some 2, none, []⟩] none)
 sq43_5),
 [.t 2]⟩

def sq44_0 : AC := (.seq (.reg [⟨.inl .mov, [.t 0], some 3, none, []⟩, ⟨.inr (.call true true 41), [.t 3], some 4, none, []⟩, ⟨.inl .mov, [.t 4], some 5, none, []⟩, ⟨.inl .mov, [.t 0], some 6, some (5, true), []⟩, ⟨.inr (.call true true 63), [.t 6], some 7, some (5, true), []⟩, ⟨.inl .pick, [.t 5, .t 7, .c (.bool false)], some 8, none, []⟩, ⟨.inl .mov, [.t 8], some 2, none, []⟩] none)
 .ret)

/-- olivette/prime.isPrimeNumber -/
def af44 : AFunc := ⟨1,
 (.seq (.reg [⟨.inl .mov, [.c (.bool false)], some 2, none, []⟩] none)
 sq44_0),
 [.t 2]⟩

def st45_0 : AC := (.seq (.reg [⟨.inl .mov, [.c (.int .i64 (0))], some 4, none, []⟩, ⟨.inl .mov, [.c (.bool true)], some 5, none, []⟩] none)
 .ret)

def st45_1 : AC := (.seq (.reg [⟨.inl .mov, [.c (.int .i64 (0))], some 4, none, []⟩, ⟨.inl .mov, [.c (.bool false)], some 5, none, []⟩] none)
 .ret)

def sq45_2 : AC := (.reg [⟨.inl .mov, [.t 7], some 31, none, []⟩, ⟨.inl (.bin .add), [.t 31, .c (.int .i64 (1))], some 32, none, []⟩, ⟨.inl .mov, [.t 32], some 7, none, []⟩] none)

def sq45_3 : AC := (.block 1 (.seq (.reg [⟨.inl .mov, [.t 6], some 29, none, []⟩, ⟨.inl (.bin .quo), [.t 29, .c (.int .i64 (2))], some 30, none, []⟩, ⟨.inl .mov, [.t 30], some 6, none, []⟩] none)
 sq45_2))

def sp45_4 : AC := (.seq (.reg [⟨.inl .mov, [.t 6], some 26, none, []⟩, ⟨.inl (.bin .rem), [.t 26, .c (.int .i64 (2))], some 27, none, []⟩, ⟨.inl (.bin .eql), [.t 27, .c (.int .i64 (0))], some 28, none, []⟩] none)
 (.cond (.t 28) .skip (.exit 0)))

def lb45_5 : AC := (.pre [0, 1, 6, 7] (.seq sp45_4
 sq45_3))

def sq45_6 : AC := (.block 3 (.reg [⟨.inl .mov, [.t 8], some 40, none, []⟩, ⟨.inl (.bin .add), [.t 40, .c (.int .i64 (1))], some 41, none, []⟩, ⟨.inl .mov, [.t 41], some 8, none, []⟩] none))

def sp45_7 : AC := (.seq (.reg [⟨.inl .mov, [.t 8], some 33, none, []⟩, ⟨.inl .mov, [.t 1], some 34, none, []⟩, ⟨.inl (.bin .sub), [.t 34, .c (.int .i64 (1))], some 35, none, []⟩, ⟨.inl (.bin .quo), [.t 35, .c (.int .i64 (2))], some 36, none, []⟩, ⟨.inl .mov, [.t 1], some 37, none, []⟩, ⟨.inr (.call true true 47), [.t 33, .t 36, .t 37], some 38, none, []⟩, ⟨.inl (.bin .eql), [.t 38, .c (.int .i64 (1))], some 39, none, []⟩] none)
 (.cond (.t 39) .skip (.exit 2)))

def lb45_8 : AC := (.pre [0, 1, 6, 7, 8] (.seq sp45_7
 sq45_6))

def sq45_9 : AC := (.reg [⟨.inl .mov, [.t 12], some 61, none, []⟩, ⟨.inl (.bin .add), [.t 61, .c (.int .i64 (1))], some 62, none, []⟩, ⟨.inl .mov, [.t 62], some 12, none, []⟩] none)

def sp45_10 : AC := (.block 7 (.reg [⟨.inl .mov, [.t 13], some 63, none, []⟩, ⟨.inl .mov, [.t 13], some 64, none, []⟩, ⟨.inl .mov, [.t 1], some 65, none, []⟩, ⟨.inr (.call true true 46), [.t 63, .t 64, .t 65], some 66, none, []⟩, ⟨.inl .mov, [.t 66], some 13, none, []⟩] none))

def sp45_11 : AC := (.seq (.reg [⟨.inl .mov, [.t 13], some 59, none, []⟩, ⟨.inl (.bin .neq), [.t 59, .c (.int .i64 (1))], some 60, none, []⟩] none)
 (.cond (.t 60) .skip (.exit 6)))

def lb45_12 : AC := (.pre [1, 7, 9, 10, 11, 12, 13] (.seq sp45_11
 (.seq sp45_10
 sq45_9)))

def sq45_13 : AC := (.reg [⟨.inl .mov, [.t 11], some 84, none, []⟩, ⟨.inl .mov, [.t 9], some 85, none, []⟩, ⟨.inl .mov, [.t 1], some 86, none, []⟩, ⟨.inr (.call true true 46), [.t 84, .t 85, .t 86], some 87, none, []⟩, ⟨.inl .mov, [.t 87], some 11, none, []⟩] none)

def sq45_14 : AC := (.seq (.reg [⟨.inl .mov, [.t 10], some 75, none, []⟩, ⟨.inl .mov, [.t 14], some 76, none, []⟩, ⟨.inl .mov, [.t 1], some 77, none, []⟩, ⟨.inr (.call true true 46), [.t 75, .t 76, .t 77], some 78, none, []⟩, ⟨.inl .mov, [.t 14], some 79, none, []⟩, ⟨.inl .mov, [.t 14], some 80, none, []⟩, ⟨.inl .mov, [.t 1], some 81, none, []⟩, ⟨.inr (.call true true 46), [.t 79, .t 80, .t 81], some 82, none, []⟩, ⟨.inl .mov, [.t 12], some 83, none, []⟩, ⟨.inl .mov, [.t 78], some 10, none, []⟩, ⟨.inl .mov, [.t 82], some 9, none, []⟩, ⟨.inl .mov, [.t 83], some 7, none, []⟩] none)
 sq45_13)

def sq45_15 : AC := (.pre [1, 7, 9, 10, 11, 12] (.seq (.reg [⟨.inl .mov, [.t 9], some 67, none, []⟩, ⟨.inl .mov, [.t 7], some 68, none, []⟩, ⟨.inl .mov, [.t 12], some 69, none, []⟩, ⟨.inl (.bin .sub), [.t 68, .t 69], some 70, none, []⟩, ⟨.inl (.bin .sub), [.t 70, .c (.int .i64 (1))], some 71, none, []⟩, ⟨.inl (.bin .shl), [.c (.int .i64 (1)), .t 71], some 72, none, []⟩, ⟨.inl .mov, [.t 1], some 73, none, []⟩, ⟨.inr (.call true true 47), [.t 67, .t 72, .t 73], some 74, none, []⟩, ⟨.inl .mov, [.t 74], some 14, none, []⟩] none)
 sq45_14))

def sp45_16 : AC := (.seq (.reg [⟨.inl .mov, [.t 11], some 58, none, []⟩, ⟨.inl .mov, [.t 58], some 13, none, []⟩] none)
 (.block 6 (.loop lb45_12)))

def sp45_17 : AC := (.seq (.reg [⟨.inl .mov, [.t 11], some 56, none, []⟩, ⟨.inl (.bin .neq), [.t 56, .c (.int .i64 (1))], some 57, none, []⟩] none)
 (.cond (.t 57) .skip (.exit 4)))

def lb45_18 : AC := (.pre [1, 7, 9, 10, 11] (.seq sp45_17
 (.block 5 (.seq (.reg [⟨.inl .mov, [.c (.int .i64 (0))], some 12, none, []⟩] none)
 (.seq sp45_16
 sq45_15)))))

def sq45_19 : AC := (.pre [10] (.seq (.reg [⟨.inl .mov, [.t 10], some 88, none, []⟩, ⟨.inl .mov, [.t 88], some 4, none, []⟩, ⟨.inl .mov, [.c (.bool true)], some 5, none, []⟩] none)
 .ret))

def sq45_20 : AC := (.pre [0, 1, 6, 7, 8] (.seq (.reg [⟨.inl .mov, [.t 8], some 42, none, []⟩, ⟨.inl .mov, [.t 6], some 43, none, []⟩, ⟨.inl .mov, [.t 1], some 44, none, []⟩, ⟨.inr (.call true true 47), [.t 42, .t 43, .t 44], some 45, none, []⟩, ⟨.inl .mov, [.t 0], some 46, none, []⟩, ⟨.inl .mov, [.t 6], some 47, none, []⟩, ⟨.inl (.bin .add), [.t 47, .c (.int .i64 (1))], some 48, none, []⟩, ⟨.inl (.bin .quo), [.t 48, .c (.int .i64 (2))], some 49, none, []⟩, ⟨.inl .mov, [.t 1], some 50, none, []⟩, ⟨.inr (.call true true 47), [.t 46, .t 49, .t 50], some 51, none, []⟩, ⟨.inl .mov, [.t 0], some 52, none, []⟩, ⟨.inl .mov, [.t 6], some 53, none, []⟩, ⟨.inl .mov, [.t 1], some 54, none, []⟩, ⟨.inr (.call true true 47), [.t 52, .t 53, .t 54], some 55, none, []⟩, ⟨.inl .mov, [.t 45], some 9, none, []⟩, ⟨.inl .mov, [.t 51], some 10, none, []⟩, ⟨.inl .mov, [.t 55], some 11, none, []⟩] none)
 (.seq (.block 4 (.loop lb45_18))
 sq45_19)))

def sq45_21 : AC := (.pre [0, 1, 6, 7] (.seq (.reg [⟨.inl .mov, [.c (.int .i64 (2))], some 8, none, []⟩] none)
 (.seq (.block 2 (.loop lb45_8))
 sq45_20)))

def sq45_22 : AC := (.seq (.reg [⟨.inl .mov, [.t 1], some 24, none, []⟩, ⟨.inl (.bin .sub), [.t 24, .c (.int .i64 (1))], some 25, none, []⟩, ⟨.inl .mov, [.t 25], some 6, none, []⟩, ⟨.inl .mov, [.c (.int .i64 (0))], some 7, none, []⟩] none)
 (.seq (.block 0 (.loop lb45_5))
 sq45_21))

def sp45_23 : AC := (.seq (.reg [⟨.inl .mov, [.t 0], some 17, none, []⟩, ⟨.inl .mov, [.t 1], some 18, none, []⟩, ⟨.inl (.bin .sub), [.t 18, .c (.int .i64 (1))], some 19, none, []⟩, ⟨.inl (.bin .quo), [.t 19, .c (.int .i64 (2))], some 20, none, []⟩, ⟨.inl .mov, [.t 1], some 21, none, []⟩, ⟨.inr (.call true true 47), [.t 17, .t 20, .t 21], some 22, none, []⟩, ⟨.inl (.bin .neq), [.t 22, .c (.int .i64 (1))], some 23, none, []⟩] none)
 (.cond (.t 23) st45_1 .skip))

def sp45_24 : AC := (.seq (.reg [⟨.inl .mov, [.t 0], some 15, none, []⟩, ⟨.inl (.bin .eql), [.t 15, .c (.int .i64 (0))], some 16, none, []⟩] none)
 (.cond (.t 16) st45_0 .skip))

/-- olivette/prime.root -/
def af45 : AFunc := ⟨2,
 (.seq (.reg [⟨.inl .mov, [.c (.int .i64 (0))], some 4, none, []⟩, ⟨.inl .mov, [.c (.bool false)], some 5, none, []⟩] none)
 (.seq sp45_24
 (.seq sp45_23
 sq45_22))),
 [.t 4, .t 5]⟩

def sq46_0 : AC := (.seq (.reg [⟨.inl .mov, [.t 0], some 7, none, []⟩, ⟨.inl .mov, [.t 1], some 8, none, []⟩, ⟨.inl (.bin .mul), [.t 7, .t 8], some 9, none, []⟩, ⟨.inl .mov, [.t 2], some 10, none, []⟩, ⟨.inl (.bin .rem), [.t 9, .t 10], some 11, none, []⟩, ⟨.inl .mov, [.t 11], some 6, none, []⟩] none)
 .ret)

/-- olivette/prime.mul -/
def af46 : AFunc := ⟨3,
 (.seq (.reg [⟨.inl .mov, [.c (.int .i64 (0))], some 6, none, []⟩] none)
 sq46_0),
 [.t 6]⟩

def st47_0 : AC := (.reg [⟨.inl .mov, [.t 7], some 17, none, []⟩, ⟨.inl .mov, [.t 0], some 18, none, []⟩, ⟨.inl .mov, [.t 2], some 19, none, []⟩, ⟨.inr (.call true true 46), [.t 17, .t 18, .t 19], some 20, none, []⟩, ⟨.inl .mov, [.t 20], some 7, none, []⟩] none)

def sq47_1 : AC := (.reg [⟨.inl .mov, [.t 0], some 21, none, []⟩, ⟨.inl .mov, [.t 0], some 22, none, []⟩, ⟨.inl .mov, [.t 2], some 23, none, []⟩, ⟨.inr (.call true true 46), [.t 21, .t 22, .t 23], some 24, none, []⟩, ⟨.inl .mov, [.t 24], some 0, none, []⟩] none)

def sp47_2 : AC := (.seq (.reg [⟨.inl .mov, [.t 1], some 14, none, []⟩, ⟨.inl (.bin .and), [.t 14, .c (.int .i64 (1))], some 15, none, []⟩, ⟨.inl (.bin .eql), [.t 15, .c (.int .i64 (1))], some 16, none, []⟩] none)
 (.cond (.t 16) st47_0 .skip))

def sq47_3 : AC := (.reg [⟨.inl .mov, [.t 1], some 12, none, []⟩, ⟨.inl (.bin .shr), [.t 12, .c (.int .u64 (1))], some 13, none, []⟩, ⟨.inl .mov, [.t 13], some 1, none, []⟩] none)

def sp47_4 : AC := (.seq (.reg [⟨.inl .mov, [.t 1], some 10, none, []⟩, ⟨.inl (.bin .gtr), [.t 10, .c (.int .i64 (0))], some 11, none, []⟩] none)
 (.cond (.t 11) .skip (.exit 0)))

def lb47_5 : AC := (.pre [0, 1, 2, 7] (.seq sp47_4
 (.seq (.block 1 (.seq sp47_2
 sq47_1))
 sq47_3)))

def sq47_6 : AC := (.seq (.block 0 (.loop lb47_5))
 (.pre [7] (.seq (.reg [⟨.inl .mov, [.t 7], some 25, none, []⟩, ⟨.inl .mov, [.t 25], some 6, none, []⟩] none)
 .ret)))

def sq47_7 : AC := (.seq (.reg [⟨.inl .mov, [.t 2], some 8, none, []⟩, ⟨.inl (.bin .rem), [.c (.int .i64 (1)), .t 8], some 9, none, []⟩, ⟨.inl .mov, [.t 9], some 7, none, []⟩] none)
 sq47_6)

/-- olivette/prime.power -/
def af47 : AFunc := ⟨3,
 (.seq (.reg [⟨.inl .mov, [.c (.int .i64 (0))], some 6, none, []⟩] none)
 sq47_7),
 [.t 6]⟩

def sq48_0 : AC := (.seq (.reg [⟨.inl (.ld false 1), [.t 5], some 8, none, []⟩, ⟨.inl (.mkfn 65), [.t 2, .t 5, .t 3], some 9, none, []⟩, ⟨.inr (.call false true 58), [.t 8, .t 9], some 10, none, []⟩] none)
 (.seq (.reg [⟨.inl (.ld false 1), [.t 5], some 11, none, []⟩, ⟨.inl .mov, [.t 11], some 4, none, []⟩] none)
 .ret))

def sq48_1 : AC := (.seq (.reg [⟨.inl (.ld false 1), [.t 3], some 6, none, []⟩, ⟨.inr (.call true true 64), [.t 6], some 7, none, []⟩, ⟨.inr (.alloc true [.int .i64 0]), [], some 5, none, []⟩, ⟨.inr (.st 1), [.t 5, .t 7], none, none, []⟩] none)
 sq48_0)

/-- olivette/prime.order -/
def af48 : AFunc := ⟨2,
 (.seq (.reg [⟨.inr (.box true), [.t 0], some 2, none, []⟩, ⟨.inr (.box true), [.t 1], some 3, none, []⟩, ⟨.inl .mov, [.c (.int .i64 (0))], some 4, none, []⟩] none)
 sq48_1),
 [.t 4]⟩

def sq49_0 : AC := (.seq (.reg [⟨.inl .mov, [.t 1], some 5, none, []⟩, ⟨.inr (.call true true 41), [.t 5], some 6, none, []⟩, ⟨.inl .mov, [.t 6], some 7, none, []⟩, ⟨.inl .mov, [.t 0], some 8, some (7, true), []⟩, ⟨.inl (.bin .geq), [.t 8, .c (.int .i64 (0))], some 9, some (7, true), []⟩, ⟨.inl .pick, [.t 7, .t 9, .c (.bool false)], some 10, none, []⟩, ⟨.inl .mov, [.t 10], some 11, none, []⟩, ⟨.inl .mov, [.t 0], some 12, some (11, true), []⟩, ⟨.inl .mov, [.t 1], some 13, some (11, true), []⟩, ⟨.inl (.bin .lss), [.t 12, .t 13], some 14, some (11, true), []⟩, ⟨.inl .pick, [.t 11, .t 14, .c (.bool false)], some 15, none, []⟩, ⟨.inl .mov, [.t 15], some 4, none, []⟩] none)
 .ret)

/-- olivette/prime.isRest -/
def af49 : AFunc := ⟨2,
 (.seq (.reg [⟨.inl .mov, [.c (.bool false)], some 4, none, []⟩] none)
 sq49_0),
 [.t 4]⟩

def sq50_0 : AC := (.reg [⟨.inl .mov, [.t 7], some 20, none, []⟩, ⟨.inl .mov, [.t 6], some 21, none, []⟩, ⟨.inl .mov, [.t 8], some 22, none, []⟩, ⟨.inl .mov, [.t 7], some 23, none, []⟩, ⟨.inl (.bin .mul), [.t 22, .t 23], some 24, none, []⟩, ⟨.inl (.bin .sub), [.t 21, .t 24], some 25, none, []⟩, ⟨.inl .mov, [.t 20], some 6, none, []⟩, ⟨.inl .mov, [.t 25], some 7, none, []⟩] none)

def sq50_1 : AC := (.seq (.reg [⟨.inl .mov, [.t 1], some 14, none, []⟩, ⟨.inl .mov, [.t 0], some 15, none, []⟩, ⟨.inl .mov, [.t 8], some 16, none, []⟩, ⟨.inl .mov, [.t 1], some 17, none, []⟩, ⟨.inl (.bin .mul), [.t 16, .t 17], some 18, none, []⟩, ⟨.inl (.bin .sub), [.t 15, .t 18], some 19, none, []⟩, ⟨.inl .mov, [.t 14], some 0, none, []⟩, ⟨.inl .mov, [.t 19], some 1, none, []⟩] none)
 sq50_0)

def sq50_2 : AC := (.block 1 (.seq (.reg [⟨.inl .mov, [.t 0], some 11, none, []⟩, ⟨.inl .mov, [.t 1], some 12, none, []⟩, ⟨.inl (.bin .quo), [.t 11, .t 12], some 13, none, []⟩, ⟨.inl .mov, [.t 13], some 8, none, []⟩] none)
 sq50_1))

def sp50_3 : AC := (.seq (.reg [⟨.inl .mov, [.t 1], some 9, none, []⟩, ⟨.inl (.bin .neq), [.t 9, .c (.int .i64 (0))], some 10, none, []⟩] none)
 (.cond (.t 10) .skip (.exit 0)))

def lb50_4 : AC := (.pre [0, 1, 6, 7] (.seq sp50_3
 sq50_2))

def sq50_5 : AC := (.pre [0, 6] (.seq (.reg [⟨.inl .mov, [.t 0], some 26, none, []⟩, ⟨.inl .mov, [.t 6], some 27, none, []⟩, ⟨.inl .mov, [.t 26], some 4, none, []⟩, ⟨.inl .mov, [.t 27], some 5, none, []⟩] none)
 .ret))

def sq50_6 : AC := (.seq (.reg [⟨.inl .mov, [.c (.int .i64 (1))], some 6, none, []⟩, ⟨.inl .mov, [.c (.int .i64 (0))], some 7, none, []⟩] none)
 (.seq (.block 0 (.loop lb50_4))
 sq50_5))

/-- olivette/prime.euclid -/
def af50 : AFunc := ⟨2,
 (.seq (.reg [⟨.inl .mov, [.c (.int .i64 (0))], some 4, none, []⟩, ⟨.inl .mov, [.c (.int .i64 (0))], some 5, none, []⟩] none)
 sq50_6),
 [.t 4, .t 5]⟩

def sq51_0 : AC := (.seq (.reg [⟨.inl .mov, [.t 0], some 48, none, []⟩, ⟨.inl .mov, [.t 1], some 49, none, []⟩, ⟨.inl (.bin .mul), [.t 48, .t 49], some 50, none, []⟩, ⟨.inl .mov, [.t 50], some 5, none, []⟩] none)
 .ret)

def sq51_1 : AC := (.seq (.reg [⟨.inl .mov, [.t 7], some 40, none, []⟩, ⟨.inl .mov, [.t 9], some 41, none, []⟩, ⟨.inl (.bin .mul), [.t 40, .t 41], some 42, none, []⟩, ⟨.inl .mov, [.t 13], some 43, none, []⟩, ⟨.inl (.bin .add), [.t 42, .t 43], some 44, none, []⟩, ⟨.inl .mov, [.t 12], some 45, none, []⟩, ⟨.inl (.bin .shr), [.t 45, .c (.int .u64 (32))], some 46, none, []⟩, ⟨.inl (.bin .add), [.t 44, .t 46], some 47, none, []⟩, ⟨.inl .mov, [.t 47], some 4, none, []⟩] none)
 sq51_0)

def sq51_2 : AC := (.seq (.reg [⟨.inl .mov, [.t 12], some 35, none, []⟩, ⟨.inl .mov, [.t 6], some 36, none, []⟩, ⟨.inl .mov, [.t 9], some 37, none, []⟩, ⟨.inl (.bin .mul), [.t 36, .t 37], some 38, none, []⟩, ⟨.inl (.bin .add), [.t 35, .t 38], some 39, none, []⟩, ⟨.inl .mov, [.t 39], some 12, none, []⟩] none)
 sq51_1)

def sq51_3 : AC := (.seq (.reg [⟨.inl .mov, [.t 11], some 33, none, []⟩, ⟨.inl (.bin .shr), [.t 33, .c (.int .u64 (32))], some 34, none, []⟩, ⟨.inl .mov, [.t 34], some 13, none, []⟩] none)
 sq51_2)

def sq51_4 : AC := (.seq (.reg [⟨.inl .mov, [.t 11], some 31, none, []⟩, ⟨.inl (.bin .and), [.t 31, .c (.int .u64 (4294967295))], some 32, none, []⟩, ⟨.inl .mov, [.t 32], some 12, none, []⟩] none)
 sq51_3)

def sq51_5 : AC := (.seq (.reg [⟨.inl .mov, [.t 7], some 25, none, []⟩, ⟨.inl .mov, [.t 8], some 26, none, []⟩, ⟨.inl (.bin .mul), [.t 25, .t 26], some 27, none, []⟩, ⟨.inl .mov, [.t 10], some 28, none, []⟩, ⟨.inl (.bin .shr), [.t 28, .c (.int .u64 (32))], some 29, none, []⟩, ⟨.inl (.bin .add), [.t 27, .t 29], some 30, none, []⟩, ⟨.inl .mov, [.t 30], some 11, none, []⟩] none)
 sq51_4)

def sq51_6 : AC := (.seq (.reg [⟨.inl .mov, [.t 6], some 22, none, []⟩, ⟨.inl .mov, [.t 8], some 23, none, []⟩, ⟨.inl (.bin .mul), [.t 22, .t 23], some 24, none, []⟩, ⟨.inl .mov, [.t 24], some 10, none, []⟩] none)
 sq51_5)

def sq51_7 : AC := (.seq (.reg [⟨.inl .mov, [.t 1], some 20, none, []⟩, ⟨.inl (.bin .shr), [.t 20, .c (.int .u64 (32))], some 21, none, []⟩, ⟨.inl .mov, [.t 21], some 9, none, []⟩] none)
 sq51_6)

def sq51_8 : AC := (.seq (.reg [⟨.inl .mov, [.t 1], some 18, none, []⟩, ⟨.inl (.bin .and), [.t 18, .c (.int .u64 (4294967295))], some 19, none, []⟩, ⟨.inl .mov, [.t 19], some 8, none, []⟩] none)
 sq51_7)

def sq51_9 : AC := (.seq (.reg [⟨.inl .mov, [.t 0], some 16, none, []⟩, ⟨.inl (.bin .shr), [.t 16, .c (.int .u64 (32))], some 17, none, []⟩, ⟨.inl .mov, [.t 17], some 7, none, []⟩] none)
 sq51_8)

def sq51_10 : AC := (.seq (.reg [⟨.inl .mov, [.t 0], some 14, none, []⟩, ⟨.inl (.bin .and), [.t 14, .c (.int .u64 (4294967295))], some 15, none, []⟩, ⟨.inl .mov, [.t 15], some 6, none, []⟩] none)
 sq51_9)

/-- math/bits.Mul64 -/
def af51 : AFunc := ⟨2,
 (.seq (.reg [⟨.inl .mov, [.c (.int .u64 (0))], some 4, none, []⟩, ⟨.inl .mov, [.c (.int .u64 (0))], some 5, none, []⟩] none)
 sq51_10),
 [.t 4, .t 5]⟩

def sq53_0 : AC := (.seq (.reg [⟨.inl .mov, [.t 1], some 11, none, []⟩, ⟨.inl .mov, [.t 11], some 0, none, []⟩] none)
 (.reg [⟨.inl .mov, [.t 5], some 12, none, []⟩, ⟨.inl .mov, [.t 12], some 1, none, []⟩] none))

def sq53_1 : AC := (.block 1 (.seq (.reg [⟨.inl .mov, [.t 0], some 8, none, []⟩, ⟨.inl .mov, [.t 1], some 9, none, []⟩, ⟨.inl (.bin .rem), [.t 8, .t 9], some 10, none, []⟩, ⟨.inl .mov, [.t 10], some 5, none, []⟩] none)
 sq53_0))

def sp53_2 : AC := (.seq (.reg [⟨.inl .mov, [.t 1], some 6, none, []⟩, ⟨.inl (.bin .gtr), [.t 6, .c (.int .i64 (0))], some 7, none, []⟩] none)
 (.cond (.t 7) .skip (.exit 0)))

def lb53_3 : AC := (.pre [0, 1] (.seq sp53_2
 sq53_1))

def sq53_4 : AC := (.seq (.block 0 (.loop lb53_3))
 (.pre [0] (.seq (.reg [⟨.inl .mov, [.t 0], some 13, none, []⟩, ⟨.inl .mov, [.t 13], some 4, none, []⟩] none)
 .ret)))

/-- olivette/olivetteref01.Gcd -/
def af53 : AFunc := ⟨2,
 (.seq (.reg [⟨.inl .mov, [.c (.int .i64 (0))], some 4, none, []⟩] none)
 sq53_4),
 [.t 4]⟩

def st54_0 : AC := (.seq (.reg [⟨.inl (.ld false 1), [.t 3], some 17, none, []⟩, ⟨.inl .mov, [.t 0], some 18, none, []⟩, ⟨.inl (.bld [.int .i64 0, .int .i64 0, .nilS] [(0, 1), (1, 1)]), [.c (.int .i64 (2)), .c (.int .i64 (1))], some 19, none, []⟩, ⟨.inr (.upM [some .i64]), [.t 17, .t 18, .t 19], none, none, []⟩] none)
 .ret)

def sq54_1 : AC := (.block 1 (.reg [⟨.inl .mov, [.t 7], some 29, none, []⟩, ⟨.inl (.bin .add), [.t 29, .c (.int .i64 (1))], some 30, none, []⟩, ⟨.inl .mov, [.t 30], some 7, none, []⟩] none))

def sp54_2 : AC := (.seq (.reg [⟨.inl .mov, [.t 7], some 24, none, []⟩, ⟨.inl .mov, [.t 0], some 25, none, []⟩, ⟨.inl (.ld false 1), [.t 6], some 26, none, []⟩, ⟨.inr (.call true true 60), [.t 24, .t 25, .t 26], some 27, none, []⟩, ⟨.inl (.un .not), [.t 27], some 28, none, []⟩] none)
 (.cond (.t 28) .skip (.exit 0)))

def lb54_3 : AC := (.pre [0, 3, 6, 7] (.seq sp54_2
 sq54_1))

def sq54_4 : AC := (.pre [0, 3, 6, 7] (.reg [⟨.inl (.ld false 1), [.t 3], some 31, none, []⟩, ⟨.inl .mov, [.t 0], some 32, none, []⟩, ⟨.inl .mov, [.t 0], some 33, none, []⟩, ⟨.inl .mov, [.t 7], some 34, none, []⟩, ⟨.inl (.ld false 1), [.t 6], some 35, none, []⟩, ⟨.inl (.bld [.int .i64 0, .int .i64 0, .nilS] [(0, 1), (1, 1), (2, 1)]), [.t 33, .t 34, .t 35], some 36, none, []⟩, ⟨.inr (.upM [some .i64]), [.t 31, .t 32, .t 36], none, none, []⟩] none))

def sq54_5 : AC := (.seq (.reg [⟨.inl .mov, [.t 0], some 20, none, []⟩, ⟨.inl (.bin .sub), [.t 20, .c (.int .i64 (1))], some 21, none, []⟩, ⟨.inl (.mkfn 66), [.t 6, .t 3], some 22, none, []⟩, ⟨.inr (.call false true 58), [.t 21, .t 22], some 23, none, []⟩] none)
 (.seq (.reg [⟨.inl .mov, [.c (.int .i64 (2))], some 7, none, []⟩] none)
 (.seq (.block 0 (.loop lb54_3))
 sq54_4)))

def sp54_6 : AC := (.seq (.reg [⟨.inl .mov, [.t 0], some 15, none, []⟩, ⟨.inl (.bin .eql), [.t 15, .c (.int .i64 (2))], some 16, none, []⟩] none)
 (.cond (.t 16) st54_0 .skip))

def sp54_7 : AC := (.seq (.reg [⟨.inl (.ld false 1), [.t 3], some 9, none, []⟩, ⟨.inl .mov, [.t 0], some 10, none, []⟩, ⟨.inr (.lkM [some .i64] true (.agg [.int .i64 0, .int .i64 0, .nilS])), [.t 9, .t 10], some 11, none, []⟩, ⟨.inl .mov, [.t 11], some 8, none, []⟩, ⟨.inl (.ext 0), [.t 8], some 12, none, []⟩, ⟨.inl (.ext 1), [.t 8], some 13, none, []⟩, ⟨.inr (.alloc false [.int .i64 0, .int .i64 0, .nilS]), [], some 4, none, []⟩, ⟨.inr (.st 3), [.t 4, .t 12], none, none, []⟩, ⟨.inl .mov, [.t 13], some 5, none, []⟩] none)
 (.seq (.reg [⟨.inl .mov, [.t 5], some 14, none, []⟩] none)
 (.cond (.t 14) .ret .skip)))

/-- olivette/prime.prove -/
def af54 : AFunc := ⟨2,
 (.seq (.reg [⟨.inr (.box false), [.t 1], some 3, none, []⟩] none)
 (.seq sp54_7
 (.seq sp54_6
 (.seq (.reg [⟨.inr (.alloc false [.nilS]), [], some 6, none, []⟩] none)
 sq54_5)))),
 []⟩

def sq58_0 : AC := (.reg [⟨.inl .mov, [.t 5], some 20, none, []⟩, ⟨.inl (.bin .add), [.t 20, .c (.int .i64 (1))], some 21, none, []⟩, ⟨.inl .mov, [.t 21], some 5, none, []⟩] none)

def sq58_1 : AC := (.block 3 (.seq (.reg [⟨.inl .mov, [.t 0], some 17, none, []⟩, ⟨.inl .mov, [.t 4], some 18, none, []⟩, ⟨.inl (.bin .quo), [.t 17, .t 18], some 19, none, []⟩, ⟨.inl .mov, [.t 19], some 0, none, []⟩] none)
 sq58_0))

def sp58_2 : AC := (.seq (.reg [⟨.inl .mov, [.t 0], some 13, none, []⟩, ⟨.inl .mov, [.t 4], some 14, none, []⟩, ⟨.inl (.bin .rem), [.t 13, .t 14], some 15, none, []⟩, ⟨.inl (.bin .eql), [.t 15, .c (.int .i64 (0))], some 16, none, []⟩] none)
 (.cond (.t 16) .skip (.exit 2)))

def lb58_3 : AC := (.pre [0, 1, 4, 5] (.seq sp58_2
 sq58_1))

def st58_4 : AC := (.reg [⟨.inl .mov, [.t 1], some 24, none, []⟩, ⟨.inl .mov, [.t 4], some 25, none, []⟩, ⟨.inl .mov, [.t 5], some 26, none, []⟩, ⟨.inr (.callv false true), [.t 24, .t 25, .t 26], some 27, none, []⟩] none)

def sq58_5 : AC := (.pre [0, 1, 4, 5] (.seq (.reg [⟨.inl .mov, [.t 5], some 22, none, []⟩, ⟨.inl (.bin .gtr), [.t 22, .c (.int .i64 (0))], some 23, none, []⟩] none)
 (.cond (.t 23) st58_4 .skip)))

def sq58_6 : AC := (.pre [0, 1, 4] (.reg [⟨.inl .mov, [.t 4], some 11, none, []⟩, ⟨.inl (.bin .add), [.t 11, .c (.int .i64 (1))], some 12, none, []⟩, ⟨.inl .mov, [.t 12], some 4, none, []⟩] none))

def sp58_7 : AC := (.block 1 (.seq (.reg [⟨.inl .mov, [.c (.int .i64 (0))], some 5, none, []⟩] none)
 (.seq (.block 2 (.loop lb58_3))
 sq58_5)))

def sp58_8 : AC := (.seq (.reg [⟨.inl .mov, [.t 4], some 6, none, []⟩, ⟨.inl .mov, [.t 4], some 7, none, []⟩, ⟨.inl (.bin .mul), [.t 6, .t 7], some 8, none, []⟩, ⟨.inl .mov, [.t 0], some 9, none, []⟩, ⟨.inl (.bin .leq), [.t 8, .t 9], some 10, none, []⟩] none)
 (.cond (.t 10) .skip (.exit 0)))

def lb58_9 : AC := (.pre [0, 1, 4] (.seq sp58_8
 (.seq sp58_7
 sq58_6)))

def st58_10 : AC := (.reg [⟨.inl .mov, [.t 1], some 30, none, []⟩, ⟨.inl .mov, [.t 0], some 31, none, []⟩, ⟨.inr (.callv false true), [.t 30, .t 31, .c (.int .i64 (1))], some 32, none, []⟩] none)

def sq58_11 : AC := (.pre [0, 1] (.seq (.reg [⟨.inl .mov, [.t 0], some 28, none, []⟩, ⟨.inl (.bin .gtr), [.t 28, .c (.int .i64 (1))], some 29, none, []⟩] none)
 (.cond (.t 29) st58_10 .skip)))

/-- olivette/prime.divide -/
def af58 : AFunc := ⟨2,
 (.seq (.seq (.reg [⟨.inl .mov, [.c (.int .i64 (2))], some 4, none, []⟩] none)
 (.block 0 (.loop lb58_9)))
 sq58_11),
 []⟩

/-- olivette/prime.Generator$1 -/
def af59 : AFunc := ⟨3,
 (.reg [⟨.inl (.ld false 1), [.t 2], some 5, none, []⟩, ⟨.inl .mov, [.t 0], some 6, none, []⟩, ⟨.inr (.bldS true true 1 1 [.int .i64 0] [(0, 1)]), [.t 6], some 7, none, []⟩, ⟨.inr (.app false 1 8), [.t 5, .t 7], some 8, none, []⟩, ⟨.inr (.st 1), [.t 2, .t 8], none, none, []⟩] none),
 []⟩

def sq60_0 : AC := (.seq (.reg [⟨.inl .mov, [.t 2], some 13, none, []⟩, ⟨.inl (.mkfn 72), [.t 3, .t 4], some 14, none, []⟩, ⟨.inr (.call true true 71), [.t 13, .t 14], some 15, none, []⟩, ⟨.inl (.un .not), [.t 15], some 16, none, []⟩, ⟨.inl .mov, [.t 16], some 6, none, []⟩] none)
 .ret)

def sp60_1 : AC := (.seq (.reg [⟨.inl (.ld false 1), [.t 3], some 7, none, []⟩, ⟨.inl (.ld false 1), [.t 4], some 8, none, []⟩, ⟨.inl (.bin .sub), [.t 8, .c (.int .i64 (1))], some 9, none, []⟩, ⟨.inl (.ld false 1), [.t 4], some 10, none, []⟩, ⟨.inr (.call true true 47), [.t 7, .t 9, .t 10], some 11, none, []⟩, ⟨.inl (.bin .neq), [.t 11, .c (.int .i64 (1))], some 12, none, []⟩] none)
 (.cond (.t 12) (.seq (.reg [⟨.inl .mov, [.c (.bool false)], some 6, none, []⟩] none)
 .ret) .skip))

/-- olivette/prime.isWitness -/
def af60 : AFunc := ⟨3,
 (.seq (.reg [⟨.inr (.box true), [.t 0], some 3, none, []⟩, ⟨.inr (.box true), [.t 1], some 4, none, []⟩, ⟨.inl .mov, [.c (.bool false)], some 6, none, []⟩] none)
 (.seq sp60_1
 sq60_0)),
 [.t 6]⟩

/-- olivette/prime.factor$1 -/
def af62 : AFunc := ⟨3,
 (.reg [⟨.inl (.ld false 1), [.t 2], some 5, none, []⟩, ⟨.inl .mov, [.t 0], some 6, none, []⟩, ⟨.inl .mov, [.t 1], some 7, none, []⟩, ⟨.inl (.bld [.int .i64 0, .int .i64 0] [(0, 1), (1, 1)]), [.t 6, .t 7], some 8, none, []⟩, ⟨.inr (.bldS true true 2 1 [.int .i64 0, .int .i64 0] [(0, 2)]), [.t 8], some 9, none, []⟩, ⟨.inr (.app false 2 16), [.t 5, .t 9], some 10, none, []⟩, ⟨.inr (.st 1), [.t 2, .t 10], none, none, []⟩] none),
 []⟩

def sq63_0 : AC := (.seq (.reg [⟨.inl .mov, [.t 3], some 6, none, []⟩, ⟨.inl .len, [.t 6], some 7, none, []⟩, ⟨.inl (.bin .eql), [.t 7, .c (.int .i64 (1))], some 8, none, []⟩, ⟨.inl .mov, [.t 8], some 9, none, []⟩, ⟨.inl .mov, [.t 3], some 10, some (9, true), []⟩, ⟨.inl (.idxA 2), [.t 10, .c (.int .i64 (0))], some 11, some (9, true), []⟩, ⟨.inl (.fldA 1), [.t 11], some 12, some (9, true), []⟩, ⟨.inl (.ld false 1), [.t 12], some 13, some (9, true), []⟩, ⟨.inl (.bin .eql), [.t 13, .c (.int .i64 (1))], some 14, some (9, true), []⟩, ⟨.inl .pick, [.t 9, .t 14, .c (.bool false)], some 15, none, []⟩, ⟨.inl .mov, [.t 15], some 2, none, []⟩] none)
 .ret)

def sq63_1 : AC := (.seq (.reg [⟨.inl .mov, [.t 0], some 4, none, []⟩, ⟨.inr (.call true true 42), [.t 4], some 5, none, []⟩, ⟨.inl .mov, [.t 5], some 3, none, []⟩] none)
 sq63_0)

/-- olivette/prime.isPrime -/
def af63 : AFunc := ⟨1,
 (.seq (.reg [⟨.inl .mov, [.c (.bool false)], some 2, none, []⟩] none)
 sq63_1),
 [.t 2]⟩

def sq64_0 : AC := (.seq (.reg [⟨.inl .mov, [.t 0], some 5, none, []⟩, ⟨.inl (.mkfn 74), [.t 3], some 6, none, []⟩, ⟨.inr (.call false true 58), [.t 5, .t 6], some 7, none, []⟩] none)
 (.seq (.reg [⟨.inl (.ld false 1), [.t 3], some 8, none, []⟩, ⟨.inl .mov, [.t 8], some 2, none, []⟩] none)
 .ret))

def sq64_1 : AC := (.seq (.reg [⟨.inl .mov, [.t 0], some 4, none, []⟩, ⟨.inr (.alloc true [.int .i64 0]), [], some 3, none, []⟩, ⟨.inr (.st 1), [.t 3, .t 4], none, none, []⟩] none)
 sq64_0)

/-- olivette/prime.totient -/
def af64 : AFunc := ⟨1,
 (.seq (.reg [⟨.inl .mov, [.c (.int .i64 (0))], some 2, none, []⟩] none)
 sq64_1),
 [.t 2]⟩

def sq65_0 : AC := (.reg [⟨.inl .mov, [.t 1], some 20, none, []⟩, ⟨.inl (.bin .sub), [.t 20, .c (.int .i64 (1))], some 21, none, []⟩, ⟨.inl .mov, [.t 21], some 1, none, []⟩] none)

def sp65_1 : AC := (.block 1 (.reg [⟨.inl (.ld false 1), [.t 3], some 22, none, []⟩, ⟨.inl .mov, [.t 0], some 23, none, []⟩, ⟨.inl (.bin .quo), [.t 22, .t 23], some 24, none, []⟩, ⟨.inr (.st 1), [.t 3, .t 24], none, none, []⟩] none))

def sp65_2 : AC := (.seq (.reg [⟨.inl .mov, [.t 1], some 7, none, []⟩, ⟨.inl (.bin .gtr), [.t 7, .c (.int .i64 (0))], some 8, none, []⟩, ⟨.inl .mov, [.t 8], some 9, none, []⟩, ⟨.inl (.ld false 1), [.t 2], some 10, some (9, true), []⟩, ⟨.inl (.ld false 1), [.t 3], some 11, some (9, true), []⟩, ⟨.inl .mov, [.t 0], some 12, some (9, true), []⟩, ⟨.inl (.bin .quo), [.t 11, .t 12], some 13, some (9, true), []⟩, ⟨.inl (.ld false 1), [.t 4], some 14, some (9, true), []⟩, ⟨.inr (.call true true 47), [.t 10, .t 13, .t 14], some 15, some (9, true), []⟩, ⟨.inl (.ld false 1), [.t 4], some 16, some (9, true), []⟩, ⟨.inl (.bin .rem), [.c (.int .i64 (1)), .t 16], some 17, some (9, true), []⟩, ⟨.inl (.bin .eql), [.t 15, .t 17], some 18, some (9, true), []⟩, ⟨.inl .pick, [.t 9, .t 18, .c (.bool false)], some 19, none, []⟩] (some ([0, 1, 2, 3, 4, 5, 6, 7, 8, 9, 10, 11, 12], [], [0, 1, 3, 7, 7, 7, 55, 7, 255, 7, 519, 2047, 4095])))
 (.cond (.t 19) .skip (.exit 0)))

def lb65_3 : AC := (.pre [0, 1, 2, 3, 4] (.seq sp65_2
 (.seq sp65_1
 sq65_0)))

/-- olivette/prime.order$1 -/
def af65 : AFunc := ⟨5,
 (.block 0 (.loop lb65_3)),
 []⟩

def sq66_0 : AC := (.reg [⟨.inl .mov, [.t 0], some 10, none, []⟩, ⟨.inl (.ld false 1), [.t 3], some 11, none, []⟩, ⟨.inr (.call false true 54), [.t 10, .t 11], some 12, none, []⟩] none)

/-- olivette/prime.prove$1 -/
def af66 : AFunc := ⟨4,
 (.seq (.reg [⟨.inl (.ld false 1), [.t 2], some 6, none, []⟩, ⟨.inl .mov, [.t 0], some 7, none, []⟩, ⟨.inr (.bldS true true 1 1 [.int .i64 0] [(0, 1)]), [.t 7], some 8, none, []⟩, ⟨.inr (.app false 1 8), [.t 6, .t 8], some 9, none, []⟩, ⟨.inr (.st 1), [.t 2, .t 9], none, none, []⟩] none)
 sq66_0),
 []⟩

def sq71_0 : AC := (.seq (.reg [⟨.inl .mov, [.t 0], some 5, none, []⟩, ⟨.inl .mov, [.t 1], some 6, none, []⟩, ⟨.inr (.call true true 78), [.t 5, .t 6], some 7, none, []⟩, ⟨.inl (.bin .geq), [.t 7, .c (.int .i64 (0))], some 8, none, []⟩, ⟨.inl .mov, [.t 8], some 4, none, []⟩] none)
 .ret)

/-- slices.ContainsFunc[[]int,int] -/
def af71 : AFunc := ⟨2,
 (.seq (.reg [⟨.inl .mov, [.c (.bool false)], some 4, none, []⟩] none)
 sq71_0),
 [.t 4]⟩

def sq72_0 : AC := (.seq (.reg [⟨.inl (.ld false 1), [.t 1], some 5, none, []⟩, ⟨.inl (.ld false 1), [.t 2], some 6, none, []⟩, ⟨.inl (.bin .sub), [.t 6, .c (.int .i64 (1))], some 7, none, []⟩, ⟨.inl .mov, [.t 0], some 8, none, []⟩, ⟨.inl (.bin .quo), [.t 7, .t 8], some 9, none, []⟩, ⟨.inl (.ld false 1), [.t 2], some 10, none, []⟩, ⟨.inr (.call true true 47), [.t 5, .t 9, .t 10], some 11, none, []⟩, ⟨.inl (.bin .eql), [.t 11, .c (.int .i64 (1))], some 12, none, []⟩, ⟨.inl .mov, [.t 12], some 4, none, []⟩] (some ([0, 1, 2, 3, 4, 5, 6, 7, 8], [], [0, 0, 2, 0, 14, 0, 63, 127, 255])))
 .ret)

/-- olivette/prime.isWitness$1 -/
def af72 : AFunc := ⟨3,
 (.seq (.reg [⟨.inl .mov, [.c (.bool false)], some 4, none, []⟩] none)
 sq72_0),
 [.t 4]⟩

/-- olivette/prime.totient$1 -/
def af74 : AFunc := ⟨3,
 (.reg [⟨.inl (.ld false 1), [.t 2], some 5, none, []⟩, ⟨.inl .mov, [.t 0], some 6, none, []⟩, ⟨.inl (.bin .quo), [.t 5, .t 6], some 7, none, []⟩, ⟨.inl .mov, [.t 0], some 8, none, []⟩, ⟨.inl (.bin .sub), [.t 8, .c (.int .i64 (1))], some 9, none, []⟩, ⟨.inl (.bin .mul), [.t 7, .t 9], some 10, none, []⟩, ⟨.inr (.st 1), [.t 2, .t 10], none, none, []⟩] none),
 []⟩

def sq78_0 : AC := (.cond (.t 16) (.seq (.reg [⟨.inl .mov, [.t 5], some 17, none, []⟩, ⟨.inl .mov, [.t 17], some 4, none, []⟩] none)
 .ret) .skip)

def sq78_1 : AC := (.seq (.reg [⟨.inl .mov, [.t 1], some 11, none, []⟩, ⟨.inl .mov, [.t 0], some 12, none, []⟩, ⟨.inl .mov, [.t 5], some 13, none, []⟩, ⟨.inl (.idxA 1), [.t 12, .t 13], some 14, none, []⟩, ⟨.inl (.ld false 1), [.t 14], some 15, none, []⟩, ⟨.inr (.callv true true), [.t 11, .t 15], some 16, none, []⟩] none)
 sq78_0)

def sq78_2 : AC := (.seq (.block 1 (.seq (.reg [⟨.inl .mov, [.t 8], some 10, none, []⟩, ⟨.inl .mov, [.t 10], some 5, none, []⟩] none)
 sq78_1))
 (.reg [⟨.inl (.bin .add), [.t 8, .c (.int .i64 (1))], some 18, none, []⟩, ⟨.inl .mov, [.t 18], some 8, none, []⟩] none))

def lb78_3 : AC := (.pre [0, 1, 7, 8] (.seq (.reg [⟨.inl (.bin .lss), [.t 8, .t 7], some 9, none, []⟩] none)
 (.seq (.cond (.t 9) .skip (.exit 0))
 sq78_2)))

def sp78_4 : AC := (.seq (.reg [⟨.inl .mov, [.t 0], some 6, none, []⟩, ⟨.inl .len, [.t 6], some 7, none, []⟩, ⟨.inl .mov, [.c (.int .i64 (0))], some 8, none, []⟩] none)
 (.block 0 (.loop lb78_3)))

/-- slices.IndexFunc[[]int,int] -/
def af78 : AFunc := ⟨2,
 (.seq (.reg [⟨.inl .mov, [.c (.int .i64 (0))], some 4, none, []⟩] none)
 (.seq sp78_4
 (.pre [] (.seq (.reg [⟨.inl .mov, [.c (.int .i64 (-1))], some 4, none, []⟩] none)
 .ret)))),
 [.t 4]⟩


def tab : Nat → Option AFunc
  | 3 => some af3
  | 4 => some af4
  | 5 => some af5
  | 10 => some af10
  | 12 => some af12
  | 16 => some af16
  | 17 => some af17
  | 18 => some af18
  | 19 => some af19
  | 20 => some af20
  | 21 => some af21
  | 22 => some af22
  | 23 => some af23
  | 24 => some af24
  | 25 => some af25
  | 28 => some af28
  | 29 => some af29
  | 30 => some af30
  | 32 => some af32
  | 33 => some af33
  | 34 => some af34
  | 35 => some af35
  | 36 => some af36
  | 37 => some af37
  | 41 => some af41
  | 42 => some af42
  | 43 => some af43
  | 44 => some af44
  | 45 => some af45
  | 46 => some af46
  | 47 => some af47
  | 48 => some af48
  | 49 => some af49
  | 50 => some af50
  | 51 => some af51
  | 53 => some af53
  | 54 => some af54
  | 58 => some af58
  | 59 => some af59
  | 60 => some af60
  | 62 => some af62
  | 63 => some af63
  | 64 => some af64
  | 65 => some af65
  | 66 => some af66
  | 71 => some af71
  | 72 => some af72
  | 74 => some af74
  | 78 => some af78
  | _ => none
def tabI : Nat → Option AFunc
  | _ => none
def types : List (Nat × TS) := [
  (3, ⟨.int .i64, 1, 8, [.int .i64 0]⟩),
  (4, ⟨.bool, 1, 1, [.bool false]⟩),
  (22, ⟨.slice 30, 1, 24, [.nilS]⟩),
  (30, ⟨.struct [(0, 3), (1, 3)], 2, 16, [.int .i64 0, .int .i64 0]⟩),
  (38, ⟨.slice 3, 1, 24, [.nilS]⟩),
  (45, ⟨.slice 51, 1, 24, [.nilS]⟩),
  (47, ⟨.struct [(0, 3), (1, 45)], 2, 32, [.int .i64 0, .nilS]⟩),
  (51, ⟨.struct [(0, 3), (1, 3), (2, 38)], 3, 40, [.int .i64 0, .int .i64 0, .nilS]⟩),
  (61, ⟨.map 3 3, 1, 8, [.nilM]⟩),
  (64, ⟨.int .u64, 1, 8, [.int .u64 0]⟩),
  (68, ⟨.int .u64, 1, 8, [.int .u64 0]⟩),
  (69, ⟨.map 3 51, 1, 8, [.nilM]⟩),
  (83, ⟨.map 3 4, 1, 8, [.nilM]⟩)
]
end Go.AM.Pr
