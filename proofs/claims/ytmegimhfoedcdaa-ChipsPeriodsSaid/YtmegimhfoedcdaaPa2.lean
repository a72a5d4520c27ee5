/- The functions as the abstract machine has them. -/
import Derived.Test.YtmegimhfoedcdaaPa1
namespace Go.AM.Ch
def sq62_5 : AC := (.seq (.reg [⟨.inl .mov, [.t 7], some 57, none, []⟩, ⟨.inl (.conv .u64), [.t 57], some 58, none, []⟩, ⟨.inl .mov, [.t 1], some 59, none, []⟩, ⟨.inl .mov, [.t 8], some 60, none, []⟩, ⟨.inl (.idxA 1), [.t 59, .t 60], some 61, none, []⟩, ⟨.inl (.ld false 1), [.t 61], some 62, none, []⟩, ⟨.inl .mov, [.t 10], some 63, none, []⟩, ⟨.inl (.bin .quo), [.t 62, .t 63], some 64, none, []⟩, ⟨.inl (.conv .u64), [.t 64], some 65, none, []⟩, ⟨.inr (.call true true 90), [.t 58, .t 65], some 66, none, []⟩, ⟨.inl .mov, [.t 66], some 56, none, []⟩, ⟨.inl (.ext 0), [.t 56], some 67, none, []⟩, ⟨.inl (.ext 1), [.t 56], some 68, none, []⟩, ⟨.inl .mov, [.t 67], some 12, none, []⟩, ⟨.inl .mov, [.t 68], some 13, none, []⟩] none)
 (.seq sp62_4
 sq62_3))

def sq62_6 : AC := (.seq (.reg [⟨.inl .mov, [.t 7], some 48, none, []⟩, ⟨.inl .mov, [.t 1], some 49, none, []⟩, ⟨.inl .mov, [.t 8], some 50, none, []⟩, ⟨.inl (.idxA 1), [.t 49, .t 50], some 51, none, []⟩, ⟨.inl (.ld false 1), [.t 51], some 52, none, []⟩, ⟨.inr (.call true true 89), [.t 48, .t 52], some 53, none, []⟩, ⟨.inl .mov, [.t 53], some 47, none, []⟩, ⟨.inl (.ext 0), [.t 47], some 54, none, []⟩, ⟨.inl (.ext 1), [.t 47], some 55, none, []⟩, ⟨.inl .mov, [.t 54], some 10, none, []⟩, ⟨.inl .mov, [.t 55], some 11, none, []⟩] none)
 sq62_5)

def sp62_7 : AC := (.seq (.reg [⟨.inl .mov, [.t 9], some 40, none, []⟩, ⟨.inl .mov, [.t 1], some 41, none, []⟩, ⟨.inl .mov, [.t 8], some 42, none, []⟩, ⟨.inl (.idxA 1), [.t 41, .t 42], some 43, none, []⟩, ⟨.inl (.ld false 1), [.t 43], some 44, none, []⟩, ⟨.inr (.call true true 88), [.t 40, .t 44], some 45, none, []⟩, ⟨.inl (.un .not), [.t 45], some 46, none, []⟩] none)
 (.cond (.t 46) st62_1 .skip))

def sq62_8 : AC := (.reg [⟨.inl (.bin .add), [.t 35, .c (.int .i64 (1))], some 77, none, []⟩, ⟨.inl .mov, [.t 77], some 35, none, []⟩] none)

def sp62_9 : AC := (.block 1 (.seq (.reg [⟨.inl .mov, [.t 35], some 37, none, []⟩, ⟨.inl (.idxA 1), [.t 33, .t 35], some 38, none, []⟩, ⟨.inl (.ld false 1), [.t 38], some 39, none, []⟩, ⟨.inl .mov, [.t 37], some 8, none, []⟩, ⟨.inl .mov, [.t 39], some 9, none, []⟩] none)
 (.seq sp62_7
 sq62_6)))

def lb62_10 : AC := (.pre [0, 1, 7, 33, 34, 35] (.seq (.reg [⟨.inl (.bin .lss), [.t 35, .t 34], some 36, none, []⟩] none)
 (.seq (.cond (.t 36) .skip (.exit 0))
 (.seq sp62_9
 sq62_8))))

def st62_11 : AC := (.seq (.reg [⟨.inl .mov, [.c (.int .i64 (0))], some 4, none, []⟩, ⟨.inl .mov, [.c (.int .i64 (0))], some 5, none, []⟩, ⟨.inl .mov, [.c (.int .i64 (6))], some 6, none, []⟩] none)
 .ret)

def sq62_12 : AC := (.reg [⟨.inl .mov, [.t 15], some 146, none, []⟩, ⟨.inl .mov, [.t 20], some 147, none, []⟩, ⟨.inl (.bin .mul), [.t 146, .t 147], some 148, none, []⟩, ⟨.inl .mov, [.t 148], some 15, none, []⟩] none)

def sq62_13 : AC := (.seq (.reg [⟨.inl .mov, [.t 14], some 141, none, []⟩, ⟨.inl .mov, [.t 15], some 142, none, []⟩, ⟨.inl .mov, [.t 22], some 143, none, []⟩, ⟨.inl (.bin .mul), [.t 142, .t 143], some 144, none, []⟩, ⟨.inl (.bin .add), [.t 141, .t 144], some 145, none, []⟩, ⟨.inl .mov, [.t 145], some 14, none, []⟩] none)
 sq62_12)

def sq62_14 : AC := (.seq (.reg [⟨.inl .mov, [.t 21], some 127, none, []⟩, ⟨.inl .mov, [.t 18], some 128, none, []⟩, ⟨.inl (.bin .quo), [.t 127, .t 128], some 129, none, []⟩, ⟨.inl .mov, [.t 20], some 130, none, []⟩, ⟨.inl (.bin .rem), [.t 129, .t 130], some 131, none, []⟩, ⟨.inl .mov, [.t 19], some 132, none, []⟩, ⟨.inl .mov, [.t 20], some 133, none, []⟩, ⟨.inl (.bin .rem), [.t 132, .t 133], some 134, none, []⟩, ⟨.inl .mov, [.t 20], some 135, none, []⟩, ⟨.inl (.bin .add), [.t 134, .t 135], some 136, none, []⟩, ⟨.inl .mov, [.t 20], some 137, none, []⟩, ⟨.inl (.bin .rem), [.t 136, .t 137], some 138, none, []⟩, ⟨.inl .mov, [.t 20], some 139, none, []⟩, ⟨.inr (.call true true 91), [.t 131, .t 138, .t 139], some 140, none, []⟩, ⟨.inl .mov, [.t 140], some 22, none, []⟩] (some ([0, 1, 2, 3, 4, 5, 6, 7, 8, 9, 10, 11, 12, 13, 14], [], [0, 0, 3, 0, 15, 0, 0, 96, 0, 480, 0, 2016, 0, 8191, 16383])))
 sq62_13)

def sp62_15 : AC := (.seq (.reg [⟨.inl .mov, [.t 21], some 123, none, []⟩, ⟨.inl .mov, [.t 18], some 124, none, []⟩, ⟨.inl (.bin .rem), [.t 123, .t 124], some 125, none, []⟩, ⟨.inl (.bin .neq), [.t 125, .c (.int .i64 (0))], some 126, none, []⟩] none)
 (.cond (.t 126) st62_11 .skip))

def sq62_16 : AC := (.seq (.reg [⟨.inl .mov, [.t 17], some 105, none, []⟩, ⟨.inl .mov, [.t 14], some 106, none, []⟩, ⟨.inl (.bin .sub), [.t 105, .t 106], some 107, none, []⟩, ⟨.inl .mov, [.t 1], some 108, none, []⟩, ⟨.inl .mov, [.t 16], some 109, none, []⟩, ⟨.inl (.idxA 1), [.t 108, .t 109], some 110, none, []⟩, ⟨.inl (.ld false 1), [.t 110], some 111, none, []⟩, ⟨.inl (.bin .rem), [.t 107, .t 111], some 112, none, []⟩, ⟨.inl .mov, [.t 1], some 113, none, []⟩, ⟨.inl .mov, [.t 16], some 114, none, []⟩, ⟨.inl (.idxA 1), [.t 113, .t 114], some 115, none, []⟩, ⟨.inl (.ld false 1), [.t 115], some 116, none, []⟩, ⟨.inl (.bin .add), [.t 112, .t 116], some 117, none, []⟩, ⟨.inl .mov, [.t 1], some 118, none, []⟩, ⟨.inl .mov, [.t 16], some 119, none, []⟩, ⟨.inl (.idxA 1), [.t 118, .t 119], some 120, none, []⟩, ⟨.inl (.ld false 1), [.t 120], some 121, none, []⟩, ⟨.inl (.bin .rem), [.t 117, .t 121], some 122, none, []⟩, ⟨.inl .mov, [.t 122], some 21, none, []⟩] (some ([0, 1, 2, 3, 4, 5, 6, 7, 8, 9, 10, 11, 12, 13, 14, 15, 16, 17, 18], [], [0, 0, 3, 0, 0, 24, 56, 127, 0, 0, 768, 1792, 4095, 0, 0, 24576, 57344, 131071, 262143])))
 (.seq sp62_15
 sq62_14))

def sq62_17 : AC := (.seq (.reg [⟨.inl .mov, [.t 1], some 99, none, []⟩, ⟨.inl .mov, [.t 16], some 100, none, []⟩, ⟨.inl (.idxA 1), [.t 99, .t 100], some 101, none, []⟩, ⟨.inl (.ld false 1), [.t 101], some 102, none, []⟩, ⟨.inl .mov, [.t 18], some 103, none, []⟩, ⟨.inl (.bin .quo), [.t 102, .t 103], some 104, none, []⟩, ⟨.inl .mov, [.t 104], some 20, none, []⟩] none)
 sq62_16)

def sq62_18 : AC := (.seq (.reg [⟨.inl .mov, [.t 15], some 86, none, []⟩, ⟨.inl .mov, [.t 1], some 87, none, []⟩, ⟨.inl .mov, [.t 16], some 88, none, []⟩, ⟨.inl (.idxA 1), [.t 87, .t 88], some 89, none, []⟩, ⟨.inl (.ld false 1), [.t 89], some 90, none, []⟩, ⟨.inl (.bin .rem), [.t 86, .t 90], some 91, none, []⟩, ⟨.inl .mov, [.t 1], some 92, none, []⟩, ⟨.inl .mov, [.t 16], some 93, none, []⟩, ⟨.inl (.idxA 1), [.t 92, .t 93], some 94, none, []⟩, ⟨.inl (.ld false 1), [.t 94], some 95, none, []⟩, ⟨.inr (.call true true 89), [.t 91, .t 95], some 96, none, []⟩, ⟨.inl .mov, [.t 96], some 85, none, []⟩, ⟨.inl (.ext 0), [.t 85], some 97, none, []⟩, ⟨.inl (.ext 1), [.t 85], some 98, none, []⟩, ⟨.inl .mov, [.t 97], some 18, none, []⟩, ⟨.inl .mov, [.t 98], some 19, none, []⟩] (some ([0, 1, 2, 3, 4, 5, 6, 7, 8, 9, 10, 11, 12, 13, 14, 15], [], [0, 0, 0, 6, 14, 31, 0, 0, 192, 448, 1023, 2047, 4095, 4095, 8191, 32767])))
 sq62_17)

def sq62_19 : AC := (.reg [⟨.inl (.bin .add), [.t 80, .c (.int .i64 (1))], some 149, none, []⟩, ⟨.inl .mov, [.t 149], some 80, none, []⟩] none)

def sp62_20 : AC := (.block 3 (.seq (.reg [⟨.inl .mov, [.t 80], some 82, none, []⟩, ⟨.inl (.idxA 1), [.t 78, .t 80], some 83, none, []⟩, ⟨.inl (.ld false 1), [.t 83], some 84, none, []⟩, ⟨.inl .mov, [.t 82], some 16, none, []⟩, ⟨.inl .mov, [.t 84], some 17, none, []⟩] none)
 sq62_18))

def lb62_21 : AC := (.pre [1, 7, 14, 15, 78, 79, 80] (.seq (.reg [⟨.inl (.bin .lss), [.t 80, .t 79], some 81, none, []⟩] none)
 (.seq (.cond (.t 81) .skip (.exit 2))
 (.seq sp62_20
 sq62_19))))

def sq62_22 : AC := (.pre [7, 14] (.seq (.reg [⟨.inl .mov, [.t 14], some 150, none, []⟩, ⟨.inl .mov, [.t 7], some 151, none, []⟩, ⟨.inl .mov, [.t 150], some 4, none, []⟩, ⟨.inl .mov, [.t 151], some 5, none, []⟩, ⟨.inl .mov, [.c (.int .i64 (0))], some 6, none, []⟩] none)
 .ret))

def sp62_23 : AC := (.seq (.reg [⟨.inl .mov, [.t 0], some 78, none, []⟩, ⟨.inl .len, [.t 78], some 79, none, []⟩, ⟨.inl .mov, [.c (.int .i64 (0))], some 80, none, []⟩] none)
 (.block 2 (.loop lb62_21)))

def sq62_24 : AC := (.pre [0, 1, 7] (.seq (.reg [⟨.inl .mov, [.c (.int .i64 (0))], some 14, none, []⟩, ⟨.inl .mov, [.c (.int .i64 (1))], some 15, none, []⟩] none)
 (.seq sp62_23
 sq62_22)))

def sp62_25 : AC := (.seq (.reg [⟨.inl .mov, [.t 0], some 33, none, []⟩, ⟨.inl .len, [.t 33], some 34, none, []⟩, ⟨.inl .mov, [.c (.int .i64 (0))], some 35, none, []⟩] none)
 (.block 0 (.loop lb62_10)))

def sp62_26 : AC := (.seq (.reg [⟨.inl .mov, [.t 0], some 23, none, []⟩, ⟨.inl .len, [.t 23], some 24, none, []⟩, ⟨.inl .mov, [.t 1], some 25, none, []⟩, ⟨.inl .len, [.t 25], some 26, none, []⟩, ⟨.inl (.bin .neq), [.t 24, .t 26], some 27, none, []⟩, ⟨.inl .mov, [.t 27], some 28, none, []⟩, ⟨.inl .mov, [.t 0], some 29, some (28, false), []⟩, ⟨.inl .len, [.t 29], some 30, some (28, false), []⟩, ⟨.inl (.bin .gtr), [.t 30, .c (.int .i64 (32))], some 31, some (28, false), []⟩, ⟨.inl .pick, [.t 28, .c (.bool true), .t 31], some 32, none, []⟩] none)
 (.cond (.t 32) st62_0 .skip))

/-- olivette/prime.Common -/
def af62 : AFunc := ⟨2,
 (.seq (.reg [⟨.inl .mov, [.c (.int .i64 (0))], some 4, none, []⟩, ⟨.inl .mov, [.c (.int .i64 (0))], some 5, none, []⟩, ⟨.inl .mov, [.c (.int .i64 (0))], some 6, none, []⟩] none)
 (.seq sp62_26
 (.seq (.reg [⟨.inl .mov, [.c (.int .i64 (1))], some 7, none, []⟩] none)
 (.seq sp62_25
 sq62_24)))),
 [.t 4, .t 5, .t 6]⟩

def sq63_0 : AC := (.reg [⟨.inl .mov, [.t 3], some 12, none, []⟩, ⟨.inl .mov, [.t 5], some 13, none, []⟩, ⟨.inl (.bin .add), [.t 12, .t 13], some 14, none, []⟩, ⟨.inl .mov, [.t 14], some 3, none, []⟩] none)

def sp63_1 : AC := (.block 1 (.seq (.reg [⟨.inl (.idxA 1), [.t 6, .t 8], some 10, none, []⟩, ⟨.inl (.ld false 1), [.t 10], some 11, none, []⟩, ⟨.inl .mov, [.t 11], some 5, none, []⟩] none)
 sq63_0))

def sq63_2 : AC := (.seq sp63_1
 (.reg [⟨.inl (.bin .add), [.t 8, .c (.int .i64 (1))], some 15, none, []⟩, ⟨.inl .mov, [.t 15], some 8, none, []⟩] none))

def lb63_3 : AC := (.pre [3, 6, 7, 8] (.seq (.reg [⟨.inl (.bin .lss), [.t 8, .t 7], some 9, none, []⟩] none)
 (.seq (.cond (.t 9) .skip (.exit 0))
 sq63_2)))

def sp63_4 : AC := (.seq (.reg [⟨.inl .mov, [.t 0], some 6, none, []⟩, ⟨.inl .len, [.t 6], some 7, none, []⟩, ⟨.inl .mov, [.c (.int .i64 (0))], some 8, none, []⟩] none)
 (.block 0 (.loop lb63_3)))

def sq63_5 : AC := (.seq sp63_4
 (.pre [3] (.seq (.reg [⟨.inl .mov, [.t 3], some 16, none, []⟩, ⟨.inl .mov, [.t 16], some 2, none, []⟩] none)
 .ret)))

/-- olivette/chips.sum -/
def af63 : AFunc := ⟨1,
 (.seq (.reg [⟨.inl .mov, [.c (.int .i64 (0))], some 2, none, []⟩] none)
 (.seq (.reg [⟨.inl .mov, [.c (.int .i64 (0))], some 3, none, []⟩] none)
 sq63_5)),
 [.t 2]⟩

def st64_0 : AC := (.reg [⟨.inl .mov, [.t 2], some 40, none, []⟩, ⟨.inl .mov, [.t 7], some 41, none, []⟩, ⟨.inl (.bin .quo), [.t 40, .t 41], some 42, none, []⟩, ⟨.inl .mov, [.t 42], some 2, none, []⟩] none)

def sq64_1 : AC := (.seq (.reg [⟨.inl .mov, [.t 2], some 27, none, []⟩, ⟨.inl .mov, [.t 7], some 28, none, []⟩, ⟨.inl (.bin .rem), [.t 27, .t 28], some 29, none, []⟩, ⟨.inl (.bin .eql), [.t 29, .c (.int .i64 (0))], some 30, none, []⟩, ⟨.inl .mov, [.t 30], some 31, none, []⟩, ⟨.inl .mov, [.t 0], some 32, some (31, true), []⟩, ⟨.inl .mov, [.t 1], some 33, some (31, true), []⟩, ⟨.inl .mov, [.t 2], some 34, some (31, true), []⟩, ⟨.inl .mov, [.t 7], some 35, some (31, true), []⟩, ⟨.inl (.bin .quo), [.t 34, .t 35], some 36, some (31, true), []⟩, ⟨.inr (.call true true 93), [.t 32, .t 33, .t 36], some 37, some (31, true), []⟩, ⟨.inr (.call true true 92), [.t 37], some 38, some (31, true), []⟩, ⟨.inl .pick, [.t 31, .t 38, .c (.bool false)], some 39, none, []⟩] none)
 (.cond (.t 39) st64_0 .skip))

def sq64_2 : AC := (.block 3 (.seq (.reg [⟨.inl .mov, [.t 8], some 24, none, []⟩, ⟨.inl .mov, [.t 7], some 25, none, []⟩, ⟨.inl (.bin .quo), [.t 24, .t 25], some 26, none, []⟩, ⟨.inl .mov, [.t 26], some 8, none, []⟩] none)
 sq64_1))

def sp64_3 : AC := (.seq (.reg [⟨.inl .mov, [.t 8], some 20, none, []⟩, ⟨.inl .mov, [.t 7], some 21, none, []⟩, ⟨.inl (.bin .rem), [.t 20, .t 21], some 22, none, []⟩, ⟨.inl (.bin .eql), [.t 22, .c (.int .i64 (0))], some 23, none, []⟩] none)
 (.cond (.t 23) .skip (.exit 2)))

def lb64_4 : AC := (.pre [0, 1, 2, 7, 8] (.seq sp64_3
 sq64_2))

def sp64_5 : AC := (.seq (.reg [⟨.inl .mov, [.t 7], some 14, none, []⟩, ⟨.inl .mov, [.t 7], some 15, none, []⟩, ⟨.inl (.bin .mul), [.t 14, .t 15], some 16, none, []⟩, ⟨.inl .mov, [.t 8], some 17, none, []⟩, ⟨.inl (.bin .gtr), [.t 16, .t 17], some 18, none, []⟩] none)
 (.cond (.t 18) (.reg [⟨.inl .mov, [.t 8], some 19, none, []⟩, ⟨.inl .mov, [.t 19], some 7, none, []⟩] none) .skip))

def sq64_6 : AC := (.pre [0, 1, 2, 7, 8] (.reg [⟨.inl .mov, [.t 7], some 12, none, []⟩, ⟨.inl (.bin .add), [.t 12, .c (.int .i64 (1))], some 13, none, []⟩, ⟨.inl .mov, [.t 13], some 7, none, []⟩] none))

def sp64_7 : AC := (.seq (.reg [⟨.inl .mov, [.t 8], some 10, none, []⟩, ⟨.inl (.bin .gtr), [.t 10, .c (.int .i64 (1))], some 11, none, []⟩] none)
 (.cond (.t 11) .skip (.exit 0)))

def lb64_8 : AC := (.pre [0, 1, 2, 7, 8] (.seq sp64_7
 (.seq (.block 1 (.seq sp64_5
 (.block 2 (.loop lb64_4))))
 sq64_6)))

def sp64_9 : AC := (.seq (.reg [⟨.inl .mov, [.t 2], some 9, none, []⟩, ⟨.inl .mov, [.c (.int .i64 (2))], some 7, none, []⟩, ⟨.inl .mov, [.t 9], some 8, none, []⟩] none)
 (.block 0 (.loop lb64_8)))

def sq64_10 : AC := (.seq sp64_9
 (.pre [2] (.seq (.reg [⟨.inl .mov, [.t 2], some 43, none, []⟩, ⟨.inl .mov, [.t 43], some 6, none, []⟩] none)
 .ret)))

/-- (olivette/chips.board).period -/
def af64 : AFunc := ⟨3,
 (.seq (.reg [⟨.inl .mov, [.c (.int .i64 (0))], some 6, none, []⟩] none)
 sq64_10),
 [.t 6]⟩

def sq69_0 : AC := (.seq (.reg [⟨.inl .mov, [.t 0], some 5, none, []⟩, ⟨.inl .mov, [.t 1], some 6, none, []⟩, ⟨.inr (.call true true 98), [.t 5, .t 6], some 7, none, []⟩, ⟨.inl (.bin .geq), [.t 7, .c (.int .i64 (0))], some 8, none, []⟩, ⟨.inl .mov, [.t 8], some 4, none, []⟩] none)
 .ret)

/-- slices.ContainsFunc[[]int,int] -/
def af69 : AFunc := ⟨2,
 (.seq (.reg [⟨.inl .mov, [.c (.bool false)], some 4, none, []⟩] none)
 sq69_0),
 [.t 4]⟩

def st71_0 : AC := (.seq (.reg [⟨.inl .mov, [.t 5], some 20, none, []⟩, ⟨.inl (.bld [.bool false, .nilS, .nilS] [(0, 1), (1, 1)]), [.c (.bool true), .t 20], some 21, none, []⟩, ⟨.inr (.st 3), [.t 4, .t 21], none, none, []⟩] none)
 .ret)

def sq71_1 : AC := (.seq (.reg [⟨.inl .mov, [.t 5], some 28, none, []⟩, ⟨.inl .mov, [.t 8], some 29, none, []⟩, ⟨.inl (.bld [.bool false, .nilS, .nilS] [(1, 1), (2, 1)]), [.t 28, .t 29], some 30, none, []⟩, ⟨.inr (.st 3), [.t 4, .t 30], none, none, []⟩] none)
 .ret)

def sq71_2 : AC := (.seq (.reg [⟨.inl .mov, [.t 0], some 23, none, []⟩, ⟨.inl .mov, [.t 6], some 24, none, []⟩, ⟨.inr (.call true false 99), [.t 23, .t 24, .c (.int .i64 (0))], some 25, none, []⟩, ⟨.inl .mov, [.t 25], some 22, none, []⟩, ⟨.inl (.ext 0), [.t 22], some 26, none, []⟩, ⟨.inl (.ext 1), [.t 22], some 27, none, []⟩, ⟨.inl .mov, [.t 26], some 7, none, []⟩, ⟨.inl .mov, [.t 27], some 8, none, []⟩] none)
 sq71_1)

def sp71_3 : AC := (.seq (.reg [⟨.inl .mov, [.t 6], some 16, none, []⟩, ⟨.inl (.idxA 1), [.t 16, .c (.int .i64 (0))], some 17, none, []⟩, ⟨.inl (.ld false 1), [.t 17], some 18, none, []⟩, ⟨.inl (.bin .geq), [.t 18, .c (.int .i64 (0))], some 19, none, []⟩] none)
 (.cond (.t 19) st71_0 .skip))

def sq71_4 : AC := (.seq (.reg [⟨.inl .mov, [.t 0], some 12, none, []⟩, ⟨.inl .mov, [.t 1], some 13, none, []⟩, ⟨.inl .mov, [.t 5], some 14, none, []⟩, ⟨.inr (.call true true 55), [.t 12, .t 13, .t 14], some 15, none, []⟩, ⟨.inl .mov, [.t 15], some 6, none, []⟩] none)
 (.seq sp71_3
 sq71_2))

def sq71_5 : AC := (.seq (.reg [⟨.inl .mov, [.t 0], some 9, none, []⟩, ⟨.inl .mov, [.t 1], some 10, none, []⟩, ⟨.inr (.call true false 54), [.t 9, .t 10, .c (.int .i64 (0))], some 11, none, []⟩, ⟨.inl .mov, [.t 11], some 5, none, []⟩] none)
 sq71_4)

/-- (olivette/chips.board).win -/
def af71 : AFunc := ⟨2,
 (.seq (.reg [⟨.inr (.alloc false [.bool false, .nilS, .nilS]), [], some 4, none, []⟩] none)
 sq71_5),
 [.cell 4 true 3]⟩

def sq72_0 : AC := (.reg [⟨.inl .mov, [.t 3], some 10, none, []⟩, ⟨.inl .mov, [.t 0], some 11, none, []⟩, ⟨.inl .mov, [.t 4], some 12, none, []⟩, ⟨.inr (.call true true 74), [.t 11, .t 12], some 13, none, []⟩, ⟨.inl (.bin .add), [.t 10, .t 13], some 14, none, []⟩, ⟨.inl .mov, [.t 14], some 3, none, []⟩] none)

def sq72_1 : AC := (.seq (.block 1 (.seq (.reg [⟨.inl .mov, [.t 7], some 9, none, []⟩, ⟨.inl .mov, [.t 9], some 4, none, []⟩] none)
 sq72_0))
 (.reg [⟨.inl (.bin .add), [.t 7, .c (.int .i64 (1))], some 15, none, []⟩, ⟨.inl .mov, [.t 15], some 7, none, []⟩] none))

def lb72_2 : AC := (.pre [0, 3, 6, 7] (.seq (.reg [⟨.inl (.bin .lss), [.t 7, .t 6], some 8, none, []⟩] none)
 (.seq (.cond (.t 8) .skip (.exit 0))
 sq72_1)))

def sq72_3 : AC := (.pre [0, 3] (.seq (.reg [⟨.inl .mov, [.t 3], some 16, none, []⟩, ⟨.inl (.bin .quo), [.t 16, .c (.int .i64 (2))], some 17, none, []⟩, ⟨.inl .mov, [.t 0], some 18, none, []⟩, ⟨.inl .len, [.t 18], some 19, none, []⟩, ⟨.inl (.bin .sub), [.t 17, .t 19], some 20, none, []⟩, ⟨.inl (.bin .add), [.t 20, .c (.int .i64 (1))], some 21, none, []⟩, ⟨.inl .mov, [.t 21], some 2, none, []⟩] none)
 .ret))

def sp72_4 : AC := (.seq (.reg [⟨.inl .mov, [.t 0], some 5, none, []⟩, ⟨.inl .len, [.t 5], some 6, none, []⟩, ⟨.inl .mov, [.c (.int .i64 (0))], some 7, none, []⟩] none)
 (.block 0 (.loop lb72_2)))

/-- (olivette/chips.board).genus -/
def af72 : AFunc := ⟨1,
 (.seq (.reg [⟨.inl .mov, [.c (.int .i64 (0))], some 2, none, []⟩] none)
 (.seq (.reg [⟨.inl .mov, [.c (.int .i64 (0))], some 3, none, []⟩] none)
 (.seq sp72_4
 sq72_3))),
 [.t 2]⟩

def st73_0 : AC := (.seq (.reg [⟨.inl .mov, [.t 0], some 13, none, []⟩, ⟨.inl .mov, [.t 1], some 14, none, []⟩, ⟨.inl .mov, [.t 0], some 15, none, []⟩, ⟨.inl .mov, [.t 1], some 16, none, []⟩, ⟨.inr (.call true true 81), [.t 15, .t 16, .c (.int .i64 (0))], some 17, none, []⟩, ⟨.inr (.call true true 55), [.t 13, .t 14, .t 17], some 18, none, []⟩, ⟨.inl (.idxA 1), [.t 18, .c (.int .i64 (0))], some 19, none, []⟩, ⟨.inl (.ld false 1), [.t 19], some 20, none, []⟩, ⟨.inl (.bin .lss), [.t 20, .c (.int .i64 (0))], some 21, none, []⟩, ⟨.inl .mov, [.t 21], some 8, none, []⟩] none)
 .ret)

def sq73_1 : AC := (.seq (.reg [⟨.inl .mov, [.t 10], some 47, none, []⟩] none)
 (.cond (.t 47) (.seq (.reg [⟨.inl .mov, [.c (.bool true)], some 8, none, []⟩] none)
 .ret) .skip))

def sq73_2 : AC := (.seq (.reg [⟨.inl .mov, [.t 1], some 41, none, []⟩, ⟨.inl .mov, [.t 9], some 42, none, []⟩, ⟨.inl (.idxA 1), [.t 41, .t 42], some 43, none, []⟩, ⟨.inl (.ld false 1), [.t 43], some 44, none, []⟩, ⟨.inl (.bin .add), [.t 44, .c (.int .i64 (1))], some 45, none, []⟩, ⟨.inl (.idxA 1), [.t 41, .t 42], some 46, none, []⟩, ⟨.inr (.st 1), [.t 46, .t 45], none, none, []⟩] none)
 sq73_1)

def sq73_3 : AC := (.seq (.reg [⟨.inl .mov, [.t 0], some 35, none, []⟩, ⟨.inl .mov, [.t 1], some 36, none, []⟩, ⟨.inl .mov, [.t 2], some 37, none, []⟩, ⟨.inl (.bin .sub), [.t 37, .c (.int .i64 (1))], some 38, none, []⟩, ⟨.inl .mov, [.t 9], some 39, none, []⟩, ⟨.inr (.call false true 73), [.t 35, .t 36, .t 38, .t 39], some 40, none, []⟩, ⟨.inl .mov, [.t 40], some 10, none, []⟩] none)
 sq73_2)

def sq73_4 : AC := (.reg [⟨.inl .mov, [.t 9], some 27, none, []⟩, ⟨.inl (.bin .add), [.t 27, .c (.int .i64 (1))], some 28, none, []⟩, ⟨.inl .mov, [.t 28], some 9, none, []⟩] none)

def sp73_5 : AC := (.block 1 (.seq (.reg [⟨.inl .mov, [.t 1], some 29, none, []⟩, ⟨.inl .mov, [.t 9], some 30, none, []⟩, ⟨.inl (.idxA 1), [.t 29, .t 30], some 31, none, []⟩, ⟨.inl (.ld false 1), [.t 31], some 32, none, []⟩, ⟨.inl (.bin .sub), [.t 32, .c (.int .i64 (1))], some 33, none, []⟩, ⟨.inl (.idxA 1), [.t 29, .t 30], some 34, none, []⟩, ⟨.inr (.st 1), [.t 34, .t 33], none, none, []⟩] none)
 sq73_3))

def sp73_6 : AC := (.seq (.reg [⟨.inl .mov, [.t 9], some 23, none, []⟩, ⟨.inl .mov, [.t 0], some 24, none, []⟩, ⟨.inl .len, [.t 24], some 25, none, []⟩, ⟨.inl (.bin .lss), [.t 23, .t 25], some 26, none, []⟩] none)
 (.cond (.t 26) .skip (.exit 0)))

def lb73_7 : AC := (.pre [0, 1, 2, 9] (.seq sp73_6
 (.seq sp73_5
 sq73_4)))

def sp73_8 : AC := (.seq (.reg [⟨.inl .mov, [.t 3], some 22, none, []⟩, ⟨.inl .mov, [.t 22], some 9, none, []⟩] none)
 (.block 0 (.loop lb73_7)))

def sp73_9 : AC := (.seq (.reg [⟨.inl .mov, [.t 2], some 11, none, []⟩, ⟨.inl (.bin .eql), [.t 11, .c (.int .i64 (0))], some 12, none, []⟩] none)
 (.cond (.t 12) st73_0 .skip))

/-- (olivette/chips.board).loses -/
def af73 : AFunc := ⟨4,
 (.seq (.reg [⟨.inl .mov, [.c (.bool false)], some 8, none, []⟩] none)
 (.seq sp73_9
 (.seq sp73_8
 (.pre [] (.seq (.reg [⟨.inl .mov, [.c (.bool false)], some 8, none, []⟩] none)
 .ret))))),
 [.t 8]⟩

def sq74_0 : AC := (.reg [⟨.inl .mov, [.t 5], some 17, none, []⟩, ⟨.inl .mov, [.t 7], some 18, none, []⟩, ⟨.inl (.bin .add), [.t 17, .t 18], some 19, none, []⟩, ⟨.inl .mov, [.t 19], some 5, none, []⟩] none)

def sq74_1 : AC := (.reg [⟨.inl (.bin .add), [.t 13, .c (.int .i64 (1))], some 20, none, []⟩, ⟨.inl .mov, [.t 20], some 13, none, []⟩] none)

def sp74_2 : AC := (.block 1 (.seq (.reg [⟨.inl (.idxA 1), [.t 11, .t 13], some 15, none, []⟩, ⟨.inl (.ld false 1), [.t 15], some 16, none, []⟩, ⟨.inl .mov, [.t 16], some 7, none, []⟩] none)
 sq74_0))

def lb74_3 : AC := (.pre [5, 11, 12, 13] (.seq (.reg [⟨.inl (.bin .lss), [.t 13, .t 12], some 14, none, []⟩] none)
 (.seq (.cond (.t 14) .skip (.exit 0))
 (.seq sp74_2
 sq74_1))))

def sp74_4 : AC := (.seq (.reg [⟨.inl .mov, [.t 0], some 8, none, []⟩, ⟨.inl .mov, [.t 1], some 9, none, []⟩, ⟨.inl (.idxA 1), [.t 8, .t 9], some 10, none, []⟩, ⟨.inl (.ld false 1), [.t 10], some 11, none, []⟩, ⟨.inl .len, [.t 11], some 12, none, []⟩, ⟨.inl .mov, [.c (.int .i64 (0))], some 13, none, []⟩] none)
 (.block 0 (.loop lb74_3)))

def sq74_5 : AC := (.seq sp74_4
 (.pre [5] (.seq (.reg [⟨.inl .mov, [.t 5], some 21, none, []⟩, ⟨.inl .mov, [.t 21], some 4, none, []⟩] none)
 .ret)))

/-- (olivette/chips.board).degree -/
def af74 : AFunc := ⟨2,
 (.seq (.reg [⟨.inl .mov, [.c (.int .i64 (0))], some 4, none, []⟩] none)
 (.seq (.reg [⟨.inl .mov, [.c (.int .i64 (0))], some 5, none, []⟩] none)
 sq74_5)),
 [.t 4]⟩

def sq76_0 : AC := (.seq (.reg [⟨.inr (.bldS true false 1 0 [.int .i64 0] []), [], some 5, none, []⟩, ⟨.inl .mov, [.t 0], some 6, none, []⟩, ⟨.inr (.app false 1 8), [.t 5, .t 6], some 7, none, []⟩, ⟨.inl .mov, [.t 7], some 2, none, []⟩] none)
 .ret)

def sp76_1 : AC := (.seq (.reg [⟨.inl .mov, [.t 0], some 3, none, []⟩, ⟨.inl (.eqnil false), [.t 3, .c (.nilS)], some 4, none, []⟩] none)
 (.cond (.t 4) (.seq (.reg [⟨.inl .mov, [.c (.nilS)], some 2, none, []⟩] none)
 .ret) .skip))

/-- slices.Clone[[]int,int] -/
def af76 : AFunc := ⟨1,
 (.seq (.reg [⟨.inl .mov, [.c (.nilS)], some 2, none, []⟩] none)
 (.seq sp76_1
 sq76_0)),
 [.t 2]⟩

def sq77_0 : AC := (.seq (.reg [⟨.inl .mov, [.t 0], some 5, none, []⟩, ⟨.inl .mov, [.t 1], some 6, none, []⟩, ⟨.inr (.call true false 100), [.t 5, .t 6, .c (.fn 101 [])], some 7, none, []⟩, ⟨.inl .mov, [.t 7], some 4, none, []⟩] none)
 .ret)

/-- olivette/chips.plus -/
def af77 : AFunc := ⟨2,
 (.seq (.reg [⟨.inl .mov, [.c (.nilS)], some 4, none, []⟩] none)
 sq77_0),
 [.t 4]⟩

def sq80_0 : AC := (.seq (.reg [⟨.inl .mov, [.t 1], some 5, none, []⟩, ⟨.inl .len, [.t 5], some 6, none, []⟩, ⟨.inl .mov, [.t 0], some 7, none, []⟩, ⟨.inl .len, [.t 7], some 8, none, []⟩, ⟨.inl (.bin .eql), [.t 6, .t 8], some 9, none, []⟩, ⟨.inl .mov, [.t 9], some 10, none, []⟩, ⟨.inl .mov, [.t 1], some 11, some (10, true), []⟩, ⟨.inr (.call true true 69), [.t 11, .c (.fn 104 [])], some 12, some (10, true), []⟩, ⟨.inl (.un .not), [.t 12], some 13, some (10, true), []⟩, ⟨.inl .pick, [.t 10, .t 13, .c (.bool false)], some 14, none, []⟩, ⟨.inl .mov, [.t 14], some 4, none, []⟩] none)
 .ret)

/-- (olivette/chips.board).isState -/
def af80 : AFunc := ⟨2,
 (.seq (.reg [⟨.inl .mov, [.c (.bool false)], some 4, none, []⟩] none)
 sq80_0),
 [.t 4]⟩

def st81_0 : AC := (.reg [⟨.inl .mov, [.t 7], some 41, none, []⟩, ⟨.inl .mov, [.t 10], some 42, none, []⟩, ⟨.inl (.idxA 1), [.t 41, .t 42], some 43, none, []⟩, ⟨.inl (.ld false 1), [.t 43], some 44, none, []⟩, ⟨.inl (.bin .add), [.t 44, .c (.int .i64 (1))], some 45, none, []⟩, ⟨.inl (.idxA 1), [.t 41, .t 42], some 46, none, []⟩, ⟨.inr (.st 1), [.t 46, .t 45], none, none, []⟩] none)

def sq81_1 : AC := (.reg [⟨.inl (.bin .add), [.t 35, .c (.int .i64 (1))], some 47, none, []⟩, ⟨.inl .mov, [.t 47], some 35, none, []⟩] none)

def sp81_2 : AC := (.block 3 (.seq (.reg [⟨.inl .mov, [.t 35], some 37, none, []⟩, ⟨.inl (.idxA 1), [.t 33, .t 35], some 38, none, []⟩, ⟨.inl (.ld false 1), [.t 38], some 39, none, []⟩, ⟨.inl .mov, [.t 37], some 10, none, []⟩, ⟨.inl .mov, [.t 39], some 11, none, []⟩] none)
 (.seq (.reg [⟨.inl .mov, [.t 11], some 40, none, []⟩] none)
 (.cond (.t 40) st81_0 .skip))))

def lb81_3 : AC := (.pre [0, 1, 2, 7, 33, 34, 35] (.seq (.reg [⟨.inl (.bin .lss), [.t 35, .t 34], some 36, none, []⟩] none)
 (.seq (.cond (.t 36) .skip (.exit 2))
 (.seq sp81_2
 sq81_1))))

def sq81_4 : AC := (.seq (.reg [⟨.inl .mov, [.t 8], some 33, none, []⟩, ⟨.inl .len, [.t 33], some 34, none, []⟩, ⟨.inl .mov, [.c (.int .i64 (0))], some 35, none, []⟩] none)
 (.block 2 (.loop lb81_3)))

def sp81_5 : AC := (.seq (.reg [⟨.inl .mov, [.t 9], some 28, none, []⟩, ⟨.inl .len, [.t 28], some 29, none, []⟩, ⟨.inl .mov, [.t 0], some 30, none, []⟩, ⟨.inl .len, [.t 30], some 31, none, []⟩, ⟨.inl (.bin .eql), [.t 29, .t 31], some 32, none, []⟩] none)
 (.cond (.t 32) (.exit 0) .skip))

def lb81_6 : AC := (.pre [0, 1, 2, 7] (.block 1 (.seq (.reg [⟨.inl .mov, [.t 0], some 19, none, []⟩, ⟨.inl .mov, [.t 0], some 20, none, []⟩, ⟨.inl .mov, [.t 1], some 21, none, []⟩, ⟨.inl .mov, [.t 7], some 22, none, []⟩, ⟨.inr (.call true true 55), [.t 20, .t 21, .t 22], some 23, none, []⟩, ⟨.inl .mov, [.t 2], some 24, none, []⟩, ⟨.inr (.call true true 99), [.t 19, .t 23, .t 24], some 25, none, []⟩, ⟨.inl .mov, [.t 25], some 18, none, []⟩, ⟨.inl (.ext 0), [.t 18], some 26, none, []⟩, ⟨.inl (.ext 1), [.t 18], some 27, none, []⟩, ⟨.inl .mov, [.t 26], some 8, none, []⟩, ⟨.inl .mov, [.t 27], some 9, none, []⟩] none)
 (.seq sp81_5
 sq81_4))))

def sq81_7 : AC := (.reg [⟨.inl .mov, [.t 7], some 57, none, []⟩, ⟨.inl .mov, [.t 13], some 58, none, []⟩, ⟨.inl (.idxA 1), [.t 57, .t 58], some 59, none, []⟩, ⟨.inl (.ld false 1), [.t 59], some 60, none, []⟩, ⟨.inl .mov, [.t 12], some 61, none, []⟩, ⟨.inl (.bin .sub), [.t 60, .t 61], some 62, none, []⟩, ⟨.inl (.idxA 1), [.t 57, .t 58], some 63, none, []⟩, ⟨.inr (.st 1), [.t 63, .t 62], none, none, []⟩] none)

def sq81_8 : AC := (.reg [⟨.inl (.bin .add), [.t 54, .c (.int .i64 (1))], some 64, none, []⟩, ⟨.inl .mov, [.t 64], some 54, none, []⟩] none)

def sq81_9 : AC := (.seq (.block 5 (.seq (.reg [⟨.inl .mov, [.t 54], some 56, none, []⟩, ⟨.inl .mov, [.t 56], some 13, none, []⟩] none)
 sq81_7))
 sq81_8)

def lb81_10 : AC := (.pre [7, 12, 53, 54] (.seq (.reg [⟨.inl (.bin .lss), [.t 54, .t 53], some 55, none, []⟩] none)
 (.seq (.cond (.t 55) .skip (.exit 4))
 sq81_9)))

def sp81_11 : AC := (.seq (.reg [⟨.inl .mov, [.t 7], some 52, none, []⟩, ⟨.inl .len, [.t 52], some 53, none, []⟩, ⟨.inl .mov, [.c (.int .i64 (0))], some 54, none, []⟩] none)
 (.block 4 (.loop lb81_10)))

def sq81_12 : AC := (.seq sp81_11
 (.pre [7] (.seq (.reg [⟨.inl .mov, [.t 7], some 65, none, []⟩, ⟨.inl .mov, [.t 65], some 6, none, []⟩] none)
 .ret)))

def sq81_13 : AC := (.pre [2, 7] (.seq (.reg [⟨.inl .mov, [.t 7], some 48, none, []⟩, ⟨.inl .mov, [.t 2], some 49, none, []⟩, ⟨.inl (.idxA 1), [.t 48, .t 49], some 50, none, []⟩, ⟨.inl (.ld false 1), [.t 50], some 51, none, []⟩, ⟨.inl .mov, [.t 51], some 12, none, []⟩] none)
 sq81_12))

def sq81_14 : AC := (.seq (.reg [⟨.inl .mov, [.t 0], some 14, none, []⟩, ⟨.inl .mov, [.t 1], some 15, none, []⟩, ⟨.inl .mov, [.t 2], some 16, none, []⟩, ⟨.inr (.call true false 105), [.t 14, .t 15, .t 16], some 17, none, []⟩, ⟨.inl .mov, [.t 17], some 7, none, []⟩] none)
 (.seq (.block 0 (.loop lb81_6))
 sq81_13))

/-- (olivette/chips.board).small -/
def af81 : AFunc := ⟨3,
 (.seq (.reg [⟨.inl .mov, [.c (.nilS)], some 6, none, []⟩] none)
 sq81_14),
 [.t 6]⟩

def sq83_0 : AC := (.seq (.reg [⟨.inl .mov, [.t 0], some 5, none, []⟩, ⟨.inl .mov, [.t 1], some 6, none, []⟩, ⟨.inr (.call true true 109), [.t 5, .t 6], some 7, none, []⟩, ⟨.inl (.bin .geq), [.t 7, .c (.int .i64 (0))], some 8, none, []⟩, ⟨.inl .mov, [.t 8], some 4, none, []⟩] none)
 .ret)

/-- slices.Contains[[]int,int] -/
def af83 : AFunc := ⟨2,
 (.seq (.reg [⟨.inl .mov, [.c (.bool false)], some 4, none, []⟩] none)
 sq83_0),
 [.t 4]⟩

def sq84_0 : AC := (.reg [⟨.inl .mov, [.t 5], some 19, none, []⟩, ⟨.inl .mov, [.t 6], some 20, none, []⟩, ⟨.inl (.idxA 1), [.t 19, .t 20], some 21, none, []⟩, ⟨.inr (.st 1), [.t 21, .c (.int .i64 (-1))], none, none, []⟩] none)

def sq84_1 : AC := (.reg [⟨.inl (.bin .add), [.t 16, .c (.int .i64 (1))], some 22, none, []⟩, ⟨.inl .mov, [.t 22], some 16, none, []⟩] none)

def sq84_2 : AC := (.seq (.block 1 (.seq (.reg [⟨.inl .mov, [.t 16], some 18, none, []⟩, ⟨.inl .mov, [.t 18], some 6, none, []⟩] none)
 sq84_0))
 sq84_1)

def lb84_3 : AC := (.pre [0, 1, 5, 15, 16] (.seq (.reg [⟨.inl (.bin .lss), [.t 16, .t 15], some 17, none, []⟩] none)
 (.seq (.cond (.t 17) .skip (.exit 0))
 sq84_2)))

def sq84_4 : AC := (.reg [⟨.inl .mov, [.t 7], some 63, none, []⟩, ⟨.inl .mov, [.t 9], some 64, none, []⟩, ⟨.inr (.bldS true true 1 1 [.int .i64 0] [(0, 1)]), [.t 64], some 65, none, []⟩, ⟨.inr (.app false 1 8), [.t 63, .t 65], some 66, none, []⟩, ⟨.inl .mov, [.t 66], some 7, none, []⟩] none)

def st84_5 : AC := (.seq (.reg [⟨.inl .mov, [.t 5], some 55, none, []⟩, ⟨.inl .mov, [.t 9], some 56, none, []⟩, ⟨.inl .mov, [.t 5], some 57, none, []⟩, ⟨.inl .mov, [.t 8], some 58, none, []⟩, ⟨.inl (.idxA 1), [.t 57, .t 58], some 59, none, []⟩, ⟨.inl (.ld false 1), [.t 59], some 60, none, []⟩, ⟨.inl (.bin .add), [.t 60, .c (.int .i64 (1))], some 61, none, []⟩, ⟨.inl (.idxA 1), [.t 55, .t 56], some 62, none, []⟩, ⟨.inr (.st 1), [.t 62, .t 61], none, none, []⟩] none)
 sq84_4)

def sq84_6 : AC := (.seq (.reg [⟨.inl .mov, [.t 10], some 46, none, []⟩, ⟨.inl (.bin .gtr), [.t 46, .c (.int .i64 (0))], some 47, none, []⟩, ⟨.inl .mov, [.t 47], some 48, none, []⟩, ⟨.inl .mov, [.t 5], some 49, some (48, true), []⟩, ⟨.inl .mov, [.t 9], some 50, some (48, true), []⟩, ⟨.inl (.idxA 1), [.t 49, .t 50], some 51, some (48, true), []⟩, ⟨.inl (.ld false 1), [.t 51], some 52, some (48, true), []⟩, ⟨.inl (.bin .lss), [.t 52, .c (.int .i64 (0))], some 53, some (48, true), []⟩, ⟨.inl .pick, [.t 48, .t 53, .c (.bool false)], some 54, none, []⟩] none)
 (.cond (.t 54) st84_5 .skip))

def sq84_7 : AC := (.reg [⟨.inl (.bin .add), [.t 41, .c (.int .i64 (1))], some 67, none, []⟩, ⟨.inl .mov, [.t 67], some 41, none, []⟩] none)

def sp84_8 : AC := (.block 5 (.seq (.reg [⟨.inl .mov, [.t 41], some 43, none, []⟩, ⟨.inl (.idxA 1), [.t 39, .t 41], some 44, none, []⟩, ⟨.inl (.ld false 1), [.t 44], some 45, none, []⟩, ⟨.inl .mov, [.t 43], some 9, none, []⟩, ⟨.inl .mov, [.t 45], some 10, none, []⟩] none)
 sq84_6))

def lb84_9 : AC := (.pre [0, 5, 7, 8, 39, 40, 41] (.seq (.reg [⟨.inl (.bin .lss), [.t 41, .t 40], some 42, none, []⟩] none)
 (.seq (.cond (.t 42) .skip (.exit 4))
 (.seq sp84_8
 sq84_7))))

def sq84_10 : AC := (.seq (.reg [⟨.inl .mov, [.t 0], some 36, none, []⟩, ⟨.inl .mov, [.t 8], some 37, none, []⟩, ⟨.inl (.idxA 1), [.t 36, .t 37], some 38, none, []⟩, ⟨.inl (.ld false 1), [.t 38], some 39, none, []⟩, ⟨.inl .len, [.t 39], some 40, none, []⟩, ⟨.inl .mov, [.c (.int .i64 (0))], some 41, none, []⟩] none)
 (.block 4 (.loop lb84_9)))

def sq84_11 : AC := (.seq (.reg [⟨.inl .mov, [.t 7], some 34, none, []⟩, ⟨.inl (.slc 1 true false), [.t 34, .c (.int .i64 (1))], some 35, none, []⟩, ⟨.inl .mov, [.t 35], some 7, none, []⟩] none)
 sq84_10)

def sq84_12 : AC := (.block 3 (.seq (.reg [⟨.inl .mov, [.t 7], some 31, none, []⟩, ⟨.inl (.idxA 1), [.t 31, .c (.int .i64 (0))], some 32, none, []⟩, ⟨.inl (.ld false 1), [.t 32], some 33, none, []⟩, ⟨.inl .mov, [.t 33], some 8, none, []⟩] none)
 sq84_11))

def sp84_13 : AC := (.seq (.reg [⟨.inl .mov, [.t 7], some 28, none, []⟩, ⟨.inl .len, [.t 28], some 29, none, []⟩, ⟨.inl (.bin .gtr), [.t 29, .c (.int .i64 (0))], some 30, none, []⟩] none)
 (.cond (.t 30) .skip (.exit 2)))

def lb84_14 : AC := (.pre [0, 5, 7] (.seq sp84_13
 sq84_12))

def sq84_15 : AC := (.seq (.block 2 (.loop lb84_14))
 (.pre [5] (.seq (.reg [⟨.inl .mov, [.t 5], some 68, none, []⟩, ⟨.inl .mov, [.t 68], some 4, none, []⟩] none)
 .ret)))

def sq84_16 : AC := (.seq (.reg [⟨.inl .mov, [.t 1], some 26, none, []⟩, ⟨.inr (.bldS true false 1 1 [.int .i64 0] [(0, 1)]), [.t 26], some 27, none, []⟩, ⟨.inl .mov, [.t 27], some 7, none, []⟩] none)
 sq84_15)

def sq84_17 : AC := (.pre [0, 1, 5] (.seq (.reg [⟨.inl .mov, [.t 5], some 23, none, []⟩, ⟨.inl .mov, [.t 1], some 24, none, []⟩, ⟨.inl (.idxA 1), [.t 23, .t 24], some 25, none, []⟩, ⟨.inr (.st 1), [.t 25, .c (.int .i64 (0))], none, none, []⟩] none)
 sq84_16))

def sp84_18 : AC := (.seq (.reg [⟨.inl .mov, [.t 5], some 14, none, []⟩, ⟨.inl .len, [.t 14], some 15, none, []⟩, ⟨.inl .mov, [.c (.int .i64 (0))], some 16, none, []⟩] none)
 (.block 0 (.loop lb84_3)))

def sq84_19 : AC := (.seq (.reg [⟨.inl .mov, [.t 0], some 11, none, []⟩, ⟨.inl .len, [.t 11], some 12, none, []⟩, ⟨.inr (.mkS 1 8 [.int .i64 0]), [.t 12, .t 12], some 13, none, []⟩, ⟨.inl .mov, [.t 13], some 5, none, []⟩] none)
 (.seq sp84_18
 sq84_17))

/-- (olivette/chips.board).distances -/
def af84 : AFunc := ⟨2,
 (.seq (.reg [⟨.inl .mov, [.c (.nilS)], some 4, none, []⟩] none)
 sq84_19),
 [.t 4]⟩

def sq85_0 : AC := (.cond (.t 16) (.seq (.reg [⟨.inl .mov, [.t 5], some 17, none, []⟩, ⟨.inl .mov, [.t 17], some 4, none, []⟩] none)
 .ret) .skip)

def sq85_1 : AC := (.seq (.reg [⟨.inl .mov, [.t 1], some 11, none, []⟩, ⟨.inl .mov, [.t 0], some 12, none, []⟩, ⟨.inl .mov, [.t 5], some 13, none, []⟩, ⟨.inl (.idxA 1), [.t 12, .t 13], some 14, none, []⟩, ⟨.inl (.ld false 1), [.t 14], some 15, none, []⟩, ⟨.inr (.callv true true), [.t 11, .t 15], some 16, none, []⟩] none)
 sq85_0)

def sq85_2 : AC := (.seq (.block 1 (.seq (.reg [⟨.inl .mov, [.t 8], some 10, none, []⟩, ⟨.inl .mov, [.t 10], some 5, none, []⟩] none)
 sq85_1))
 (.reg [⟨.inl (.bin .add), [.t 8, .c (.int .i64 (1))], some 18, none, []⟩, ⟨.inl .mov, [.t 18], some 8, none, []⟩] none))

def lb85_3 : AC := (.pre [0, 1, 7, 8] (.seq (.reg [⟨.inl (.bin .lss), [.t 8, .t 7], some 9, none, []⟩] none)
 (.seq (.cond (.t 9) .skip (.exit 0))
 sq85_2)))

def sp85_4 : AC := (.seq (.reg [⟨.inl .mov, [.t 0], some 6, none, []⟩, ⟨.inl .len, [.t 6], some 7, none, []⟩, ⟨.inl .mov, [.c (.int .i64 (0))], some 8, none, []⟩] none)
 (.block 0 (.loop lb85_3)))

/-- slices.IndexFunc[[][]int,[]int] -/
def af85 : AFunc := ⟨2,
 (.seq (.reg [⟨.inl .mov, [.c (.int .i64 (0))], some 4, none, []⟩] none)
 (.seq sp85_4
 (.pre [] (.seq (.reg [⟨.inl .mov, [.c (.int .i64 (-1))], some 4, none, []⟩] none)
 .ret)))),
 [.t 4]⟩

def sq86_0 : AC := (.seq (.reg [⟨.inl .mov, [.t 0], some 4, none, []⟩, ⟨.inl (.ld false 1), [.t 1], some 5, none, []⟩, ⟨.inl (.idxA 1), [.t 4, .t 5], some 6, none, []⟩, ⟨.inl (.ld false 1), [.t 6], some 7, none, []⟩, ⟨.inl (.bin .neq), [.t 7, .c (.int .i64 (0))], some 8, none, []⟩, ⟨.inl .mov, [.t 8], some 3, none, []⟩] none)
 .ret)

/-- (olivette/chips.board).treesModulo$1 -/
def af86 : AFunc := ⟨2,
 (.seq (.reg [⟨.inl .mov, [.c (.bool false)], some 3, none, []⟩] none)
 sq86_0),
 [.t 3]⟩

def st87_0 : AC := (.seq (.reg [⟨.inl .mov, [.c (.int .i64 (0))], some 4, none, []⟩, ⟨.inl .mov, [.c (.int .i64 (2))], some 5, none, []⟩] none)
 .ret)

def st87_1 : AC := (.seq (.reg [⟨.inl .mov, [.c (.int .i64 (0))], some 4, none, []⟩, ⟨.inl .mov, [.c (.int .i64 (6))], some 5, none, []⟩] none)
 .ret)

def sq87_2 : AC := (.seq (.reg [⟨.inl .mov, [.t 7], some 20, none, []⟩, ⟨.inl .mov, [.t 1], some 21, none, []⟩, ⟨.inl (.bin .rem), [.t 20, .t 21], some 22, none, []⟩, ⟨.inl .mov, [.t 1], some 23, none, []⟩, ⟨.inl (.bin .add), [.t 22, .t 23], some 24, none, []⟩, ⟨.inl .mov, [.t 1], some 25, none, []⟩, ⟨.inl (.bin .rem), [.t 24, .t 25], some 26, none, []⟩, ⟨.inl .mov, [.t 26], some 4, none, []⟩, ⟨.inl .mov, [.c (.int .i64 (0))], some 5, none, []⟩] none)
 .ret)

def sp87_3 : AC := (.seq (.reg [⟨.inl .mov, [.t 6], some 18, none, []⟩, ⟨.inl (.bin .neq), [.t 18, .c (.int .i64 (1))], some 19, none, []⟩] none)
 (.cond (.t 19) st87_1 .skip))

def sq87_4 : AC := (.seq (.reg [⟨.inl .mov, [.t 0], some 13, none, []⟩, ⟨.inl .mov, [.t 1], some 14, none, []⟩, ⟨.inr (.call true true 89), [.t 13, .t 14], some 15, none, []⟩, ⟨.inl .mov, [.t 15], some 12, none, []⟩, ⟨.inl (.ext 0), [.t 12], some 16, none, []⟩, ⟨.inl (.ext 1), [.t 12], some 17, none, []⟩, ⟨.inl .mov, [.t 16], some 6, none, []⟩, ⟨.inl .mov, [.t 17], some 7, none, []⟩] none)
 (.seq sp87_3
 sq87_2))

def sp87_5 : AC := (.seq (.reg [⟨.inl .mov, [.t 0], some 8, none, []⟩, ⟨.inl .mov, [.t 1], some 9, none, []⟩, ⟨.inr (.call true true 88), [.t 8, .t 9], some 10, none, []⟩, ⟨.inl (.un .not), [.t 10], some 11, none, []⟩] none)
 (.cond (.t 11) st87_0 .skip))

/-- olivette/prime.Inverse -/
def af87 : AFunc := ⟨2,
 (.seq (.reg [⟨.inl .mov, [.c (.int .i64 (0))], some 4, none, []⟩, ⟨.inl .mov, [.c (.int .i64 (0))], some 5, none, []⟩] none)
 (.seq sp87_5
 sq87_4)),
 [.t 4, .t 5]⟩

def sq88_0 : AC := (.seq (.reg [⟨.inl .mov, [.t 1], some 5, none, []⟩, ⟨.inr (.call true true 110), [.t 5], some 6, none, []⟩, ⟨.inl .mov, [.t 6], some 7, none, []⟩, ⟨.inl .mov, [.t 0], some 8, some (7, true), []⟩, ⟨.inl (.bin .geq), [.t 8, .c (.int .i64 (0))], some 9, some (7, true), []⟩, ⟨.inl .pick, [.t 7, .t 9, .c (.bool false)], some 10, none, []⟩, ⟨.inl .mov, [.t 10], some 11, none, []⟩, ⟨.inl .mov, [.t 0], some 12, some (11, true), []⟩, ⟨.inl .mov, [.t 1], some 13, some (11, true), []⟩, ⟨.inl (.bin .lss), [.t 12, .t 13], some 14, some (11, true), []⟩, ⟨.inl .pick, [.t 11, .t 14, .c (.bool false)], some 15, none, []⟩, ⟨.inl .mov, [.t 15], some 4, none, []⟩] none)
 .ret)

/-- olivette/prime.isRest -/
def af88 : AFunc := ⟨2,
 (.seq (.reg [⟨.inl .mov, [.c (.bool false)], some 4, none, []⟩] none)
 sq88_0),
 [.t 4]⟩

def sq89_0 : AC := (.reg [⟨.inl .mov, [.t 7], some 20, none, []⟩, ⟨.inl .mov, [.t 6], some 21, none, []⟩, ⟨.inl .mov, [.t 8], some 22, none, []⟩, ⟨.inl .mov, [.t 7], some 23, none, []⟩, ⟨.inl (.bin .mul), [.t 22, .t 23], some 24, none, []⟩, ⟨.inl (.bin .sub), [.t 21, .t 24], some 25, none, []⟩, ⟨.inl .mov, [.t 20], some 6, none, []⟩, ⟨.inl .mov, [.t 25], some 7, none, []⟩] none)

def sq89_1 : AC := (.seq (.reg [⟨.inl .mov, [.t 1], some 14, none, []⟩, ⟨.inl .mov, [.t 0], some 15, none, []⟩, ⟨.inl .mov, [.t 8], some 16, none, []⟩, ⟨.inl .mov, [.t 1], some 17, none, []⟩, ⟨.inl (.bin .mul), [.t 16, .t 17], some 18, none, []⟩, ⟨.inl (.bin .sub), [.t 15, .t 18], some 19, none, []⟩, ⟨.inl .mov, [.t 14], some 0, none, []⟩, ⟨.inl .mov, [.t 19], some 1, none, []⟩] none)
 sq89_0)

def sq89_2 : AC := (.block 1 (.seq (.reg [⟨.inl .mov, [.t 0], some 11, none, []⟩, ⟨.inl .mov, [.t 1], some 12, none, []⟩, ⟨.inl (.bin .quo), [.t 11, .t 12], some 13, none, []⟩, ⟨.inl .mov, [.t 13], some 8, none, []⟩] none)
 sq89_1))

def sp89_3 : AC := (.seq (.reg [⟨.inl .mov, [.t 1], some 9, none, []⟩, ⟨.inl (.bin .neq), [.t 9, .c (.int .i64 (0))], some 10, none, []⟩] none)
 (.cond (.t 10) .skip (.exit 0)))

def lb89_4 : AC := (.pre [0, 1, 6, 7] (.seq sp89_3
 sq89_2))

def sq89_5 : AC := (.pre [0, 6] (.seq (.reg [⟨.inl .mov, [.t 0], some 26, none, []⟩, ⟨.inl .mov, [.t 6], some 27, none, []⟩, ⟨.inl .mov, [.t 26], some 4, none, []⟩, ⟨.inl .mov, [.t 27], some 5, none, []⟩] none)
 .ret))

def sq89_6 : AC := (.seq (.reg [⟨.inl .mov, [.c (.int .i64 (1))], some 6, none, []⟩, ⟨.inl .mov, [.c (.int .i64 (0))], some 7, none, []⟩] none)
 (.seq (.block 0 (.loop lb89_4))
 sq89_5))

/-- olivette/prime.euclid -/
def af89 : AFunc := ⟨2,
 (.seq (.reg [⟨.inl .mov, [.c (.int .i64 (0))], some 4, none, []⟩, ⟨.inl .mov, [.c (.int .i64 (0))], some 5, none, []⟩] none)
 sq89_6),
 [.t 4, .t 5]⟩

def sq90_0 : AC := (.seq (.reg [⟨.inl .mov, [.t 0], some 48, none, []⟩, ⟨.inl .mov, [.t 1], some 49, none, []⟩, ⟨.inl (.bin .mul), [.t 48, .t 49], some 50, none, []⟩, ⟨.inl .mov, [.t 50], some 5, none, []⟩] none)
 .ret)

def sq90_1 : AC := (.seq (.reg [⟨.inl .mov, [.t 7], some 40, none, []⟩, ⟨.inl .mov, [.t 9], some 41, none, []⟩, ⟨.inl (.bin .mul), [.t 40, .t 41], some 42, none, []⟩, ⟨.inl .mov, [.t 13], some 43, none, []⟩, ⟨.inl (.bin .add), [.t 42, .t 43], some 44, none, []⟩, ⟨.inl .mov, [.t 12], some 45, none, []⟩, ⟨.inl (.bin .shr), [.t 45, .c (.int .u64 (32))], some 46, none, []⟩, ⟨.inl (.bin .add), [.t 44, .t 46], some 47, none, []⟩, ⟨.inl .mov, [.t 47], some 4, none, []⟩] none)
 sq90_0)

def sq90_2 : AC := (.seq (.reg [⟨.inl .mov, [.t 12], some 35, none, []⟩, ⟨.inl .mov, [.t 6], some 36, none, []⟩, ⟨.inl .mov, [.t 9], some 37, none, []⟩, ⟨.inl (.bin .mul), [.t 36, .t 37], some 38, none, []⟩, ⟨.inl (.bin .add), [.t 35, .t 38], some 39, none, []⟩, ⟨.inl .mov, [.t 39], some 12, none, []⟩] none)
 sq90_1)

def sq90_3 : AC := (.seq (.reg [⟨.inl .mov, [.t 11], some 33, none, []⟩, ⟨.inl (.bin .shr), [.t 33, .c (.int .u64 (32))], some 34, none, []⟩, ⟨.inl .mov, [.t 34], some 13, none, []⟩] none)
 sq90_2)

def sq90_4 : AC := (.seq (.reg [⟨.inl .mov, [.t 11], some 31, none, []⟩, ⟨.inl (.bin .and), [.t 31, .c (.int .u64 (4294967295))], some 32, none, []⟩, ⟨.inl .mov, [.t 32], some 12, none, []⟩] none)
 sq90_3)

def sq90_5 : AC := (.seq (.reg [⟨.inl .mov, [.t 7], some 25, none, []⟩, ⟨.inl .mov, [.t 8], some 26, none, []⟩, ⟨.inl (.bin .mul), [.t 25, .t 26], some 27, none, []⟩, ⟨.inl .mov, [.t 10], some 28, none, []⟩, ⟨.inl (.bin .shr), [.t 28, .c (.int .u64 (32))], some 29, none, []⟩, ⟨.inl (.bin .add), [.t 27, .t 29], some 30, none, []⟩, ⟨.inl .mov, [.t 30], some 11, none, []⟩] none)
 sq90_4)

def sq90_6 : AC := (.seq (.reg [⟨.inl .mov, [.t 6], some 22, none, []⟩, ⟨.inl .mov, [.t 8], some 23, none, []⟩, ⟨.inl (.bin .mul), [.t 22, .t 23], some 24, none, []⟩, ⟨.inl .mov, [.t 24], some 10, none, []⟩] none)
 sq90_5)

def sq90_7 : AC := (.seq (.reg [⟨.inl .mov, [.t 1], some 20, none, []⟩, ⟨.inl (.bin .shr), [.t 20, .c (.int .u64 (32))], some 21, none, []⟩, ⟨.inl .mov, [.t 21], some 9, none, []⟩] none)
 sq90_6)

def sq90_8 : AC := (.seq (.reg [⟨.inl .mov, [.t 1], some 18, none, []⟩, ⟨.inl (.bin .and), [.t 18, .c (.int .u64 (4294967295))], some 19, none, []⟩, ⟨.inl .mov, [.t 19], some 8, none, []⟩] none)
 sq90_7)

def sq90_9 : AC := (.seq (.reg [⟨.inl .mov, [.t 0], some 16, none, []⟩, ⟨.inl (.bin .shr), [.t 16, .c (.int .u64 (32))], some 17, none, []⟩, ⟨.inl .mov, [.t 17], some 7, none, []⟩] none)
 sq90_8)

def sq90_10 : AC := (.seq (.reg [⟨.inl .mov, [.t 0], some 14, none, []⟩, ⟨.inl (.bin .and), [.t 14, .c (.int .u64 (4294967295))], some 15, none, []⟩, ⟨.inl .mov, [.t 15], some 6, none, []⟩] none)
 sq90_9)

/-- math/bits.Mul64 -/
def af90 : AFunc := ⟨2,
 (.seq (.reg [⟨.inl .mov, [.c (.int .u64 (0))], some 4, none, []⟩, ⟨.inl .mov, [.c (.int .u64 (0))], some 5, none, []⟩] none)
 sq90_10),
 [.t 4, .t 5]⟩

def sq91_0 : AC := (.seq (.reg [⟨.inl .mov, [.t 0], some 7, none, []⟩, ⟨.inl .mov, [.t 1], some 8, none, []⟩, ⟨.inl (.bin .mul), [.t 7, .t 8], some 9, none, []⟩, ⟨.inl .mov, [.t 2], some 10, none, []⟩, ⟨.inl (.bin .rem), [.t 9, .t 10], some 11, none, []⟩, ⟨.inl .mov, [.t 11], some 6, none, []⟩] none)
 .ret)

/-- olivette/prime.mul -/
def af91 : AFunc := ⟨3,
 (.seq (.reg [⟨.inl .mov, [.c (.int .i64 (0))], some 6, none, []⟩] none)
 sq91_0),
 [.t 6]⟩

def sq92_0 : AC := (.seq (.reg [⟨.inl (.ld true 10), [.t 3], some 7, none, []⟩, ⟨.inl (.bld [.int .i64 0, .int .i64 0, .int .i64 0, .int .i64 0, .int .i64 0, .int .i64 0, .int .i64 0, .int .i64 0, .int .i64 0, .int .i64 0] []), [], some 8, none, []⟩, ⟨.inl (.eqagg false [some .i64, some .i64, some .i64, some .i64, some .i64, some .i64, some .i64, some .i64, some .i64, some .i64]), [.t 7, .t 8], some 9, none, []⟩, ⟨.inl .mov, [.t 9], some 2, none, []⟩] none)
 .ret)

def sq92_1 : AC := (.seq (.reg [⟨.inl (.slcP 10 1 false false), [.t 3], some 4, none, []⟩, ⟨.inl .mov, [.t 0], some 5, none, []⟩, ⟨.inr (.cpy 1), [.t 4, .t 5], some 6, none, []⟩] none)
 sq92_0)

def sq92_2 : AC := (.seq (.reg [⟨.inr (.alloc true [.int .i64 0, .int .i64 0, .int .i64 0, .int .i64 0, .int .i64 0, .int .i64 0, .int .i64 0, .int .i64 0, .int .i64 0, .int .i64 0]), [], some 3, none, []⟩] none)
 sq92_1)

/-- olivette/chips.isZero -/
def af92 : AFunc := ⟨1,
 (.seq (.reg [⟨.inl .mov, [.c (.bool false)], some 2, none, []⟩] none)
 sq92_2),
 [.t 2]⟩

def st93_0 : AC := (.reg [⟨.inl .mov, [.t 0], some 18, none, []⟩, ⟨.inl .mov, [.t 7], some 19, none, []⟩, ⟨.inl .mov, [.t 1], some 20, none, []⟩, ⟨.inr (.call true true 77), [.t 19, .t 20], some 21, none, []⟩, ⟨.inr (.call true true 111), [.t 18, .t 21], some 22, none, []⟩, ⟨.inl .mov, [.t 22], some 7, none, []⟩] none)

def sq93_1 : AC := (.reg [⟨.inl .mov, [.t 0], some 23, none, []⟩, ⟨.inl .mov, [.t 1], some 24, none, []⟩, ⟨.inl .mov, [.t 1], some 25, none, []⟩, ⟨.inr (.call true true 77), [.t 24, .t 25], some 26, none, []⟩, ⟨.inr (.call true true 111), [.t 23, .t 26], some 27, none, []⟩, ⟨.inl .mov, [.t 27], some 1, none, []⟩] none)

def sp93_2 : AC := (.seq (.reg [⟨.inl .mov, [.t 2], some 15, none, []⟩, ⟨.inl (.bin .and), [.t 15, .c (.int .i64 (1))], some 16, none, []⟩, ⟨.inl (.bin .eql), [.t 16, .c (.int .i64 (1))], some 17, none, []⟩] none)
 (.cond (.t 17) st93_0 .skip))

def sq93_3 : AC := (.reg [⟨.inl .mov, [.t 2], some 13, none, []⟩, ⟨.inl (.bin .shr), [.t 13, .c (.int .u64 (1))], some 14, none, []⟩, ⟨.inl .mov, [.t 14], some 2, none, []⟩] none)

def sp93_4 : AC := (.seq (.reg [⟨.inl .mov, [.t 2], some 11, none, []⟩, ⟨.inl (.bin .gtr), [.t 11, .c (.int .i64 (0))], some 12, none, []⟩] none)
 (.cond (.t 12) .skip (.exit 0)))

def lb93_5 : AC := (.pre [0, 1, 2, 7] (.seq sp93_4
 (.seq (.block 1 (.seq sp93_2
 sq93_1))
 sq93_3)))

def sq93_6 : AC := (.seq (.block 0 (.loop lb93_5))
 (.pre [7] (.seq (.reg [⟨.inl .mov, [.t 7], some 28, none, []⟩, ⟨.inl .mov, [.t 28], some 6, none, []⟩] none)
 .ret)))

def sq93_7 : AC := (.seq (.reg [⟨.inl .mov, [.t 1], some 8, none, []⟩, ⟨.inl .len, [.t 8], some 9, none, []⟩, ⟨.inr (.mkS 1 8 [.int .i64 0]), [.t 9, .t 9], some 10, none, []⟩, ⟨.inl .mov, [.t 10], some 7, none, []⟩] none)
 sq93_6)

/-- (olivette/chips.board).times -/
def af93 : AFunc := ⟨3,
 (.seq (.reg [⟨.inl .mov, [.c (.nilS)], some 6, none, []⟩] none)
 sq93_7),
 [.t 6]⟩

def sq98_0 : AC := (.cond (.t 16) (.seq (.reg [⟨.inl .mov, [.t 5], some 17, none, []⟩, ⟨.inl .mov, [.t 17], some 4, none, []⟩] none)
 .ret) .skip)

def sq98_1 : AC := (.seq (.reg [⟨.inl .mov, [.t 1], some 11, none, []⟩, ⟨.inl .mov, [.t 0], some 12, none, []⟩, ⟨.inl .mov, [.t 5], some 13, none, []⟩, ⟨.inl (.idxA 1), [.t 12, .t 13], some 14, none, []⟩, ⟨.inl (.ld false 1), [.t 14], some 15, none, []⟩, ⟨.inr (.callv true true), [.t 11, .t 15], some 16, none, []⟩] none)
 sq98_0)

def sq98_2 : AC := (.seq (.block 1 (.seq (.reg [⟨.inl .mov, [.t 8], some 10, none, []⟩, ⟨.inl .mov, [.t 10], some 5, none, []⟩] none)
 sq98_1))
 (.reg [⟨.inl (.bin .add), [.t 8, .c (.int .i64 (1))], some 18, none, []⟩, ⟨.inl .mov, [.t 18], some 8, none, []⟩] none))

def lb98_3 : AC := (.pre [0, 1, 7, 8] (.seq (.reg [⟨.inl (.bin .lss), [.t 8, .t 7], some 9, none, []⟩] none)
 (.seq (.cond (.t 9) .skip (.exit 0))
 sq98_2)))

def sp98_4 : AC := (.seq (.reg [⟨.inl .mov, [.t 0], some 6, none, []⟩, ⟨.inl .len, [.t 6], some 7, none, []⟩, ⟨.inl .mov, [.c (.int .i64 (0))], some 8, none, []⟩] none)
 (.block 0 (.loop lb98_3)))

/-- slices.IndexFunc[[]int,int] -/
def af98 : AFunc := ⟨2,
 (.seq (.reg [⟨.inl .mov, [.c (.int .i64 (0))], some 4, none, []⟩] none)
 (.seq sp98_4
 (.pre [] (.seq (.reg [⟨.inl .mov, [.c (.int .i64 (-1))], some 4, none, []⟩] none)
 .ret)))),
 [.t 4]⟩

def sq99_0 : AC := (.reg [⟨.inl .mov, [.t 8], some 24, none, []⟩, ⟨.inl .mov, [.t 9], some 25, none, []⟩, ⟨.inl .mov, [.t 9], some 26, none, []⟩, ⟨.inl .mov, [.t 2], some 27, none, []⟩, ⟨.inl (.bin .neq), [.t 26, .t 27], some 28, none, []⟩, ⟨.inl (.idxA 1), [.t 24, .t 25], some 29, none, []⟩, ⟨.inr (.st 1), [.t 29, .t 28], none, none, []⟩] none)

def sq99_1 : AC := (.reg [⟨.inl (.bin .add), [.t 21, .c (.int .i64 (1))], some 30, none, []⟩, ⟨.inl .mov, [.t 30], some 21, none, []⟩] none)

def sq99_2 : AC := (.seq (.block 1 (.seq (.reg [⟨.inl .mov, [.t 21], some 23, none, []⟩, ⟨.inl .mov, [.t 23], some 9, none, []⟩] none)
 sq99_0))
 sq99_1)

def lb99_3 : AC := (.pre [0, 1, 2, 8, 20, 21] (.seq (.reg [⟨.inl (.bin .lss), [.t 21, .t 20], some 22, none, []⟩] none)
 (.seq (.cond (.t 22) .skip (.exit 0))
 sq99_2)))

def sq99_4 : AC := (.reg [⟨.inl .mov, [.t 13], some 48, none, []⟩, ⟨.inl .mov, [.t 0], some 49, none, []⟩, ⟨.inl .mov, [.t 11], some 50, none, []⟩, ⟨.inl (.idxA 1), [.t 49, .t 50], some 51, none, []⟩, ⟨.inl (.ld false 1), [.t 51], some 52, none, []⟩, ⟨.inl .mov, [.t 15], some 53, none, []⟩, ⟨.inl (.idxA 1), [.t 52, .t 53], some 54, none, []⟩, ⟨.inl (.ld false 1), [.t 54], some 55, none, []⟩, ⟨.inl (.bin .add), [.t 48, .t 55], some 56, none, []⟩, ⟨.inl .mov, [.t 56], some 13, none, []⟩] none)

def sq99_5 : AC := (.reg [⟨.inl (.bin .add), [.t 44, .c (.int .i64 (1))], some 57, none, []⟩, ⟨.inl .mov, [.t 57], some 44, none, []⟩] none)

def sp99_6 : AC := (.block 7 (.seq (.reg [⟨.inl (.idxA 1), [.t 42, .t 44], some 46, none, []⟩, ⟨.inl (.ld false 1), [.t 46], some 47, none, []⟩, ⟨.inl .mov, [.t 47], some 15, none, []⟩] none)
 sq99_4))

def lb99_7 : AC := (.pre [0, 1, 8, 10, 11, 13, 33, 34, 35, 42, 43, 44] (.seq (.reg [⟨.inl (.bin .lss), [.t 44, .t 43], some 45, none, []⟩] none)
 (.seq (.cond (.t 45) .skip (.exit 6))
 (.seq sp99_6
 sq99_5))))

def sq99_8 : AC := (.seq (.reg [⟨.inl .mov, [.t 10], some 67, none, []⟩, ⟨.inl .mov, [.t 11], some 68, none, []⟩, ⟨.inr (.bldS true true 1 1 [.int .i64 0] [(0, 1)]), [.t 68], some 69, none, []⟩, ⟨.inr (.app false 1 8), [.t 67, .t 69], some 70, none, []⟩, ⟨.inl .mov, [.t 70], some 10, none, []⟩] none)
 (.exit 3))

def st99_9 : AC := (.seq (.reg [⟨.inl .mov, [.t 8], some 64, none, []⟩, ⟨.inl .mov, [.t 11], some 65, none, []⟩, ⟨.inl (.idxA 1), [.t 64, .t 65], some 66, none, []⟩, ⟨.inr (.st 1), [.t 66, .c (.bool false)], none, none, []⟩] none)
 sq99_8)

def sq99_10 : AC := (.pre [0, 1, 8, 10, 11, 13, 33, 34, 35] (.seq (.reg [⟨.inl .mov, [.t 1], some 58, none, []⟩, ⟨.inl .mov, [.t 11], some 59, none, []⟩, ⟨.inl (.idxA 1), [.t 58, .t 59], some 60, none, []⟩, ⟨.inl (.ld false 1), [.t 60], some 61, none, []⟩, ⟨.inl .mov, [.t 13], some 62, none, []⟩, ⟨.inl (.bin .lss), [.t 61, .t 62], some 63, none, []⟩] none)
 (.cond (.t 63) st99_9 .skip)))

def sp99_11 : AC := (.seq (.reg [⟨.inl .mov, [.t 10], some 42, none, []⟩, ⟨.inl .len, [.t 42], some 43, none, []⟩, ⟨.inl .mov, [.c (.int .i64 (0))], some 44, none, []⟩] none)
 (.block 6 (.loop lb99_7)))

def sp99_12 : AC := (.seq (.reg [⟨.inl .mov, [.t 12], some 40, none, []⟩, ⟨.inl (.un .not), [.t 40], some 41, none, []⟩] none)
 (.cond (.t 41) (.exit 5) .skip))

def sq99_13 : AC := (.pre [0, 1, 8, 10, 33, 34, 35] (.reg [⟨.inl (.bin .add), [.t 35, .c (.int .i64 (1))], some 71, none, []⟩, ⟨.inl .mov, [.t 71], some 35, none, []⟩] none))

def sp99_14 : AC := (.block 5 (.seq (.reg [⟨.inl .mov, [.t 35], some 37, none, []⟩, ⟨.inl (.idxA 1), [.t 33, .t 35], some 38, none, []⟩, ⟨.inl (.ld false 1), [.t 38], some 39, none, []⟩, ⟨.inl .mov, [.t 37], some 11, none, []⟩, ⟨.inl .mov, [.t 39], some 12, none, []⟩] none)
 (.seq sp99_12
 (.seq (.reg [⟨.inl .mov, [.c (.int .i64 (0))], some 13, none, []⟩] none)
 (.seq sp99_11
 sq99_10)))))

def lb99_15 : AC := (.pre [0, 1, 8, 10, 33, 34, 35] (.seq (.reg [⟨.inl (.bin .lss), [.t 35, .t 34], some 36, none, []⟩] none)
 (.seq (.cond (.t 36) .skip (.exit 4))
 (.seq sp99_14
 sq99_13))))

def sq99_16 : AC := (.pre [8, 10] (.seq (.reg [⟨.inl .mov, [.t 8], some 72, none, []⟩, ⟨.inl .mov, [.t 10], some 73, none, []⟩, ⟨.inl .mov, [.t 72], some 6, none, []⟩, ⟨.inl .mov, [.t 73], some 7, none, []⟩] none)
 .ret))

def sp99_17 : AC := (.seq (.reg [⟨.inl .mov, [.t 8], some 33, none, []⟩, ⟨.inl .len, [.t 33], some 34, none, []⟩, ⟨.inl .mov, [.c (.int .i64 (0))], some 35, none, []⟩] none)
 (.block 4 (.loop lb99_15)))

def lb99_18 : AC := (.pre [0, 1, 8, 10] (.block 3 (.seq sp99_17
 sq99_16)))

def sq99_19 : AC := (.pre [0, 1, 2, 8] (.seq (.reg [⟨.inl .mov, [.t 2], some 31, none, []⟩, ⟨.inr (.bldS true false 1 1 [.int .i64 0] [(0, 1)]), [.t 31], some 32, none, []⟩, ⟨.inl .mov, [.t 32], some 10, none, []⟩] none)
 (.seq .skip
 (.block 2 (.loop lb99_18)))))

def sp99_20 : AC := (.seq (.reg [⟨.inl .mov, [.t 8], some 19, none, []⟩, ⟨.inl .len, [.t 19], some 20, none, []⟩, ⟨.inl .mov, [.c (.int .i64 (0))], some 21, none, []⟩] none)
 (.block 0 (.loop lb99_3)))

def sq99_21 : AC := (.seq .skip (.seq (.reg [⟨.inl .mov, [.t 0], some 16, none, []⟩, ⟨.inl .len, [.t 16], some 17, none, []⟩, ⟨.inr (.mkS 1 1 [.bool false]), [.t 17, .t 17], some 18, none, []⟩, ⟨.inl .mov, [.t 18], some 8, none, []⟩] none)
 (.seq sp99_20
 sq99_19)))

/-- (olivette/chips.board).burn -/
def af99 : AFunc := ⟨3,
 (.seq (.reg [⟨.inl .mov, [.c (.nilS)], some 6, none, []⟩, ⟨.inl .mov, [.c (.nilS)], some 7, none, []⟩] none)
 sq99_21),
 [.t 6, .t 7]⟩

def sq100_0 : AC := (.reg [⟨.inl .mov, [.t 7], some 19, none, []⟩, ⟨.inl .mov, [.t 8], some 20, none, []⟩, ⟨.inl .mov, [.t 2], some 21, none, []⟩, ⟨.inl .mov, [.t 7], some 22, none, []⟩, ⟨.inl .mov, [.t 8], some 23, none, []⟩, ⟨.inl (.idxA 1), [.t 22, .t 23], some 24, none, []⟩, ⟨.inl (.ld false 1), [.t 24], some 25, none, []⟩, ⟨.inl .mov, [.t 9], some 26, none, []⟩, ⟨.inr (.callv true true), [.t 21, .t 25, .t 26], some 27, none, []⟩, ⟨.inl (.idxA 1), [.t 19, .t 20], some 28, none, []⟩, ⟨.inr (.st 1), [.t 28, .t 27], none, none, []⟩] none)

def sq100_1 : AC := (.reg [⟨.inl (.bin .add), [.t 14, .c (.int .i64 (1))], some 29, none, []⟩, ⟨.inl .mov, [.t 29], some 14, none, []⟩] none)

def sp100_2 : AC := (.block 1 (.seq (.reg [⟨.inl .mov, [.t 14], some 16, none, []⟩, ⟨.inl (.idxA 1), [.t 12, .t 14], some 17, none, []⟩, ⟨.inl (.ld false 1), [.t 17], some 18, none, []⟩, ⟨.inl .mov, [.t 16], some 8, none, []⟩, ⟨.inl .mov, [.t 18], some 9, none, []⟩] none)
 sq100_0))

def lb100_3 : AC := (.pre [2, 7, 12, 13, 14] (.seq (.reg [⟨.inl (.bin .lss), [.t 14, .t 13], some 15, none, []⟩] none)
 (.seq (.cond (.t 15) .skip (.exit 0))
 (.seq sp100_2
 sq100_1))))

def sp100_4 : AC := (.seq (.reg [⟨.inl .mov, [.t 1], some 12, none, []⟩, ⟨.inl .len, [.t 12], some 13, none, []⟩, ⟨.inl .mov, [.c (.int .i64 (0))], some 14, none, []⟩] none)
 (.block 0 (.loop lb100_3)))

def sq100_5 : AC := (.seq sp100_4
 (.pre [7] (.seq (.reg [⟨.inl .mov, [.t 7], some 30, none, []⟩, ⟨.inl .mov, [.t 30], some 6, none, []⟩] none)
 .ret)))

def sq100_6 : AC := (.seq (.reg [⟨.inl .mov, [.t 0], some 10, none, []⟩, ⟨.inr (.call true false 76), [.t 10], some 11, none, []⟩, ⟨.inl .mov, [.t 11], some 7, none, []⟩] none)
 sq100_5)

/-- olivette/chips.combine[int] -/
def af100 : AFunc := ⟨3,
 (.seq (.reg [⟨.inl .mov, [.c (.nilS)], some 6, none, []⟩] none)
 sq100_6),
 [.t 6]⟩

def sq101_0 : AC := (.seq (.reg [⟨.inl .mov, [.t 0], some 5, none, []⟩, ⟨.inl .mov, [.t 1], some 6, none, []⟩, ⟨.inl (.bin .add), [.t 5, .t 6], some 7, none, []⟩, ⟨.inl .mov, [.t 7], some 4, none, []⟩] none)
 .ret)

/-- olivette/chips.plus$1 -/
def af101 : AFunc := ⟨2,
 (.seq (.reg [⟨.inl .mov, [.c (.int .i64 (0))], some 4, none, []⟩] none)
 sq101_0),
 [.t 4]⟩

def sq104_0 : AC := (.seq (.reg [⟨.inl .mov, [.t 0], some 3, none, []⟩, ⟨.inr (.call true true 53), [.t 3, .c (.int .i64 (-1048576)), .c (.int .i64 (1048576))], some 4, none, []⟩, ⟨.inl (.un .not), [.t 4], some 5, none, []⟩, ⟨.inl .mov, [.t 5], some 2, none, []⟩] none)
 .ret)

/-- (olivette/chips.board).isState$1 -/
def af104 : AFunc := ⟨1,
 (.seq (.reg [⟨.inl .mov, [.c (.bool false)], some 2, none, []⟩] none)
 sq104_0),
 [.t 2]⟩

def st105_0 : AC := (.reg [⟨.inl .mov, [.t 13], some 60, none, []⟩, ⟨.inl .mov, [.t 15], some 61, none, []⟩, ⟨.inl (.bin .add), [.t 60, .t 61], some 62, none, []⟩, ⟨.inl .mov, [.t 62], some 13, none, []⟩] none)

def sq105_1 : AC := (.seq (.reg [⟨.inl .mov, [.t 7], some 54, none, []⟩, ⟨.inl .mov, [.t 14], some 55, none, []⟩, ⟨.inl (.idxA 1), [.t 54, .t 55], some 56, none, []⟩, ⟨.inl (.ld false 1), [.t 56], some 57, none, []⟩, ⟨.inl .mov, [.t 9], some 58, none, []⟩, ⟨.inl (.bin .lss), [.t 57, .t 58], some 59, none, []⟩] none)
 (.cond (.t 59) st105_0 .skip))

def sq105_2 : AC := (.reg [⟨.inl (.bin .add), [.t 49, .c (.int .i64 (1))], some 63, none, []⟩, ⟨.inl .mov, [.t 63], some 49, none, []⟩] none)

def sp105_3 : AC := (.block 5 (.seq (.reg [⟨.inl .mov, [.t 49], some 51, none, []⟩, ⟨.inl (.idxA 1), [.t 47, .t 49], some 52, none, []⟩, ⟨.inl (.ld false 1), [.t 52], some 53, none, []⟩, ⟨.inl .mov, [.t 51], some 14, none, []⟩, ⟨.inl .mov, [.t 53], some 15, none, []⟩] none)
 sq105_1))

def lb105_4 : AC := (.pre [0, 1, 7, 8, 9, 10, 11, 12, 13, 34, 35, 47, 48, 49] (.seq (.reg [⟨.inl (.bin .lss), [.t 49, .t 48], some 50, none, []⟩] none)
 (.seq (.cond (.t 50) .skip (.exit 4))
 (.seq sp105_3
 sq105_2))))

def sq105_5 : AC := (.pre [0, 1, 7, 8, 9, 10, 11, 12, 13, 34, 35] (.reg [⟨.inl .mov, [.t 11], some 64, none, []⟩, ⟨.inl .mov, [.t 10], some 65, none, []⟩, ⟨.inl .mov, [.t 12], some 66, none, []⟩, ⟨.inl (.idxA 1), [.t 65, .t 66], some 67, none, []⟩, ⟨.inl (.ld false 1), [.t 67], some 68, none, []⟩, ⟨.inl (.un .neg), [.t 68], some 69, none, []⟩, ⟨.inl .mov, [.t 13], some 70, none, []⟩, ⟨.inr (.call true true 113), [.t 69, .t 70], some 71, none, []⟩, ⟨.inl .mx, [.t 64, .t 71], some 72, none, []⟩, ⟨.inl .mov, [.t 72], some 11, none, []⟩] none))

def sp105_6 : AC := (.seq (.reg [⟨.inl .mov, [.t 0], some 44, none, []⟩, ⟨.inl .mov, [.t 12], some 45, none, []⟩, ⟨.inl (.idxA 1), [.t 44, .t 45], some 46, none, []⟩, ⟨.inl (.ld false 1), [.t 46], some 47, none, []⟩, ⟨.inl .len, [.t 47], some 48, none, []⟩, ⟨.inl .mov, [.c (.int .i64 (0))], some 49, none, []⟩] none)
 (.block 4 (.loop lb105_4)))

def sp105_7 : AC := (.seq (.reg [⟨.inl .mov, [.t 7], some 38, none, []⟩, ⟨.inl .mov, [.t 12], some 39, none, []⟩, ⟨.inl (.idxA 1), [.t 38, .t 39], some 40, none, []⟩, ⟨.inl (.ld false 1), [.t 40], some 41, none, []⟩, ⟨.inl .mov, [.t 9], some 42, none, []⟩, ⟨.inl (.bin .neq), [.t 41, .t 42], some 43, none, []⟩] none)
 (.cond (.t 43) (.exit 3) .skip))

def sq105_8 : AC := (.pre [0, 1, 7, 8, 9, 10, 11, 34, 35] (.reg [⟨.inl (.bin .add), [.t 35, .c (.int .i64 (1))], some 73, none, []⟩, ⟨.inl .mov, [.t 73], some 35, none, []⟩] none))

def sp105_9 : AC := (.block 3 (.seq (.reg [⟨.inl .mov, [.t 35], some 37, none, []⟩, ⟨.inl .mov, [.t 37], some 12, none, []⟩] none)
 (.seq sp105_7
 (.seq (.reg [⟨.inl .mov, [.c (.int .i64 (0))], some 13, none, []⟩] none)
 (.seq sp105_6
 sq105_5)))))

def lb105_10 : AC := (.pre [0, 1, 7, 8, 9, 10, 11, 34, 35] (.seq (.reg [⟨.inl (.bin .lss), [.t 35, .t 34], some 36, none, []⟩] none)
 (.seq (.cond (.t 36) .skip (.exit 2))
 (.seq sp105_9
 sq105_8))))

def st105_11 : AC := (.reg [⟨.inl .mov, [.t 8], some 85, none, []⟩, ⟨.inl .mov, [.t 16], some 86, none, []⟩, ⟨.inl (.idxA 1), [.t 85, .t 86], some 87, none, []⟩, ⟨.inl (.ld false 1), [.t 87], some 88, none, []⟩, ⟨.inl .mov, [.t 11], some 89, none, []⟩, ⟨.inl (.bin .add), [.t 88, .t 89], some 90, none, []⟩, ⟨.inl (.idxA 1), [.t 85, .t 86], some 91, none, []⟩, ⟨.inr (.st 1), [.t 91, .t 90], none, none, []⟩] none)

def sq105_12 : AC := (.seq (.reg [⟨.inl .mov, [.t 7], some 79, none, []⟩, ⟨.inl .mov, [.t 16], some 80, none, []⟩, ⟨.inl (.idxA 1), [.t 79, .t 80], some 81, none, []⟩, ⟨.inl (.ld false 1), [.t 81], some 82, none, []⟩, ⟨.inl .mov, [.t 9], some 83, none, []⟩, ⟨.inl (.bin .lss), [.t 82, .t 83], some 84, none, []⟩] none)
 (.cond (.t 84) st105_11 .skip))

def sq105_13 : AC := (.reg [⟨.inl (.bin .add), [.t 76, .c (.int .i64 (1))], some 92, none, []⟩, ⟨.inl .mov, [.t 92], some 76, none, []⟩] none)

def sp105_14 : AC := (.block 7 (.seq (.reg [⟨.inl .mov, [.t 76], some 78, none, []⟩, ⟨.inl .mov, [.t 78], some 16, none, []⟩] none)
 sq105_12))

def lb105_15 : AC := (.pre [0, 1, 7, 8, 9, 11, 75, 76] (.seq (.reg [⟨.inl (.bin .lss), [.t 76, .t 75], some 77, none, []⟩] none)
 (.seq (.cond (.t 77) .skip (.exit 6))
 (.seq sp105_14
 sq105_13))))

def sq105_16 : AC := (.pre [0, 1, 7, 8, 9, 11] (.seq (.reg [⟨.inl .mov, [.t 0], some 74, none, []⟩, ⟨.inl .len, [.t 74], some 75, none, []⟩, ⟨.inl .mov, [.c (.int .i64 (0))], some 76, none, []⟩] none)
 (.block 6 (.loop lb105_15))))

def sp105_17 : AC := (.seq (.reg [⟨.inl .mov, [.t 0], some 33, none, []⟩, ⟨.inl .len, [.t 33], some 34, none, []⟩, ⟨.inl .mov, [.c (.int .i64 (0))], some 35, none, []⟩] none)
 (.block 2 (.loop lb105_10)))

def sq105_18 : AC := (.pre [0, 1, 7, 8, 9] (.reg [⟨.inl .mov, [.t 9], some 27, none, []⟩, ⟨.inl (.bin .sub), [.t 27, .c (.int .i64 (1))], some 28, none, []⟩, ⟨.inl .mov, [.t 28], some 9, none, []⟩] none))

def sp105_19 : AC := (.block 1 (.seq (.reg [⟨.inl .mov, [.t 0], some 29, none, []⟩, ⟨.inl .mov, [.t 1], some 30, none, []⟩, ⟨.inl .mov, [.t 8], some 31, none, []⟩, ⟨.inr (.call true true 55), [.t 29, .t 30, .t 31], some 32, none, []⟩, ⟨.inl .mov, [.t 32], some 10, none, []⟩] none)
 (.seq (.reg [⟨.inl .mov, [.c (.int .i64 (0))], some 11, none, []⟩] none)
 (.seq sp105_17
 sq105_16))))

def sp105_20 : AC := (.seq (.reg [⟨.inl .mov, [.t 9], some 25, none, []⟩, ⟨.inl (.bin .gtr), [.t 25, .c (.int .i64 (0))], some 26, none, []⟩] none)
 (.cond (.t 26) .skip (.exit 0)))

def lb105_21 : AC := (.pre [0, 1, 7, 8, 9] (.seq sp105_20
 (.seq sp105_19
 sq105_18)))

def sp105_22 : AC := (.seq (.reg [⟨.inl .mov, [.t 7], some 23, none, []⟩, ⟨.inr (.call true true 112), [.t 23], some 24, none, []⟩, ⟨.inl .mov, [.t 24], some 9, none, []⟩] none)
 (.block 0 (.loop lb105_21)))

def sq105_23 : AC := (.seq sp105_22
 (.pre [8] (.seq (.reg [⟨.inl .mov, [.t 8], some 93, none, []⟩, ⟨.inl .mov, [.t 93], some 6, none, []⟩] none)
 .ret)))

def sq105_24 : AC := (.seq (.reg [⟨.inl .mov, [.t 0], some 20, none, []⟩, ⟨.inl .len, [.t 20], some 21, none, []⟩, ⟨.inr (.mkS 1 8 [.int .i64 0]), [.t 21, .t 21], some 22, none, []⟩, ⟨.inl .mov, [.t 22], some 8, none, []⟩] none)
 sq105_23)

def sq105_25 : AC := (.seq (.reg [⟨.inl .mov, [.t 0], some 17, none, []⟩, ⟨.inl .mov, [.t 2], some 18, none, []⟩, ⟨.inr (.call true true 84), [.t 17, .t 18], some 19, none, []⟩, ⟨.inl .mov, [.t 19], some 7, none, []⟩] none)
 sq105_24)

/-- (olivette/chips.board).pay -/
def af105 : AFunc := ⟨3,
 (.seq (.reg [⟨.inl .mov, [.c (.nilS)], some 6, none, []⟩] none)
 sq105_25),
 [.t 6]⟩

def sq109_0 : AC := (.cond (.t 16) (.seq (.reg [⟨.inl .mov, [.t 5], some 17, none, []⟩, ⟨.inl .mov, [.t 17], some 4, none, []⟩] none)
 .ret) .skip)

def sq109_1 : AC := (.seq (.reg [⟨.inl .mov, [.t 1], some 11, none, []⟩, ⟨.inl .mov, [.t 0], some 12, none, []⟩, ⟨.inl .mov, [.t 5], some 13, none, []⟩, ⟨.inl (.idxA 1), [.t 12, .t 13], some 14, none, []⟩, ⟨.inl (.ld false 1), [.t 14], some 15, none, []⟩, ⟨.inl (.bin .eql), [.t 11, .t 15], some 16, none, []⟩] none)
 sq109_0)

def sq109_2 : AC := (.seq (.block 1 (.seq (.reg [⟨.inl .mov, [.t 8], some 10, none, []⟩, ⟨.inl .mov, [.t 10], some 5, none, []⟩] none)
 sq109_1))
 (.reg [⟨.inl (.bin .add), [.t 8, .c (.int .i64 (1))], some 18, none, []⟩, ⟨.inl .mov, [.t 18], some 8, none, []⟩] none))

def lb109_3 : AC := (.pre [0, 1, 7, 8] (.seq (.reg [⟨.inl (.bin .lss), [.t 8, .t 7], some 9, none, []⟩] none)
 (.seq (.cond (.t 9) .skip (.exit 0))
 sq109_2)))

def sp109_4 : AC := (.seq (.reg [⟨.inl .mov, [.t 0], some 6, none, []⟩, ⟨.inl .len, [.t 6], some 7, none, []⟩, ⟨.inl .mov, [.c (.int .i64 (0))], some 8, none, []⟩] none)
 (.block 0 (.loop lb109_3)))

/-- slices.Index[[]int,int] -/
def af109 : AFunc := ⟨2,
 (.seq (.reg [⟨.inl .mov, [.c (.int .i64 (0))], some 4, none, []⟩] none)
 (.seq sp109_4
 (.pre [] (.seq (.reg [⟨.inl .mov, [.c (.int .i64 (-1))], some 4, none, []⟩] none)
 .ret)))),
 [.t 4]⟩

def sq110_0 : AC := (.seq (.reg [⟨.inl .mov, [.t 0], some 3, none, []⟩, ⟨.inl (.bin .geq), [.t 3, .c (.int .i64 (1))], some 4, none, []⟩, ⟨.inl .mov, [.t 4], some 5, none, []⟩, ⟨.inl .mov, [.t 0], some 6, some (5, true), []⟩, ⟨.inl (.bin .leq), [.t 6, .c (.int .i64 (2147483647))], some 7, some (5, true), []⟩, ⟨.inl .pick, [.t 5, .t 7, .c (.bool false)], some 8, none, []⟩, ⟨.inl .mov, [.t 8], some 2, none, []⟩] none)
 .ret)

/-- olivette/prime.isNumber -/
def af110 : AFunc := ⟨1,
 (.seq (.reg [⟨.inl .mov, [.c (.bool false)], some 2, none, []⟩] none)
 sq110_0),
 [.t 2]⟩

def sq111_0 : AC := (.seq (.reg [⟨.inl .mov, [.t 0], some 5, none, []⟩, ⟨.inl .mov, [.t 1], some 6, none, []⟩, ⟨.inl .mov, [.t 0], some 7, none, []⟩, ⟨.inl .mov, [.t 1], some 8, none, []⟩, ⟨.inr (.call true true 81), [.t 7, .t 8, .c (.int .i64 (0))], some 9, none, []⟩, ⟨.inr (.call true true 55), [.t 5, .t 6, .t 9], some 10, none, []⟩, ⟨.inl .mov, [.t 10], some 4, none, []⟩] none)
 .ret)

/-- (olivette/chips.board).reduced -/
def af111 : AFunc := ⟨2,
 (.seq (.reg [⟨.inl .mov, [.c (.nilS)], some 4, none, []⟩] none)
 sq111_0),
 [.t 4]⟩

def sq112_0 : AC := (.reg [⟨.inl .mov, [.t 4], some 16, none, []⟩, ⟨.inl (.bin .add), [.t 16, .c (.int .i64 (1))], some 17, none, []⟩, ⟨.inl .mov, [.t 17], some 4, none, []⟩] none)

def sp112_1 : AC := (.block 1 (.reg [⟨.inl .mov, [.t 3], some 18, none, []⟩, ⟨.inl .mov, [.t 0], some 19, none, []⟩, ⟨.inl .mov, [.t 4], some 20, none, []⟩, ⟨.inl (.idxA 1), [.t 19, .t 20], some 21, none, []⟩, ⟨.inl (.ld false 1), [.t 21], some 22, none, []⟩, ⟨.inl .mx, [.t 18, .t 22], some 23, none, []⟩, ⟨.inl .mov, [.t 23], some 3, none, []⟩] none))

def sp112_2 : AC := (.seq (.reg [⟨.inl .mov, [.t 4], some 12, none, []⟩, ⟨.inl .mov, [.t 0], some 13, none, []⟩, ⟨.inl .len, [.t 13], some 14, none, []⟩, ⟨.inl (.bin .lss), [.t 12, .t 14], some 15, none, []⟩] none)
 (.cond (.t 15) .skip (.exit 0)))

def lb112_3 : AC := (.pre [0, 3, 4] (.seq sp112_2
 (.seq sp112_1
 sq112_0)))

def sq112_4 : AC := (.seq (.seq (.reg [⟨.inl .mov, [.c (.int .i64 (1))], some 4, none, []⟩] none)
 (.block 0 (.loop lb112_3)))
 (.pre [3] (.seq (.reg [⟨.inl .mov, [.t 3], some 24, none, []⟩, ⟨.inl .mov, [.t 24], some 2, none, []⟩] none)
 .ret)))

def sq112_5 : AC := (.seq (.reg [⟨.inl .mov, [.t 0], some 9, none, []⟩, ⟨.inl (.idxA 1), [.t 9, .c (.int .i64 (0))], some 10, none, []⟩, ⟨.inl (.ld false 1), [.t 10], some 11, none, []⟩, ⟨.inl .mov, [.t 11], some 3, none, []⟩] none)
 sq112_4)

def sp112_6 : AC := (.seq (.reg [⟨.inl .mov, [.t 0], some 5, none, []⟩, ⟨.inl .len, [.t 5], some 6, none, []⟩, ⟨.inl (.bin .lss), [.t 6, .c (.int .i64 (1))], some 7, none, []⟩] none)
 (.cond (.t 7) (.reg [⟨.inl .fail, [], some 8, none, []⟩, ⟨.inl .fail, [], none, none, []⟩] none) .skip))

/-- slices.Max[[]int,int] -/
def af112 : AFunc := ⟨1,
 (.seq (.reg [⟨.inl .mov, [.c (.int .i64 (0))], some 2, none, []⟩] none)
 (.seq sp112_6
 sq112_5)),
 [.t 2]⟩

def sq113_0 : AC := (.seq (.reg [⟨.inl .mov, [.t 0], some 7, none, []⟩, ⟨.inl .mov, [.t 1], some 8, none, []⟩, ⟨.inl (.bin .add), [.t 7, .t 8], some 9, none, []⟩, ⟨.inl (.bin .sub), [.t 9, .c (.int .i64 (1))], some 10, none, []⟩, ⟨.inl .mov, [.t 1], some 11, none, []⟩, ⟨.inl (.bin .quo), [.t 10, .t 11], some 12, none, []⟩, ⟨.inl .mov, [.t 12], some 4, none, []⟩] none)
 .ret)

def sp113_1 : AC := (.seq (.reg [⟨.inl .mov, [.t 0], some 5, none, []⟩, ⟨.inl (.bin .leq), [.t 5, .c (.int .i64 (0))], some 6, none, []⟩] none)
 (.cond (.t 6) (.seq (.reg [⟨.inl .mov, [.c (.int .i64 (0))], some 4, none, []⟩] none)
 .ret) .skip))

/-- olivette/chips.ceil -/
def af113 : AFunc := ⟨2,
 (.seq (.reg [⟨.inl .mov, [.c (.int .i64 (0))], some 4, none, []⟩] none)
 (.seq sp113_1
 sq113_0)),
 [.t 4]⟩


def tab : Nat → Option AFunc
  | 6 => some af6
  | 20 => some af20
  | 22 => some af22
  | 25 => some af25
  | 29 => some af29
  | 30 => some af30
  | 32 => some af32
  | 34 => some af34
  | 36 => some af36
  | 39 => some af39
  | 40 => some af40
  | 49 => some af49
  | 52 => some af52
  | 53 => some af53
  | 54 => some af54
  | 55 => some af55
  | 60 => some af60
  | 61 => some af61
  | 62 => some af62
  | 63 => some af63
  | 64 => some af64
  | 69 => some af69
  | 71 => some af71
  | 72 => some af72
  | 73 => some af73
  | 74 => some af74
  | 76 => some af76
  | 77 => some af77
  | 80 => some af80
  | 81 => some af81
  | 83 => some af83
  | 84 => some af84
  | 85 => some af85
  | 86 => some af86
  | 87 => some af87
  | 88 => some af88
  | 89 => some af89
  | 90 => some af90
  | 91 => some af91
  | 92 => some af92
  | 93 => some af93
  | 98 => some af98
  | 99 => some af99
  | 100 => some af100
  | 101 => some af101
  | 104 => some af104
  | 105 => some af105
  | 109 => some af109
  | 110 => some af110
  | 111 => some af111
  | 112 => some af112
  | 113 => some af113
  | _ => none
def tabI : Nat → Option AFunc
  | _ => none
def types : List (Nat × TS) := [
  (3, ⟨.int .i64, 1, 8, [.int .i64 0]⟩),
  (4, ⟨.bool, 1, 1, [.bool false]⟩),
  (22, ⟨.slice 23, 1, 24, [.nilS]⟩),
  (23, ⟨.slice 3, 1, 24, [.nilS]⟩),
  (48, ⟨.struct [(0, 4), (1, 23), (2, 23)], 3, 56, [.bool false, .nilS, .nilS]⟩),
  (62, ⟨.slice 23, 1, 24, [.nilS]⟩),
  (65, ⟨.slice 4, 1, 24, [.nilS]⟩),
  (83, ⟨.int .u64, 1, 8, [.int .u64 0]⟩),
  (92, ⟨.int .u64, 1, 8, [.int .u64 0]⟩),
  (107, ⟨.array 10 3, 10, 80, [.int .i64 0, .int .i64 0, .int .i64 0, .int .i64 0, .int .i64 0, .int .i64 0, .int .i64 0, .int .i64 0, .int .i64 0, .int .i64 0]⟩)
]
end Go.AM.Ch
