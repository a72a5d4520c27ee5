/- The functions as the abstract machine has them. -/
import Derived.Test.YtmeajfgjbebkiaaPa1
namespace Go.AM.Pa
def sf37_0 : AC := (.seq (.reg [⟨.inl (.ld true 3), [.t 2], some 10, none, []⟩, ⟨.inl (.ld true 2), [.t 3], some 11, none, []⟩, ⟨.inr (.call true true 60), [.t 10, .t 11], some 12, none, []⟩, ⟨.inl (.un .not), [.t 12], some 13, none, []⟩, ⟨.inl .mov, [.t 13], some 9, none, []⟩] none)
 (.cond (.t 9) (.seq (.reg [⟨.inl .mov, [.c (.int .i64 (10))], some 4, none, []⟩] none)
 .ret) .skip))

def sp37_1 : AC := (.block 0 (.seq (.reg [⟨.inl (.ld true 3), [.t 2], some 6, none, []⟩, ⟨.inr (.call true true 39), [.t 6], some 7, none, []⟩, ⟨.inl (.un .not), [.t 7], some 8, none, []⟩, ⟨.inl .mov, [.t 8], some 5, none, []⟩] none)
 (.cond (.t 5) (.seq (.reg [⟨.inl .mov, [.c (.int .i64 (2))], some 4, none, []⟩] none)
 .ret) sf37_0)))

/-- olivette/parity.Check -/
def af37 : AFunc := ⟨2,
 (.seq (.reg [⟨.inr (.box false), [.t 0], some 2, none, []⟩, ⟨.inr (.box false), [.t 1], some 3, none, []⟩, ⟨.inl .mov, [.c (.int .i64 (0))], some 4, none, []⟩] none)
 (.seq sp37_1
 (.seq (.reg [⟨.inl .mov, [.c (.int .i64 (0))], some 4, none, []⟩] none)
 .ret))),
 [.t 4]⟩

def sq39_0 : AC := (.seq (.reg [⟨.inl (.fldA 0), [.t 1], some 34, none, []⟩, ⟨.inl (.ld false 1), [.t 34], some 35, none, []⟩, ⟨.inl .mov, [.t 4], some 36, none, []⟩, ⟨.inl (.idxA 1), [.t 35, .t 36], some 37, none, []⟩, ⟨.inl (.ld false 1), [.t 37], some 38, none, []⟩, ⟨.inr (.call true true 40), [.t 38, .c (.int .i64 (0)), .c (.int .i64 (1))], some 39, none, []⟩, ⟨.inl (.un .not), [.t 39], some 40, none, []⟩, ⟨.inl .mov, [.t 40], some 41, none, []⟩, ⟨.inl (.fldA 1), [.t 1], some 42, some (41, false), []⟩, ⟨.inl (.ld false 1), [.t 42], some 43, some (41, false), []⟩, ⟨.inl .mov, [.t 4], some 44, some (41, false), []⟩, ⟨.inl (.idxA 1), [.t 43, .t 44], some 45, some (41, false), []⟩, ⟨.inl (.ld false 1), [.t 45], some 46, some (41, false), []⟩, ⟨.inr (.call true true 40), [.t 46, .c (.int .i64 (0)), .c (.int .i64 (9))], some 47, some (41, false), []⟩, ⟨.inl (.un .not), [.t 47], some 48, some (41, false), []⟩, ⟨.inl .pick, [.t 41, .c (.bool true), .t 48], some 49, none, []⟩, ⟨.inl .mov, [.t 49], some 50, none, []⟩, ⟨.inl .mov, [.t 5], some 51, some (50, false), []⟩, ⟨.inl .len, [.t 51], some 52, some (50, false), []⟩, ⟨.inl (.bin .eql), [.t 52, .c (.int .i64 (0))], some 53, some (50, false), []⟩, ⟨.inl .pick, [.t 50, .c (.bool true), .t 53], some 54, none, []⟩, ⟨.inl .mov, [.t 54], some 55, none, []⟩, ⟨.inl .mov, [.t 5], some 56, some (55, false), []⟩, ⟨.inl .mov, [.t 3], some 57, some (55, false), []⟩, ⟨.inr (.call true true 41), [.t 56, .t 57], some 58, some (55, false), []⟩, ⟨.inl (.un .not), [.t 58], some 59, some (55, false), []⟩, ⟨.inl .pick, [.t 55, .c (.bool true), .t 59], some 60, none, []⟩] none)
 (.cond (.t 60) (.seq (.reg [⟨.inl .mov, [.c (.bool false)], some 2, none, []⟩] none)
 .ret) .skip))

def sq39_1 : AC := (.reg [⟨.inl (.bin .add), [.t 29, .c (.int .i64 (1))], some 61, none, []⟩, ⟨.inl .mov, [.t 61], some 29, none, []⟩] none)

def sp39_2 : AC := (.block 1 (.seq (.reg [⟨.inl .mov, [.t 29], some 31, none, []⟩, ⟨.inl (.idxA 1), [.t 27, .t 29], some 32, none, []⟩, ⟨.inl (.ld false 1), [.t 32], some 33, none, []⟩, ⟨.inl .mov, [.t 31], some 4, none, []⟩, ⟨.inl .mov, [.t 33], some 5, none, []⟩] none)
 sq39_0))

def lb39_3 : AC := (.pre [1, 3, 27, 28, 29] (.seq (.reg [⟨.inl (.bin .lss), [.t 29, .t 28], some 30, none, []⟩] none)
 (.seq (.cond (.t 30) .skip (.exit 0))
 (.seq sp39_2
 sq39_1))))

def sp39_4 : AC := (.seq (.reg [⟨.inl (.fldA 2), [.t 1], some 26, none, []⟩, ⟨.inl (.ld false 1), [.t 26], some 27, none, []⟩, ⟨.inl .len, [.t 27], some 28, none, []⟩, ⟨.inl .mov, [.c (.int .i64 (0))], some 29, none, []⟩] none)
 (.block 0 (.loop lb39_3)))

def sp39_5 : AC := (.seq (.reg [⟨.inl .mov, [.t 3], some 9, none, []⟩, ⟨.inr (.call true true 40), [.t 9, .c (.int .i64 (1)), .c (.int .i64 (24))], some 10, none, []⟩, ⟨.inl (.un .not), [.t 10], some 11, none, []⟩, ⟨.inl .mov, [.t 11], some 12, none, []⟩, ⟨.inl (.fldA 0), [.t 1], some 13, some (12, false), []⟩, ⟨.inl (.ld false 1), [.t 13], some 14, some (12, false), []⟩, ⟨.inl .len, [.t 14], some 15, some (12, false), []⟩, ⟨.inl .mov, [.t 3], some 16, some (12, false), []⟩, ⟨.inl (.bin .neq), [.t 15, .t 16], some 17, some (12, false), []⟩, ⟨.inl .pick, [.t 12, .c (.bool true), .t 17], some 18, none, []⟩, ⟨.inl .mov, [.t 18], some 19, none, []⟩, ⟨.inl (.fldA 1), [.t 1], some 20, some (19, false), []⟩, ⟨.inl (.ld false 1), [.t 20], some 21, some (19, false), []⟩, ⟨.inl .len, [.t 21], some 22, some (19, false), []⟩, ⟨.inl .mov, [.t 3], some 23, some (19, false), []⟩, ⟨.inl (.bin .neq), [.t 22, .t 23], some 24, some (19, false), []⟩, ⟨.inl .pick, [.t 19, .c (.bool true), .t 24], some 25, none, []⟩] none)
 (.cond (.t 25) (.seq (.reg [⟨.inl .mov, [.c (.bool false)], some 2, none, []⟩] none)
 .ret) .skip))

def sq39_6 : AC := (.seq (.reg [⟨.inl (.fldA 2), [.t 1], some 6, none, []⟩, ⟨.inl (.ld false 1), [.t 6], some 7, none, []⟩, ⟨.inl .len, [.t 7], some 8, none, []⟩, ⟨.inl .mov, [.t 8], some 3, none, []⟩] none)
 (.seq sp39_5
 (.seq sp39_4
 (.pre [] (.seq (.reg [⟨.inl .mov, [.c (.bool true)], some 2, none, []⟩] none)
 .ret)))))

/-- olivette/parity.isGame -/
def af39 : AFunc := ⟨1,
 (.seq (.reg [⟨.inr (.box false), [.t 0], some 1, none, []⟩, ⟨.inl .mov, [.c (.bool false)], some 2, none, []⟩] none)
 sq39_6),
 [.t 2]⟩

def sq40_0 : AC := (.seq (.reg [⟨.inl .mov, [.t 0], some 7, none, []⟩, ⟨.inl .mov, [.t 1], some 8, none, []⟩, ⟨.inl (.bin .geq), [.t 7, .t 8], some 9, none, []⟩, ⟨.inl .mov, [.t 9], some 10, none, []⟩, ⟨.inl .mov, [.t 0], some 11, some (10, true), []⟩, ⟨.inl .mov, [.t 2], some 12, some (10, true), []⟩, ⟨.inl (.bin .leq), [.t 11, .t 12], some 13, some (10, true), []⟩, ⟨.inl .pick, [.t 10, .t 13, .c (.bool false)], some 14, none, []⟩, ⟨.inl .mov, [.t 14], some 6, none, []⟩] none)
 .ret)

/-- olivette/parity.within -/
def af40 : AFunc := ⟨3,
 (.seq (.reg [⟨.inl .mov, [.c (.bool false)], some 6, none, []⟩] none)
 sq40_0),
 [.t 6]⟩

def sq41_0 : AC := (.seq (.reg [⟨.inl .mov, [.t 6], some 14, none, []⟩, ⟨.inl .mov, [.t 1], some 15, none, []⟩, ⟨.inl (.bin .sub), [.t 15, .c (.int .i64 (1))], some 16, none, []⟩, ⟨.inr (.call true true 40), [.t 14, .c (.int .i64 (0)), .t 16], some 17, none, []⟩, ⟨.inl (.un .not), [.t 17], some 18, none, []⟩, ⟨.inl .mov, [.t 18], some 19, none, []⟩, ⟨.inl .mov, [.t 5], some 20, some (19, false), []⟩, ⟨.inl (.bin .gtr), [.t 20, .c (.int .i64 (0))], some 21, some (19, false), []⟩, ⟨.inl .mov, [.t 21], some 22, some (19, false), []⟩, ⟨.inl .mov, [.t 0], some 23, some (22, true), []⟩, ⟨.inl .mov, [.t 5], some 24, some (22, true), []⟩, ⟨.inl (.bin .sub), [.t 24, .c (.int .i64 (1))], some 25, some (22, true), []⟩, ⟨.inl (.idxA 1), [.t 23, .t 25], some 26, some (22, true), []⟩, ⟨.inl (.ld false 1), [.t 26], some 27, some (22, true), []⟩, ⟨.inl .mov, [.t 6], some 28, some (22, true), []⟩, ⟨.inl (.bin .geq), [.t 27, .t 28], some 29, some (22, true), []⟩, ⟨.inl .pick, [.t 22, .t 29, .c (.bool false)], some 30, some (19, false), []⟩, ⟨.inl .pick, [.t 19, .c (.bool true), .t 30], some 31, none, []⟩] none)
 (.cond (.t 31) (.seq (.reg [⟨.inl .mov, [.c (.bool false)], some 4, none, []⟩] none)
 .ret) .skip))

def sp41_1 : AC := (.block 1 (.seq (.reg [⟨.inl .mov, [.t 9], some 11, none, []⟩, ⟨.inl (.idxA 1), [.t 7, .t 9], some 12, none, []⟩, ⟨.inl (.ld false 1), [.t 12], some 13, none, []⟩, ⟨.inl .mov, [.t 11], some 5, none, []⟩, ⟨.inl .mov, [.t 13], some 6, none, []⟩] none)
 sq41_0))

def sq41_2 : AC := (.seq sp41_1
 (.reg [⟨.inl (.bin .add), [.t 9, .c (.int .i64 (1))], some 32, none, []⟩, ⟨.inl .mov, [.t 32], some 9, none, []⟩] none))

def lb41_3 : AC := (.pre [0, 1, 7, 8, 9] (.seq (.reg [⟨.inl (.bin .lss), [.t 9, .t 8], some 10, none, []⟩] none)
 (.seq (.cond (.t 10) .skip (.exit 0))
 sq41_2)))

def sp41_4 : AC := (.seq (.reg [⟨.inl .mov, [.t 0], some 7, none, []⟩, ⟨.inl .len, [.t 7], some 8, none, []⟩, ⟨.inl .mov, [.c (.int .i64 (0))], some 9, none, []⟩] none)
 (.block 0 (.loop lb41_3)))

/-- olivette/parity.ascending -/
def af41 : AFunc := ⟨2,
 (.seq (.reg [⟨.inl .mov, [.c (.bool false)], some 4, none, []⟩] none)
 (.seq sp41_4
 (.pre [] (.seq (.reg [⟨.inl .mov, [.c (.bool true)], some 4, none, []⟩] none)
 .ret)))),
 [.t 4]⟩

def sq42_0 : AC := (.reg [⟨.inl .mov, [.t 3], some 14, none, []⟩, ⟨.inl .mov, [.t 4], some 15, none, []⟩, ⟨.inl (.idxA 1), [.t 14, .t 15], some 16, none, []⟩, ⟨.inr (.st 1), [.t 16, .c (.int .i64 (-1))], none, none, []⟩] none)

def sq42_1 : AC := (.reg [⟨.inl (.bin .add), [.t 11, .c (.int .i64 (1))], some 17, none, []⟩, ⟨.inl .mov, [.t 17], some 11, none, []⟩] none)

def sq42_2 : AC := (.seq (.block 1 (.seq (.reg [⟨.inl .mov, [.t 11], some 13, none, []⟩, ⟨.inl .mov, [.t 13], some 4, none, []⟩] none)
 sq42_0))
 sq42_1)

def lb42_3 : AC := (.pre [1, 3, 10, 11] (.seq (.reg [⟨.inl (.bin .lss), [.t 11, .t 10], some 12, none, []⟩] none)
 (.seq (.cond (.t 12) .skip (.exit 0))
 sq42_2)))

def sq42_4 : AC := (.pre [1, 3] (.seq (.reg [⟨.inl (.ld true 3), [.t 1], some 18, none, []⟩, ⟨.inl .mov, [.t 3], some 19, none, []⟩, ⟨.inl (.bld [.nilS, .nilS, .nilS, .nilS] [(0, 3), (3, 1)]), [.t 18, .t 19], some 20, none, []⟩, ⟨.inr (.box false), [.t 20], some 21, none, []⟩, ⟨.inl .mov, [.t 21], some 2, none, []⟩] none)
 .ret))

def sp42_5 : AC := (.seq (.reg [⟨.inl .mov, [.t 3], some 9, none, []⟩, ⟨.inl .len, [.t 9], some 10, none, []⟩, ⟨.inl .mov, [.c (.int .i64 (0))], some 11, none, []⟩] none)
 (.block 0 (.loop lb42_3)))

def sq42_6 : AC := (.seq (.reg [⟨.inl (.fldA 2), [.t 1], some 5, none, []⟩, ⟨.inl (.ld false 1), [.t 5], some 6, none, []⟩, ⟨.inl .len, [.t 6], some 7, none, []⟩, ⟨.inr (.mkS 1 8 [.int .i64 0]), [.t 7, .t 7], some 8, none, []⟩, ⟨.inl .mov, [.t 8], some 3, none, []⟩] none)
 (.seq sp42_5
 sq42_4))

/-- olivette/parity.newGame -/
def af42 : AFunc := ⟨1,
 (.seq (.reg [⟨.inr (.box false), [.t 0], some 1, none, []⟩, ⟨.inl .mov, [.c (.nilP)], some 2, none, []⟩] none)
 sq42_6),
 [.t 2]⟩

def sq43_0 : AC := (.seq (.reg [⟨.inl .mov, [.t 0], some 3, none, []⟩, ⟨.inr (.call true false 62), [.c (.nilS), .t 3], some 4, none, []⟩, ⟨.inl .mov, [.t 4], some 2, none, []⟩] none)
 .ret)

/-- slices.Collect[int] -/
def af43 : AFunc := ⟨1,
 (.seq (.reg [⟨.inl .mov, [.c (.nilS)], some 2, none, []⟩] none)
 sq43_0),
 [.t 2]⟩

def st44_0 : AC := (.reg [⟨.inl .mov, [.t 16], some 45, none, []⟩, ⟨.inl .mov, [.c (.bool true)], some 12, none, []⟩, ⟨.inl .mov, [.t 45], some 14, none, []⟩] none)

def sq44_1 : AC := (.seq (.reg [⟨.inl .mov, [.t 16], some 42, none, []⟩, ⟨.inl (.idxP 24 1), [.t 9, .t 42], some 43, none, []⟩, ⟨.inl (.ld false 1), [.t 43], some 44, none, []⟩] none)
 (.cond (.t 44) st44_0 (.reg [⟨.inl .mov, [.c (.bool false)], some 13, none, []⟩] none)))

def sp44_2 : AC := (.seq (.reg [⟨.inl .mov, [.t 16], some 38, none, []⟩, ⟨.inl (.idxP 24 1), [.t 5, .t 38], some 39, none, []⟩, ⟨.inl (.ld false 1), [.t 39], some 40, none, []⟩, ⟨.inl (.un .not), [.t 40], some 41, none, []⟩] none)
 (.cond (.t 41) (.exit 5) .skip))

def sq44_3 : AC := (.reg [⟨.inl (.bin .add), [.t 34, .c (.int .i64 (1))], some 46, none, []⟩, ⟨.inl .mov, [.t 46], some 34, none, []⟩] none)

def sp44_4 : AC := (.block 5 (.seq (.reg [⟨.inl (.idxA 1), [.t 32, .t 34], some 36, none, []⟩, ⟨.inl (.ld false 1), [.t 36], some 37, none, []⟩, ⟨.inl .mov, [.t 37], some 16, none, []⟩] none)
 (.seq sp44_2
 sq44_1)))

def lb44_5 : AC := (.pre [4, 5, 6, 9, 10, 11, 12, 13, 14, 32, 33, 34] (.seq (.reg [⟨.inl (.bin .lss), [.t 34, .t 33], some 35, none, []⟩] none)
 (.seq (.cond (.t 35) .skip (.exit 4))
 (.seq sp44_4
 sq44_3))))

def st44_6 : AC := (.reg [⟨.inl (.ld false 1), [.t 4], some 90, none, []⟩, ⟨.inl .nilc, [.t 90], some 91, none, []⟩, ⟨.inl (.fldA 3), [.t 91], some 92, none, []⟩, ⟨.inl (.ld false 1), [.t 92], some 93, none, []⟩, ⟨.inl .mov, [.t 11], some 94, none, []⟩, ⟨.inl .mov, [.t 14], some 95, none, []⟩, ⟨.inl (.idxA 1), [.t 93, .t 94], some 96, none, []⟩, ⟨.inr (.st 1), [.t 96, .t 95], none, none, []⟩] none)

def sq44_7 : AC := (.seq (.reg [⟨.inl (.ld false 1), [.t 4], some 80, none, []⟩, ⟨.inl .nilc, [.t 80], some 81, none, []⟩, ⟨.inl (.fldA 0), [.t 81], some 82, none, []⟩, ⟨.inl (.fldA 0), [.t 82], some 83, none, []⟩, ⟨.inl (.ld false 1), [.t 83], some 84, none, []⟩, ⟨.inl .mov, [.t 11], some 85, none, []⟩, ⟨.inl (.idxA 1), [.t 84, .t 85], some 86, none, []⟩, ⟨.inl (.ld false 1), [.t 86], some 87, none, []⟩, ⟨.inl (.ld false 1), [.t 6], some 88, none, []⟩, ⟨.inl (.bin .eql), [.t 87, .t 88], some 89, none, []⟩] (some ([0, 1, 2, 3, 4, 5, 6, 7, 8, 9], [], [0, 1, 3, 7, 15, 0, 63, 127, 0, 511])))
 (.cond (.t 89) st44_6 .skip))

def st44_8 : AC := (.seq (.reg [⟨.inl .mov, [.t 11], some 78, none, []⟩, ⟨.inl (.idxP 24 1), [.t 9, .t 78], some 79, none, []⟩, ⟨.inr (.st 1), [.t 79, .c (.bool true)], none, none, []⟩, ⟨.inr (.st 1), [.t 10, .c (.bool true)], none, none, []⟩] none)
 sq44_7)

def sq44_9 : AC := (.pre [4, 6, 9, 10, 11, 12, 13, 14] (.seq (.reg [⟨.inl (.ld false 1), [.t 4], some 47, none, []⟩, ⟨.inl .nilc, [.t 47], some 48, none, []⟩, ⟨.inl (.fldA 0), [.t 48], some 49, none, []⟩, ⟨.inl (.fldA 0), [.t 49], some 50, none, []⟩, ⟨.inl (.ld false 1), [.t 50], some 51, none, []⟩, ⟨.inl .mov, [.t 11], some 52, none, []⟩, ⟨.inl (.idxA 1), [.t 51, .t 52], some 53, none, []⟩, ⟨.inl (.ld false 1), [.t 53], some 54, none, []⟩, ⟨.inl (.ld false 1), [.t 6], some 55, none, []⟩, ⟨.inl (.bin .eql), [.t 54, .t 55], some 56, none, []⟩, ⟨.inl .mov, [.t 56], some 57, none, []⟩, ⟨.inl .mov, [.t 12], some 58, some (57, true), []⟩, ⟨.inl .pick, [.t 57, .t 58, .c (.bool false)], some 59, none, []⟩, ⟨.inl .mov, [.t 59], some 60, none, []⟩, ⟨.inl (.ld false 1), [.t 4], some 61, some (60, false), []⟩, ⟨.inl .nilc, [.t 61], some 62, some (60, false), []⟩, ⟨.inl (.fldA 0), [.t 62], some 63, some (60, false), []⟩, ⟨.inl (.fldA 0), [.t 63], some 64, some (60, false), []⟩, ⟨.inl (.ld false 1), [.t 64], some 65, some (60, false), []⟩, ⟨.inl .mov, [.t 11], some 66, some (60, false), []⟩, ⟨.inl (.idxA 1), [.t 65, .t 66], some 67, some (60, false), []⟩, ⟨.inl (.ld false 1), [.t 67], some 68, some (60, false), []⟩, ⟨.inl (.ld false 1), [.t 6], some 69, some (60, false), []⟩, ⟨.inl (.bin .neq), [.t 68, .t 69], some 70, some (60, false), []⟩, ⟨.inl .mov, [.t 70], some 71, some (60, false), []⟩, ⟨.inl .mov, [.t 12], some 72, some (71, true), []⟩, ⟨.inl .pick, [.t 71, .t 72, .c (.bool false)], some 73, some (60, false), []⟩, ⟨.inl .mov, [.t 73], some 74, some (60, false), []⟩, ⟨.inl .mov, [.t 13], some 75, some (74, true), []⟩, ⟨.inl .pick, [.t 74, .t 75, .c (.bool false)], some 76, some (60, false), []⟩, ⟨.inl .pick, [.t 60, .c (.bool true), .t 76], some 77, none, []⟩] (some ([0, 1, 2, 3, 4, 5, 6, 7, 8, 9, 10, 11, 12, 13, 14, 15, 16, 17, 18, 19, 20, 21, 22, 23, 24, 25, 26, 27, 28, 29, 30], [], [0, 1, 3, 7, 15, 0, 63, 127, 0, 511, 1023, 2047, 4095, 8191, 16383, 32767, 65535, 131071, 262143, 16383, 1048575, 2097151, 16383, 8388607, 16777215, 33554431, 67108863, 134217727, 268435455, 536870911, 1073741823])))
 (.cond (.t 77) st44_8 .skip)))

def sp44_10 : AC := (.seq (.reg [⟨.inl (.ld false 1), [.t 4], some 25, none, []⟩, ⟨.inl .nilc, [.t 25], some 26, none, []⟩, ⟨.inl (.fldA 0), [.t 26], some 27, none, []⟩, ⟨.inl (.fldA 2), [.t 27], some 28, none, []⟩, ⟨.inl (.ld false 1), [.t 28], some 29, none, []⟩, ⟨.inl .mov, [.t 11], some 30, none, []⟩, ⟨.inl (.idxA 1), [.t 29, .t 30], some 31, none, []⟩, ⟨.inl (.ld false 1), [.t 31], some 32, none, []⟩, ⟨.inl .len, [.t 32], some 33, none, []⟩, ⟨.inl .mov, [.c (.int .i64 (0))], some 34, none, []⟩] none)
 (.block 4 (.loop lb44_5)))

def sq44_11 : AC := (.seq (.reg [⟨.inl .mov, [.c (.bool false)], some 12, none, []⟩, ⟨.inl .mov, [.c (.bool true)], some 13, none, []⟩, ⟨.inl .mov, [.c (.int .i64 (-1))], some 14, none, []⟩] none)
 (.seq sp44_10
 sq44_9))

def sp44_12 : AC := (.seq (.reg [⟨.inl .mov, [.t 11], some 22, none, []⟩, ⟨.inl (.idxP 24 1), [.t 9, .t 22], some 23, none, []⟩, ⟨.inl (.ld false 1), [.t 23], some 24, none, []⟩] none)
 (.cond (.t 24) (.exit 3) .skip))

def rb44_13 : AC := (.pre [4, 5, 6, 9, 10, 11] (.block 3 (.seq sp44_12
 sq44_11)))

def sq44_14 : AC := (.seq (.reg [⟨.inl (.ld true 24), [.t 5], some 19, none, []⟩, ⟨.inr (.call true true 46), [.t 19], some 20, none, []⟩] none)
 (.block 2 (.rangeF (.t 20) 21 (.reg [⟨.inl .mov, [.t 21], some 11, none, []⟩] none) rb44_13)))

def sq44_15 : AC := (.pre [4, 5, 6, 8, 9, 10] (.seq (.reg [⟨.inl (.ld false 1), [.t 10], some 97, none, []⟩] none)
 (.reg [⟨.inr (.alloc true [.bool false]), [], some 10, none, []⟩, ⟨.inr (.st 1), [.t 10, .t 97], none, none, []⟩] none)))

def lb44_16 : AC := (.pre [4, 5, 6, 8, 9, 10] (.seq (.seq (.reg [⟨.inl (.ld false 1), [.t 10], some 18, none, []⟩] none)
 (.cond (.t 18) .skip (.exit 0)))
 (.seq (.block 1 (.seq (.reg [⟨.inr (.st 1), [.t 10, .c (.bool false)], none, none, []⟩] none)
 sq44_14))
 sq44_15)))

def sq44_17 : AC := (.pre [8, 9] (.seq (.reg [⟨.inl (.ld true 24), [.t 9], some 98, none, []⟩, ⟨.inr (.st 24), [.t 8, .t 98], none, none, []⟩] none)
 .ret))

def sp44_18 : AC := (.seq (.reg [⟨.inr (.alloc true [.bool false]), [], some 10, none, []⟩, ⟨.inr (.st 1), [.t 10, .c (.bool true)], none, none, []⟩] none)
 (.block 0 (.loop lb44_16)))

def sq44_19 : AC := (.seq (.reg [⟨.inl (.ld true 24), [.t 7], some 17, none, []⟩, ⟨.inr (.alloc true [.bool false, .bool false, .bool false, .bool false, .bool false, .bool false, .bool false, .bool false, .bool false, .bool false, .bool false, .bool false, .bool false, .bool false, .bool false, .bool false, .bool false, .bool false, .bool false, .bool false, .bool false, .bool false, .bool false, .bool false]), [], some 9, none, []⟩, ⟨.inr (.st 24), [.t 9, .t 17], none, none, []⟩] none)
 (.seq sp44_18
 sq44_17))

/-- (*olivette/parity.game).attract -/
def af44 : AFunc := ⟨4,
 (.seq (.reg [⟨.inr (.box false), [.t 0], some 4, none, []⟩, ⟨.inr (.box true), [.t 1], some 5, none, []⟩, ⟨.inr (.box true), [.t 2], some 6, none, []⟩, ⟨.inr (.box true), [.t 3], some 7, none, []⟩, ⟨.inr (.alloc true [.bool false, .bool false, .bool false, .bool false, .bool false, .bool false, .bool false, .bool false, .bool false, .bool false, .bool false, .bool false, .bool false, .bool false, .bool false, .bool false, .bool false, .bool false, .bool false, .bool false, .bool false, .bool false, .bool false, .bool false]), [], some 8, none, []⟩] none)
 sq44_19),
 [.cell 8 true 24]⟩

def sq45_0 : AC := (.reg [⟨.inl .mov, [.t 4], some 14, none, []⟩, ⟨.inl (.idxP 24 1), [.t 3, .t 14], some 15, none, []⟩, ⟨.inr (.st 1), [.t 15, .c (.bool true)], none, none, []⟩] none)

def sq45_1 : AC := (.reg [⟨.inl (.bin .add), [.t 11, .c (.int .i64 (1))], some 16, none, []⟩, ⟨.inl .mov, [.t 16], some 11, none, []⟩] none)

def sq45_2 : AC := (.seq (.block 1 (.seq (.reg [⟨.inl .mov, [.t 11], some 13, none, []⟩, ⟨.inl .mov, [.t 13], some 4, none, []⟩] none)
 sq45_0))
 sq45_1)

def lb45_3 : AC := (.pre [2, 3, 10, 11] (.seq (.reg [⟨.inl (.bin .lss), [.t 11, .t 10], some 12, none, []⟩] none)
 (.seq (.cond (.t 12) .skip (.exit 0))
 sq45_2)))

def sq45_4 : AC := (.pre [2, 3] (.seq (.reg [⟨.inl (.ld true 24), [.t 3], some 17, none, []⟩, ⟨.inr (.st 24), [.t 2, .t 17], none, none, []⟩] none)
 .ret))

def sp45_5 : AC := (.seq (.reg [⟨.inl .mov, [.t 0], some 5, none, []⟩, ⟨.inl .nilc, [.t 5], some 6, none, []⟩, ⟨.inl (.fldA 0), [.t 6], some 7, none, []⟩, ⟨.inl (.fldA 2), [.t 7], some 8, none, []⟩, ⟨.inl (.ld false 1), [.t 8], some 9, none, []⟩, ⟨.inl .len, [.t 9], some 10, none, []⟩, ⟨.inl .mov, [.c (.int .i64 (0))], some 11, none, []⟩] none)
 (.block 0 (.loop lb45_3)))

def sq45_6 : AC := (.seq (.reg [⟨.inr (.alloc true [.bool false, .bool false, .bool false, .bool false, .bool false, .bool false, .bool false, .bool false, .bool false, .bool false, .bool false, .bool false, .bool false, .bool false, .bool false, .bool false, .bool false, .bool false, .bool false, .bool false, .bool false, .bool false, .bool false, .bool false]), [], some 3, none, []⟩] none)
 (.seq sp45_5
 sq45_4))

/-- (*olivette/parity.game).whole -/
def af45 : AFunc := ⟨1,
 (.seq (.reg [⟨.inr (.alloc true [.bool false, .bool false, .bool false, .bool false, .bool false, .bool false, .bool false, .bool false, .bool false, .bool false, .bool false, .bool false, .bool false, .bool false, .bool false, .bool false, .bool false, .bool false, .bool false, .bool false, .bool false, .bool false, .bool false, .bool false]), [], some 2, none, []⟩] none)
 sq45_6),
 [.cell 2 true 24]⟩

/-- (olivette/parity.region).all -/
def af46 : AFunc := ⟨1,
 (.seq (.reg [⟨.inr (.box true), [.t 0], some 1, none, []⟩, ⟨.inl .mov, [.c (.nilF)], some 2, none, []⟩] none)
 (.seq (.reg [⟨.inl (.mkfn 63), [.t 1], some 3, none, []⟩, ⟨.inl .mov, [.t 3], some 2, none, []⟩] none)
 .ret)),
 [.t 2]⟩

def sq47_0 : AC := (.reg [⟨.inl .mov, [.t 5], some 10, none, []⟩, ⟨.inl (.bin .add), [.t 10, .c (.int .i64 (1))], some 11, none, []⟩, ⟨.inl .mov, [.t 11], some 5, none, []⟩] none)

def sp47_1 : AC := (.block 1 (.seq (.reg [⟨.inl .mov, [.t 0], some 12, none, []⟩, ⟨.inl .mov, [.t 5], some 13, none, []⟩, ⟨.inl (.idxA 1), [.t 12, .t 13], some 14, none, []⟩, ⟨.inl (.ld false 1), [.t 14], some 15, none, []⟩, ⟨.inl .mov, [.t 1], some 16, none, []⟩, ⟨.inl (.bin .eql), [.t 15, .t 16], some 17, none, []⟩] none)
 (.cond (.t 17) (.seq (.reg [⟨.inl .mov, [.c (.bool true)], some 4, none, []⟩] none)
 .ret) .skip)))

def sp47_2 : AC := (.seq (.reg [⟨.inl .mov, [.t 5], some 6, none, []⟩, ⟨.inl .mov, [.t 0], some 7, none, []⟩, ⟨.inl .len, [.t 7], some 8, none, []⟩, ⟨.inl (.bin .lss), [.t 6, .t 8], some 9, none, []⟩] none)
 (.cond (.t 9) .skip (.exit 0)))

def lb47_3 : AC := (.pre [0, 1, 5] (.seq sp47_2
 (.seq sp47_1
 sq47_0)))

def sq47_4 : AC := (.seq (.seq (.reg [⟨.inl .mov, [.c (.int .i64 (0))], some 5, none, []⟩] none)
 (.block 0 (.loop lb47_3)))
 (.pre [] (.seq (.reg [⟨.inl .mov, [.c (.bool false)], some 4, none, []⟩] none)
 .ret)))

/-- olivette/olivetteref08.has -/
def af47 : AFunc := ⟨2,
 (.seq (.reg [⟨.inl .mov, [.c (.bool false)], some 4, none, []⟩] none)
 sq47_4),
 [.t 4]⟩

def sq49_0 : AC := (.seq (.reg [⟨.inl .mov, [.t 2], some 23, none, []⟩, ⟨.inl .mov, [.t 7], some 24, none, []⟩, ⟨.inr (.callv true true), [.t 23, .t 24], some 25, none, []⟩, ⟨.inl .mov, [.t 25], some 26, none, []⟩, ⟨.inl .mov, [.t 8], some 27, some (26, true), []⟩, ⟨.inl .mov, [.t 1], some 28, some (26, true), []⟩, ⟨.inl .mov, [.t 7], some 29, some (26, true), []⟩, ⟨.inl (.idxA 1), [.t 28, .t 29], some 30, some (26, true), []⟩, ⟨.inl (.ld false 1), [.t 30], some 31, some (26, true), []⟩, ⟨.inr (.call true true 51), [.t 27, .t 31], some 32, some (26, true), []⟩, ⟨.inl (.un .not), [.t 32], some 33, some (26, true), []⟩, ⟨.inl .pick, [.t 26, .t 33, .c (.bool false)], some 34, none, []⟩] none)
 (.cond (.t 34) (.seq (.reg [⟨.inl .mov, [.c (.bool false)], some 6, none, []⟩] none)
 .ret) .skip))

def sq49_1 : AC := (.reg [⟨.inl (.bin .add), [.t 18, .c (.int .i64 (1))], some 35, none, []⟩, ⟨.inl .mov, [.t 35], some 18, none, []⟩] none)

def sp49_2 : AC := (.block 1 (.seq (.reg [⟨.inl .mov, [.t 18], some 20, none, []⟩, ⟨.inl (.idxA 1), [.t 16, .t 18], some 21, none, []⟩, ⟨.inl (.ld false 1), [.t 21], some 22, none, []⟩, ⟨.inl .mov, [.t 20], some 7, none, []⟩, ⟨.inl .mov, [.t 22], some 8, none, []⟩] none)
 sq49_0))

def lb49_3 : AC := (.pre [1, 2, 16, 17, 18] (.seq (.reg [⟨.inl (.bin .lss), [.t 18, .t 17], some 19, none, []⟩] none)
 (.seq (.cond (.t 19) .skip (.exit 0))
 (.seq sp49_2
 sq49_1))))

def sp49_4 : AC := (.seq (.reg [⟨.inl (.fldA 2), [.t 3], some 15, none, []⟩, ⟨.inl (.ld false 1), [.t 15], some 16, none, []⟩, ⟨.inl .len, [.t 16], some 17, none, []⟩, ⟨.inl .mov, [.c (.int .i64 (0))], some 18, none, []⟩] none)
 (.block 0 (.loop lb49_3)))

def sp49_5 : AC := (.seq (.reg [⟨.inl .mov, [.t 1], some 9, none, []⟩, ⟨.inl .len, [.t 9], some 10, none, []⟩, ⟨.inl (.fldA 2), [.t 3], some 11, none, []⟩, ⟨.inl (.ld false 1), [.t 11], some 12, none, []⟩, ⟨.inl .len, [.t 12], some 13, none, []⟩, ⟨.inl (.bin .neq), [.t 10, .t 13], some 14, none, []⟩] none)
 (.cond (.t 14) (.seq (.reg [⟨.inl .mov, [.c (.bool false)], some 6, none, []⟩] none)
 .ret) .skip))

/-- olivette/parity.isPlan -/
def af49 : AFunc := ⟨3,
 (.seq (.reg [⟨.inr (.box false), [.t 0], some 3, none, []⟩, ⟨.inl .mov, [.c (.bool false)], some 6, none, []⟩] none)
 (.seq sp49_5
 (.seq sp49_4
 (.pre [] (.seq (.reg [⟨.inl .mov, [.c (.bool true)], some 6, none, []⟩] none)
 .ret))))),
 [.t 6]⟩

/-- olivette/parity.Play$1 -/
def af50 : AFunc := ⟨1,
 (.seq (.reg [⟨.inl .mov, [.c (.bool false)], some 2, none, []⟩] none)
 (.seq (.reg [⟨.inl .mov, [.c (.bool true)], some 2, none, []⟩] none)
 .ret)),
 [.t 2]⟩

def sq51_0 : AC := (.seq (.reg [⟨.inl .mov, [.t 0], some 5, none, []⟩, ⟨.inl .mov, [.t 1], some 6, none, []⟩, ⟨.inr (.call true true 52), [.t 5, .t 6], some 7, none, []⟩, ⟨.inl (.bin .geq), [.t 7, .c (.int .i64 (0))], some 8, none, []⟩, ⟨.inl .mov, [.t 8], some 4, none, []⟩] none)
 .ret)

/-- slices.Contains[[]int,int] -/
def af51 : AFunc := ⟨2,
 (.seq (.reg [⟨.inl .mov, [.c (.bool false)], some 4, none, []⟩] none)
 sq51_0),
 [.t 4]⟩

def sq52_0 : AC := (.cond (.t 16) (.seq (.reg [⟨.inl .mov, [.t 5], some 17, none, []⟩, ⟨.inl .mov, [.t 17], some 4, none, []⟩] none)
 .ret) .skip)

def sq52_1 : AC := (.seq (.reg [⟨.inl .mov, [.t 1], some 11, none, []⟩, ⟨.inl .mov, [.t 0], some 12, none, []⟩, ⟨.inl .mov, [.t 5], some 13, none, []⟩, ⟨.inl (.idxA 1), [.t 12, .t 13], some 14, none, []⟩, ⟨.inl (.ld false 1), [.t 14], some 15, none, []⟩, ⟨.inl (.bin .eql), [.t 11, .t 15], some 16, none, []⟩] none)
 sq52_0)

def sq52_2 : AC := (.seq (.block 1 (.seq (.reg [⟨.inl .mov, [.t 8], some 10, none, []⟩, ⟨.inl .mov, [.t 10], some 5, none, []⟩] none)
 sq52_1))
 (.reg [⟨.inl (.bin .add), [.t 8, .c (.int .i64 (1))], some 18, none, []⟩, ⟨.inl .mov, [.t 18], some 8, none, []⟩] none))

def lb52_3 : AC := (.pre [0, 1, 7, 8] (.seq (.reg [⟨.inl (.bin .lss), [.t 8, .t 7], some 9, none, []⟩] none)
 (.seq (.cond (.t 9) .skip (.exit 0))
 sq52_2)))

def sp52_4 : AC := (.seq (.reg [⟨.inl .mov, [.t 0], some 6, none, []⟩, ⟨.inl .len, [.t 6], some 7, none, []⟩, ⟨.inl .mov, [.c (.int .i64 (0))], some 8, none, []⟩] none)
 (.block 0 (.loop lb52_3)))

/-- slices.Index[[]int,int] -/
def af52 : AFunc := ⟨2,
 (.seq (.reg [⟨.inl .mov, [.c (.int .i64 (0))], some 4, none, []⟩] none)
 (.seq sp52_4
 (.pre [] (.seq (.reg [⟨.inl .mov, [.c (.int .i64 (-1))], some 4, none, []⟩] none)
 .ret)))),
 [.t 4]⟩

def sq53_0 : AC := (.seq (.reg [⟨.inr (.bldS true false 1 0 [.int .i64 0] []), [], some 5, none, []⟩, ⟨.inl .mov, [.t 0], some 6, none, []⟩, ⟨.inr (.app false 1 8), [.t 5, .t 6], some 7, none, []⟩, ⟨.inl .mov, [.t 7], some 2, none, []⟩] none)
 .ret)

def sp53_1 : AC := (.seq (.reg [⟨.inl .mov, [.t 0], some 3, none, []⟩, ⟨.inl (.eqnil false), [.t 3, .c (.nilS)], some 4, none, []⟩] none)
 (.cond (.t 4) (.seq (.reg [⟨.inl .mov, [.c (.nilS)], some 2, none, []⟩] none)
 .ret) .skip))

/-- slices.Clone[[]int,int] -/
def af53 : AFunc := ⟨1,
 (.seq (.reg [⟨.inl .mov, [.c (.nilS)], some 2, none, []⟩] none)
 (.seq sp53_1
 sq53_0)),
 [.t 2]⟩

def st54_0 : AC := (.seq (.reg [⟨.inl .mov, [.t 0], some 9, none, []⟩, ⟨.inl .mov, [.t 1], some 10, none, []⟩, ⟨.inl (.idxA 1), [.t 9, .t 10], some 11, none, []⟩, ⟨.inl (.ld false 1), [.t 11], some 12, none, []⟩, ⟨.inl .mov, [.t 12], some 4, none, []⟩] none)
 .ret)

def sp54_1 : AC := (.seq (.reg [⟨.inl .mov, [.t 1], some 5, none, []⟩, ⟨.inl .mov, [.t 0], some 6, none, []⟩, ⟨.inl .len, [.t 6], some 7, none, []⟩, ⟨.inl (.bin .lss), [.t 5, .t 7], some 8, none, []⟩] none)
 (.cond (.t 8) st54_0 .skip))

/-- olivette/olivettelaw08.at -/
def af54 : AFunc := ⟨2,
 (.seq (.reg [⟨.inl .mov, [.c (.int .i64 (0))], some 4, none, []⟩] none)
 (.seq sp54_1
 (.seq (.reg [⟨.inl .mov, [.c (.int .i64 (0))], some 4, none, []⟩] none)
 .ret))),
 [.t 4]⟩

def st55_0 : AC := (.reg [⟨.inl .mov, [.t 3], some 31, none, []⟩, ⟨.inl .nilc, [.t 31], some 32, none, []⟩, ⟨.inl (.fldA 3), [.t 32], some 33, none, []⟩, ⟨.inl (.ld false 1), [.t 33], some 34, none, []⟩, ⟨.inl .mov, [.t 6], some 35, none, []⟩, ⟨.inl (.idxA 1), [.t 34, .t 35], some 36, none, []⟩, ⟨.inl (.ld false 1), [.t 36], some 37, none, []⟩, ⟨.inl .mov, [.t 37], some 8, none, []⟩] none)

def sq55_1 : AC := (.reg [⟨.inl (.fldA 1), [.t 5], some 44, none, []⟩, ⟨.inl (.ld false 1), [.t 44], some 45, none, []⟩, ⟨.inl .mov, [.t 8], some 46, none, []⟩, ⟨.inr (.bldS true true 1 1 [.int .i64 0] [(0, 1)]), [.t 46], some 47, none, []⟩, ⟨.inr (.app false 1 8), [.t 45, .t 47], some 48, none, []⟩, ⟨.inl (.fldA 1), [.t 5], some 49, none, []⟩, ⟨.inr (.st 1), [.t 49, .t 48], none, none, []⟩] none)

def sq55_2 : AC := (.seq (.reg [⟨.inl (.fldA 0), [.t 5], some 38, none, []⟩, ⟨.inl (.ld false 1), [.t 38], some 39, none, []⟩, ⟨.inl .mov, [.t 7], some 40, none, []⟩, ⟨.inr (.bldS true true 1 1 [.int .i64 0] [(0, 1)]), [.t 40], some 41, none, []⟩, ⟨.inr (.app false 1 8), [.t 39, .t 41], some 42, none, []⟩, ⟨.inl (.fldA 0), [.t 5], some 43, none, []⟩, ⟨.inr (.st 1), [.t 43, .t 42], none, none, []⟩] none)
 sq55_1)

def sp55_3 : AC := (.seq (.reg [⟨.inl (.fldA 0), [.t 1], some 24, none, []⟩, ⟨.inl (.ld false 1), [.t 24], some 25, none, []⟩, ⟨.inl .mov, [.t 6], some 26, none, []⟩, ⟨.inl (.idxA 1), [.t 25, .t 26], some 27, none, []⟩, ⟨.inl (.ld false 1), [.t 27], some 28, none, []⟩, ⟨.inl .mov, [.t 7], some 29, none, []⟩, ⟨.inl (.bin .eql), [.t 28, .t 29], some 30, none, []⟩] none)
 (.cond (.t 30) st55_0 .skip))

def sp55_4 : AC := (.seq (.reg [⟨.inl .mov, [.t 6], some 21, none, []⟩, ⟨.inl (.idxP 24 1), [.t 4, .t 21], some 22, none, []⟩, ⟨.inl (.ld false 1), [.t 22], some 23, none, []⟩] none)
 (.cond (.t 23) (.reg [⟨.inl .mov, [.c (.int .i64 (0))], some 7, none, []⟩] none) .skip))

def sq55_5 : AC := (.seq (.reg [⟨.inl .mov, [.c (.int .i64 (1))], some 7, none, []⟩, ⟨.inl .mov, [.c (.int .i64 (-1))], some 8, none, []⟩] none)
 (.seq sp55_4
 (.seq sp55_3
 sq55_2)))

def sq55_6 : AC := (.reg [⟨.inl (.bin .add), [.t 18, .c (.int .i64 (1))], some 50, none, []⟩, ⟨.inl .mov, [.t 50], some 18, none, []⟩] none)

def sq55_7 : AC := (.seq (.block 1 (.seq (.reg [⟨.inl .mov, [.t 18], some 20, none, []⟩, ⟨.inl .mov, [.t 20], some 6, none, []⟩] none)
 sq55_5))
 sq55_6)

def lb55_8 : AC := (.pre [1, 2, 3, 4, 5, 17, 18] (.seq (.reg [⟨.inl (.bin .lss), [.t 18, .t 17], some 19, none, []⟩] none)
 (.seq (.cond (.t 19) .skip (.exit 0))
 sq55_7)))

def sq55_9 : AC := (.pre [2, 5] (.seq (.reg [⟨.inl (.ld true 2), [.t 5], some 51, none, []⟩, ⟨.inr (.st 2), [.t 2, .t 51], none, none, []⟩] none)
 .ret))

def sp55_10 : AC := (.seq (.reg [⟨.inl (.fldA 2), [.t 1], some 15, none, []⟩, ⟨.inl (.ld false 1), [.t 15], some 16, none, []⟩, ⟨.inl .len, [.t 16], some 17, none, []⟩, ⟨.inl .mov, [.c (.int .i64 (0))], some 18, none, []⟩] none)
 (.block 0 (.loop lb55_8)))

def sq55_11 : AC := (.seq (.reg [⟨.inl .mov, [.t 3], some 11, none, []⟩, ⟨.inl .mov, [.t 3], some 12, none, []⟩, ⟨.inr (.call true true 45), [.t 12], some 13, none, []⟩, ⟨.inr (.call false true 64), [.t 11, .t 13], some 14, none, []⟩, ⟨.inr (.alloc true [.bool false, .bool false, .bool false, .bool false, .bool false, .bool false, .bool false, .bool false, .bool false, .bool false, .bool false, .bool false, .bool false, .bool false, .bool false, .bool false, .bool false, .bool false, .bool false, .bool false, .bool false, .bool false, .bool false, .bool false]), [], some 4, none, []⟩, ⟨.inr (.st 24), [.t 4, .t 14], none, none, []⟩] none)
 (.seq (.reg [⟨.inr (.alloc false [.nilS, .nilS]), [], some 5, none, []⟩] none)
 (.seq sp55_10
 sq55_9)))

def sq55_12 : AC := (.seq (.reg [⟨.inl (.ld true 3), [.t 1], some 9, none, []⟩, ⟨.inr (.call true false 42), [.t 9], some 10, none, []⟩, ⟨.inl .mov, [.t 10], some 3, none, []⟩] none)
 sq55_11)

/-- olivette/parity.outcome -/
def af55 : AFunc := ⟨1,
 (.seq (.reg [⟨.inr (.box false), [.t 0], some 1, none, []⟩, ⟨.inr (.alloc false [.nilS, .nilS]), [], some 2, none, []⟩] none)
 sq55_12),
 [.cell 2 true 2]⟩

def sq56_0 : AC := (.reg [⟨.inl .mov, [.t 9], some 21, none, []⟩, ⟨.inl (.bin .add), [.t 21, .c (.int .i64 (1))], some 22, none, []⟩, ⟨.inl .mov, [.t 22], some 9, none, []⟩] none)

def sp56_1 : AC := (.block 1 (.reg [⟨.inl .mov, [.t 8], some 23, none, []⟩, ⟨.inl .mov, [.t 9], some 24, none, []⟩, ⟨.inl .mov, [.t 1], some 25, none, []⟩, ⟨.inl .mov, [.t 9], some 26, none, []⟩, ⟨.inl (.idxA 1), [.t 25, .t 26], some 27, none, []⟩, ⟨.inl (.ld false 1), [.t 27], some 28, none, []⟩, ⟨.inl (.bin .rem), [.t 28, .c (.int .i64 (2))], some 29, none, []⟩, ⟨.inl .mov, [.t 2], some 30, none, []⟩, ⟨.inl (.bin .neq), [.t 29, .t 30], some 31, none, []⟩, ⟨.inl .mov, [.t 31], some 32, none, []⟩, ⟨.inl .mov, [.t 0], some 33, some (32, true), []⟩, ⟨.inl .mov, [.t 1], some 34, some (32, true), []⟩, ⟨.inl .mov, [.t 9], some 35, some (32, true), []⟩, ⟨.inl .mov, [.t 1], some 36, some (32, true), []⟩, ⟨.inl .mov, [.t 9], some 37, some (32, true), []⟩, ⟨.inl (.idxA 1), [.t 36, .t 37], some 38, some (32, true), []⟩, ⟨.inl (.ld false 1), [.t 38], some 39, some (32, true), []⟩, ⟨.inr (.call true true 65), [.t 33, .t 34, .t 35, .t 39], some 40, some (32, true), []⟩, ⟨.inl .mov, [.t 9], some 41, some (32, true), []⟩, ⟨.inl (.idxA 1), [.t 40, .t 41], some 42, some (32, true), []⟩, ⟨.inl (.ld false 1), [.t 42], some 43, some (32, true), []⟩, ⟨.inl .pick, [.t 32, .t 43, .c (.bool false)], some 44, none, []⟩, ⟨.inl (.idxA 1), [.t 23, .t 24], some 45, none, []⟩, ⟨.inr (.st 1), [.t 45, .t 44], none, none, []⟩] none))

def sp56_2 : AC := (.seq (.reg [⟨.inl .mov, [.t 9], some 18, none, []⟩, ⟨.inl .mov, [.t 7], some 19, none, []⟩, ⟨.inl (.bin .lss), [.t 18, .t 19], some 20, none, []⟩] none)
 (.cond (.t 20) .skip (.exit 0)))

def lb56_3 : AC := (.pre [0, 1, 2, 7, 8, 9] (.seq sp56_2
 (.seq sp56_1
 sq56_0)))

def sq56_4 : AC := (.reg [⟨.inl .mov, [.t 13], some 67, none, []⟩, ⟨.inl (.bin .add), [.t 67, .c (.int .i64 (1))], some 68, none, []⟩, ⟨.inl .mov, [.t 68], some 13, none, []⟩] none)

def sp56_5 : AC := (.block 5 (.reg [⟨.inl .mov, [.t 10], some 69, none, []⟩, ⟨.inl .mov, [.t 11], some 70, none, []⟩, ⟨.inl .mov, [.t 10], some 71, none, []⟩, ⟨.inl .mov, [.t 11], some 72, none, []⟩, ⟨.inl (.idxA 1), [.t 71, .t 72], some 73, none, []⟩, ⟨.inl (.ld false 1), [.t 73], some 74, none, []⟩, ⟨.inl .mov, [.t 74], some 75, none, []⟩, ⟨.inl .mov, [.t 12], some 76, some (75, false), []⟩, ⟨.inl .mov, [.t 13], some 77, some (75, false), []⟩, ⟨.inl (.idxA 1), [.t 76, .t 77], some 78, some (75, false), []⟩, ⟨.inl (.ld false 1), [.t 78], some 79, some (75, false), []⟩, ⟨.inl .mov, [.t 79], some 80, some (75, false), []⟩, ⟨.inl .mov, [.t 8], some 81, some (80, true), []⟩, ⟨.inl .mov, [.t 13], some 82, some (80, true), []⟩, ⟨.inl (.idxA 1), [.t 81, .t 82], some 83, some (80, true), []⟩, ⟨.inl (.ld false 1), [.t 83], some 84, some (80, true), []⟩, ⟨.inl .pick, [.t 80, .t 84, .c (.bool false)], some 85, some (75, false), []⟩, ⟨.inl .pick, [.t 75, .c (.bool true), .t 85], some 86, none, []⟩, ⟨.inl (.idxA 1), [.t 69, .t 70], some 87, none, []⟩, ⟨.inr (.st 1), [.t 87, .t 86], none, none, []⟩] none))

def sp56_6 : AC := (.seq (.reg [⟨.inl .mov, [.t 13], some 64, none, []⟩, ⟨.inl .mov, [.t 7], some 65, none, []⟩, ⟨.inl (.bin .lss), [.t 64, .t 65], some 66, none, []⟩] none)
 (.cond (.t 66) .skip (.exit 4)))

def lb56_7 : AC := (.pre [0, 1, 7, 8, 10, 11, 12, 13] (.seq sp56_6
 (.seq sp56_5
 sq56_4)))

def sq56_8 : AC := (.seq (.reg [⟨.inl .mov, [.t 10], some 57, none, []⟩, ⟨.inl .mov, [.t 11], some 58, none, []⟩, ⟨.inl .mov, [.t 8], some 59, none, []⟩, ⟨.inl .mov, [.t 11], some 60, none, []⟩, ⟨.inl (.idxA 1), [.t 59, .t 60], some 61, none, []⟩, ⟨.inl (.ld false 1), [.t 61], some 62, none, []⟩, ⟨.inl (.idxA 1), [.t 57, .t 58], some 63, none, []⟩, ⟨.inr (.st 1), [.t 63, .t 62], none, none, []⟩] none)
 (.seq (.reg [⟨.inl .mov, [.c (.int .i64 (0))], some 13, none, []⟩] none)
 (.block 4 (.loop lb56_7))))

def sq56_9 : AC := (.pre [0, 1, 7, 8, 10, 11] (.reg [⟨.inl .mov, [.t 11], some 51, none, []⟩, ⟨.inl (.bin .add), [.t 51, .c (.int .i64 (1))], some 52, none, []⟩, ⟨.inl .mov, [.t 52], some 11, none, []⟩] none))

def sp56_10 : AC := (.block 3 (.seq (.reg [⟨.inl .mov, [.t 0], some 53, none, []⟩, ⟨.inl .mov, [.t 1], some 54, none, []⟩, ⟨.inl .mov, [.t 11], some 55, none, []⟩, ⟨.inr (.call true true 65), [.t 53, .t 54, .t 55, .c (.int .i64 (9))], some 56, none, []⟩, ⟨.inl .mov, [.t 56], some 12, none, []⟩] none)
 sq56_8))

def sp56_11 : AC := (.seq (.reg [⟨.inl .mov, [.t 11], some 48, none, []⟩, ⟨.inl .mov, [.t 7], some 49, none, []⟩, ⟨.inl (.bin .lss), [.t 48, .t 49], some 50, none, []⟩] none)
 (.cond (.t 50) .skip (.exit 2)))

def lb56_12 : AC := (.pre [0, 1, 7, 8, 10, 11] (.seq sp56_11
 (.seq sp56_10
 sq56_9)))

def sq56_13 : AC := (.seq (.seq (.reg [⟨.inl .mov, [.c (.int .i64 (0))], some 11, none, []⟩] none)
 (.block 2 (.loop lb56_12)))
 (.pre [10] (.seq (.reg [⟨.inl .mov, [.t 10], some 88, none, []⟩, ⟨.inl .mov, [.t 88], some 6, none, []⟩] none)
 .ret)))

def sq56_14 : AC := (.pre [0, 1, 7, 8] (.seq (.reg [⟨.inl .mov, [.t 7], some 46, none, []⟩, ⟨.inr (.mkS 1 1 [.bool false]), [.t 46, .t 46], some 47, none, []⟩, ⟨.inl .mov, [.t 47], some 10, none, []⟩] none)
 sq56_13))

def sq56_15 : AC := (.seq (.reg [⟨.inl .mov, [.t 7], some 16, none, []⟩, ⟨.inr (.mkS 1 1 [.bool false]), [.t 16, .t 16], some 17, none, []⟩, ⟨.inl .mov, [.t 17], some 8, none, []⟩] none)
 (.seq (.seq (.reg [⟨.inl .mov, [.c (.int .i64 (0))], some 9, none, []⟩] none)
 (.block 0 (.loop lb56_3)))
 sq56_14))

def sq56_16 : AC := (.seq (.reg [⟨.inl .mov, [.t 0], some 14, none, []⟩, ⟨.inl .len, [.t 14], some 15, none, []⟩, ⟨.inl .mov, [.t 15], some 7, none, []⟩] none)
 sq56_15)

/-- olivette/olivetteref08.Bad -/
def af56 : AFunc := ⟨3,
 (.seq (.reg [⟨.inl .mov, [.c (.nilS)], some 6, none, []⟩] none)
 sq56_16),
 [.t 6]⟩

def sq57_0 : AC := (.seq (.reg [⟨.inl (.fldA 0), [.t 1], some 5, none, []⟩, ⟨.inl (.ld false 1), [.t 5], some 6, none, []⟩, ⟨.inl .mov, [.t 0], some 7, none, []⟩, ⟨.inl (.idxA 1), [.t 6, .t 7], some 8, none, []⟩, ⟨.inl (.ld false 1), [.t 8], some 9, none, []⟩, ⟨.inl (.ld false 1), [.t 2], some 10, none, []⟩, ⟨.inl (.bin .eql), [.t 9, .t 10], some 11, none, []⟩, ⟨.inl .mov, [.t 11], some 4, none, []⟩] (some ([0, 1, 2, 3, 4, 5, 6, 7], [], [0, 1, 0, 7, 15, 0, 63, 127])))
 .ret)

/-- olivette/parity.Beats$1 -/
def af57 : AFunc := ⟨3,
 (.seq (.reg [⟨.inl .mov, [.c (.bool false)], some 4, none, []⟩] none)
 sq57_0),
 [.t 4]⟩

def st58_0 : AC := (.reg [⟨.inl .mov, [.t 7], some 25, none, []⟩, ⟨.inl .mov, [.t 8], some 26, none, []⟩, ⟨.inr (.bldS true true 1 1 [.int .i64 0] [(0, 1)]), [.t 26], some 27, none, []⟩, ⟨.inr (.app false 1 8), [.t 25, .t 27], some 28, none, []⟩, ⟨.inl .mov, [.t 28], some 7, none, []⟩] none)

def sq58_1 : AC := (.seq (.reg [⟨.inl .mov, [.t 9], some 22, none, []⟩, ⟨.inl .mov, [.t 1], some 23, none, []⟩, ⟨.inl (.bin .eql), [.t 22, .t 23], some 24, none, []⟩] none)
 (.cond (.t 24) st58_0 .skip))

def sq58_2 : AC := (.reg [⟨.inl (.bin .add), [.t 17, .c (.int .i64 (1))], some 29, none, []⟩, ⟨.inl .mov, [.t 29], some 17, none, []⟩] none)

def sp58_3 : AC := (.block 1 (.seq (.reg [⟨.inl .mov, [.t 17], some 19, none, []⟩, ⟨.inl (.idxA 1), [.t 15, .t 17], some 20, none, []⟩, ⟨.inl (.ld false 1), [.t 20], some 21, none, []⟩, ⟨.inl .mov, [.t 19], some 8, none, []⟩, ⟨.inl .mov, [.t 21], some 9, none, []⟩] none)
 sq58_1))

def lb58_4 : AC := (.pre [1, 7, 15, 16, 17] (.seq (.reg [⟨.inl (.bin .lss), [.t 17, .t 16], some 18, none, []⟩] none)
 (.seq (.cond (.t 18) .skip (.exit 0))
 (.seq sp58_3
 sq58_2))))

def sp58_5 : AC := (.seq (.reg [⟨.inl (.ld true 3), [.t 3], some 10, none, []⟩, ⟨.inl .mov, [.t 1], some 11, none, []⟩, ⟨.inl .mov, [.t 2], some 12, none, []⟩, ⟨.inr (.call true true 66), [.t 10, .t 11, .t 12], some 13, none, []⟩, ⟨.inr (.call true true 55), [.t 13], some 14, none, []⟩, ⟨.inl (.fld false 0 1), [.t 14], some 15, none, []⟩, ⟨.inl .len, [.t 15], some 16, none, []⟩, ⟨.inl .mov, [.c (.int .i64 (0))], some 17, none, []⟩] none)
 (.block 0 (.loop lb58_4)))

def sq58_6 : AC := (.seq sp58_5
 (.pre [7] (.seq (.reg [⟨.inl .mov, [.t 7], some 30, none, []⟩, ⟨.inl .mov, [.t 30], some 6, none, []⟩] none)
 .ret)))

/-- olivette/parity.beats -/
def af58 : AFunc := ⟨3,
 (.seq (.reg [⟨.inr (.box false), [.t 0], some 3, none, []⟩, ⟨.inl .mov, [.c (.nilS)], some 6, none, []⟩] none)
 (.seq (.reg [⟨.inl .mov, [.c (.nilS)], some 7, none, []⟩] none)
 sq58_6)),
 [.t 6]⟩

def st59_0 : AC := (.reg [⟨.inl .mov, [.t 7], some 22, none, []⟩, ⟨.inl .mov, [.t 2], some 23, none, []⟩, ⟨.inl .mov, [.t 8], some 24, none, []⟩, ⟨.inl (.idxA 1), [.t 23, .t 24], some 25, none, []⟩, ⟨.inl (.ld false 1), [.t 25], some 26, none, []⟩, ⟨.inr (.bldS true true 1 1 [.int .i64 0] [(0, 1)]), [.t 26], some 27, none, []⟩, ⟨.inr (.bldS true true 1 1 [.nilS] [(0, 1)]), [.t 27], some 28, none, []⟩, ⟨.inr (.app false 1 24), [.t 22, .t 28], some 29, none, []⟩, ⟨.inl .mov, [.t 29], some 7, none, []⟩] none)

def sf59_1 : AC := (.reg [⟨.inl .mov, [.t 7], some 30, none, []⟩, ⟨.inl (.fldA 2), [.t 3], some 31, none, []⟩, ⟨.inl (.ld false 1), [.t 31], some 32, none, []⟩, ⟨.inl .mov, [.t 8], some 33, none, []⟩, ⟨.inl (.idxA 1), [.t 32, .t 33], some 34, none, []⟩, ⟨.inl (.ld false 1), [.t 34], some 35, none, []⟩, ⟨.inr (.bldS true true 1 1 [.nilS] [(0, 1)]), [.t 35], some 36, none, []⟩, ⟨.inr (.app false 1 24), [.t 30, .t 36], some 37, none, []⟩, ⟨.inl .mov, [.t 37], some 7, none, []⟩] none)

def sq59_2 : AC := (.reg [⟨.inl .mov, [.t 8], some 13, none, []⟩, ⟨.inl (.bin .add), [.t 13, .c (.int .i64 (1))], some 14, none, []⟩, ⟨.inl .mov, [.t 14], some 8, none, []⟩] none)

def sp59_3 : AC := (.block 1 (.seq (.reg [⟨.inl (.fldA 0), [.t 3], some 15, none, []⟩, ⟨.inl (.ld false 1), [.t 15], some 16, none, []⟩, ⟨.inl .mov, [.t 8], some 17, none, []⟩, ⟨.inl (.idxA 1), [.t 16, .t 17], some 18, none, []⟩, ⟨.inl (.ld false 1), [.t 18], some 19, none, []⟩, ⟨.inl .mov, [.t 1], some 20, none, []⟩, ⟨.inl (.bin .eql), [.t 19, .t 20], some 21, none, []⟩] none)
 (.cond (.t 21) st59_0 sf59_1)))

def sp59_4 : AC := (.seq (.reg [⟨.inl .mov, [.t 8], some 9, none, []⟩, ⟨.inl .mov, [.t 2], some 10, none, []⟩, ⟨.inl .len, [.t 10], some 11, none, []⟩, ⟨.inl (.bin .lss), [.t 9, .t 11], some 12, none, []⟩] none)
 (.cond (.t 12) .skip (.exit 0)))

def lb59_5 : AC := (.pre [1, 2, 3, 7, 8] (.seq sp59_4
 (.seq sp59_3
 sq59_2)))

def sq59_6 : AC := (.seq (.seq (.reg [⟨.inl .mov, [.c (.int .i64 (0))], some 8, none, []⟩] none)
 (.block 0 (.loop lb59_5)))
 (.pre [7] (.seq (.reg [⟨.inl .mov, [.t 7], some 38, none, []⟩, ⟨.inl .mov, [.t 38], some 6, none, []⟩] none)
 .ret)))

/-- olivette/olivetteref08.Follow -/
def af59 : AFunc := ⟨3,
 (.seq (.reg [⟨.inr (.box false), [.t 0], some 3, none, []⟩, ⟨.inl .mov, [.c (.nilS)], some 6, none, []⟩] none)
 (.seq (.reg [⟨.inl .mov, [.c (.nilS)], some 7, none, []⟩] none)
 sq59_6)),
 [.t 6]⟩

def sf60_0 : AC := (.reg [⟨.inl .mov, [.t 8], some 69, none, []⟩, ⟨.inl (.un .not), [.t 69], some 70, none, []⟩, ⟨.inl .mov, [.t 70], some 71, none, []⟩, ⟨.inl (.fldA 1), [.t 3], some 72, some (71, true), []⟩, ⟨.inl (.ld false 1), [.t 72], some 73, some (71, true), []⟩, ⟨.inl (.ld false 1), [.t 6], some 74, some (71, true), []⟩, ⟨.inl (.idxA 1), [.t 73, .t 74], some 75, some (71, true), []⟩, ⟨.inl (.ld false 1), [.t 75], some 76, some (71, true), []⟩, ⟨.inl (.bin .neq), [.t 76, .c (.int .i64 (-1))], some 77, some (71, true), []⟩, ⟨.inl .pick, [.t 71, .t 77, .c (.bool false)], some 78, none, []⟩, ⟨.inl .mov, [.t 78], some 57, none, []⟩] none)

def st60_1 : AC := (.reg [⟨.inl (.fldA 1), [.t 3], some 81, none, []⟩, ⟨.inl (.ld false 1), [.t 81], some 82, none, []⟩, ⟨.inl (.ld false 1), [.t 6], some 83, none, []⟩, ⟨.inl (.idxA 1), [.t 82, .t 83], some 84, none, []⟩, ⟨.inl (.ld false 1), [.t 84], some 85, none, []⟩, ⟨.inr (.bldS true true 1 1 [.int .i64 0] [(0, 1)]), [.t 85], some 86, none, []⟩, ⟨.inl .mov, [.t 86], some 7, none, []⟩] none)

def sf60_2 : AC := (.seq (.reg [⟨.inl .mov, [.t 8], some 80, none, []⟩, ⟨.inl .mov, [.t 80], some 79, none, []⟩] none)
 (.cond (.t 79) st60_1 .skip))

def sp60_3 : AC := (.seq (.reg [⟨.inl .mov, [.t 8], some 58, none, []⟩, ⟨.inl .mov, [.t 58], some 59, none, []⟩, ⟨.inl .mov, [.t 7], some 60, some (59, true), []⟩, ⟨.inl (.fldA 1), [.t 3], some 61, some (59, true), []⟩, ⟨.inl (.ld false 1), [.t 61], some 62, some (59, true), []⟩, ⟨.inl (.ld false 1), [.t 6], some 63, some (59, true), []⟩, ⟨.inl (.idxA 1), [.t 62, .t 63], some 64, some (59, true), []⟩, ⟨.inl (.ld false 1), [.t 64], some 65, some (59, true), []⟩, ⟨.inr (.call true true 51), [.t 60, .t 65], some 66, some (59, true), []⟩, ⟨.inl (.un .not), [.t 66], some 67, some (59, true), []⟩, ⟨.inl .pick, [.t 59, .t 67, .c (.bool false)], some 68, none, []⟩, ⟨.inl .mov, [.t 68], some 57, none, []⟩] none)
 (.cond (.t 57) .skip sf60_0))

def sq60_4 : AC := (.block 2 (.seq sp60_3
 (.cond (.t 57) (.seq (.reg [⟨.inl .mov, [.c (.bool false)], some 4, none, []⟩] none)
 .ret) sf60_2)))

def sq60_5 : AC := (.seq (.reg [⟨.inl .mov, [.t 7], some 87, none, []⟩, ⟨.inl (.mkfn 68), [.t 3, .t 6], some 88, none, []⟩, ⟨.inr (.call true true 67), [.t 87, .t 88], some 89, none, []⟩] none)
 (.cond (.t 89) (.seq (.reg [⟨.inl .mov, [.c (.bool false)], some 4, none, []⟩] none)
 .ret) .skip))

def sp60_6 : AC := (.seq (.reg [⟨.inl (.fldA 0), [.t 2], some 46, none, []⟩, ⟨.inl (.ld false 1), [.t 46], some 47, none, []⟩, ⟨.inl (.ld false 1), [.t 6], some 48, none, []⟩, ⟨.inl (.idxA 1), [.t 47, .t 48], some 49, none, []⟩, ⟨.inl (.ld false 1), [.t 49], some 50, none, []⟩, ⟨.inl (.fldA 0), [.t 3], some 51, none, []⟩, ⟨.inl (.ld false 1), [.t 51], some 52, none, []⟩, ⟨.inl (.ld false 1), [.t 6], some 53, none, []⟩, ⟨.inl (.idxA 1), [.t 52, .t 53], some 54, none, []⟩, ⟨.inl (.ld false 1), [.t 54], some 55, none, []⟩, ⟨.inl (.bin .eql), [.t 50, .t 55], some 56, none, []⟩, ⟨.inl .mov, [.t 56], some 8, none, []⟩] (some ([0, 1, 2, 3, 4, 5, 6, 7, 8, 9, 10, 11], [], [0, 1, 0, 7, 15, 0, 32, 0, 224, 480, 1023, 2047])))
 sq60_4)

def sp60_7 : AC := (.seq (.reg [⟨.inl (.fldA 0), [.t 3], some 39, none, []⟩, ⟨.inl (.ld false 1), [.t 39], some 40, none, []⟩, ⟨.inl (.ld false 1), [.t 6], some 41, none, []⟩, ⟨.inl (.idxA 1), [.t 40, .t 41], some 42, none, []⟩, ⟨.inl (.ld false 1), [.t 42], some 43, none, []⟩, ⟨.inr (.call true true 40), [.t 43, .c (.int .i64 (0)), .c (.int .i64 (1))], some 44, none, []⟩, ⟨.inl (.un .not), [.t 44], some 45, none, []⟩] none)
 (.cond (.t 45) (.seq (.reg [⟨.inl .mov, [.c (.bool false)], some 4, none, []⟩] none)
 .ret) .skip))

def sq60_8 : AC := (.reg [⟨.inl (.bin .add), [.t 34, .c (.int .i64 (1))], some 90, none, []⟩, ⟨.inl .mov, [.t 90], some 34, none, []⟩] none)

def sp60_9 : AC := (.block 1 (.seq (.reg [⟨.inl .mov, [.t 34], some 36, none, []⟩, ⟨.inl (.idxA 1), [.t 32, .t 34], some 37, none, []⟩, ⟨.inl (.ld false 1), [.t 37], some 38, none, []⟩, ⟨.inr (.alloc true [.int .i64 0]), [], some 6, none, []⟩, ⟨.inr (.st 1), [.t 6, .t 36], none, none, []⟩, ⟨.inl .mov, [.t 38], some 7, none, []⟩] none)
 (.seq sp60_7
 (.seq sp60_6
 sq60_5))))

def lb60_10 : AC := (.pre [2, 3, 32, 33, 34] (.seq (.reg [⟨.inl (.bin .lss), [.t 34, .t 33], some 35, none, []⟩] none)
 (.seq (.cond (.t 35) .skip (.exit 0))
 (.seq sp60_9
 sq60_8))))

def st60_11 : AC := (.reg [⟨.inl .mov, [.t 10], some 119, none, []⟩, ⟨.inl .mov, [.t 11], some 120, none, []⟩, ⟨.inl .mov, [.t 12], some 121, none, []⟩, ⟨.inl (.idxA 1), [.t 121, .c (.int .i64 (0))], some 122, none, []⟩, ⟨.inl (.ld false 1), [.t 122], some 123, none, []⟩, ⟨.inl (.idxA 1), [.t 119, .t 120], some 124, none, []⟩, ⟨.inr (.st 1), [.t 124, .t 123], none, none, []⟩] none)

def sq60_12 : AC := (.seq (.reg [⟨.inl (.fldA 0), [.t 2], some 105, none, []⟩, ⟨.inl (.ld false 1), [.t 105], some 106, none, []⟩, ⟨.inl .mov, [.t 11], some 107, none, []⟩, ⟨.inl (.idxA 1), [.t 106, .t 107], some 108, none, []⟩, ⟨.inl (.ld false 1), [.t 108], some 109, none, []⟩, ⟨.inl .mov, [.t 9], some 110, none, []⟩, ⟨.inl (.bin .eql), [.t 109, .t 110], some 111, none, []⟩, ⟨.inl .mov, [.t 111], some 112, none, []⟩, ⟨.inl .mov, [.t 10], some 113, some (112, true), []⟩, ⟨.inl .mov, [.t 11], some 114, some (112, true), []⟩, ⟨.inl (.idxA 1), [.t 113, .t 114], some 115, some (112, true), []⟩, ⟨.inl (.ld false 1), [.t 115], some 116, some (112, true), []⟩, ⟨.inl (.bin .lss), [.t 116, .c (.int .i64 (0))], some 117, some (112, true), []⟩, ⟨.inl .pick, [.t 112, .t 117, .c (.bool false)], some 118, none, []⟩] none)
 (.cond (.t 118) st60_11 .skip))

def sq60_13 : AC := (.reg [⟨.inl (.bin .add), [.t 100, .c (.int .i64 (1))], some 125, none, []⟩, ⟨.inl .mov, [.t 125], some 100, none, []⟩] none)

def sp60_14 : AC := (.block 6 (.seq (.reg [⟨.inl .mov, [.t 100], some 102, none, []⟩, ⟨.inl (.idxA 1), [.t 98, .t 100], some 103, none, []⟩, ⟨.inl (.ld false 1), [.t 103], some 104, none, []⟩, ⟨.inl .mov, [.t 102], some 11, none, []⟩, ⟨.inl .mov, [.t 104], some 12, none, []⟩] none)
 sq60_12))

def lb60_15 : AC := (.pre [2, 3, 9, 10, 91, 98, 99, 100] (.seq (.reg [⟨.inl (.bin .lss), [.t 100, .t 99], some 101, none, []⟩] none)
 (.seq (.cond (.t 101) .skip (.exit 5))
 (.seq sp60_14
 sq60_13))))

def sq60_16 : AC := (.seq (.reg [⟨.inl .mov, [.t 15], some 138, none, []⟩, ⟨.inl .mov, [.t 9], some 139, none, []⟩, ⟨.inl (.bin .eql), [.t 138, .t 139], some 140, none, []⟩, ⟨.inl .mov, [.t 140], some 141, none, []⟩, ⟨.inl .mov, [.t 13], some 142, some (141, true), []⟩, ⟨.inl .mov, [.t 14], some 143, some (141, true), []⟩, ⟨.inr (.call true true 51), [.t 142, .t 143], some 144, some (141, true), []⟩, ⟨.inl (.un .not), [.t 144], some 145, some (141, true), []⟩, ⟨.inl .pick, [.t 141, .t 145, .c (.bool false)], some 146, none, []⟩] none)
 (.cond (.t 146) (.seq (.reg [⟨.inl .mov, [.c (.bool false)], some 4, none, []⟩] none)
 .ret) .skip))

def sq60_17 : AC := (.reg [⟨.inl (.bin .add), [.t 133, .c (.int .i64 (1))], some 147, none, []⟩, ⟨.inl .mov, [.t 147], some 133, none, []⟩] none)

def sp60_18 : AC := (.block 8 (.seq (.reg [⟨.inl .mov, [.t 133], some 135, none, []⟩, ⟨.inl (.idxA 1), [.t 131, .t 133], some 136, none, []⟩, ⟨.inl (.ld false 1), [.t 136], some 137, none, []⟩, ⟨.inl .mov, [.t 135], some 14, none, []⟩, ⟨.inl .mov, [.t 137], some 15, none, []⟩] none)
 sq60_16))

def lb60_19 : AC := (.pre [2, 3, 9, 13, 91, 131, 132, 133] (.seq (.reg [⟨.inl (.bin .lss), [.t 133, .t 132], some 134, none, []⟩] none)
 (.seq (.cond (.t 134) .skip (.exit 7))
 (.seq sp60_18
 sq60_17))))

def sq60_20 : AC := (.seq (.reg [⟨.inl (.fldA 0), [.t 3], some 130, none, []⟩, ⟨.inl (.ld false 1), [.t 130], some 131, none, []⟩, ⟨.inl .len, [.t 131], some 132, none, []⟩, ⟨.inl .mov, [.c (.int .i64 (0))], some 133, none, []⟩] none)
 (.block 7 (.loop lb60_19)))

def sq60_21 : AC := (.pre [2, 3, 9, 10, 91] (.seq (.reg [⟨.inl (.ld true 3), [.t 2], some 126, none, []⟩, ⟨.inl .mov, [.t 9], some 127, none, []⟩, ⟨.inl .mov, [.t 10], some 128, none, []⟩, ⟨.inr (.call true true 58), [.t 126, .t 127, .t 128], some 129, none, []⟩, ⟨.inl .mov, [.t 129], some 13, none, []⟩] none)
 sq60_20))

def sp60_22 : AC := (.seq (.reg [⟨.inl (.fldA 2), [.t 2], some 97, none, []⟩, ⟨.inl (.ld false 1), [.t 97], some 98, none, []⟩, ⟨.inl .len, [.t 98], some 99, none, []⟩, ⟨.inl .mov, [.c (.int .i64 (0))], some 100, none, []⟩] none)
 (.block 5 (.loop lb60_15)))

def sq60_23 : AC := (.seq (.reg [⟨.inl (.fldA 1), [.t 3], some 94, none, []⟩, ⟨.inl (.ld false 1), [.t 94], some 95, none, []⟩, ⟨.inr (.call true false 53), [.t 95], some 96, none, []⟩, ⟨.inl .mov, [.t 96], some 10, none, []⟩] none)
 (.seq sp60_22
 sq60_21))

def sq60_24 : AC := (.pre [2, 3, 91] (.reg [⟨.inl (.bin .add), [.t 91, .c (.int .i64 (1))], some 148, none, []⟩, ⟨.inl .mov, [.t 148], some 91, none, []⟩] none))

def sq60_25 : AC := (.seq (.block 4 (.seq (.reg [⟨.inl .mov, [.t 91], some 93, none, []⟩, ⟨.inl .mov, [.t 93], some 9, none, []⟩] none)
 sq60_23))
 sq60_24)

def lb60_26 : AC := (.pre [2, 3, 91] (.seq (.reg [⟨.inl (.bin .lss), [.t 91, .c (.int .i64 (2))], some 92, none, []⟩] none)
 (.seq (.cond (.t 92) .skip (.exit 3))
 sq60_25)))

def sq60_27 : AC := (.pre [2, 3] (.seq (.seq (.reg [⟨.inl .mov, [.c (.int .i64 (0))], some 91, none, []⟩] none)
 (.block 3 (.loop lb60_26)))
 (.pre [] (.seq (.reg [⟨.inl .mov, [.c (.bool true)], some 4, none, []⟩] none)
 .ret))))

def sp60_28 : AC := (.seq (.reg [⟨.inl (.fldA 2), [.t 2], some 31, none, []⟩, ⟨.inl (.ld false 1), [.t 31], some 32, none, []⟩, ⟨.inl .len, [.t 32], some 33, none, []⟩, ⟨.inl .mov, [.c (.int .i64 (0))], some 34, none, []⟩] none)
 (.block 0 (.loop lb60_10)))

def sp60_29 : AC := (.seq (.reg [⟨.inl (.fldA 0), [.t 3], some 19, none, []⟩, ⟨.inl (.ld false 1), [.t 19], some 20, none, []⟩, ⟨.inl .len, [.t 20], some 21, none, []⟩, ⟨.inl .mov, [.t 5], some 22, none, []⟩, ⟨.inl (.bin .neq), [.t 21, .t 22], some 23, none, []⟩, ⟨.inl .mov, [.t 23], some 24, none, []⟩, ⟨.inl (.fldA 1), [.t 3], some 25, some (24, false), []⟩, ⟨.inl (.ld false 1), [.t 25], some 26, some (24, false), []⟩, ⟨.inl .len, [.t 26], some 27, some (24, false), []⟩, ⟨.inl .mov, [.t 5], some 28, some (24, false), []⟩, ⟨.inl (.bin .neq), [.t 27, .t 28], some 29, some (24, false), []⟩, ⟨.inl .pick, [.t 24, .c (.bool true), .t 29], some 30, none, []⟩] none)
 (.cond (.t 30) (.seq (.reg [⟨.inl .mov, [.c (.bool false)], some 4, none, []⟩] none)
 .ret) .skip))

def sq60_30 : AC := (.seq (.reg [⟨.inl (.fldA 2), [.t 2], some 16, none, []⟩, ⟨.inl (.ld false 1), [.t 16], some 17, none, []⟩, ⟨.inl .len, [.t 17], some 18, none, []⟩, ⟨.inl .mov, [.t 18], some 5, none, []⟩] none)
 (.seq sp60_29
 (.seq sp60_28
 sq60_27)))

/-- olivette/parity.isRight -/
def af60 : AFunc := ⟨2,
 (.seq (.reg [⟨.inr (.box false), [.t 0], some 2, none, []⟩, ⟨.inr (.box false), [.t 1], some 3, none, []⟩, ⟨.inl .mov, [.c (.bool false)], some 4, none, []⟩] none)
 sq60_30),
 [.t 4]⟩

def rb62_0 : AC := (.pre [2, 5] (.block 1 (.reg [⟨.inl (.ld false 1), [.t 2], some 8, none, []⟩, ⟨.inl .mov, [.t 5], some 9, none, []⟩, ⟨.inr (.bldS true true 1 1 [.int .i64 0] [(0, 1)]), [.t 9], some 10, none, []⟩, ⟨.inr (.app false 1 8), [.t 8, .t 10], some 11, none, []⟩, ⟨.inr (.st 1), [.t 2, .t 11], none, none, []⟩] none)))

def sq62_1 : AC := (.pre [2] (.seq (.reg [⟨.inl (.ld false 1), [.t 2], some 12, none, []⟩, ⟨.inl .mov, [.t 12], some 4, none, []⟩] none)
 .ret))

def sp62_2 : AC := (.seq (.reg [⟨.inl .mov, [.t 1], some 6, none, []⟩] none)
 (.block 0 (.rangeF (.t 6) 7 (.reg [⟨.inl .mov, [.t 7], some 5, none, []⟩] none) rb62_0)))

/-- slices.AppendSeq[[]int,int] -/
def af62 : AFunc := ⟨2,
 (.seq (.reg [⟨.inr (.box false), [.t 0], some 2, none, []⟩, ⟨.inl .mov, [.c (.nilS)], some 4, none, []⟩] none)
 (.seq sp62_2
 sq62_1)),
 [.t 4]⟩

def sq63_0 : AC := (.seq (.reg [⟨.inl .mov, [.t 4], some 10, none, []⟩, ⟨.inl .mov, [.t 10], some 11, none, []⟩, ⟨.inl .mov, [.t 0], some 12, some (11, true), []⟩, ⟨.inl .mov, [.t 3], some 13, some (11, true), []⟩, ⟨.inr .yld, [.t 12, .t 13], some 14, some (11, true), []⟩, ⟨.inl (.un .not), [.t 14], some 15, some (11, true), []⟩, ⟨.inl .pick, [.t 11, .t 15, .c (.bool false)], some 16, none, []⟩] none)
 (.cond (.t 16) .ret .skip))

def sp63_1 : AC := (.block 1 (.seq (.reg [⟨.inl .mov, [.t 6], some 8, none, []⟩, ⟨.inl (.idx false 24 1), [.t 5, .t 6], some 9, none, []⟩, ⟨.inl .mov, [.t 8], some 3, none, []⟩, ⟨.inl .mov, [.t 9], some 4, none, []⟩] none)
 sq63_0))

def sq63_2 : AC := (.seq sp63_1
 (.reg [⟨.inl (.bin .add), [.t 6, .c (.int .i64 (1))], some 17, none, []⟩, ⟨.inl .mov, [.t 17], some 6, none, []⟩] none))

def lb63_3 : AC := (.pre [0, 5, 6] (.seq (.reg [⟨.inl (.bin .lss), [.t 6, .c (.int .i64 (24))], some 7, none, []⟩] none)
 (.seq (.cond (.t 7) .skip (.exit 0))
 sq63_2)))

/-- (olivette/parity.region).all$1 -/
def af63 : AFunc := ⟨2,
 (.seq (.reg [⟨.inl (.ld true 24), [.t 1], some 5, none, []⟩, ⟨.inl .mov, [.c (.int .i64 (0))], some 6, none, []⟩] none)
 (.block 0 (.loop lb63_3))),
 []⟩

def st64_0 : AC := (.seq (.reg [⟨.inl (.ld true 24), [.t 3], some 16, none, []⟩, ⟨.inr (.st 24), [.t 4, .t 16], none, none, []⟩] none)
 .ret)

def st64_1 : AC := (.reg [⟨.inl (.ld false 1), [.t 2], some 66, none, []⟩, ⟨.inl .nilc, [.t 66], some 67, none, []⟩, ⟨.inl (.fldA 0), [.t 67], some 68, none, []⟩, ⟨.inl (.fldA 2), [.t 68], some 69, none, []⟩, ⟨.inl (.ld false 1), [.t 69], some 70, none, []⟩, ⟨.inl .mov, [.t 10], some 71, none, []⟩, ⟨.inl (.idxA 1), [.t 70, .t 71], some 72, none, []⟩, ⟨.inl (.ld false 1), [.t 72], some 73, none, []⟩, ⟨.inl (.mkfn 74), [.t 3], some 74, none, []⟩, ⟨.inr (.call true true 73), [.t 73, .t 74], some 75, none, []⟩, ⟨.inl (.ld false 1), [.t 2], some 53, none, []⟩, ⟨.inl .nilc, [.t 53], some 54, none, []⟩, ⟨.inl (.fldA 3), [.t 54], some 55, none, []⟩, ⟨.inl (.ld false 1), [.t 55], some 56, none, []⟩, ⟨.inl .mov, [.t 10], some 57, none, []⟩, ⟨.inl (.ld false 1), [.t 2], some 58, none, []⟩, ⟨.inl .nilc, [.t 58], some 59, none, []⟩, ⟨.inl (.fldA 0), [.t 59], some 60, none, []⟩, ⟨.inl (.fldA 2), [.t 60], some 61, none, []⟩, ⟨.inl (.ld false 1), [.t 61], some 62, none, []⟩, ⟨.inl .mov, [.t 10], some 63, none, []⟩, ⟨.inl (.idxA 1), [.t 62, .t 63], some 64, none, []⟩, ⟨.inl (.ld false 1), [.t 64], some 65, none, []⟩, ⟨.inl (.idxA 1), [.t 65, .t 75], some 76, none, []⟩, ⟨.inl (.ld false 1), [.t 76], some 77, none, []⟩, ⟨.inl (.idxA 1), [.t 56, .t 57], some 78, none, []⟩, ⟨.inr (.st 1), [.t 78, .t 77], none, none, []⟩] (some ([13, 14, 15, 16, 17, 18, 19, 20, 21, 22, 0, 1, 2, 3, 4, 5, 6, 7, 8, 9, 10, 11, 12, 23, 24, 25, 26], [], [0, 1, 3, 7, 0, 0, 32, 96, 224, 480, 0, 2016, 4064, 0, 8192, 24576, 57344, 122880, 0, 516096, 1040384, 0, 4186112, 8388576, 16777184, 33554431, 67108863])))

def rb64_2 : AC := (.pre [2, 3, 7, 10] (.block 1 (.seq (.reg [⟨.inl (.ld false 1), [.t 2], some 43, none, []⟩, ⟨.inl .nilc, [.t 43], some 44, none, []⟩, ⟨.inl (.fldA 0), [.t 44], some 45, none, []⟩, ⟨.inl (.fldA 0), [.t 45], some 46, none, []⟩, ⟨.inl (.ld false 1), [.t 46], some 47, none, []⟩, ⟨.inl .mov, [.t 10], some 48, none, []⟩, ⟨.inl (.idxA 1), [.t 47, .t 48], some 49, none, []⟩, ⟨.inl (.ld false 1), [.t 49], some 50, none, []⟩, ⟨.inl (.ld false 1), [.t 7], some 51, none, []⟩, ⟨.inl (.bin .eql), [.t 50, .t 51], some 52, none, []⟩] (some ([0, 1, 2, 3, 4, 5, 6, 7, 8, 9], [], [0, 1, 3, 7, 15, 0, 63, 127, 0, 511])))
 (.cond (.t 52) st64_1 .skip))))

def sq64_3 : AC := (.pre [2, 3, 4, 7] (.seq (.reg [⟨.inl (.ld false 1), [.t 2], some 79, none, []⟩, ⟨.inl (.ld true 24), [.t 3], some 80, none, []⟩, ⟨.inl (.ld false 1), [.t 7], some 81, none, []⟩, ⟨.inl (.ld true 24), [.t 3], some 82, none, []⟩, ⟨.inr (.call true true 75), [.t 79, .t 80, .t 81, .t 82], some 83, none, []⟩, ⟨.inr (.st 24), [.t 4, .t 83], none, none, []⟩] none)
 .ret))

def sp64_4 : AC := (.seq (.reg [⟨.inl (.ld true 24), [.t 5], some 40, none, []⟩, ⟨.inr (.call true true 46), [.t 40], some 41, none, []⟩] none)
 (.block 0 (.rangeF (.t 41) 42 (.reg [⟨.inl .mov, [.t 42], some 10, none, []⟩] none) rb64_2)))

def sq64_5 : AC := (.seq (.reg [⟨.inl (.ld false 1), [.t 2], some 96, none, []⟩, ⟨.inl (.ld true 24), [.t 3], some 97, none, []⟩, ⟨.inl (.ld false 1), [.t 7], some 98, none, []⟩, ⟨.inl (.ld true 24), [.t 12], some 99, none, []⟩, ⟨.inr (.call true true 75), [.t 96, .t 97, .t 98, .t 99], some 100, none, []⟩, ⟨.inr (.st 24), [.t 4, .t 100], none, none, []⟩] none)
 .ret)

def sq64_6 : AC := (.seq (.reg [⟨.inl (.ld true 24), [.t 3], some 91, none, []⟩, ⟨.inl (.ld true 24), [.t 11], some 92, none, []⟩, ⟨.inr (.call true true 72), [.t 91, .t 92], some 93, none, []⟩, ⟨.inl (.ld false 1), [.t 2], some 90, none, []⟩, ⟨.inl (.ld false 1), [.t 7], some 94, none, []⟩, ⟨.inr (.call false true 71), [.t 90, .t 93, .t 94], some 95, none, []⟩, ⟨.inr (.alloc true [.bool false, .bool false, .bool false, .bool false, .bool false, .bool false, .bool false, .bool false, .bool false, .bool false, .bool false, .bool false, .bool false, .bool false, .bool false, .bool false, .bool false, .bool false, .bool false, .bool false, .bool false, .bool false, .bool false, .bool false]), [], some 12, none, []⟩, ⟨.inr (.st 24), [.t 12, .t 95], none, none, []⟩] (some ([1, 2, 3, 0, 4, 5, 6, 7], [], [0, 0, 0, 6, 0, 31, 0, 127])))
 sq64_5)

def sq64_7 : AC := (.pre [2, 3, 4, 7, 9] (.seq (.reg [⟨.inl (.ld false 1), [.t 2], some 84, none, []⟩, ⟨.inl (.ld true 24), [.t 3], some 85, none, []⟩, ⟨.inl (.ld false 1), [.t 7], some 86, none, []⟩, ⟨.inl (.bin .sub), [.c (.int .i64 (1)), .t 86], some 87, none, []⟩, ⟨.inl (.ld true 24), [.t 9], some 88, none, []⟩, ⟨.inr (.call false true 44), [.t 84, .t 85, .t 87, .t 88], some 89, none, []⟩, ⟨.inr (.alloc true [.bool false, .bool false, .bool false, .bool false, .bool false, .bool false, .bool false, .bool false, .bool false, .bool false, .bool false, .bool false, .bool false, .bool false, .bool false, .bool false, .bool false, .bool false, .bool false, .bool false, .bool false, .bool false, .bool false, .bool false]), [], some 11, none, []⟩, ⟨.inr (.st 24), [.t 11, .t 89], none, none, []⟩] none)
 sq64_6))

def sp64_8 : AC := (.seq (.reg [⟨.inl (.ld true 24), [.t 9], some 37, none, []⟩, ⟨.inl (.bld [.bool false, .bool false, .bool false, .bool false, .bool false, .bool false, .bool false, .bool false, .bool false, .bool false, .bool false, .bool false, .bool false, .bool false, .bool false, .bool false, .bool false, .bool false, .bool false, .bool false, .bool false, .bool false, .bool false, .bool false] []), [], some 38, none, []⟩, ⟨.inl (.eqagg false [none, none, none, none, none, none, none, none, none, none, none, none, none, none, none, none, none, none, none, none, none, none, none, none]), [.t 37, .t 38], some 39, none, []⟩] none)
 (.cond (.t 39) (.seq sp64_4
 sq64_3) .skip))

def sq64_9 : AC := (.seq (.reg [⟨.inl (.ld true 24), [.t 3], some 31, none, []⟩, ⟨.inl (.ld true 24), [.t 8], some 32, none, []⟩, ⟨.inr (.call true true 72), [.t 31, .t 32], some 33, none, []⟩, ⟨.inl (.ld false 1), [.t 2], some 30, none, []⟩, ⟨.inl (.ld false 1), [.t 7], some 34, none, []⟩, ⟨.inl (.bin .sub), [.c (.int .i64 (1)), .t 34], some 35, none, []⟩, ⟨.inr (.call false true 71), [.t 30, .t 33, .t 35], some 36, none, []⟩, ⟨.inr (.alloc true [.bool false, .bool false, .bool false, .bool false, .bool false, .bool false, .bool false, .bool false, .bool false, .bool false, .bool false, .bool false, .bool false, .bool false, .bool false, .bool false, .bool false, .bool false, .bool false, .bool false, .bool false, .bool false, .bool false, .bool false]), [], some 9, none, []⟩, ⟨.inr (.st 24), [.t 9, .t 36], none, none, []⟩] (some ([1, 2, 3, 0, 4, 5, 6, 7, 8], [], [0, 0, 0, 6, 0, 16, 63, 0, 255])))
 (.seq sp64_8
 sq64_7))

def sq64_10 : AC := (.seq (.reg [⟨.inl (.ld false 1), [.t 2], some 25, none, []⟩, ⟨.inl (.ld true 24), [.t 3], some 26, none, []⟩, ⟨.inl (.ld false 1), [.t 7], some 27, none, []⟩, ⟨.inl (.ld true 24), [.t 5], some 28, none, []⟩, ⟨.inr (.call false true 44), [.t 25, .t 26, .t 27, .t 28], some 29, none, []⟩, ⟨.inr (.alloc true [.bool false, .bool false, .bool false, .bool false, .bool false, .bool false, .bool false, .bool false, .bool false, .bool false, .bool false, .bool false, .bool false, .bool false, .bool false, .bool false, .bool false, .bool false, .bool false, .bool false, .bool false, .bool false, .bool false, .bool false]), [], some 8, none, []⟩, ⟨.inr (.st 24), [.t 8, .t 29], none, none, []⟩] none)
 sq64_9)

def sq64_11 : AC := (.seq (.reg [⟨.inl .mov, [.t 6], some 23, none, []⟩, ⟨.inl (.bin .rem), [.t 23, .c (.int .i64 (2))], some 24, none, []⟩, ⟨.inr (.alloc true [.int .i64 0]), [], some 7, none, []⟩, ⟨.inr (.st 1), [.t 7, .t 24], none, none, []⟩] none)
 sq64_10)

def sq64_12 : AC := (.seq (.reg [⟨.inl (.ld false 1), [.t 2], some 18, none, []⟩, ⟨.inl (.ld true 24), [.t 3], some 19, none, []⟩, ⟨.inr (.call true true 70), [.t 18, .t 19], some 20, none, []⟩, ⟨.inl .mov, [.t 20], some 17, none, []⟩, ⟨.inl (.ext 0), [.t 17], some 21, none, []⟩, ⟨.inl (.ext 1), [.t 17], some 22, none, []⟩, ⟨.inr (.alloc true [.bool false, .bool false, .bool false, .bool false, .bool false, .bool false, .bool false, .bool false, .bool false, .bool false, .bool false, .bool false, .bool false, .bool false, .bool false, .bool false, .bool false, .bool false, .bool false, .bool false, .bool false, .bool false, .bool false, .bool false]), [], some 5, none, []⟩, ⟨.inr (.st 24), [.t 5, .t 21], none, none, []⟩, ⟨.inl .mov, [.t 22], some 6, none, []⟩] none)
 sq64_11)

def sp64_13 : AC := (.seq (.reg [⟨.inl (.ld true 24), [.t 3], some 13, none, []⟩, ⟨.inl (.bld [.bool false, .bool false, .bool false, .bool false, .bool false, .bool false, .bool false, .bool false, .bool false, .bool false, .bool false, .bool false, .bool false, .bool false, .bool false, .bool false, .bool false, .bool false, .bool false, .bool false, .bool false, .bool false, .bool false, .bool false] []), [], some 14, none, []⟩, ⟨.inl (.eqagg false [none, none, none, none, none, none, none, none, none, none, none, none, none, none, none, none, none, none, none, none, none, none, none, none]), [.t 13, .t 14], some 15, none, []⟩] none)
 (.cond (.t 15) st64_0 .skip))

/-- (*olivette/parity.game).solve -/
def af64 : AFunc := ⟨2,
 (.seq (.reg [⟨.inr (.box false), [.t 0], some 2, none, []⟩, ⟨.inr (.box true), [.t 1], some 3, none, []⟩, ⟨.inr (.alloc true [.bool false, .bool false, .bool false, .bool false, .bool false, .bool false, .bool false, .bool false, .bool false, .bool false, .bool false, .bool false, .bool false, .bool false, .bool false, .bool false, .bool false, .bool false, .bool false, .bool false, .bool false, .bool false, .bool false, .bool false]), [], some 4, none, []⟩] none)
 (.seq sp64_13
 sq64_12)),
 [.cell 4 true 24]⟩

def sq65_0 : AC := (.reg [⟨.inl .mov, [.t 10], some 63, none, []⟩, ⟨.inl .mov, [.t 12], some 64, none, []⟩, ⟨.inl .mov, [.t 13], some 65, none, []⟩, ⟨.inl (.idxA 1), [.t 64, .t 65], some 66, none, []⟩, ⟨.inl (.ld false 1), [.t 66], some 67, none, []⟩, ⟨.inr (.bldS true true 1 1 [.int .i64 0] [(0, 1)]), [.t 67], some 68, none, []⟩, ⟨.inr (.app false 1 8), [.t 63, .t 68], some 69, none, []⟩, ⟨.inl .mov, [.t 69], some 10, none, []⟩] none)

def st65_1 : AC := (.seq (.reg [⟨.inl .mov, [.t 9], some 57, none, []⟩, ⟨.inl .mov, [.t 12], some 58, none, []⟩, ⟨.inl .mov, [.t 13], some 59, none, []⟩, ⟨.inl (.idxA 1), [.t 58, .t 59], some 60, none, []⟩, ⟨.inl (.ld false 1), [.t 60], some 61, none, []⟩, ⟨.inl (.idxA 1), [.t 57, .t 61], some 62, none, []⟩, ⟨.inr (.st 1), [.t 62, .c (.bool true)], none, none, []⟩] none)
 sq65_0)

def sq65_2 : AC := (.reg [⟨.inl .mov, [.t 13], some 36, none, []⟩, ⟨.inl (.bin .add), [.t 36, .c (.int .i64 (1))], some 37, none, []⟩, ⟨.inl .mov, [.t 37], some 13, none, []⟩] none)

def sp65_3 : AC := (.block 3 (.seq (.reg [⟨.inl .mov, [.t 9], some 38, none, []⟩, ⟨.inl .mov, [.t 12], some 39, none, []⟩, ⟨.inl .mov, [.t 13], some 40, none, []⟩, ⟨.inl (.idxA 1), [.t 39, .t 40], some 41, none, []⟩, ⟨.inl (.ld false 1), [.t 41], some 42, none, []⟩, ⟨.inl (.idxA 1), [.t 38, .t 42], some 43, none, []⟩, ⟨.inl (.ld false 1), [.t 43], some 44, none, []⟩, ⟨.inl (.un .not), [.t 44], some 45, none, []⟩, ⟨.inl .mov, [.t 45], some 46, none, []⟩, ⟨.inl .mov, [.t 1], some 47, some (46, true), []⟩, ⟨.inl .mov, [.t 12], some 48, some (46, true), []⟩, ⟨.inl .mov, [.t 13], some 49, some (46, true), []⟩, ⟨.inl (.idxA 1), [.t 48, .t 49], some 50, some (46, true), []⟩, ⟨.inl (.ld false 1), [.t 50], some 51, some (46, true), []⟩, ⟨.inl (.idxA 1), [.t 47, .t 51], some 52, some (46, true), []⟩, ⟨.inl (.ld false 1), [.t 52], some 53, some (46, true), []⟩, ⟨.inl .mov, [.t 3], some 54, some (46, true), []⟩, ⟨.inl (.bin .leq), [.t 53, .t 54], some 55, some (46, true), []⟩, ⟨.inl .pick, [.t 46, .t 55, .c (.bool false)], some 56, none, []⟩] none)
 (.cond (.t 56) st65_1 .skip)))

def sp65_4 : AC := (.seq (.reg [⟨.inl .mov, [.t 13], some 32, none, []⟩, ⟨.inl .mov, [.t 12], some 33, none, []⟩, ⟨.inl .len, [.t 33], some 34, none, []⟩, ⟨.inl (.bin .lss), [.t 32, .t 34], some 35, none, []⟩] none)
 (.cond (.t 35) .skip (.exit 2)))

def lb65_5 : AC := (.pre [0, 1, 3, 9, 10, 11, 12, 13] (.seq sp65_4
 (.seq sp65_3
 sq65_2)))

def sq65_6 : AC := (.pre [0, 1, 3, 9, 10, 11] (.reg [⟨.inl .mov, [.t 11], some 23, none, []⟩, ⟨.inl (.bin .add), [.t 23, .c (.int .i64 (1))], some 24, none, []⟩, ⟨.inl .mov, [.t 24], some 11, none, []⟩] none))

def sp65_7 : AC := (.block 1 (.seq (.reg [⟨.inl .mov, [.t 0], some 25, none, []⟩, ⟨.inl .mov, [.t 10], some 26, none, []⟩, ⟨.inl .mov, [.t 11], some 27, none, []⟩, ⟨.inl (.idxA 1), [.t 26, .t 27], some 28, none, []⟩, ⟨.inl (.ld false 1), [.t 28], some 29, none, []⟩, ⟨.inl (.idxA 1), [.t 25, .t 29], some 30, none, []⟩, ⟨.inl (.ld false 1), [.t 30], some 31, none, []⟩, ⟨.inl .mov, [.t 31], some 12, none, []⟩] none)
 (.seq (.reg [⟨.inl .mov, [.c (.int .i64 (0))], some 13, none, []⟩] none)
 (.block 2 (.loop lb65_5)))))

def sp65_8 : AC := (.seq (.reg [⟨.inl .mov, [.t 11], some 19, none, []⟩, ⟨.inl .mov, [.t 10], some 20, none, []⟩, ⟨.inl .len, [.t 20], some 21, none, []⟩, ⟨.inl (.bin .lss), [.t 19, .t 21], some 22, none, []⟩] none)
 (.cond (.t 22) .skip (.exit 0)))

def lb65_9 : AC := (.pre [0, 1, 3, 9, 10, 11] (.seq sp65_8
 (.seq sp65_7
 sq65_6)))

def sq65_10 : AC := (.seq (.seq (.reg [⟨.inl .mov, [.c (.int .i64 (0))], some 11, none, []⟩] none)
 (.block 0 (.loop lb65_9)))
 (.pre [9] (.seq (.reg [⟨.inl .mov, [.t 9], some 70, none, []⟩, ⟨.inl .mov, [.t 70], some 8, none, []⟩] none)
 .ret)))

def sq65_11 : AC := (.seq (.reg [⟨.inl .mov, [.t 2], some 17, none, []⟩, ⟨.inr (.bldS true false 1 1 [.int .i64 0] [(0, 1)]), [.t 17], some 18, none, []⟩, ⟨.inl .mov, [.t 18], some 10, none, []⟩] none)
 sq65_10)

def sq65_12 : AC := (.seq (.reg [⟨.inl .mov, [.t 0], some 14, none, []⟩, ⟨.inl .len, [.t 14], some 15, none, []⟩, ⟨.inr (.mkS 1 1 [.bool false]), [.t 15, .t 15], some 16, none, []⟩, ⟨.inl .mov, [.t 16], some 9, none, []⟩] none)
 sq65_11)

/-- olivette/olivetteref08.reach -/
def af65 : AFunc := ⟨4,
 (.seq (.reg [⟨.inl .mov, [.c (.nilS)], some 8, none, []⟩] none)
 sq65_12),
 [.t 8]⟩

def st66_0 : AC := (.reg [⟨.inl .mov, [.t 2], some 30, none, []⟩, ⟨.inl .mov, [.t 8], some 31, none, []⟩, ⟨.inl (.idxA 1), [.t 30, .t 31], some 32, none, []⟩, ⟨.inl (.ld false 1), [.t 32], some 33, none, []⟩, ⟨.inr (.bldS true true 1 1 [.int .i64 0] [(0, 1)]), [.t 33], some 34, none, []⟩, ⟨.inl .mov, [.t 34], some 9, none, []⟩] none)

def sq66_1 : AC := (.reg [⟨.inl (.fldA 2), [.t 7], some 35, none, []⟩, ⟨.inl (.ld false 1), [.t 35], some 36, none, []⟩, ⟨.inl .mov, [.t 9], some 37, none, []⟩, ⟨.inr (.bldS true true 1 1 [.nilS] [(0, 1)]), [.t 37], some 38, none, []⟩, ⟨.inr (.app false 1 24), [.t 36, .t 38], some 39, none, []⟩, ⟨.inl (.fldA 2), [.t 7], some 40, none, []⟩, ⟨.inr (.st 1), [.t 40, .t 39], none, none, []⟩] none)

def sp66_2 : AC := (.seq (.reg [⟨.inl (.fldA 0), [.t 3], some 23, none, []⟩, ⟨.inl (.ld false 1), [.t 23], some 24, none, []⟩, ⟨.inl .mov, [.t 8], some 25, none, []⟩, ⟨.inl (.idxA 1), [.t 24, .t 25], some 26, none, []⟩, ⟨.inl (.ld false 1), [.t 26], some 27, none, []⟩, ⟨.inl .mov, [.t 1], some 28, none, []⟩, ⟨.inl (.bin .eql), [.t 27, .t 28], some 29, none, []⟩] none)
 (.cond (.t 29) st66_0 .skip))

def sq66_3 : AC := (.reg [⟨.inl (.bin .add), [.t 18, .c (.int .i64 (1))], some 41, none, []⟩, ⟨.inl .mov, [.t 41], some 18, none, []⟩] none)

def sp66_4 : AC := (.block 1 (.seq (.reg [⟨.inl .mov, [.t 18], some 20, none, []⟩, ⟨.inl (.idxA 1), [.t 16, .t 18], some 21, none, []⟩, ⟨.inl (.ld false 1), [.t 21], some 22, none, []⟩, ⟨.inl .mov, [.t 20], some 8, none, []⟩, ⟨.inl .mov, [.t 22], some 9, none, []⟩] none)
 (.seq sp66_2
 sq66_1)))

def lb66_5 : AC := (.pre [1, 2, 3, 6, 7, 16, 17, 18] (.seq (.reg [⟨.inl (.bin .lss), [.t 18, .t 17], some 19, none, []⟩] none)
 (.seq (.cond (.t 19) .skip (.exit 0))
 (.seq sp66_4
 sq66_3))))

def sq66_6 : AC := (.pre [6, 7] (.seq (.reg [⟨.inl (.ld true 3), [.t 7], some 42, none, []⟩, ⟨.inr (.st 3), [.t 6, .t 42], none, none, []⟩] none)
 .ret))

def sp66_7 : AC := (.seq (.reg [⟨.inl (.fldA 2), [.t 3], some 15, none, []⟩, ⟨.inl (.ld false 1), [.t 15], some 16, none, []⟩, ⟨.inl .len, [.t 16], some 17, none, []⟩, ⟨.inl .mov, [.c (.int .i64 (0))], some 18, none, []⟩] none)
 (.block 0 (.loop lb66_5)))

def sq66_8 : AC := (.seq (.reg [⟨.inl (.fldA 0), [.t 3], some 10, none, []⟩, ⟨.inl (.ld false 1), [.t 10], some 11, none, []⟩, ⟨.inl (.fldA 1), [.t 3], some 12, none, []⟩, ⟨.inl (.ld false 1), [.t 12], some 13, none, []⟩, ⟨.inl (.bld [.nilS, .nilS, .nilS] [(0, 1), (1, 1)]), [.t 11, .t 13], some 14, none, []⟩, ⟨.inr (.alloc false [.nilS, .nilS, .nilS]), [], some 7, none, []⟩, ⟨.inr (.st 3), [.t 7, .t 14], none, none, []⟩] none)
 (.seq sp66_7
 sq66_6))

/-- olivette/parity.bound -/
def af66 : AFunc := ⟨3,
 (.seq (.reg [⟨.inr (.box false), [.t 0], some 3, none, []⟩, ⟨.inr (.alloc false [.nilS, .nilS, .nilS]), [], some 6, none, []⟩] none)
 sq66_8),
 [.cell 6 true 3]⟩

def sq67_0 : AC := (.seq (.reg [⟨.inl .mov, [.t 0], some 5, none, []⟩, ⟨.inl .mov, [.t 1], some 6, none, []⟩, ⟨.inr (.call true true 73), [.t 5, .t 6], some 7, none, []⟩, ⟨.inl (.bin .geq), [.t 7, .c (.int .i64 (0))], some 8, none, []⟩, ⟨.inl .mov, [.t 8], some 4, none, []⟩] none)
 .ret)

/-- slices.ContainsFunc[[]int,int] -/
def af67 : AFunc := ⟨2,
 (.seq (.reg [⟨.inl .mov, [.c (.bool false)], some 4, none, []⟩] none)
 sq67_0),
 [.t 4]⟩

def sq68_0 : AC := (.seq (.reg [⟨.inl (.fldA 0), [.t 1], some 5, none, []⟩, ⟨.inl (.ld false 1), [.t 5], some 6, none, []⟩, ⟨.inl .mov, [.t 0], some 7, none, []⟩, ⟨.inl (.idxA 1), [.t 6, .t 7], some 8, none, []⟩, ⟨.inl (.ld false 1), [.t 8], some 9, none, []⟩, ⟨.inl (.fldA 0), [.t 1], some 10, none, []⟩, ⟨.inl (.ld false 1), [.t 10], some 11, none, []⟩, ⟨.inl (.ld false 1), [.t 2], some 12, none, []⟩, ⟨.inl (.idxA 1), [.t 11, .t 12], some 13, none, []⟩, ⟨.inl (.ld false 1), [.t 13], some 14, none, []⟩, ⟨.inl (.bin .neq), [.t 9, .t 14], some 15, none, []⟩, ⟨.inl .mov, [.t 15], some 4, none, []⟩] (some ([0, 1, 2, 3, 4, 5, 6, 7, 8, 9, 10, 11], [], [0, 1, 0, 7, 15, 0, 32, 0, 224, 480, 1023, 2047])))
 .ret)

/-- olivette/parity.isRight$1 -/
def af68 : AFunc := ⟨3,
 (.seq (.reg [⟨.inl .mov, [.c (.bool false)], some 4, none, []⟩] none)
 sq68_0),
 [.t 4]⟩

def rb70_0 : AC := (.pre [2, 6, 7] (.block 1 (.reg [⟨.inl (.ld false 1), [.t 6], some 13, none, []⟩, ⟨.inl (.ld false 1), [.t 2], some 14, none, []⟩, ⟨.inl .nilc, [.t 14], some 15, none, []⟩, ⟨.inl (.fldA 0), [.t 15], some 16, none, []⟩, ⟨.inl (.fldA 1), [.t 16], some 17, none, []⟩, ⟨.inl (.ld false 1), [.t 17], some 18, none, []⟩, ⟨.inl .mov, [.t 7], some 19, none, []⟩, ⟨.inl (.idxA 1), [.t 18, .t 19], some 20, none, []⟩, ⟨.inl (.ld false 1), [.t 20], some 21, none, []⟩, ⟨.inl .mx, [.t 13, .t 21], some 22, none, []⟩, ⟨.inr (.st 1), [.t 6, .t 22], none, none, []⟩] (some ([0, 1, 2, 3, 4, 5, 6, 7, 8, 9, 10], [], [0, 0, 2, 6, 14, 30, 0, 126, 254, 511, 1023])))))

def rb70_1 : AC := (.pre [2, 6, 8, 9] (.block 3 (.reg [⟨.inl .mov, [.t 9], some 26, none, []⟩, ⟨.inl (.ld false 1), [.t 2], some 27, none, []⟩, ⟨.inl .nilc, [.t 27], some 28, none, []⟩, ⟨.inl (.fldA 0), [.t 28], some 29, none, []⟩, ⟨.inl (.fldA 1), [.t 29], some 30, none, []⟩, ⟨.inl (.ld false 1), [.t 30], some 31, none, []⟩, ⟨.inl .mov, [.t 9], some 32, none, []⟩, ⟨.inl (.idxA 1), [.t 31, .t 32], some 33, none, []⟩, ⟨.inl (.ld false 1), [.t 33], some 34, none, []⟩, ⟨.inl (.ld false 1), [.t 6], some 35, none, []⟩, ⟨.inl (.bin .eql), [.t 34, .t 35], some 36, none, []⟩, ⟨.inl (.idxP 24 1), [.t 8, .t 26], some 37, none, []⟩, ⟨.inr (.st 1), [.t 37, .t 36], none, none, []⟩] (some ([0, 1, 2, 3, 4, 5, 6, 7, 8, 9, 10, 11, 12], [], [0, 0, 2, 6, 14, 30, 0, 126, 254, 0, 1022, 2047, 4095])))))

def sq70_2 : AC := (.pre [4, 6, 8] (.seq (.reg [⟨.inl (.ld true 24), [.t 8], some 38, none, []⟩, ⟨.inr (.st 24), [.t 4, .t 38], none, none, [.t 6]⟩, ⟨.inl (.ld false 1), [.t 6], some 39, none, []⟩, ⟨.inl .mov, [.t 39], some 5, none, []⟩] (some ([0, 2, 1, 3], [], [0, 0, 1, 7])))
 .ret))

def sp70_3 : AC := (.seq (.reg [⟨.inl (.ld true 24), [.t 3], some 23, none, []⟩, ⟨.inr (.call true true 46), [.t 23], some 24, none, []⟩] none)
 (.block 2 (.rangeF (.t 24) 25 (.reg [⟨.inl .mov, [.t 25], some 9, none, []⟩] none) rb70_1)))

def sq70_4 : AC := (.pre [2, 3, 4, 6] (.seq (.reg [⟨.inr (.alloc true [.bool false, .bool false, .bool false, .bool false, .bool false, .bool false, .bool false, .bool false, .bool false, .bool false, .bool false, .bool false, .bool false, .bool false, .bool false, .bool false, .bool false, .bool false, .bool false, .bool false, .bool false, .bool false, .bool false, .bool false]), [], some 8, none, []⟩] none)
 (.seq sp70_3
 sq70_2)))

def sp70_5 : AC := (.seq (.reg [⟨.inl (.ld true 24), [.t 3], some 10, none, []⟩, ⟨.inr (.call true true 46), [.t 10], some 11, none, []⟩] none)
 (.block 0 (.rangeF (.t 11) 12 (.reg [⟨.inl .mov, [.t 12], some 7, none, []⟩] none) rb70_0)))

def sq70_6 : AC := (.seq (.reg [⟨.inr (.alloc true [.int .i64 0]), [], some 6, none, []⟩, ⟨.inr (.st 1), [.t 6, .c (.int .i64 (-1))], none, none, []⟩] none)
 (.seq sp70_5
 sq70_4))

/-- (*olivette/parity.game).top -/
def af70 : AFunc := ⟨2,
 (.seq (.reg [⟨.inr (.box false), [.t 0], some 2, none, []⟩, ⟨.inr (.box true), [.t 1], some 3, none, []⟩, ⟨.inr (.alloc true [.bool false, .bool false, .bool false, .bool false, .bool false, .bool false, .bool false, .bool false, .bool false, .bool false, .bool false, .bool false, .bool false, .bool false, .bool false, .bool false, .bool false, .bool false, .bool false, .bool false, .bool false, .bool false, .bool false, .bool false]), [], some 4, none, []⟩, ⟨.inl .mov, [.c (.int .i64 (0))], some 5, none, []⟩] none)
 sq70_6),
 [.cell 4 true 24, .t 5]⟩

def sq71_0 : AC := (.seq (.reg [⟨.inl .mov, [.t 0], some 10, none, []⟩, ⟨.inl (.ld true 24), [.t 4], some 11, none, []⟩, ⟨.inr (.call false true 64), [.t 10, .t 11], some 12, none, [.t 4]⟩, ⟨.inl .mov, [.t 0], some 7, none, []⟩, ⟨.inl (.ld true 24), [.t 4], some 8, none, []⟩, ⟨.inl .mov, [.t 2], some 9, none, []⟩, ⟨.inr (.call true true 75), [.t 7, .t 8, .t 9, .t 12], some 13, none, []⟩, ⟨.inr (.st 24), [.t 6, .t 13], none, none, []⟩] (some ([3, 4, 5, 0, 1, 2, 6, 7], [], [0, 0, 0, 0, 0, 24, 63, 127])))
 .ret)

/-- (*olivette/parity.game).won -/
def af71 : AFunc := ⟨3,
 (.seq (.reg [⟨.inr (.box true), [.t 1], some 4, none, []⟩, ⟨.inr (.alloc true [.bool false, .bool false, .bool false, .bool false, .bool false, .bool false, .bool false, .bool false, .bool false, .bool false, .bool false, .bool false, .bool false, .bool false, .bool false, .bool false, .bool false, .bool false, .bool false, .bool false, .bool false, .bool false, .bool false, .bool false]), [], some 6, none, []⟩] none)
 sq71_0),
 [.cell 6 true 24]⟩

def rb72_0 : AC := (.pre [2, 5] (.block 1 (.reg [⟨.inl .mov, [.t 5], some 9, none, []⟩, ⟨.inl (.idxP 24 1), [.t 2, .t 9], some 10, none, []⟩, ⟨.inr (.st 1), [.t 10, .c (.bool false)], none, none, []⟩] none)))

def sq72_1 : AC := (.pre [2, 4] (.seq (.reg [⟨.inl (.ld true 24), [.t 2], some 11, none, []⟩, ⟨.inr (.st 24), [.t 4, .t 11], none, none, []⟩] none)
 .ret))

def sp72_2 : AC := (.seq (.reg [⟨.inl (.ld true 24), [.t 3], some 6, none, []⟩, ⟨.inr (.call true true 46), [.t 6], some 7, none, []⟩] none)
 (.block 0 (.rangeF (.t 7) 8 (.reg [⟨.inl .mov, [.t 8], some 5, none, []⟩] none) rb72_0)))

/-- (olivette/parity.region).without -/
def af72 : AFunc := ⟨2,
 (.seq (.reg [⟨.inr (.box true), [.t 0], some 2, none, []⟩, ⟨.inr (.box true), [.t 1], some 3, none, []⟩, ⟨.inr (.alloc true [.bool false, .bool false, .bool false, .bool false, .bool false, .bool false, .bool false, .bool false, .bool false, .bool false, .bool false, .bool false, .bool false, .bool false, .bool false, .bool false, .bool false, .bool false, .bool false, .bool false, .bool false, .bool false, .bool false, .bool false]), [], some 4, none, []⟩] none)
 (.seq sp72_2
 sq72_1)),
 [.cell 4 true 24]⟩

def sq73_0 : AC := (.cond (.t 16) (.seq (.reg [⟨.inl .mov, [.t 5], some 17, none, []⟩, ⟨.inl .mov, [.t 17], some 4, none, []⟩] none)
 .ret) .skip)

def sq73_1 : AC := (.seq (.reg [⟨.inl .mov, [.t 1], some 11, none, []⟩, ⟨.inl .mov, [.t 0], some 12, none, []⟩, ⟨.inl .mov, [.t 5], some 13, none, []⟩, ⟨.inl (.idxA 1), [.t 12, .t 13], some 14, none, []⟩, ⟨.inl (.ld false 1), [.t 14], some 15, none, []⟩, ⟨.inr (.callv true true), [.t 11, .t 15], some 16, none, []⟩] none)
 sq73_0)

def sq73_2 : AC := (.seq (.block 1 (.seq (.reg [⟨.inl .mov, [.t 8], some 10, none, []⟩, ⟨.inl .mov, [.t 10], some 5, none, []⟩] none)
 sq73_1))
 (.reg [⟨.inl (.bin .add), [.t 8, .c (.int .i64 (1))], some 18, none, []⟩, ⟨.inl .mov, [.t 18], some 8, none, []⟩] none))

def lb73_3 : AC := (.pre [0, 1, 7, 8] (.seq (.reg [⟨.inl (.bin .lss), [.t 8, .t 7], some 9, none, []⟩] none)
 (.seq (.cond (.t 9) .skip (.exit 0))
 sq73_2)))

def sp73_4 : AC := (.seq (.reg [⟨.inl .mov, [.t 0], some 6, none, []⟩, ⟨.inl .len, [.t 6], some 7, none, []⟩, ⟨.inl .mov, [.c (.int .i64 (0))], some 8, none, []⟩] none)
 (.block 0 (.loop lb73_3)))

/-- slices.IndexFunc[[]int,int] -/
def af73 : AFunc := ⟨2,
 (.seq (.reg [⟨.inl .mov, [.c (.int .i64 (0))], some 4, none, []⟩] none)
 (.seq sp73_4
 (.pre [] (.seq (.reg [⟨.inl .mov, [.c (.int .i64 (-1))], some 4, none, []⟩] none)
 .ret)))),
 [.t 4]⟩

def sq74_0 : AC := (.seq (.reg [⟨.inl .mov, [.t 0], some 4, none, []⟩, ⟨.inl (.idxP 24 1), [.t 1, .t 4], some 5, none, []⟩, ⟨.inl (.ld false 1), [.t 5], some 6, none, []⟩, ⟨.inl .mov, [.t 6], some 3, none, []⟩] none)
 .ret)

/-- (*olivette/parity.game).solve$1 -/
def af74 : AFunc := ⟨2,
 (.seq (.reg [⟨.inl .mov, [.c (.bool false)], some 3, none, []⟩] none)
 sq74_0),
 [.t 3]⟩

def st75_0 : AC := (.seq (.reg [⟨.inl (.ld true 24), [.t 7], some 11, none, []⟩, ⟨.inr (.st 24), [.t 8, .t 11], none, none, []⟩] none)
 .ret)

def sq75_1 : AC := (.seq (.reg [⟨.inl (.ld true 24), [.t 5], some 12, none, []⟩, ⟨.inl (.ld true 24), [.t 7], some 13, none, []⟩, ⟨.inr (.call true true 72), [.t 12, .t 13], some 14, none, []⟩, ⟨.inr (.st 24), [.t 8, .t 14], none, none, []⟩] none)
 .ret)

def sp75_2 : AC := (.seq (.reg [⟨.inl .mov, [.t 2], some 9, none, []⟩, ⟨.inl (.bin .eql), [.t 9, .c (.int .i64 (0))], some 10, none, []⟩] none)
 (.cond (.t 10) st75_0 .skip))

/-- (*olivette/parity.game).as -/
def af75 : AFunc := ⟨4,
 (.seq (.reg [⟨.inr (.box true), [.t 1], some 5, none, []⟩, ⟨.inr (.box true), [.t 3], some 7, none, []⟩, ⟨.inr (.alloc true [.bool false, .bool false, .bool false, .bool false, .bool false, .bool false, .bool false, .bool false, .bool false, .bool false, .bool false, .bool false, .bool false, .bool false, .bool false, .bool false, .bool false, .bool false, .bool false, .bool false, .bool false, .bool false, .bool false, .bool false]), [], some 8, none, []⟩] none)
 (.seq sp75_2
 sq75_1)),
 [.cell 8 true 24]⟩


def tab : Nat → Option AFunc
  | 9 => some af9
  | 13 => some af13
  | 16 => some af16
  | 17 => some af17
  | 18 => some af18
  | 19 => some af19
  | 20 => some af20
  | 21 => some af21
  | 22 => some af22
  | 23 => some af23
  | 25 => some af25
  | 26 => some af26
  | 28 => some af28
  | 29 => some af29
  | 30 => some af30
  | 31 => some af31
  | 33 => some af33
  | 34 => some af34
  | 35 => some af35
  | 36 => some af36
  | 37 => some af37
  | 39 => some af39
  | 40 => some af40
  | 41 => some af41
  | 42 => some af42
  | 43 => some af43
  | 44 => some af44
  | 45 => some af45
  | 46 => some af46
  | 47 => some af47
  | 49 => some af49
  | 50 => some af50
  | 51 => some af51
  | 52 => some af52
  | 53 => some af53
  | 54 => some af54
  | 55 => some af55
  | 56 => some af56
  | 57 => some af57
  | 58 => some af58
  | 59 => some af59
  | 60 => some af60
  | 62 => some af62
  | 64 => some af64
  | 65 => some af65
  | 66 => some af66
  | 67 => some af67
  | 68 => some af68
  | 70 => some af70
  | 71 => some af71
  | 72 => some af72
  | 73 => some af73
  | 74 => some af74
  | 75 => some af75
  | _ => none
def tabI : Nat → Option AFunc
  | 63 => some af63
  | _ => none
def types : List (Nat × TS) := [
  (3, ⟨.int .i64, 1, 8, [.int .i64 0]⟩),
  (4, ⟨.bool, 1, 1, [.bool false]⟩),
  (22, ⟨.slice 3, 1, 24, [.nilS]⟩),
  (23, ⟨.slice 22, 1, 24, [.nilS]⟩),
  (25, ⟨.struct [(0, 22), (1, 22), (2, 23)], 3, 72, [.nilS, .nilS, .nilS]⟩),
  (44, ⟨.struct [(0, 22), (1, 22)], 2, 48, [.nilS, .nilS]⟩),
  (48, ⟨.array 2 3, 2, 16, [.int .i64 0, .int .i64 0]⟩),
  (57, ⟨.int .u64, 1, 8, [.int .u64 0]⟩),
  (60, ⟨.array 24 4, 24, 24, [.bool false, .bool false, .bool false, .bool false, .bool false, .bool false, .bool false, .bool false, .bool false, .bool false, .bool false, .bool false, .bool false, .bool false, .bool false, .bool false, .bool false, .bool false, .bool false, .bool false, .bool false, .bool false, .bool false, .bool false]⟩),
  (61, ⟨.ptr 79, 1, 8, [.nilP]⟩),
  (69, ⟨.slice 4, 1, 24, [.nilS]⟩),
  (79, ⟨.struct [(0, 25), (3, 22)], 4, 96, [.nilS, .nilS, .nilS, .nilS]⟩)
]
end Go.AM.Pa
