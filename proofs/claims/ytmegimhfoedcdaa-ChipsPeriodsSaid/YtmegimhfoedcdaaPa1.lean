/- The functions as the abstract machine has them. -/
import Derived.Test.YtmegimhfoedcdaaM3
namespace Go.AM.Ch
def sq6_0 : AC := (.reg [⟨.inl .mov, [.t 12], some 52, none, []⟩, ⟨.inl (.bin .add), [.t 52, .c (.int .i64 (1))], some 53, none, []⟩, ⟨.inl .mov, [.t 53], some 12, none, []⟩] none)

def sp6_1 : AC := (.block 3 (.reg [⟨.inl .mov, [.t 11], some 54, none, []⟩, ⟨.inl .mov, [.t 10], some 55, none, []⟩, ⟨.inl .mov, [.t 6], some 56, none, []⟩, ⟨.inl .mov, [.t 12], some 57, none, []⟩, ⟨.inl (.idxA 1), [.t 56, .t 57], some 58, none, []⟩, ⟨.inl (.ld false 1), [.t 58], some 59, none, []⟩, ⟨.inl (.bin .mul), [.t 55, .t 59], some 60, none, []⟩, ⟨.inr (.bldS true true 1 1 [.int .i64 0] [(0, 1)]), [.t 60], some 61, none, []⟩, ⟨.inr (.app false 1 8), [.t 54, .t 61], some 62, none, []⟩, ⟨.inl .mov, [.t 62], some 11, none, []⟩] none))

def sp6_2 : AC := (.seq (.reg [⟨.inl .mov, [.t 12], some 48, none, []⟩, ⟨.inl .mov, [.t 6], some 49, none, []⟩, ⟨.inl .len, [.t 49], some 50, none, []⟩, ⟨.inl (.bin .lss), [.t 48, .t 50], some 51, none, []⟩] none)
 (.cond (.t 51) .skip (.exit 2)))

def lb6_3 : AC := (.pre [5, 6, 7, 9, 10, 11, 12] (.seq sp6_2
 (.seq sp6_1
 sq6_0)))

def sq6_4 : AC := (.seq (.reg [⟨.inl .mov, [.t 15], some 70, none, []⟩, ⟨.inl (.bin .neq), [.t 70, .c (.int .i64 (0))], some 71, none, []⟩, ⟨.inl .mov, [.t 71], some 72, none, []⟩, ⟨.inl .mov, [.t 13], some 73, some (72, false), []⟩, ⟨.inl .mov, [.t 9], some 74, some (72, false), []⟩, ⟨.inr (.call true true 22), [.t 73, .t 74], some 75, some (72, false), []⟩, ⟨.inl .mov, [.t 10], some 76, some (72, false), []⟩, ⟨.inl .mov, [.t 7], some 77, some (72, false), []⟩, ⟨.inl (.bin .rem), [.t 76, .t 77], some 78, some (72, false), []⟩, ⟨.inl (.bin .eql), [.t 78, .c (.int .i64 (0))], some 79, some (72, false), []⟩, ⟨.inl (.beq true), [.t 75, .t 79], some 80, some (72, false), []⟩, ⟨.inl .pick, [.t 72, .c (.bool true), .t 80], some 81, none, []⟩] (some ([0, 1, 2, 3, 4, 5, 6, 7, 8, 9, 10, 11], [], [0, 1, 3, 7, 7, 31, 7, 7, 199, 455, 1023, 2047])))
 (.cond (.t 81) (.seq (.reg [⟨.inl .mov, [.c (.bool false)], some 4, none, []⟩] none)
 .ret) .skip))

def sq6_5 : AC := (.pre [5, 6, 7, 9, 10, 11] (.seq (.reg [⟨.inl .mov, [.t 5], some 64, none, []⟩, ⟨.inl .mov, [.t 11], some 65, none, []⟩, ⟨.inr (.call true true 20), [.t 64, .t 65, .c (.int .i64 (0))], some 66, none, []⟩, ⟨.inl .mov, [.t 66], some 63, none, []⟩, ⟨.inl (.ext 0), [.t 63], some 67, none, []⟩, ⟨.inl (.ext 1), [.t 63], some 68, none, []⟩, ⟨.inl (.ext 2), [.t 63], some 69, none, []⟩, ⟨.inl .mov, [.t 67], some 13, none, []⟩, ⟨.inl .mov, [.t 68], some 14, none, []⟩, ⟨.inl .mov, [.t 69], some 15, none, []⟩] none)
 sq6_4))

def sq6_6 : AC := (.pre [5, 6, 7, 9, 10] (.reg [⟨.inl .mov, [.t 10], some 46, none, []⟩, ⟨.inl (.bin .add), [.t 46, .c (.int .i64 (1))], some 47, none, []⟩, ⟨.inl .mov, [.t 47], some 10, none, []⟩] none))

def sp6_7 : AC := (.block 1 (.seq (.reg [⟨.inl .mov, [.c (.nilS)], some 11, none, []⟩] none)
 (.seq (.seq (.reg [⟨.inl .mov, [.c (.int .i64 (0))], some 12, none, []⟩] none)
 (.block 2 (.loop lb6_3)))
 sq6_5)))

def sp6_8 : AC := (.seq (.reg [⟨.inl .mov, [.t 10], some 44, none, []⟩, ⟨.inl (.bin .leq), [.t 44, .c (.int .i64 (40))], some 45, none, []⟩] none)
 (.cond (.t 45) .skip (.exit 0)))

def lb6_9 : AC := (.pre [5, 6, 7, 9, 10] (.seq sp6_8
 (.seq sp6_7
 sq6_6)))

def sq6_10 : AC := (.pre [] (.seq (.reg [⟨.inr (.call true true 25), [], some 82, none, []⟩, ⟨.inl .mov, [.t 82], some 4, none, []⟩] none)
 .ret))

def sq6_11 : AC := (.seq (.reg [⟨.inl .mov, [.t 5], some 41, none, []⟩, ⟨.inl .len, [.t 41], some 42, none, []⟩, ⟨.inr (.mkS 1 8 [.int .i64 0]), [.t 42, .t 42], some 43, none, []⟩, ⟨.inl .mov, [.t 43], some 9, none, []⟩] none)
 (.seq (.seq (.reg [⟨.inl .mov, [.c (.int .i64 (1))], some 10, none, []⟩] none)
 (.block 0 (.loop lb6_9)))
 sq6_10))

def sp6_12 : AC := (.seq (.reg [⟨.inl .mov, [.t 8], some 35, none, []⟩, ⟨.inl (.bin .neq), [.t 35, .c (.int .i64 (0))], some 36, none, []⟩, ⟨.inl .mov, [.t 36], some 37, none, []⟩, ⟨.inl .mov, [.t 7], some 38, some (37, false), []⟩, ⟨.inl (.bin .lss), [.t 38, .c (.int .i64 (1))], some 39, some (37, false), []⟩, ⟨.inl .pick, [.t 37, .c (.bool true), .t 39], some 40, none, []⟩] none)
 (.cond (.t 40) (.seq (.reg [⟨.inl .mov, [.c (.bool false)], some 4, none, []⟩] none)
 .ret) .skip))

def sq6_13 : AC := (.seq (.reg [⟨.inl .mov, [.t 5], some 30, none, []⟩, ⟨.inl .mov, [.t 6], some 31, none, []⟩, ⟨.inr (.call true true 30), [.t 30, .t 31], some 32, none, []⟩, ⟨.inl .mov, [.t 32], some 29, none, []⟩, ⟨.inl (.ext 0), [.t 29], some 33, none, []⟩, ⟨.inl (.ext 1), [.t 29], some 34, none, []⟩, ⟨.inl .mov, [.t 33], some 7, none, []⟩, ⟨.inl .mov, [.t 34], some 8, none, []⟩] none)
 (.seq sp6_12
 sq6_11))

def sq6_14 : AC := (.seq (.reg [⟨.inl .mov, [.t 6], some 25, none, []⟩, ⟨.inr (.call true true 32), [.t 25], some 26, none, []⟩, ⟨.inl .mov, [.t 6], some 21, none, []⟩, ⟨.inl .mov, [.t 6], some 22, none, []⟩, ⟨.inl (.idxA 1), [.t 22, .c (.int .i64 (0))], some 23, none, []⟩, ⟨.inl (.ld false 1), [.t 23], some 24, none, []⟩, ⟨.inl (.bin .sub), [.t 24, .t 26], some 27, none, []⟩, ⟨.inl (.idxA 1), [.t 21, .c (.int .i64 (0))], some 28, none, []⟩, ⟨.inr (.st 1), [.t 28, .t 27], none, none, []⟩] (some ([4, 5, 0, 1, 2, 3, 6, 7, 8], [], [0, 0, 2, 6, 0, 16, 62, 127, 255])))
 sq6_13)

def sq6_15 : AC := (.seq (.reg [⟨.inl .mov, [.t 5], some 18, none, []⟩, ⟨.inl .mov, [.t 1], some 19, none, []⟩, ⟨.inr (.call true false 36), [.t 18, .t 19, .c (.int .i64 (1000))], some 20, none, []⟩, ⟨.inl .mov, [.t 20], some 6, none, []⟩] none)
 sq6_14)

def sq6_16 : AC := (.seq (.reg [⟨.inl .mov, [.t 0], some 16, none, []⟩, ⟨.inr (.call true true 34), [.t 16, .c (.int .i64 (5))], some 17, none, []⟩, ⟨.inl .mov, [.t 17], some 5, none, []⟩] none)
 sq6_15)

/-- olivette/olivettelaw09.ChipsPeriods -/
def af6 : AFunc := ⟨2,
 (.seq (.reg [⟨.inl .mov, [.c (.bool false)], some 4, none, []⟩] none)
 sq6_16),
 [.t 4]⟩

def st20_0 : AC := (.seq (.reg [⟨.inl .mov, [.c (.nilS)], some 6, none, []⟩, ⟨.inl .mov, [.c (.nilS)], some 7, none, []⟩, ⟨.inl .mov, [.c (.int .i64 (2))], some 8, none, []⟩] none)
 .ret)

def sq20_1 : AC := (.seq (.reg [⟨.inl .mov, [.t 9], some 14, none, []⟩, ⟨.inl (.bin .neq), [.t 14, .c (.int .i64 (0))], some 15, none, []⟩, ⟨.inl .mov, [.t 15], some 16, none, []⟩, ⟨.inl .mov, [.t 2], some 17, some (16, false), []⟩, ⟨.inl .mov, [.t 0], some 18, some (16, false), []⟩, ⟨.inl .len, [.t 18], some 19, some (16, false), []⟩, ⟨.inl (.bin .sub), [.t 19, .c (.int .i64 (1))], some 20, some (16, false), []⟩, ⟨.inr (.call true true 53), [.t 17, .c (.int .i64 (0)), .t 20], some 21, some (16, false), []⟩, ⟨.inl (.un .not), [.t 21], some 22, some (16, false), []⟩, ⟨.inl .pick, [.t 16, .c (.bool true), .t 22], some 23, none, []⟩] none)
 (.cond (.t 23) st20_0 .skip))

def sq20_2 : AC := (.seq (.reg [⟨.inl .mov, [.t 0], some 28, none, []⟩, ⟨.inl .mov, [.t 1], some 29, none, []⟩, ⟨.inl .mov, [.t 10], some 30, none, []⟩, ⟨.inr (.call true false 55), [.t 28, .t 29, .t 30], some 31, none, []⟩, ⟨.inl .mov, [.t 10], some 32, none, []⟩, ⟨.inl .mov, [.t 31], some 6, none, []⟩, ⟨.inl .mov, [.t 32], some 7, none, []⟩, ⟨.inl .mov, [.c (.int .i64 (0))], some 8, none, []⟩] none)
 .ret)

def sq20_3 : AC := (.seq (.reg [⟨.inl .mov, [.t 0], some 24, none, []⟩, ⟨.inl .mov, [.t 1], some 25, none, []⟩, ⟨.inl .mov, [.t 2], some 26, none, []⟩, ⟨.inr (.call true false 54), [.t 24, .t 25, .t 26], some 27, none, []⟩, ⟨.inl .mov, [.t 27], some 10, none, []⟩] none)
 sq20_2)

def sp20_4 : AC := (.seq (.reg [⟨.inl .mov, [.t 0], some 11, none, []⟩, ⟨.inl .mov, [.t 1], some 12, none, []⟩, ⟨.inr (.call true true 52), [.t 11, .t 12], some 13, none, []⟩, ⟨.inl .mov, [.t 13], some 9, none, []⟩] none)
 sq20_1)

/-- olivette/chips.Reduce -/
def af20 : AFunc := ⟨3,
 (.seq (.reg [⟨.inl .mov, [.c (.nilS)], some 6, none, []⟩, ⟨.inl .mov, [.c (.nilS)], some 7, none, []⟩, ⟨.inl .mov, [.c (.int .i64 (0))], some 8, none, []⟩] none)
 (.seq sp20_4
 sq20_3)),
 [.t 6, .t 7, .t 8]⟩

def sq22_0 : AC := (.reg [⟨.inl .mov, [.t 5], some 15, none, []⟩, ⟨.inl (.bin .add), [.t 15, .c (.int .i64 (1))], some 16, none, []⟩, ⟨.inl .mov, [.t 16], some 5, none, []⟩] none)

def sp22_1 : AC := (.block 1 (.seq (.reg [⟨.inl .mov, [.t 0], some 17, none, []⟩, ⟨.inl .mov, [.t 5], some 18, none, []⟩, ⟨.inl (.idxA 1), [.t 17, .t 18], some 19, none, []⟩, ⟨.inl (.ld false 1), [.t 19], some 20, none, []⟩, ⟨.inl .mov, [.t 1], some 21, none, []⟩, ⟨.inl .mov, [.t 5], some 22, none, []⟩, ⟨.inl (.idxA 1), [.t 21, .t 22], some 23, none, []⟩, ⟨.inl (.ld false 1), [.t 23], some 24, none, []⟩, ⟨.inl (.bin .neq), [.t 20, .t 24], some 25, none, []⟩] (some ([0, 1, 2, 3, 4, 5, 6, 7, 8], [], [0, 0, 3, 7, 0, 0, 48, 112, 255])))
 (.cond (.t 25) (.seq (.reg [⟨.inl .mov, [.c (.bool false)], some 4, none, []⟩] none)
 .ret) .skip)))

def sp22_2 : AC := (.seq (.reg [⟨.inl .mov, [.t 5], some 11, none, []⟩, ⟨.inl .mov, [.t 0], some 12, none, []⟩, ⟨.inl .len, [.t 12], some 13, none, []⟩, ⟨.inl (.bin .lss), [.t 11, .t 13], some 14, none, []⟩] none)
 (.cond (.t 14) .skip (.exit 0)))

def lb22_3 : AC := (.pre [0, 1, 5] (.seq sp22_2
 (.seq sp22_1
 sq22_0)))

def sq22_4 : AC := (.seq (.seq (.reg [⟨.inl .mov, [.c (.int .i64 (0))], some 5, none, []⟩] none)
 (.block 0 (.loop lb22_3)))
 (.pre [] (.seq (.reg [⟨.inl .mov, [.c (.bool true)], some 4, none, []⟩] none)
 .ret)))

def sp22_5 : AC := (.seq (.reg [⟨.inl .mov, [.t 0], some 6, none, []⟩, ⟨.inl .len, [.t 6], some 7, none, []⟩, ⟨.inl .mov, [.t 1], some 8, none, []⟩, ⟨.inl .len, [.t 8], some 9, none, []⟩, ⟨.inl (.bin .neq), [.t 7, .t 9], some 10, none, []⟩] none)
 (.cond (.t 10) (.seq (.reg [⟨.inl .mov, [.c (.bool false)], some 4, none, []⟩] none)
 .ret) .skip))

/-- olivette/olivettelaw09.ints -/
def af22 : AFunc := ⟨2,
 (.seq (.reg [⟨.inl .mov, [.c (.bool false)], some 4, none, []⟩] none)
 (.seq sp22_5
 sq22_4)),
 [.t 4]⟩

def sq25_0 : AC := (.seq (.cond (.c (.bool false)) (.seq (.reg [⟨.inl .mov, [.c (.bool false)], some 0, none, []⟩] none)
 .ret) .skip)
 (.seq (.reg [⟨.inl .mov, [.c (.bool true)], some 0, none, []⟩] none)
 .ret))

def sp25_1 : AC := (.seq (.reg [⟨.inl .mov, [.t 4], some 51, none, []⟩, ⟨.inl (.bin .neq), [.t 51, .c (.int .i64 (0))], some 52, none, []⟩, ⟨.inl .mov, [.t 52], some 53, none, []⟩, ⟨.inl (.fldA 0), [.t 3], some 54, some (53, false), []⟩, ⟨.inl (.ld false 1), [.t 54], some 55, some (53, false), []⟩, ⟨.inl .pick, [.t 53, .c (.bool true), .t 55], some 56, none, []⟩, ⟨.inl .mov, [.t 56], some 57, none, []⟩, ⟨.inl .mov, [.t 6], some 58, some (57, false), []⟩, ⟨.inl (.bin .neq), [.t 58, .c (.int .i64 (0))], some 59, some (57, false), []⟩, ⟨.inl .pick, [.t 57, .c (.bool true), .t 59], some 60, none, []⟩, ⟨.inl .mov, [.t 60], some 61, none, []⟩, ⟨.inl .mov, [.t 5], some 62, some (61, false), []⟩, ⟨.inl (.bin .neq), [.t 62, .c (.int .i64 (2))], some 63, some (61, false), []⟩, ⟨.inl .pick, [.t 61, .c (.bool true), .t 63], some 64, none, []⟩, ⟨.inl .mov, [.t 64], some 65, none, []⟩, ⟨.inl .mov, [.t 9], some 66, some (65, false), []⟩, ⟨.inl (.bin .neq), [.t 66, .c (.int .i64 (0))], some 67, some (65, false), []⟩, ⟨.inl .pick, [.t 65, .c (.bool true), .t 67], some 68, none, []⟩, ⟨.inl .mov, [.t 68], some 69, none, []⟩, ⟨.inl .mov, [.t 7], some 70, some (69, false), []⟩, ⟨.inr (.bldS true true 1 3 [.int .i64 0] [(0, 1), (1, 1), (2, 1)]), [.c (.int .i64 (2)), .c (.int .i64 (1)), .c (.int .i64 (0))], some 71, some (69, false), []⟩, ⟨.inr (.call true true 22), [.t 70, .t 71], some 72, some (69, false), []⟩, ⟨.inl (.un .not), [.t 72], some 73, some (69, false), []⟩, ⟨.inl .pick, [.t 69, .c (.bool true), .t 73], some 74, none, []⟩, ⟨.inl .mov, [.t 74], some 75, none, []⟩, ⟨.inl .mov, [.t 11], some 76, some (75, false), []⟩, ⟨.inl (.bin .neq), [.t 76, .c (.int .i64 (0))], some 77, some (75, false), []⟩, ⟨.inl .pick, [.t 75, .c (.bool true), .t 77], some 78, none, []⟩, ⟨.inl .mov, [.t 78], some 79, none, []⟩, ⟨.inl .mov, [.t 10], some 80, some (79, false), []⟩, ⟨.inl (.bin .neq), [.t 80, .c (.int .i64 (1))], some 81, some (79, false), []⟩, ⟨.inl .pick, [.t 79, .c (.bool true), .t 81], some 82, none, []⟩, ⟨.inl .mov, [.t 82], some 83, none, []⟩, ⟨.inl .mov, [.t 13], some 84, some (83, false), []⟩, ⟨.inl (.bin .neq), [.t 84, .c (.int .i64 (0))], some 85, some (83, false), []⟩, ⟨.inl .pick, [.t 83, .c (.bool true), .t 85], some 86, none, []⟩, ⟨.inl .mov, [.t 86], some 87, none, []⟩, ⟨.inl .mov, [.t 12], some 88, some (87, false), []⟩, ⟨.inl (.bin .neq), [.t 88, .c (.int .i64 (3))], some 89, some (87, false), []⟩, ⟨.inl .pick, [.t 87, .c (.bool true), .t 89], some 90, none, []⟩] none)
 (.cond (.t 90) (.seq (.reg [⟨.inl .mov, [.c (.bool false)], some 0, none, []⟩] none)
 .ret) .skip))

def sq25_2 : AC := (.seq (.reg [⟨.inl .mov, [.t 2], some 47, none, []⟩, ⟨.inr (.call true true 29), [.t 47], some 48, none, []⟩, ⟨.inl .mov, [.t 48], some 46, none, []⟩, ⟨.inl (.ext 0), [.t 46], some 49, none, []⟩, ⟨.inl (.ext 1), [.t 46], some 50, none, []⟩, ⟨.inl .mov, [.t 49], some 12, none, []⟩, ⟨.inl .mov, [.t 50], some 13, none, []⟩] none)
 (.seq sp25_1
 sq25_0))

def sq25_3 : AC := (.seq (.reg [⟨.inl .mov, [.t 2], some 41, none, []⟩, ⟨.inr (.bldS true true 1 3 [.int .i64 0] [(0, 1), (1, 1), (2, 1)]), [.c (.int .i64 (2)), .c (.int .i64 (0)), .c (.int .i64 (0))], some 42, none, []⟩, ⟨.inr (.call true true 40), [.t 41, .t 42], some 43, none, []⟩, ⟨.inl .mov, [.t 43], some 40, none, []⟩, ⟨.inl (.ext 0), [.t 40], some 44, none, []⟩, ⟨.inl (.ext 1), [.t 40], some 45, none, []⟩, ⟨.inl .mov, [.t 44], some 10, none, []⟩, ⟨.inl .mov, [.t 45], some 11, none, []⟩] none)
 sq25_2)

def sq25_4 : AC := (.seq (.reg [⟨.inl .mov, [.t 2], some 34, none, []⟩, ⟨.inr (.bldS true true 1 3 [.int .i64 0] [(0, 1), (1, 1), (2, 1)]), [.c (.int .i64 (0)), .c (.int .i64 (2)), .c (.int .i64 (1))], some 35, none, []⟩, ⟨.inr (.call true true 20), [.t 34, .t 35, .c (.int .i64 (0))], some 36, none, []⟩, ⟨.inl .mov, [.t 36], some 33, none, []⟩, ⟨.inl (.ext 0), [.t 33], some 37, none, []⟩, ⟨.inl (.ext 1), [.t 33], some 38, none, []⟩, ⟨.inl (.ext 2), [.t 33], some 39, none, []⟩, ⟨.inl .mov, [.t 37], some 7, none, []⟩, ⟨.inl .mov, [.t 38], some 8, none, []⟩, ⟨.inl .mov, [.t 39], some 9, none, []⟩] none)
 sq25_3)

def sq25_5 : AC := (.seq (.reg [⟨.inl .mov, [.t 1], some 28, none, []⟩, ⟨.inr (.bldS true true 1 2 [.int .i64 0] [(0, 1), (1, 1)]), [.c (.int .i64 (1)), .c (.int .i64 (-1))], some 29, none, []⟩, ⟨.inr (.call true true 30), [.t 28, .t 29], some 30, none, []⟩, ⟨.inl .mov, [.t 30], some 27, none, []⟩, ⟨.inl (.ext 0), [.t 27], some 31, none, []⟩, ⟨.inl (.ext 1), [.t 27], some 32, none, []⟩, ⟨.inl .mov, [.t 31], some 5, none, []⟩, ⟨.inl .mov, [.t 32], some 6, none, []⟩] none)
 sq25_4)

def sq25_6 : AC := (.seq (.reg [⟨.inl .mov, [.t 1], some 22, none, []⟩, ⟨.inr (.bldS true true 1 2 [.int .i64 0] [(0, 1), (1, 1)]), [.c (.int .i64 (1)), .c (.int .i64 (-1))], some 23, none, []⟩, ⟨.inr (.call true true 39), [.t 22, .t 23], some 24, none, []⟩, ⟨.inl .mov, [.t 24], some 21, none, []⟩, ⟨.inl (.ext 0), [.t 21], some 25, none, []⟩, ⟨.inl (.ext 1), [.t 21], some 26, none, []⟩, ⟨.inr (.alloc false [.bool false, .nilS, .nilS]), [], some 3, none, []⟩, ⟨.inr (.st 3), [.t 3, .t 25], none, none, []⟩, ⟨.inl .mov, [.t 26], some 4, none, []⟩] none)
 sq25_5)

def sq25_7 : AC := (.seq (.reg [⟨.inr (.bldS true true 1 3 [.int .i64 0] [(0, 1), (1, 1), (2, 1)]), [.c (.int .i64 (0)), .c (.int .i64 (1)), .c (.int .i64 (1))], some 17, none, []⟩, ⟨.inr (.bldS true true 1 3 [.int .i64 0] [(0, 1), (1, 1), (2, 1)]), [.c (.int .i64 (1)), .c (.int .i64 (0)), .c (.int .i64 (1))], some 18, none, []⟩, ⟨.inr (.bldS true true 1 3 [.int .i64 0] [(0, 1), (1, 1), (2, 1)]), [.c (.int .i64 (1)), .c (.int .i64 (1)), .c (.int .i64 (0))], some 19, none, []⟩, ⟨.inr (.bldS true true 1 3 [.nilS] [(0, 1), (1, 1), (2, 1)]), [.t 17, .t 18, .t 19], some 20, none, []⟩, ⟨.inl .mov, [.t 20], some 2, none, []⟩] none)
 sq25_6)

def sq25_8 : AC := (.seq (.reg [⟨.inr (.bldS true true 1 2 [.int .i64 0] [(0, 1), (1, 1)]), [.c (.int .i64 (0)), .c (.int .i64 (2))], some 14, none, []⟩, ⟨.inr (.bldS true true 1 2 [.int .i64 0] [(0, 1), (1, 1)]), [.c (.int .i64 (2)), .c (.int .i64 (0))], some 15, none, []⟩, ⟨.inr (.bldS true true 1 2 [.nilS] [(0, 1), (1, 1)]), [.t 14, .t 15], some 16, none, []⟩, ⟨.inl .mov, [.t 16], some 1, none, []⟩] none)
 sq25_7)

/-- olivette/olivettelaw09.awake -/
def af25 : AFunc := ⟨0,
 (.seq (.reg [⟨.inl .mov, [.c (.bool false)], some 0, none, []⟩] none)
 sq25_8),
 [.t 0]⟩

def st29_0 : AC := (.seq (.reg [⟨.inl .mov, [.c (.int .i64 (0))], some 2, none, []⟩, ⟨.inl .mov, [.c (.int .i64 (2))], some 3, none, []⟩] none)
 .ret)

def sq29_1 : AC := (.reg [⟨.inl .mov, [.t 5], some 21, none, []⟩, ⟨.inl .mov, [.t 0], some 22, none, []⟩, ⟨.inl .mov, [.t 7], some 23, none, []⟩, ⟨.inr (.call true true 61), [.t 22, .t 23], some 24, none, []⟩, ⟨.inr (.bldS true true 1 1 [.int .i64 0] [(0, 1)]), [.t 24], some 25, none, []⟩, ⟨.inr (.app false 1 8), [.t 21, .t 25], some 26, none, []⟩, ⟨.inl .mov, [.t 26], some 5, none, []⟩] none)

def sq29_2 : AC := (.reg [⟨.inl (.bin .add), [.t 17, .c (.int .i64 (1))], some 27, none, []⟩, ⟨.inl .mov, [.t 27], some 17, none, []⟩] none)

def sp29_3 : AC := (.block 1 (.seq (.reg [⟨.inl (.idxA 1), [.t 15, .t 17], some 19, none, []⟩, ⟨.inl (.ld false 1), [.t 19], some 20, none, []⟩, ⟨.inl .mov, [.t 20], some 7, none, []⟩] none)
 sq29_1))

def lb29_4 : AC := (.pre [0, 4, 5, 15, 16, 17] (.seq (.reg [⟨.inl (.bin .lss), [.t 17, .t 16], some 18, none, []⟩] none)
 (.seq (.cond (.t 18) .skip (.exit 0))
 (.seq sp29_3
 sq29_2))))

def sq29_5 : AC := (.seq (.reg [⟨.inl .mov, [.t 8], some 35, none, []⟩, ⟨.inl .mov, [.t 35], some 2, none, []⟩, ⟨.inl .mov, [.c (.int .i64 (0))], some 3, none, []⟩] none)
 .ret)

def sq29_6 : AC := (.pre [4, 5] (.seq (.reg [⟨.inl .mov, [.t 5], some 29, none, []⟩, ⟨.inl .mov, [.t 4], some 30, none, []⟩, ⟨.inr (.call true true 62), [.t 29, .t 30], some 31, none, []⟩, ⟨.inl .mov, [.t 31], some 28, none, []⟩, ⟨.inl (.ext 0), [.t 28], some 32, none, []⟩, ⟨.inl (.ext 1), [.t 28], some 33, none, []⟩, ⟨.inl (.ext 2), [.t 28], some 34, none, []⟩, ⟨.inl .mov, [.t 32], some 8, none, []⟩, ⟨.inl .mov, [.t 33], some 9, none, []⟩, ⟨.inl .mov, [.t 34], some 10, none, []⟩] none)
 sq29_5))

def sp29_7 : AC := (.seq (.reg [⟨.inl .mov, [.t 4], some 15, none, []⟩, ⟨.inl .len, [.t 15], some 16, none, []⟩, ⟨.inl .mov, [.c (.int .i64 (0))], some 17, none, []⟩] none)
 (.block 0 (.loop lb29_4)))

def sq29_8 : AC := (.seq (.reg [⟨.inr (.bldS true true 1 2 [.int .i64 0] [(0, 1), (1, 1)]), [.c (.int .i64 (2147483647)), .c (.int .i64 (2147483629))], some 14, none, []⟩, ⟨.inl .mov, [.t 14], some 4, none, []⟩] none)
 (.seq (.reg [⟨.inl .mov, [.c (.nilS)], some 5, none, []⟩] none)
 (.seq sp29_7
 sq29_6)))

def sp29_9 : AC := (.seq (.reg [⟨.inl .mov, [.t 0], some 11, none, []⟩, ⟨.inr (.call true true 60), [.t 11], some 12, none, []⟩, ⟨.inl (.un .not), [.t 12], some 13, none, []⟩] none)
 (.cond (.t 13) st29_0 .skip))

/-- olivette/chips.Trees -/
def af29 : AFunc := ⟨1,
 (.seq (.reg [⟨.inl .mov, [.c (.int .i64 (0))], some 2, none, []⟩, ⟨.inl .mov, [.c (.int .i64 (0))], some 3, none, []⟩] none)
 (.seq sp29_9
 sq29_8)),
 [.t 2, .t 3]⟩

def st30_0 : AC := (.seq (.reg [⟨.inl .mov, [.t 6], some 15, none, []⟩, ⟨.inl .mov, [.c (.int .i64 (0))], some 4, none, []⟩, ⟨.inl .mov, [.t 15], some 5, none, []⟩] none)
 .ret)

def sq30_1 : AC := (.seq (.reg [⟨.inl .mov, [.t 6], some 13, none, []⟩, ⟨.inl (.bin .neq), [.t 13, .c (.int .i64 (0))], some 14, none, []⟩] none)
 (.cond (.t 14) st30_0 .skip))

def st30_2 : AC := (.seq (.reg [⟨.inl .mov, [.c (.int .i64 (0))], some 4, none, []⟩, ⟨.inl .mov, [.c (.int .i64 (6))], some 5, none, []⟩] none)
 .ret)

def sq30_3 : AC := (.seq (.reg [⟨.inl .mov, [.t 9], some 25, none, []⟩, ⟨.inl .mov, [.t 9], some 26, none, []⟩, ⟨.inl .mov, [.t 1], some 27, none, []⟩, ⟨.inl .mov, [.t 9], some 28, none, []⟩, ⟨.inl .mov, [.t 1], some 29, none, []⟩, ⟨.inr (.call true true 54), [.t 28, .t 29, .c (.int .i64 (0))], some 30, none, []⟩, ⟨.inr (.call true true 55), [.t 26, .t 27, .t 30], some 31, none, []⟩, ⟨.inl .mov, [.t 7], some 32, none, []⟩, ⟨.inr (.call true true 64), [.t 25, .t 31, .t 32], some 33, none, []⟩, ⟨.inl .mov, [.t 33], some 4, none, []⟩, ⟨.inl .mov, [.c (.int .i64 (0))], some 5, none, []⟩] none)
 .ret)

def sq30_4 : AC := (.seq (.reg [⟨.inl .mov, [.t 0], some 20, none, []⟩, ⟨.inr (.call true true 29), [.t 20], some 21, none, []⟩, ⟨.inl .mov, [.t 21], some 19, none, []⟩, ⟨.inl (.ext 0), [.t 19], some 22, none, []⟩, ⟨.inl (.ext 1), [.t 19], some 23, none, []⟩, ⟨.inl .mov, [.t 22], some 7, none, []⟩, ⟨.inl .mov, [.t 23], some 8, none, []⟩] none)
 (.seq (.reg [⟨.inl .mov, [.t 0], some 24, none, []⟩, ⟨.inl .mov, [.t 24], some 9, none, []⟩] none)
 sq30_3))

def sp30_5 : AC := (.seq (.reg [⟨.inl .mov, [.t 1], some 16, none, []⟩, ⟨.inr (.call true true 63), [.t 16], some 17, none, []⟩, ⟨.inl (.bin .neq), [.t 17, .c (.int .i64 (0))], some 18, none, []⟩] none)
 (.cond (.t 18) st30_2 .skip))

def sp30_6 : AC := (.seq (.reg [⟨.inl .mov, [.t 0], some 10, none, []⟩, ⟨.inl .mov, [.t 1], some 11, none, []⟩, ⟨.inr (.call true true 52), [.t 10, .t 11], some 12, none, []⟩, ⟨.inl .mov, [.t 12], some 6, none, []⟩] none)
 sq30_1)

/-- olivette/chips.Period -/
def af30 : AFunc := ⟨2,
 (.seq (.reg [⟨.inl .mov, [.c (.int .i64 (0))], some 4, none, []⟩, ⟨.inl .mov, [.c (.int .i64 (0))], some 5, none, []⟩] none)
 (.seq sp30_6
 (.seq sp30_5
 sq30_4))),
 [.t 4, .t 5]⟩

def sq32_0 : AC := (.reg [⟨.inl .mov, [.t 4], some 9, none, []⟩, ⟨.inl (.bin .add), [.t 9, .c (.int .i64 (1))], some 10, none, []⟩, ⟨.inl .mov, [.t 10], some 4, none, []⟩] none)

def sp32_1 : AC := (.block 1 (.reg [⟨.inl .mov, [.t 3], some 11, none, []⟩, ⟨.inl .mov, [.t 0], some 12, none, []⟩, ⟨.inl .mov, [.t 4], some 13, none, []⟩, ⟨.inl (.idxA 1), [.t 12, .t 13], some 14, none, []⟩, ⟨.inl (.ld false 1), [.t 14], some 15, none, []⟩, ⟨.inl (.bin .add), [.t 11, .t 15], some 16, none, []⟩, ⟨.inl .mov, [.t 16], some 3, none, []⟩] none))

def sp32_2 : AC := (.seq (.reg [⟨.inl .mov, [.t 4], some 5, none, []⟩, ⟨.inl .mov, [.t 0], some 6, none, []⟩, ⟨.inl .len, [.t 6], some 7, none, []⟩, ⟨.inl (.bin .lss), [.t 5, .t 7], some 8, none, []⟩] none)
 (.cond (.t 8) .skip (.exit 0)))

def lb32_3 : AC := (.pre [0, 3, 4] (.seq sp32_2
 (.seq sp32_1
 sq32_0)))

def sq32_4 : AC := (.seq (.seq (.reg [⟨.inl .mov, [.c (.int .i64 (0))], some 4, none, []⟩] none)
 (.block 0 (.loop lb32_3)))
 (.pre [3] (.seq (.reg [⟨.inl .mov, [.t 3], some 17, none, []⟩, ⟨.inl .mov, [.t 17], some 2, none, []⟩] none)
 .ret)))

/-- olivette/olivetteref09.Sum -/
def af32 : AFunc := ⟨1,
 (.seq (.reg [⟨.inl .mov, [.c (.int .i64 (0))], some 2, none, []⟩] none)
 (.seq (.reg [⟨.inl .mov, [.c (.int .i64 (0))], some 3, none, []⟩] none)
 sq32_4)),
 [.t 2]⟩

def sq34_0 : AC := (.reg [⟨.inl .mov, [.t 7], some 21, none, []⟩, ⟨.inl (.bin .add), [.t 21, .c (.int .i64 (1))], some 22, none, []⟩, ⟨.inl .mov, [.t 22], some 7, none, []⟩] none)

def sp34_1 : AC := (.block 1 (.reg [⟨.inl .mov, [.t 6], some 23, none, []⟩, ⟨.inl .mov, [.t 5], some 24, none, []⟩, ⟨.inr (.mkS 1 8 [.int .i64 0]), [.t 24, .t 24], some 25, none, []⟩, ⟨.inr (.bldB 1 1 [.nilS] [(0, 1)]), [.t 25], some 26, none, []⟩, ⟨.inr (.appB 1 24), [.t 23, .t 26], some 27, none, []⟩, ⟨.inl .mov, [.t 27], some 6, none, []⟩] none))

def sp34_2 : AC := (.seq (.reg [⟨.inl .mov, [.t 7], some 18, none, []⟩, ⟨.inl .mov, [.t 5], some 19, none, []⟩, ⟨.inl (.bin .lss), [.t 18, .t 19], some 20, none, []⟩] none)
 (.cond (.t 20) .skip (.exit 0)))

def lb34_3 : AC := (.pre [0, 5, 6, 7] (.seq sp34_2
 (.seq sp34_1
 sq34_0)))

def st34_4 : AC := (.reg [⟨.inl .mov, [.t 0], some 48, none, []⟩, ⟨.inl .mov, [.t 8], some 49, none, []⟩, ⟨.inl (.idxA 1), [.t 48, .t 49], some 50, none, []⟩, ⟨.inl (.ld false 1), [.t 50], some 51, none, []⟩, ⟨.inl .mov, [.t 8], some 52, none, []⟩, ⟨.inl (.idxA 1), [.t 51, .t 52], some 53, none, []⟩, ⟨.inl (.ld false 1), [.t 53], some 54, none, []⟩, ⟨.inl .mov, [.t 8], some 55, none, []⟩, ⟨.inr (.call true true 49), [.t 54, .t 55], some 56, none, []⟩, ⟨.inl .mov, [.t 8], some 57, none, []⟩, ⟨.inl (.bin .add), [.t 56, .t 57], some 58, none, []⟩, ⟨.inl (.bin .sub), [.t 58, .c (.int .i64 (1))], some 59, none, []⟩, ⟨.inl .mov, [.t 8], some 60, none, []⟩, ⟨.inr (.call true true 49), [.t 59, .t 60], some 61, none, []⟩, ⟨.inl .mov, [.t 61], some 9, none, []⟩] none)

def st34_5 : AC := (.reg [⟨.inl .mov, [.t 0], some 80, none, []⟩, ⟨.inl .mov, [.t 8], some 81, none, []⟩, ⟨.inl (.idxA 1), [.t 80, .t 81], some 82, none, []⟩, ⟨.inl (.ld false 1), [.t 82], some 83, none, []⟩, ⟨.inl .mov, [.t 10], some 84, none, []⟩, ⟨.inl (.idxA 1), [.t 83, .t 84], some 85, none, []⟩, ⟨.inl (.ld false 1), [.t 85], some 86, none, []⟩, ⟨.inr (.call true true 49), [.t 86, .c (.int .i64 (4))], some 87, none, []⟩, ⟨.inl .mov, [.t 87], some 11, none, []⟩] none)

def st34_6 : AC := (.reg [⟨.inl .mov, [.t 11], some 91, none, []⟩, ⟨.inl .mx, [.t 91, .c (.int .i64 (1))], some 92, none, []⟩, ⟨.inl .mov, [.t 92], some 11, none, []⟩] none)

def sq34_7 : AC := (.reg [⟨.inl .mov, [.t 6], some 100, none, []⟩, ⟨.inl .mov, [.t 10], some 101, none, []⟩, ⟨.inl (.idxA 1), [.t 100, .t 101], some 102, none, []⟩, ⟨.inl (.ld false 1), [.t 102], some 103, none, []⟩, ⟨.inl .mov, [.t 8], some 104, none, []⟩, ⟨.inl .mov, [.t 11], some 105, none, []⟩, ⟨.inl (.idxA 1), [.t 103, .t 104], some 106, none, []⟩, ⟨.inr (.st 1), [.t 106, .t 105], none, none, []⟩] none)

def sq34_8 : AC := (.seq (.reg [⟨.inl .mov, [.t 6], some 93, none, []⟩, ⟨.inl .mov, [.t 8], some 94, none, []⟩, ⟨.inl (.idxA 1), [.t 93, .t 94], some 95, none, []⟩, ⟨.inl (.ld false 1), [.t 95], some 96, none, []⟩, ⟨.inl .mov, [.t 10], some 97, none, []⟩, ⟨.inl .mov, [.t 11], some 98, none, []⟩, ⟨.inl (.idxA 1), [.t 96, .t 97], some 99, none, []⟩, ⟨.inr (.st 1), [.t 99, .t 98], none, none, []⟩] none)
 sq34_7)

def sp34_9 : AC := (.seq (.reg [⟨.inl .mov, [.t 10], some 88, none, []⟩, ⟨.inl .mov, [.t 9], some 89, none, []⟩, ⟨.inl (.bin .eql), [.t 88, .t 89], some 90, none, []⟩] none)
 (.cond (.t 90) st34_6 .skip))

def sp34_10 : AC := (.seq (.reg [⟨.inl .mov, [.t 8], some 67, none, []⟩, ⟨.inl .mov, [.t 0], some 68, none, []⟩, ⟨.inl .len, [.t 68], some 69, none, []⟩, ⟨.inl (.bin .lss), [.t 67, .t 69], some 70, none, []⟩, ⟨.inl .mov, [.t 70], some 71, none, []⟩, ⟨.inl .mov, [.t 10], some 72, some (71, true), []⟩, ⟨.inl .mov, [.t 0], some 73, some (71, true), []⟩, ⟨.inl .mov, [.t 8], some 74, some (71, true), []⟩, ⟨.inl (.idxA 1), [.t 73, .t 74], some 75, some (71, true), []⟩, ⟨.inl (.ld false 1), [.t 75], some 76, some (71, true), []⟩, ⟨.inl .len, [.t 76], some 77, some (71, true), []⟩, ⟨.inl (.bin .lss), [.t 72, .t 77], some 78, some (71, true), []⟩, ⟨.inl .pick, [.t 71, .t 78, .c (.bool false)], some 79, none, []⟩] none)
 (.cond (.t 79) st34_5 .skip))

def sq34_11 : AC := (.reg [⟨.inl .mov, [.t 10], some 65, none, []⟩, ⟨.inl (.bin .add), [.t 65, .c (.int .i64 (1))], some 66, none, []⟩, ⟨.inl .mov, [.t 66], some 10, none, []⟩] none)

def sp34_12 : AC := (.block 5 (.seq (.reg [⟨.inl .mov, [.c (.int .i64 (0))], some 11, none, []⟩] none)
 (.seq sp34_10
 (.seq sp34_9
 sq34_8))))

def sp34_13 : AC := (.seq (.reg [⟨.inl .mov, [.t 10], some 62, none, []⟩, ⟨.inl .mov, [.t 8], some 63, none, []⟩, ⟨.inl (.bin .lss), [.t 62, .t 63], some 64, none, []⟩] none)
 (.cond (.t 64) .skip (.exit 4)))

def lb34_14 : AC := (.pre [0, 5, 6, 8, 9, 10] (.seq sp34_13
 (.seq sp34_12
 sq34_11)))

def sp34_15 : AC := (.seq (.reg [⟨.inl .mov, [.t 8], some 35, none, []⟩, ⟨.inl .mov, [.t 0], some 36, none, []⟩, ⟨.inl .len, [.t 36], some 37, none, []⟩, ⟨.inl (.bin .lss), [.t 35, .t 37], some 38, none, []⟩, ⟨.inl .mov, [.t 38], some 39, none, []⟩, ⟨.inl .mov, [.t 8], some 40, some (39, true), []⟩, ⟨.inl .mov, [.t 0], some 41, some (39, true), []⟩, ⟨.inl .mov, [.t 8], some 42, some (39, true), []⟩, ⟨.inl (.idxA 1), [.t 41, .t 42], some 43, some (39, true), []⟩, ⟨.inl (.ld false 1), [.t 43], some 44, some (39, true), []⟩, ⟨.inl .len, [.t 44], some 45, some (39, true), []⟩, ⟨.inl (.bin .lss), [.t 40, .t 45], some 46, some (39, true), []⟩, ⟨.inl .pick, [.t 39, .t 46, .c (.bool false)], some 47, none, []⟩] none)
 (.cond (.t 47) st34_4 .skip))

def sq34_16 : AC := (.pre [0, 5, 6, 8] (.reg [⟨.inl .mov, [.t 8], some 31, none, []⟩, ⟨.inl (.bin .add), [.t 31, .c (.int .i64 (1))], some 32, none, []⟩, ⟨.inl .mov, [.t 32], some 8, none, []⟩] none))

def sp34_17 : AC := (.block 3 (.seq (.reg [⟨.inl .mov, [.t 8], some 33, none, []⟩, ⟨.inl (.bin .sub), [.t 33, .c (.int .i64 (1))], some 34, none, []⟩, ⟨.inl .mov, [.t 34], some 9, none, []⟩] none)
 (.seq sp34_15
 (.seq (.reg [⟨.inl .mov, [.c (.int .i64 (0))], some 10, none, []⟩] none)
 (.block 4 (.loop lb34_14))))))

def sp34_18 : AC := (.seq (.reg [⟨.inl .mov, [.t 8], some 28, none, []⟩, ⟨.inl .mov, [.t 5], some 29, none, []⟩, ⟨.inl (.bin .lss), [.t 28, .t 29], some 30, none, []⟩] none)
 (.cond (.t 30) .skip (.exit 2)))

def lb34_19 : AC := (.pre [0, 5, 6, 8] (.seq sp34_18
 (.seq sp34_17
 sq34_16)))

def sq34_20 : AC := (.pre [0, 5, 6] (.seq (.seq (.reg [⟨.inl .mov, [.c (.int .i64 (1))], some 8, none, []⟩] none)
 (.block 2 (.loop lb34_19)))
 (.pre [6] (.seq (.reg [⟨.inl .mov, [.t 6], some 107, none, []⟩, ⟨.inl .mov, [.t 107], some 4, none, []⟩] none)
 .ret))))

def sq34_21 : AC := (.seq (.reg [⟨.inl .mov, [.c (.nilS)], some 6, none, []⟩] none)
 (.seq (.seq (.reg [⟨.inl .mov, [.c (.int .i64 (0))], some 7, none, []⟩] none)
 (.block 0 (.loop lb34_3)))
 sq34_20))

def sq34_22 : AC := (.seq (.reg [⟨.inl .mov, [.t 0], some 12, none, []⟩, ⟨.inl .len, [.t 12], some 13, none, []⟩, ⟨.inl (.bin .sub), [.t 13, .c (.int .i64 (1))], some 14, none, []⟩, ⟨.inl .mov, [.t 1], some 15, none, []⟩, ⟨.inr (.call true true 49), [.t 14, .t 15], some 16, none, []⟩, ⟨.inl (.bin .add), [.c (.int .i64 (1)), .t 16], some 17, none, []⟩, ⟨.inl .mov, [.t 17], some 5, none, []⟩] none)
 sq34_21)

/-- olivette/olivettelaw09.grown -/
def af34 : AFunc := ⟨2,
 (.seq (.reg [⟨.inl .mov, [.c (.nilS)], some 4, none, []⟩] none)
 sq34_22),
 [.t 4]⟩

def st36_0 : AC := (.reg [⟨.inl .mov, [.t 1], some 20, none, []⟩, ⟨.inl .mov, [.t 8], some 21, none, []⟩, ⟨.inl (.idxA 1), [.t 20, .t 21], some 22, none, []⟩, ⟨.inl (.ld false 1), [.t 22], some 23, none, []⟩, ⟨.inl .mov, [.t 23], some 9, none, []⟩] none)

def st36_1 : AC := (.reg [⟨.inl .mov, [.t 9], some 33, none, []⟩, ⟨.inl .mov, [.t 2], some 34, none, []⟩, ⟨.inl (.bin .mul), [.c (.int .i64 (2)), .t 34], some 35, none, []⟩, ⟨.inl (.bin .add), [.t 35, .c (.int .i64 (1))], some 36, none, []⟩, ⟨.inr (.call true true 49), [.t 33, .t 36], some 37, none, []⟩, ⟨.inl .mov, [.t 2], some 38, none, []⟩, ⟨.inl (.bin .sub), [.t 37, .t 38], some 39, none, []⟩, ⟨.inl .mov, [.t 39], some 9, none, []⟩] none)

def sq36_2 : AC := (.reg [⟨.inl .mov, [.t 7], some 40, none, []⟩, ⟨.inl .mov, [.t 9], some 41, none, []⟩, ⟨.inr (.bldS true true 1 1 [.int .i64 0] [(0, 1)]), [.t 41], some 42, none, []⟩, ⟨.inr (.app false 1 8), [.t 40, .t 42], some 43, none, []⟩, ⟨.inl .mov, [.t 43], some 7, none, []⟩] none)

def sp36_3 : AC := (.seq (.reg [⟨.inl .mov, [.t 9], some 24, none, []⟩, ⟨.inl .mov, [.t 2], some 25, none, []⟩, ⟨.inl (.un .neg), [.t 25], some 26, none, []⟩, ⟨.inl (.bin .lss), [.t 24, .t 26], some 27, none, []⟩, ⟨.inl .mov, [.t 27], some 28, none, []⟩, ⟨.inl .mov, [.t 9], some 29, some (28, false), []⟩, ⟨.inl .mov, [.t 2], some 30, some (28, false), []⟩, ⟨.inl (.bin .gtr), [.t 29, .t 30], some 31, some (28, false), []⟩, ⟨.inl .pick, [.t 28, .c (.bool true), .t 31], some 32, none, []⟩] none)
 (.cond (.t 32) st36_1 .skip))

def sp36_4 : AC := (.seq (.reg [⟨.inl .mov, [.t 8], some 16, none, []⟩, ⟨.inl .mov, [.t 1], some 17, none, []⟩, ⟨.inl .len, [.t 17], some 18, none, []⟩, ⟨.inl (.bin .lss), [.t 16, .t 18], some 19, none, []⟩] none)
 (.cond (.t 19) st36_0 .skip))

def sq36_5 : AC := (.reg [⟨.inl .mov, [.t 8], some 14, none, []⟩, ⟨.inl (.bin .add), [.t 14, .c (.int .i64 (1))], some 15, none, []⟩, ⟨.inl .mov, [.t 15], some 8, none, []⟩] none)

def sp36_6 : AC := (.block 1 (.seq (.reg [⟨.inl .mov, [.c (.int .i64 (0))], some 9, none, []⟩] none)
 (.seq sp36_4
 (.seq sp36_3
 sq36_2))))

def sp36_7 : AC := (.seq (.reg [⟨.inl .mov, [.t 8], some 10, none, []⟩, ⟨.inl .mov, [.t 0], some 11, none, []⟩, ⟨.inl .len, [.t 11], some 12, none, []⟩, ⟨.inl (.bin .lss), [.t 10, .t 12], some 13, none, []⟩] none)
 (.cond (.t 13) .skip (.exit 0)))

def lb36_8 : AC := (.pre [0, 1, 2, 7, 8] (.seq sp36_7
 (.seq sp36_6
 sq36_5)))

def sq36_9 : AC := (.seq (.seq (.reg [⟨.inl .mov, [.c (.int .i64 (0))], some 8, none, []⟩] none)
 (.block 0 (.loop lb36_8)))
 (.pre [7] (.seq (.reg [⟨.inl .mov, [.t 7], some 44, none, []⟩, ⟨.inl .mov, [.t 44], some 6, none, []⟩] none)
 .ret)))

/-- olivette/olivettelaw09.state -/
def af36 : AFunc := ⟨3,
 (.seq (.reg [⟨.inl .mov, [.c (.nilS)], some 6, none, []⟩] none)
 (.seq (.reg [⟨.inl .mov, [.c (.nilS)], some 7, none, []⟩] none)
 sq36_9)),
 [.t 6]⟩

def st39_0 : AC := (.seq (.reg [⟨.inl (.bld [.bool false, .nilS, .nilS] []), [], some 12, none, []⟩, ⟨.inl .mov, [.t 6], some 13, none, []⟩, ⟨.inr (.st 3), [.t 4, .t 12], none, none, []⟩, ⟨.inl .mov, [.t 13], some 5, none, []⟩] none)
 .ret)

def sq39_1 : AC := (.seq (.reg [⟨.inl .mov, [.t 6], some 10, none, []⟩, ⟨.inl (.bin .neq), [.t 10, .c (.int .i64 (0))], some 11, none, []⟩] none)
 (.cond (.t 11) st39_0 .skip))

def sq39_2 : AC := (.seq (.reg [⟨.inl .mov, [.t 0], some 14, none, []⟩, ⟨.inl .mov, [.t 1], some 15, none, []⟩, ⟨.inr (.call true false 71), [.t 14, .t 15], some 16, none, []⟩, ⟨.inr (.st 3), [.t 4, .t 16], none, none, []⟩, ⟨.inl .mov, [.c (.int .i64 (0))], some 5, none, []⟩] none)
 .ret)

def sp39_3 : AC := (.seq (.reg [⟨.inl .mov, [.t 0], some 7, none, []⟩, ⟨.inl .mov, [.t 1], some 8, none, []⟩, ⟨.inr (.call true true 52), [.t 7, .t 8], some 9, none, []⟩, ⟨.inl .mov, [.t 9], some 6, none, []⟩] none)
 sq39_1)

/-- olivette/chips.Win -/
def af39 : AFunc := ⟨2,
 (.seq (.reg [⟨.inr (.alloc false [.bool false, .nilS, .nilS]), [], some 4, none, []⟩, ⟨.inl .mov, [.c (.int .i64 (0))], some 5, none, []⟩] none)
 (.seq sp39_3
 sq39_2)),
 [.cell 4 true 3, .t 5]⟩

def st40_0 : AC := (.seq (.reg [⟨.inl .mov, [.t 6], some 17, none, []⟩, ⟨.inl .mov, [.c (.int .i64 (0))], some 4, none, []⟩, ⟨.inl .mov, [.t 17], some 5, none, []⟩] none)
 .ret)

def sq40_1 : AC := (.seq (.reg [⟨.inl .mov, [.t 6], some 15, none, []⟩, ⟨.inl (.bin .neq), [.t 15, .c (.int .i64 (0))], some 16, none, []⟩] none)
 (.cond (.t 16) st40_0 .skip))

def st40_2 : AC := (.seq (.reg [⟨.inl .mov, [.c (.int .i64 (0))], some 4, none, []⟩, ⟨.inl .mov, [.c (.int .i64 (5))], some 5, none, []⟩] none)
 .ret)

def st40_3 : AC := (.seq (.reg [⟨.inl .mov, [.t 8], some 36, none, []⟩, ⟨.inl .mov, [.t 9], some 37, none, []⟩, ⟨.inl (.bin .sub), [.t 36, .t 37], some 38, none, []⟩, ⟨.inl .mx, [.c (.int .i64 (-1)), .t 38], some 39, none, []⟩, ⟨.inl .mov, [.t 39], some 4, none, []⟩, ⟨.inl .mov, [.c (.int .i64 (0))], some 5, none, []⟩] none)
 .ret)

def sq40_4 : AC := (.seq (.reg [⟨.inl .mov, [.t 8], some 31, none, []⟩, ⟨.inl .mov, [.t 9], some 32, none, []⟩, ⟨.inl (.bin .mul), [.c (.int .i64 (2)), .t 32], some 33, none, []⟩, ⟨.inl (.bin .sub), [.t 33, .c (.int .i64 (2))], some 34, none, []⟩, ⟨.inl (.bin .gtr), [.t 31, .t 34], some 35, none, []⟩] none)
 (.cond (.t 35) st40_3 .skip))

def sq40_5 : AC := (.block 1 (.reg [⟨.inl .mov, [.t 11], some 58, none, []⟩, ⟨.inl (.bin .add), [.t 58, .c (.int .i64 (1))], some 59, none, []⟩, ⟨.inl .mov, [.t 59], some 11, none, []⟩] none))

def sp40_6 : AC := (.seq (.reg [⟨.inl .mov, [.t 10], some 46, none, []⟩, ⟨.inr (.call true true 63), [.t 46], some 47, none, []⟩, ⟨.inl .mov, [.t 11], some 48, none, []⟩, ⟨.inl (.bin .gtr), [.t 47, .t 48], some 49, none, []⟩, ⟨.inl .mov, [.t 49], some 50, none, []⟩, ⟨.inl .mov, [.t 7], some 51, some (50, true), []⟩, ⟨.inl .mov, [.t 10], some 52, some (50, true), []⟩, ⟨.inl .mov, [.t 11], some 53, some (50, true), []⟩, ⟨.inl (.bin .add), [.t 53, .c (.int .i64 (1))], some 54, some (50, true), []⟩, ⟨.inr (.call false true 73), [.t 51, .t 52, .t 54, .c (.int .i64 (0))], some 55, some (50, true), []⟩, ⟨.inl (.un .not), [.t 55], some 56, some (50, true), []⟩, ⟨.inl .pick, [.t 50, .t 56, .c (.bool false)], some 57, none, []⟩] none)
 (.cond (.t 57) .skip (.exit 0)))

def lb40_7 : AC := (.pre [7, 10, 11] (.seq sp40_6
 sq40_5))

def sq40_8 : AC := (.pre [11] (.seq (.reg [⟨.inl .mov, [.t 11], some 60, none, []⟩, ⟨.inl .mov, [.t 60], some 4, none, []⟩, ⟨.inl .mov, [.c (.int .i64 (0))], some 5, none, []⟩] none)
 .ret))

def sq40_9 : AC := (.seq (.reg [⟨.inl .mov, [.t 7], some 40, none, []⟩, ⟨.inl .mov, [.t 1], some 41, none, []⟩, ⟨.inl .mov, [.t 7], some 42, none, []⟩, ⟨.inl .mov, [.t 1], some 43, none, []⟩, ⟨.inr (.call true true 54), [.t 42, .t 43, .c (.int .i64 (0))], some 44, none, []⟩, ⟨.inr (.call true false 55), [.t 40, .t 41, .t 44], some 45, none, []⟩, ⟨.inl .mov, [.t 45], some 10, none, []⟩] none)
 (.seq (.reg [⟨.inl .mov, [.c (.int .i64 (-1))], some 11, none, []⟩] none)
 (.seq (.block 0 (.loop lb40_7))
 sq40_8)))

def sp40_10 : AC := (.seq (.reg [⟨.inl .mov, [.t 1], some 27, none, []⟩, ⟨.inr (.call true true 63), [.t 27], some 28, none, []⟩, ⟨.inl .mov, [.t 7], some 29, none, []⟩, ⟨.inr (.call true true 72), [.t 29], some 30, none, []⟩, ⟨.inl .mov, [.t 28], some 8, none, []⟩, ⟨.inl .mov, [.t 30], some 9, none, []⟩] none)
 sq40_4)

def sq40_11 : AC := (.seq (.reg [⟨.inl .mov, [.t 0], some 26, none, []⟩, ⟨.inl .mov, [.t 26], some 7, none, []⟩] none)
 (.seq sp40_10
 sq40_9))

def sp40_12 : AC := (.seq (.reg [⟨.inl .mov, [.t 0], some 18, none, []⟩, ⟨.inl .len, [.t 18], some 19, none, []⟩, ⟨.inl (.bin .gtr), [.t 19, .c (.int .i64 (6))], some 20, none, []⟩, ⟨.inl .mov, [.t 20], some 21, none, []⟩, ⟨.inl .mov, [.t 1], some 22, some (21, false), []⟩, ⟨.inr (.call true true 63), [.t 22], some 23, some (21, false), []⟩, ⟨.inl (.bin .gtr), [.t 23, .c (.int .i64 (12))], some 24, some (21, false), []⟩, ⟨.inl .pick, [.t 21, .c (.bool true), .t 24], some 25, none, []⟩] none)
 (.cond (.t 25) st40_2 .skip))

def sp40_13 : AC := (.seq (.reg [⟨.inl .mov, [.t 0], some 12, none, []⟩, ⟨.inl .mov, [.t 1], some 13, none, []⟩, ⟨.inr (.call true true 52), [.t 12, .t 13], some 14, none, []⟩, ⟨.inl .mov, [.t 14], some 6, none, []⟩] none)
 sq40_1)

/-- olivette/chips.Rank -/
def af40 : AFunc := ⟨2,
 (.seq (.reg [⟨.inl .mov, [.c (.int .i64 (0))], some 4, none, []⟩, ⟨.inl .mov, [.c (.int .i64 (0))], some 5, none, []⟩] none)
 (.seq sp40_13
 (.seq sp40_12
 sq40_11))),
 [.t 4, .t 5]⟩

def sq49_0 : AC := (.seq (.reg [⟨.inl .mov, [.t 0], some 5, none, []⟩, ⟨.inl (.conv .u64), [.t 5], some 6, none, []⟩, ⟨.inl .mov, [.t 1], some 7, none, []⟩, ⟨.inl (.conv .u64), [.t 7], some 8, none, []⟩, ⟨.inl (.bin .rem), [.t 6, .t 8], some 9, none, []⟩, ⟨.inl (.conv .i64), [.t 9], some 10, none, []⟩, ⟨.inl .mov, [.t 10], some 4, none, []⟩] none)
 .ret)

/-- olivette/olivettelaw09.mod -/
def af49 : AFunc := ⟨2,
 (.seq (.reg [⟨.inl .mov, [.c (.int .i64 (0))], some 4, none, []⟩] none)
 sq49_0),
 [.t 4]⟩

def sp52_0 : AC := (.seq (.reg [⟨.inl .mov, [.t 0], some 5, none, []⟩, ⟨.inr (.call true true 60), [.t 5], some 6, none, []⟩, ⟨.inl (.un .not), [.t 6], some 7, none, []⟩, ⟨.inl .mov, [.t 7], some 8, none, []⟩, ⟨.inl .mov, [.t 0], some 9, some (8, false), []⟩, ⟨.inl .mov, [.t 1], some 10, some (8, false), []⟩, ⟨.inr (.call true true 80), [.t 9, .t 10], some 11, some (8, false), []⟩, ⟨.inl (.un .not), [.t 11], some 12, some (8, false), []⟩, ⟨.inl .pick, [.t 8, .c (.bool true), .t 12], some 13, none, []⟩] none)
 (.cond (.t 13) (.seq (.reg [⟨.inl .mov, [.c (.int .i64 (2))], some 4, none, []⟩] none)
 .ret) .skip))

/-- olivette/chips.check -/
def af52 : AFunc := ⟨2,
 (.seq (.reg [⟨.inl .mov, [.c (.int .i64 (0))], some 4, none, []⟩] none)
 (.seq sp52_0
 (.seq (.reg [⟨.inl .mov, [.c (.int .i64 (0))], some 4, none, []⟩] none)
 .ret))),
 [.t 4]⟩

def sq53_0 : AC := (.seq (.reg [⟨.inl .mov, [.t 0], some 7, none, []⟩, ⟨.inl .mov, [.t 1], some 8, none, []⟩, ⟨.inl (.bin .geq), [.t 7, .t 8], some 9, none, []⟩, ⟨.inl .mov, [.t 9], some 10, none, []⟩, ⟨.inl .mov, [.t 0], some 11, some (10, true), []⟩, ⟨.inl .mov, [.t 2], some 12, some (10, true), []⟩, ⟨.inl (.bin .leq), [.t 11, .t 12], some 13, some (10, true), []⟩, ⟨.inl .pick, [.t 10, .t 13, .c (.bool false)], some 14, none, []⟩, ⟨.inl .mov, [.t 14], some 6, none, []⟩] none)
 .ret)

/-- olivette/chips.within -/
def af53 : AFunc := ⟨3,
 (.seq (.reg [⟨.inl .mov, [.c (.bool false)], some 6, none, []⟩] none)
 sq53_0),
 [.t 6]⟩

def sq54_0 : AC := (.reg [⟨.inl .mov, [.t 8], some 29, none, []⟩, ⟨.inl .mov, [.t 29], some 30, none, []⟩, ⟨.inl .mov, [.t 10], some 31, some (30, true), []⟩, ⟨.inl (.bin .quo), [.t 31, .c (.int .i64 (2))], some 32, some (30, true), []⟩, ⟨.inl (.bin .eql), [.t 32, .c (.int .i64 (0))], some 33, some (30, true), []⟩, ⟨.inl .pick, [.t 30, .t 33, .c (.bool false)], some 34, none, []⟩, ⟨.inl .mov, [.t 34], some 8, none, []⟩] none)

def sq54_1 : AC := (.seq (.reg [⟨.inl .mov, [.t 7], some 24, none, []⟩, ⟨.inl .mov, [.t 9], some 25, none, []⟩, ⟨.inl .mov, [.t 10], some 26, none, []⟩, ⟨.inl (.bin .quo), [.t 26, .c (.int .i64 (2))], some 27, none, []⟩, ⟨.inl (.idxA 1), [.t 24, .t 25], some 28, none, []⟩, ⟨.inr (.st 1), [.t 28, .t 27], none, none, []⟩] none)
 sq54_0)

def sq54_2 : AC := (.reg [⟨.inl (.bin .add), [.t 19, .c (.int .i64 (1))], some 35, none, []⟩, ⟨.inl .mov, [.t 35], some 19, none, []⟩] none)

def sp54_3 : AC := (.block 1 (.seq (.reg [⟨.inl .mov, [.t 19], some 21, none, []⟩, ⟨.inl (.idxA 1), [.t 17, .t 19], some 22, none, []⟩, ⟨.inl (.ld false 1), [.t 22], some 23, none, []⟩, ⟨.inl .mov, [.t 21], some 9, none, []⟩, ⟨.inl .mov, [.t 23], some 10, none, []⟩] none)
 sq54_1))

def lb54_4 : AC := (.pre [0, 1, 2, 7, 8, 17, 18, 19] (.seq (.reg [⟨.inl (.bin .lss), [.t 19, .t 18], some 20, none, []⟩] none)
 (.seq (.cond (.t 20) .skip (.exit 0))
 (.seq sp54_3
 sq54_2))))

def sq54_5 : AC := (.reg [⟨.inl .mov, [.t 11], some 51, none, []⟩, ⟨.inl .mov, [.t 12], some 52, none, []⟩, ⟨.inl .mov, [.t 13], some 53, none, []⟩, ⟨.inl (.bin .mul), [.c (.int .i64 (2)), .t 53], some 54, none, []⟩, ⟨.inl (.idxA 1), [.t 51, .t 52], some 55, none, []⟩, ⟨.inr (.st 1), [.t 55, .t 54], none, none, []⟩] none)

def sq54_6 : AC := (.reg [⟨.inl (.bin .add), [.t 46, .c (.int .i64 (1))], some 56, none, []⟩, ⟨.inl .mov, [.t 56], some 46, none, []⟩] none)

def sp54_7 : AC := (.block 3 (.seq (.reg [⟨.inl .mov, [.t 46], some 48, none, []⟩, ⟨.inl (.idxA 1), [.t 44, .t 46], some 49, none, []⟩, ⟨.inl (.ld false 1), [.t 49], some 50, none, []⟩, ⟨.inl .mov, [.t 48], some 12, none, []⟩, ⟨.inl .mov, [.t 50], some 13, none, []⟩] none)
 sq54_5))

def lb54_8 : AC := (.pre [0, 1, 2, 11, 44, 45, 46] (.seq (.reg [⟨.inl (.bin .lss), [.t 46, .t 45], some 47, none, []⟩] none)
 (.seq (.cond (.t 47) .skip (.exit 2))
 (.seq sp54_7
 sq54_6))))

def st54_9 : AC := (.seq (.reg [⟨.inl .mov, [.t 0], some 41, none, []⟩, ⟨.inl .mov, [.t 7], some 42, none, []⟩, ⟨.inl .mov, [.t 2], some 43, none, []⟩, ⟨.inr (.call true true 54), [.t 41, .t 42, .t 43], some 44, none, []⟩, ⟨.inl .len, [.t 44], some 45, none, []⟩, ⟨.inl .mov, [.c (.int .i64 (0))], some 46, none, []⟩] none)
 (.block 2 (.loop lb54_8)))

def sq54_10 : AC := (.pre [0, 1, 2, 11] (.seq (.reg [⟨.inl .mov, [.t 11], some 57, none, []⟩, ⟨.inl .mov, [.t 0], some 58, none, []⟩, ⟨.inl .mov, [.t 0], some 59, none, []⟩, ⟨.inl .mov, [.t 1], some 60, none, []⟩, ⟨.inl .mov, [.t 11], some 61, none, []⟩, ⟨.inr (.call true true 55), [.t 59, .t 60, .t 61], some 62, none, []⟩, ⟨.inl .mov, [.t 2], some 63, none, []⟩, ⟨.inr (.call true true 81), [.t 58, .t 62, .t 63], some 64, none, []⟩, ⟨.inr (.call true false 77), [.t 57, .t 64], some 65, none, []⟩, ⟨.inl .mov, [.t 65], some 6, none, []⟩] none)
 .ret))

def sp54_11 : AC := (.seq (.reg [⟨.inl .mov, [.t 8], some 39, none, []⟩, ⟨.inl (.un .not), [.t 39], some 40, none, []⟩] none)
 (.cond (.t 40) st54_9 .skip))

def sq54_12 : AC := (.pre [0, 1, 2, 7, 8] (.seq (.reg [⟨.inl .mov, [.t 1], some 36, none, []⟩, ⟨.inl .len, [.t 36], some 37, none, []⟩, ⟨.inr (.mkS 1 8 [.int .i64 0]), [.t 37, .t 37], some 38, none, []⟩, ⟨.inl .mov, [.t 38], some 11, none, []⟩] none)
 (.seq sp54_11
 sq54_10)))

def sp54_13 : AC := (.seq (.reg [⟨.inl .mov, [.t 1], some 17, none, []⟩, ⟨.inl .len, [.t 17], some 18, none, []⟩, ⟨.inl .mov, [.c (.int .i64 (0))], some 19, none, []⟩] none)
 (.block 0 (.loop lb54_4)))

def sq54_14 : AC := (.seq (.reg [⟨.inl .mov, [.t 1], some 14, none, []⟩, ⟨.inl .len, [.t 14], some 15, none, []⟩, ⟨.inr (.mkS 1 8 [.int .i64 0]), [.t 15, .t 15], some 16, none, []⟩, ⟨.inl .mov, [.t 16], some 7, none, []⟩] none)
 (.seq (.reg [⟨.inl .mov, [.c (.bool true)], some 8, none, []⟩] none)
 (.seq sp54_13
 sq54_12)))

/-- (olivette/chips.board).reduce -/
def af54 : AFunc := ⟨3,
 (.seq (.reg [⟨.inl .mov, [.c (.nilS)], some 6, none, []⟩] none)
 sq54_14),
 [.t 6]⟩

def sq55_0 : AC := (.reg [⟨.inl .mov, [.t 7], some 44, none, []⟩, ⟨.inl .mov, [.t 10], some 45, none, []⟩, ⟨.inl (.idxA 1), [.t 44, .t 45], some 46, none, []⟩, ⟨.inl (.ld false 1), [.t 46], some 47, none, []⟩, ⟨.inl .mov, [.t 9], some 48, none, []⟩, ⟨.inl .mov, [.t 11], some 49, none, []⟩, ⟨.inl (.bin .mul), [.t 48, .t 49], some 50, none, []⟩, ⟨.inl (.bin .add), [.t 47, .t 50], some 51, none, []⟩, ⟨.inl (.idxA 1), [.t 44, .t 45], some 52, none, []⟩, ⟨.inr (.st 1), [.t 52, .t 51], none, none, []⟩] none)

def sq55_1 : AC := (.seq (.reg [⟨.inl .mov, [.t 7], some 35, none, []⟩, ⟨.inl .mov, [.t 8], some 36, none, []⟩, ⟨.inl (.idxA 1), [.t 35, .t 36], some 37, none, []⟩, ⟨.inl (.ld false 1), [.t 37], some 38, none, []⟩, ⟨.inl .mov, [.t 9], some 39, none, []⟩, ⟨.inl .mov, [.t 11], some 40, none, []⟩, ⟨.inl (.bin .mul), [.t 39, .t 40], some 41, none, []⟩, ⟨.inl (.bin .sub), [.t 38, .t 41], some 42, none, []⟩, ⟨.inl (.idxA 1), [.t 35, .t 36], some 43, none, []⟩, ⟨.inr (.st 1), [.t 43, .t 42], none, none, []⟩] none)
 sq55_0)

def sq55_2 : AC := (.reg [⟨.inl (.bin .add), [.t 30, .c (.int .i64 (1))], some 53, none, []⟩, ⟨.inl .mov, [.t 53], some 30, none, []⟩] none)

def sp55_3 : AC := (.block 3 (.seq (.reg [⟨.inl .mov, [.t 30], some 32, none, []⟩, ⟨.inl (.idxA 1), [.t 28, .t 30], some 33, none, []⟩, ⟨.inl (.ld false 1), [.t 33], some 34, none, []⟩, ⟨.inl .mov, [.t 32], some 10, none, []⟩, ⟨.inl .mov, [.t 34], some 11, none, []⟩] none)
 sq55_1))

def lb55_4 : AC := (.pre [0, 7, 8, 9, 18, 19, 20, 28, 29, 30] (.seq (.reg [⟨.inl (.bin .lss), [.t 30, .t 29], some 31, none, []⟩] none)
 (.seq (.cond (.t 31) .skip (.exit 2))
 (.seq sp55_3
 sq55_2))))

def sq55_5 : AC := (.seq (.reg [⟨.inl .mov, [.t 0], some 25, none, []⟩, ⟨.inl .mov, [.t 8], some 26, none, []⟩, ⟨.inl (.idxA 1), [.t 25, .t 26], some 27, none, []⟩, ⟨.inl (.ld false 1), [.t 27], some 28, none, []⟩, ⟨.inl .len, [.t 28], some 29, none, []⟩, ⟨.inl .mov, [.c (.int .i64 (0))], some 30, none, []⟩] none)
 (.block 2 (.loop lb55_4)))

def sq55_6 : AC := (.pre [0, 7, 18, 19, 20] (.reg [⟨.inl (.bin .add), [.t 20, .c (.int .i64 (1))], some 54, none, []⟩, ⟨.inl .mov, [.t 54], some 20, none, []⟩] none))

def sp55_7 : AC := (.block 1 (.seq (.reg [⟨.inl .mov, [.t 20], some 22, none, []⟩, ⟨.inl (.idxA 1), [.t 18, .t 20], some 23, none, []⟩, ⟨.inl (.ld false 1), [.t 23], some 24, none, []⟩, ⟨.inl .mov, [.t 22], some 8, none, []⟩, ⟨.inl .mov, [.t 24], some 9, none, []⟩] none)
 sq55_5))

def lb55_8 : AC := (.pre [0, 7, 18, 19, 20] (.seq (.reg [⟨.inl (.bin .lss), [.t 20, .t 19], some 21, none, []⟩] none)
 (.seq (.cond (.t 21) .skip (.exit 0))
 (.seq sp55_7
 sq55_6))))

def sp55_9 : AC := (.seq (.reg [⟨.inl .mov, [.t 2], some 18, none, []⟩, ⟨.inl .len, [.t 18], some 19, none, []⟩, ⟨.inl .mov, [.c (.int .i64 (0))], some 20, none, []⟩] none)
 (.block 0 (.loop lb55_8)))

def sq55_10 : AC := (.seq sp55_9
 (.pre [7] (.seq (.reg [⟨.inl .mov, [.t 7], some 55, none, []⟩, ⟨.inl .mov, [.t 55], some 6, none, []⟩] none)
 .ret)))

def sq55_11 : AC := (.seq (.reg [⟨.inl .mov, [.t 7], some 15, none, []⟩, ⟨.inl .mov, [.t 1], some 16, none, []⟩, ⟨.inr (.cpy 1), [.t 15, .t 16], some 17, none, []⟩] none)
 sq55_10)

def sq55_12 : AC := (.seq (.reg [⟨.inl .mov, [.t 1], some 12, none, []⟩, ⟨.inl .len, [.t 12], some 13, none, []⟩, ⟨.inr (.mkS 1 8 [.int .i64 0]), [.t 13, .t 13], some 14, none, []⟩, ⟨.inl .mov, [.t 14], some 7, none, []⟩] none)
 sq55_11)

/-- (olivette/chips.board).apply -/
def af55 : AFunc := ⟨3,
 (.seq (.reg [⟨.inl .mov, [.c (.nilS)], some 6, none, []⟩] none)
 sq55_12),
 [.t 6]⟩

def sq60_0 : AC := (.seq (.reg [⟨.inl .mov, [.t 5], some 21, none, []⟩, ⟨.inl .len, [.t 21], some 22, none, []⟩, ⟨.inl .mov, [.t 3], some 23, none, []⟩, ⟨.inl (.bin .neq), [.t 22, .t 23], some 24, none, []⟩] none)
 (.cond (.t 24) (.seq (.reg [⟨.inl .mov, [.c (.bool false)], some 2, none, []⟩] none)
 .ret) .skip))

def sq60_1 : AC := (.reg [⟨.inl (.bin .add), [.t 17, .c (.int .i64 (1))], some 25, none, []⟩, ⟨.inl .mov, [.t 25], some 17, none, []⟩] none)

def sp60_2 : AC := (.block 1 (.seq (.reg [⟨.inl (.idxA 1), [.t 15, .t 17], some 19, none, []⟩, ⟨.inl (.ld false 1), [.t 19], some 20, none, []⟩, ⟨.inl .mov, [.t 20], some 5, none, []⟩] none)
 sq60_0))

def lb60_3 : AC := (.pre [0, 3, 15, 16, 17] (.seq (.reg [⟨.inl (.bin .lss), [.t 17, .t 16], some 18, none, []⟩] none)
 (.seq (.cond (.t 18) .skip (.exit 0))
 (.seq sp60_2
 sq60_1))))

def sq60_4 : AC := (.seq (.reg [⟨.inl .mov, [.t 9], some 40, none, []⟩, ⟨.inr (.call true true 53), [.t 40, .c (.int .i64 (0)), .c (.int .i64 (3))], some 41, none, []⟩, ⟨.inl (.un .not), [.t 41], some 42, none, []⟩, ⟨.inl .mov, [.t 42], some 43, none, []⟩, ⟨.inl .mov, [.t 9], some 44, some (43, false), []⟩, ⟨.inl .mov, [.t 0], some 45, some (43, false), []⟩, ⟨.inl .mov, [.t 8], some 46, some (43, false), []⟩, ⟨.inl (.idxA 1), [.t 45, .t 46], some 47, some (43, false), []⟩, ⟨.inl (.ld false 1), [.t 47], some 48, some (43, false), []⟩, ⟨.inl .mov, [.t 6], some 49, some (43, false), []⟩, ⟨.inl (.idxA 1), [.t 48, .t 49], some 50, some (43, false), []⟩, ⟨.inl (.ld false 1), [.t 50], some 51, some (43, false), []⟩, ⟨.inl (.bin .neq), [.t 44, .t 51], some 52, some (43, false), []⟩, ⟨.inl .pick, [.t 43, .c (.bool true), .t 52], some 53, none, []⟩, ⟨.inl .mov, [.t 53], some 54, none, []⟩, ⟨.inl .mov, [.t 6], some 55, some (54, false), []⟩, ⟨.inl .mov, [.t 8], some 56, some (54, false), []⟩, ⟨.inl (.bin .eql), [.t 55, .t 56], some 57, some (54, false), []⟩, ⟨.inl .mov, [.t 57], some 58, some (54, false), []⟩, ⟨.inl .mov, [.t 9], some 59, some (58, true), []⟩, ⟨.inl (.bin .neq), [.t 59, .c (.int .i64 (0))], some 60, some (58, true), []⟩, ⟨.inl .pick, [.t 58, .t 60, .c (.bool false)], some 61, some (54, false), []⟩, ⟨.inl .pick, [.t 54, .c (.bool true), .t 61], some 62, none, []⟩] none)
 (.cond (.t 62) (.seq (.reg [⟨.inl .mov, [.c (.bool false)], some 2, none, []⟩] none)
 .ret) .skip))

def sq60_5 : AC := (.reg [⟨.inl (.bin .add), [.t 35, .c (.int .i64 (1))], some 63, none, []⟩, ⟨.inl .mov, [.t 63], some 35, none, []⟩] none)

def sp60_6 : AC := (.block 5 (.seq (.reg [⟨.inl .mov, [.t 35], some 37, none, []⟩, ⟨.inl (.idxA 1), [.t 33, .t 35], some 38, none, []⟩, ⟨.inl (.ld false 1), [.t 38], some 39, none, []⟩, ⟨.inl .mov, [.t 37], some 8, none, []⟩, ⟨.inl .mov, [.t 39], some 9, none, []⟩] none)
 sq60_4))

def lb60_7 : AC := (.pre [0, 6, 26, 27, 28, 33, 34, 35] (.seq (.reg [⟨.inl (.bin .lss), [.t 35, .t 34], some 36, none, []⟩] none)
 (.seq (.cond (.t 36) .skip (.exit 4))
 (.seq sp60_6
 sq60_5))))

def sq60_8 : AC := (.seq (.reg [⟨.inl .mov, [.t 7], some 33, none, []⟩, ⟨.inl .len, [.t 33], some 34, none, []⟩, ⟨.inl .mov, [.c (.int .i64 (0))], some 35, none, []⟩] none)
 (.block 4 (.loop lb60_7)))

def sq60_9 : AC := (.pre [0, 26, 27, 28] (.reg [⟨.inl (.bin .add), [.t 28, .c (.int .i64 (1))], some 64, none, []⟩, ⟨.inl .mov, [.t 64], some 28, none, []⟩] none))

def sp60_10 : AC := (.block 3 (.seq (.reg [⟨.inl .mov, [.t 28], some 30, none, []⟩, ⟨.inl (.idxA 1), [.t 26, .t 28], some 31, none, []⟩, ⟨.inl (.ld false 1), [.t 31], some 32, none, []⟩, ⟨.inl .mov, [.t 30], some 6, none, []⟩, ⟨.inl .mov, [.t 32], some 7, none, []⟩] none)
 sq60_8))

def lb60_11 : AC := (.pre [0, 26, 27, 28] (.seq (.reg [⟨.inl (.bin .lss), [.t 28, .t 27], some 29, none, []⟩] none)
 (.seq (.cond (.t 29) .skip (.exit 2))
 (.seq sp60_10
 sq60_9))))

def sq60_12 : AC := (.pre [0] (.seq (.reg [⟨.inl .mov, [.t 0], some 65, none, []⟩, ⟨.inr (.call true true 84), [.t 65, .c (.int .i64 (0))], some 66, none, []⟩, ⟨.inr (.call true true 83), [.t 66, .c (.int .i64 (-1))], some 67, none, []⟩, ⟨.inl (.un .not), [.t 67], some 68, none, []⟩, ⟨.inl .mov, [.t 68], some 2, none, []⟩] none)
 .ret))

def sp60_13 : AC := (.seq (.reg [⟨.inl .mov, [.t 0], some 26, none, []⟩, ⟨.inl .len, [.t 26], some 27, none, []⟩, ⟨.inl .mov, [.c (.int .i64 (0))], some 28, none, []⟩] none)
 (.block 2 (.loop lb60_11)))

def sp60_14 : AC := (.seq (.reg [⟨.inl .mov, [.t 0], some 15, none, []⟩, ⟨.inl .len, [.t 15], some 16, none, []⟩, ⟨.inl .mov, [.c (.int .i64 (0))], some 17, none, []⟩] none)
 (.block 0 (.loop lb60_3)))

def sp60_15 : AC := (.seq (.reg [⟨.inl .mov, [.t 3], some 12, none, []⟩, ⟨.inr (.call true true 53), [.t 12, .c (.int .i64 (1)), .c (.int .i64 (10))], some 13, none, []⟩, ⟨.inl (.un .not), [.t 13], some 14, none, []⟩] none)
 (.cond (.t 14) (.seq (.reg [⟨.inl .mov, [.c (.bool false)], some 2, none, []⟩] none)
 .ret) .skip))

def sq60_16 : AC := (.seq (.reg [⟨.inl .mov, [.t 0], some 10, none, []⟩, ⟨.inl .len, [.t 10], some 11, none, []⟩, ⟨.inl .mov, [.t 11], some 3, none, []⟩] none)
 (.seq sp60_15
 (.seq sp60_14
 (.pre [0] (.seq sp60_13
 sq60_12)))))

/-- olivette/chips.isBoard -/
def af60 : AFunc := ⟨1,
 (.seq (.reg [⟨.inl .mov, [.c (.bool false)], some 2, none, []⟩] none)
 sq60_16),
 [.t 2]⟩

def sq61_0 : AC := (.reg [⟨.inl .mov, [.t 6], some 40, none, []⟩, ⟨.inl .mov, [.t 7], some 41, none, []⟩, ⟨.inl (.idxA 1), [.t 40, .t 41], some 42, none, []⟩, ⟨.inl (.ld false 1), [.t 42], some 43, none, []⟩, ⟨.inl .mov, [.t 8], some 44, none, []⟩, ⟨.inl .mov, [.t 1], some 45, none, []⟩, ⟨.inl .mov, [.t 0], some 46, none, []⟩, ⟨.inl .mov, [.t 7], some 47, none, []⟩, ⟨.inl (.bin .add), [.t 47, .c (.int .i64 (1))], some 48, none, []⟩, ⟨.inl (.idxA 1), [.t 46, .t 48], some 49, none, []⟩, ⟨.inl (.ld false 1), [.t 49], some 50, none, []⟩, ⟨.inl .mov, [.t 8], some 51, none, []⟩, ⟨.inl (.bin .add), [.t 51, .c (.int .i64 (1))], some 52, none, []⟩, ⟨.inl (.idxA 1), [.t 50, .t 52], some 53, none, []⟩, ⟨.inl (.ld false 1), [.t 53], some 54, none, []⟩, ⟨.inl (.bin .sub), [.t 45, .t 54], some 55, none, []⟩, ⟨.inl .mov, [.t 1], some 56, none, []⟩, ⟨.inl (.bin .rem), [.t 55, .t 56], some 57, none, []⟩, ⟨.inl (.idxA 1), [.t 43, .t 44], some 58, none, []⟩, ⟨.inr (.st 1), [.t 58, .t 57], none, none, []⟩] (some ([0, 1, 2, 3, 4, 5, 6, 7, 8, 9, 10, 11, 12, 13, 14, 15, 16, 17, 18, 19], [], [0, 0, 3, 7, 0, 0, 0, 0, 128, 448, 960, 0, 2048, 8128, 16320, 32736, 0, 131040, 262143, 524287])))

def sq61_1 : AC := (.reg [⟨.inl (.bin .add), [.t 37, .c (.int .i64 (1))], some 59, none, []⟩, ⟨.inl .mov, [.t 59], some 37, none, []⟩] none)

def sq61_2 : AC := (.seq (.block 3 (.seq (.reg [⟨.inl .mov, [.t 37], some 39, none, []⟩, ⟨.inl .mov, [.t 39], some 8, none, []⟩] none)
 sq61_0))
 sq61_1)

def lb61_3 : AC := (.pre [0, 1, 5, 6, 7, 23, 24, 36, 37] (.seq (.reg [⟨.inl (.bin .lss), [.t 37, .t 36], some 38, none, []⟩] none)
 (.seq (.cond (.t 38) .skip (.exit 2))
 sq61_2)))

def sq61_4 : AC := (.pre [0, 1, 5, 6, 7, 23, 24] (.reg [⟨.inl .mov, [.t 0], some 65, none, []⟩, ⟨.inl .mov, [.t 7], some 66, none, []⟩, ⟨.inl (.bin .add), [.t 66, .c (.int .i64 (1))], some 67, none, []⟩, ⟨.inr (.call true true 74), [.t 65, .t 67], some 68, none, []⟩, ⟨.inl .mov, [.t 6], some 60, none, []⟩, ⟨.inl .mov, [.t 7], some 61, none, []⟩, ⟨.inl (.idxA 1), [.t 60, .t 61], some 62, none, []⟩, ⟨.inl (.ld false 1), [.t 62], some 63, none, []⟩, ⟨.inl .mov, [.t 7], some 64, none, []⟩, ⟨.inl (.idxA 1), [.t 63, .t 64], some 69, none, []⟩, ⟨.inr (.st 1), [.t 69, .t 68], none, none, []⟩] (some ([5, 6, 7, 8, 0, 1, 2, 3, 4, 9, 10], [], [0, 0, 3, 7, 0, 0, 0, 64, 224, 511, 1023]))))

def sp61_5 : AC := (.seq (.reg [⟨.inl .mov, [.t 6], some 32, none, []⟩, ⟨.inl .mov, [.t 7], some 33, none, []⟩, ⟨.inl (.idxA 1), [.t 32, .t 33], some 34, none, []⟩, ⟨.inl (.ld false 1), [.t 34], some 35, none, []⟩, ⟨.inl .len, [.t 35], some 36, none, []⟩, ⟨.inl .mov, [.c (.int .i64 (0))], some 37, none, []⟩] none)
 (.block 2 (.loop lb61_3)))

def sq61_6 : AC := (.seq (.reg [⟨.inl .mov, [.t 6], some 27, none, []⟩, ⟨.inl .mov, [.t 7], some 28, none, []⟩, ⟨.inl .mov, [.t 5], some 29, none, []⟩, ⟨.inr (.mkS 1 8 [.int .i64 0]), [.t 29, .t 29], some 30, none, []⟩, ⟨.inl (.idxA 1), [.t 27, .t 28], some 31, none, []⟩, ⟨.inr (.st 1), [.t 31, .t 30], none, none, []⟩] none)
 (.seq sp61_5
 sq61_4))

def sq61_7 : AC := (.pre [0, 1, 5, 6, 23, 24] (.reg [⟨.inl (.bin .add), [.t 24, .c (.int .i64 (1))], some 70, none, []⟩, ⟨.inl .mov, [.t 70], some 24, none, []⟩] none))

def sq61_8 : AC := (.seq (.block 1 (.seq (.reg [⟨.inl .mov, [.t 24], some 26, none, []⟩, ⟨.inl .mov, [.t 26], some 7, none, []⟩] none)
 sq61_6))
 sq61_7)

def lb61_9 : AC := (.pre [0, 1, 5, 6, 23, 24] (.seq (.reg [⟨.inl (.bin .lss), [.t 24, .t 23], some 25, none, []⟩] none)
 (.seq (.cond (.t 25) .skip (.exit 0))
 sq61_8)))

def sq61_10 : AC := (.reg [⟨.inl .mov, [.t 1], some 102, none, []⟩, ⟨.inl .mov, [.t 9], some 103, none, []⟩, ⟨.inl (.bin .sub), [.t 102, .t 103], some 104, none, []⟩, ⟨.inl .mov, [.t 1], some 105, none, []⟩, ⟨.inl (.bin .rem), [.t 104, .t 105], some 106, none, []⟩, ⟨.inl .mov, [.t 106], some 9, none, []⟩] none)

def st61_11 : AC := (.seq (.reg [⟨.inl .mov, [.t 6], some 84, none, []⟩, ⟨.inl (.ld false 1), [.t 10], some 85, none, []⟩, ⟨.inl .mov, [.t 6], some 90, none, []⟩, ⟨.inl (.ld false 1), [.t 10], some 91, none, []⟩, ⟨.inl .mov, [.t 11], some 92, none, []⟩, ⟨.inl (.bin .add), [.t 91, .t 92], some 93, none, []⟩, ⟨.inl (.idxA 1), [.t 90, .t 93], some 94, none, []⟩, ⟨.inl (.ld false 1), [.t 94], some 95, none, []⟩, ⟨.inl .mov, [.t 6], some 96, none, []⟩, ⟨.inl (.ld false 1), [.t 10], some 97, none, []⟩, ⟨.inl (.idxA 1), [.t 96, .t 97], some 98, none, []⟩, ⟨.inl (.ld false 1), [.t 98], some 99, none, []⟩, ⟨.inl (.idxA 1), [.t 84, .t 85], some 100, none, []⟩, ⟨.inr (.st 1), [.t 100, .t 95], none, none, [.t 10]⟩, ⟨.inl .mov, [.t 6], some 86, none, []⟩, ⟨.inl (.ld false 1), [.t 10], some 87, none, []⟩, ⟨.inl .mov, [.t 11], some 88, none, []⟩, ⟨.inl (.bin .add), [.t 87, .t 88], some 89, none, []⟩, ⟨.inl (.idxA 1), [.t 86, .t 89], some 101, none, []⟩, ⟨.inr (.st 1), [.t 101, .t 99], none, none, []⟩] (some ([0, 1, 6, 7, 8, 9, 10, 11, 12, 13, 14, 15, 16, 17, 2, 3, 4, 5, 18, 19], [], [0, 0, 0, 0, 0, 24, 0, 0, 0, 384, 960, 1984, 0, 0, 12288, 28672, 65475, 131011, 262143, 524287])))
 sq61_10)

def sq61_12 : AC := (.reg [⟨.inl .mov, [.t 16], some 152, none, []⟩, ⟨.inl (.bin .add), [.t 152, .c (.int .i64 (1))], some 153, none, []⟩, ⟨.inl .mov, [.t 153], some 16, none, []⟩] none)

def sp61_13 : AC := (.block 9 (.reg [⟨.inl .mov, [.t 6], some 154, none, []⟩, ⟨.inl .mov, [.t 14], some 155, none, []⟩, ⟨.inl (.idxA 1), [.t 154, .t 155], some 156, none, []⟩, ⟨.inl (.ld false 1), [.t 156], some 157, none, []⟩, ⟨.inl .mov, [.t 16], some 158, none, []⟩, ⟨.inl .mov, [.t 6], some 159, none, []⟩, ⟨.inl .mov, [.t 14], some 160, none, []⟩, ⟨.inl (.idxA 1), [.t 159, .t 160], some 161, none, []⟩, ⟨.inl (.ld false 1), [.t 161], some 162, none, []⟩, ⟨.inl .mov, [.t 16], some 163, none, []⟩, ⟨.inl (.idxA 1), [.t 162, .t 163], some 164, none, []⟩, ⟨.inl (.ld false 1), [.t 164], some 165, none, []⟩, ⟨.inl .mov, [.t 1], some 166, none, []⟩, ⟨.inl .mov, [.t 15], some 167, none, []⟩, ⟨.inl (.bin .sub), [.t 166, .t 167], some 168, none, []⟩, ⟨.inl .mov, [.t 6], some 169, none, []⟩, ⟨.inl (.ld false 1), [.t 10], some 170, none, []⟩, ⟨.inl (.idxA 1), [.t 169, .t 170], some 171, none, []⟩, ⟨.inl (.ld false 1), [.t 171], some 172, none, []⟩, ⟨.inl .mov, [.t 16], some 173, none, []⟩, ⟨.inl (.idxA 1), [.t 172, .t 173], some 174, none, []⟩, ⟨.inl (.ld false 1), [.t 174], some 175, none, []⟩, ⟨.inl (.bin .mul), [.t 168, .t 175], some 176, none, []⟩, ⟨.inl (.bin .add), [.t 165, .t 176], some 177, none, []⟩, ⟨.inl .mov, [.t 1], some 178, none, []⟩, ⟨.inl (.bin .rem), [.t 177, .t 178], some 179, none, []⟩, ⟨.inl (.idxA 1), [.t 157, .t 158], some 180, none, []⟩, ⟨.inr (.st 1), [.t 180, .t 179], none, none, []⟩] (some ([0, 1, 2, 3, 4, 5, 6, 7, 8, 9, 10, 11, 12, 13, 14, 15, 16, 17, 18, 19, 20, 21, 22, 23, 24, 25, 26, 27], [], [0, 0, 3, 7, 0, 0, 0, 96, 224, 0, 992, 2016, 0, 0, 12288, 0, 0, 98304, 229376, 0, 1015808, 2064384, 4190208, 8388576, 0, 33554400, 67108863, 134217727]))))

def sp61_14 : AC := (.seq (.reg [⟨.inl .mov, [.t 16], some 149, none, []⟩, ⟨.inl .mov, [.t 5], some 150, none, []⟩, ⟨.inl (.bin .lss), [.t 149, .t 150], some 151, none, []⟩] none)
 (.cond (.t 151) .skip (.exit 8)))

def lb61_15 : AC := (.pre [1, 5, 6, 9, 10, 12, 14, 15, 16, 71, 72] (.seq sp61_14
 (.seq sp61_13
 sq61_12)))

def sq61_16 : AC := (.seq (.reg [⟨.inl (.ld false 1), [.t 10], some 148, none, []⟩, ⟨.inl .mov, [.t 148], some 16, none, []⟩] none)
 (.block 8 (.loop lb61_15)))

def sq61_17 : AC := (.pre [1, 5, 6, 9, 10, 12, 14, 71, 72] (.reg [⟨.inl .mov, [.t 14], some 135, none, []⟩, ⟨.inl (.bin .add), [.t 135, .c (.int .i64 (1))], some 136, none, []⟩, ⟨.inl .mov, [.t 136], some 14, none, []⟩] none))

def sp61_18 : AC := (.block 7 (.seq (.reg [⟨.inl .mov, [.t 6], some 137, none, []⟩, ⟨.inl .mov, [.t 14], some 138, none, []⟩, ⟨.inl (.idxA 1), [.t 137, .t 138], some 139, none, []⟩, ⟨.inl (.ld false 1), [.t 139], some 140, none, []⟩, ⟨.inl (.ld false 1), [.t 10], some 141, none, []⟩, ⟨.inl (.idxA 1), [.t 140, .t 141], some 142, none, []⟩, ⟨.inl (.ld false 1), [.t 142], some 143, none, []⟩, ⟨.inl .mov, [.t 12], some 144, none, []⟩, ⟨.inl (.bin .mul), [.t 143, .t 144], some 145, none, []⟩, ⟨.inl .mov, [.t 1], some 146, none, []⟩, ⟨.inl (.bin .rem), [.t 145, .t 146], some 147, none, []⟩, ⟨.inl .mov, [.t 147], some 15, none, []⟩] (some ([0, 1, 2, 3, 4, 5, 6, 7, 8, 9, 10, 11], [], [0, 0, 3, 7, 0, 31, 63, 0, 255, 0, 1023, 2047])))
 sq61_16))

def sp61_19 : AC := (.seq (.reg [⟨.inl .mov, [.t 14], some 132, none, []⟩, ⟨.inl .mov, [.t 5], some 133, none, []⟩, ⟨.inl (.bin .lss), [.t 132, .t 133], some 134, none, []⟩] none)
 (.cond (.t 134) .skip (.exit 6)))

def lb61_20 : AC := (.pre [1, 5, 6, 9, 10, 12, 14, 71, 72] (.seq sp61_19
 (.seq sp61_18
 sq61_17)))

def sq61_21 : AC := (.seq (.reg [⟨.inl (.ld false 1), [.t 10], some 130, none, []⟩, ⟨.inl (.bin .add), [.t 130, .c (.int .i64 (1))], some 131, none, []⟩, ⟨.inl .mov, [.t 131], some 14, none, []⟩] none)
 (.block 6 (.loop lb61_20)))

def sq61_22 : AC := (.seq (.reg [⟨.inl .mov, [.t 6], some 119, none, []⟩, ⟨.inl (.ld false 1), [.t 10], some 120, none, []⟩, ⟨.inl (.idxA 1), [.t 119, .t 120], some 121, none, []⟩, ⟨.inl (.ld false 1), [.t 121], some 122, none, []⟩, ⟨.inl (.ld false 1), [.t 10], some 123, none, []⟩, ⟨.inl (.idxA 1), [.t 122, .t 123], some 124, none, []⟩, ⟨.inl (.ld false 1), [.t 124], some 125, none, []⟩, ⟨.inl .mov, [.t 1], some 126, none, []⟩, ⟨.inr (.call true true 87), [.t 125, .t 126], some 127, none, []⟩, ⟨.inl .mov, [.t 127], some 118, none, []⟩, ⟨.inl (.ext 0), [.t 118], some 128, none, []⟩, ⟨.inl (.ext 1), [.t 118], some 129, none, []⟩, ⟨.inl .mov, [.t 128], some 12, none, []⟩, ⟨.inl .mov, [.t 129], some 13, none, []⟩] (some ([0, 1, 2, 3, 4, 5, 6, 7, 8, 9, 10, 11, 12, 13], [], [0, 0, 3, 7, 0, 31, 63, 0, 255, 511, 1023, 1023, 2047, 8191])))
 sq61_21)

def sq61_23 : AC := (.seq (.reg [⟨.inl .mov, [.t 9], some 107, none, []⟩, ⟨.inl .mov, [.t 6], some 108, none, []⟩, ⟨.inl (.ld false 1), [.t 10], some 109, none, []⟩, ⟨.inl (.idxA 1), [.t 108, .t 109], some 110, none, []⟩, ⟨.inl (.ld false 1), [.t 110], some 111, none, []⟩, ⟨.inl (.ld false 1), [.t 10], some 112, none, []⟩, ⟨.inl (.idxA 1), [.t 111, .t 112], some 113, none, []⟩, ⟨.inl (.ld false 1), [.t 113], some 114, none, []⟩, ⟨.inl (.bin .mul), [.t 107, .t 114], some 115, none, []⟩, ⟨.inl .mov, [.t 1], some 116, none, []⟩, ⟨.inl (.bin .rem), [.t 115, .t 116], some 117, none, []⟩, ⟨.inl .mov, [.t 117], some 9, none, []⟩] (some ([0, 1, 2, 3, 4, 5, 6, 7, 8, 9, 10, 11], [], [0, 0, 0, 6, 14, 0, 62, 126, 255, 0, 1023, 2047])))
 sq61_22)

def sp61_24 : AC := (.seq (.reg [⟨.inl .mov, [.t 11], some 82, none, []⟩, ⟨.inl (.bin .gtr), [.t 82, .c (.int .i64 (0))], some 83, none, []⟩] none)
 (.cond (.t 83) st61_11 .skip))

def sp61_25 : AC := (.seq (.reg [⟨.inl .mov, [.t 11], some 80, none, []⟩, ⟨.inl (.bin .lss), [.t 80, .c (.int .i64 (0))], some 81, none, []⟩] none)
 (.cond (.t 81) (.seq (.reg [⟨.inl .mov, [.c (.int .i64 (0))], some 4, none, []⟩] none)
 .ret) .skip))

def sq61_26 : AC := (.seq (.reg [⟨.inl .mov, [.t 6], some 75, none, []⟩, ⟨.inl (.ld false 1), [.t 10], some 76, none, []⟩, ⟨.inl (.slc 1 true false), [.t 75, .t 76], some 77, none, []⟩, ⟨.inl (.mkfn 86), [.t 10], some 78, none, []⟩, ⟨.inr (.call true true 85), [.t 77, .t 78], some 79, none, []⟩, ⟨.inl .mov, [.t 79], some 11, none, []⟩] none)
 (.seq sp61_25
 (.seq sp61_24
 sq61_23)))

def sq61_27 : AC := (.pre [1, 5, 6, 9, 71, 72] (.reg [⟨.inl (.bin .add), [.t 72, .c (.int .i64 (1))], some 181, none, []⟩, ⟨.inl .mov, [.t 181], some 72, none, []⟩] none))

def sp61_28 : AC := (.block 5 (.seq (.reg [⟨.inl .mov, [.t 72], some 74, none, []⟩, ⟨.inr (.alloc true [.int .i64 0]), [], some 10, none, []⟩, ⟨.inr (.st 1), [.t 10, .t 74], none, none, []⟩] none)
 sq61_26))

def lb61_29 : AC := (.pre [1, 5, 6, 9, 71, 72] (.seq (.reg [⟨.inl (.bin .lss), [.t 72, .t 71], some 73, none, []⟩] none)
 (.seq (.cond (.t 73) .skip (.exit 4))
 (.seq sp61_28
 sq61_27))))

def sp61_30 : AC := (.seq (.reg [⟨.inl .mov, [.t 5], some 71, none, []⟩, ⟨.inl .mov, [.c (.int .i64 (0))], some 72, none, []⟩] none)
 (.block 4 (.loop lb61_29)))

def sq61_31 : AC := (.seq sp61_30
 (.pre [9] (.seq (.reg [⟨.inl .mov, [.t 9], some 182, none, []⟩, ⟨.inl .mov, [.t 182], some 4, none, []⟩] none)
 .ret)))

def sp61_32 : AC := (.seq (.reg [⟨.inl .mov, [.t 6], some 22, none, []⟩, ⟨.inl .len, [.t 22], some 23, none, []⟩, ⟨.inl .mov, [.c (.int .i64 (0))], some 24, none, []⟩] none)
 (.block 0 (.loop lb61_9)))

def sq61_33 : AC := (.seq (.reg [⟨.inl .mov, [.t 5], some 20, none, []⟩, ⟨.inr (.mkB 1 24 [.nilS]), [.t 20, .t 20], some 21, none, []⟩, ⟨.inl .mov, [.t 21], some 6, none, []⟩] none)
 (.seq sp61_32
 (.pre [1, 5, 6] (.seq (.reg [⟨.inl .mov, [.c (.int .i64 (1))], some 9, none, []⟩] none)
 sq61_31))))

def sq61_34 : AC := (.seq (.reg [⟨.inl .mov, [.t 0], some 17, none, []⟩, ⟨.inl .len, [.t 17], some 18, none, []⟩, ⟨.inl (.bin .sub), [.t 18, .c (.int .i64 (1))], some 19, none, []⟩, ⟨.inl .mov, [.t 19], some 5, none, []⟩] none)
 sq61_33)

/-- (olivette/chips.board).treesModulo -/
def af61 : AFunc := ⟨2,
 (.seq (.reg [⟨.inl .mov, [.c (.int .i64 (0))], some 4, none, []⟩] none)
 sq61_34),
 [.t 4]⟩

def st62_0 : AC := (.seq (.reg [⟨.inl .mov, [.c (.int .i64 (0))], some 4, none, []⟩, ⟨.inl .mov, [.c (.int .i64 (0))], some 5, none, []⟩, ⟨.inl .mov, [.c (.int .i64 (2))], some 6, none, []⟩] none)
 .ret)

def st62_1 : AC := (.seq (.reg [⟨.inl .mov, [.c (.int .i64 (0))], some 4, none, []⟩, ⟨.inl .mov, [.c (.int .i64 (0))], some 5, none, []⟩, ⟨.inl .mov, [.c (.int .i64 (2))], some 6, none, []⟩] none)
 .ret)

def st62_2 : AC := (.seq (.reg [⟨.inl .mov, [.c (.int .i64 (0))], some 4, none, []⟩, ⟨.inl .mov, [.c (.int .i64 (0))], some 5, none, []⟩, ⟨.inl .mov, [.c (.int .i64 (2))], some 6, none, []⟩] none)
 .ret)

def sq62_3 : AC := (.reg [⟨.inl .mov, [.t 13], some 75, none, []⟩, ⟨.inl (.conv .i64), [.t 75], some 76, none, []⟩, ⟨.inl .mov, [.t 76], some 7, none, []⟩] none)

def sp62_4 : AC := (.seq (.reg [⟨.inl .mov, [.t 12], some 69, none, []⟩, ⟨.inl (.bin .gtr), [.t 69, .c (.int .u64 (0))], some 70, none, []⟩, ⟨.inl .mov, [.t 70], some 71, none, []⟩, ⟨.inl .mov, [.t 13], some 72, some (71, false), []⟩, ⟨.inl (.bin .gtr), [.t 72, .c (.int .u64 (4611686018427387904))], some 73, some (71, false), []⟩, ⟨.inl .pick, [.t 71, .c (.bool true), .t 73], some 74, none, []⟩] none)
 (.cond (.t 74) st62_2 .skip))
end Go.AM.Ch
