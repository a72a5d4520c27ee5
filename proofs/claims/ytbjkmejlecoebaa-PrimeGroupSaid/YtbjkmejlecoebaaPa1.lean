/- The functions as the abstract machine has them. -/
import Derived.Test.YtbjkmejlecoebaaM3
/- Printed by wip/tools/gen.py: the functions as the abstract machine has them. -/
namespace Go.AM.Pr
def st3_0 : AC := (.seq (.reg [⟨.inl .mov, [.t 3], some 15, none, []⟩, ⟨.inl .len, [.t 15], some 16, none, []⟩, ⟨.inl (.bin .eql), [.t 16, .c (.int .i64 (0))], some 17, none, []⟩, ⟨.inl .mov, [.t 17], some 18, none, []⟩, ⟨.inl .mov, [.t 4], some 19, some (18, true), []⟩, ⟨.inl (.bin .eql), [.t 19, .c (.int .i64 (2))], some 20, some (18, true), []⟩, ⟨.inl .pick, [.t 18, .t 20, .c (.bool false)], some 21, none, []⟩, ⟨.inl .mov, [.t 21], some 22, none, []⟩, ⟨.inr (.call true true 18), [], some 23, some (22, true), []⟩, ⟨.inl .pick, [.t 22, .t 23, .c (.bool false)], some 24, none, []⟩, ⟨.inl .mov, [.t 24], some 2, none, []⟩] none)
 .ret)

def sq3_1 : AC := (.reg [⟨.inl .mov, [.t 6], some 40, none, []⟩, ⟨.inl (.bin .add), [.t 40, .c (.int .i64 (1))], some 41, none, []⟩, ⟨.inl .mov, [.t 41], some 6, none, []⟩] none)

def sp3_2 : AC := (.block 1 (.seq (.reg [⟨.inl .mov, [.t 3], some 42, none, []⟩, ⟨.inl .mov, [.t 6], some 43, none, []⟩, ⟨.inl (.idxA 2), [.t 42, .t 43], some 44, none, []⟩, ⟨.inl (.ld true 2), [.t 44], some 45, none, []⟩, ⟨.inl .mov, [.t 5], some 46, none, []⟩, ⟨.inl .mov, [.t 6], some 47, none, []⟩, ⟨.inl (.idxA 2), [.t 46, .t 47], some 48, none, []⟩, ⟨.inl (.ld true 2), [.t 48], some 49, none, []⟩, ⟨.inl (.eqagg true [some .i64, some .i64]), [.t 45, .t 49], some 50, none, []⟩] (some ([0, 1, 2, 3, 4, 5, 6, 7, 8], [], [0, 0, 3, 7, 0, 0, 48, 112, 255])))
 (.cond (.t 50) (.seq (.reg [⟨.inl .mov, [.c (.bool false)], some 2, none, []⟩] none)
 .ret) .skip)))

def sp3_3 : AC := (.seq (.reg [⟨.inl .mov, [.t 6], some 36, none, []⟩, ⟨.inl .mov, [.t 3], some 37, none, []⟩, ⟨.inl .len, [.t 37], some 38, none, []⟩, ⟨.inl (.bin .lss), [.t 36, .t 38], some 39, none, []⟩] none)
 (.cond (.t 39) .skip (.exit 0)))

def lb3_4 : AC := (.pre [3, 5, 6] (.seq sp3_3
 (.seq sp3_2
 sq3_1)))

def sq3_5 : AC := (.pre [] (.seq (.reg [⟨.inr (.call true true 18), [], some 51, none, []⟩, ⟨.inl .mov, [.t 51], some 2, none, []⟩] none)
 .ret))

def sp3_6 : AC := (.seq (.reg [⟨.inl .mov, [.t 4], some 27, none, []⟩, ⟨.inl (.bin .neq), [.t 27, .c (.int .i64 (0))], some 28, none, []⟩, ⟨.inl .mov, [.t 28], some 29, none, []⟩, ⟨.inl .mov, [.t 3], some 30, some (29, false), []⟩, ⟨.inl .len, [.t 30], some 31, some (29, false), []⟩, ⟨.inl .mov, [.t 5], some 32, some (29, false), []⟩, ⟨.inl .len, [.t 32], some 33, some (29, false), []⟩, ⟨.inl (.bin .neq), [.t 31, .t 33], some 34, some (29, false), []⟩, ⟨.inl .pick, [.t 29, .c (.bool true), .t 34], some 35, none, []⟩] none)
 (.cond (.t 35) (.seq (.reg [⟨.inl .mov, [.c (.bool false)], some 2, none, []⟩] none)
 .ret) .skip))

def sq3_7 : AC := (.seq sp3_6
 (.seq (.seq (.reg [⟨.inl .mov, [.c (.int .i64 (0))], some 6, none, []⟩] none)
 (.block 0 (.loop lb3_4)))
 sq3_5))

def sq3_8 : AC := (.seq (.reg [⟨.inl .mov, [.t 0], some 25, none, []⟩, ⟨.inr (.call true true 19), [.t 25], some 26, none, []⟩, ⟨.inl .mov, [.t 26], some 5, none, []⟩] none)
 sq3_7)

def sp3_9 : AC := (.seq (.reg [⟨.inl .mov, [.t 0], some 12, none, []⟩, ⟨.inr (.call true true 17), [.t 12], some 13, none, []⟩, ⟨.inl (.un .not), [.t 13], some 14, none, []⟩] none)
 (.cond (.t 14) st3_0 .skip))

def sq3_10 : AC := (.seq (.reg [⟨.inl .mov, [.t 0], some 8, none, []⟩, ⟨.inr (.call true true 16), [.t 8], some 9, none, []⟩, ⟨.inl .mov, [.t 9], some 7, none, []⟩, ⟨.inl (.ext 0), [.t 7], some 10, none, []⟩, ⟨.inl (.ext 1), [.t 7], some 11, none, []⟩, ⟨.inl .mov, [.t 10], some 3, none, []⟩, ⟨.inl .mov, [.t 11], some 4, none, []⟩] none)
 (.seq sp3_9
 sq3_8))

/-- olivette/olivettelaw01.PrimeFactors -/
def af3 : AFunc := ⟨1,
 (.seq (.reg [⟨.inl .mov, [.c (.bool false)], some 2, none, []⟩] none)
 sq3_10),
 [.t 2]⟩

def st4_0 : AC := (.seq (.reg [⟨.inl .mov, [.t 5], some 25, none, []⟩, ⟨.inl (.bin .eql), [.t 25, .c (.int .i64 (0))], some 26, none, []⟩, ⟨.inl .mov, [.t 26], some 27, none, []⟩, ⟨.inl .mov, [.t 6], some 28, some (27, true), []⟩, ⟨.inl (.bin .eql), [.t 28, .c (.int .i64 (2))], some 29, some (27, true), []⟩, ⟨.inl .pick, [.t 27, .t 29, .c (.bool false)], some 30, none, []⟩, ⟨.inl .mov, [.t 30], some 31, none, []⟩, ⟨.inr (.call true true 18), [], some 32, some (31, true), []⟩, ⟨.inl .pick, [.t 31, .t 32, .c (.bool false)], some 33, none, []⟩, ⟨.inl .mov, [.t 33], some 4, none, []⟩] none)
 .ret)

def st4_1 : AC := (.seq (.reg [⟨.inl .mov, [.t 5], some 49, none, []⟩, ⟨.inl (.bin .eql), [.t 49, .c (.int .i64 (0))], some 50, none, []⟩, ⟨.inl .mov, [.t 50], some 51, none, []⟩, ⟨.inl .mov, [.t 6], some 52, some (51, true), []⟩, ⟨.inl (.bin .eql), [.t 52, .c (.int .i64 (6))], some 53, some (51, true), []⟩, ⟨.inl .pick, [.t 51, .t 53, .c (.bool false)], some 54, none, []⟩, ⟨.inl .mov, [.t 54], some 55, none, []⟩, ⟨.inr (.call true true 18), [], some 56, some (55, true), []⟩, ⟨.inl .pick, [.t 55, .t 56, .c (.bool false)], some 57, none, []⟩, ⟨.inl .mov, [.t 57], some 4, none, []⟩] none)
 .ret)

def sq4_2 : AC := (.seq (.reg [⟨.inl .mov, [.t 6], some 58, none, []⟩, ⟨.inl (.bin .eql), [.t 58, .c (.int .i64 (0))], some 59, none, []⟩, ⟨.inl .mov, [.t 59], some 60, none, []⟩, ⟨.inl .mov, [.t 5], some 61, some (60, true), []⟩, ⟨.inl (.bin .geq), [.t 61, .c (.int .i64 (0))], some 62, some (60, true), []⟩, ⟨.inl .pick, [.t 60, .t 62, .c (.bool false)], some 63, none, []⟩, ⟨.inl .mov, [.t 63], some 64, none, []⟩, ⟨.inl .mov, [.t 5], some 65, some (64, true), []⟩, ⟨.inl .mov, [.t 1], some 66, some (64, true), []⟩, ⟨.inl (.bin .lss), [.t 65, .t 66], some 67, some (64, true), []⟩, ⟨.inl .pick, [.t 64, .t 67, .c (.bool false)], some 68, none, []⟩, ⟨.inl .mov, [.t 68], some 69, none, []⟩, ⟨.inl .mov, [.t 5], some 70, some (69, true), []⟩, ⟨.inl .mov, [.t 5], some 71, some (69, true), []⟩, ⟨.inl (.bin .mul), [.t 70, .t 71], some 72, some (69, true), []⟩, ⟨.inl .mov, [.t 1], some 73, some (69, true), []⟩, ⟨.inl (.bin .rem), [.t 72, .t 73], some 74, some (69, true), []⟩, ⟨.inl .mov, [.t 0], some 75, some (69, true), []⟩, ⟨.inl (.bin .eql), [.t 74, .t 75], some 76, some (69, true), []⟩, ⟨.inl .pick, [.t 69, .t 76, .c (.bool false)], some 77, none, []⟩, ⟨.inl .mov, [.t 77], some 78, none, []⟩, ⟨.inl .mov, [.t 5], some 79, some (78, true), []⟩, ⟨.inl (.bin .eql), [.t 79, .c (.int .i64 (0))], some 80, some (78, true), []⟩, ⟨.inl .mov, [.t 80], some 81, some (78, true), []⟩, ⟨.inl .mov, [.t 5], some 82, some (81, false), []⟩, ⟨.inl .mov, [.t 1], some 83, some (81, false), []⟩, ⟨.inl .mov, [.t 5], some 84, some (81, false), []⟩, ⟨.inl (.bin .sub), [.t 83, .t 84], some 85, some (81, false), []⟩, ⟨.inl (.bin .leq), [.t 82, .t 85], some 86, some (81, false), []⟩, ⟨.inl .pick, [.t 81, .c (.bool true), .t 86], some 87, some (78, true), []⟩, ⟨.inl .pick, [.t 78, .t 87, .c (.bool false)], some 88, none, []⟩, ⟨.inl .mov, [.t 88], some 89, none, []⟩, ⟨.inr (.call true true 18), [], some 90, some (89, true), []⟩, ⟨.inl .pick, [.t 89, .t 90, .c (.bool false)], some 91, none, []⟩, ⟨.inl .mov, [.t 91], some 4, none, []⟩] none)
 .ret)

def sp4_3 : AC := (.seq (.reg [⟨.inl .mov, [.t 1], some 34, none, []⟩, ⟨.inl (.bin .gtr), [.t 34, .c (.int .i64 (2))], some 35, none, []⟩, ⟨.inl .mov, [.t 35], some 36, none, []⟩, ⟨.inl .mov, [.t 0], some 37, some (36, true), []⟩, ⟨.inl (.bin .gtr), [.t 37, .c (.int .i64 (0))], some 38, some (36, true), []⟩, ⟨.inl .pick, [.t 36, .t 38, .c (.bool false)], some 39, none, []⟩, ⟨.inl .mov, [.t 39], some 40, none, []⟩, ⟨.inl .mov, [.t 0], some 41, some (40, true), []⟩, ⟨.inl .mov, [.t 1], some 42, some (40, true), []⟩, ⟨.inl (.bin .sub), [.t 42, .c (.int .i64 (1))], some 43, some (40, true), []⟩, ⟨.inl (.bin .quo), [.t 43, .c (.int .i64 (2))], some 44, some (40, true), []⟩, ⟨.inl .mov, [.t 1], some 45, some (40, true), []⟩, ⟨.inr (.call true true 22), [.t 41, .t 44, .t 45], some 46, some (40, true), []⟩, ⟨.inl (.bin .neq), [.t 46, .c (.int .i64 (1))], some 47, some (40, true), []⟩, ⟨.inl .pick, [.t 40, .t 47, .c (.bool false)], some 48, none, []⟩] none)
 (.cond (.t 48) st4_1 .skip))

def sp4_4 : AC := (.seq (.reg [⟨.inl .mov, [.t 1], some 13, none, []⟩, ⟨.inr (.call true true 21), [.t 13], some 14, none, []⟩, ⟨.inl (.un .not), [.t 14], some 15, none, []⟩, ⟨.inl .mov, [.t 15], some 16, none, []⟩, ⟨.inl .mov, [.t 0], some 17, some (16, false), []⟩, ⟨.inl (.bin .lss), [.t 17, .c (.int .i64 (0))], some 18, some (16, false), []⟩, ⟨.inl .pick, [.t 16, .c (.bool true), .t 18], some 19, none, []⟩, ⟨.inl .mov, [.t 19], some 20, none, []⟩, ⟨.inl .mov, [.t 0], some 21, some (20, false), []⟩, ⟨.inl .mov, [.t 1], some 22, some (20, false), []⟩, ⟨.inl (.bin .geq), [.t 21, .t 22], some 23, some (20, false), []⟩, ⟨.inl .pick, [.t 20, .c (.bool true), .t 23], some 24, none, []⟩] none)
 (.cond (.t 24) st4_0 .skip))

def sq4_5 : AC := (.seq (.reg [⟨.inl .mov, [.t 0], some 8, none, []⟩, ⟨.inl .mov, [.t 1], some 9, none, []⟩, ⟨.inr (.call true true 20), [.t 8, .t 9], some 10, none, []⟩, ⟨.inl .mov, [.t 10], some 7, none, []⟩, ⟨.inl (.ext 0), [.t 7], some 11, none, []⟩, ⟨.inl (.ext 1), [.t 7], some 12, none, []⟩, ⟨.inl .mov, [.t 11], some 5, none, []⟩, ⟨.inl .mov, [.t 12], some 6, none, []⟩] none)
 (.seq sp4_4
 (.seq sp4_3
 sq4_2)))

/-- olivette/olivettelaw01.PrimeRoots -/
def af4 : AFunc := ⟨2,
 (.seq (.reg [⟨.inl .mov, [.c (.bool false)], some 4, none, []⟩] none)
 sq4_5),
 [.t 4]⟩

def st5_0 : AC := (.seq (.reg [⟨.inl .mov, [.t 7], some 38, none, []⟩, ⟨.inl (.bin .eql), [.t 38, .c (.int .i64 (0))], some 39, none, []⟩, ⟨.inl .mov, [.t 39], some 40, none, []⟩, ⟨.inl .mov, [.t 8], some 41, some (40, true), []⟩, ⟨.inl (.bin .eql), [.t 41, .c (.int .i64 (2))], some 42, some (40, true), []⟩, ⟨.inl .pick, [.t 40, .t 42, .c (.bool false)], some 43, none, []⟩, ⟨.inl .mov, [.t 43], some 44, none, []⟩, ⟨.inr (.call true true 18), [], some 45, some (44, true), []⟩, ⟨.inl .pick, [.t 44, .t 45, .c (.bool false)], some 46, none, []⟩, ⟨.inl .mov, [.t 46], some 6, none, []⟩] none)
 .ret)

def st5_1 : AC := (.seq (.reg [⟨.inl .mov, [.t 7], some 57, none, []⟩, ⟨.inl (.bin .eql), [.t 57, .c (.int .i64 (0))], some 58, none, []⟩, ⟨.inl .mov, [.t 58], some 59, none, []⟩, ⟨.inl .mov, [.t 8], some 60, some (59, true), []⟩, ⟨.inl (.bin .eql), [.t 60, .c (.int .i64 (6))], some 61, some (59, true), []⟩, ⟨.inl .pick, [.t 59, .t 61, .c (.bool false)], some 62, none, []⟩, ⟨.inl .mov, [.t 62], some 63, none, []⟩, ⟨.inr (.call true true 18), [], some 64, some (63, true), []⟩, ⟨.inl .pick, [.t 63, .t 64, .c (.bool false)], some 65, none, []⟩, ⟨.inl .mov, [.t 65], some 6, none, []⟩] none)
 .ret)

def sq5_2 : AC := (.seq (.reg [⟨.inl .mov, [.t 8], some 66, none, []⟩, ⟨.inl (.bin .eql), [.t 66, .c (.int .i64 (0))], some 67, none, []⟩, ⟨.inl .mov, [.t 67], some 68, none, []⟩, ⟨.inl .mov, [.t 7], some 69, some (68, true), []⟩, ⟨.inl (.bin .geq), [.t 69, .c (.int .i64 (0))], some 70, some (68, true), []⟩, ⟨.inl .pick, [.t 68, .t 70, .c (.bool false)], some 71, none, []⟩, ⟨.inl .mov, [.t 71], some 72, none, []⟩, ⟨.inl .mov, [.t 7], some 73, some (72, true), []⟩, ⟨.inl .mov, [.t 9], some 74, some (72, true), []⟩, ⟨.inl (.bin .lss), [.t 73, .t 74], some 75, some (72, true), []⟩, ⟨.inl .pick, [.t 72, .t 75, .c (.bool false)], some 76, none, []⟩, ⟨.inl .mov, [.t 76], some 77, none, []⟩, ⟨.inl .mov, [.t 0], some 78, some (77, true), []⟩, ⟨.inl .mov, [.t 7], some 79, some (77, true), []⟩, ⟨.inl .mov, [.t 2], some 80, some (77, true), []⟩, ⟨.inr (.call true true 22), [.t 78, .t 79, .t 80], some 81, some (77, true), []⟩, ⟨.inl .mov, [.t 1], some 82, some (77, true), []⟩, ⟨.inl (.bin .eql), [.t 81, .t 82], some 83, some (77, true), []⟩, ⟨.inl .pick, [.t 77, .t 83, .c (.bool false)], some 84, none, []⟩, ⟨.inl .mov, [.t 84], some 85, none, []⟩, ⟨.inr (.call true true 18), [], some 86, some (85, true), []⟩, ⟨.inl .pick, [.t 85, .t 86, .c (.bool false)], some 87, none, []⟩, ⟨.inl .mov, [.t 87], some 6, none, []⟩] none)
 .ret)

def sp5_3 : AC := (.seq (.reg [⟨.inl .mov, [.t 1], some 50, none, []⟩, ⟨.inl .mov, [.t 9], some 51, none, []⟩, ⟨.inl .mov, [.t 2], some 52, none, []⟩, ⟨.inr (.call true true 22), [.t 50, .t 51, .t 52], some 53, none, []⟩, ⟨.inl .mov, [.t 2], some 54, none, []⟩, ⟨.inl (.bin .rem), [.c (.int .i64 (1)), .t 54], some 55, none, []⟩, ⟨.inl (.bin .neq), [.t 53, .t 55], some 56, none, []⟩] (some ([0, 1, 2, 3, 4, 5, 6], [], [0, 0, 0, 7, 0, 16, 63])))
 (.cond (.t 56) st5_1 .skip))

def sq5_4 : AC := (.seq (.reg [⟨.inl .mov, [.t 0], some 47, none, []⟩, ⟨.inl .mov, [.t 2], some 48, none, []⟩, ⟨.inr (.call true true 24), [.t 47, .t 48], some 49, none, []⟩, ⟨.inl .mov, [.t 49], some 9, none, []⟩] none)
 (.seq sp5_3
 sq5_2))

def sp5_5 : AC := (.seq (.reg [⟨.inl .mov, [.t 2], some 17, none, []⟩, ⟨.inr (.call true true 21), [.t 17], some 18, none, []⟩, ⟨.inl (.un .not), [.t 18], some 19, none, []⟩, ⟨.inl .mov, [.t 19], some 20, none, []⟩, ⟨.inl .mov, [.t 0], some 21, some (20, false), []⟩, ⟨.inl (.bin .lss), [.t 21, .c (.int .i64 (1))], some 22, some (20, false), []⟩, ⟨.inl .pick, [.t 20, .c (.bool true), .t 22], some 23, none, []⟩, ⟨.inl .mov, [.t 23], some 24, none, []⟩, ⟨.inl .mov, [.t 0], some 25, some (24, false), []⟩, ⟨.inl .mov, [.t 2], some 26, some (24, false), []⟩, ⟨.inl (.bin .geq), [.t 25, .t 26], some 27, some (24, false), []⟩, ⟨.inl .pick, [.t 24, .c (.bool true), .t 27], some 28, none, []⟩, ⟨.inl .mov, [.t 28], some 29, none, []⟩, ⟨.inl .mov, [.t 1], some 30, some (29, false), []⟩, ⟨.inl (.bin .lss), [.t 30, .c (.int .i64 (1))], some 31, some (29, false), []⟩, ⟨.inl .pick, [.t 29, .c (.bool true), .t 31], some 32, none, []⟩, ⟨.inl .mov, [.t 32], some 33, none, []⟩, ⟨.inl .mov, [.t 1], some 34, some (33, false), []⟩, ⟨.inl .mov, [.t 2], some 35, some (33, false), []⟩, ⟨.inl (.bin .geq), [.t 34, .t 35], some 36, some (33, false), []⟩, ⟨.inl .pick, [.t 33, .c (.bool true), .t 36], some 37, none, []⟩] none)
 (.cond (.t 37) st5_0 .skip))

def sq5_6 : AC := (.seq (.reg [⟨.inl .mov, [.t 0], some 11, none, []⟩, ⟨.inl .mov, [.t 1], some 12, none, []⟩, ⟨.inl .mov, [.t 2], some 13, none, []⟩, ⟨.inr (.call true true 23), [.t 11, .t 12, .t 13], some 14, none, []⟩, ⟨.inl .mov, [.t 14], some 10, none, []⟩, ⟨.inl (.ext 0), [.t 10], some 15, none, []⟩, ⟨.inl (.ext 1), [.t 10], some 16, none, []⟩, ⟨.inl .mov, [.t 15], some 7, none, []⟩, ⟨.inl .mov, [.t 16], some 8, none, []⟩] none)
 (.seq sp5_5
 sq5_4))

/-- olivette/olivettelaw01.PrimeLogs -/
def af5 : AFunc := ⟨3,
 (.seq (.reg [⟨.inl .mov, [.c (.bool false)], some 6, none, []⟩] none)
 sq5_6),
 [.t 6]⟩

def st10_0 : AC := (.seq (.reg [⟨.inl .mov, [.t 3], some 14, none, []⟩, ⟨.inl (.bin .eql), [.t 14, .c (.int .i64 (0))], some 15, none, []⟩, ⟨.inl .mov, [.t 15], some 16, none, []⟩, ⟨.inl .mov, [.t 4], some 17, some (16, true), []⟩, ⟨.inl (.bin .eql), [.t 17, .c (.int .i64 (2))], some 18, some (16, true), []⟩, ⟨.inl .pick, [.t 16, .t 18, .c (.bool false)], some 19, none, []⟩, ⟨.inl .mov, [.t 19], some 20, none, []⟩, ⟨.inr (.call true true 18), [], some 21, some (20, true), []⟩, ⟨.inl .pick, [.t 20, .t 21, .c (.bool false)], some 22, none, []⟩, ⟨.inl .mov, [.t 22], some 2, none, []⟩] none)
 .ret)

def sq10_1 : AC := (.reg [⟨.inl .mov, [.t 5], some 49, none, []⟩, ⟨.inl (.bin .add), [.t 49, .c (.int .i64 (1))], some 50, none, []⟩, ⟨.inl .mov, [.t 50], some 5, none, []⟩] none)

def sp10_2 : AC := (.block 1 (.seq (.reg [⟨.inl .mov, [.t 5], some 51, none, []⟩, ⟨.inl .mov, [.t 0], some 52, none, []⟩, ⟨.inr (.call true true 24), [.t 51, .t 52], some 53, none, []⟩, ⟨.inl .mov, [.t 0], some 54, none, []⟩, ⟨.inl (.bin .sub), [.t 54, .c (.int .i64 (1))], some 55, none, []⟩, ⟨.inl (.bin .eql), [.t 53, .t 55], some 56, none, []⟩] none)
 (.cond (.t 56) (.seq (.reg [⟨.inl .mov, [.c (.bool false)], some 2, none, []⟩] none)
 .ret) .skip)))

def sp10_3 : AC := (.seq (.reg [⟨.inl .mov, [.t 5], some 42, none, []⟩, ⟨.inl .mov, [.t 3], some 43, none, []⟩, ⟨.inl (.bin .lss), [.t 42, .t 43], some 44, none, []⟩, ⟨.inl .mov, [.t 44], some 45, none, []⟩, ⟨.inl .mov, [.t 5], some 46, some (45, true), []⟩, ⟨.inl (.bin .lss), [.t 46, .c (.int .i64 (300))], some 47, some (45, true), []⟩, ⟨.inl .pick, [.t 45, .t 47, .c (.bool false)], some 48, none, []⟩] none)
 (.cond (.t 48) .skip (.exit 0)))

def lb10_4 : AC := (.pre [0, 3, 5] (.seq sp10_3
 (.seq sp10_2
 sq10_1)))

def sq10_5 : AC := (.pre [] (.seq (.reg [⟨.inr (.call true true 18), [], some 57, none, []⟩, ⟨.inl .mov, [.t 57], some 2, none, []⟩] none)
 .ret))

def sp10_6 : AC := (.seq (.reg [⟨.inl .mov, [.t 4], some 23, none, []⟩, ⟨.inl (.bin .neq), [.t 23, .c (.int .i64 (0))], some 24, none, []⟩, ⟨.inl .mov, [.t 24], some 25, none, []⟩, ⟨.inl .mov, [.t 3], some 26, some (25, false), []⟩, ⟨.inl (.bin .lss), [.t 26, .c (.int .i64 (1))], some 27, some (25, false), []⟩, ⟨.inl .pick, [.t 25, .c (.bool true), .t 27], some 28, none, []⟩, ⟨.inl .mov, [.t 28], some 29, none, []⟩, ⟨.inl .mov, [.t 3], some 30, some (29, false), []⟩, ⟨.inl .mov, [.t 0], some 31, some (29, false), []⟩, ⟨.inl (.bin .geq), [.t 30, .t 31], some 32, some (29, false), []⟩, ⟨.inl .pick, [.t 29, .c (.bool true), .t 32], some 33, none, []⟩, ⟨.inl .mov, [.t 33], some 34, none, []⟩, ⟨.inl .mov, [.t 3], some 35, some (34, false), []⟩, ⟨.inl .mov, [.t 0], some 36, some (34, false), []⟩, ⟨.inr (.call true true 24), [.t 35, .t 36], some 37, some (34, false), []⟩, ⟨.inl .mov, [.t 0], some 38, some (34, false), []⟩, ⟨.inl (.bin .sub), [.t 38, .c (.int .i64 (1))], some 39, some (34, false), []⟩, ⟨.inl (.bin .neq), [.t 37, .t 39], some 40, some (34, false), []⟩, ⟨.inl .pick, [.t 34, .c (.bool true), .t 40], some 41, none, []⟩] none)
 (.cond (.t 41) (.seq (.reg [⟨.inl .mov, [.c (.bool false)], some 2, none, []⟩] none)
 .ret) .skip))

def sq10_7 : AC := (.seq sp10_6
 (.seq (.seq (.reg [⟨.inl .mov, [.c (.int .i64 (1))], some 5, none, []⟩] none)
 (.block 0 (.loop lb10_4)))
 sq10_5))

def sp10_8 : AC := (.seq (.reg [⟨.inl .mov, [.t 0], some 11, none, []⟩, ⟨.inr (.call true true 21), [.t 11], some 12, none, []⟩, ⟨.inl (.un .not), [.t 12], some 13, none, []⟩] none)
 (.cond (.t 13) st10_0 .skip))

def sq10_9 : AC := (.seq (.reg [⟨.inl .mov, [.t 0], some 7, none, []⟩, ⟨.inr (.call true true 32), [.t 7], some 8, none, []⟩, ⟨.inl .mov, [.t 8], some 6, none, []⟩, ⟨.inl (.ext 0), [.t 6], some 9, none, []⟩, ⟨.inl (.ext 1), [.t 6], some 10, none, []⟩, ⟨.inl .mov, [.t 9], some 3, none, []⟩, ⟨.inl .mov, [.t 10], some 4, none, []⟩] none)
 (.seq sp10_8
 sq10_7))

/-- olivette/olivettelaw01.PrimeGenerators -/
def af10 : AFunc := ⟨1,
 (.seq (.reg [⟨.inl .mov, [.c (.bool false)], some 2, none, []⟩] none)
 sq10_9),
 [.t 2]⟩

def sq12_0 : AC := (.block 1 (.reg [⟨.inl .mov, [.t 0], some 32, none, []⟩, ⟨.inl (.bin .add), [.t 32, .c (.int .i64 (1))], some 33, none, []⟩, ⟨.inl .mov, [.t 33], some 0, none, []⟩] none))

def sp12_1 : AC := (.seq (.reg [⟨.inl .mov, [.t 0], some 29, none, []⟩, ⟨.inr (.call true true 21), [.t 29], some 30, none, []⟩, ⟨.inl (.un .not), [.t 30], some 31, none, []⟩] none)
 (.cond (.t 31) .skip (.exit 0)))

def lb12_2 : AC := (.pre [0, 1, 2] (.seq sp12_1
 sq12_0))

def sq12_3 : AC := (.seq (.reg [⟨.inl .mov, [.t 26], some 197, none, []⟩, ⟨.inl (.bin .eql), [.t 197, .c (.int .i64 (0))], some 198, none, []⟩, ⟨.inl .mov, [.t 198], some 199, none, []⟩, ⟨.inl .mov, [.t 25], some 200, some (199, true), []⟩, ⟨.inl .mov, [.t 1], some 201, some (199, true), []⟩, ⟨.inl (.bin .eql), [.t 200, .t 201], some 202, some (199, true), []⟩, ⟨.inl .mov, [.t 202], some 203, some (199, true), []⟩, ⟨.inl .mov, [.t 25], some 204, some (203, false), []⟩, ⟨.inl .mov, [.t 0], some 205, some (203, false), []⟩, ⟨.inl .mov, [.t 1], some 206, some (203, false), []⟩, ⟨.inl (.bin .sub), [.t 205, .t 206], some 207, some (203, false), []⟩, ⟨.inl (.bin .eql), [.t 204, .t 207], some 208, some (203, false), []⟩, ⟨.inl .pick, [.t 203, .c (.bool true), .t 208], some 209, some (199, true), []⟩, ⟨.inl .pick, [.t 199, .t 209, .c (.bool false)], some 210, none, []⟩, ⟨.inl .mov, [.t 210], some 211, none, []⟩, ⟨.inl .mov, [.t 25], some 212, some (211, true), []⟩, ⟨.inl .mov, [.t 0], some 213, some (211, true), []⟩, ⟨.inl .mov, [.t 25], some 214, some (211, true), []⟩, ⟨.inl (.bin .sub), [.t 213, .t 214], some 215, some (211, true), []⟩, ⟨.inl (.bin .leq), [.t 212, .t 215], some 216, some (211, true), []⟩, ⟨.inl .pick, [.t 211, .t 216, .c (.bool false)], some 217, none, []⟩, ⟨.inl .mov, [.t 217], some 218, none, []⟩, ⟨.inr (.call true true 18), [], some 219, some (218, true), []⟩, ⟨.inl .pick, [.t 218, .t 219, .c (.bool false)], some 220, none, []⟩, ⟨.inl .mov, [.t 220], some 6, none, []⟩] none)
 .ret)

def sp12_4 : AC := (.seq (.reg [⟨.inl .mov, [.t 16], some 151, none, []⟩, ⟨.inl (.bin .neq), [.t 151, .c (.int .i64 (0))], some 152, none, []⟩, ⟨.inl .mov, [.t 152], some 153, none, []⟩, ⟨.inl .mov, [.t 18], some 154, some (153, false), []⟩, ⟨.inl (.bin .neq), [.t 154, .c (.int .i64 (0))], some 155, some (153, false), []⟩, ⟨.inl .pick, [.t 153, .c (.bool true), .t 155], some 156, none, []⟩, ⟨.inl .mov, [.t 156], some 157, none, []⟩, ⟨.inl .mov, [.t 20], some 158, some (157, false), []⟩, ⟨.inl (.bin .neq), [.t 158, .c (.int .i64 (0))], some 159, some (157, false), []⟩, ⟨.inl .pick, [.t 157, .c (.bool true), .t 159], some 160, none, []⟩, ⟨.inl .mov, [.t 160], some 161, none, []⟩, ⟨.inl .mov, [.t 15], some 162, some (161, false), []⟩, ⟨.inl .mov, [.t 17], some 163, some (161, false), []⟩, ⟨.inl (.bin .mul), [.t 162, .t 163], some 164, some (161, false), []⟩, ⟨.inl .mov, [.t 0], some 165, some (161, false), []⟩, ⟨.inl (.bin .rem), [.t 164, .t 165], some 166, some (161, false), []⟩, ⟨.inl .mov, [.t 19], some 167, some (161, false), []⟩, ⟨.inl (.bin .neq), [.t 166, .t 167], some 168, some (161, false), []⟩, ⟨.inl .pick, [.t 161, .c (.bool true), .t 168], some 169, none, []⟩, ⟨.inl .mov, [.t 169], some 170, none, []⟩, ⟨.inl .mov, [.t 22], some 171, some (170, false), []⟩, ⟨.inl (.bin .neq), [.t 171, .c (.int .i64 (0))], some 172, some (170, false), []⟩, ⟨.inl .pick, [.t 170, .c (.bool true), .t 172], some 173, none, []⟩, ⟨.inl .mov, [.t 173], some 174, none, []⟩, ⟨.inl .mov, [.t 21], some 175, some (174, false), []⟩, ⟨.inl (.bin .lss), [.t 175, .c (.int .i64 (1))], some 176, some (174, false), []⟩, ⟨.inl .pick, [.t 174, .c (.bool true), .t 176], some 177, none, []⟩, ⟨.inl .mov, [.t 177], some 178, none, []⟩, ⟨.inl .mov, [.t 0], some 179, some (178, false), []⟩, ⟨.inl (.bin .sub), [.t 179, .c (.int .i64 (1))], some 180, some (178, false), []⟩, ⟨.inl .mov, [.t 21], some 181, some (178, false), []⟩, ⟨.inl (.bin .rem), [.t 180, .t 181], some 182, some (178, false), []⟩, ⟨.inl (.bin .neq), [.t 182, .c (.int .i64 (0))], some 183, some (178, false), []⟩, ⟨.inl .pick, [.t 178, .c (.bool true), .t 183], some 184, none, []⟩, ⟨.inl .mov, [.t 184], some 185, none, []⟩, ⟨.inl .mov, [.t 24], some 186, some (185, false), []⟩, ⟨.inl (.bin .neq), [.t 186, .c (.int .i64 (0))], some 187, some (185, false), []⟩, ⟨.inl .pick, [.t 185, .c (.bool true), .t 187], some 188, none, []⟩, ⟨.inl .mov, [.t 188], some 189, none, []⟩, ⟨.inl .mov, [.t 23], some 190, some (189, false), []⟩, ⟨.inl .mov, [.t 1], some 191, some (189, false), []⟩, ⟨.inl (.bin .mul), [.t 190, .t 191], some 192, some (189, false), []⟩, ⟨.inl .mov, [.t 0], some 193, some (189, false), []⟩, ⟨.inl (.bin .rem), [.t 192, .t 193], some 194, some (189, false), []⟩, ⟨.inl (.bin .neq), [.t 194, .c (.int .i64 (1))], some 195, some (189, false), []⟩, ⟨.inl .pick, [.t 189, .c (.bool true), .t 195], some 196, none, []⟩] none)
 (.cond (.t 196) (.seq (.reg [⟨.inl .mov, [.c (.bool false)], some 6, none, []⟩] none)
 .ret) .skip))

def sq12_5 : AC := (.seq (.reg [⟨.inl .mov, [.t 1], some 142, none, []⟩, ⟨.inl .mov, [.t 1], some 143, none, []⟩, ⟨.inl (.bin .mul), [.t 142, .t 143], some 144, none, []⟩, ⟨.inl .mov, [.t 0], some 145, none, []⟩, ⟨.inl (.bin .rem), [.t 144, .t 145], some 146, none, []⟩, ⟨.inl .mov, [.t 0], some 147, none, []⟩, ⟨.inr (.call true true 20), [.t 146, .t 147], some 148, none, []⟩, ⟨.inl .mov, [.t 148], some 141, none, []⟩, ⟨.inl (.ext 0), [.t 141], some 149, none, []⟩, ⟨.inl (.ext 1), [.t 141], some 150, none, []⟩, ⟨.inl .mov, [.t 149], some 25, none, []⟩, ⟨.inl .mov, [.t 150], some 26, none, []⟩] none)
 (.seq sp12_4
 sq12_3))

def sq12_6 : AC := (.seq (.reg [⟨.inl .mov, [.t 1], some 136, none, []⟩, ⟨.inl .mov, [.t 0], some 137, none, []⟩, ⟨.inr (.call true true 34), [.t 136, .t 137], some 138, none, []⟩, ⟨.inl .mov, [.t 138], some 135, none, []⟩, ⟨.inl (.ext 0), [.t 135], some 139, none, []⟩, ⟨.inl (.ext 1), [.t 135], some 140, none, []⟩, ⟨.inl .mov, [.t 139], some 23, none, []⟩, ⟨.inl .mov, [.t 140], some 24, none, []⟩] none)
 sq12_5)

def sq12_7 : AC := (.seq (.reg [⟨.inl .mov, [.t 1], some 130, none, []⟩, ⟨.inl .mov, [.t 0], some 131, none, []⟩, ⟨.inr (.call true true 35), [.t 130, .t 131], some 132, none, []⟩, ⟨.inl .mov, [.t 132], some 129, none, []⟩, ⟨.inl (.ext 0), [.t 129], some 133, none, []⟩, ⟨.inl (.ext 1), [.t 129], some 134, none, []⟩, ⟨.inl .mov, [.t 133], some 21, none, []⟩, ⟨.inl .mov, [.t 134], some 22, none, []⟩] none)
 sq12_6)

def sq12_8 : AC := (.seq (.reg [⟨.inl .mov, [.t 1], some 121, none, []⟩, ⟨.inl .mov, [.t 2], some 122, none, []⟩, ⟨.inl .mov, [.t 11], some 123, none, []⟩, ⟨.inl (.bin .add), [.t 122, .t 123], some 124, none, []⟩, ⟨.inl .mov, [.t 0], some 125, none, []⟩, ⟨.inr (.call true true 33), [.t 121, .t 124, .t 125], some 126, none, []⟩, ⟨.inl .mov, [.t 126], some 120, none, []⟩, ⟨.inl (.ext 0), [.t 120], some 127, none, []⟩, ⟨.inl (.ext 1), [.t 120], some 128, none, []⟩, ⟨.inl .mov, [.t 127], some 19, none, []⟩, ⟨.inl .mov, [.t 128], some 20, none, []⟩] none)
 sq12_7)

def sq12_9 : AC := (.seq (.reg [⟨.inl .mov, [.t 1], some 114, none, []⟩, ⟨.inl .mov, [.t 11], some 115, none, []⟩, ⟨.inl .mov, [.t 0], some 116, none, []⟩, ⟨.inr (.call true true 33), [.t 114, .t 115, .t 116], some 117, none, []⟩, ⟨.inl .mov, [.t 117], some 113, none, []⟩, ⟨.inl (.ext 0), [.t 113], some 118, none, []⟩, ⟨.inl (.ext 1), [.t 113], some 119, none, []⟩, ⟨.inl .mov, [.t 118], some 17, none, []⟩, ⟨.inl .mov, [.t 119], some 18, none, []⟩] none)
 sq12_8)

def sq12_10 : AC := (.seq (.reg [⟨.inl .mov, [.t 1], some 107, none, []⟩, ⟨.inl .mov, [.t 2], some 108, none, []⟩, ⟨.inl .mov, [.t 0], some 109, none, []⟩, ⟨.inr (.call true true 33), [.t 107, .t 108, .t 109], some 110, none, []⟩, ⟨.inl .mov, [.t 110], some 106, none, []⟩, ⟨.inl (.ext 0), [.t 106], some 111, none, []⟩, ⟨.inl (.ext 1), [.t 106], some 112, none, []⟩, ⟨.inl .mov, [.t 111], some 15, none, []⟩, ⟨.inl .mov, [.t 112], some 16, none, []⟩] none)
 sq12_9)

def sp12_11 : AC := (.seq (.reg [⟨.inl .mov, [.t 8], some 74, none, []⟩, ⟨.inl (.bin .neq), [.t 74, .c (.int .i64 (0))], some 75, none, []⟩, ⟨.inl .mov, [.t 75], some 76, none, []⟩, ⟨.inl .mov, [.t 10], some 77, some (76, false), []⟩, ⟨.inl (.bin .neq), [.t 77, .c (.int .i64 (0))], some 78, some (76, false), []⟩, ⟨.inl .pick, [.t 76, .c (.bool true), .t 78], some 79, none, []⟩, ⟨.inl .mov, [.t 79], some 80, none, []⟩, ⟨.inl .mov, [.t 12], some 81, some (80, false), []⟩, ⟨.inl (.bin .neq), [.t 81, .c (.int .i64 (0))], some 82, some (80, false), []⟩, ⟨.inl .pick, [.t 80, .c (.bool true), .t 82], some 83, none, []⟩, ⟨.inl .mov, [.t 83], some 84, none, []⟩, ⟨.inl .mov, [.t 14], some 85, some (84, false), []⟩, ⟨.inl (.bin .neq), [.t 85, .c (.int .i64 (0))], some 86, some (84, false), []⟩, ⟨.inl .pick, [.t 84, .c (.bool true), .t 86], some 87, none, []⟩, ⟨.inl .mov, [.t 87], some 88, none, []⟩, ⟨.inl .mov, [.t 9], some 89, some (88, false), []⟩, ⟨.inl (.bin .lss), [.t 89, .c (.int .i64 (0))], some 90, some (88, false), []⟩, ⟨.inl .pick, [.t 88, .c (.bool true), .t 90], some 91, none, []⟩, ⟨.inl .mov, [.t 91], some 92, none, []⟩, ⟨.inl .mov, [.t 11], some 93, some (92, false), []⟩, ⟨.inl (.bin .lss), [.t 93, .c (.int .i64 (0))], some 94, some (92, false), []⟩, ⟨.inl .pick, [.t 92, .c (.bool true), .t 94], some 95, none, []⟩, ⟨.inl .mov, [.t 95], some 96, none, []⟩, ⟨.inl .mov, [.t 9], some 97, some (96, false), []⟩, ⟨.inl .mov, [.t 11], some 98, some (96, false), []⟩, ⟨.inl (.bin .add), [.t 97, .t 98], some 99, some (96, false), []⟩, ⟨.inl .mov, [.t 0], some 100, some (96, false), []⟩, ⟨.inl (.bin .sub), [.t 100, .c (.int .i64 (1))], some 101, some (96, false), []⟩, ⟨.inl (.bin .rem), [.t 99, .t 101], some 102, some (96, false), []⟩, ⟨.inl .mov, [.t 13], some 103, some (96, false), []⟩, ⟨.inl (.bin .neq), [.t 102, .t 103], some 104, some (96, false), []⟩, ⟨.inl .pick, [.t 96, .c (.bool true), .t 104], some 105, none, []⟩] none)
 (.cond (.t 105) (.seq (.reg [⟨.inl .mov, [.c (.bool false)], some 6, none, []⟩] none)
 .ret) .skip))

def sq12_12 : AC := (.seq (.reg [⟨.inl .mov, [.t 7], some 64, none, []⟩, ⟨.inl .mov, [.t 1], some 65, none, []⟩, ⟨.inl .mov, [.t 2], some 66, none, []⟩, ⟨.inl (.bin .mul), [.t 65, .t 66], some 67, none, []⟩, ⟨.inl .mov, [.t 0], some 68, none, []⟩, ⟨.inl (.bin .rem), [.t 67, .t 68], some 69, none, []⟩, ⟨.inl .mov, [.t 0], some 70, none, []⟩, ⟨.inr (.call true true 23), [.t 64, .t 69, .t 70], some 71, none, []⟩, ⟨.inl .mov, [.t 71], some 63, none, []⟩, ⟨.inl (.ext 0), [.t 63], some 72, none, []⟩, ⟨.inl (.ext 1), [.t 63], some 73, none, []⟩, ⟨.inl .mov, [.t 72], some 13, none, []⟩, ⟨.inl .mov, [.t 73], some 14, none, []⟩] none)
 (.seq sp12_11
 sq12_10))

def sq12_13 : AC := (.seq (.reg [⟨.inl .mov, [.t 7], some 57, none, []⟩, ⟨.inl .mov, [.t 2], some 58, none, []⟩, ⟨.inl .mov, [.t 0], some 59, none, []⟩, ⟨.inr (.call true true 23), [.t 57, .t 58, .t 59], some 60, none, []⟩, ⟨.inl .mov, [.t 60], some 56, none, []⟩, ⟨.inl (.ext 0), [.t 56], some 61, none, []⟩, ⟨.inl (.ext 1), [.t 56], some 62, none, []⟩, ⟨.inl .mov, [.t 61], some 11, none, []⟩, ⟨.inl .mov, [.t 62], some 12, none, []⟩] none)
 sq12_12)

def sq12_14 : AC := (.seq (.reg [⟨.inl .mov, [.t 7], some 50, none, []⟩, ⟨.inl .mov, [.t 1], some 51, none, []⟩, ⟨.inl .mov, [.t 0], some 52, none, []⟩, ⟨.inr (.call true true 23), [.t 50, .t 51, .t 52], some 53, none, []⟩, ⟨.inl .mov, [.t 53], some 49, none, []⟩, ⟨.inl (.ext 0), [.t 49], some 54, none, []⟩, ⟨.inl (.ext 1), [.t 49], some 55, none, []⟩, ⟨.inl .mov, [.t 54], some 9, none, []⟩, ⟨.inl .mov, [.t 55], some 10, none, []⟩] none)
 sq12_13)

def sq12_15 : AC := (.seq (.reg [⟨.inl .mov, [.t 0], some 45, none, []⟩, ⟨.inr (.call true true 32), [.t 45], some 46, none, []⟩, ⟨.inl .mov, [.t 46], some 44, none, []⟩, ⟨.inl (.ext 0), [.t 44], some 47, none, []⟩, ⟨.inl (.ext 1), [.t 44], some 48, none, []⟩, ⟨.inl .mov, [.t 47], some 7, none, []⟩, ⟨.inl .mov, [.t 48], some 8, none, []⟩] none)
 sq12_14)

def sq12_16 : AC := (.pre [0, 1, 2] (.seq (.reg [⟨.inl .mov, [.t 1], some 34, none, []⟩, ⟨.inl .mov, [.t 0], some 35, none, []⟩, ⟨.inl (.bin .sub), [.t 35, .c (.int .i64 (1))], some 36, none, []⟩, ⟨.inr (.call true true 29), [.t 34, .t 36], some 37, none, []⟩, ⟨.inl (.bin .add), [.c (.int .i64 (1)), .t 37], some 38, none, []⟩, ⟨.inl .mov, [.t 2], some 39, none, []⟩, ⟨.inl .mov, [.t 0], some 40, none, []⟩, ⟨.inl (.bin .sub), [.t 40, .c (.int .i64 (1))], some 41, none, []⟩, ⟨.inr (.call true true 29), [.t 39, .t 41], some 42, none, []⟩, ⟨.inl (.bin .add), [.c (.int .i64 (1)), .t 42], some 43, none, []⟩, ⟨.inl .mov, [.t 38], some 1, none, []⟩, ⟨.inl .mov, [.t 43], some 2, none, []⟩] none)
 sq12_15))

def sq12_17 : AC := (.seq (.reg [⟨.inl .mov, [.t 0], some 27, none, []⟩, ⟨.inr (.call true true 28), [.t 27, .c (.int .i64 (100000))], some 28, none, []⟩, ⟨.inl .mov, [.t 28], some 0, none, []⟩] none)
 (.seq (.block 0 (.loop lb12_2))
 sq12_16))

/-- olivette/olivettelaw01.PrimeGroup -/
def af12 : AFunc := ⟨3,
 (.seq (.reg [⟨.inl .mov, [.c (.bool false)], some 6, none, []⟩] none)
 sq12_17),
 [.t 6]⟩

def st16_0 : AC := (.seq (.reg [⟨.inl .mov, [.c (.nilS)], some 2, none, []⟩, ⟨.inl .mov, [.c (.int .i64 (2))], some 3, none, []⟩] none)
 .ret)

def sq16_1 : AC := (.seq (.reg [⟨.inl .mov, [.t 0], some 7, none, []⟩, ⟨.inr (.call true true 42), [.t 7], some 8, none, []⟩, ⟨.inl .mov, [.t 8], some 2, none, []⟩, ⟨.inl .mov, [.c (.int .i64 (0))], some 3, none, []⟩] none)
 .ret)

def sp16_2 : AC := (.seq (.reg [⟨.inl .mov, [.t 0], some 4, none, []⟩, ⟨.inr (.call true true 41), [.t 4], some 5, none, []⟩, ⟨.inl (.un .not), [.t 5], some 6, none, []⟩] none)
 (.cond (.t 6) st16_0 .skip))

/-- olivette/prime.Factor -/
def af16 : AFunc := ⟨1,
 (.seq (.reg [⟨.inl .mov, [.c (.nilS)], some 2, none, []⟩, ⟨.inl .mov, [.c (.int .i64 (0))], some 3, none, []⟩] none)
 (.seq sp16_2
 sq16_1)),
 [.t 2, .t 3]⟩

def sq17_0 : AC := (.seq (.reg [⟨.inl .mov, [.t 0], some 3, none, []⟩, ⟨.inl (.bin .geq), [.t 3, .c (.int .i64 (1))], some 4, none, []⟩, ⟨.inl .mov, [.t 4], some 5, none, []⟩, ⟨.inl .mov, [.t 0], some 6, some (5, true), []⟩, ⟨.inl (.bin .leq), [.t 6, .c (.int .i64 (2147483647))], some 7, some (5, true), []⟩, ⟨.inl .pick, [.t 5, .t 7, .c (.bool false)], some 8, none, []⟩, ⟨.inl .mov, [.t 8], some 2, none, []⟩] none)
 .ret)

/-- olivette/olivetteref01.Number -/
def af17 : AFunc := ⟨1,
 (.seq (.reg [⟨.inl .mov, [.c (.bool false)], some 2, none, []⟩] none)
 sq17_0),
 [.t 2]⟩

def sp18_0 : AC := (.seq (.reg [⟨.inl .mov, [.t 2], some 35, none, []⟩, ⟨.inl (.bin .neq), [.t 35, .c (.int .i64 (0))], some 36, none, []⟩, ⟨.inl .mov, [.t 36], some 37, none, []⟩, ⟨.inl .mov, [.t 1], some 38, some (37, false), []⟩, ⟨.inl (.bin .neq), [.t 38, .c (.int .i64 (3))], some 39, some (37, false), []⟩, ⟨.inl .pick, [.t 37, .c (.bool true), .t 39], some 40, none, []⟩, ⟨.inl .mov, [.t 40], some 41, none, []⟩, ⟨.inl .mov, [.t 4], some 42, some (41, false), []⟩, ⟨.inl (.bin .neq), [.t 42, .c (.int .i64 (0))], some 43, some (41, false), []⟩, ⟨.inl .pick, [.t 41, .c (.bool true), .t 43], some 44, none, []⟩, ⟨.inl .mov, [.t 44], some 45, none, []⟩, ⟨.inl .mov, [.t 3], some 46, some (45, false), []⟩, ⟨.inl (.bin .neq), [.t 46, .c (.int .i64 (3))], some 47, some (45, false), []⟩, ⟨.inl .pick, [.t 45, .c (.bool true), .t 47], some 48, none, []⟩, ⟨.inl .mov, [.t 48], some 49, none, []⟩, ⟨.inl .mov, [.t 7], some 50, some (49, false), []⟩, ⟨.inl (.bin .neq), [.t 50, .c (.int .i64 (0))], some 51, some (49, false), []⟩, ⟨.inl .pick, [.t 49, .c (.bool true), .t 51], some 52, none, []⟩, ⟨.inl .mov, [.t 52], some 53, none, []⟩, ⟨.inl .mov, [.t 5], some 54, some (53, false), []⟩, ⟨.inl (.bin .neq), [.t 54, .c (.int .i64 (8))], some 55, some (53, false), []⟩, ⟨.inl .pick, [.t 53, .c (.bool true), .t 55], some 56, none, []⟩, ⟨.inl .mov, [.t 56], some 57, none, []⟩, ⟨.inl .mov, [.t 6], some 58, some (57, false), []⟩, ⟨.inl (.bin .neq), [.t 58, .c (.int .i64 (15))], some 59, some (57, false), []⟩, ⟨.inl .pick, [.t 57, .c (.bool true), .t 59], some 60, none, []⟩, ⟨.inl .mov, [.t 60], some 61, none, []⟩, ⟨.inl .mov, [.t 9], some 62, some (61, false), []⟩, ⟨.inl (.bin .neq), [.t 62, .c (.int .i64 (0))], some 63, some (61, false), []⟩, ⟨.inl .pick, [.t 61, .c (.bool true), .t 63], some 64, none, []⟩, ⟨.inl .mov, [.t 64], some 65, none, []⟩, ⟨.inl (.fldA 0), [.t 8], some 66, some (65, false), []⟩, ⟨.inl (.ld false 1), [.t 66], some 67, some (65, false), []⟩, ⟨.inl (.bin .neq), [.t 67, .c (.int .i64 (3))], some 68, some (65, false), []⟩, ⟨.inl .pick, [.t 65, .c (.bool true), .t 68], some 69, none, []⟩, ⟨.inl .mov, [.t 69], some 70, none, []⟩, ⟨.inl .mov, [.t 11], some 71, some (70, false), []⟩, ⟨.inl (.bin .neq), [.t 71, .c (.int .i64 (0))], some 72, some (70, false), []⟩, ⟨.inl .pick, [.t 70, .c (.bool true), .t 72], some 73, none, []⟩, ⟨.inl .mov, [.t 73], some 74, none, []⟩, ⟨.inl .mov, [.t 10], some 75, some (74, false), []⟩, ⟨.inl .len, [.t 75], some 76, some (74, false), []⟩, ⟨.inl (.bin .neq), [.t 76, .c (.int .i64 (2))], some 77, some (74, false), []⟩, ⟨.inl .pick, [.t 74, .c (.bool true), .t 77], some 78, none, []⟩, ⟨.inl .mov, [.t 78], some 79, none, []⟩, ⟨.inl .mov, [.t 10], some 80, some (79, false), []⟩, ⟨.inl (.idxA 2), [.t 80, .c (.int .i64 (0))], some 81, some (79, false), []⟩, ⟨.inl (.ld true 2), [.t 81], some 82, some (79, false), []⟩, ⟨.inl (.bld [.int .i64 0, .int .i64 0] [(0, 1), (1, 1)]), [.c (.int .i64 (2)), .c (.int .i64 (2))], some 83, some (79, false), []⟩, ⟨.inl (.eqagg true [some .i64, some .i64]), [.t 82, .t 83], some 84, some (79, false), []⟩, ⟨.inl .pick, [.t 79, .c (.bool true), .t 84], some 85, none, []⟩] none)
 (.cond (.t 85) (.seq (.reg [⟨.inl .mov, [.c (.bool false)], some 0, none, []⟩] none)
 .ret) .skip))

def sq18_1 : AC := (.seq (.reg [⟨.inr (.call true true 16), [.c (.int .i64 (12))], some 32, none, []⟩, ⟨.inl .mov, [.t 32], some 31, none, []⟩, ⟨.inl (.ext 0), [.t 31], some 33, none, []⟩, ⟨.inl (.ext 1), [.t 31], some 34, none, []⟩, ⟨.inl .mov, [.t 33], some 10, none, []⟩, ⟨.inl .mov, [.t 34], some 11, none, []⟩] none)
 (.seq sp18_0
 (.seq (.reg [⟨.inl .mov, [.c (.bool true)], some 0, none, []⟩] none)
 .ret)))

def sq18_2 : AC := (.seq (.reg [⟨.inr (.call true true 30), [.c (.int .i64 (9))], some 28, none, []⟩, ⟨.inl .mov, [.t 28], some 27, none, []⟩, ⟨.inl (.ext 0), [.t 27], some 29, none, []⟩, ⟨.inl (.ext 1), [.t 27], some 30, none, []⟩, ⟨.inr (.alloc false [.int .i64 0, .nilS]), [], some 8, none, []⟩, ⟨.inr (.st 2), [.t 8, .t 29], none, none, []⟩, ⟨.inl .mov, [.t 30], some 9, none, []⟩] none)
 sq18_1)

def sq18_3 : AC := (.seq (.reg [⟨.inr (.bldS true true 1 2 [.int .i64 0] [(0, 1), (1, 1)]), [.c (.int .i64 (2)), .c (.int .i64 (3))], some 21, none, []⟩, ⟨.inr (.bldS true true 1 2 [.int .i64 0] [(0, 1), (1, 1)]), [.c (.int .i64 (3)), .c (.int .i64 (5))], some 22, none, []⟩, ⟨.inr (.call true true 25), [.t 21, .t 22], some 23, none, []⟩, ⟨.inl .mov, [.t 23], some 20, none, []⟩, ⟨.inl (.ext 0), [.t 20], some 24, none, []⟩, ⟨.inl (.ext 1), [.t 20], some 25, none, []⟩, ⟨.inl (.ext 2), [.t 20], some 26, none, []⟩, ⟨.inl .mov, [.t 24], some 5, none, []⟩, ⟨.inl .mov, [.t 25], some 6, none, []⟩, ⟨.inl .mov, [.t 26], some 7, none, []⟩] none)
 sq18_2)

def sq18_4 : AC := (.seq (.reg [⟨.inr (.call true true 23), [.c (.int .i64 (3)), .c (.int .i64 (6)), .c (.int .i64 (7))], some 17, none, []⟩, ⟨.inl .mov, [.t 17], some 16, none, []⟩, ⟨.inl (.ext 0), [.t 16], some 18, none, []⟩, ⟨.inl (.ext 1), [.t 16], some 19, none, []⟩, ⟨.inl .mov, [.t 18], some 3, none, []⟩, ⟨.inl .mov, [.t 19], some 4, none, []⟩] none)
 sq18_3)

def sq18_5 : AC := (.seq (.reg [⟨.inr (.call true true 20), [.c (.int .i64 (2)), .c (.int .i64 (7))], some 13, none, []⟩, ⟨.inl .mov, [.t 13], some 12, none, []⟩, ⟨.inl (.ext 0), [.t 12], some 14, none, []⟩, ⟨.inl (.ext 1), [.t 12], some 15, none, []⟩, ⟨.inl .mov, [.t 14], some 1, none, []⟩, ⟨.inl .mov, [.t 15], some 2, none, []⟩] none)
 sq18_4)

/-- olivette/olivettelaw01.awake -/
def af18 : AFunc := ⟨0,
 (.seq (.reg [⟨.inl .mov, [.c (.bool false)], some 0, none, []⟩] none)
 sq18_5),
 [.t 0]⟩

def sq19_0 : AC := (.reg [⟨.inl .mov, [.t 5], some 17, none, []⟩, ⟨.inl (.bin .add), [.t 17, .c (.int .i64 (1))], some 18, none, []⟩, ⟨.inl .mov, [.t 18], some 5, none, []⟩] none)

def sq19_1 : AC := (.block 3 (.seq (.reg [⟨.inl .mov, [.t 0], some 14, none, []⟩, ⟨.inl .mov, [.t 4], some 15, none, []⟩, ⟨.inl (.bin .quo), [.t 14, .t 15], some 16, none, []⟩, ⟨.inl .mov, [.t 16], some 0, none, []⟩] none)
 sq19_0))

def sp19_2 : AC := (.seq (.reg [⟨.inl .mov, [.t 0], some 10, none, []⟩, ⟨.inl .mov, [.t 4], some 11, none, []⟩, ⟨.inl (.bin .rem), [.t 10, .t 11], some 12, none, []⟩, ⟨.inl (.bin .eql), [.t 12, .c (.int .i64 (0))], some 13, none, []⟩] none)
 (.cond (.t 13) .skip (.exit 2)))

def lb19_3 : AC := (.pre [0, 3, 4, 5] (.seq sp19_2
 sq19_1))

def sq19_4 : AC := (.pre [0, 3, 4, 5] (.reg [⟨.inl .mov, [.t 3], some 19, none, []⟩, ⟨.inl .mov, [.t 4], some 20, none, []⟩, ⟨.inl .mov, [.t 5], some 21, none, []⟩, ⟨.inl (.bld [.int .i64 0, .int .i64 0] [(0, 1), (1, 1)]), [.t 20, .t 21], some 22, none, []⟩, ⟨.inr (.bldS true true 2 1 [.int .i64 0, .int .i64 0] [(0, 2)]), [.t 22], some 23, none, []⟩, ⟨.inr (.app false 2 16), [.t 19, .t 23], some 24, none, []⟩, ⟨.inl .mov, [.t 24], some 3, none, []⟩] none))

def sq19_5 : AC := (.block 1 (.seq (.reg [⟨.inl .mov, [.t 0], some 8, none, []⟩, ⟨.inr (.call true true 43), [.t 8], some 9, none, []⟩, ⟨.inl .mov, [.t 9], some 4, none, []⟩] none)
 (.seq (.reg [⟨.inl .mov, [.c (.int .i64 (0))], some 5, none, []⟩] none)
 (.seq (.block 2 (.loop lb19_3))
 sq19_4))))

def sp19_6 : AC := (.seq (.reg [⟨.inl .mov, [.t 0], some 6, none, []⟩, ⟨.inl (.bin .gtr), [.t 6, .c (.int .i64 (1))], some 7, none, []⟩] none)
 (.cond (.t 7) .skip (.exit 0)))

def lb19_7 : AC := (.pre [0, 3] (.seq sp19_6
 sq19_5))

def sq19_8 : AC := (.seq (.block 0 (.loop lb19_7))
 (.pre [3] (.seq (.reg [⟨.inl .mov, [.t 3], some 25, none, []⟩, ⟨.inl .mov, [.t 25], some 2, none, []⟩] none)
 .ret)))

/-- olivette/olivetteref01.Factor -/
def af19 : AFunc := ⟨1,
 (.seq (.reg [⟨.inl .mov, [.c (.nilS)], some 2, none, []⟩] none)
 (.seq (.reg [⟨.inl .mov, [.c (.nilS)], some 3, none, []⟩] none)
 sq19_8)),
 [.t 2]⟩

def st20_0 : AC := (.seq (.reg [⟨.inl .mov, [.c (.int .i64 (0))], some 4, none, []⟩, ⟨.inl .mov, [.c (.int .i64 (2))], some 5, none, []⟩] none)
 .ret)

def st20_1 : AC := (.seq (.reg [⟨.inl .mov, [.t 0], some 22, none, []⟩, ⟨.inl .mov, [.t 22], some 4, none, []⟩, ⟨.inl .mov, [.c (.int .i64 (0))], some 5, none, []⟩] none)
 .ret)

def st20_2 : AC := (.seq (.reg [⟨.inl .mov, [.c (.int .i64 (0))], some 4, none, []⟩, ⟨.inl .mov, [.c (.int .i64 (6))], some 5, none, []⟩] none)
 .ret)

def sq20_3 : AC := (.seq (.reg [⟨.inl .mov, [.t 6], some 31, none, []⟩, ⟨.inl .mov, [.t 1], some 32, none, []⟩, ⟨.inl .mov, [.t 6], some 33, none, []⟩, ⟨.inl (.bin .sub), [.t 32, .t 33], some 34, none, []⟩, ⟨.inl .mov, [.t 1], some 35, none, []⟩, ⟨.inl (.bin .rem), [.t 34, .t 35], some 36, none, []⟩, ⟨.inl .mn, [.t 31, .t 36], some 37, none, []⟩, ⟨.inl .mov, [.t 37], some 4, none, []⟩, ⟨.inl .mov, [.c (.int .i64 (0))], some 5, none, []⟩] none)
 .ret)

def sp20_4 : AC := (.seq (.reg [⟨.inl .mov, [.t 7], some 29, none, []⟩, ⟨.inl (.un .not), [.t 29], some 30, none, []⟩] none)
 (.cond (.t 30) st20_2 .skip))

def sq20_5 : AC := (.seq (.reg [⟨.inl .mov, [.t 0], some 24, none, []⟩, ⟨.inl .mov, [.t 1], some 25, none, []⟩, ⟨.inr (.call true true 45), [.t 24, .t 25], some 26, none, []⟩, ⟨.inl .mov, [.t 26], some 23, none, []⟩, ⟨.inl (.ext 0), [.t 23], some 27, none, []⟩, ⟨.inl (.ext 1), [.t 23], some 28, none, []⟩, ⟨.inl .mov, [.t 27], some 6, none, []⟩, ⟨.inl .mov, [.t 28], some 7, none, []⟩] none)
 (.seq sp20_4
 sq20_3))

def sp20_6 : AC := (.seq (.reg [⟨.inl .mov, [.t 1], some 20, none, []⟩, ⟨.inl (.bin .eql), [.t 20, .c (.int .i64 (2))], some 21, none, []⟩] none)
 (.cond (.t 21) st20_1 .skip))

def sp20_7 : AC := (.seq (.reg [⟨.inl .mov, [.t 1], some 8, none, []⟩, ⟨.inr (.call true true 44), [.t 8], some 9, none, []⟩, ⟨.inl (.un .not), [.t 9], some 10, none, []⟩, ⟨.inl .mov, [.t 10], some 11, none, []⟩, ⟨.inl .mov, [.t 0], some 12, some (11, false), []⟩, ⟨.inl (.bin .lss), [.t 12, .c (.int .i64 (0))], some 13, some (11, false), []⟩, ⟨.inl .pick, [.t 11, .c (.bool true), .t 13], some 14, none, []⟩, ⟨.inl .mov, [.t 14], some 15, none, []⟩, ⟨.inl .mov, [.t 0], some 16, some (15, false), []⟩, ⟨.inl .mov, [.t 1], some 17, some (15, false), []⟩, ⟨.inl (.bin .geq), [.t 16, .t 17], some 18, some (15, false), []⟩, ⟨.inl .pick, [.t 15, .c (.bool true), .t 18], some 19, none, []⟩] none)
 (.cond (.t 19) st20_0 .skip))

/-- olivette/prime.Root -/
def af20 : AFunc := ⟨2,
 (.seq (.reg [⟨.inl .mov, [.c (.int .i64 (0))], some 4, none, []⟩, ⟨.inl .mov, [.c (.int .i64 (0))], some 5, none, []⟩] none)
 (.seq sp20_7
 (.seq sp20_6
 sq20_5))),
 [.t 4, .t 5]⟩

def sq21_0 : AC := (.seq (.reg [⟨.inl .mov, [.t 0], some 3, none, []⟩, ⟨.inr (.call true true 17), [.t 3], some 4, none, []⟩, ⟨.inl .mov, [.t 4], some 5, none, []⟩, ⟨.inl .mov, [.t 0], some 6, some (5, true), []⟩, ⟨.inl (.bin .gtr), [.t 6, .c (.int .i64 (1))], some 7, some (5, true), []⟩, ⟨.inl .pick, [.t 5, .t 7, .c (.bool false)], some 8, none, []⟩, ⟨.inl .mov, [.t 8], some 9, none, []⟩, ⟨.inl .mov, [.t 0], some 10, some (9, true), []⟩, ⟨.inr (.call true true 43), [.t 10], some 11, some (9, true), []⟩, ⟨.inl .mov, [.t 0], some 12, some (9, true), []⟩, ⟨.inl (.bin .eql), [.t 11, .t 12], some 13, some (9, true), []⟩, ⟨.inl .pick, [.t 9, .t 13, .c (.bool false)], some 14, none, []⟩, ⟨.inl .mov, [.t 14], some 2, none, []⟩] none)
 .ret)

/-- olivette/olivetteref01.Prime -/
def af21 : AFunc := ⟨1,
 (.seq (.reg [⟨.inl .mov, [.c (.bool false)], some 2, none, []⟩] none)
 sq21_0),
 [.t 2]⟩

def st22_0 : AC := (.reg [⟨.inl .mov, [.t 7], some 20, none, []⟩, ⟨.inl .mov, [.t 0], some 21, none, []⟩, ⟨.inl (.bin .mul), [.t 20, .t 21], some 22, none, []⟩, ⟨.inl .mov, [.t 2], some 23, none, []⟩, ⟨.inl (.bin .rem), [.t 22, .t 23], some 24, none, []⟩, ⟨.inl .mov, [.t 24], some 7, none, []⟩] none)

def sq22_1 : AC := (.reg [⟨.inl .mov, [.t 0], some 25, none, []⟩, ⟨.inl .mov, [.t 0], some 26, none, []⟩, ⟨.inl (.bin .mul), [.t 25, .t 26], some 27, none, []⟩, ⟨.inl .mov, [.t 2], some 28, none, []⟩, ⟨.inl (.bin .rem), [.t 27, .t 28], some 29, none, []⟩, ⟨.inl .mov, [.t 29], some 0, none, []⟩] none)

def sp22_2 : AC := (.seq (.reg [⟨.inl .mov, [.t 1], some 17, none, []⟩, ⟨.inl (.bin .rem), [.t 17, .c (.int .i64 (2))], some 18, none, []⟩, ⟨.inl (.bin .eql), [.t 18, .c (.int .i64 (1))], some 19, none, []⟩] none)
 (.cond (.t 19) st22_0 .skip))

def sq22_3 : AC := (.reg [⟨.inl .mov, [.t 1], some 15, none, []⟩, ⟨.inl (.bin .quo), [.t 15, .c (.int .i64 (2))], some 16, none, []⟩, ⟨.inl .mov, [.t 16], some 1, none, []⟩] none)

def sp22_4 : AC := (.seq (.reg [⟨.inl .mov, [.t 1], some 13, none, []⟩, ⟨.inl (.bin .gtr), [.t 13, .c (.int .i64 (0))], some 14, none, []⟩] none)
 (.cond (.t 14) .skip (.exit 0)))

def lb22_5 : AC := (.pre [0, 1, 2, 7] (.seq sp22_4
 (.seq (.block 1 (.seq sp22_2
 sq22_1))
 sq22_3)))

def sp22_6 : AC := (.seq (.reg [⟨.inl .mov, [.t 0], some 10, none, []⟩, ⟨.inl .mov, [.t 2], some 11, none, []⟩, ⟨.inl (.bin .rem), [.t 10, .t 11], some 12, none, []⟩, ⟨.inl .mov, [.t 12], some 0, none, []⟩] none)
 (.block 0 (.loop lb22_5)))

def sq22_7 : AC := (.seq sp22_6
 (.pre [7] (.seq (.reg [⟨.inl .mov, [.t 7], some 30, none, []⟩, ⟨.inl .mov, [.t 30], some 6, none, []⟩] none)
 .ret)))

def sq22_8 : AC := (.seq (.reg [⟨.inl .mov, [.t 2], some 8, none, []⟩, ⟨.inl (.bin .rem), [.c (.int .i64 (1)), .t 8], some 9, none, []⟩, ⟨.inl .mov, [.t 9], some 7, none, []⟩] none)
 sq22_7)

/-- olivette/olivetteref01.Power -/
def af22 : AFunc := ⟨3,
 (.seq (.reg [⟨.inl .mov, [.c (.int .i64 (0))], some 6, none, []⟩] none)
 sq22_8),
 [.t 6]⟩

def st23_0 : AC := (.seq (.reg [⟨.inl .mov, [.c (.int .i64 (0))], some 6, none, []⟩, ⟨.inl .mov, [.c (.int .i64 (2))], some 7, none, []⟩] none)
 .ret)

def sq23_1 : AC := (.block 1 (.reg [⟨.inl .mov, [.t 8], some 44, none, []⟩, ⟨.inl (.bin .add), [.t 44, .c (.int .i64 (1))], some 45, none, []⟩, ⟨.inl .mov, [.t 45], some 8, none, []⟩] none))

def sp23_2 : AC := (.seq (.reg [⟨.inl .mov, [.t 8], some 39, none, []⟩, ⟨.inl .mov, [.t 8], some 40, none, []⟩, ⟨.inl (.bin .mul), [.t 39, .t 40], some 41, none, []⟩, ⟨.inl .mov, [.t 2], some 42, none, []⟩, ⟨.inl (.bin .lss), [.t 41, .t 42], some 43, none, []⟩] none)
 (.cond (.t 43) .skip (.exit 0)))

def lb23_3 : AC := (.pre [0, 1, 2, 8] (.seq sp23_2
 sq23_1))

def sq23_4 : AC := (.reg [⟨.inl .mov, [.t 10], some 55, none, []⟩, ⟨.inl .mov, [.t 0], some 56, none, []⟩, ⟨.inl .mov, [.t 2], some 57, none, []⟩, ⟨.inr (.call true true 46), [.t 55, .t 56, .t 57], some 58, none, []⟩, ⟨.inl .mov, [.t 58], some 10, none, []⟩] none)

def sq23_5 : AC := (.seq (.reg [⟨.inl .mov, [.t 9], some 52, none, []⟩, ⟨.inl .mov, [.t 10], some 53, none, []⟩, ⟨.inl .mov, [.t 11], some 54, none, []⟩, ⟨.inr (.upM [some .i64]), [.t 52, .t 53, .t 54], none, none, []⟩] none)
 sq23_4)

def sq23_6 : AC := (.reg [⟨.inl (.bin .add), [.t 49, .c (.int .i64 (1))], some 59, none, []⟩, ⟨.inl .mov, [.t 59], some 49, none, []⟩] none)

def sq23_7 : AC := (.seq (.block 3 (.seq (.reg [⟨.inl .mov, [.t 49], some 51, none, []⟩, ⟨.inl .mov, [.t 51], some 11, none, []⟩] none)
 sq23_5))
 sq23_6)

def lb23_8 : AC := (.pre [0, 2, 8, 9, 10, 48, 49] (.seq (.reg [⟨.inl (.bin .lss), [.t 49, .t 48], some 50, none, []⟩] none)
 (.seq (.cond (.t 50) .skip (.exit 2))
 sq23_7)))

def st23_9 : AC := (.seq (.reg [⟨.inl .mov, [.t 15], some 80, none, []⟩, ⟨.inl .mov, [.t 8], some 81, none, []⟩, ⟨.inl (.bin .mul), [.t 80, .t 81], some 82, none, []⟩, ⟨.inl .mov, [.t 16], some 83, none, []⟩, ⟨.inl (.bin .sub), [.t 82, .t 83], some 84, none, []⟩, ⟨.inl .mov, [.t 84], some 14, none, []⟩] none)
 (.exit 4))

def sq23_10 : AC := (.seq (.reg [⟨.inl .mov, [.t 9], some 74, none, []⟩, ⟨.inl .mov, [.t 13], some 75, none, []⟩, ⟨.inr (.lkM [some .i64] true (.int .i64 0)), [.t 74, .t 75], some 76, none, []⟩, ⟨.inl .mov, [.t 76], some 73, none, []⟩, ⟨.inl (.ext 0), [.t 73], some 77, none, []⟩, ⟨.inl (.ext 1), [.t 73], some 78, none, []⟩, ⟨.inl .mov, [.t 77], some 16, none, []⟩, ⟨.inl .mov, [.t 78], some 17, none, []⟩] none)
 (.seq (.reg [⟨.inl .mov, [.t 17], some 79, none, []⟩] none)
 (.cond (.t 79) st23_9 .skip)))

def sq23_11 : AC := (.reg [⟨.inl .mov, [.t 15], some 67, none, []⟩, ⟨.inl (.bin .add), [.t 67, .c (.int .i64 (1))], some 68, none, []⟩, ⟨.inl .mov, [.t 68], some 15, none, []⟩] none)

def sp23_12 : AC := (.block 5 (.seq (.reg [⟨.inl .mov, [.t 13], some 69, none, []⟩, ⟨.inl .mov, [.t 12], some 70, none, []⟩, ⟨.inl .mov, [.t 2], some 71, none, []⟩, ⟨.inr (.call true true 46), [.t 69, .t 70, .t 71], some 72, none, []⟩, ⟨.inl .mov, [.t 72], some 13, none, []⟩] none)
 sq23_10))

def sp23_13 : AC := (.seq (.reg [⟨.inl .mov, [.t 15], some 64, none, []⟩, ⟨.inl .mov, [.t 8], some 65, none, []⟩, ⟨.inl (.bin .leq), [.t 64, .t 65], some 66, none, []⟩] none)
 (.cond (.t 66) .skip (.exit 4)))

def lb23_14 : AC := (.pre [0, 2, 8, 9, 12, 13, 14, 15] (.seq sp23_13
 (.seq sp23_12
 sq23_11)))

def st23_15 : AC := (.seq (.reg [⟨.inl .mov, [.c (.int .i64 (0))], some 6, none, []⟩, ⟨.inl .mov, [.c (.int .i64 (6))], some 7, none, []⟩] none)
 .ret)

def sq23_16 : AC := (.seq (.reg [⟨.inl .mov, [.t 14], some 87, none, []⟩, ⟨.inl .mov, [.t 0], some 88, none, []⟩, ⟨.inl .mov, [.t 2], some 89, none, []⟩, ⟨.inr (.call true true 48), [.t 88, .t 89], some 90, none, []⟩, ⟨.inl (.bin .rem), [.t 87, .t 90], some 91, none, []⟩, ⟨.inl .mov, [.t 91], some 6, none, []⟩, ⟨.inl .mov, [.c (.int .i64 (0))], some 7, none, []⟩] none)
 .ret)

def sp23_17 : AC := (.seq (.reg [⟨.inl .mov, [.t 14], some 85, none, []⟩, ⟨.inl (.bin .lss), [.t 85, .c (.int .i64 (0))], some 86, none, []⟩] none)
 (.cond (.t 86) st23_15 .skip))

def sq23_18 : AC := (.seq (.seq (.reg [⟨.inl .mov, [.c (.int .i64 (1))], some 15, none, []⟩] none)
 (.block 4 (.loop lb23_14)))
 (.pre [0, 2, 14] (.seq sp23_17
 sq23_16)))

def sq23_19 : AC := (.pre [0, 2, 8, 9] (.seq (.reg [⟨.inl .mov, [.t 0], some 60, none, []⟩, ⟨.inl .mov, [.t 8], some 61, none, []⟩, ⟨.inl .mov, [.t 2], some 62, none, []⟩, ⟨.inr (.call true true 47), [.t 60, .t 61, .t 62], some 63, none, []⟩, ⟨.inl .mov, [.t 63], some 12, none, []⟩, ⟨.inl .mov, [.c (.int .i64 (1))], some 13, none, []⟩] none)
 (.seq (.reg [⟨.inl .mov, [.c (.int .i64 (-1))], some 14, none, []⟩] none)
 (.seq .skip
 sq23_18))))

def sp23_20 : AC := (.seq (.reg [⟨.inl .mov, [.t 8], some 48, none, []⟩, ⟨.inl .mov, [.c (.int .i64 (0))], some 49, none, []⟩] none)
 (.block 2 (.loop lb23_8)))

def sq23_21 : AC := (.seq (.reg [⟨.inl .mov, [.t 1], some 47, none, []⟩, ⟨.inl .mov, [.t 47], some 10, none, []⟩] none)
 (.seq sp23_20
 sq23_19))

def sq23_22 : AC := (.pre [0, 1, 2, 8] (.seq (.reg [⟨.inr .mkM, [], some 46, none, []⟩, ⟨.inl .mov, [.t 46], some 9, none, []⟩] none)
 sq23_21))

def sp23_23 : AC := (.seq (.reg [⟨.inl .mov, [.t 2], some 18, none, []⟩, ⟨.inr (.call true true 44), [.t 18], some 19, none, []⟩, ⟨.inl (.un .not), [.t 19], some 20, none, []⟩, ⟨.inl .mov, [.t 20], some 21, none, []⟩, ⟨.inl .mov, [.t 0], some 22, some (21, false), []⟩, ⟨.inl (.bin .lss), [.t 22, .c (.int .i64 (1))], some 23, some (21, false), []⟩, ⟨.inl .pick, [.t 21, .c (.bool true), .t 23], some 24, none, []⟩, ⟨.inl .mov, [.t 24], some 25, none, []⟩, ⟨.inl .mov, [.t 0], some 26, some (25, false), []⟩, ⟨.inl .mov, [.t 2], some 27, some (25, false), []⟩, ⟨.inl (.bin .geq), [.t 26, .t 27], some 28, some (25, false), []⟩, ⟨.inl .pick, [.t 25, .c (.bool true), .t 28], some 29, none, []⟩, ⟨.inl .mov, [.t 29], some 30, none, []⟩, ⟨.inl .mov, [.t 1], some 31, some (30, false), []⟩, ⟨.inl (.bin .lss), [.t 31, .c (.int .i64 (1))], some 32, some (30, false), []⟩, ⟨.inl .pick, [.t 30, .c (.bool true), .t 32], some 33, none, []⟩, ⟨.inl .mov, [.t 33], some 34, none, []⟩, ⟨.inl .mov, [.t 1], some 35, some (34, false), []⟩, ⟨.inl .mov, [.t 2], some 36, some (34, false), []⟩, ⟨.inl (.bin .geq), [.t 35, .t 36], some 37, some (34, false), []⟩, ⟨.inl .pick, [.t 34, .c (.bool true), .t 37], some 38, none, []⟩] none)
 (.cond (.t 38) st23_0 .skip))

def sq23_24 : AC := (.seq .skip (.seq sp23_23
 (.seq (.reg [⟨.inl .mov, [.c (.int .i64 (1))], some 8, none, []⟩] none)
 (.seq (.block 0 (.loop lb23_3))
 sq23_22))))

/-- olivette/prime.Log -/
def af23 : AFunc := ⟨3,
 (.seq (.reg [⟨.inl .mov, [.c (.int .i64 (0))], some 6, none, []⟩, ⟨.inl .mov, [.c (.int .i64 (0))], some 7, none, []⟩] none)
 sq23_24),
 [.t 6, .t 7]⟩

def sq24_0 : AC := (.block 3 (.reg [⟨.inl .mov, [.t 5], some 42, none, []⟩, ⟨.inl .mov, [.t 6], some 43, none, []⟩, ⟨.inl .mov, [.t 7], some 44, none, []⟩, ⟨.inl (.idxA 2), [.t 43, .t 44], some 45, none, []⟩, ⟨.inl (.fldA 0), [.t 45], some 46, none, []⟩, ⟨.inl (.ld false 1), [.t 46], some 47, none, []⟩, ⟨.inl (.bin .quo), [.t 42, .t 47], some 48, none, []⟩, ⟨.inl .mov, [.t 48], some 5, none, []⟩] none))

def sp24_1 : AC := (.seq (.reg [⟨.inl .mov, [.t 5], some 19, none, []⟩, ⟨.inl .mov, [.t 6], some 20, none, []⟩, ⟨.inl .mov, [.t 7], some 21, none, []⟩, ⟨.inl (.idxA 2), [.t 20, .t 21], some 22, none, []⟩, ⟨.inl (.fldA 0), [.t 22], some 23, none, []⟩, ⟨.inl (.ld false 1), [.t 23], some 24, none, []⟩, ⟨.inl (.bin .rem), [.t 19, .t 24], some 25, none, []⟩, ⟨.inl (.bin .eql), [.t 25, .c (.int .i64 (0))], some 26, none, []⟩, ⟨.inl .mov, [.t 26], some 27, none, []⟩, ⟨.inl .mov, [.t 0], some 28, some (27, true), []⟩, ⟨.inl .mov, [.t 5], some 29, some (27, true), []⟩, ⟨.inl .mov, [.t 6], some 30, some (27, true), []⟩, ⟨.inl .mov, [.t 7], some 31, some (27, true), []⟩, ⟨.inl (.idxA 2), [.t 30, .t 31], some 32, some (27, true), []⟩, ⟨.inl (.fldA 0), [.t 32], some 33, some (27, true), []⟩, ⟨.inl (.ld false 1), [.t 33], some 34, some (27, true), []⟩, ⟨.inl (.bin .quo), [.t 29, .t 34], some 35, some (27, true), []⟩, ⟨.inl .mov, [.t 1], some 36, some (27, true), []⟩, ⟨.inr (.call true true 22), [.t 28, .t 35, .t 36], some 37, some (27, true), []⟩, ⟨.inl .mov, [.t 1], some 38, some (27, true), []⟩, ⟨.inl (.bin .rem), [.c (.int .i64 (1)), .t 38], some 39, some (27, true), []⟩, ⟨.inl (.bin .eql), [.t 37, .t 39], some 40, some (27, true), []⟩, ⟨.inl .pick, [.t 27, .t 40, .c (.bool false)], some 41, none, []⟩] (some ([0, 1, 2, 3, 4, 5, 6, 7, 8, 9, 10, 11, 12, 13, 14, 15, 16, 17, 18, 19, 20, 21, 22], [], [0, 0, 0, 6, 14, 30, 63, 127, 255, 511, 511, 511, 511, 6655, 14847, 31231, 65023, 511, 262143, 511, 524799, 2097151, 4194303])))
 (.cond (.t 41) .skip (.exit 2)))

def lb24_2 : AC := (.pre [0, 1, 5, 6, 7] (.seq sp24_1
 sq24_0))

def sq24_3 : AC := (.pre [0, 1, 5, 6, 7] (.reg [⟨.inl .mov, [.t 7], some 17, none, []⟩, ⟨.inl (.bin .add), [.t 17, .c (.int .i64 (1))], some 18, none, []⟩, ⟨.inl .mov, [.t 18], some 7, none, []⟩] none))

def sp24_4 : AC := (.seq (.reg [⟨.inl .mov, [.t 7], some 13, none, []⟩, ⟨.inl .mov, [.t 6], some 14, none, []⟩, ⟨.inl .len, [.t 14], some 15, none, []⟩, ⟨.inl (.bin .lss), [.t 13, .t 15], some 16, none, []⟩] none)
 (.cond (.t 16) .skip (.exit 0)))

def lb24_5 : AC := (.pre [0, 1, 5, 6, 7] (.seq sp24_4
 (.seq (.block 1 (.block 2 (.loop lb24_2)))
 sq24_3)))

def sq24_6 : AC := (.seq (.seq (.reg [⟨.inl .mov, [.c (.int .i64 (0))], some 7, none, []⟩] none)
 (.block 0 (.loop lb24_5)))
 (.pre [5] (.seq (.reg [⟨.inl .mov, [.t 5], some 49, none, []⟩, ⟨.inl .mov, [.t 49], some 4, none, []⟩] none)
 .ret)))

def sq24_7 : AC := (.seq (.reg [⟨.inl .mov, [.t 1], some 10, none, []⟩, ⟨.inl (.bin .sub), [.t 10, .c (.int .i64 (1))], some 11, none, []⟩, ⟨.inr (.call true true 19), [.t 11], some 12, none, []⟩, ⟨.inl .mov, [.t 12], some 6, none, []⟩] none)
 sq24_6)

def sq24_8 : AC := (.seq (.reg [⟨.inl .mov, [.t 1], some 8, none, []⟩, ⟨.inl (.bin .sub), [.t 8, .c (.int .i64 (1))], some 9, none, []⟩, ⟨.inl .mov, [.t 9], some 5, none, []⟩] none)
 sq24_7)

/-- olivette/olivetteref01.Order -/
def af24 : AFunc := ⟨2,
 (.seq (.reg [⟨.inl .mov, [.c (.int .i64 (0))], some 4, none, []⟩] none)
 sq24_8),
 [.t 4]⟩

def st25_0 : AC := (.seq (.reg [⟨.inl .mov, [.c (.int .i64 (0))], some 4, none, []⟩, ⟨.inl .mov, [.c (.int .i64 (0))], some 5, none, []⟩, ⟨.inl .mov, [.c (.int .i64 (2))], some 6, none, []⟩] none)
 .ret)

def st25_1 : AC := (.seq (.reg [⟨.inl .mov, [.c (.int .i64 (0))], some 4, none, []⟩, ⟨.inl .mov, [.c (.int .i64 (0))], some 5, none, []⟩, ⟨.inl .mov, [.c (.int .i64 (2))], some 6, none, []⟩] none)
 .ret)

def st25_2 : AC := (.seq (.reg [⟨.inl .mov, [.c (.int .i64 (0))], some 4, none, []⟩, ⟨.inl .mov, [.c (.int .i64 (0))], some 5, none, []⟩, ⟨.inl .mov, [.c (.int .i64 (2))], some 6, none, []⟩] none)
 .ret)

def sq25_3 : AC := (.reg [⟨.inl .mov, [.t 13], some 75, none, []⟩, ⟨.inl (.conv .i64), [.t 75], some 76, none, []⟩, ⟨.inl .mov, [.t 76], some 7, none, []⟩] none)

def sp25_4 : AC := (.seq (.reg [⟨.inl .mov, [.t 12], some 69, none, []⟩, ⟨.inl (.bin .gtr), [.t 69, .c (.int .u64 (0))], some 70, none, []⟩, ⟨.inl .mov, [.t 70], some 71, none, []⟩, ⟨.inl .mov, [.t 13], some 72, some (71, false), []⟩, ⟨.inl (.bin .gtr), [.t 72, .c (.int .u64 (4611686018427387904))], some 73, some (71, false), []⟩, ⟨.inl .pick, [.t 71, .c (.bool true), .t 73], some 74, none, []⟩] none)
 (.cond (.t 74) st25_2 .skip))

def sq25_5 : AC := (.seq (.reg [⟨.inl .mov, [.t 7], some 57, none, []⟩, ⟨.inl (.conv .u64), [.t 57], some 58, none, []⟩, ⟨.inl .mov, [.t 1], some 59, none, []⟩, ⟨.inl .mov, [.t 8], some 60, none, []⟩, ⟨.inl (.idxA 1), [.t 59, .t 60], some 61, none, []⟩, ⟨.inl (.ld false 1), [.t 61], some 62, none, []⟩, ⟨.inl .mov, [.t 10], some 63, none, []⟩, ⟨.inl (.bin .quo), [.t 62, .t 63], some 64, none, []⟩, ⟨.inl (.conv .u64), [.t 64], some 65, none, []⟩, ⟨.inr (.call true true 51), [.t 58, .t 65], some 66, none, []⟩, ⟨.inl .mov, [.t 66], some 56, none, []⟩, ⟨.inl (.ext 0), [.t 56], some 67, none, []⟩, ⟨.inl (.ext 1), [.t 56], some 68, none, []⟩, ⟨.inl .mov, [.t 67], some 12, none, []⟩, ⟨.inl .mov, [.t 68], some 13, none, []⟩] none)
 (.seq sp25_4
 sq25_3))

def sq25_6 : AC := (.seq (.reg [⟨.inl .mov, [.t 7], some 48, none, []⟩, ⟨.inl .mov, [.t 1], some 49, none, []⟩, ⟨.inl .mov, [.t 8], some 50, none, []⟩, ⟨.inl (.idxA 1), [.t 49, .t 50], some 51, none, []⟩, ⟨.inl (.ld false 1), [.t 51], some 52, none, []⟩, ⟨.inr (.call true true 50), [.t 48, .t 52], some 53, none, []⟩, ⟨.inl .mov, [.t 53], some 47, none, []⟩, ⟨.inl (.ext 0), [.t 47], some 54, none, []⟩, ⟨.inl (.ext 1), [.t 47], some 55, none, []⟩, ⟨.inl .mov, [.t 54], some 10, none, []⟩, ⟨.inl .mov, [.t 55], some 11, none, []⟩] none)
 sq25_5)
end Go.AM.Pr
