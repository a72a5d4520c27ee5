/- The functions as the abstract machine has them. -/
import Derived.Test.YtbjkmejlecoebaaM3
/- Printed by wip/tools/gen.py: the functions as the abstract machine has them. -/
namespace Go.AM.Pr
def st3_0 : AC := (.seq (.reg [⟨.inl .mov, [.t 3], some 15, none, []⟩, ⟨.inl .len, [.t 15], some 16, none, []⟩, ⟨.inl (.bin .eql), [.t 16, .c (.int .i64 (0))], some 17, none, []⟩, ⟨.inl .mov, [.t 17], some 18, none, []⟩, ⟨.inl .mov, [.t 4], some 19, some (18, true), []⟩, ⟨.inl (.bin .eql), [.t 19, .c (.int .i64 (2))], some 20, some (18, true), []⟩, ⟨.inl .pick, [.t 18, .t 20, .c (.bool false)], some 21, none, []⟩, ⟨.inl .mov, [.t 21], some 22, none, []⟩, ⟨.inr (.call true true 18), [], some 23, some (22, true), []⟩, ⟨.inl .pick, [.t 22, .t 23, .c (.bool false)], some 24, none, []⟩, ⟨.inl .mov, [.t 24], some 2, none, []⟩] none)
 .ret)

def sq3_1 : AC := (.reg [⟨.inl .mov, [.t 6], some 40, none, []⟩, ⟨.inl (.bin .add), [.t 40, .c (.int .i64 (1))], some 41, none, []⟩, ⟨.inl .mov, [.t 41], some 6, none, []⟩] none)

def sp3_2 : AC := (.block 1 (.seq (.reg [⟨.inl .mov, [.t 3], some 42, none, []⟩, ⟨.inl .mov, [.t 6], some 43, none, []⟩, ⟨.inl (.idxA 2), [.t 42, .t 43], some 44, none, []⟩, ⟨.inl (.ld true 2), [.t 44], some 45, none, []⟩, ⟨.inl .mov, [.t 5], some 46, none, []⟩, ⟨.inl .mov, [.t 6], some 47, none, []⟩, ⟨.inl (.idxA 2), [.t 46, .t 47], some 48, none, []⟩, ⟨.inl (.ld true 2), [.t 48], some 49, none, []⟩, ⟨.inl (.eqagg true [some .i64, some .i64]), [.t 45, .t 49], some 50, none, []⟩] (some ([0, 1, 2, 3, 4, 5, 6, 7, 8], [], [0, 0, 3, 7, 0, 0, 48, 112, 255])))
 (.cond (.t 50) (.seq (.reg [⟨.inl .mov, [.c (.bool false)], some 2, none, []⟩] none)
 .ret) .skip)))

def sp3_3 : AC := (.seq (.reg [⟨.inl .mov, [.t 6], some 36, none, []⟩, ⟨.inl .mov, [.t 3], some 37, none, []⟩, ⟨.inl .len, [.t 37], some 38, none, []⟩, ⟨.inl (.bin .lss), [.t 36, .t 38], some 39, none, []⟩] none)
 (.cond (.t 39) .skip (.exit 0)))

def lb3_4 : AC := (.pre [3, 5, 6] (.seq sp3_3
 (.seq sp3_2
 sq3_1)))

def sq3_5 : AC := (.pre [] (.seq (.reg [⟨.inr (.call true true 18), [], some 51, none, []⟩, ⟨.inl .mov, [.t 51], some 2, none, []⟩] none)
 .ret))

def sp3_6 : AC := (.seq (.reg [⟨.inl .mov, [.t 4], some 27, none, []⟩, ⟨.inl (.bin .neq), [.t 27, .c (.int .i64 (0))], some 28, none, []⟩, ⟨.inl .mov, [.t 28], some 29, none, []⟩, ⟨.inl .mov, [.t 3], some 30, some (29, false), []⟩, ⟨.inl .len, [.t 30], some 31, some (29, false), []⟩, ⟨.inl .mov, [.t 5], some 32, some (29, false), []⟩, ⟨.inl .len, [.t 32], some 33, some (29, false), []⟩, ⟨.inl (.bin .neq), [.t 31, .t 33], some 34, some (29, false), []⟩, ⟨.inl .pick, [.t 29, .c (.bool true), .t 34], some 35, none, []⟩] none)
 (.cond (.t 35) (.seq (.reg [⟨.inl .mov, [.c (.bool false)], some 2, none, []⟩] none)
 .ret) .skip))

def sq3_7 : AC := (.seq sp3_6
 (.seq (.seq (.reg [⟨.inl .mov, [.c (.int .i64 (0))], some 6, none, []⟩] none)
 (.block 0 (.loop lb3_4)))
 sq3_5))

def sq3_8 : AC := (.seq (.reg [⟨.inl .mov, [.t 0], some 25, none, []⟩, ⟨.inr (.call true true 19), [.t 25], some 26, none, []⟩, ⟨.inl .mov, [.t 26], some 5, none, []⟩] none)
 sq3_7)

def sp3_9 : AC := (.seq (.reg [⟨.inl .mov, [.t 0], some 12, none, []⟩, ⟨.inr (.call true true 17), [.t 12], some 13, none, []⟩, ⟨.inl (.un .not), [.t 13], some 14, none, []⟩] none)
 (.cond (.t 14) st3_0 .skip))

def sq3_10 : AC := (.seq (.reg [⟨.inl .mov, [.t 0], some 8, none, []⟩, ⟨.inr (.call true true 16), [.t 8], some 9, none, []⟩, ⟨.inl .mov, [.t 9], some 7, none, []⟩, ⟨.inl (.ext 0), [.t 7], some 10, none, []⟩, ⟨.inl (.ext 1), [.t 7], some 11, none, []⟩, ⟨.inl .mov, [.t 10], some 3, none, []⟩, ⟨.inl .mov, [.t 11], some 4, none, []⟩] none)
 (.seq sp3_9
 sq3_8))

/-- olivette/olivettelaw01.PrimeFactors -/
def af3 : AFunc := ⟨1,
 (.seq (.reg [⟨.inl .mov, [.c (.bool false)], some 2, none, []⟩] none)
 sq3_10),
 [.t 2]⟩

def sq6_0 : AC := (.seq (.reg [⟨.inl .mov, [.t 9], some 49, none, []⟩, ⟨.inl .mov, [.t 12], some 50, none, []⟩, ⟨.inl (.bin .eql), [.t 49, .t 50], some 51, none, []⟩, ⟨.inl .mov, [.t 51], some 52, none, []⟩, ⟨.inl .mov, [.t 10], some 53, some (52, true), []⟩, ⟨.inl .mov, [.t 13], some 54, some (52, true), []⟩, ⟨.inl (.bin .eql), [.t 53, .t 54], some 55, some (52, true), []⟩, ⟨.inl .pick, [.t 52, .t 55, .c (.bool false)], some 56, none, []⟩, ⟨.inl .mov, [.t 56], some 57, none, []⟩, ⟨.inl .mov, [.t 11], some 58, some (57, true), []⟩, ⟨.inl .mov, [.t 14], some 59, some (57, true), []⟩, ⟨.inl (.bin .eql), [.t 58, .t 59], some 60, some (57, true), []⟩, ⟨.inl .pick, [.t 57, .t 60, .c (.bool false)], some 61, none, []⟩, ⟨.inl .mov, [.t 61], some 62, none, []⟩, ⟨.inl .mov, [.t 7], some 63, some (62, true), []⟩, ⟨.inl .mov, [.t 5], some 64, some (62, true), []⟩, ⟨.inr (.call true true 27), [.t 63, .t 64], some 65, some (62, true), []⟩, ⟨.inl .pick, [.t 62, .t 65, .c (.bool false)], some 66, none, []⟩, ⟨.inl .mov, [.t 66], some 67, none, []⟩, ⟨.inl .mov, [.t 8], some 68, some (67, true), []⟩, ⟨.inl .mov, [.t 6], some 69, some (67, true), []⟩, ⟨.inr (.call true true 27), [.t 68, .t 69], some 70, some (67, true), []⟩, ⟨.inl .pick, [.t 67, .t 70, .c (.bool false)], some 71, none, []⟩, ⟨.inl .mov, [.t 71], some 72, none, []⟩, ⟨.inr (.call true true 18), [], some 73, some (72, true), []⟩, ⟨.inl .pick, [.t 72, .t 73, .c (.bool false)], some 74, none, []⟩, ⟨.inl .mov, [.t 74], some 4, none, []⟩] none)
 .ret)

def sq6_1 : AC := (.seq (.reg [⟨.inl .mov, [.t 5], some 43, none, []⟩, ⟨.inl .mov, [.t 6], some 44, none, []⟩, ⟨.inr (.call true true 26), [.t 43, .t 44], some 45, none, []⟩, ⟨.inl .mov, [.t 45], some 42, none, []⟩, ⟨.inl (.ext 0), [.t 42], some 46, none, []⟩, ⟨.inl (.ext 1), [.t 42], some 47, none, []⟩, ⟨.inl (.ext 2), [.t 42], some 48, none, []⟩, ⟨.inl .mov, [.t 46], some 12, none, []⟩, ⟨.inl .mov, [.t 47], some 13, none, []⟩, ⟨.inl .mov, [.t 48], some 14, none, []⟩] none)
 sq6_0)

def sq6_2 : AC := (.seq (.reg [⟨.inl .mov, [.t 7], some 36, none, []⟩, ⟨.inl .mov, [.t 8], some 37, none, []⟩, ⟨.inr (.call true true 25), [.t 36, .t 37], some 38, none, []⟩, ⟨.inl .mov, [.t 38], some 35, none, []⟩, ⟨.inl (.ext 0), [.t 35], some 39, none, []⟩, ⟨.inl (.ext 1), [.t 35], some 40, none, []⟩, ⟨.inl (.ext 2), [.t 35], some 41, none, []⟩, ⟨.inl .mov, [.t 39], some 9, none, []⟩, ⟨.inl .mov, [.t 40], some 10, none, []⟩, ⟨.inl .mov, [.t 41], some 11, none, []⟩] none)
 sq6_1)

def sq6_3 : AC := (.seq (.reg [⟨.inl .mov, [.t 8], some 32, none, []⟩, ⟨.inl .mov, [.t 6], some 33, none, []⟩, ⟨.inr (.app true 1 8), [.t 32, .t 33], some 34, none, []⟩, ⟨.inl .mov, [.t 34], some 8, none, []⟩] none)
 sq6_2)

def sq6_4 : AC := (.seq (.reg [⟨.inl .mov, [.t 7], some 29, none, []⟩, ⟨.inl .mov, [.t 5], some 30, none, []⟩, ⟨.inr (.app true 1 8), [.t 29, .t 30], some 31, none, []⟩, ⟨.inl .mov, [.t 31], some 7, none, []⟩] none)
 sq6_3)

def sq6_5 : AC := (.seq (.reg [⟨.inl .mov, [.t 6], some 22, none, []⟩, ⟨.inl .mov, [.t 1], some 23, none, []⟩, ⟨.inl .mov, [.t 1], some 24, none, []⟩, ⟨.inl .len, [.t 24], some 25, none, []⟩, ⟨.inl .mn, [.t 25, .c (.int .i64 (40))], some 26, none, []⟩, ⟨.inl (.slc 1 false true), [.t 23, .t 26], some 27, none, []⟩, ⟨.inr (.app true 1 8), [.t 22, .t 27], some 28, none, []⟩, ⟨.inl .mov, [.t 28], some 6, none, []⟩] none)
 sq6_4)

def sq6_6 : AC := (.seq (.reg [⟨.inl .mov, [.t 5], some 15, none, []⟩, ⟨.inl .mov, [.t 0], some 16, none, []⟩, ⟨.inl .mov, [.t 0], some 17, none, []⟩, ⟨.inl .len, [.t 17], some 18, none, []⟩, ⟨.inl .mn, [.t 18, .c (.int .i64 (40))], some 19, none, []⟩, ⟨.inl (.slc 1 false true), [.t 16, .t 19], some 20, none, []⟩, ⟨.inr (.app true 1 8), [.t 15, .t 20], some 21, none, []⟩, ⟨.inl .mov, [.t 21], some 5, none, []⟩] none)
 sq6_5)

def sq6_7 : AC := (.seq (.reg [⟨.inl .mov, [.c (.nilS)], some 5, none, []⟩, ⟨.inl .mov, [.c (.nilS)], some 6, none, []⟩, ⟨.inl .mov, [.c (.nilS)], some 7, none, []⟩, ⟨.inl .mov, [.c (.nilS)], some 8, none, []⟩] none)
 sq6_6)

/-- olivette/olivettelaw01.PrimeCommon -/
def af6 : AFunc := ⟨2,
 (.seq (.reg [⟨.inl .mov, [.c (.bool false)], some 4, none, []⟩] none)
 sq6_7),
 [.t 4]⟩

def st10_0 : AC := (.seq (.reg [⟨.inl .mov, [.t 3], some 14, none, []⟩, ⟨.inl (.bin .eql), [.t 14, .c (.int .i64 (0))], some 15, none, []⟩, ⟨.inl .mov, [.t 15], some 16, none, []⟩, ⟨.inl .mov, [.t 4], some 17, some (16, true), []⟩, ⟨.inl (.bin .eql), [.t 17, .c (.int .i64 (2))], some 18, some (16, true), []⟩, ⟨.inl .pick, [.t 16, .t 18, .c (.bool false)], some 19, none, []⟩, ⟨.inl .mov, [.t 19], some 20, none, []⟩, ⟨.inr (.call true true 18), [], some 21, some (20, true), []⟩, ⟨.inl .pick, [.t 20, .t 21, .c (.bool false)], some 22, none, []⟩, ⟨.inl .mov, [.t 22], some 2, none, []⟩] none)
 .ret)

def sq10_1 : AC := (.reg [⟨.inl .mov, [.t 5], some 49, none, []⟩, ⟨.inl (.bin .add), [.t 49, .c (.int .i64 (1))], some 50, none, []⟩, ⟨.inl .mov, [.t 50], some 5, none, []⟩] none)

def sp10_2 : AC := (.block 1 (.seq (.reg [⟨.inl .mov, [.t 5], some 51, none, []⟩, ⟨.inl .mov, [.t 0], some 52, none, []⟩, ⟨.inr (.call true true 24), [.t 51, .t 52], some 53, none, []⟩, ⟨.inl .mov, [.t 0], some 54, none, []⟩, ⟨.inl (.bin .sub), [.t 54, .c (.int .i64 (1))], some 55, none, []⟩, ⟨.inl (.bin .eql), [.t 53, .t 55], some 56, none, []⟩] none)
 (.cond (.t 56) (.seq (.reg [⟨.inl .mov, [.c (.bool false)], some 2, none, []⟩] none)
 .ret) .skip)))

def sp10_3 : AC := (.seq (.reg [⟨.inl .mov, [.t 5], some 42, none, []⟩, ⟨.inl .mov, [.t 3], some 43, none, []⟩, ⟨.inl (.bin .lss), [.t 42, .t 43], some 44, none, []⟩, ⟨.inl .mov, [.t 44], some 45, none, []⟩, ⟨.inl .mov, [.t 5], some 46, some (45, true), []⟩, ⟨.inl (.bin .lss), [.t 46, .c (.int .i64 (300))], some 47, some (45, true), []⟩, ⟨.inl .pick, [.t 45, .t 47, .c (.bool false)], some 48, none, []⟩] none)
 (.cond (.t 48) .skip (.exit 0)))

def lb10_4 : AC := (.pre [0, 3, 5] (.seq sp10_3
 (.seq sp10_2
 sq10_1)))

def sq10_5 : AC := (.pre [] (.seq (.reg [⟨.inr (.call true true 18), [], some 57, none, []⟩, ⟨.inl .mov, [.t 57], some 2, none, []⟩] none)
 .ret))

def sp10_6 : AC := (.seq (.reg [⟨.inl .mov, [.t 4], some 23, none, []⟩, ⟨.inl (.bin .neq), [.t 23, .c (.int .i64 (0))], some 24, none, []⟩, ⟨.inl .mov, [.t 24], some 25, none, []⟩, ⟨.inl .mov, [.t 3], some 26, some (25, false), []⟩, ⟨.inl (.bin .lss), [.t 26, .c (.int .i64 (1))], some 27, some (25, false), []⟩, ⟨.inl .pick, [.t 25, .c (.bool true), .t 27], some 28, none, []⟩, ⟨.inl .mov, [.t 28], some 29, none, []⟩, ⟨.inl .mov, [.t 3], some 30, some (29, false), []⟩, ⟨.inl .mov, [.t 0], some 31, some (29, false), []⟩, ⟨.inl (.bin .geq), [.t 30, .t 31], some 32, some (29, false), []⟩, ⟨.inl .pick, [.t 29, .c (.bool true), .t 32], some 33, none, []⟩, ⟨.inl .mov, [.t 33], some 34, none, []⟩, ⟨.inl .mov, [.t 3], some 35, some (34, false), []⟩, ⟨.inl .mov, [.t 0], some 36, some (34, false), []⟩, ⟨.inr (.call true true 24), [.t 35, .t 36], some 37, some (34, false), []⟩, ⟨.inl .mov, [.t 0], some 38, some (34, false), []⟩, ⟨.inl (.bin .sub), [.t 38, .c (.int .i64 (1))], some 39, some (34, false), []⟩, ⟨.inl (.bin .neq), [.t 37, .t 39], some 40, some (34, false), []⟩, ⟨.inl .pick, [.t 34, .c (.bool true), .t 40], some 41, none, []⟩] none)
 (.cond (.t 41) (.seq (.reg [⟨.inl .mov, [.c (.bool false)], some 2, none, []⟩] none)
 .ret) .skip))

def sq10_7 : AC := (.seq sp10_6
 (.seq (.seq (.reg [⟨.inl .mov, [.c (.int .i64 (1))], some 5, none, []⟩] none)
 (.block 0 (.loop lb10_4)))
 sq10_5))

def sp10_8 : AC := (.seq (.reg [⟨.inl .mov, [.t 0], some 11, none, []⟩, ⟨.inr (.call true true 21), [.t 11], some 12, none, []⟩, ⟨.inl (.un .not), [.t 12], some 13, none, []⟩] none)
 (.cond (.t 13) st10_0 .skip))

def sq10_9 : AC := (.seq (.reg [⟨.inl .mov, [.t 0], some 7, none, []⟩, ⟨.inr (.call true true 32), [.t 7], some 8, none, []⟩, ⟨.inl .mov, [.t 8], some 6, none, []⟩, ⟨.inl (.ext 0), [.t 6], some 9, none, []⟩, ⟨.inl (.ext 1), [.t 6], some 10, none, []⟩, ⟨.inl .mov, [.t 9], some 3, none, []⟩, ⟨.inl .mov, [.t 10], some 4, none, []⟩] none)
 (.seq sp10_8
 sq10_7))

/-- olivette/olivettelaw01.PrimeGenerators -/
def af10 : AFunc := ⟨1,
 (.seq (.reg [⟨.inl .mov, [.c (.bool false)], some 2, none, []⟩] none)
 sq10_9),
 [.t 2]⟩

def st13_0 : AC := (.seq (.reg [⟨.inl (.fldA 0), [.t 3], some 13, none, []⟩, ⟨.inl (.ld false 1), [.t 13], some 14, none, []⟩, ⟨.inl (.bin .eql), [.t 14, .c (.int .i64 (0))], some 15, none, []⟩, ⟨.inl .mov, [.t 15], some 16, none, []⟩, ⟨.inl (.fldA 1), [.t 3], some 17, some (16, true), []⟩, ⟨.inl (.ld false 1), [.t 17], some 18, some (16, true), []⟩, ⟨.inl .len, [.t 18], some 19, some (16, true), []⟩, ⟨.inl (.bin .eql), [.t 19, .c (.int .i64 (0))], some 20, some (16, true), []⟩, ⟨.inl .pick, [.t 16, .t 20, .c (.bool false)], some 21, none, []⟩, ⟨.inl .mov, [.t 21], some 22, none, []⟩, ⟨.inl .mov, [.t 4], some 23, some (22, true), []⟩, ⟨.inl (.bin .eql), [.t 23, .c (.int .i64 (2))], some 24, some (22, true), []⟩, ⟨.inl .pick, [.t 22, .t 24, .c (.bool false)], some 25, none, []⟩, ⟨.inl .mov, [.t 25], some 26, none, []⟩, ⟨.inl .mov, [.t 0], some 27, some (26, true), []⟩, ⟨.inl (.ld true 2), [.t 3], some 28, some (26, true), []⟩, ⟨.inr (.call true true 38), [.t 27, .t 28], some 29, some (26, true), []⟩, ⟨.inl (.bin .eql), [.t 29, .c (.int .i64 (2))], some 30, some (26, true), []⟩, ⟨.inl .pick, [.t 26, .t 30, .c (.bool false)], some 31, none, []⟩, ⟨.inl .mov, [.t 31], some 32, none, []⟩, ⟨.inr (.call true true 18), [], some 33, some (32, true), []⟩, ⟨.inl .pick, [.t 32, .t 33, .c (.bool false)], some 34, none, []⟩, ⟨.inl .mov, [.t 34], some 2, none, []⟩] none)
 .ret)

def sq13_1 : AC := (.seq (.reg [⟨.inl .mov, [.t 4], some 35, none, []⟩, ⟨.inl (.bin .eql), [.t 35, .c (.int .i64 (0))], some 36, none, []⟩, ⟨.inl .mov, [.t 36], some 37, none, []⟩, ⟨.inl .mov, [.t 0], some 38, some (37, true), []⟩, ⟨.inl (.ld true 2), [.t 3], some 39, some (37, true), []⟩, ⟨.inr (.call true true 31), [.t 38, .t 39], some 40, some (37, true), []⟩, ⟨.inl .pick, [.t 37, .t 40, .c (.bool false)], some 41, none, []⟩, ⟨.inl .mov, [.t 41], some 42, none, []⟩, ⟨.inl .mov, [.t 0], some 46, some (42, true), []⟩, ⟨.inr (.call true true 21), [.t 46], some 47, some (42, true), []⟩, ⟨.inl (.fldA 0), [.t 3], some 43, some (42, true), []⟩, ⟨.inl (.ld false 1), [.t 43], some 44, some (42, true), []⟩, ⟨.inl (.bin .eql), [.t 44, .c (.int .i64 (0))], some 45, some (42, true), []⟩, ⟨.inl (.beq false), [.t 45, .t 47], some 48, some (42, true), []⟩, ⟨.inl .pick, [.t 42, .t 48, .c (.bool false)], some 49, none, []⟩, ⟨.inl .mov, [.t 49], some 50, none, []⟩, ⟨.inl .mov, [.t 0], some 51, some (50, true), []⟩, ⟨.inl (.ld true 2), [.t 3], some 52, some (50, true), []⟩, ⟨.inr (.call true true 38), [.t 51, .t 52], some 53, some (50, true), []⟩, ⟨.inl (.bin .eql), [.t 53, .c (.int .i64 (0))], some 54, some (50, true), []⟩, ⟨.inl .pick, [.t 50, .t 54, .c (.bool false)], some 55, none, []⟩, ⟨.inl .mov, [.t 55], some 56, none, []⟩, ⟨.inr (.call true true 18), [], some 57, some (56, true), []⟩, ⟨.inl .pick, [.t 56, .t 57, .c (.bool false)], some 58, none, []⟩, ⟨.inl .mov, [.t 58], some 2, none, []⟩] (some ([0, 1, 2, 3, 4, 5, 6, 7, 11, 12, 8, 9, 10, 13, 14, 15, 16, 17, 18, 19, 20, 21, 22, 23, 24], [], [0, 1, 3, 7, 7, 31, 63, 127, 255, 511, 1023, 255, 2303, 8191, 16383, 32767, 65535, 65535, 262143, 524287, 1048575, 2097151, 4194303, 8388607, 16777215])))
 .ret)

def sp13_2 : AC := (.seq (.reg [⟨.inl .mov, [.t 0], some 10, none, []⟩, ⟨.inr (.call true true 17), [.t 10], some 11, none, []⟩, ⟨.inl (.un .not), [.t 11], some 12, none, []⟩] none)
 (.cond (.t 12) st13_0 .skip))

def sq13_3 : AC := (.seq (.reg [⟨.inl .mov, [.t 0], some 6, none, []⟩, ⟨.inr (.call true true 30), [.t 6], some 7, none, []⟩, ⟨.inl .mov, [.t 7], some 5, none, []⟩, ⟨.inl (.ext 0), [.t 5], some 8, none, []⟩, ⟨.inl (.ext 1), [.t 5], some 9, none, []⟩, ⟨.inr (.alloc false [.int .i64 0, .nilS]), [], some 3, none, []⟩, ⟨.inr (.st 2), [.t 3, .t 8], none, none, []⟩, ⟨.inl .mov, [.t 9], some 4, none, []⟩] none)
 (.seq sp13_2
 sq13_1))

/-- olivette/olivettelaw01.PrimeDecides -/
def af13 : AFunc := ⟨1,
 (.seq (.reg [⟨.inl .mov, [.c (.bool false)], some 2, none, []⟩] none)
 sq13_3),
 [.t 2]⟩

def st14_0 : AC := (.seq (.reg [⟨.inl .mov, [.t 7], some 22, none, []⟩, ⟨.inl (.bin .eql), [.t 22, .c (.int .i64 (2))], some 23, none, []⟩, ⟨.inl .mov, [.t 23], some 24, none, []⟩, ⟨.inr (.call true true 18), [], some 25, some (24, true), []⟩, ⟨.inl .pick, [.t 24, .t 25, .c (.bool false)], some 26, none, []⟩, ⟨.inl .mov, [.t 26], some 4, none, []⟩] none)
 .ret)

def st14_1 : AC := (.seq (.reg [⟨.inl .mov, [.t 7], some 31, none, []⟩, ⟨.inl (.bin .eql), [.t 31, .c (.int .i64 (10))], some 32, none, []⟩, ⟨.inl .mov, [.t 32], some 33, none, []⟩, ⟨.inr (.call true true 18), [], some 34, some (33, true), []⟩, ⟨.inl .pick, [.t 33, .t 34, .c (.bool false)], some 35, none, []⟩, ⟨.inl .mov, [.t 35], some 4, none, []⟩] none)
 .ret)

def sq14_2 : AC := (.seq (.reg [⟨.inl .mov, [.t 7], some 36, none, []⟩, ⟨.inl (.bin .eql), [.t 36, .c (.int .i64 (0))], some 37, none, []⟩, ⟨.inl .mov, [.t 37], some 38, none, []⟩, ⟨.inr (.call true true 18), [], some 39, some (38, true), []⟩, ⟨.inl .pick, [.t 38, .t 39, .c (.bool false)], some 40, none, []⟩, ⟨.inl .mov, [.t 40], some 4, none, []⟩] none)
 .ret)

def sp14_3 : AC := (.seq (.reg [⟨.inl .mov, [.t 0], some 27, none, []⟩, ⟨.inl (.ld true 2), [.t 5], some 28, none, []⟩, ⟨.inr (.call true true 31), [.t 27, .t 28], some 29, none, []⟩, ⟨.inl (.un .not), [.t 29], some 30, none, []⟩] none)
 (.cond (.t 30) st14_1 .skip))

def sp14_4 : AC := (.seq (.reg [⟨.inl .mov, [.t 0], some 19, none, []⟩, ⟨.inr (.call true true 17), [.t 19], some 20, none, []⟩, ⟨.inl (.un .not), [.t 20], some 21, none, []⟩] none)
 (.cond (.t 21) st14_0 .skip))

def sp14_5 : AC := (.seq (.reg [⟨.inl (.ld true 2), [.t 6], some 15, none, []⟩, ⟨.inl (.ld true 2), [.t 5], some 16, none, []⟩, ⟨.inr (.call true true 40), [.t 15, .t 16], some 17, none, []⟩, ⟨.inl (.un .not), [.t 17], some 18, none, []⟩] none)
 (.cond (.t 18) (.seq (.reg [⟨.inl .mov, [.c (.bool false)], some 4, none, []⟩] none)
 .ret) .skip))

def sq14_6 : AC := (.seq (.reg [⟨.inl .mov, [.t 0], some 12, none, []⟩, ⟨.inl (.ld true 2), [.t 6], some 13, none, []⟩, ⟨.inr (.call true true 38), [.t 12, .t 13], some 14, none, []⟩, ⟨.inl .mov, [.t 14], some 7, none, []⟩] none)
 (.seq sp14_5
 (.seq sp14_4
 (.seq sp14_3
 sq14_2))))

def sq14_7 : AC := (.seq (.reg [⟨.inl (.ld true 2), [.t 3], some 8, none, []⟩, ⟨.inr (.call true true 39), [.t 8], some 9, none, []⟩, ⟨.inl (.ld true 2), [.t 3], some 10, none, []⟩, ⟨.inr (.call true true 39), [.t 10], some 11, none, []⟩, ⟨.inr (.alloc false [.int .i64 0, .nilS]), [], some 5, none, []⟩, ⟨.inr (.alloc false [.int .i64 0, .nilS]), [], some 6, none, []⟩, ⟨.inr (.st 2), [.t 5, .t 9], none, none, []⟩, ⟨.inr (.st 2), [.t 6, .t 11], none, none, []⟩] (some ([0, 1, 2, 3, 4, 5, 6, 7], [], [0, 1, 0, 7, 0, 0, 63, 127])))
 sq14_6)

/-- olivette/olivettelaw01.PrimeChecks -/
def af14 : AFunc := ⟨2,
 (.seq (.reg [⟨.inr (.box false), [.t 1], some 3, none, []⟩, ⟨.inl .mov, [.c (.bool false)], some 4, none, []⟩] none)
 sq14_7),
 [.t 4]⟩

def sq15_0 : AC := (.cond (.t 31) (.reg [⟨.inl (.fldA 0), [.t 7], some 32, none, []⟩, ⟨.inr (.st 1), [.t 32, .c (.int .i64 (1))], none, none, []⟩] none) .skip)

def sq15_1 : AC := (.seq (.reg [⟨.inl (.fldA 0), [.t 7], some 29, none, []⟩, ⟨.inl (.ld false 1), [.t 29], some 30, none, []⟩, ⟨.inl (.bin .eql), [.t 30, .c (.int .i64 (0))], some 31, none, []⟩] none)
 sq15_0)

def st15_2 : AC := (.seq (.reg [⟨.inl (.fldA 1), [.t 7], some 28, none, []⟩, ⟨.inr (.st 1), [.t 28, .c (.nilS)], none, none, []⟩] none)
 sq15_1)

def sq15_3 : AC := (.cond (.t 27) st15_2 (.reg [⟨.inl (.fldA 0), [.t 7], some 33, none, []⟩, ⟨.inr (.st 1), [.t 33, .c (.int .i64 (0))], none, none, []⟩] none))

def sq15_4 : AC := (.seq (.reg [⟨.inl .mov, [.t 0], some 34, none, []⟩, ⟨.inl (.ld true 2), [.t 7], some 35, none, []⟩, ⟨.inr (.call true true 38), [.t 34, .t 35], some 36, none, []⟩, ⟨.inl (.bin .eql), [.t 36, .c (.int .i64 (10))], some 37, none, []⟩, ⟨.inl .mov, [.t 37], some 38, none, []⟩, ⟨.inr (.call true true 18), [], some 39, some (38, true), []⟩, ⟨.inl .pick, [.t 38, .t 39, .c (.bool false)], some 40, none, []⟩, ⟨.inl .mov, [.t 40], some 4, none, []⟩] none)
 .ret)

def sp15_5 : AC := (.seq (.reg [⟨.inl (.fldA 0), [.t 5], some 25, none, []⟩, ⟨.inl (.ld false 1), [.t 25], some 26, none, []⟩, ⟨.inl (.bin .eql), [.t 26, .c (.int .i64 (0))], some 27, none, []⟩] none)
 sq15_3)

def sq15_6 : AC := (.seq (.reg [⟨.inl (.ld true 2), [.t 3], some 23, none, []⟩, ⟨.inr (.call true true 39), [.t 23], some 24, none, []⟩, ⟨.inr (.alloc false [.int .i64 0, .nilS]), [], some 7, none, []⟩, ⟨.inr (.st 2), [.t 7, .t 24], none, none, []⟩] none)
 (.seq sp15_5
 sq15_4))

def sp15_7 : AC := (.seq (.reg [⟨.inl .mov, [.t 6], some 15, none, []⟩, ⟨.inl (.bin .neq), [.t 15, .c (.int .i64 (0))], some 16, none, []⟩, ⟨.inl .mov, [.t 16], some 17, none, []⟩, ⟨.inl .mov, [.t 0], some 18, some (17, false), []⟩, ⟨.inl (.ld true 2), [.t 5], some 19, some (17, false), []⟩, ⟨.inr (.call true true 38), [.t 18, .t 19], some 20, some (17, false), []⟩, ⟨.inl (.bin .neq), [.t 20, .c (.int .i64 (0))], some 21, some (17, false), []⟩, ⟨.inl .pick, [.t 17, .c (.bool true), .t 21], some 22, none, []⟩] none)
 (.cond (.t 22) (.seq (.reg [⟨.inl .mov, [.c (.bool false)], some 4, none, []⟩] none)
 .ret) .skip))

def sq15_8 : AC := (.seq (.reg [⟨.inl .mov, [.t 0], some 11, none, []⟩, ⟨.inr (.call true true 30), [.t 11], some 12, none, []⟩, ⟨.inl .mov, [.t 12], some 10, none, []⟩, ⟨.inl (.ext 0), [.t 10], some 13, none, []⟩, ⟨.inl (.ext 1), [.t 10], some 14, none, []⟩, ⟨.inr (.alloc false [.int .i64 0, .nilS]), [], some 5, none, []⟩, ⟨.inr (.st 2), [.t 5, .t 13], none, none, []⟩, ⟨.inl .mov, [.t 14], some 6, none, []⟩] none)
 (.seq sp15_7
 sq15_6))

def sq15_9 : AC := (.seq (.reg [⟨.inl .mov, [.t 0], some 8, none, []⟩, ⟨.inr (.call true true 28), [.t 8, .c (.int .i64 (2147483647))], some 9, none, []⟩, ⟨.inl .mov, [.t 9], some 0, none, []⟩] none)
 sq15_8)

/-- olivette/olivettelaw01.PrimeOnce -/
def af15 : AFunc := ⟨2,
 (.seq (.reg [⟨.inr (.box false), [.t 1], some 3, none, []⟩, ⟨.inl .mov, [.c (.bool false)], some 4, none, []⟩] none)
 sq15_9),
 [.t 4]⟩

def st16_0 : AC := (.seq (.reg [⟨.inl .mov, [.c (.nilS)], some 2, none, []⟩, ⟨.inl .mov, [.c (.int .i64 (2))], some 3, none, []⟩] none)
 .ret)

def sq16_1 : AC := (.seq (.reg [⟨.inl .mov, [.t 0], some 7, none, []⟩, ⟨.inr (.call true true 42), [.t 7], some 8, none, []⟩, ⟨.inl .mov, [.t 8], some 2, none, []⟩, ⟨.inl .mov, [.c (.int .i64 (0))], some 3, none, []⟩] none)
 .ret)

def sp16_2 : AC := (.seq (.reg [⟨.inl .mov, [.t 0], some 4, none, []⟩, ⟨.inr (.call true true 41), [.t 4], some 5, none, []⟩, ⟨.inl (.un .not), [.t 5], some 6, none, []⟩] none)
 (.cond (.t 6) st16_0 .skip))

/-- olivette/prime.Factor -/
def af16 : AFunc := ⟨1,
 (.seq (.reg [⟨.inl .mov, [.c (.nilS)], some 2, none, []⟩, ⟨.inl .mov, [.c (.int .i64 (0))], some 3, none, []⟩] none)
 (.seq sp16_2
 sq16_1)),
 [.t 2, .t 3]⟩

def sq17_0 : AC := (.seq (.reg [⟨.inl .mov, [.t 0], some 3, none, []⟩, ⟨.inl (.bin .geq), [.t 3, .c (.int .i64 (1))], some 4, none, []⟩, ⟨.inl .mov, [.t 4], some 5, none, []⟩, ⟨.inl .mov, [.t 0], some 6, some (5, true), []⟩, ⟨.inl (.bin .leq), [.t 6, .c (.int .i64 (2147483647))], some 7, some (5, true), []⟩, ⟨.inl .pick, [.t 5, .t 7, .c (.bool false)], some 8, none, []⟩, ⟨.inl .mov, [.t 8], some 2, none, []⟩] none)
 .ret)

/-- olivette/olivetteref01.Number -/
def af17 : AFunc := ⟨1,
 (.seq (.reg [⟨.inl .mov, [.c (.bool false)], some 2, none, []⟩] none)
 sq17_0),
 [.t 2]⟩

def sp18_0 : AC := (.seq (.reg [⟨.inl .mov, [.t 2], some 35, none, []⟩, ⟨.inl (.bin .neq), [.t 35, .c (.int .i64 (0))], some 36, none, []⟩, ⟨.inl .mov, [.t 36], some 37, none, []⟩, ⟨.inl .mov, [.t 1], some 38, some (37, false), []⟩, ⟨.inl (.bin .neq), [.t 38, .c (.int .i64 (3))], some 39, some (37, false), []⟩, ⟨.inl .pick, [.t 37, .c (.bool true), .t 39], some 40, none, []⟩, ⟨.inl .mov, [.t 40], some 41, none, []⟩, ⟨.inl .mov, [.t 4], some 42, some (41, false), []⟩, ⟨.inl (.bin .neq), [.t 42, .c (.int .i64 (0))], some 43, some (41, false), []⟩, ⟨.inl .pick, [.t 41, .c (.bool true), .t 43], some 44, none, []⟩, ⟨.inl .mov, [.t 44], some 45, none, []⟩, ⟨.inl .mov, [.t 3], some 46, some (45, false), []⟩, ⟨.inl (.bin .neq), [.t 46, .c (.int .i64 (3))], some 47, some (45, false), []⟩, ⟨.inl .pick, [.t 45, .c (.bool true), .t 47], some 48, none, []⟩, ⟨.inl .mov, [.t 48], some 49, none, []⟩, ⟨.inl .mov, [.t 7], some 50, some (49, false), []⟩, ⟨.inl (.bin .neq), [.t 50, .c (.int .i64 (0))], some 51, some (49, false), []⟩, ⟨.inl .pick, [.t 49, .c (.bool true), .t 51], some 52, none, []⟩, ⟨.inl .mov, [.t 52], some 53, none, []⟩, ⟨.inl .mov, [.t 5], some 54, some (53, false), []⟩, ⟨.inl (.bin .neq), [.t 54, .c (.int .i64 (8))], some 55, some (53, false), []⟩, ⟨.inl .pick, [.t 53, .c (.bool true), .t 55], some 56, none, []⟩, ⟨.inl .mov, [.t 56], some 57, none, []⟩, ⟨.inl .mov, [.t 6], some 58, some (57, false), []⟩, ⟨.inl (.bin .neq), [.t 58, .c (.int .i64 (15))], some 59, some (57, false), []⟩, ⟨.inl .pick, [.t 57, .c (.bool true), .t 59], some 60, none, []⟩, ⟨.inl .mov, [.t 60], some 61, none, []⟩, ⟨.inl .mov, [.t 9], some 62, some (61, false), []⟩, ⟨.inl (.bin .neq), [.t 62, .c (.int .i64 (0))], some 63, some (61, false), []⟩, ⟨.inl .pick, [.t 61, .c (.bool true), .t 63], some 64, none, []⟩, ⟨.inl .mov, [.t 64], some 65, none, []⟩, ⟨.inl (.fldA 0), [.t 8], some 66, some (65, false), []⟩, ⟨.inl (.ld false 1), [.t 66], some 67, some (65, false), []⟩, ⟨.inl (.bin .neq), [.t 67, .c (.int .i64 (3))], some 68, some (65, false), []⟩, ⟨.inl .pick, [.t 65, .c (.bool true), .t 68], some 69, none, []⟩, ⟨.inl .mov, [.t 69], some 70, none, []⟩, ⟨.inl .mov, [.t 11], some 71, some (70, false), []⟩, ⟨.inl (.bin .neq), [.t 71, .c (.int .i64 (0))], some 72, some (70, false), []⟩, ⟨.inl .pick, [.t 70, .c (.bool true), .t 72], some 73, none, []⟩, ⟨.inl .mov, [.t 73], some 74, none, []⟩, ⟨.inl .mov, [.t 10], some 75, some (74, false), []⟩, ⟨.inl .len, [.t 75], some 76, some (74, false), []⟩, ⟨.inl (.bin .neq), [.t 76, .c (.int .i64 (2))], some 77, some (74, false), []⟩, ⟨.inl .pick, [.t 74, .c (.bool true), .t 77], some 78, none, []⟩, ⟨.inl .mov, [.t 78], some 79, none, []⟩, ⟨.inl .mov, [.t 10], some 80, some (79, false), []⟩, ⟨.inl (.idxA 2), [.t 80, .c (.int .i64 (0))], some 81, some (79, false), []⟩, ⟨.inl (.ld true 2), [.t 81], some 82, some (79, false), []⟩, ⟨.inl (.bld [.int .i64 0, .int .i64 0] [(0, 1), (1, 1)]), [.c (.int .i64 (2)), .c (.int .i64 (2))], some 83, some (79, false), []⟩, ⟨.inl (.eqagg true [some .i64, some .i64]), [.t 82, .t 83], some 84, some (79, false), []⟩, ⟨.inl .pick, [.t 79, .c (.bool true), .t 84], some 85, none, []⟩] none)
 (.cond (.t 85) (.seq (.reg [⟨.inl .mov, [.c (.bool false)], some 0, none, []⟩] none)
 .ret) .skip))

def sq18_1 : AC := (.seq (.reg [⟨.inr (.call true true 16), [.c (.int .i64 (12))], some 32, none, []⟩, ⟨.inl .mov, [.t 32], some 31, none, []⟩, ⟨.inl (.ext 0), [.t 31], some 33, none, []⟩, ⟨.inl (.ext 1), [.t 31], some 34, none, []⟩, ⟨.inl .mov, [.t 33], some 10, none, []⟩, ⟨.inl .mov, [.t 34], some 11, none, []⟩] none)
 (.seq sp18_0
 (.seq (.reg [⟨.inl .mov, [.c (.bool true)], some 0, none, []⟩] none)
 .ret)))

def sq18_2 : AC := (.seq (.reg [⟨.inr (.call true true 30), [.c (.int .i64 (9))], some 28, none, []⟩, ⟨.inl .mov, [.t 28], some 27, none, []⟩, ⟨.inl (.ext 0), [.t 27], some 29, none, []⟩, ⟨.inl (.ext 1), [.t 27], some 30, none, []⟩, ⟨.inr (.alloc false [.int .i64 0, .nilS]), [], some 8, none, []⟩, ⟨.inr (.st 2), [.t 8, .t 29], none, none, []⟩, ⟨.inl .mov, [.t 30], some 9, none, []⟩] none)
 sq18_1)

def sq18_3 : AC := (.seq (.reg [⟨.inr (.bldS true true 1 2 [.int .i64 0] [(0, 1), (1, 1)]), [.c (.int .i64 (2)), .c (.int .i64 (3))], some 21, none, []⟩, ⟨.inr (.bldS true true 1 2 [.int .i64 0] [(0, 1), (1, 1)]), [.c (.int .i64 (3)), .c (.int .i64 (5))], some 22, none, []⟩, ⟨.inr (.call true true 25), [.t 21, .t 22], some 23, none, []⟩, ⟨.inl .mov, [.t 23], some 20, none, []⟩, ⟨.inl (.ext 0), [.t 20], some 24, none, []⟩, ⟨.inl (.ext 1), [.t 20], some 25, none, []⟩, ⟨.inl (.ext 2), [.t 20], some 26, none, []⟩, ⟨.inl .mov, [.t 24], some 5, none, []⟩, ⟨.inl .mov, [.t 25], some 6, none, []⟩, ⟨.inl .mov, [.t 26], some 7, none, []⟩] none)
 sq18_2)

def sq18_4 : AC := (.seq (.reg [⟨.inr (.call true true 23), [.c (.int .i64 (3)), .c (.int .i64 (6)), .c (.int .i64 (7))], some 17, none, []⟩, ⟨.inl .mov, [.t 17], some 16, none, []⟩, ⟨.inl (.ext 0), [.t 16], some 18, none, []⟩, ⟨.inl (.ext 1), [.t 16], some 19, none, []⟩, ⟨.inl .mov, [.t 18], some 3, none, []⟩, ⟨.inl .mov, [.t 19], some 4, none, []⟩] none)
 sq18_3)

def sq18_5 : AC := (.seq (.reg [⟨.inr (.call true true 20), [.c (.int .i64 (2)), .c (.int .i64 (7))], some 13, none, []⟩, ⟨.inl .mov, [.t 13], some 12, none, []⟩, ⟨.inl (.ext 0), [.t 12], some 14, none, []⟩, ⟨.inl (.ext 1), [.t 12], some 15, none, []⟩, ⟨.inl .mov, [.t 14], some 1, none, []⟩, ⟨.inl .mov, [.t 15], some 2, none, []⟩] none)
 sq18_4)

/-- olivette/olivettelaw01.awake -/
def af18 : AFunc := ⟨0,
 (.seq (.reg [⟨.inl .mov, [.c (.bool false)], some 0, none, []⟩] none)
 sq18_5),
 [.t 0]⟩

def sq19_0 : AC := (.reg [⟨.inl .mov, [.t 5], some 17, none, []⟩, ⟨.inl (.bin .add), [.t 17, .c (.int .i64 (1))], some 18, none, []⟩, ⟨.inl .mov, [.t 18], some 5, none, []⟩] none)

def sq19_1 : AC := (.block 3 (.seq (.reg [⟨.inl .mov, [.t 0], some 14, none, []⟩, ⟨.inl .mov, [.t 4], some 15, none, []⟩, ⟨.inl (.bin .quo), [.t 14, .t 15], some 16, none, []⟩, ⟨.inl .mov, [.t 16], some 0, none, []⟩] none)
 sq19_0))

def sp19_2 : AC := (.seq (.reg [⟨.inl .mov, [.t 0], some 10, none, []⟩, ⟨.inl .mov, [.t 4], some 11, none, []⟩, ⟨.inl (.bin .rem), [.t 10, .t 11], some 12, none, []⟩, ⟨.inl (.bin .eql), [.t 12, .c (.int .i64 (0))], some 13, none, []⟩] none)
 (.cond (.t 13) .skip (.exit 2)))

def lb19_3 : AC := (.pre [0, 3, 4, 5] (.seq sp19_2
 sq19_1))

def sq19_4 : AC := (.pre [0, 3, 4, 5] (.reg [⟨.inl .mov, [.t 3], some 19, none, []⟩, ⟨.inl .mov, [.t 4], some 20, none, []⟩, ⟨.inl .mov, [.t 5], some 21, none, []⟩, ⟨.inl (.bld [.int .i64 0, .int .i64 0] [(0, 1), (1, 1)]), [.t 20, .t 21], some 22, none, []⟩, ⟨.inr (.bldS true true 2 1 [.int .i64 0, .int .i64 0] [(0, 2)]), [.t 22], some 23, none, []⟩, ⟨.inr (.app false 2 16), [.t 19, .t 23], some 24, none, []⟩, ⟨.inl .mov, [.t 24], some 3, none, []⟩] none))

def sq19_5 : AC := (.block 1 (.seq (.reg [⟨.inl .mov, [.t 0], some 8, none, []⟩, ⟨.inr (.call true true 43), [.t 8], some 9, none, []⟩, ⟨.inl .mov, [.t 9], some 4, none, []⟩] none)
 (.seq (.reg [⟨.inl .mov, [.c (.int .i64 (0))], some 5, none, []⟩] none)
 (.seq (.block 2 (.loop lb19_3))
 sq19_4))))

def sp19_6 : AC := (.seq (.reg [⟨.inl .mov, [.t 0], some 6, none, []⟩, ⟨.inl (.bin .gtr), [.t 6, .c (.int .i64 (1))], some 7, none, []⟩] none)
 (.cond (.t 7) .skip (.exit 0)))

def lb19_7 : AC := (.pre [0, 3] (.seq sp19_6
 sq19_5))

def sq19_8 : AC := (.seq (.block 0 (.loop lb19_7))
 (.pre [3] (.seq (.reg [⟨.inl .mov, [.t 3], some 25, none, []⟩, ⟨.inl .mov, [.t 25], some 2, none, []⟩] none)
 .ret)))

/-- olivette/olivetteref01.Factor -/
def af19 : AFunc := ⟨1,
 (.seq (.reg [⟨.inl .mov, [.c (.nilS)], some 2, none, []⟩] none)
 (.seq (.reg [⟨.inl .mov, [.c (.nilS)], some 3, none, []⟩] none)
 sq19_8)),
 [.t 2]⟩

def st20_0 : AC := (.seq (.reg [⟨.inl .mov, [.c (.int .i64 (0))], some 4, none, []⟩, ⟨.inl .mov, [.c (.int .i64 (2))], some 5, none, []⟩] none)
 .ret)

def st20_1 : AC := (.seq (.reg [⟨.inl .mov, [.t 0], some 22, none, []⟩, ⟨.inl .mov, [.t 22], some 4, none, []⟩, ⟨.inl .mov, [.c (.int .i64 (0))], some 5, none, []⟩] none)
 .ret)

def st20_2 : AC := (.seq (.reg [⟨.inl .mov, [.c (.int .i64 (0))], some 4, none, []⟩, ⟨.inl .mov, [.c (.int .i64 (6))], some 5, none, []⟩] none)
 .ret)

def sq20_3 : AC := (.seq (.reg [⟨.inl .mov, [.t 6], some 31, none, []⟩, ⟨.inl .mov, [.t 1], some 32, none, []⟩, ⟨.inl .mov, [.t 6], some 33, none, []⟩, ⟨.inl (.bin .sub), [.t 32, .t 33], some 34, none, []⟩, ⟨.inl .mov, [.t 1], some 35, none, []⟩, ⟨.inl (.bin .rem), [.t 34, .t 35], some 36, none, []⟩, ⟨.inl .mn, [.t 31, .t 36], some 37, none, []⟩, ⟨.inl .mov, [.t 37], some 4, none, []⟩, ⟨.inl .mov, [.c (.int .i64 (0))], some 5, none, []⟩] none)
 .ret)

def sp20_4 : AC := (.seq (.reg [⟨.inl .mov, [.t 7], some 29, none, []⟩, ⟨.inl (.un .not), [.t 29], some 30, none, []⟩] none)
 (.cond (.t 30) st20_2 .skip))

def sq20_5 : AC := (.seq (.reg [⟨.inl .mov, [.t 0], some 24, none, []⟩, ⟨.inl .mov, [.t 1], some 25, none, []⟩, ⟨.inr (.call true true 45), [.t 24, .t 25], some 26, none, []⟩, ⟨.inl .mov, [.t 26], some 23, none, []⟩, ⟨.inl (.ext 0), [.t 23], some 27, none, []⟩, ⟨.inl (.ext 1), [.t 23], some 28, none, []⟩, ⟨.inl .mov, [.t 27], some 6, none, []⟩, ⟨.inl .mov, [.t 28], some 7, none, []⟩] none)
 (.seq sp20_4
 sq20_3))

def sp20_6 : AC := (.seq (.reg [⟨.inl .mov, [.t 1], some 20, none, []⟩, ⟨.inl (.bin .eql), [.t 20, .c (.int .i64 (2))], some 21, none, []⟩] none)
 (.cond (.t 21) st20_1 .skip))

def sp20_7 : AC := (.seq (.reg [⟨.inl .mov, [.t 1], some 8, none, []⟩, ⟨.inr (.call true true 44), [.t 8], some 9, none, []⟩, ⟨.inl (.un .not), [.t 9], some 10, none, []⟩, ⟨.inl .mov, [.t 10], some 11, none, []⟩, ⟨.inl .mov, [.t 0], some 12, some (11, false), []⟩, ⟨.inl (.bin .lss), [.t 12, .c (.int .i64 (0))], some 13, some (11, false), []⟩, ⟨.inl .pick, [.t 11, .c (.bool true), .t 13], some 14, none, []⟩, ⟨.inl .mov, [.t 14], some 15, none, []⟩, ⟨.inl .mov, [.t 0], some 16, some (15, false), []⟩, ⟨.inl .mov, [.t 1], some 17, some (15, false), []⟩, ⟨.inl (.bin .geq), [.t 16, .t 17], some 18, some (15, false), []⟩, ⟨.inl .pick, [.t 15, .c (.bool true), .t 18], some 19, none, []⟩] none)
 (.cond (.t 19) st20_0 .skip))

/-- olivette/prime.Root -/
def af20 : AFunc := ⟨2,
 (.seq (.reg [⟨.inl .mov, [.c (.int .i64 (0))], some 4, none, []⟩, ⟨.inl .mov, [.c (.int .i64 (0))], some 5, none, []⟩] none)
 (.seq sp20_7
 (.seq sp20_6
 sq20_5))),
 [.t 4, .t 5]⟩

def sq21_0 : AC := (.seq (.reg [⟨.inl .mov, [.t 0], some 3, none, []⟩, ⟨.inr (.call true true 17), [.t 3], some 4, none, []⟩, ⟨.inl .mov, [.t 4], some 5, none, []⟩, ⟨.inl .mov, [.t 0], some 6, some (5, true), []⟩, ⟨.inl (.bin .gtr), [.t 6, .c (.int .i64 (1))], some 7, some (5, true), []⟩, ⟨.inl .pick, [.t 5, .t 7, .c (.bool false)], some 8, none, []⟩, ⟨.inl .mov, [.t 8], some 9, none, []⟩, ⟨.inl .mov, [.t 0], some 10, some (9, true), []⟩, ⟨.inr (.call true true 43), [.t 10], some 11, some (9, true), []⟩, ⟨.inl .mov, [.t 0], some 12, some (9, true), []⟩, ⟨.inl (.bin .eql), [.t 11, .t 12], some 13, some (9, true), []⟩, ⟨.inl .pick, [.t 9, .t 13, .c (.bool false)], some 14, none, []⟩, ⟨.inl .mov, [.t 14], some 2, none, []⟩] none)
 .ret)

/-- olivette/olivetteref01.Prime -/
def af21 : AFunc := ⟨1,
 (.seq (.reg [⟨.inl .mov, [.c (.bool false)], some 2, none, []⟩] none)
 sq21_0),
 [.t 2]⟩

def st22_0 : AC := (.reg [⟨.inl .mov, [.t 7], some 20, none, []⟩, ⟨.inl .mov, [.t 0], some 21, none, []⟩, ⟨.inl (.bin .mul), [.t 20, .t 21], some 22, none, []⟩, ⟨.inl .mov, [.t 2], some 23, none, []⟩, ⟨.inl (.bin .rem), [.t 22, .t 23], some 24, none, []⟩, ⟨.inl .mov, [.t 24], some 7, none, []⟩] none)

def sq22_1 : AC := (.reg [⟨.inl .mov, [.t 0], some 25, none, []⟩, ⟨.inl .mov, [.t 0], some 26, none, []⟩, ⟨.inl (.bin .mul), [.t 25, .t 26], some 27, none, []⟩, ⟨.inl .mov, [.t 2], some 28, none, []⟩, ⟨.inl (.bin .rem), [.t 27, .t 28], some 29, none, []⟩, ⟨.inl .mov, [.t 29], some 0, none, []⟩] none)

def sp22_2 : AC := (.seq (.reg [⟨.inl .mov, [.t 1], some 17, none, []⟩, ⟨.inl (.bin .rem), [.t 17, .c (.int .i64 (2))], some 18, none, []⟩, ⟨.inl (.bin .eql), [.t 18, .c (.int .i64 (1))], some 19, none, []⟩] none)
 (.cond (.t 19) st22_0 .skip))

def sq22_3 : AC := (.reg [⟨.inl .mov, [.t 1], some 15, none, []⟩, ⟨.inl (.bin .quo), [.t 15, .c (.int .i64 (2))], some 16, none, []⟩, ⟨.inl .mov, [.t 16], some 1, none, []⟩] none)

def sp22_4 : AC := (.seq (.reg [⟨.inl .mov, [.t 1], some 13, none, []⟩, ⟨.inl (.bin .gtr), [.t 13, .c (.int .i64 (0))], some 14, none, []⟩] none)
 (.cond (.t 14) .skip (.exit 0)))

def lb22_5 : AC := (.pre [0, 1, 2, 7] (.seq sp22_4
 (.seq (.block 1 (.seq sp22_2
 sq22_1))
 sq22_3)))

def sp22_6 : AC := (.seq (.reg [⟨.inl .mov, [.t 0], some 10, none, []⟩, ⟨.inl .mov, [.t 2], some 11, none, []⟩, ⟨.inl (.bin .rem), [.t 10, .t 11], some 12, none, []⟩, ⟨.inl .mov, [.t 12], some 0, none, []⟩] none)
 (.block 0 (.loop lb22_5)))

def sq22_7 : AC := (.seq sp22_6
 (.pre [7] (.seq (.reg [⟨.inl .mov, [.t 7], some 30, none, []⟩, ⟨.inl .mov, [.t 30], some 6, none, []⟩] none)
 .ret)))

def sq22_8 : AC := (.seq (.reg [⟨.inl .mov, [.t 2], some 8, none, []⟩, ⟨.inl (.bin .rem), [.c (.int .i64 (1)), .t 8], some 9, none, []⟩, ⟨.inl .mov, [.t 9], some 7, none, []⟩] none)
 sq22_7)

/-- olivette/olivetteref01.Power -/
def af22 : AFunc := ⟨3,
 (.seq (.reg [⟨.inl .mov, [.c (.int .i64 (0))], some 6, none, []⟩] none)
 sq22_8),
 [.t 6]⟩

def st23_0 : AC := (.seq (.reg [⟨.inl .mov, [.c (.int .i64 (0))], some 6, none, []⟩, ⟨.inl .mov, [.c (.int .i64 (2))], some 7, none, []⟩] none)
 .ret)

def sq23_1 : AC := (.block 1 (.reg [⟨.inl .mov, [.t 8], some 44, none, []⟩, ⟨.inl (.bin .add), [.t 44, .c (.int .i64 (1))], some 45, none, []⟩, ⟨.inl .mov, [.t 45], some 8, none, []⟩] none))

def sp23_2 : AC := (.seq (.reg [⟨.inl .mov, [.t 8], some 39, none, []⟩, ⟨.inl .mov, [.t 8], some 40, none, []⟩, ⟨.inl (.bin .mul), [.t 39, .t 40], some 41, none, []⟩, ⟨.inl .mov, [.t 2], some 42, none, []⟩, ⟨.inl (.bin .lss), [.t 41, .t 42], some 43, none, []⟩] none)
 (.cond (.t 43) .skip (.exit 0)))

def lb23_3 : AC := (.pre [0, 1, 2, 8] (.seq sp23_2
 sq23_1))

def sq23_4 : AC := (.reg [⟨.inl .mov, [.t 10], some 55, none, []⟩, ⟨.inl .mov, [.t 0], some 56, none, []⟩, ⟨.inl .mov, [.t 2], some 57, none, []⟩, ⟨.inr (.call true true 46), [.t 55, .t 56, .t 57], some 58, none, []⟩, ⟨.inl .mov, [.t 58], some 10, none, []⟩] none)

def sq23_5 : AC := (.seq (.reg [⟨.inl .mov, [.t 9], some 52, none, []⟩, ⟨.inl .mov, [.t 10], some 53, none, []⟩, ⟨.inl .mov, [.t 11], some 54, none, []⟩, ⟨.inr (.upM [some .i64]), [.t 52, .t 53, .t 54], none, none, []⟩] none)
 sq23_4)

def sq23_6 : AC := (.reg [⟨.inl (.bin .add), [.t 49, .c (.int .i64 (1))], some 59, none, []⟩, ⟨.inl .mov, [.t 59], some 49, none, []⟩] none)

def sq23_7 : AC := (.seq (.block 3 (.seq (.reg [⟨.inl .mov, [.t 49], some 51, none, []⟩, ⟨.inl .mov, [.t 51], some 11, none, []⟩] none)
 sq23_5))
 sq23_6)

def lb23_8 : AC := (.pre [0, 2, 8, 9, 10, 48, 49] (.seq (.reg [⟨.inl (.bin .lss), [.t 49, .t 48], some 50, none, []⟩] none)
 (.seq (.cond (.t 50) .skip (.exit 2))
 sq23_7)))

def st23_9 : AC := (.seq (.reg [⟨.inl .mov, [.t 15], some 80, none, []⟩, ⟨.inl .mov, [.t 8], some 81, none, []⟩, ⟨.inl (.bin .mul), [.t 80, .t 81], some 82, none, []⟩, ⟨.inl .mov, [.t 16], some 83, none, []⟩, ⟨.inl (.bin .sub), [.t 82, .t 83], some 84, none, []⟩, ⟨.inl .mov, [.t 84], some 14, none, []⟩] none)
 (.exit 4))

def sq23_10 : AC := (.seq (.reg [⟨.inl .mov, [.t 9], some 74, none, []⟩, ⟨.inl .mov, [.t 13], some 75, none, []⟩, ⟨.inr (.lkM [some .i64] true (.int .i64 0)), [.t 74, .t 75], some 76, none, []⟩, ⟨.inl .mov, [.t 76], some 73, none, []⟩, ⟨.inl (.ext 0), [.t 73], some 77, none, []⟩, ⟨.inl (.ext 1), [.t 73], some 78, none, []⟩, ⟨.inl .mov, [.t 77], some 16, none, []⟩, ⟨.inl .mov, [.t 78], some 17, none, []⟩] none)
 (.seq (.reg [⟨.inl .mov, [.t 17], some 79, none, []⟩] none)
 (.cond (.t 79) st23_9 .skip)))

def sq23_11 : AC := (.reg [⟨.inl .mov, [.t 15], some 67, none, []⟩, ⟨.inl (.bin .add), [.t 67, .c (.int .i64 (1))], some 68, none, []⟩, ⟨.inl .mov, [.t 68], some 15, none, []⟩] none)

def sp23_12 : AC := (.block 5 (.seq (.reg [⟨.inl .mov, [.t 13], some 69, none, []⟩, ⟨.inl .mov, [.t 12], some 70, none, []⟩, ⟨.inl .mov, [.t 2], some 71, none, []⟩, ⟨.inr (.call true true 46), [.t 69, .t 70, .t 71], some 72, none, []⟩, ⟨.inl .mov, [.t 72], some 13, none, []⟩] none)
 sq23_10))

def sp23_13 : AC := (.seq (.reg [⟨.inl .mov, [.t 15], some 64, none, []⟩, ⟨.inl .mov, [.t 8], some 65, none, []⟩, ⟨.inl (.bin .leq), [.t 64, .t 65], some 66, none, []⟩] none)
 (.cond (.t 66) .skip (.exit 4)))

def lb23_14 : AC := (.pre [0, 2, 8, 9, 12, 13, 14, 15] (.seq sp23_13
 (.seq sp23_12
 sq23_11)))

def st23_15 : AC := (.seq (.reg [⟨.inl .mov, [.c (.int .i64 (0))], some 6, none, []⟩, ⟨.inl .mov, [.c (.int .i64 (6))], some 7, none, []⟩] none)
 .ret)

def sq23_16 : AC := (.seq (.reg [⟨.inl .mov, [.t 14], some 87, none, []⟩, ⟨.inl .mov, [.t 0], some 88, none, []⟩, ⟨.inl .mov, [.t 2], some 89, none, []⟩, ⟨.inr (.call true true 48), [.t 88, .t 89], some 90, none, []⟩, ⟨.inl (.bin .rem), [.t 87, .t 90], some 91, none, []⟩, ⟨.inl .mov, [.t 91], some 6, none, []⟩, ⟨.inl .mov, [.c (.int .i64 (0))], some 7, none, []⟩] none)
 .ret)

def sp23_17 : AC := (.seq (.reg [⟨.inl .mov, [.t 14], some 85, none, []⟩, ⟨.inl (.bin .lss), [.t 85, .c (.int .i64 (0))], some 86, none, []⟩] none)
 (.cond (.t 86) st23_15 .skip))

def sq23_18 : AC := (.seq (.seq (.reg [⟨.inl .mov, [.c (.int .i64 (1))], some 15, none, []⟩] none)
 (.block 4 (.loop lb23_14)))
 (.pre [0, 2, 14] (.seq sp23_17
 sq23_16)))

def sq23_19 : AC := (.pre [0, 2, 8, 9] (.seq (.reg [⟨.inl .mov, [.t 0], some 60, none, []⟩, ⟨.inl .mov, [.t 8], some 61, none, []⟩, ⟨.inl .mov, [.t 2], some 62, none, []⟩, ⟨.inr (.call true true 47), [.t 60, .t 61, .t 62], some 63, none, []⟩, ⟨.inl .mov, [.t 63], some 12, none, []⟩, ⟨.inl .mov, [.c (.int .i64 (1))], some 13, none, []⟩] none)
 (.seq (.reg [⟨.inl .mov, [.c (.int .i64 (-1))], some 14, none, []⟩] none)
 (.seq .skip
 sq23_18))))

def sp23_20 : AC := (.seq (.reg [⟨.inl .mov, [.t 8], some 48, none, []⟩, ⟨.inl .mov, [.c (.int .i64 (0))], some 49, none, []⟩] none)
 (.block 2 (.loop lb23_8)))

def sq23_21 : AC := (.seq (.reg [⟨.inl .mov, [.t 1], some 47, none, []⟩, ⟨.inl .mov, [.t 47], some 10, none, []⟩] none)
 (.seq sp23_20
 sq23_19))

def sq23_22 : AC := (.pre [0, 1, 2, 8] (.seq (.reg [⟨.inr .mkM, [], some 46, none, []⟩, ⟨.inl .mov, [.t 46], some 9, none, []⟩] none)
 sq23_21))

def sp23_23 : AC := (.seq (.reg [⟨.inl .mov, [.t 2], some 18, none, []⟩, ⟨.inr (.call true true 44), [.t 18], some 19, none, []⟩, ⟨.inl (.un .not), [.t 19], some 20, none, []⟩, ⟨.inl .mov, [.t 20], some 21, none, []⟩, ⟨.inl .mov, [.t 0], some 22, some (21, false), []⟩, ⟨.inl (.bin .lss), [.t 22, .c (.int .i64 (1))], some 23, some (21, false), []⟩, ⟨.inl .pick, [.t 21, .c (.bool true), .t 23], some 24, none, []⟩, ⟨.inl .mov, [.t 24], some 25, none, []⟩, ⟨.inl .mov, [.t 0], some 26, some (25, false), []⟩, ⟨.inl .mov, [.t 2], some 27, some (25, false), []⟩, ⟨.inl (.bin .geq), [.t 26, .t 27], some 28, some (25, false), []⟩, ⟨.inl .pick, [.t 25, .c (.bool true), .t 28], some 29, none, []⟩, ⟨.inl .mov, [.t 29], some 30, none, []⟩, ⟨.inl .mov, [.t 1], some 31, some (30, false), []⟩, ⟨.inl (.bin .lss), [.t 31, .c (.int .i64 (1))], some 32, some (30, false), []⟩, ⟨.inl .pick, [.t 30, .c (.bool true), .t 32], some 33, none, []⟩, ⟨.inl .mov, [.t 33], some 34, none, []⟩, ⟨.inl .mov, [.t 1], some 35, some (34, false), []⟩, ⟨.inl .mov, [.t 2], some 36, some (34, false), []⟩, ⟨.inl (.bin .geq), [.t 35, .t 36], some 37, some (34, false), []⟩, ⟨.inl .pick, [.t 34, .c (.bool true), .t 37], some 38, none, []⟩] none)
 (.cond (.t 38) st23_0 .skip))

def sq23_24 : AC := (.seq .skip (.seq sp23_23
 (.seq (.reg [⟨.inl .mov, [.c (.int .i64 (1))], some 8, none, []⟩] none)
 (.seq (.block 0 (.loop lb23_3))
 sq23_22))))

/-- olivette/prime.Log -/
def af23 : AFunc := ⟨3,
 (.seq (.reg [⟨.inl .mov, [.c (.int .i64 (0))], some 6, none, []⟩, ⟨.inl .mov, [.c (.int .i64 (0))], some 7, none, []⟩] none)
 sq23_24),
 [.t 6, .t 7]⟩

def sq24_0 : AC := (.block 3 (.reg [⟨.inl .mov, [.t 5], some 42, none, []⟩, ⟨.inl .mov, [.t 6], some 43, none, []⟩, ⟨.inl .mov, [.t 7], some 44, none, []⟩, ⟨.inl (.idxA 2), [.t 43, .t 44], some 45, none, []⟩, ⟨.inl (.fldA 0), [.t 45], some 46, none, []⟩, ⟨.inl (.ld false 1), [.t 46], some 47, none, []⟩, ⟨.inl (.bin .quo), [.t 42, .t 47], some 48, none, []⟩, ⟨.inl .mov, [.t 48], some 5, none, []⟩] none))

def sp24_1 : AC := (.seq (.reg [⟨.inl .mov, [.t 5], some 19, none, []⟩, ⟨.inl .mov, [.t 6], some 20, none, []⟩, ⟨.inl .mov, [.t 7], some 21, none, []⟩, ⟨.inl (.idxA 2), [.t 20, .t 21], some 22, none, []⟩, ⟨.inl (.fldA 0), [.t 22], some 23, none, []⟩, ⟨.inl (.ld false 1), [.t 23], some 24, none, []⟩, ⟨.inl (.bin .rem), [.t 19, .t 24], some 25, none, []⟩, ⟨.inl (.bin .eql), [.t 25, .c (.int .i64 (0))], some 26, none, []⟩, ⟨.inl .mov, [.t 26], some 27, none, []⟩, ⟨.inl .mov, [.t 0], some 28, some (27, true), []⟩, ⟨.inl .mov, [.t 5], some 29, some (27, true), []⟩, ⟨.inl .mov, [.t 6], some 30, some (27, true), []⟩, ⟨.inl .mov, [.t 7], some 31, some (27, true), []⟩, ⟨.inl (.idxA 2), [.t 30, .t 31], some 32, some (27, true), []⟩, ⟨.inl (.fldA 0), [.t 32], some 33, some (27, true), []⟩, ⟨.inl (.ld false 1), [.t 33], some 34, some (27, true), []⟩, ⟨.inl (.bin .quo), [.t 29, .t 34], some 35, some (27, true), []⟩, ⟨.inl .mov, [.t 1], some 36, some (27, true), []⟩, ⟨.inr (.call true true 22), [.t 28, .t 35, .t 36], some 37, some (27, true), []⟩, ⟨.inl .mov, [.t 1], some 38, some (27, true), []⟩, ⟨.inl (.bin .rem), [.c (.int .i64 (1)), .t 38], some 39, some (27, true), []⟩, ⟨.inl (.bin .eql), [.t 37, .t 39], some 40, some (27, true), []⟩, ⟨.inl .pick, [.t 27, .t 40, .c (.bool false)], some 41, none, []⟩] (some ([0, 1, 2, 3, 4, 5, 6, 7, 8, 9, 10, 11, 12, 13, 14, 15, 16, 17, 18, 19, 20, 21, 22], [], [0, 0, 0, 6, 14, 30, 63, 127, 255, 511, 511, 511, 511, 6655, 14847, 31231, 65023, 511, 262143, 511, 524799, 2097151, 4194303])))
 (.cond (.t 41) .skip (.exit 2)))

def lb24_2 : AC := (.pre [0, 1, 5, 6, 7] (.seq sp24_1
 sq24_0))

def sq24_3 : AC := (.pre [0, 1, 5, 6, 7] (.reg [⟨.inl .mov, [.t 7], some 17, none, []⟩, ⟨.inl (.bin .add), [.t 17, .c (.int .i64 (1))], some 18, none, []⟩, ⟨.inl .mov, [.t 18], some 7, none, []⟩] none))

def sp24_4 : AC := (.seq (.reg [⟨.inl .mov, [.t 7], some 13, none, []⟩, ⟨.inl .mov, [.t 6], some 14, none, []⟩, ⟨.inl .len, [.t 14], some 15, none, []⟩, ⟨.inl (.bin .lss), [.t 13, .t 15], some 16, none, []⟩] none)
 (.cond (.t 16) .skip (.exit 0)))

def lb24_5 : AC := (.pre [0, 1, 5, 6, 7] (.seq sp24_4
 (.seq (.block 1 (.block 2 (.loop lb24_2)))
 sq24_3)))

def sq24_6 : AC := (.seq (.seq (.reg [⟨.inl .mov, [.c (.int .i64 (0))], some 7, none, []⟩] none)
 (.block 0 (.loop lb24_5)))
 (.pre [5] (.seq (.reg [⟨.inl .mov, [.t 5], some 49, none, []⟩, ⟨.inl .mov, [.t 49], some 4, none, []⟩] none)
 .ret)))

def sq24_7 : AC := (.seq (.reg [⟨.inl .mov, [.t 1], some 10, none, []⟩, ⟨.inl (.bin .sub), [.t 10, .c (.int .i64 (1))], some 11, none, []⟩, ⟨.inr (.call true true 19), [.t 11], some 12, none, []⟩, ⟨.inl .mov, [.t 12], some 6, none, []⟩] none)
 sq24_6)

def sq24_8 : AC := (.seq (.reg [⟨.inl .mov, [.t 1], some 8, none, []⟩, ⟨.inl (.bin .sub), [.t 8, .c (.int .i64 (1))], some 9, none, []⟩, ⟨.inl .mov, [.t 9], some 5, none, []⟩] none)
 sq24_7)

/-- olivette/olivetteref01.Order -/
def af24 : AFunc := ⟨2,
 (.seq (.reg [⟨.inl .mov, [.c (.int .i64 (0))], some 4, none, []⟩] none)
 sq24_8),
 [.t 4]⟩

def st25_0 : AC := (.seq (.reg [⟨.inl .mov, [.c (.int .i64 (0))], some 4, none, []⟩, ⟨.inl .mov, [.c (.int .i64 (0))], some 5, none, []⟩, ⟨.inl .mov, [.c (.int .i64 (2))], some 6, none, []⟩] none)
 .ret)

def st25_1 : AC := (.seq (.reg [⟨.inl .mov, [.c (.int .i64 (0))], some 4, none, []⟩, ⟨.inl .mov, [.c (.int .i64 (0))], some 5, none, []⟩, ⟨.inl .mov, [.c (.int .i64 (2))], some 6, none, []⟩] none)
 .ret)

def st25_2 : AC := (.seq (.reg [⟨.inl .mov, [.c (.int .i64 (0))], some 4, none, []⟩, ⟨.inl .mov, [.c (.int .i64 (0))], some 5, none, []⟩, ⟨.inl .mov, [.c (.int .i64 (2))], some 6, none, []⟩] none)
 .ret)

def sq25_3 : AC := (.reg [⟨.inl .mov, [.t 13], some 75, none, []⟩, ⟨.inl (.conv .i64), [.t 75], some 76, none, []⟩, ⟨.inl .mov, [.t 76], some 7, none, []⟩] none)

def sp25_4 : AC := (.seq (.reg [⟨.inl .mov, [.t 12], some 69, none, []⟩, ⟨.inl (.bin .gtr), [.t 69, .c (.int .u64 (0))], some 70, none, []⟩, ⟨.inl .mov, [.t 70], some 71, none, []⟩, ⟨.inl .mov, [.t 13], some 72, some (71, false), []⟩, ⟨.inl (.bin .gtr), [.t 72, .c (.int .u64 (4611686018427387904))], some 73, some (71, false), []⟩, ⟨.inl .pick, [.t 71, .c (.bool true), .t 73], some 74, none, []⟩] none)
 (.cond (.t 74) st25_2 .skip))

def sq25_5 : AC := (.seq (.reg [⟨.inl .mov, [.t 7], some 57, none, []⟩, ⟨.inl (.conv .u64), [.t 57], some 58, none, []⟩, ⟨.inl .mov, [.t 1], some 59, none, []⟩, ⟨.inl .mov, [.t 8], some 60, none, []⟩, ⟨.inl (.idxA 1), [.t 59, .t 60], some 61, none, []⟩, ⟨.inl (.ld false 1), [.t 61], some 62, none, []⟩, ⟨.inl .mov, [.t 10], some 63, none, []⟩, ⟨.inl (.bin .quo), [.t 62, .t 63], some 64, none, []⟩, ⟨.inl (.conv .u64), [.t 64], some 65, none, []⟩, ⟨.inr (.call true true 51), [.t 58, .t 65], some 66, none, []⟩, ⟨.inl .mov, [.t 66], some 56, none, []⟩, ⟨.inl (.ext 0), [.t 56], some 67, none, []⟩, ⟨.inl (.ext 1), [.t 56], some 68, none, []⟩, ⟨.inl .mov, [.t 67], some 12, none, []⟩, ⟨.inl .mov, [.t 68], some 13, none, []⟩] none)
 (.seq sp25_4
 sq25_3))

def sq25_6 : AC := (.seq (.reg [⟨.inl .mov, [.t 7], some 48, none, []⟩, ⟨.inl .mov, [.t 1], some 49, none, []⟩, ⟨.inl .mov, [.t 8], some 50, none, []⟩, ⟨.inl (.idxA 1), [.t 49, .t 50], some 51, none, []⟩, ⟨.inl (.ld false 1), [.t 51], some 52, none, []⟩, ⟨.inr (.call true true 50), [.t 48, .t 52], some 53, none, []⟩, ⟨.inl .mov, [.t 53], some 47, none, []⟩, ⟨.inl (.ext 0), [.t 47], some 54, none, []⟩, ⟨.inl (.ext 1), [.t 47], some 55, none, []⟩, ⟨.inl .mov, [.t 54], some 10, none, []⟩, ⟨.inl .mov, [.t 55], some 11, none, []⟩] none)
 sq25_5)

def sp25_7 : AC := (.seq (.reg [⟨.inl .mov, [.t 9], some 40, none, []⟩, ⟨.inl .mov, [.t 1], some 41, none, []⟩, ⟨.inl .mov, [.t 8], some 42, none, []⟩, ⟨.inl (.idxA 1), [.t 41, .t 42], some 43, none, []⟩, ⟨.inl (.ld false 1), [.t 43], some 44, none, []⟩, ⟨.inr (.call true true 49), [.t 40, .t 44], some 45, none, []⟩, ⟨.inl (.un .not), [.t 45], some 46, none, []⟩] none)
 (.cond (.t 46) st25_1 .skip))

def sq25_8 : AC := (.reg [⟨.inl (.bin .add), [.t 35, .c (.int .i64 (1))], some 77, none, []⟩, ⟨.inl .mov, [.t 77], some 35, none, []⟩] none)

def sp25_9 : AC := (.block 1 (.seq (.reg [⟨.inl .mov, [.t 35], some 37, none, []⟩, ⟨.inl (.idxA 1), [.t 33, .t 35], some 38, none, []⟩, ⟨.inl (.ld false 1), [.t 38], some 39, none, []⟩, ⟨.inl .mov, [.t 37], some 8, none, []⟩, ⟨.inl .mov, [.t 39], some 9, none, []⟩] none)
 (.seq sp25_7
 sq25_6)))

def lb25_10 : AC := (.pre [0, 1, 7, 33, 34, 35] (.seq (.reg [⟨.inl (.bin .lss), [.t 35, .t 34], some 36, none, []⟩] none)
 (.seq (.cond (.t 36) .skip (.exit 0))
 (.seq sp25_9
 sq25_8))))

def st25_11 : AC := (.seq (.reg [⟨.inl .mov, [.c (.int .i64 (0))], some 4, none, []⟩, ⟨.inl .mov, [.c (.int .i64 (0))], some 5, none, []⟩, ⟨.inl .mov, [.c (.int .i64 (6))], some 6, none, []⟩] none)
 .ret)

def sq25_12 : AC := (.reg [⟨.inl .mov, [.t 15], some 146, none, []⟩, ⟨.inl .mov, [.t 20], some 147, none, []⟩, ⟨.inl (.bin .mul), [.t 146, .t 147], some 148, none, []⟩, ⟨.inl .mov, [.t 148], some 15, none, []⟩] none)

def sq25_13 : AC := (.seq (.reg [⟨.inl .mov, [.t 14], some 141, none, []⟩, ⟨.inl .mov, [.t 15], some 142, none, []⟩, ⟨.inl .mov, [.t 22], some 143, none, []⟩, ⟨.inl (.bin .mul), [.t 142, .t 143], some 144, none, []⟩, ⟨.inl (.bin .add), [.t 141, .t 144], some 145, none, []⟩, ⟨.inl .mov, [.t 145], some 14, none, []⟩] none)
 sq25_12)

def sq25_14 : AC := (.seq (.reg [⟨.inl .mov, [.t 21], some 127, none, []⟩, ⟨.inl .mov, [.t 18], some 128, none, []⟩, ⟨.inl (.bin .quo), [.t 127, .t 128], some 129, none, []⟩, ⟨.inl .mov, [.t 20], some 130, none, []⟩, ⟨.inl (.bin .rem), [.t 129, .t 130], some 131, none, []⟩, ⟨.inl .mov, [.t 19], some 132, none, []⟩, ⟨.inl .mov, [.t 20], some 133, none, []⟩, ⟨.inl (.bin .rem), [.t 132, .t 133], some 134, none, []⟩, ⟨.inl .mov, [.t 20], some 135, none, []⟩, ⟨.inl (.bin .add), [.t 134, .t 135], some 136, none, []⟩, ⟨.inl .mov, [.t 20], some 137, none, []⟩, ⟨.inl (.bin .rem), [.t 136, .t 137], some 138, none, []⟩, ⟨.inl .mov, [.t 20], some 139, none, []⟩, ⟨.inr (.call true true 46), [.t 131, .t 138, .t 139], some 140, none, []⟩, ⟨.inl .mov, [.t 140], some 22, none, []⟩] (some ([0, 1, 2, 3, 4, 5, 6, 7, 8, 9, 10, 11, 12, 13, 14], [], [0, 0, 3, 0, 15, 0, 0, 96, 0, 480, 0, 2016, 0, 8191, 16383])))
 sq25_13)

def sp25_15 : AC := (.seq (.reg [⟨.inl .mov, [.t 21], some 123, none, []⟩, ⟨.inl .mov, [.t 18], some 124, none, []⟩, ⟨.inl (.bin .rem), [.t 123, .t 124], some 125, none, []⟩, ⟨.inl (.bin .neq), [.t 125, .c (.int .i64 (0))], some 126, none, []⟩] none)
 (.cond (.t 126) st25_11 .skip))

def sq25_16 : AC := (.seq (.reg [⟨.inl .mov, [.t 17], some 105, none, []⟩, ⟨.inl .mov, [.t 14], some 106, none, []⟩, ⟨.inl (.bin .sub), [.t 105, .t 106], some 107, none, []⟩, ⟨.inl .mov, [.t 1], some 108, none, []⟩, ⟨.inl .mov, [.t 16], some 109, none, []⟩, ⟨.inl (.idxA 1), [.t 108, .t 109], some 110, none, []⟩, ⟨.inl (.ld false 1), [.t 110], some 111, none, []⟩, ⟨.inl (.bin .rem), [.t 107, .t 111], some 112, none, []⟩, ⟨.inl .mov, [.t 1], some 113, none, []⟩, ⟨.inl .mov, [.t 16], some 114, none, []⟩, ⟨.inl (.idxA 1), [.t 113, .t 114], some 115, none, []⟩, ⟨.inl (.ld false 1), [.t 115], some 116, none, []⟩, ⟨.inl (.bin .add), [.t 112, .t 116], some 117, none, []⟩, ⟨.inl .mov, [.t 1], some 118, none, []⟩, ⟨.inl .mov, [.t 16], some 119, none, []⟩, ⟨.inl (.idxA 1), [.t 118, .t 119], some 120, none, []⟩, ⟨.inl (.ld false 1), [.t 120], some 121, none, []⟩, ⟨.inl (.bin .rem), [.t 117, .t 121], some 122, none, []⟩, ⟨.inl .mov, [.t 122], some 21, none, []⟩] (some ([0, 1, 2, 3, 4, 5, 6, 7, 8, 9, 10, 11, 12, 13, 14, 15, 16, 17, 18], [], [0, 0, 3, 0, 0, 24, 56, 127, 0, 0, 768, 1792, 4095, 0, 0, 24576, 57344, 131071, 262143])))
 (.seq sp25_15
 sq25_14))

def sq25_17 : AC := (.seq (.reg [⟨.inl .mov, [.t 1], some 99, none, []⟩, ⟨.inl .mov, [.t 16], some 100, none, []⟩, ⟨.inl (.idxA 1), [.t 99, .t 100], some 101, none, []⟩, ⟨.inl (.ld false 1), [.t 101], some 102, none, []⟩, ⟨.inl .mov, [.t 18], some 103, none, []⟩, ⟨.inl (.bin .quo), [.t 102, .t 103], some 104, none, []⟩, ⟨.inl .mov, [.t 104], some 20, none, []⟩] none)
 sq25_16)

def sq25_18 : AC := (.seq (.reg [⟨.inl .mov, [.t 15], some 86, none, []⟩, ⟨.inl .mov, [.t 1], some 87, none, []⟩, ⟨.inl .mov, [.t 16], some 88, none, []⟩, ⟨.inl (.idxA 1), [.t 87, .t 88], some 89, none, []⟩, ⟨.inl (.ld false 1), [.t 89], some 90, none, []⟩, ⟨.inl (.bin .rem), [.t 86, .t 90], some 91, none, []⟩, ⟨.inl .mov, [.t 1], some 92, none, []⟩, ⟨.inl .mov, [.t 16], some 93, none, []⟩, ⟨.inl (.idxA 1), [.t 92, .t 93], some 94, none, []⟩, ⟨.inl (.ld false 1), [.t 94], some 95, none, []⟩, ⟨.inr (.call true true 50), [.t 91, .t 95], some 96, none, []⟩, ⟨.inl .mov, [.t 96], some 85, none, []⟩, ⟨.inl (.ext 0), [.t 85], some 97, none, []⟩, ⟨.inl (.ext 1), [.t 85], some 98, none, []⟩, ⟨.inl .mov, [.t 97], some 18, none, []⟩, ⟨.inl .mov, [.t 98], some 19, none, []⟩] (some ([0, 1, 2, 3, 4, 5, 6, 7, 8, 9, 10, 11, 12, 13, 14, 15], [], [0, 0, 0, 6, 14, 31, 0, 0, 192, 448, 1023, 2047, 4095, 4095, 8191, 32767])))
 sq25_17)

def sq25_19 : AC := (.reg [⟨.inl (.bin .add), [.t 80, .c (.int .i64 (1))], some 149, none, []⟩, ⟨.inl .mov, [.t 149], some 80, none, []⟩] none)

def sp25_20 : AC := (.block 3 (.seq (.reg [⟨.inl .mov, [.t 80], some 82, none, []⟩, ⟨.inl (.idxA 1), [.t 78, .t 80], some 83, none, []⟩, ⟨.inl (.ld false 1), [.t 83], some 84, none, []⟩, ⟨.inl .mov, [.t 82], some 16, none, []⟩, ⟨.inl .mov, [.t 84], some 17, none, []⟩] none)
 sq25_18))

def lb25_21 : AC := (.pre [1, 7, 14, 15, 78, 79, 80] (.seq (.reg [⟨.inl (.bin .lss), [.t 80, .t 79], some 81, none, []⟩] none)
 (.seq (.cond (.t 81) .skip (.exit 2))
 (.seq sp25_20
 sq25_19))))

def sq25_22 : AC := (.pre [7, 14] (.seq (.reg [⟨.inl .mov, [.t 14], some 150, none, []⟩, ⟨.inl .mov, [.t 7], some 151, none, []⟩, ⟨.inl .mov, [.t 150], some 4, none, []⟩, ⟨.inl .mov, [.t 151], some 5, none, []⟩, ⟨.inl .mov, [.c (.int .i64 (0))], some 6, none, []⟩] none)
 .ret))

def sp25_23 : AC := (.seq (.reg [⟨.inl .mov, [.t 0], some 78, none, []⟩, ⟨.inl .len, [.t 78], some 79, none, []⟩, ⟨.inl .mov, [.c (.int .i64 (0))], some 80, none, []⟩] none)
 (.block 2 (.loop lb25_21)))

def sq25_24 : AC := (.pre [0, 1, 7] (.seq (.reg [⟨.inl .mov, [.c (.int .i64 (0))], some 14, none, []⟩, ⟨.inl .mov, [.c (.int .i64 (1))], some 15, none, []⟩] none)
 (.seq sp25_23
 sq25_22)))

def sp25_25 : AC := (.seq (.reg [⟨.inl .mov, [.t 0], some 33, none, []⟩, ⟨.inl .len, [.t 33], some 34, none, []⟩, ⟨.inl .mov, [.c (.int .i64 (0))], some 35, none, []⟩] none)
 (.block 0 (.loop lb25_10)))

def sp25_26 : AC := (.seq (.reg [⟨.inl .mov, [.t 0], some 23, none, []⟩, ⟨.inl .len, [.t 23], some 24, none, []⟩, ⟨.inl .mov, [.t 1], some 25, none, []⟩, ⟨.inl .len, [.t 25], some 26, none, []⟩, ⟨.inl (.bin .neq), [.t 24, .t 26], some 27, none, []⟩, ⟨.inl .mov, [.t 27], some 28, none, []⟩, ⟨.inl .mov, [.t 0], some 29, some (28, false), []⟩, ⟨.inl .len, [.t 29], some 30, some (28, false), []⟩, ⟨.inl (.bin .gtr), [.t 30, .c (.int .i64 (32))], some 31, some (28, false), []⟩, ⟨.inl .pick, [.t 28, .c (.bool true), .t 31], some 32, none, []⟩] none)
 (.cond (.t 32) st25_0 .skip))

/-- olivette/prime.Common -/
def af25 : AFunc := ⟨2,
 (.seq (.reg [⟨.inl .mov, [.c (.int .i64 (0))], some 4, none, []⟩, ⟨.inl .mov, [.c (.int .i64 (0))], some 5, none, []⟩, ⟨.inl .mov, [.c (.int .i64 (0))], some 6, none, []⟩] none)
 (.seq sp25_26
 (.seq (.reg [⟨.inl .mov, [.c (.int .i64 (1))], some 7, none, []⟩] none)
 (.seq sp25_25
 sq25_24)))),
 [.t 4, .t 5, .t 6]⟩

def st26_0 : AC := (.seq (.reg [⟨.inl .mov, [.c (.int .i64 (0))], some 4, none, []⟩, ⟨.inl .mov, [.c (.int .i64 (0))], some 5, none, []⟩, ⟨.inl .mov, [.c (.int .i64 (2))], some 6, none, []⟩] none)
 .ret)

def st26_1 : AC := (.seq (.reg [⟨.inl .mov, [.c (.int .i64 (0))], some 4, none, []⟩, ⟨.inl .mov, [.c (.int .i64 (0))], some 5, none, []⟩, ⟨.inl .mov, [.c (.int .i64 (2))], some 6, none, []⟩] none)
 .ret)

def sq26_2 : AC := (.reg [⟨.inl .mov, [.t 7], some 34, none, []⟩, ⟨.inl (.bin .add), [.t 34, .c (.int .i64 (1))], some 35, none, []⟩, ⟨.inl .mov, [.t 35], some 7, none, []⟩] none)

def sp26_3 : AC := (.block 1 (.seq (.reg [⟨.inl .mov, [.t 1], some 36, none, []⟩, ⟨.inl .mov, [.t 7], some 37, none, []⟩, ⟨.inl (.idxA 1), [.t 36, .t 37], some 38, none, []⟩, ⟨.inl (.ld false 1), [.t 38], some 39, none, []⟩, ⟨.inr (.call true true 17), [.t 39], some 40, none, []⟩, ⟨.inl (.un .not), [.t 40], some 41, none, []⟩, ⟨.inl .mov, [.t 41], some 42, none, []⟩, ⟨.inl .mov, [.t 0], some 43, some (42, false), []⟩, ⟨.inl .mov, [.t 7], some 44, some (42, false), []⟩, ⟨.inl (.idxA 1), [.t 43, .t 44], some 45, some (42, false), []⟩, ⟨.inl (.ld false 1), [.t 45], some 46, some (42, false), []⟩, ⟨.inl (.bin .lss), [.t 46, .c (.int .i64 (0))], some 47, some (42, false), []⟩, ⟨.inl .pick, [.t 42, .c (.bool true), .t 47], some 48, none, []⟩, ⟨.inl .mov, [.t 48], some 49, none, []⟩, ⟨.inl .mov, [.t 0], some 50, some (49, false), []⟩, ⟨.inl .mov, [.t 7], some 51, some (49, false), []⟩, ⟨.inl (.idxA 1), [.t 50, .t 51], some 52, some (49, false), []⟩, ⟨.inl (.ld false 1), [.t 52], some 53, some (49, false), []⟩, ⟨.inl .mov, [.t 1], some 54, some (49, false), []⟩, ⟨.inl .mov, [.t 7], some 55, some (49, false), []⟩, ⟨.inl (.idxA 1), [.t 54, .t 55], some 56, some (49, false), []⟩, ⟨.inl (.ld false 1), [.t 56], some 57, some (49, false), []⟩, ⟨.inl (.bin .geq), [.t 53, .t 57], some 58, some (49, false), []⟩, ⟨.inl .pick, [.t 49, .c (.bool true), .t 58], some 59, none, []⟩] (some ([0, 1, 2, 3, 4, 5, 6, 7, 8, 9, 10, 11, 12, 13, 14, 15, 16, 17, 18, 19, 20, 21, 22, 23], [], [0, 0, 3, 7, 15, 31, 63, 127, 127, 511, 1023, 2047, 4095, 8191, 16383, 16383, 65535, 131071, 16383, 16383, 802815, 1851391, 4194303, 8388607])))
 (.cond (.t 59) st26_1 .skip)))

def sp26_4 : AC := (.seq (.reg [⟨.inl .mov, [.t 7], some 30, none, []⟩, ⟨.inl .mov, [.t 1], some 31, none, []⟩, ⟨.inl .len, [.t 31], some 32, none, []⟩, ⟨.inl (.bin .lss), [.t 30, .t 32], some 33, none, []⟩] none)
 (.cond (.t 33) .skip (.exit 0)))

def lb26_5 : AC := (.pre [0, 1, 7] (.seq sp26_4
 (.seq sp26_3
 sq26_2)))

def st26_6 : AC := (.seq (.reg [⟨.inl .mov, [.c (.int .i64 (0))], some 4, none, []⟩, ⟨.inl .mov, [.c (.int .i64 (0))], some 5, none, []⟩, ⟨.inl .mov, [.c (.int .i64 (2))], some 6, none, []⟩] none)
 .ret)

def sq26_7 : AC := (.seq (.reg [⟨.inl .mov, [.t 9], some 65, none, []⟩, ⟨.inl (.un .not), [.t 65], some 66, none, []⟩] none)
 (.cond (.t 66) st26_6 .skip))

def st26_8 : AC := (.seq (.reg [⟨.inl .mov, [.c (.int .i64 (0))], some 4, none, []⟩, ⟨.inl .mov, [.c (.int .i64 (0))], some 5, none, []⟩, ⟨.inl .mov, [.c (.int .i64 (6))], some 6, none, []⟩] none)
 .ret)

def sq26_9 : AC := (.reg [⟨.inl .mov, [.t 11], some 127, none, []⟩, ⟨.inl .mov, [.t 16], some 128, none, []⟩, ⟨.inl (.bin .mul), [.t 127, .t 128], some 129, none, []⟩, ⟨.inl .mov, [.t 129], some 11, none, []⟩] none)

def sq26_10 : AC := (.seq (.reg [⟨.inl .mov, [.t 10], some 122, none, []⟩, ⟨.inl .mov, [.t 19], some 123, none, []⟩, ⟨.inl .mov, [.t 11], some 124, none, []⟩, ⟨.inl (.bin .mul), [.t 123, .t 124], some 125, none, []⟩, ⟨.inl (.bin .add), [.t 122, .t 125], some 126, none, []⟩, ⟨.inl .mov, [.t 126], some 10, none, []⟩] none)
 sq26_9)

def sq26_11 : AC := (.seq (.reg [⟨.inl .mov, [.t 15], some 113, none, []⟩, ⟨.inl .mov, [.t 14], some 114, none, []⟩, ⟨.inl (.bin .quo), [.t 113, .t 114], some 115, none, []⟩, ⟨.inl .mov, [.t 16], some 116, none, []⟩, ⟨.inl (.bin .rem), [.t 115, .t 116], some 117, none, []⟩, ⟨.inl .mov, [.t 17], some 118, none, []⟩, ⟨.inl (.bin .mul), [.t 117, .t 118], some 119, none, []⟩, ⟨.inl .mov, [.t 16], some 120, none, []⟩, ⟨.inl (.bin .rem), [.t 119, .t 120], some 121, none, []⟩, ⟨.inl .mov, [.t 121], some 19, none, []⟩] none)
 sq26_10)

def sq26_12 : AC := (.seq (.reg [⟨.inl .mov, [.t 11], some 104, none, []⟩, ⟨.inl .mov, [.t 14], some 105, none, []⟩, ⟨.inl (.bin .quo), [.t 104, .t 105], some 106, none, []⟩, ⟨.inl .mov, [.t 16], some 107, none, []⟩, ⟨.inl (.bin .rem), [.t 106, .t 107], some 108, none, []⟩, ⟨.inl .mov, [.t 16], some 109, none, []⟩, ⟨.inr (.call true true 36), [.t 108, .t 109], some 110, none, []⟩, ⟨.inl .mov, [.t 110], some 103, none, []⟩, ⟨.inl (.ext 0), [.t 103], some 111, none, []⟩, ⟨.inl (.ext 1), [.t 103], some 112, none, []⟩, ⟨.inl .mov, [.t 111], some 17, none, []⟩, ⟨.inl .mov, [.t 112], some 18, none, []⟩] none)
 sq26_11)

def sq26_13 : AC := (.seq (.reg [⟨.inl .mov, [.t 13], some 100, none, []⟩, ⟨.inl .mov, [.t 14], some 101, none, []⟩, ⟨.inl (.bin .quo), [.t 100, .t 101], some 102, none, []⟩, ⟨.inl .mov, [.t 102], some 16, none, []⟩] none)
 sq26_12)

def sp26_14 : AC := (.seq (.reg [⟨.inl .mov, [.t 15], some 96, none, []⟩, ⟨.inl .mov, [.t 14], some 97, none, []⟩, ⟨.inl (.bin .rem), [.t 96, .t 97], some 98, none, []⟩, ⟨.inl (.bin .neq), [.t 98, .c (.int .i64 (0))], some 99, none, []⟩] none)
 (.cond (.t 99) st26_8 .skip))

def sq26_15 : AC := (.seq (.reg [⟨.inl .mov, [.t 0], some 82, none, []⟩, ⟨.inl .mov, [.t 12], some 83, none, []⟩, ⟨.inl (.idxA 1), [.t 82, .t 83], some 84, none, []⟩, ⟨.inl (.ld false 1), [.t 84], some 85, none, []⟩, ⟨.inl .mov, [.t 10], some 86, none, []⟩, ⟨.inl .mov, [.t 13], some 87, none, []⟩, ⟨.inl (.bin .rem), [.t 86, .t 87], some 88, none, []⟩, ⟨.inl (.bin .sub), [.t 85, .t 88], some 89, none, []⟩, ⟨.inl .mov, [.t 13], some 90, none, []⟩, ⟨.inl (.bin .rem), [.t 89, .t 90], some 91, none, []⟩, ⟨.inl .mov, [.t 13], some 92, none, []⟩, ⟨.inl (.bin .add), [.t 91, .t 92], some 93, none, []⟩, ⟨.inl .mov, [.t 13], some 94, none, []⟩, ⟨.inl (.bin .rem), [.t 93, .t 94], some 95, none, []⟩, ⟨.inl .mov, [.t 95], some 15, none, []⟩] (some ([0, 1, 2, 3, 4, 5, 6, 7, 8, 9, 10, 11, 12, 13, 14], [], [0, 0, 3, 7, 0, 0, 48, 127, 0, 511, 0, 2047, 0, 8191, 16383])))
 (.seq sp26_14
 sq26_13))

def sq26_16 : AC := (.seq (.reg [⟨.inl .mov, [.t 13], some 77, none, []⟩, ⟨.inl .mov, [.t 11], some 78, none, []⟩, ⟨.inl .mov, [.t 13], some 79, none, []⟩, ⟨.inl (.bin .rem), [.t 78, .t 79], some 80, none, []⟩, ⟨.inr (.call true true 53), [.t 77, .t 80], some 81, none, []⟩, ⟨.inl .mov, [.t 81], some 14, none, []⟩] none)
 sq26_15)

def sq26_17 : AC := (.reg [⟨.inl .mov, [.t 12], some 71, none, []⟩, ⟨.inl (.bin .add), [.t 71, .c (.int .i64 (1))], some 72, none, []⟩, ⟨.inl .mov, [.t 72], some 12, none, []⟩] none)

def sp26_18 : AC := (.block 3 (.seq (.reg [⟨.inl .mov, [.t 1], some 73, none, []⟩, ⟨.inl .mov, [.t 12], some 74, none, []⟩, ⟨.inl (.idxA 1), [.t 73, .t 74], some 75, none, []⟩, ⟨.inl (.ld false 1), [.t 75], some 76, none, []⟩, ⟨.inl .mov, [.t 76], some 13, none, []⟩] none)
 sq26_16))

def sp26_19 : AC := (.seq (.reg [⟨.inl .mov, [.t 12], some 67, none, []⟩, ⟨.inl .mov, [.t 1], some 68, none, []⟩, ⟨.inl .len, [.t 68], some 69, none, []⟩, ⟨.inl (.bin .lss), [.t 67, .t 69], some 70, none, []⟩] none)
 (.cond (.t 70) .skip (.exit 2)))

def lb26_20 : AC := (.pre [0, 1, 10, 11, 12] (.seq sp26_19
 (.seq sp26_18
 sq26_17)))

def sq26_21 : AC := (.pre [10, 11] (.seq (.reg [⟨.inl .mov, [.t 10], some 130, none, []⟩, ⟨.inl .mov, [.t 11], some 131, none, []⟩, ⟨.inl .mov, [.t 130], some 4, none, []⟩, ⟨.inl .mov, [.t 131], some 5, none, []⟩, ⟨.inl .mov, [.c (.int .i64 (0))], some 6, none, []⟩] none)
 .ret))

def sq26_22 : AC := (.seq (.reg [⟨.inl .mov, [.c (.int .i64 (0))], some 10, none, []⟩, ⟨.inl .mov, [.c (.int .i64 (1))], some 11, none, []⟩] none)
 (.seq (.seq (.reg [⟨.inl .mov, [.c (.int .i64 (0))], some 12, none, []⟩] none)
 (.block 2 (.loop lb26_20)))
 sq26_21))

def sp26_23 : AC := (.seq (.reg [⟨.inl .mov, [.t 1], some 61, none, []⟩, ⟨.inr (.call true true 52), [.t 61], some 62, none, []⟩, ⟨.inl .mov, [.t 62], some 60, none, []⟩, ⟨.inl (.ext 0), [.t 60], some 63, none, []⟩, ⟨.inl (.ext 1), [.t 60], some 64, none, []⟩, ⟨.inl .mov, [.t 63], some 8, none, []⟩, ⟨.inl .mov, [.t 64], some 9, none, []⟩] none)
 sq26_7)

def sq26_24 : AC := (.seq (.seq (.reg [⟨.inl .mov, [.c (.int .i64 (0))], some 7, none, []⟩] none)
 (.block 0 (.loop lb26_5)))
 (.pre [0, 1] (.seq sp26_23
 sq26_22)))

def sp26_25 : AC := (.seq (.reg [⟨.inl .mov, [.t 0], some 20, none, []⟩, ⟨.inl .len, [.t 20], some 21, none, []⟩, ⟨.inl .mov, [.t 1], some 22, none, []⟩, ⟨.inl .len, [.t 22], some 23, none, []⟩, ⟨.inl (.bin .neq), [.t 21, .t 23], some 24, none, []⟩, ⟨.inl .mov, [.t 24], some 25, none, []⟩, ⟨.inl .mov, [.t 0], some 26, some (25, false), []⟩, ⟨.inl .len, [.t 26], some 27, some (25, false), []⟩, ⟨.inl (.bin .gtr), [.t 27, .c (.int .i64 (32))], some 28, some (25, false), []⟩, ⟨.inl .pick, [.t 25, .c (.bool true), .t 28], some 29, none, []⟩] none)
 (.cond (.t 29) st26_0 .skip))

/-- olivette/olivetteref01.Common -/
def af26 : AFunc := ⟨2,
 (.seq (.reg [⟨.inl .mov, [.c (.int .i64 (0))], some 4, none, []⟩, ⟨.inl .mov, [.c (.int .i64 (0))], some 5, none, []⟩, ⟨.inl .mov, [.c (.int .i64 (0))], some 6, none, []⟩] none)
 (.seq sp26_25
 sq26_24)),
 [.t 4, .t 5, .t 6]⟩

def sq27_0 : AC := (.reg [⟨.inl .mov, [.t 5], some 15, none, []⟩, ⟨.inl (.bin .add), [.t 15, .c (.int .i64 (1))], some 16, none, []⟩, ⟨.inl .mov, [.t 16], some 5, none, []⟩] none)

def sp27_1 : AC := (.block 1 (.seq (.reg [⟨.inl .mov, [.t 0], some 17, none, []⟩, ⟨.inl .mov, [.t 5], some 18, none, []⟩, ⟨.inl (.idxA 1), [.t 17, .t 18], some 19, none, []⟩, ⟨.inl (.ld false 1), [.t 19], some 20, none, []⟩, ⟨.inl .mov, [.t 1], some 21, none, []⟩, ⟨.inl .mov, [.t 5], some 22, none, []⟩, ⟨.inl (.idxA 1), [.t 21, .t 22], some 23, none, []⟩, ⟨.inl (.ld false 1), [.t 23], some 24, none, []⟩, ⟨.inl (.bin .neq), [.t 20, .t 24], some 25, none, []⟩] (some ([0, 1, 2, 3, 4, 5, 6, 7, 8], [], [0, 0, 3, 7, 0, 0, 48, 112, 255])))
 (.cond (.t 25) (.seq (.reg [⟨.inl .mov, [.c (.bool false)], some 4, none, []⟩] none)
 .ret) .skip)))

def sp27_2 : AC := (.seq (.reg [⟨.inl .mov, [.t 5], some 11, none, []⟩, ⟨.inl .mov, [.t 0], some 12, none, []⟩, ⟨.inl .len, [.t 12], some 13, none, []⟩, ⟨.inl (.bin .lss), [.t 11, .t 13], some 14, none, []⟩] none)
 (.cond (.t 14) .skip (.exit 0)))

def lb27_3 : AC := (.pre [0, 1, 5] (.seq sp27_2
 (.seq sp27_1
 sq27_0)))

def sq27_4 : AC := (.seq (.seq (.reg [⟨.inl .mov, [.c (.int .i64 (0))], some 5, none, []⟩] none)
 (.block 0 (.loop lb27_3)))
 (.pre [] (.seq (.reg [⟨.inl .mov, [.c (.bool true)], some 4, none, []⟩] none)
 .ret)))

def sp27_5 : AC := (.seq (.reg [⟨.inl .mov, [.t 0], some 6, none, []⟩, ⟨.inl .len, [.t 6], some 7, none, []⟩, ⟨.inl .mov, [.t 1], some 8, none, []⟩, ⟨.inl .len, [.t 8], some 9, none, []⟩, ⟨.inl (.bin .neq), [.t 7, .t 9], some 10, none, []⟩] none)
 (.cond (.t 10) (.seq (.reg [⟨.inl .mov, [.c (.bool false)], some 4, none, []⟩] none)
 .ret) .skip))

/-- olivette/olivettelaw01.ints -/
def af27 : AFunc := ⟨2,
 (.seq (.reg [⟨.inl .mov, [.c (.bool false)], some 4, none, []⟩] none)
 (.seq sp27_5
 sq27_4)),
 [.t 4]⟩

def sq28_0 : AC := (.cond (.t 11) (.seq (.reg [⟨.inl .mov, [.t 0], some 12, none, []⟩, ⟨.inl .mov, [.t 12], some 4, none, []⟩] none)
 .ret) .skip)

def sq28_1 : AC := (.seq (.reg [⟨.inl .mov, [.t 0], some 13, none, []⟩, ⟨.inl .mov, [.t 1], some 14, none, []⟩, ⟨.inr (.call true true 29), [.t 13, .t 14], some 15, none, []⟩, ⟨.inl (.bin .add), [.c (.int .i64 (1)), .t 15], some 16, none, []⟩, ⟨.inl .mov, [.t 16], some 4, none, []⟩] none)
 .ret)

def sp28_2 : AC := (.seq (.reg [⟨.inl .mov, [.t 0], some 5, none, []⟩, ⟨.inl (.bin .geq), [.t 5, .c (.int .i64 (1))], some 6, none, []⟩, ⟨.inl .mov, [.t 6], some 7, none, []⟩, ⟨.inl .mov, [.t 0], some 8, some (7, true), []⟩, ⟨.inl .mov, [.t 1], some 9, some (7, true), []⟩, ⟨.inl (.bin .leq), [.t 8, .t 9], some 10, some (7, true), []⟩, ⟨.inl .pick, [.t 7, .t 10, .c (.bool false)], some 11, none, []⟩] none)
 sq28_0)

/-- olivette/olivettelaw01.number -/
def af28 : AFunc := ⟨2,
 (.seq (.reg [⟨.inl .mov, [.c (.int .i64 (0))], some 4, none, []⟩] none)
 (.seq sp28_2
 sq28_1)),
 [.t 4]⟩

def sq29_0 : AC := (.seq (.reg [⟨.inl .mov, [.t 0], some 5, none, []⟩, ⟨.inl (.conv .u64), [.t 5], some 6, none, []⟩, ⟨.inl .mov, [.t 1], some 7, none, []⟩, ⟨.inl (.conv .u64), [.t 7], some 8, none, []⟩, ⟨.inl (.bin .rem), [.t 6, .t 8], some 9, none, []⟩, ⟨.inl (.conv .i64), [.t 9], some 10, none, []⟩, ⟨.inl .mov, [.t 10], some 4, none, []⟩] none)
 .ret)

/-- olivette/olivettelaw01.mod -/
def af29 : AFunc := ⟨2,
 (.seq (.reg [⟨.inl .mov, [.c (.int .i64 (0))], some 4, none, []⟩] none)
 sq29_0),
 [.t 4]⟩

def st30_0 : AC := (.seq (.reg [⟨.inl (.bld [.int .i64 0, .nilS] []), [], some 12, none, []⟩, ⟨.inr (.st 2), [.t 2, .t 12], none, none, []⟩, ⟨.inl .mov, [.c (.int .i64 (2))], some 3, none, []⟩] none)
 .ret)

def st30_1 : AC := (.seq (.reg [⟨.inl (.bld [.int .i64 0, .nilS] [(0, 1)]), [.c (.int .i64 (1))], some 15, none, []⟩, ⟨.inr (.st 2), [.t 2, .t 15], none, none, []⟩, ⟨.inl .mov, [.c (.int .i64 (0))], some 3, none, []⟩] none)
 .ret)

def st30_2 : AC := (.seq (.reg [⟨.inl .mov, [.t 4], some 24, none, []⟩, ⟨.inl (.bld [.int .i64 0, .nilS] [(0, 1)]), [.t 24], some 25, none, []⟩, ⟨.inr (.st 2), [.t 2, .t 25], none, none, []⟩, ⟨.inl .mov, [.c (.int .i64 (0))], some 3, none, []⟩] none)
 .ret)

def sq30_3 : AC := (.seq (.reg [⟨.inl .mov, [.t 4], some 21, none, []⟩, ⟨.inl .mov, [.t 0], some 22, none, []⟩, ⟨.inl (.bin .lss), [.t 21, .t 22], some 23, none, []⟩] none)
 (.cond (.t 23) st30_2 .skip))

def sq30_4 : AC := (.reg [⟨.inl .mov, [.t 6], some 38, none, []⟩, ⟨.inl .mov, [.t 5], some 39, none, []⟩, ⟨.inl .mov, [.t 8], some 40, none, []⟩, ⟨.inr (.lkM [some .i64] false (.agg [.int .i64 0, .int .i64 0, .nilS])), [.t 39, .t 40], some 41, none, []⟩, ⟨.inr (.bldS true true 3 1 [.int .i64 0, .int .i64 0, .nilS] [(0, 3)]), [.t 41], some 42, none, []⟩, ⟨.inr (.app false 3 40), [.t 38, .t 42], some 43, none, []⟩, ⟨.inl .mov, [.t 43], some 6, none, []⟩] none)

def sq30_5 : AC := (.reg [⟨.inl (.bin .add), [.t 34, .c (.int .i64 (1))], some 44, none, []⟩, ⟨.inl .mov, [.t 44], some 34, none, []⟩] none)

def sp30_6 : AC := (.block 1 (.seq (.reg [⟨.inl (.idxA 1), [.t 32, .t 34], some 36, none, []⟩, ⟨.inl (.ld false 1), [.t 36], some 37, none, []⟩, ⟨.inl .mov, [.t 37], some 8, none, []⟩] none)
 sq30_4))

def lb30_7 : AC := (.pre [2, 5, 6, 32, 33, 34] (.seq (.reg [⟨.inl (.bin .lss), [.t 34, .t 33], some 35, none, []⟩] none)
 (.seq (.cond (.t 35) .skip (.exit 0))
 (.seq sp30_6
 sq30_5))))

def sq30_8 : AC := (.pre [2, 6] (.seq (.reg [⟨.inl .mov, [.t 6], some 45, none, []⟩, ⟨.inl (.bld [.int .i64 0, .nilS] [(1, 1)]), [.t 45], some 46, none, []⟩, ⟨.inr (.st 2), [.t 2, .t 46], none, none, []⟩, ⟨.inl .mov, [.c (.int .i64 (0))], some 3, none, []⟩] none)
 .ret))

def sp30_9 : AC := (.seq (.reg [⟨.inl .mov, [.t 5], some 30, none, []⟩, ⟨.inr (.call false true 56), [.t 30], some 31, none, []⟩, ⟨.inr (.call false true 55), [.t 31], some 32, none, []⟩, ⟨.inl .len, [.t 32], some 33, none, []⟩, ⟨.inl .mov, [.c (.int .i64 (0))], some 34, none, []⟩] none)
 (.block 0 (.loop lb30_7)))

def sq30_10 : AC := (.seq (.reg [⟨.inl .mov, [.t 0], some 27, none, []⟩, ⟨.inl .mov, [.t 5], some 28, none, []⟩, ⟨.inr (.call false true 54), [.t 27, .t 28], some 29, none, []⟩] none)
 (.seq (.reg [⟨.inl .mov, [.c (.nilS)], some 6, none, []⟩] none)
 (.seq sp30_9
 sq30_8)))

def sp30_11 : AC := (.seq (.reg [⟨.inl .mov, [.t 0], some 16, none, []⟩, ⟨.inr (.call true true 42), [.t 16], some 17, none, []⟩, ⟨.inl (.idxA 2), [.t 17, .c (.int .i64 (0))], some 18, none, []⟩, ⟨.inl (.fldA 0), [.t 18], some 19, none, []⟩, ⟨.inl (.ld false 1), [.t 19], some 20, none, []⟩, ⟨.inl .mov, [.t 20], some 4, none, []⟩] none)
 sq30_3)

def sp30_12 : AC := (.seq (.reg [⟨.inl .mov, [.t 0], some 13, none, []⟩, ⟨.inl (.bin .eql), [.t 13, .c (.int .i64 (1))], some 14, none, []⟩] none)
 (.cond (.t 14) st30_1 .skip))

def sq30_13 : AC := (.seq sp30_12
 (.seq sp30_11
 (.seq (.reg [⟨.inr .mkM, [], some 26, none, []⟩, ⟨.inl .mov, [.t 26], some 5, none, []⟩] none)
 sq30_10)))

def sp30_14 : AC := (.seq (.reg [⟨.inl .mov, [.t 0], some 9, none, []⟩, ⟨.inr (.call true true 41), [.t 9], some 10, none, []⟩, ⟨.inl (.un .not), [.t 10], some 11, none, []⟩] none)
 (.cond (.t 11) st30_0 .skip))

/-- olivette/prime.Decide -/
def af30 : AFunc := ⟨1,
 (.seq (.reg [⟨.inr (.alloc false [.int .i64 0, .nilS]), [], some 2, none, []⟩, ⟨.inl .mov, [.c (.int .i64 (0))], some 3, none, []⟩] none)
 (.seq sp30_14
 sq30_13)),
 [.cell 2 true 2, .t 3]⟩

def st31_0 : AC := (.seq (.reg [⟨.inl .mov, [.t 0], some 8, none, []⟩, ⟨.inl (.fldA 1), [.t 3], some 9, none, []⟩, ⟨.inl (.ld false 1), [.t 9], some 10, none, []⟩, ⟨.inr (.call true true 57), [.t 8, .t 10], some 11, none, []⟩, ⟨.inl .mov, [.t 11], some 4, none, []⟩] none)
 .ret)

def sq31_1 : AC := (.seq (.reg [⟨.inl .mov, [.t 0], some 16, none, []⟩, ⟨.inl (.bin .eql), [.t 16, .c (.int .i64 (1))], some 17, none, []⟩, ⟨.inl .mov, [.t 17], some 18, none, []⟩, ⟨.inl (.fldA 0), [.t 3], some 19, some (18, true), []⟩, ⟨.inl (.ld false 1), [.t 19], some 20, some (18, true), []⟩, ⟨.inl (.bin .eql), [.t 20, .c (.int .i64 (1))], some 21, some (18, true), []⟩, ⟨.inl .pick, [.t 18, .t 21, .c (.bool false)], some 22, none, []⟩, ⟨.inl .mov, [.t 22], some 23, none, []⟩, ⟨.inl (.fldA 0), [.t 3], some 24, some (23, false), []⟩, ⟨.inl (.ld false 1), [.t 24], some 25, some (23, false), []⟩, ⟨.inl (.bin .gtr), [.t 25, .c (.int .i64 (1))], some 26, some (23, false), []⟩, ⟨.inl .mov, [.t 26], some 27, some (23, false), []⟩, ⟨.inl (.fldA 0), [.t 3], some 28, some (27, true), []⟩, ⟨.inl (.ld false 1), [.t 28], some 29, some (27, true), []⟩, ⟨.inl .mov, [.t 0], some 30, some (27, true), []⟩, ⟨.inl (.bin .lss), [.t 29, .t 30], some 31, some (27, true), []⟩, ⟨.inl .pick, [.t 27, .t 31, .c (.bool false)], some 32, some (23, false), []⟩, ⟨.inl .mov, [.t 32], some 33, some (23, false), []⟩, ⟨.inl .mov, [.t 0], some 34, some (33, true), []⟩, ⟨.inl (.fldA 0), [.t 3], some 35, some (33, true), []⟩, ⟨.inl (.ld false 1), [.t 35], some 36, some (33, true), []⟩, ⟨.inl (.bin .rem), [.t 34, .t 36], some 37, some (33, true), []⟩, ⟨.inl (.bin .eql), [.t 37, .c (.int .i64 (0))], some 38, some (33, true), []⟩, ⟨.inl .pick, [.t 33, .t 38, .c (.bool false)], some 39, some (23, false), []⟩, ⟨.inl .pick, [.t 23, .c (.bool true), .t 39], some 40, none, []⟩, ⟨.inl .mov, [.t 40], some 4, none, []⟩] none)
 .ret)

def sp31_2 : AC := (.seq (.reg [⟨.inl (.fldA 1), [.t 3], some 12, none, []⟩, ⟨.inl (.ld false 1), [.t 12], some 13, none, []⟩, ⟨.inl .len, [.t 13], some 14, none, []⟩, ⟨.inl (.bin .gtr), [.t 14, .c (.int .i64 (0))], some 15, none, []⟩] none)
 (.cond (.t 15) (.seq (.reg [⟨.inl .mov, [.c (.bool false)], some 4, none, []⟩] none)
 .ret) .skip))

def sp31_3 : AC := (.seq (.reg [⟨.inl (.fldA 0), [.t 3], some 5, none, []⟩, ⟨.inl (.ld false 1), [.t 5], some 6, none, []⟩, ⟨.inl (.bin .eql), [.t 6, .c (.int .i64 (0))], some 7, none, []⟩] none)
 (.cond (.t 7) st31_0 .skip))

/-- olivette/olivetteref01.Right -/
def af31 : AFunc := ⟨2,
 (.seq (.reg [⟨.inr (.box false), [.t 1], some 3, none, []⟩, ⟨.inl .mov, [.c (.bool false)], some 4, none, []⟩] none)
 (.seq sp31_3
 (.seq sp31_2
 sq31_1))),
 [.t 4]⟩

def st32_0 : AC := (.seq (.reg [⟨.inl .mov, [.c (.int .i64 (0))], some 2, none, []⟩, ⟨.inl .mov, [.c (.int .i64 (2))], some 3, none, []⟩] none)
 .ret)

def sq32_1 : AC := (.block 1 (.reg [⟨.inl .mov, [.t 5], some 18, none, []⟩, ⟨.inl (.bin .add), [.t 18, .c (.int .i64 (1))], some 19, none, []⟩, ⟨.inl .mov, [.t 19], some 5, none, []⟩] none))

def sp32_2 : AC := (.seq (.reg [⟨.inl .mov, [.t 5], some 13, none, []⟩, ⟨.inl .mov, [.t 0], some 14, none, []⟩, ⟨.inl (.ld false 1), [.t 4], some 15, none, []⟩, ⟨.inr (.call true true 60), [.t 13, .t 14, .t 15], some 16, none, []⟩, ⟨.inl (.un .not), [.t 16], some 17, none, []⟩] none)
 (.cond (.t 17) .skip (.exit 0)))

def lb32_3 : AC := (.pre [0, 4, 5] (.seq sp32_2
 sq32_1))

def sq32_4 : AC := (.pre [5] (.seq (.reg [⟨.inl .mov, [.t 5], some 20, none, []⟩, ⟨.inl .mov, [.t 20], some 2, none, []⟩, ⟨.inl .mov, [.c (.int .i64 (0))], some 3, none, []⟩] none)
 .ret))

def sq32_5 : AC := (.seq (.reg [⟨.inl .mov, [.t 0], some 9, none, []⟩, ⟨.inl (.bin .sub), [.t 9, .c (.int .i64 (1))], some 10, none, []⟩, ⟨.inl (.mkfn 59), [.t 4], some 11, none, []⟩, ⟨.inr (.call false true 58), [.t 10, .t 11], some 12, none, []⟩] none)
 (.seq (.reg [⟨.inl .mov, [.c (.int .i64 (1))], some 5, none, []⟩] none)
 (.seq (.block 0 (.loop lb32_3))
 sq32_4)))

def sp32_6 : AC := (.seq (.reg [⟨.inl .mov, [.t 0], some 6, none, []⟩, ⟨.inr (.call true true 44), [.t 6], some 7, none, []⟩, ⟨.inl (.un .not), [.t 7], some 8, none, []⟩] none)
 (.cond (.t 8) st32_0 .skip))

/-- olivette/prime.Generator -/
def af32 : AFunc := ⟨1,
 (.seq (.reg [⟨.inl .mov, [.c (.int .i64 (0))], some 2, none, []⟩, ⟨.inl .mov, [.c (.int .i64 (0))], some 3, none, []⟩] none)
 (.seq sp32_6
 (.seq (.reg [⟨.inr (.alloc false [.nilS]), [], some 4, none, []⟩] none)
 sq32_5))),
 [.t 2, .t 3]⟩

def st33_0 : AC := (.seq (.reg [⟨.inl .mov, [.c (.int .i64 (0))], some 6, none, []⟩, ⟨.inl .mov, [.c (.int .i64 (2))], some 7, none, []⟩] none)
 .ret)

def sq33_1 : AC := (.seq (.reg [⟨.inl .mov, [.t 0], some 16, none, []⟩, ⟨.inl .mov, [.t 1], some 17, none, []⟩, ⟨.inl .mov, [.t 2], some 18, none, []⟩, ⟨.inr (.call true true 47), [.t 16, .t 17, .t 18], some 19, none, []⟩, ⟨.inl .mov, [.t 19], some 6, none, []⟩, ⟨.inl .mov, [.c (.int .i64 (0))], some 7, none, []⟩] none)
 .ret)

def sp33_2 : AC := (.seq (.reg [⟨.inl .mov, [.t 0], some 8, none, []⟩, ⟨.inl .mov, [.t 2], some 9, none, []⟩, ⟨.inr (.call true true 49), [.t 8, .t 9], some 10, none, []⟩, ⟨.inl (.un .not), [.t 10], some 11, none, []⟩, ⟨.inl .mov, [.t 11], some 12, none, []⟩, ⟨.inl .mov, [.t 1], some 13, some (12, false), []⟩, ⟨.inl (.bin .lss), [.t 13, .c (.int .i64 (0))], some 14, some (12, false), []⟩, ⟨.inl .pick, [.t 12, .c (.bool true), .t 14], some 15, none, []⟩] none)
 (.cond (.t 15) st33_0 .skip))

/-- olivette/prime.Power -/
def af33 : AFunc := ⟨3,
 (.seq (.reg [⟨.inl .mov, [.c (.int .i64 (0))], some 6, none, []⟩, ⟨.inl .mov, [.c (.int .i64 (0))], some 7, none, []⟩] none)
 (.seq sp33_2
 sq33_1)),
 [.t 6, .t 7]⟩

def st34_0 : AC := (.seq (.reg [⟨.inl .mov, [.c (.int .i64 (0))], some 4, none, []⟩, ⟨.inl .mov, [.c (.int .i64 (2))], some 5, none, []⟩] none)
 .ret)

def st34_1 : AC := (.seq (.reg [⟨.inl .mov, [.c (.int .i64 (0))], some 4, none, []⟩, ⟨.inl .mov, [.c (.int .i64 (6))], some 5, none, []⟩] none)
 .ret)

def sq34_2 : AC := (.seq (.reg [⟨.inl .mov, [.t 7], some 20, none, []⟩, ⟨.inl .mov, [.t 1], some 21, none, []⟩, ⟨.inl (.bin .rem), [.t 20, .t 21], some 22, none, []⟩, ⟨.inl .mov, [.t 1], some 23, none, []⟩, ⟨.inl (.bin .add), [.t 22, .t 23], some 24, none, []⟩, ⟨.inl .mov, [.t 1], some 25, none, []⟩, ⟨.inl (.bin .rem), [.t 24, .t 25], some 26, none, []⟩, ⟨.inl .mov, [.t 26], some 4, none, []⟩, ⟨.inl .mov, [.c (.int .i64 (0))], some 5, none, []⟩] none)
 .ret)

def sp34_3 : AC := (.seq (.reg [⟨.inl .mov, [.t 6], some 18, none, []⟩, ⟨.inl (.bin .neq), [.t 18, .c (.int .i64 (1))], some 19, none, []⟩] none)
 (.cond (.t 19) st34_1 .skip))

def sq34_4 : AC := (.seq (.reg [⟨.inl .mov, [.t 0], some 13, none, []⟩, ⟨.inl .mov, [.t 1], some 14, none, []⟩, ⟨.inr (.call true true 50), [.t 13, .t 14], some 15, none, []⟩, ⟨.inl .mov, [.t 15], some 12, none, []⟩, ⟨.inl (.ext 0), [.t 12], some 16, none, []⟩, ⟨.inl (.ext 1), [.t 12], some 17, none, []⟩, ⟨.inl .mov, [.t 16], some 6, none, []⟩, ⟨.inl .mov, [.t 17], some 7, none, []⟩] none)
 (.seq sp34_3
 sq34_2))
end Go.AM.Pr
