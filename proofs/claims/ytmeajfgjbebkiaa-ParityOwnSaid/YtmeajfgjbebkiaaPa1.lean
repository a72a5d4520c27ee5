/- The functions as the abstract machine has them. -/
import Derived.Test.YtmeajfgjbebkiaaM3
namespace Go.AM.Pa
def sq9_0 : AC := (.reg [⟨.inl .mov, [.t 13], some 63, none, []⟩, ⟨.inl (.bin .add), [.t 63, .c (.int .i64 (1))], some 64, none, []⟩, ⟨.inl .mov, [.t 64], some 13, none, []⟩] none)

def sp9_1 : AC := (.block 3 (.reg [⟨.inl .mov, [.t 11], some 65, none, []⟩, ⟨.inl .mov, [.t 12], some 66, none, []⟩, ⟨.inl (.idxA 1), [.t 65, .t 66], some 67, none, []⟩, ⟨.inl (.ld false 1), [.t 67], some 68, none, []⟩, ⟨.inl .mov, [.t 13], some 69, none, []⟩, ⟨.inl (.idxA 1), [.t 68, .t 69], some 70, none, []⟩, ⟨.inr (.st 1), [.t 70, .c (.int .i64 (-7))], none, none, []⟩] none))

def sp9_2 : AC := (.seq (.reg [⟨.inl .mov, [.t 13], some 56, none, []⟩, ⟨.inl .mov, [.t 11], some 57, none, []⟩, ⟨.inl .mov, [.t 12], some 58, none, []⟩, ⟨.inl (.idxA 1), [.t 57, .t 58], some 59, none, []⟩, ⟨.inl (.ld false 1), [.t 59], some 60, none, []⟩, ⟨.inl .len, [.t 60], some 61, none, []⟩, ⟨.inl (.bin .lss), [.t 56, .t 61], some 62, none, []⟩] none)
 (.cond (.t 62) .skip (.exit 2)))

def lb9_3 : AC := (.pre [3, 4, 6, 8, 10, 11, 12, 13] (.seq sp9_2
 (.seq sp9_1
 sq9_0)))

def sq9_4 : AC := (.pre [3, 4, 6, 8, 10, 11, 12] (.reg [⟨.inl .mov, [.t 12], some 54, none, []⟩, ⟨.inl (.bin .add), [.t 54, .c (.int .i64 (1))], some 55, none, []⟩, ⟨.inl .mov, [.t 55], some 12, none, []⟩] none))

def sq9_5 : AC := (.seq (.block 1 (.seq (.reg [⟨.inl .mov, [.c (.int .i64 (0))], some 13, none, []⟩] none)
 (.block 2 (.loop lb9_3))))
 sq9_4)

def sp9_6 : AC := (.seq (.reg [⟨.inl .mov, [.t 12], some 50, none, []⟩, ⟨.inl .mov, [.t 11], some 51, none, []⟩, ⟨.inl .len, [.t 51], some 52, none, []⟩, ⟨.inl (.bin .lss), [.t 50, .t 52], some 53, none, []⟩] none)
 (.cond (.t 53) .skip (.exit 0)))

def lb9_7 : AC := (.pre [3, 4, 6, 8, 10, 11, 12] (.seq sp9_6
 sq9_5))

def sq9_8 : AC := (.reg [⟨.inl .mov, [.t 16], some 120, none, []⟩, ⟨.inl (.bin .add), [.t 120, .c (.int .i64 (1))], some 121, none, []⟩, ⟨.inl .mov, [.t 121], some 16, none, []⟩] none)

def sp9_9 : AC := (.block 5 (.seq (.reg [⟨.inl (.fldA 2), [.t 3], some 122, none, []⟩, ⟨.inl (.ld false 1), [.t 122], some 123, none, []⟩, ⟨.inl .mov, [.t 16], some 124, none, []⟩, ⟨.inl (.idxA 1), [.t 123, .t 124], some 125, none, []⟩, ⟨.inl (.ld false 1), [.t 125], some 126, none, []⟩, ⟨.inl (.fldA 2), [.t 4], some 127, none, []⟩, ⟨.inl (.ld false 1), [.t 127], some 128, none, []⟩, ⟨.inl .mov, [.t 16], some 129, none, []⟩, ⟨.inl (.idxA 1), [.t 128, .t 129], some 130, none, []⟩, ⟨.inl (.ld false 1), [.t 130], some 131, none, []⟩, ⟨.inr (.call true true 20), [.t 126, .t 131], some 132, none, []⟩, ⟨.inl (.un .not), [.t 132], some 133, none, []⟩] (some ([0, 1, 2, 3, 4, 5, 6, 7, 8, 9, 10, 11], [], [0, 1, 0, 7, 15, 0, 32, 0, 224, 480, 1023, 2047])))
 (.cond (.t 133) (.seq (.reg [⟨.inl .mov, [.c (.bool false)], some 2, none, []⟩] none)
 .ret) .skip)))

def sp9_10 : AC := (.seq (.reg [⟨.inl .mov, [.t 16], some 115, none, []⟩, ⟨.inl (.fldA 2), [.t 3], some 116, none, []⟩, ⟨.inl (.ld false 1), [.t 116], some 117, none, []⟩, ⟨.inl .len, [.t 117], some 118, none, []⟩, ⟨.inl (.bin .lss), [.t 115, .t 118], some 119, none, []⟩] none)
 (.cond (.t 119) .skip (.exit 4)))

def lb9_11 : AC := (.pre [3, 4, 14, 16] (.seq sp9_10
 (.seq sp9_9
 sq9_8)))

def sq9_12 : AC := (.pre [4, 14] (.seq (.reg [⟨.inl (.ld true 3), [.t 4], some 134, none, []⟩, ⟨.inl (.ld true 2), [.t 14], some 135, none, []⟩, ⟨.inr (.call true true 34), [.t 134, .t 135], some 136, none, []⟩, ⟨.inl .mov, [.t 136], some 137, none, []⟩, ⟨.inr (.call true true 23), [], some 138, some (137, true), []⟩, ⟨.inl .pick, [.t 137, .t 138, .c (.bool false)], some 139, none, []⟩, ⟨.inl .mov, [.t 139], some 2, none, []⟩] none)
 .ret))

def sp9_13 : AC := (.seq (.reg [⟨.inl .mov, [.t 6], some 76, none, []⟩, ⟨.inl (.bin .neq), [.t 76, .c (.int .i64 (0))], some 77, none, []⟩, ⟨.inl .mov, [.t 77], some 78, none, []⟩, ⟨.inl .mov, [.t 8], some 79, some (78, false), []⟩, ⟨.inl (.bin .neq), [.t 79, .c (.int .i64 (0))], some 80, some (78, false), []⟩, ⟨.inl .pick, [.t 78, .c (.bool true), .t 80], some 81, none, []⟩, ⟨.inl .mov, [.t 81], some 82, none, []⟩, ⟨.inl .mov, [.t 10], some 83, some (82, false), []⟩, ⟨.inl (.bin .neq), [.t 83, .c (.int .i64 (0))], some 84, some (82, false), []⟩, ⟨.inl .pick, [.t 82, .c (.bool true), .t 84], some 85, none, []⟩, ⟨.inl .mov, [.t 85], some 86, none, []⟩, ⟨.inl .mov, [.t 15], some 87, some (86, false), []⟩, ⟨.inl (.bin .neq), [.t 87, .c (.int .i64 (0))], some 88, some (86, false), []⟩, ⟨.inl .pick, [.t 86, .c (.bool true), .t 88], some 89, none, []⟩, ⟨.inl .mov, [.t 89], some 90, none, []⟩, ⟨.inl (.fldA 0), [.t 3], some 91, some (90, false), []⟩, ⟨.inl (.ld false 1), [.t 91], some 92, some (90, false), []⟩, ⟨.inl (.fldA 0), [.t 4], some 93, some (90, false), []⟩, ⟨.inl (.ld false 1), [.t 93], some 94, some (90, false), []⟩, ⟨.inr (.call true true 20), [.t 92, .t 94], some 95, some (90, false), []⟩, ⟨.inl (.un .not), [.t 95], some 96, some (90, false), []⟩, ⟨.inl .pick, [.t 90, .c (.bool true), .t 96], some 97, none, []⟩, ⟨.inl .mov, [.t 97], some 98, none, []⟩, ⟨.inl (.fldA 1), [.t 3], some 99, some (98, false), []⟩, ⟨.inl (.ld false 1), [.t 99], some 100, some (98, false), []⟩, ⟨.inl (.fldA 1), [.t 4], some 101, some (98, false), []⟩, ⟨.inl (.ld false 1), [.t 101], some 102, some (98, false), []⟩, ⟨.inr (.call true true 20), [.t 100, .t 102], some 103, some (98, false), []⟩, ⟨.inl (.un .not), [.t 103], some 104, some (98, false), []⟩, ⟨.inl .pick, [.t 98, .c (.bool true), .t 104], some 105, none, []⟩, ⟨.inl .mov, [.t 105], some 106, none, []⟩, ⟨.inl (.fldA 2), [.t 3], some 107, some (106, false), []⟩, ⟨.inl (.ld false 1), [.t 107], some 108, some (106, false), []⟩, ⟨.inl .len, [.t 108], some 109, some (106, false), []⟩, ⟨.inl (.fldA 2), [.t 4], some 110, some (106, false), []⟩, ⟨.inl (.ld false 1), [.t 110], some 111, some (106, false), []⟩, ⟨.inl .len, [.t 111], some 112, some (106, false), []⟩, ⟨.inl (.bin .neq), [.t 109, .t 112], some 113, some (106, false), []⟩, ⟨.inl .pick, [.t 106, .c (.bool true), .t 113], some 114, none, []⟩] none)
 (.cond (.t 114) (.seq (.reg [⟨.inl .mov, [.c (.bool false)], some 2, none, []⟩] none)
 .ret) .skip))

def sq9_14 : AC := (.seq sp9_13
 (.seq (.seq (.reg [⟨.inl .mov, [.c (.int .i64 (0))], some 16, none, []⟩] none)
 (.block 4 (.loop lb9_11)))
 sq9_12))

def sq9_15 : AC := (.pre [3, 4, 6, 8, 10] (.seq (.reg [⟨.inl (.ld true 3), [.t 3], some 72, none, []⟩, ⟨.inr (.call true true 29), [.t 72], some 73, none, []⟩, ⟨.inl .mov, [.t 73], some 71, none, []⟩, ⟨.inl (.ext 0), [.t 71], some 74, none, []⟩, ⟨.inl (.ext 1), [.t 71], some 75, none, []⟩, ⟨.inr (.alloc false [.nilS, .nilS]), [], some 14, none, []⟩, ⟨.inr (.st 2), [.t 14, .t 74], none, none, []⟩, ⟨.inl .mov, [.t 75], some 15, none, []⟩] none)
 sq9_14))

def sq9_16 : AC := (.seq (.reg [⟨.inl (.fldA 0), [.t 5], some 37, none, []⟩, ⟨.inl (.ld false 1), [.t 37], some 38, none, []⟩, ⟨.inl (.fldA 1), [.t 5], some 39, none, []⟩, ⟨.inl (.ld false 1), [.t 39], some 40, none, []⟩, ⟨.inl .mov, [.t 9], some 41, none, []⟩, ⟨.inl (.fldA 0), [.t 7], some 42, none, []⟩, ⟨.inl (.ld false 1), [.t 42], some 43, none, []⟩, ⟨.inl (.fldA 1), [.t 7], some 44, none, []⟩, ⟨.inl (.ld false 1), [.t 44], some 45, none, []⟩, ⟨.inr (.bldB 1 5 [.nilS] [(0, 1), (1, 1), (2, 1), (3, 1), (4, 1)]), [.t 38, .t 40, .t 41, .t 43, .t 45], some 46, none, []⟩, ⟨.inl (.fldA 2), [.t 7], some 47, none, []⟩, ⟨.inl (.ld false 1), [.t 47], some 48, none, []⟩, ⟨.inr (.appB 1 24), [.t 46, .t 48], some 49, none, []⟩, ⟨.inl .mov, [.t 49], some 11, none, []⟩] none)
 (.seq (.seq (.reg [⟨.inl .mov, [.c (.int .i64 (0))], some 12, none, []⟩] none)
 (.block 0 (.loop lb9_7)))
 sq9_15))

def sq9_17 : AC := (.seq (.reg [⟨.inl (.ld true 3), [.t 3], some 32, none, []⟩, ⟨.inr (.bldS true true 1 1 [.int .i64 0] [(0, 1)]), [.c (.int .i64 (0))], some 33, none, []⟩, ⟨.inr (.call true false 18), [.t 32, .c (.int .i64 (0)), .t 33], some 34, none, []⟩, ⟨.inl .mov, [.t 34], some 31, none, []⟩, ⟨.inl (.ext 0), [.t 31], some 35, none, []⟩, ⟨.inl (.ext 1), [.t 31], some 36, none, []⟩, ⟨.inl .mov, [.t 35], some 9, none, []⟩, ⟨.inl .mov, [.t 36], some 10, none, []⟩] none)
 sq9_16)

def sq9_18 : AC := (.seq (.reg [⟨.inl (.ld true 3), [.t 3], some 27, none, []⟩, ⟨.inr (.call true false 33), [.t 27], some 28, none, []⟩, ⟨.inl .mov, [.t 28], some 26, none, []⟩, ⟨.inl (.ext 0), [.t 26], some 29, none, []⟩, ⟨.inl (.ext 1), [.t 26], some 30, none, []⟩, ⟨.inr (.alloc false [.nilS, .nilS, .nilS]), [], some 7, none, []⟩, ⟨.inr (.st 3), [.t 7, .t 29], none, none, []⟩, ⟨.inl .mov, [.t 30], some 8, none, []⟩] none)
 sq9_17)

def sq9_19 : AC := (.seq (.reg [⟨.inl (.ld true 3), [.t 3], some 22, none, []⟩, ⟨.inr (.call true false 29), [.t 22], some 23, none, []⟩, ⟨.inl .mov, [.t 23], some 21, none, []⟩, ⟨.inl (.ext 0), [.t 21], some 24, none, []⟩, ⟨.inl (.ext 1), [.t 21], some 25, none, []⟩, ⟨.inr (.alloc false [.nilS, .nilS]), [], some 5, none, []⟩, ⟨.inr (.st 2), [.t 5, .t 24], none, none, []⟩, ⟨.inl .mov, [.t 25], some 6, none, []⟩] none)
 sq9_18)

def sq9_20 : AC := (.seq (.reg [⟨.inl (.ld true 3), [.t 3], some 19, none, []⟩, ⟨.inr (.call true true 16), [.t 19], some 20, none, []⟩, ⟨.inr (.alloc false [.nilS, .nilS, .nilS]), [], some 4, none, []⟩, ⟨.inr (.st 3), [.t 4, .t 20], none, none, []⟩] none)
 sq9_19)

def sq9_21 : AC := (.seq (.reg [⟨.inl (.ld true 3), [.t 1], some 17, none, []⟩, ⟨.inr (.call true true 28), [.t 17, .c (.int .i64 (16)), .c (.int .i64 (9))], some 18, none, []⟩, ⟨.inr (.alloc false [.nilS, .nilS, .nilS]), [], some 3, none, []⟩, ⟨.inr (.st 3), [.t 3, .t 18], none, none, []⟩] none)
 sq9_20)

/-- olivette/olivettelaw08.ParityOwn -/
def af9 : AFunc := ⟨1,
 (.seq (.reg [⟨.inr (.box false), [.t 0], some 1, none, []⟩, ⟨.inl .mov, [.c (.bool false)], some 2, none, []⟩] none)
 sq9_21),
 [.t 2]⟩

def st13_0 : AC := (.seq (.reg [⟨.inl .mov, [.t 9], some 54, none, []⟩, ⟨.inl (.bin .eql), [.t 54, .c (.int .i64 (2))], some 55, none, []⟩, ⟨.inl .mov, [.t 55], some 56, none, []⟩, ⟨.inr (.call true true 23), [], some 57, some (56, true), []⟩, ⟨.inl .pick, [.t 56, .t 57, .c (.bool false)], some 58, none, []⟩, ⟨.inl .mov, [.t 58], some 4, none, []⟩] none)
 .ret)

def st13_1 : AC := (.seq (.reg [⟨.inl .mov, [.t 9], some 63, none, []⟩, ⟨.inl (.bin .eql), [.t 63, .c (.int .i64 (10))], some 64, none, []⟩, ⟨.inl .mov, [.t 64], some 65, none, []⟩, ⟨.inr (.call true true 23), [], some 66, some (65, true), []⟩, ⟨.inl .pick, [.t 65, .t 66, .c (.bool false)], some 67, none, []⟩, ⟨.inl .mov, [.t 67], some 4, none, []⟩] none)
 .ret)

def sq13_2 : AC := (.seq (.reg [⟨.inl .mov, [.t 9], some 68, none, []⟩, ⟨.inl (.bin .eql), [.t 68, .c (.int .i64 (0))], some 69, none, []⟩, ⟨.inl .mov, [.t 69], some 70, none, []⟩, ⟨.inr (.call true true 23), [], some 71, some (70, true), []⟩, ⟨.inl .pick, [.t 70, .t 71, .c (.bool false)], some 72, none, []⟩, ⟨.inl .mov, [.t 72], some 4, none, []⟩] none)
 .ret)

def sp13_3 : AC := (.seq (.reg [⟨.inl (.ld true 3), [.t 5], some 59, none, []⟩, ⟨.inl (.ld true 2), [.t 6], some 60, none, []⟩, ⟨.inr (.call true true 34), [.t 59, .t 60], some 61, none, []⟩, ⟨.inl (.un .not), [.t 61], some 62, none, []⟩] none)
 (.cond (.t 62) st13_1 .skip))

def sp13_4 : AC := (.seq (.reg [⟨.inl (.ld true 3), [.t 5], some 51, none, []⟩, ⟨.inr (.call true true 21), [.t 51], some 52, none, []⟩, ⟨.inl (.un .not), [.t 52], some 53, none, []⟩] none)
 (.cond (.t 53) st13_0 .skip))

def sp13_5 : AC := (.seq (.reg [⟨.inl (.ld true 3), [.t 7], some 31, none, []⟩, ⟨.inl (.ld true 3), [.t 5], some 32, none, []⟩, ⟨.inr (.call true true 19), [.t 31, .t 32], some 33, none, []⟩, ⟨.inl (.un .not), [.t 33], some 34, none, []⟩, ⟨.inl .mov, [.t 34], some 35, none, []⟩, ⟨.inl (.fldA 0), [.t 8], some 36, some (35, false), []⟩, ⟨.inl (.ld false 1), [.t 36], some 37, some (35, false), []⟩, ⟨.inl (.fldA 0), [.t 6], some 38, some (35, false), []⟩, ⟨.inl (.ld false 1), [.t 38], some 39, some (35, false), []⟩, ⟨.inr (.call true true 20), [.t 37, .t 39], some 40, some (35, false), []⟩, ⟨.inl (.un .not), [.t 40], some 41, some (35, false), []⟩, ⟨.inl .pick, [.t 35, .c (.bool true), .t 41], some 42, none, []⟩, ⟨.inl .mov, [.t 42], some 43, none, []⟩, ⟨.inl (.fldA 1), [.t 8], some 44, some (43, false), []⟩, ⟨.inl (.ld false 1), [.t 44], some 45, some (43, false), []⟩, ⟨.inl (.fldA 1), [.t 6], some 46, some (43, false), []⟩, ⟨.inl (.ld false 1), [.t 46], some 47, some (43, false), []⟩, ⟨.inr (.call true true 20), [.t 45, .t 47], some 48, some (43, false), []⟩, ⟨.inl (.un .not), [.t 48], some 49, some (43, false), []⟩, ⟨.inl .pick, [.t 43, .c (.bool true), .t 49], some 50, none, []⟩] none)
 (.cond (.t 50) (.seq (.reg [⟨.inl .mov, [.c (.bool false)], some 4, none, []⟩] none)
 .ret) .skip))

def sq13_6 : AC := (.seq (.reg [⟨.inl (.ld true 3), [.t 7], some 28, none, []⟩, ⟨.inl (.ld true 2), [.t 8], some 29, none, []⟩, ⟨.inr (.call true true 37), [.t 28, .t 29], some 30, none, []⟩, ⟨.inl .mov, [.t 30], some 9, none, []⟩] none)
 (.seq sp13_5
 (.seq sp13_4
 (.seq sp13_3
 sq13_2))))

def sq13_7 : AC := (.seq (.reg [⟨.inl (.ld true 3), [.t 5], some 19, none, []⟩, ⟨.inr (.call true true 16), [.t 19], some 20, none, []⟩, ⟨.inl (.fldA 0), [.t 6], some 21, none, []⟩, ⟨.inl (.ld false 1), [.t 21], some 22, none, []⟩, ⟨.inr (.call true true 17), [.t 22], some 23, none, []⟩, ⟨.inl (.fldA 1), [.t 6], some 24, none, []⟩, ⟨.inl (.ld false 1), [.t 24], some 25, none, []⟩, ⟨.inr (.call true true 17), [.t 25], some 26, none, []⟩, ⟨.inr (.alloc false [.nilS, .nilS, .nilS]), [], some 7, none, []⟩, ⟨.inr (.alloc false [.nilS, .nilS]), [], some 8, none, []⟩, ⟨.inr (.st 3), [.t 7, .t 20], none, none, []⟩, ⟨.inl (.bld [.nilS, .nilS] [(0, 1), (1, 1)]), [.t 23, .t 26], some 27, none, []⟩, ⟨.inr (.st 2), [.t 8, .t 27], none, none, []⟩] (some ([0, 1, 2, 3, 4, 5, 6, 7, 9, 10, 11, 8, 12], [], [0, 1, 0, 4, 15, 0, 32, 127, 255, 0, 0, 1791, 4095])))
 sq13_6)

def sq13_8 : AC := (.seq (.reg [⟨.inl (.fldA 0), [.t 3], some 12, none, []⟩, ⟨.inl (.ld false 1), [.t 12], some 13, none, []⟩, ⟨.inr (.call true true 17), [.t 13], some 14, none, []⟩, ⟨.inl (.fldA 1), [.t 3], some 15, none, []⟩, ⟨.inl (.ld false 1), [.t 15], some 16, none, []⟩, ⟨.inr (.call true true 17), [.t 16], some 17, none, []⟩, ⟨.inl (.bld [.nilS, .nilS] [(0, 1), (1, 1)]), [.t 14, .t 17], some 18, none, []⟩, ⟨.inr (.alloc false [.nilS, .nilS]), [], some 6, none, []⟩, ⟨.inr (.st 2), [.t 6, .t 18], none, none, []⟩] (some ([0, 1, 2, 3, 4, 5, 6, 7, 8], [], [0, 1, 3, 0, 8, 31, 63, 0, 255])))
 sq13_7)

def sq13_9 : AC := (.seq (.reg [⟨.inl (.ld true 3), [.t 2], some 10, none, []⟩, ⟨.inr (.call true true 16), [.t 10], some 11, none, []⟩, ⟨.inr (.alloc false [.nilS, .nilS, .nilS]), [], some 5, none, []⟩, ⟨.inr (.st 3), [.t 5, .t 11], none, none, []⟩] none)
 sq13_8)

/-- olivette/olivettelaw08.ParityChecks -/
def af13 : AFunc := ⟨2,
 (.seq (.reg [⟨.inr (.box false), [.t 0], some 2, none, []⟩, ⟨.inr (.box false), [.t 1], some 3, none, []⟩, ⟨.inl .mov, [.c (.bool false)], some 4, none, []⟩] none)
 sq13_9),
 [.t 4]⟩

def sq16_0 : AC := (.reg [⟨.inl .mov, [.t 4], some 21, none, []⟩, ⟨.inl (.bin .add), [.t 21, .c (.int .i64 (1))], some 22, none, []⟩, ⟨.inl .mov, [.t 22], some 4, none, []⟩] none)

def sp16_1 : AC := (.block 1 (.reg [⟨.inl (.fldA 2), [.t 1], some 25, none, []⟩, ⟨.inl (.ld false 1), [.t 25], some 26, none, []⟩, ⟨.inl .mov, [.t 4], some 27, none, []⟩, ⟨.inl (.idxA 1), [.t 26, .t 27], some 28, none, []⟩, ⟨.inl (.ld false 1), [.t 28], some 29, none, []⟩, ⟨.inr (.call true true 17), [.t 29], some 30, none, []⟩, ⟨.inl (.fldA 2), [.t 3], some 23, none, []⟩, ⟨.inl (.ld false 1), [.t 23], some 24, none, []⟩, ⟨.inr (.bldS true true 1 1 [.nilS] [(0, 1)]), [.t 30], some 31, none, []⟩, ⟨.inr (.app false 1 24), [.t 24, .t 31], some 32, none, []⟩, ⟨.inl (.fldA 2), [.t 3], some 33, none, []⟩, ⟨.inr (.st 1), [.t 33, .t 32], none, none, []⟩] (some ([2, 3, 4, 5, 6, 7, 0, 1, 8, 9, 10, 11], [], [0, 1, 0, 4, 0, 28, 60, 124, 252, 511, 1023, 2047]))))

def sp16_2 : AC := (.seq (.reg [⟨.inl .mov, [.t 4], some 12, none, []⟩, ⟨.inl (.fldA 2), [.t 1], some 13, none, []⟩, ⟨.inl (.ld false 1), [.t 13], some 14, none, []⟩, ⟨.inl .len, [.t 14], some 15, none, []⟩, ⟨.inl (.bin .lss), [.t 12, .t 15], some 16, none, []⟩, ⟨.inl .mov, [.t 16], some 17, none, []⟩, ⟨.inl .mov, [.t 4], some 18, some (17, true), []⟩, ⟨.inl (.bin .lss), [.t 18, .c (.int .i64 (30))], some 19, some (17, true), []⟩, ⟨.inl .pick, [.t 17, .t 19, .c (.bool false)], some 20, none, []⟩] none)
 (.cond (.t 20) .skip (.exit 0)))

def lb16_3 : AC := (.pre [1, 2, 3, 4] (.seq sp16_2
 (.seq sp16_1
 sq16_0)))

def sq16_4 : AC := (.pre [2, 3] (.seq (.reg [⟨.inl (.ld true 3), [.t 3], some 34, none, []⟩, ⟨.inr (.st 3), [.t 2, .t 34], none, none, []⟩] none)
 .ret))

def sq16_5 : AC := (.seq (.reg [⟨.inl (.fldA 0), [.t 1], some 5, none, []⟩, ⟨.inl (.ld false 1), [.t 5], some 6, none, []⟩, ⟨.inr (.call true true 17), [.t 6], some 7, none, []⟩, ⟨.inl (.fldA 1), [.t 1], some 8, none, []⟩, ⟨.inl (.ld false 1), [.t 8], some 9, none, []⟩, ⟨.inr (.call true true 17), [.t 9], some 10, none, []⟩, ⟨.inl (.bld [.nilS, .nilS, .nilS] [(0, 1), (1, 1)]), [.t 7, .t 10], some 11, none, []⟩, ⟨.inr (.alloc false [.nilS, .nilS, .nilS]), [], some 3, none, []⟩, ⟨.inr (.st 3), [.t 3, .t 11], none, none, []⟩] (some ([0, 1, 2, 3, 4, 5, 6, 7, 8], [], [0, 1, 3, 0, 8, 31, 63, 0, 255])))
 (.seq (.seq (.reg [⟨.inl .mov, [.c (.int .i64 (0))], some 4, none, []⟩] none)
 (.block 0 (.loop lb16_3)))
 sq16_4))

/-- olivette/olivettelaw08.game -/
def af16 : AFunc := ⟨1,
 (.seq (.reg [⟨.inr (.box false), [.t 0], some 1, none, []⟩, ⟨.inr (.alloc false [.nilS, .nilS, .nilS]), [], some 2, none, []⟩] none)
 sq16_5),
 [.cell 2 true 3]⟩

def sq17_0 : AC := (.seq (.reg [⟨.inl .mov, [.t 3], some 4, none, []⟩, ⟨.inl .mov, [.t 0], some 5, none, []⟩, ⟨.inl .mov, [.t 0], some 6, none, []⟩, ⟨.inl .len, [.t 6], some 7, none, []⟩, ⟨.inl .mn, [.t 7, .c (.int .i64 (30))], some 8, none, []⟩, ⟨.inl (.slc 1 false true), [.t 5, .t 8], some 9, none, []⟩, ⟨.inr (.app false 1 8), [.t 4, .t 9], some 10, none, []⟩, ⟨.inl .mov, [.t 10], some 2, none, []⟩] none)
 .ret)

/-- olivette/olivettelaw08.list -/
def af17 : AFunc := ⟨1,
 (.seq (.reg [⟨.inl .mov, [.c (.nilS)], some 2, none, []⟩] none)
 (.seq (.reg [⟨.inl .mov, [.c (.nilS)], some 3, none, []⟩] none)
 sq17_0)),
 [.t 2]⟩

def st18_0 : AC := (.seq (.reg [⟨.inl .mov, [.c (.nilS)], some 6, none, []⟩, ⟨.inl .mov, [.c (.int .i64 (2))], some 7, none, []⟩] none)
 .ret)

def sq18_1 : AC := (.reg [⟨.inl .mov, [.t 10], some 34, none, []⟩, ⟨.inl (.idxP 24 1), [.t 8, .t 34], some 35, none, []⟩, ⟨.inr (.st 1), [.t 35, .c (.bool true)], none, none, []⟩] none)

def sq18_2 : AC := (.reg [⟨.inl (.bin .add), [.t 30, .c (.int .i64 (1))], some 36, none, []⟩, ⟨.inl .mov, [.t 36], some 30, none, []⟩] none)

def sp18_3 : AC := (.block 1 (.seq (.reg [⟨.inl (.idxA 1), [.t 28, .t 30], some 32, none, []⟩, ⟨.inl (.ld false 1), [.t 32], some 33, none, []⟩, ⟨.inl .mov, [.t 33], some 10, none, []⟩] none)
 sq18_1))

def lb18_4 : AC := (.pre [1, 3, 8, 28, 29, 30] (.seq (.reg [⟨.inl (.bin .lss), [.t 30, .t 29], some 31, none, []⟩] none)
 (.seq (.cond (.t 31) .skip (.exit 0))
 (.seq sp18_3
 sq18_2))))

def sq18_5 : AC := (.seq (.reg [⟨.inl .mov, [.t 11], some 40, none, []⟩, ⟨.inr (.call true true 45), [.t 40], some 41, none, []⟩, ⟨.inl .mov, [.t 11], some 39, none, []⟩, ⟨.inl .mov, [.t 1], some 42, none, []⟩, ⟨.inl (.ld true 24), [.t 8], some 43, none, []⟩, ⟨.inr (.call false true 44), [.t 39, .t 41, .t 42, .t 43], some 44, none, []⟩, ⟨.inr (.call true true 46), [.t 44], some 45, none, []⟩, ⟨.inr (.call true false 43), [.t 45], some 46, none, []⟩, ⟨.inl .mov, [.t 46], some 6, none, []⟩, ⟨.inl .mov, [.c (.int .i64 (0))], some 7, none, []⟩] (some ([1, 2, 0, 3, 4, 5, 6, 7, 8, 9], [], [0, 0, 2, 0, 0, 31, 63, 127, 255, 511])))
 .ret)

def sq18_6 : AC := (.pre [1, 3, 8] (.seq (.reg [⟨.inl (.ld true 3), [.t 3], some 37, none, []⟩, ⟨.inr (.call true false 42), [.t 37], some 38, none, []⟩, ⟨.inl .mov, [.t 38], some 11, none, []⟩] none)
 sq18_5))

def sp18_7 : AC := (.seq (.reg [⟨.inl .mov, [.t 2], some 28, none, []⟩, ⟨.inl .len, [.t 28], some 29, none, []⟩, ⟨.inl .mov, [.c (.int .i64 (0))], some 30, none, []⟩] none)
 (.block 0 (.loop lb18_4)))

def sq18_8 : AC := (.seq (.reg [⟨.inr (.alloc true [.bool false, .bool false, .bool false, .bool false, .bool false, .bool false, .bool false, .bool false, .bool false, .bool false, .bool false, .bool false, .bool false, .bool false, .bool false, .bool false, .bool false, .bool false, .bool false, .bool false, .bool false, .bool false, .bool false, .bool false]), [], some 8, none, []⟩] none)
 (.seq sp18_7
 sq18_6))

def sp18_9 : AC := (.seq (.reg [⟨.inl (.ld true 3), [.t 3], some 12, none, []⟩, ⟨.inr (.call true true 39), [.t 12], some 13, none, []⟩, ⟨.inl (.un .not), [.t 13], some 14, none, []⟩, ⟨.inl .mov, [.t 14], some 15, none, []⟩, ⟨.inl .mov, [.t 1], some 16, some (15, false), []⟩, ⟨.inr (.call true true 40), [.t 16, .c (.int .i64 (0)), .c (.int .i64 (1))], some 17, some (15, false), []⟩, ⟨.inl (.un .not), [.t 17], some 18, some (15, false), []⟩, ⟨.inl .pick, [.t 15, .c (.bool true), .t 18], some 19, none, []⟩, ⟨.inl .mov, [.t 19], some 20, none, []⟩, ⟨.inl .mov, [.t 2], some 21, some (20, false), []⟩, ⟨.inl (.fldA 2), [.t 3], some 22, some (20, false), []⟩, ⟨.inl (.ld false 1), [.t 22], some 23, some (20, false), []⟩, ⟨.inl .len, [.t 23], some 24, some (20, false), []⟩, ⟨.inr (.call true true 41), [.t 21, .t 24], some 25, some (20, false), []⟩, ⟨.inl (.un .not), [.t 25], some 26, some (20, false), []⟩, ⟨.inl .pick, [.t 20, .c (.bool true), .t 26], some 27, none, []⟩] none)
 (.cond (.t 27) st18_0 .skip))

/-- olivette/parity.Attract -/
def af18 : AFunc := ⟨3,
 (.seq (.reg [⟨.inr (.box false), [.t 0], some 3, none, []⟩, ⟨.inl .mov, [.c (.nilS)], some 6, none, []⟩, ⟨.inl .mov, [.c (.int .i64 (0))], some 7, none, []⟩] none)
 (.seq sp18_9
 sq18_8)),
 [.t 6, .t 7]⟩

def sq19_0 : AC := (.reg [⟨.inl .mov, [.t 5], some 34, none, []⟩, ⟨.inl (.bin .add), [.t 34, .c (.int .i64 (1))], some 35, none, []⟩, ⟨.inl .mov, [.t 35], some 5, none, []⟩] none)

def sp19_1 : AC := (.block 1 (.seq (.reg [⟨.inl (.fldA 2), [.t 2], some 36, none, []⟩, ⟨.inl (.ld false 1), [.t 36], some 37, none, []⟩, ⟨.inl .mov, [.t 5], some 38, none, []⟩, ⟨.inl (.idxA 1), [.t 37, .t 38], some 39, none, []⟩, ⟨.inl (.ld false 1), [.t 39], some 40, none, []⟩, ⟨.inl (.fldA 2), [.t 3], some 41, none, []⟩, ⟨.inl (.ld false 1), [.t 41], some 42, none, []⟩, ⟨.inl .mov, [.t 5], some 43, none, []⟩, ⟨.inl (.idxA 1), [.t 42, .t 43], some 44, none, []⟩, ⟨.inl (.ld false 1), [.t 44], some 45, none, []⟩, ⟨.inr (.call true true 20), [.t 40, .t 45], some 46, none, []⟩, ⟨.inl (.un .not), [.t 46], some 47, none, []⟩] (some ([0, 1, 2, 3, 4, 5, 6, 7, 8, 9, 10, 11], [], [0, 1, 0, 7, 15, 0, 32, 0, 224, 480, 1023, 2047])))
 (.cond (.t 47) (.seq (.reg [⟨.inl .mov, [.c (.bool false)], some 4, none, []⟩] none)
 .ret) .skip)))

def sp19_2 : AC := (.seq (.reg [⟨.inl .mov, [.t 5], some 29, none, []⟩, ⟨.inl (.fldA 2), [.t 2], some 30, none, []⟩, ⟨.inl (.ld false 1), [.t 30], some 31, none, []⟩, ⟨.inl .len, [.t 31], some 32, none, []⟩, ⟨.inl (.bin .lss), [.t 29, .t 32], some 33, none, []⟩] none)
 (.cond (.t 33) .skip (.exit 0)))

def lb19_3 : AC := (.pre [2, 3, 5] (.seq sp19_2
 (.seq sp19_1
 sq19_0)))

def sq19_4 : AC := (.seq (.seq (.reg [⟨.inl .mov, [.c (.int .i64 (0))], some 5, none, []⟩] none)
 (.block 0 (.loop lb19_3)))
 (.pre [] (.seq (.reg [⟨.inl .mov, [.c (.bool true)], some 4, none, []⟩] none)
 .ret)))

def sp19_5 : AC := (.seq (.reg [⟨.inl (.fldA 0), [.t 2], some 6, none, []⟩, ⟨.inl (.ld false 1), [.t 6], some 7, none, []⟩, ⟨.inl (.fldA 0), [.t 3], some 8, none, []⟩, ⟨.inl (.ld false 1), [.t 8], some 9, none, []⟩, ⟨.inr (.call true true 20), [.t 7, .t 9], some 10, none, []⟩, ⟨.inl (.un .not), [.t 10], some 11, none, []⟩, ⟨.inl .mov, [.t 11], some 12, none, []⟩, ⟨.inl (.fldA 1), [.t 2], some 13, some (12, false), []⟩, ⟨.inl (.ld false 1), [.t 13], some 14, some (12, false), []⟩, ⟨.inl (.fldA 1), [.t 3], some 15, some (12, false), []⟩, ⟨.inl (.ld false 1), [.t 15], some 16, some (12, false), []⟩, ⟨.inr (.call true true 20), [.t 14, .t 16], some 17, some (12, false), []⟩, ⟨.inl (.un .not), [.t 17], some 18, some (12, false), []⟩, ⟨.inl .pick, [.t 12, .c (.bool true), .t 18], some 19, none, []⟩, ⟨.inl .mov, [.t 19], some 20, none, []⟩, ⟨.inl (.fldA 2), [.t 2], some 21, some (20, false), []⟩, ⟨.inl (.ld false 1), [.t 21], some 22, some (20, false), []⟩, ⟨.inl .len, [.t 22], some 23, some (20, false), []⟩, ⟨.inl (.fldA 2), [.t 3], some 24, some (20, false), []⟩, ⟨.inl (.ld false 1), [.t 24], some 25, some (20, false), []⟩, ⟨.inl .len, [.t 25], some 26, some (20, false), []⟩, ⟨.inl (.bin .neq), [.t 23, .t 26], some 27, some (20, false), []⟩, ⟨.inl .pick, [.t 20, .c (.bool true), .t 27], some 28, none, []⟩] none)
 (.cond (.t 28) (.seq (.reg [⟨.inl .mov, [.c (.bool false)], some 4, none, []⟩] none)
 .ret) .skip))

/-- olivette/olivettelaw08.equal -/
def af19 : AFunc := ⟨2,
 (.seq (.reg [⟨.inr (.box false), [.t 0], some 2, none, []⟩, ⟨.inr (.box false), [.t 1], some 3, none, []⟩, ⟨.inl .mov, [.c (.bool false)], some 4, none, []⟩] none)
 (.seq sp19_5
 sq19_4)),
 [.t 4]⟩

def sq20_0 : AC := (.reg [⟨.inl .mov, [.t 5], some 15, none, []⟩, ⟨.inl (.bin .add), [.t 15, .c (.int .i64 (1))], some 16, none, []⟩, ⟨.inl .mov, [.t 16], some 5, none, []⟩] none)

def sp20_1 : AC := (.block 1 (.seq (.reg [⟨.inl .mov, [.t 0], some 17, none, []⟩, ⟨.inl .mov, [.t 5], some 18, none, []⟩, ⟨.inl (.idxA 1), [.t 17, .t 18], some 19, none, []⟩, ⟨.inl (.ld false 1), [.t 19], some 20, none, []⟩, ⟨.inl .mov, [.t 1], some 21, none, []⟩, ⟨.inl .mov, [.t 5], some 22, none, []⟩, ⟨.inl (.idxA 1), [.t 21, .t 22], some 23, none, []⟩, ⟨.inl (.ld false 1), [.t 23], some 24, none, []⟩, ⟨.inl (.bin .neq), [.t 20, .t 24], some 25, none, []⟩] (some ([0, 1, 2, 3, 4, 5, 6, 7, 8], [], [0, 0, 3, 7, 0, 0, 48, 112, 255])))
 (.cond (.t 25) (.seq (.reg [⟨.inl .mov, [.c (.bool false)], some 4, none, []⟩] none)
 .ret) .skip)))

def sp20_2 : AC := (.seq (.reg [⟨.inl .mov, [.t 5], some 11, none, []⟩, ⟨.inl .mov, [.t 0], some 12, none, []⟩, ⟨.inl .len, [.t 12], some 13, none, []⟩, ⟨.inl (.bin .lss), [.t 11, .t 13], some 14, none, []⟩] none)
 (.cond (.t 14) .skip (.exit 0)))

def lb20_3 : AC := (.pre [0, 1, 5] (.seq sp20_2
 (.seq sp20_1
 sq20_0)))

def sq20_4 : AC := (.seq (.seq (.reg [⟨.inl .mov, [.c (.int .i64 (0))], some 5, none, []⟩] none)
 (.block 0 (.loop lb20_3)))
 (.pre [] (.seq (.reg [⟨.inl .mov, [.c (.bool true)], some 4, none, []⟩] none)
 .ret)))

def sp20_5 : AC := (.seq (.reg [⟨.inl .mov, [.t 0], some 6, none, []⟩, ⟨.inl .len, [.t 6], some 7, none, []⟩, ⟨.inl .mov, [.t 1], some 8, none, []⟩, ⟨.inl .len, [.t 8], some 9, none, []⟩, ⟨.inl (.bin .neq), [.t 7, .t 9], some 10, none, []⟩] none)
 (.cond (.t 10) (.seq (.reg [⟨.inl .mov, [.c (.bool false)], some 4, none, []⟩] none)
 .ret) .skip))

/-- olivette/olivettelaw08.ints -/
def af20 : AFunc := ⟨2,
 (.seq (.reg [⟨.inl .mov, [.c (.bool false)], some 4, none, []⟩] none)
 (.seq sp20_5
 sq20_4)),
 [.t 4]⟩

def sq21_0 : AC := (.reg [⟨.inl .mov, [.t 4], some 31, none, []⟩, ⟨.inl (.bin .add), [.t 31, .c (.int .i64 (1))], some 32, none, []⟩, ⟨.inl .mov, [.t 32], some 4, none, []⟩] none)

def sp21_1 : AC := (.block 1 (.seq (.reg [⟨.inl (.fldA 0), [.t 1], some 33, none, []⟩, ⟨.inl (.ld false 1), [.t 33], some 34, none, []⟩, ⟨.inl .mov, [.t 4], some 35, none, []⟩, ⟨.inl (.idxA 1), [.t 34, .t 35], some 36, none, []⟩, ⟨.inl (.ld false 1), [.t 36], some 37, none, []⟩, ⟨.inl (.bin .lss), [.t 37, .c (.int .i64 (0))], some 38, none, []⟩, ⟨.inl .mov, [.t 38], some 39, none, []⟩, ⟨.inl (.fldA 0), [.t 1], some 40, some (39, false), []⟩, ⟨.inl (.ld false 1), [.t 40], some 41, some (39, false), []⟩, ⟨.inl .mov, [.t 4], some 42, some (39, false), []⟩, ⟨.inl (.idxA 1), [.t 41, .t 42], some 43, some (39, false), []⟩, ⟨.inl (.ld false 1), [.t 43], some 44, some (39, false), []⟩, ⟨.inl (.bin .gtr), [.t 44, .c (.int .i64 (1))], some 45, some (39, false), []⟩, ⟨.inl .pick, [.t 39, .c (.bool true), .t 45], some 46, none, []⟩, ⟨.inl .mov, [.t 46], some 47, none, []⟩, ⟨.inl (.fldA 1), [.t 1], some 48, some (47, false), []⟩, ⟨.inl (.ld false 1), [.t 48], some 49, some (47, false), []⟩, ⟨.inl .mov, [.t 4], some 50, some (47, false), []⟩, ⟨.inl (.idxA 1), [.t 49, .t 50], some 51, some (47, false), []⟩, ⟨.inl (.ld false 1), [.t 51], some 52, some (47, false), []⟩, ⟨.inl (.bin .lss), [.t 52, .c (.int .i64 (0))], some 53, some (47, false), []⟩, ⟨.inl .pick, [.t 47, .c (.bool true), .t 53], some 54, none, []⟩, ⟨.inl .mov, [.t 54], some 55, none, []⟩, ⟨.inl (.fldA 1), [.t 1], some 56, some (55, false), []⟩, ⟨.inl (.ld false 1), [.t 56], some 57, some (55, false), []⟩, ⟨.inl .mov, [.t 4], some 58, some (55, false), []⟩, ⟨.inl (.idxA 1), [.t 57, .t 58], some 59, some (55, false), []⟩, ⟨.inl (.ld false 1), [.t 59], some 60, some (55, false), []⟩, ⟨.inl (.bin .gtr), [.t 60, .c (.int .i64 (9))], some 61, some (55, false), []⟩, ⟨.inl .pick, [.t 55, .c (.bool true), .t 61], some 62, none, []⟩, ⟨.inl .mov, [.t 62], some 63, none, []⟩, ⟨.inl (.fldA 2), [.t 1], some 64, some (63, false), []⟩, ⟨.inl (.ld false 1), [.t 64], some 65, some (63, false), []⟩, ⟨.inl .mov, [.t 4], some 66, some (63, false), []⟩, ⟨.inl (.idxA 1), [.t 65, .t 66], some 67, some (63, false), []⟩, ⟨.inl (.ld false 1), [.t 67], some 68, some (63, false), []⟩, ⟨.inl .len, [.t 68], some 69, some (63, false), []⟩, ⟨.inl (.bin .eql), [.t 69, .c (.int .i64 (0))], some 70, some (63, false), []⟩, ⟨.inl .pick, [.t 63, .c (.bool true), .t 70], some 71, none, []⟩, ⟨.inl .mov, [.t 71], some 72, none, []⟩, ⟨.inl (.fldA 2), [.t 1], some 73, some (72, false), []⟩, ⟨.inl (.ld false 1), [.t 73], some 74, some (72, false), []⟩, ⟨.inl .mov, [.t 4], some 75, some (72, false), []⟩, ⟨.inl (.idxA 1), [.t 74, .t 75], some 76, some (72, false), []⟩, ⟨.inl (.ld false 1), [.t 76], some 77, some (72, false), []⟩, ⟨.inl .mov, [.t 3], some 78, some (72, false), []⟩, ⟨.inr (.call true true 22), [.t 77, .t 78], some 79, some (72, false), []⟩, ⟨.inl (.un .not), [.t 79], some 80, some (72, false), []⟩, ⟨.inl .pick, [.t 72, .c (.bool true), .t 80], some 81, none, []⟩] none)
 (.cond (.t 81) (.seq (.reg [⟨.inl .mov, [.c (.bool false)], some 2, none, []⟩] none)
 .ret) .skip)))

def sp21_2 : AC := (.seq (.reg [⟨.inl .mov, [.t 4], some 28, none, []⟩, ⟨.inl .mov, [.t 3], some 29, none, []⟩, ⟨.inl (.bin .lss), [.t 28, .t 29], some 30, none, []⟩] none)
 (.cond (.t 30) .skip (.exit 0)))

def lb21_3 : AC := (.pre [1, 3, 4] (.seq sp21_2
 (.seq sp21_1
 sq21_0)))

def sq21_4 : AC := (.seq (.seq (.reg [⟨.inl .mov, [.c (.int .i64 (0))], some 4, none, []⟩] none)
 (.block 0 (.loop lb21_3)))
 (.pre [] (.seq (.reg [⟨.inl .mov, [.c (.bool true)], some 2, none, []⟩] none)
 .ret)))

def sp21_5 : AC := (.seq (.reg [⟨.inl .mov, [.t 3], some 8, none, []⟩, ⟨.inl (.bin .lss), [.t 8, .c (.int .i64 (1))], some 9, none, []⟩, ⟨.inl .mov, [.t 9], some 10, none, []⟩, ⟨.inl .mov, [.t 3], some 11, some (10, false), []⟩, ⟨.inl (.bin .gtr), [.t 11, .c (.int .i64 (24))], some 12, some (10, false), []⟩, ⟨.inl .pick, [.t 10, .c (.bool true), .t 12], some 13, none, []⟩, ⟨.inl .mov, [.t 13], some 14, none, []⟩, ⟨.inl (.fldA 1), [.t 1], some 15, some (14, false), []⟩, ⟨.inl (.ld false 1), [.t 15], some 16, some (14, false), []⟩, ⟨.inl .len, [.t 16], some 17, some (14, false), []⟩, ⟨.inl .mov, [.t 3], some 18, some (14, false), []⟩, ⟨.inl (.bin .neq), [.t 17, .t 18], some 19, some (14, false), []⟩, ⟨.inl .pick, [.t 14, .c (.bool true), .t 19], some 20, none, []⟩, ⟨.inl .mov, [.t 20], some 21, none, []⟩, ⟨.inl (.fldA 2), [.t 1], some 22, some (21, false), []⟩, ⟨.inl (.ld false 1), [.t 22], some 23, some (21, false), []⟩, ⟨.inl .len, [.t 23], some 24, some (21, false), []⟩, ⟨.inl .mov, [.t 3], some 25, some (21, false), []⟩, ⟨.inl (.bin .neq), [.t 24, .t 25], some 26, some (21, false), []⟩, ⟨.inl .pick, [.t 21, .c (.bool true), .t 26], some 27, none, []⟩] none)
 (.cond (.t 27) (.seq (.reg [⟨.inl .mov, [.c (.bool false)], some 2, none, []⟩] none)
 .ret) .skip))

def sq21_6 : AC := (.seq (.reg [⟨.inl (.fldA 0), [.t 1], some 5, none, []⟩, ⟨.inl (.ld false 1), [.t 5], some 6, none, []⟩, ⟨.inl .len, [.t 6], some 7, none, []⟩, ⟨.inl .mov, [.t 7], some 3, none, []⟩] none)
 (.seq sp21_5
 sq21_4))

/-- olivette/olivetteref08.Game -/
def af21 : AFunc := ⟨1,
 (.seq (.reg [⟨.inr (.box false), [.t 0], some 1, none, []⟩, ⟨.inl .mov, [.c (.bool false)], some 2, none, []⟩] none)
 sq21_6),
 [.t 2]⟩

def sq22_0 : AC := (.reg [⟨.inl .mov, [.t 5], some 10, none, []⟩, ⟨.inl (.bin .add), [.t 10, .c (.int .i64 (1))], some 11, none, []⟩, ⟨.inl .mov, [.t 11], some 5, none, []⟩] none)

def sp22_1 : AC := (.block 1 (.seq (.reg [⟨.inl .mov, [.t 0], some 12, none, []⟩, ⟨.inl .mov, [.t 5], some 13, none, []⟩, ⟨.inl (.idxA 1), [.t 12, .t 13], some 14, none, []⟩, ⟨.inl (.ld false 1), [.t 14], some 15, none, []⟩, ⟨.inl (.bin .lss), [.t 15, .c (.int .i64 (0))], some 16, none, []⟩, ⟨.inl .mov, [.t 16], some 17, none, []⟩, ⟨.inl .mov, [.t 0], some 18, some (17, false), []⟩, ⟨.inl .mov, [.t 5], some 19, some (17, false), []⟩, ⟨.inl (.idxA 1), [.t 18, .t 19], some 20, some (17, false), []⟩, ⟨.inl (.ld false 1), [.t 20], some 21, some (17, false), []⟩, ⟨.inl .mov, [.t 1], some 22, some (17, false), []⟩, ⟨.inl (.bin .geq), [.t 21, .t 22], some 23, some (17, false), []⟩, ⟨.inl .pick, [.t 17, .c (.bool true), .t 23], some 24, none, []⟩, ⟨.inl .mov, [.t 24], some 25, none, []⟩, ⟨.inl .mov, [.t 5], some 26, some (25, false), []⟩, ⟨.inl (.bin .gtr), [.t 26, .c (.int .i64 (0))], some 27, some (25, false), []⟩, ⟨.inl .mov, [.t 27], some 28, some (25, false), []⟩, ⟨.inl .mov, [.t 0], some 29, some (28, true), []⟩, ⟨.inl .mov, [.t 5], some 30, some (28, true), []⟩, ⟨.inl (.bin .sub), [.t 30, .c (.int .i64 (1))], some 31, some (28, true), []⟩, ⟨.inl (.idxA 1), [.t 29, .t 31], some 32, some (28, true), []⟩, ⟨.inl (.ld false 1), [.t 32], some 33, some (28, true), []⟩, ⟨.inl .mov, [.t 0], some 34, some (28, true), []⟩, ⟨.inl .mov, [.t 5], some 35, some (28, true), []⟩, ⟨.inl (.idxA 1), [.t 34, .t 35], some 36, some (28, true), []⟩, ⟨.inl (.ld false 1), [.t 36], some 37, some (28, true), []⟩, ⟨.inl (.bin .geq), [.t 33, .t 37], some 38, some (28, true), []⟩, ⟨.inl .pick, [.t 28, .t 38, .c (.bool false)], some 39, some (25, false), []⟩, ⟨.inl .pick, [.t 25, .c (.bool true), .t 39], some 40, none, []⟩] (some ([0, 1, 2, 3, 4, 5, 6, 7, 8, 9, 10, 11, 12, 13, 14, 15, 16, 17, 18, 19, 20, 21, 22, 23, 24, 25, 26, 27, 28], [], [0, 0, 3, 7, 15, 31, 63, 63, 255, 511, 63, 2047, 4095, 8191, 16383, 32767, 65535, 131071, 131071, 393215, 1048575, 2097151, 131071, 131071, 12713983, 29491199, 67108863, 134217727, 268435455])))
 (.cond (.t 40) (.seq (.reg [⟨.inl .mov, [.c (.bool false)], some 4, none, []⟩] none)
 .ret) .skip)))

def sp22_2 : AC := (.seq (.reg [⟨.inl .mov, [.t 5], some 6, none, []⟩, ⟨.inl .mov, [.t 0], some 7, none, []⟩, ⟨.inl .len, [.t 7], some 8, none, []⟩, ⟨.inl (.bin .lss), [.t 6, .t 8], some 9, none, []⟩] none)
 (.cond (.t 9) .skip (.exit 0)))

def lb22_3 : AC := (.pre [0, 1, 5] (.seq sp22_2
 (.seq sp22_1
 sq22_0)))

def sq22_4 : AC := (.seq (.seq (.reg [⟨.inl .mov, [.c (.int .i64 (0))], some 5, none, []⟩] none)
 (.block 0 (.loop lb22_3)))
 (.pre [] (.seq (.reg [⟨.inl .mov, [.c (.bool true)], some 4, none, []⟩] none)
 .ret)))

/-- olivette/olivetteref08.Ascending -/
def af22 : AFunc := ⟨2,
 (.seq (.reg [⟨.inl .mov, [.c (.bool false)], some 4, none, []⟩] none)
 sq22_4),
 [.t 4]⟩

def sp23_0 : AC := (.seq (.reg [⟨.inl .mov, [.t 3], some 35, none, []⟩, ⟨.inl (.bin .neq), [.t 35, .c (.int .i64 (0))], some 36, none, []⟩, ⟨.inl .mov, [.t 36], some 37, none, []⟩, ⟨.inl (.fldA 0), [.t 2], some 38, some (37, false), []⟩, ⟨.inl (.ld false 1), [.t 38], some 39, some (37, false), []⟩, ⟨.inr (.bldS true true 1 2 [.int .i64 0] [(0, 1), (1, 1)]), [.c (.int .i64 (0)), .c (.int .i64 (0))], some 40, some (37, false), []⟩, ⟨.inr (.call true true 20), [.t 39, .t 40], some 41, some (37, false), []⟩, ⟨.inl (.un .not), [.t 41], some 42, some (37, false), []⟩, ⟨.inl .pick, [.t 37, .c (.bool true), .t 42], some 43, none, []⟩, ⟨.inl .mov, [.t 43], some 44, none, []⟩, ⟨.inl (.fldA 1), [.t 2], some 45, some (44, false), []⟩, ⟨.inl (.ld false 1), [.t 45], some 46, some (44, false), []⟩, ⟨.inr (.bldS true true 1 2 [.int .i64 0] [(0, 1), (1, 1)]), [.c (.int .i64 (1)), .c (.int .i64 (-1))], some 47, some (44, false), []⟩, ⟨.inr (.call true true 20), [.t 46, .t 47], some 48, some (44, false), []⟩, ⟨.inl (.un .not), [.t 48], some 49, some (44, false), []⟩, ⟨.inl .pick, [.t 44, .c (.bool true), .t 49], some 50, none, []⟩, ⟨.inl .mov, [.t 50], some 51, none, []⟩, ⟨.inl .mov, [.t 5], some 52, some (51, false), []⟩, ⟨.inl (.bin .neq), [.t 52, .c (.int .i64 (0))], some 53, some (51, false), []⟩, ⟨.inl .pick, [.t 51, .c (.bool true), .t 53], some 54, none, []⟩, ⟨.inl .mov, [.t 54], some 55, none, []⟩, ⟨.inl .mov, [.t 4], some 56, some (55, false), []⟩, ⟨.inr (.bldS true true 1 2 [.int .i64 0] [(0, 1), (1, 1)]), [.c (.int .i64 (0)), .c (.int .i64 (1))], some 57, some (55, false), []⟩, ⟨.inr (.call true true 20), [.t 56, .t 57], some 58, some (55, false), []⟩, ⟨.inl (.un .not), [.t 58], some 59, some (55, false), []⟩, ⟨.inl .pick, [.t 55, .c (.bool true), .t 59], some 60, none, []⟩, ⟨.inl .mov, [.t 60], some 61, none, []⟩, ⟨.inl .mov, [.t 9], some 62, some (61, false), []⟩, ⟨.inl (.bin .neq), [.t 62, .c (.int .i64 (0))], some 63, some (61, false), []⟩, ⟨.inl .pick, [.t 61, .c (.bool true), .t 63], some 64, none, []⟩, ⟨.inl .mov, [.t 64], some 65, none, []⟩, ⟨.inl .mov, [.t 7], some 66, some (65, false), []⟩, ⟨.inr (.bldS true true 1 2 [.int .i64 0] [(0, 1), (1, 1)]), [.c (.int .i64 (0)), .c (.int .i64 (1))], some 67, some (65, false), []⟩, ⟨.inr (.call true true 20), [.t 66, .t 67], some 68, some (65, false), []⟩, ⟨.inl (.un .not), [.t 68], some 69, some (65, false), []⟩, ⟨.inl .pick, [.t 65, .c (.bool true), .t 69], some 70, none, []⟩, ⟨.inl .mov, [.t 70], some 71, none, []⟩, ⟨.inl .mov, [.t 8], some 72, some (71, false), []⟩, ⟨.inl (.bin .neq), [.t 72, .c (.int .i64 (0))], some 73, some (71, false), []⟩, ⟨.inl .pick, [.t 71, .c (.bool true), .t 73], some 74, none, []⟩] none)
 (.cond (.t 74) (.seq (.reg [⟨.inl .mov, [.c (.bool false)], some 0, none, []⟩] none)
 .ret) .skip))

def sq23_1 : AC := (.seq (.reg [⟨.inl (.ld true 3), [.t 1], some 28, none, []⟩, ⟨.inr (.bldS true true 1 2 [.int .i64 0] [(0, 1), (1, 1)]), [.c (.int .i64 (1)), .c (.int .i64 (0))], some 29, none, []⟩, ⟨.inr (.call true true 25), [.t 28, .c (.int .i64 (0)), .t 29], some 30, none, []⟩, ⟨.inl .mov, [.t 30], some 27, none, []⟩, ⟨.inl (.ext 0), [.t 27], some 31, none, []⟩, ⟨.inl (.ext 1), [.t 27], some 32, none, []⟩, ⟨.inl (.ext 2), [.t 27], some 33, none, []⟩, ⟨.inl (.ext 3), [.t 27], some 34, none, []⟩, ⟨.inl .mov, [.t 31], some 6, none, []⟩, ⟨.inl .mov, [.t 32], some 7, none, []⟩, ⟨.inl .mov, [.t 33], some 8, none, []⟩, ⟨.inl .mov, [.t 34], some 9, none, []⟩] none)
 (.seq sp23_0
 (.seq (.reg [⟨.inl .mov, [.c (.bool true)], some 0, none, []⟩] none)
 .ret)))

def sq23_2 : AC := (.seq (.reg [⟨.inl (.ld true 3), [.t 1], some 22, none, []⟩, ⟨.inr (.bldS true true 1 1 [.int .i64 0] [(0, 1)]), [.c (.int .i64 (1))], some 23, none, []⟩, ⟨.inr (.call true true 18), [.t 22, .c (.int .i64 (0)), .t 23], some 24, none, []⟩, ⟨.inl .mov, [.t 24], some 21, none, []⟩, ⟨.inl (.ext 0), [.t 21], some 25, none, []⟩, ⟨.inl (.ext 1), [.t 21], some 26, none, []⟩, ⟨.inl .mov, [.t 25], some 4, none, []⟩, ⟨.inl .mov, [.t 26], some 5, none, []⟩] none)
 sq23_1)

def sq23_3 : AC := (.seq (.reg [⟨.inl (.ld true 3), [.t 1], some 17, none, []⟩, ⟨.inr (.call true true 29), [.t 17], some 18, none, []⟩, ⟨.inl .mov, [.t 18], some 16, none, []⟩, ⟨.inl (.ext 0), [.t 16], some 19, none, []⟩, ⟨.inl (.ext 1), [.t 16], some 20, none, []⟩, ⟨.inr (.alloc false [.nilS, .nilS]), [], some 2, none, []⟩, ⟨.inr (.st 2), [.t 2, .t 19], none, none, []⟩, ⟨.inl .mov, [.t 20], some 3, none, []⟩] none)
 sq23_2)

def sq23_4 : AC := (.seq (.reg [⟨.inr (.bldS true true 1 2 [.int .i64 0] [(0, 1), (1, 1)]), [.c (.int .i64 (0)), .c (.int .i64 (1))], some 10, none, []⟩, ⟨.inr (.bldS true true 1 2 [.int .i64 0] [(0, 1), (1, 1)]), [.c (.int .i64 (1)), .c (.int .i64 (2))], some 11, none, []⟩, ⟨.inr (.bldS true true 1 2 [.int .i64 0] [(0, 1), (1, 1)]), [.c (.int .i64 (0)), .c (.int .i64 (1))], some 12, none, []⟩, ⟨.inr (.bldS true true 1 1 [.int .i64 0] [(0, 1)]), [.c (.int .i64 (0))], some 13, none, []⟩, ⟨.inr (.bldS true true 1 2 [.nilS] [(0, 1), (1, 1)]), [.t 12, .t 13], some 14, none, []⟩, ⟨.inl (.bld [.nilS, .nilS, .nilS] [(0, 1), (1, 1), (2, 1)]), [.t 10, .t 11, .t 14], some 15, none, []⟩, ⟨.inr (.alloc false [.nilS, .nilS, .nilS]), [], some 1, none, []⟩, ⟨.inr (.st 3), [.t 1, .t 15], none, none, []⟩] none)
 sq23_3)

/-- olivette/olivettelaw08.awake -/
def af23 : AFunc := ⟨0,
 (.seq (.reg [⟨.inl .mov, [.c (.bool false)], some 0, none, []⟩] none)
 sq23_4),
 [.t 0]⟩

def st25_0 : AC := (.seq (.reg [⟨.inl .mov, [.c (.nilS)], some 6, none, []⟩, ⟨.inl .mov, [.c (.nilS)], some 7, none, []⟩, ⟨.inl .mov, [.c (.int .i64 (0))], some 8, none, []⟩, ⟨.inl .mov, [.c (.int .i64 (2))], some 9, none, []⟩] none)
 .ret)

def sq25_1 : AC := (.reg [⟨.inl .mov, [.t 2], some 43, none, []⟩, ⟨.inl .mov, [.t 11], some 44, none, []⟩, ⟨.inl (.idxA 1), [.t 43, .t 44], some 45, none, []⟩, ⟨.inl (.ld false 1), [.t 45], some 46, none, []⟩, ⟨.inl .mov, [.t 46], some 11, none, []⟩] none)

def sq25_2 : AC := (.block 1 (.seq (.reg [⟨.inl .mov, [.t 10], some 39, none, []⟩, ⟨.inl .mov, [.t 11], some 40, none, []⟩, ⟨.inr (.bldS true true 1 1 [.int .i64 0] [(0, 1)]), [.t 40], some 41, none, []⟩, ⟨.inr (.app false 1 8), [.t 39, .t 41], some 42, none, []⟩, ⟨.inl .mov, [.t 42], some 10, none, []⟩] none)
 sq25_1))

def sp25_3 : AC := (.seq (.reg [⟨.inl .mov, [.t 10], some 35, none, []⟩, ⟨.inl .mov, [.t 11], some 36, none, []⟩, ⟨.inr (.call true true 51), [.t 35, .t 36], some 37, none, []⟩, ⟨.inl (.un .not), [.t 37], some 38, none, []⟩] none)
 (.cond (.t 38) .skip (.exit 0)))

def lb25_4 : AC := (.pre [2, 3, 10, 11] (.seq sp25_3
 sq25_2))

def sq25_5 : AC := (.reg [⟨.inl .mov, [.t 13], some 58, none, []⟩, ⟨.inl (.fldA 1), [.t 3], some 59, none, []⟩, ⟨.inl (.ld false 1), [.t 59], some 60, none, []⟩, ⟨.inl .mov, [.t 15], some 61, none, []⟩, ⟨.inl (.idxA 1), [.t 60, .t 61], some 62, none, []⟩, ⟨.inl (.ld false 1), [.t 62], some 63, none, []⟩, ⟨.inl .mx, [.t 58, .t 63], some 64, none, []⟩, ⟨.inl .mov, [.t 64], some 13, none, []⟩] none)

def sq25_6 : AC := (.reg [⟨.inl (.bin .add), [.t 54, .c (.int .i64 (1))], some 65, none, []⟩, ⟨.inl .mov, [.t 65], some 54, none, []⟩] none)

def sp25_7 : AC := (.block 3 (.seq (.reg [⟨.inl (.idxA 1), [.t 52, .t 54], some 56, none, []⟩, ⟨.inl (.ld false 1), [.t 56], some 57, none, []⟩, ⟨.inl .mov, [.t 57], some 15, none, []⟩] none)
 sq25_5))

def lb25_8 : AC := (.pre [3, 10, 12, 13, 52, 53, 54] (.seq (.reg [⟨.inl (.bin .lss), [.t 54, .t 53], some 55, none, []⟩] none)
 (.seq (.cond (.t 55) .skip (.exit 2))
 (.seq sp25_7
 sq25_6))))

def sq25_9 : AC := (.pre [10, 12, 13] (.seq (.reg [⟨.inl .mov, [.t 10], some 66, none, []⟩, ⟨.inl .mov, [.t 12], some 67, none, []⟩, ⟨.inl (.slc 1 false true), [.t 66, .t 67], some 68, none, []⟩, ⟨.inr (.call true true 53), [.t 68], some 69, none, []⟩, ⟨.inl .mov, [.t 10], some 70, none, []⟩, ⟨.inl .mov, [.t 12], some 71, none, []⟩, ⟨.inl (.slc 1 true false), [.t 70, .t 71], some 72, none, []⟩, ⟨.inr (.call true true 53), [.t 72], some 73, none, []⟩, ⟨.inl .mov, [.t 13], some 74, none, []⟩, ⟨.inl (.bin .rem), [.t 74, .c (.int .i64 (2))], some 75, none, []⟩, ⟨.inl .mov, [.t 69], some 6, none, []⟩, ⟨.inl .mov, [.t 73], some 7, none, []⟩, ⟨.inl .mov, [.t 75], some 8, none, []⟩, ⟨.inl .mov, [.c (.int .i64 (0))], some 9, none, []⟩] (some ([0, 1, 2, 3, 4, 5, 6, 7, 8, 9, 10, 11, 12, 13], [], [0, 0, 3, 7, 0, 0, 48, 127, 0, 256, 255, 1279, 4095, 8191])))
 .ret))

def sp25_10 : AC := (.seq (.reg [⟨.inl .mov, [.t 10], some 50, none, []⟩, ⟨.inl .mov, [.t 12], some 51, none, []⟩, ⟨.inl (.slc 1 true false), [.t 50, .t 51], some 52, none, []⟩, ⟨.inl .len, [.t 52], some 53, none, []⟩, ⟨.inl .mov, [.c (.int .i64 (0))], some 54, none, []⟩] none)
 (.block 2 (.loop lb25_8)))

def sq25_11 : AC := (.pre [3, 10, 11] (.seq (.reg [⟨.inl .mov, [.t 10], some 47, none, []⟩, ⟨.inl .mov, [.t 11], some 48, none, []⟩, ⟨.inr (.call true true 52), [.t 47, .t 48], some 49, none, []⟩, ⟨.inl .mov, [.t 49], some 12, none, []⟩] none)
 (.seq (.reg [⟨.inl .mov, [.c (.int .i64 (0))], some 13, none, []⟩] none)
 (.seq sp25_10
 sq25_9))))

def sq25_12 : AC := (.seq (.reg [⟨.inl .mov, [.t 1], some 34, none, []⟩, ⟨.inl .mov, [.t 34], some 11, none, []⟩] none)
 (.seq (.block 0 (.loop lb25_4))
 sq25_11))

def sp25_13 : AC := (.seq (.reg [⟨.inl (.ld true 3), [.t 3], some 16, none, []⟩, ⟨.inr (.call true true 39), [.t 16], some 17, none, []⟩, ⟨.inl (.un .not), [.t 17], some 18, none, []⟩, ⟨.inl .mov, [.t 18], some 19, none, []⟩, ⟨.inl .mov, [.t 1], some 20, some (19, false), []⟩, ⟨.inl (.fldA 2), [.t 3], some 21, some (19, false), []⟩, ⟨.inl (.ld false 1), [.t 21], some 22, some (19, false), []⟩, ⟨.inl .len, [.t 22], some 23, some (19, false), []⟩, ⟨.inl (.bin .sub), [.t 23, .c (.int .i64 (1))], some 24, some (19, false), []⟩, ⟨.inr (.call true true 40), [.t 20, .c (.int .i64 (0)), .t 24], some 25, some (19, false), []⟩, ⟨.inl (.un .not), [.t 25], some 26, some (19, false), []⟩, ⟨.inl .pick, [.t 19, .c (.bool true), .t 26], some 27, none, []⟩, ⟨.inl .mov, [.t 27], some 28, none, []⟩, ⟨.inl (.ld true 3), [.t 3], some 29, some (28, false), []⟩, ⟨.inl .mov, [.t 2], some 30, some (28, false), []⟩, ⟨.inr (.call true true 49), [.t 29, .t 30, .c (.fn 50 [])], some 31, some (28, false), []⟩, ⟨.inl (.un .not), [.t 31], some 32, some (28, false), []⟩, ⟨.inl .pick, [.t 28, .c (.bool true), .t 32], some 33, none, []⟩] none)
 (.cond (.t 33) st25_0 .skip))

/-- olivette/parity.Play -/
def af25 : AFunc := ⟨3,
 (.seq (.reg [⟨.inr (.box false), [.t 0], some 3, none, []⟩, ⟨.inl .mov, [.c (.nilS)], some 6, none, []⟩, ⟨.inl .mov, [.c (.nilS)], some 7, none, []⟩, ⟨.inl .mov, [.c (.int .i64 (0))], some 8, none, []⟩, ⟨.inl .mov, [.c (.int .i64 (0))], some 9, none, []⟩] none)
 (.seq sp25_13
 (.seq (.reg [⟨.inl .mov, [.c (.nilS)], some 10, none, []⟩] none)
 sq25_12))),
 [.t 6, .t 7, .t 8, .t 9]⟩

def sq26_0 : AC := (.reg [⟨.inl .mov, [.t 7], some 18, none, []⟩, ⟨.inl (.bin .add), [.t 18, .c (.int .i64 (1))], some 19, none, []⟩, ⟨.inl .mov, [.t 19], some 7, none, []⟩] none)

def sp26_1 : AC := (.block 1 (.seq (.reg [⟨.inl (.fldA 0), [.t 3], some 20, none, []⟩, ⟨.inl (.ld false 1), [.t 20], some 21, none, []⟩, ⟨.inl .mov, [.t 7], some 22, none, []⟩, ⟨.inl (.idxA 1), [.t 21, .t 22], some 23, none, []⟩, ⟨.inl (.ld false 1), [.t 23], some 24, none, []⟩, ⟨.inl .mov, [.t 1], some 25, none, []⟩, ⟨.inl (.bin .eql), [.t 24, .t 25], some 26, none, []⟩, ⟨.inl .mov, [.t 26], some 27, none, []⟩, ⟨.inl (.fldA 2), [.t 3], some 28, some (27, true), []⟩, ⟨.inl (.ld false 1), [.t 28], some 29, some (27, true), []⟩, ⟨.inl .mov, [.t 7], some 30, some (27, true), []⟩, ⟨.inl (.idxA 1), [.t 29, .t 30], some 31, some (27, true), []⟩, ⟨.inl (.ld false 1), [.t 31], some 32, some (27, true), []⟩, ⟨.inl .mov, [.t 2], some 33, some (27, true), []⟩, ⟨.inl .mov, [.t 7], some 34, some (27, true), []⟩, ⟨.inl (.idxA 1), [.t 33, .t 34], some 35, some (27, true), []⟩, ⟨.inl (.ld false 1), [.t 35], some 36, some (27, true), []⟩, ⟨.inr (.call true true 47), [.t 32, .t 36], some 37, some (27, true), []⟩, ⟨.inl (.un .not), [.t 37], some 38, some (27, true), []⟩, ⟨.inl .pick, [.t 27, .t 38, .c (.bool false)], some 39, none, []⟩] (some ([0, 1, 2, 3, 4, 5, 6, 7, 8, 9, 10, 11, 12, 13, 14, 15, 16, 17, 18, 19], [], [0, 1, 0, 7, 15, 0, 63, 127, 255, 511, 255, 2047, 4095, 255, 255, 24831, 57599, 131071, 262143, 524287])))
 (.cond (.t 39) (.seq (.reg [⟨.inl .mov, [.c (.bool false)], some 6, none, []⟩] none)
 .ret) .skip)))

def sp26_2 : AC := (.seq (.reg [⟨.inl .mov, [.t 7], some 14, none, []⟩, ⟨.inl .mov, [.t 2], some 15, none, []⟩, ⟨.inl .len, [.t 15], some 16, none, []⟩, ⟨.inl (.bin .lss), [.t 14, .t 16], some 17, none, []⟩] none)
 (.cond (.t 17) .skip (.exit 0)))

def lb26_3 : AC := (.pre [1, 2, 3, 7] (.seq sp26_2
 (.seq sp26_1
 sq26_0)))

def sq26_4 : AC := (.seq (.seq (.reg [⟨.inl .mov, [.c (.int .i64 (0))], some 7, none, []⟩] none)
 (.block 0 (.loop lb26_3)))
 (.pre [] (.seq (.reg [⟨.inl .mov, [.c (.bool true)], some 6, none, []⟩] none)
 .ret)))

def sp26_5 : AC := (.seq (.reg [⟨.inl .mov, [.t 2], some 8, none, []⟩, ⟨.inl .len, [.t 8], some 9, none, []⟩, ⟨.inl (.fldA 0), [.t 3], some 10, none, []⟩, ⟨.inl (.ld false 1), [.t 10], some 11, none, []⟩, ⟨.inl .len, [.t 11], some 12, none, []⟩, ⟨.inl (.bin .neq), [.t 9, .t 12], some 13, none, []⟩] none)
 (.cond (.t 13) (.seq (.reg [⟨.inl .mov, [.c (.bool false)], some 6, none, []⟩] none)
 .ret) .skip))

/-- olivette/olivetteref08.Plan -/
def af26 : AFunc := ⟨3,
 (.seq (.reg [⟨.inr (.box false), [.t 0], some 3, none, []⟩, ⟨.inl .mov, [.c (.bool false)], some 6, none, []⟩] none)
 (.seq sp26_5
 sq26_4)),
 [.t 6]⟩

def sq28_0 : AC := (.reg [⟨.inl .mov, [.t 14], some 70, none, []⟩, ⟨.inl (.bin .add), [.t 70, .c (.int .i64 (1))], some 71, none, []⟩, ⟨.inl .mov, [.t 71], some 14, none, []⟩] none)

def sp28_1 : AC := (.block 5 (.reg [⟨.inl .mov, [.t 13], some 72, none, []⟩, ⟨.inl .mov, [.t 72], some 73, none, []⟩, ⟨.inl (.fldA 2), [.t 7], some 74, some (73, false), []⟩, ⟨.inl (.ld false 1), [.t 74], some 75, some (73, false), []⟩, ⟨.inl .mov, [.t 10], some 76, some (73, false), []⟩, ⟨.inl (.idxA 1), [.t 75, .t 76], some 77, some (73, false), []⟩, ⟨.inl (.ld false 1), [.t 77], some 78, some (73, false), []⟩, ⟨.inl .mov, [.t 14], some 79, some (73, false), []⟩, ⟨.inl (.idxA 1), [.t 78, .t 79], some 80, some (73, false), []⟩, ⟨.inl (.ld false 1), [.t 80], some 81, some (73, false), []⟩, ⟨.inl .mov, [.t 8], some 82, some (73, false), []⟩, ⟨.inr (.call true true 31), [.t 81, .t 82], some 83, some (73, false), []⟩, ⟨.inl .mov, [.t 12], some 84, some (73, false), []⟩, ⟨.inl (.bin .eql), [.t 83, .t 84], some 85, some (73, false), []⟩, ⟨.inl .pick, [.t 73, .c (.bool true), .t 85], some 86, none, []⟩, ⟨.inl .mov, [.t 86], some 13, none, []⟩] none))

def sp28_2 : AC := (.seq (.reg [⟨.inl .mov, [.t 10], some 55, none, []⟩, ⟨.inl (.fldA 2), [.t 7], some 56, none, []⟩, ⟨.inl (.ld false 1), [.t 56], some 57, none, []⟩, ⟨.inl .len, [.t 57], some 58, none, []⟩, ⟨.inl (.bin .lss), [.t 55, .t 58], some 59, none, []⟩, ⟨.inl .mov, [.t 59], some 60, none, []⟩, ⟨.inl .mov, [.t 14], some 61, some (60, true), []⟩, ⟨.inl (.fldA 2), [.t 7], some 62, some (60, true), []⟩, ⟨.inl (.ld false 1), [.t 62], some 63, some (60, true), []⟩, ⟨.inl .mov, [.t 10], some 64, some (60, true), []⟩, ⟨.inl (.idxA 1), [.t 63, .t 64], some 65, some (60, true), []⟩, ⟨.inl (.ld false 1), [.t 65], some 66, some (60, true), []⟩, ⟨.inl .len, [.t 66], some 67, some (60, true), []⟩, ⟨.inl (.bin .lss), [.t 61, .t 67], some 68, some (60, true), []⟩, ⟨.inl .pick, [.t 60, .t 68, .c (.bool false)], some 69, none, []⟩] none)
 (.cond (.t 69) .skip (.exit 4)))

def lb28_3 : AC := (.pre [2, 6, 7, 8, 9, 10, 11, 12, 13, 14] (.seq sp28_2
 (.seq sp28_1
 sq28_0)))

def st28_4 : AC := (.reg [⟨.inl .mov, [.t 11], some 120, none, []⟩, ⟨.inl .mov, [.t 12], some 121, none, []⟩, ⟨.inr (.bldS true true 1 1 [.int .i64 0] [(0, 1)]), [.t 121], some 122, none, []⟩, ⟨.inr (.app false 1 8), [.t 120, .t 122], some 123, none, []⟩, ⟨.inl .mov, [.t 123], some 11, none, []⟩] none)

def sq28_5 : AC := (.pre [2, 6, 7, 8, 9, 10, 11, 12, 13] (.seq (.reg [⟨.inl .mov, [.t 13], some 87, none, []⟩, ⟨.inl .mov, [.t 87], some 88, none, []⟩, ⟨.inl .mov, [.t 10], some 89, some (88, false), []⟩, ⟨.inl (.fldA 2), [.t 7], some 90, some (88, false), []⟩, ⟨.inl (.ld false 1), [.t 90], some 91, some (88, false), []⟩, ⟨.inl .len, [.t 91], some 92, some (88, false), []⟩, ⟨.inl (.bin .geq), [.t 89, .t 92], some 93, some (88, false), []⟩, ⟨.inl .mov, [.t 93], some 94, some (88, false), []⟩, ⟨.inl .mov, [.t 12], some 95, some (94, true), []⟩, ⟨.inl (.bin .eql), [.t 95, .c (.int .i64 (0))], some 96, some (94, true), []⟩, ⟨.inl .pick, [.t 94, .t 96, .c (.bool false)], some 97, some (88, false), []⟩, ⟨.inl .pick, [.t 88, .c (.bool true), .t 97], some 98, none, []⟩, ⟨.inl .mov, [.t 98], some 99, none, []⟩, ⟨.inl .mov, [.t 10], some 100, some (99, false), []⟩, ⟨.inl (.fldA 2), [.t 7], some 101, some (99, false), []⟩, ⟨.inl (.ld false 1), [.t 101], some 102, some (99, false), []⟩, ⟨.inl .len, [.t 102], some 103, some (99, false), []⟩, ⟨.inl (.bin .lss), [.t 100, .t 103], some 104, some (99, false), []⟩, ⟨.inl .mov, [.t 104], some 105, some (99, false), []⟩, ⟨.inl (.fldA 2), [.t 7], some 106, some (105, true), []⟩, ⟨.inl (.ld false 1), [.t 106], some 107, some (105, true), []⟩, ⟨.inl .mov, [.t 10], some 108, some (105, true), []⟩, ⟨.inl (.idxA 1), [.t 107, .t 108], some 109, some (105, true), []⟩, ⟨.inl (.ld false 1), [.t 109], some 110, some (105, true), []⟩, ⟨.inl .len, [.t 110], some 111, some (105, true), []⟩, ⟨.inl (.bin .eql), [.t 111, .c (.int .i64 (0))], some 112, some (105, true), []⟩, ⟨.inl .pick, [.t 105, .t 112, .c (.bool false)], some 113, some (99, false), []⟩, ⟨.inl .mov, [.t 113], some 114, some (99, false), []⟩, ⟨.inl .mov, [.t 12], some 115, some (114, true), []⟩, ⟨.inl .mov, [.t 10], some 116, some (114, true), []⟩, ⟨.inl (.bin .eql), [.t 115, .t 116], some 117, some (114, true), []⟩, ⟨.inl .pick, [.t 114, .t 117, .c (.bool false)], some 118, some (99, false), []⟩, ⟨.inl .pick, [.t 99, .c (.bool true), .t 118], some 119, none, []⟩] none)
 (.cond (.t 119) st28_4 .skip)))

def sq28_6 : AC := (.pre [2, 6, 7, 8, 9, 10, 11, 12] (.reg [⟨.inl .mov, [.t 12], some 53, none, []⟩, ⟨.inl (.bin .add), [.t 53, .c (.int .i64 (1))], some 54, none, []⟩, ⟨.inl .mov, [.t 54], some 12, none, []⟩] none))

def sp28_7 : AC := (.block 3 (.seq (.reg [⟨.inl .mov, [.c (.bool false)], some 13, none, []⟩] none)
 (.seq (.seq (.reg [⟨.inl .mov, [.c (.int .i64 (0))], some 14, none, []⟩] none)
 (.block 4 (.loop lb28_3)))
 sq28_5)))

def sp28_8 : AC := (.seq (.reg [⟨.inl .mov, [.t 12], some 50, none, []⟩, ⟨.inl .mov, [.t 8], some 51, none, []⟩, ⟨.inl (.bin .lss), [.t 50, .t 51], some 52, none, []⟩] none)
 (.cond (.t 52) .skip (.exit 2)))

def lb28_9 : AC := (.pre [2, 6, 7, 8, 9, 10, 11, 12] (.seq sp28_8
 (.seq sp28_7
 sq28_6)))

def sq28_10 : AC := (.pre [2, 6, 7, 8, 9, 10, 11] (.reg [⟨.inl (.fldA 2), [.t 9], some 124, none, []⟩, ⟨.inl (.ld false 1), [.t 124], some 125, none, []⟩, ⟨.inr .frz, [.t 11], some 126, none, []⟩, ⟨.inr (.bldS true true 1 1 [.nilS] [(0, 1)]), [.t 126], some 127, none, []⟩, ⟨.inr (.app false 1 24), [.t 125, .t 127], some 128, none, []⟩, ⟨.inl (.fldA 2), [.t 9], some 129, none, []⟩, ⟨.inr (.st 1), [.t 129, .t 128], none, none, []⟩] none))

def sq28_11 : AC := (.seq (.reg [⟨.inl .mov, [.c (.nilS)], some 11, none, []⟩] none)
 (.seq (.seq (.reg [⟨.inl .mov, [.c (.int .i64 (0))], some 12, none, []⟩] none)
 (.block 2 (.loop lb28_9)))
 sq28_10))

def sq28_12 : AC := (.seq (.reg [⟨.inl (.fldA 1), [.t 7], some 41, none, []⟩, ⟨.inl (.ld false 1), [.t 41], some 42, none, []⟩, ⟨.inl .mov, [.t 10], some 43, none, []⟩, ⟨.inr (.call true true 54), [.t 42, .t 43], some 44, none, []⟩, ⟨.inl .mov, [.t 2], some 45, none, []⟩, ⟨.inr (.call true true 31), [.t 44, .t 45], some 46, none, []⟩, ⟨.inl (.fldA 1), [.t 9], some 39, none, []⟩, ⟨.inl (.ld false 1), [.t 39], some 40, none, []⟩, ⟨.inr (.bldS true true 1 1 [.int .i64 0] [(0, 1)]), [.t 46], some 47, none, []⟩, ⟨.inr (.app false 1 8), [.t 40, .t 47], some 48, none, []⟩, ⟨.inl (.fldA 1), [.t 9], some 49, none, []⟩, ⟨.inr (.st 1), [.t 49, .t 48], none, none, []⟩] (some ([2, 3, 4, 5, 6, 7, 0, 1, 8, 9, 10, 11], [], [0, 1, 0, 4, 0, 28, 0, 124, 252, 511, 1023, 2047])))
 sq28_11)

def sq28_13 : AC := (.pre [2, 6, 7, 8, 9, 10] (.reg [⟨.inl .mov, [.t 10], some 27, none, []⟩, ⟨.inl (.bin .add), [.t 27, .c (.int .i64 (1))], some 28, none, []⟩, ⟨.inl .mov, [.t 28], some 10, none, []⟩] none))

def sp28_14 : AC := (.block 1 (.seq (.reg [⟨.inl (.fldA 0), [.t 7], some 31, none, []⟩, ⟨.inl (.ld false 1), [.t 31], some 32, none, []⟩, ⟨.inl .mov, [.t 10], some 33, none, []⟩, ⟨.inr (.call true true 54), [.t 32, .t 33], some 34, none, []⟩, ⟨.inr (.call true true 31), [.t 34, .c (.int .i64 (2))], some 35, none, []⟩, ⟨.inl (.fldA 0), [.t 9], some 29, none, []⟩, ⟨.inl (.ld false 1), [.t 29], some 30, none, []⟩, ⟨.inr (.bldS true true 1 1 [.int .i64 0] [(0, 1)]), [.t 35], some 36, none, []⟩, ⟨.inr (.app false 1 8), [.t 30, .t 36], some 37, none, []⟩, ⟨.inl (.fldA 0), [.t 9], some 38, none, []⟩, ⟨.inr (.st 1), [.t 38, .t 37], none, none, []⟩] (some ([2, 3, 4, 5, 6, 0, 1, 7, 8, 9, 10], [], [0, 1, 0, 4, 0, 28, 60, 124, 255, 511, 1023])))
 sq28_12))

def sp28_15 : AC := (.seq (.reg [⟨.inl .mov, [.t 10], some 24, none, []⟩, ⟨.inl .mov, [.t 8], some 25, none, []⟩, ⟨.inl (.bin .lss), [.t 24, .t 25], some 26, none, []⟩] none)
 (.cond (.t 26) .skip (.exit 0)))

def lb28_16 : AC := (.pre [2, 6, 7, 8, 9, 10] (.seq sp28_15
 (.seq sp28_14
 sq28_13)))

def sq28_17 : AC := (.pre [6, 9] (.seq (.reg [⟨.inl (.ld true 3), [.t 9], some 130, none, []⟩, ⟨.inr (.st 3), [.t 6, .t 130], none, none, []⟩] none)
 .ret))

def sq28_18 : AC := (.seq (.reg [⟨.inr (.alloc false [.nilS, .nilS, .nilS]), [], some 9, none, []⟩] none)
 (.seq (.seq (.reg [⟨.inl .mov, [.c (.int .i64 (0))], some 10, none, []⟩] none)
 (.block 0 (.loop lb28_16)))
 sq28_17))

def sq28_19 : AC := (.seq (.reg [⟨.inl (.fldA 0), [.t 7], some 17, none, []⟩, ⟨.inl (.ld false 1), [.t 17], some 18, none, []⟩, ⟨.inl .len, [.t 18], some 19, none, []⟩, ⟨.inl (.bin .sub), [.t 19, .c (.int .i64 (1))], some 20, none, []⟩, ⟨.inl .mov, [.t 1], some 21, none, []⟩, ⟨.inr (.call true true 31), [.t 20, .t 21], some 22, none, []⟩, ⟨.inl (.bin .add), [.c (.int .i64 (1)), .t 22], some 23, none, []⟩, ⟨.inl .mov, [.t 23], some 8, none, []⟩] none)
 sq28_18)

def sq28_20 : AC := (.seq (.reg [⟨.inl (.ld true 3), [.t 3], some 15, none, []⟩, ⟨.inr (.call true true 16), [.t 15], some 16, none, []⟩, ⟨.inr (.alloc false [.nilS, .nilS, .nilS]), [], some 7, none, []⟩, ⟨.inr (.st 3), [.t 7, .t 16], none, none, []⟩] none)
 sq28_19)

/-- olivette/olivettelaw08.tame -/
def af28 : AFunc := ⟨3,
 (.seq (.reg [⟨.inr (.box false), [.t 0], some 3, none, []⟩, ⟨.inr (.alloc false [.nilS, .nilS, .nilS]), [], some 6, none, []⟩] none)
 sq28_20),
 [.cell 6 true 3]⟩

def st29_0 : AC := (.seq (.reg [⟨.inl (.bld [.nilS, .nilS] []), [], some 7, none, []⟩, ⟨.inr (.st 2), [.t 2, .t 7], none, none, []⟩, ⟨.inl .mov, [.c (.int .i64 (2))], some 3, none, []⟩] none)
 .ret)

def sq29_1 : AC := (.seq (.reg [⟨.inl (.ld true 3), [.t 1], some 8, none, []⟩, ⟨.inr (.call true false 55), [.t 8], some 9, none, []⟩, ⟨.inr (.st 2), [.t 2, .t 9], none, none, []⟩, ⟨.inl .mov, [.c (.int .i64 (0))], some 3, none, []⟩] none)
 .ret)

def sp29_2 : AC := (.seq (.reg [⟨.inl (.ld true 3), [.t 1], some 4, none, []⟩, ⟨.inr (.call true true 39), [.t 4], some 5, none, []⟩, ⟨.inl (.un .not), [.t 5], some 6, none, []⟩] none)
 (.cond (.t 6) st29_0 .skip))

/-- olivette/parity.Solve -/
def af29 : AFunc := ⟨1,
 (.seq (.reg [⟨.inr (.box false), [.t 0], some 1, none, []⟩, ⟨.inr (.alloc false [.nilS, .nilS]), [], some 2, none, []⟩, ⟨.inl .mov, [.c (.int .i64 (0))], some 3, none, []⟩] none)
 (.seq sp29_2
 sq29_1)),
 [.cell 2 true 2, .t 3]⟩

def sq30_0 : AC := (.reg [⟨.inl .mov, [.t 5], some 10, none, []⟩, ⟨.inl (.bin .add), [.t 10, .c (.int .i64 (1))], some 11, none, []⟩, ⟨.inl .mov, [.t 11], some 5, none, []⟩] none)

def sp30_1 : AC := (.block 1 (.seq (.reg [⟨.inl .mov, [.t 0], some 12, none, []⟩, ⟨.inl .mov, [.t 5], some 13, none, []⟩, ⟨.inl (.idxA 1), [.t 12, .t 13], some 14, none, []⟩, ⟨.inl (.ld false 1), [.t 14], some 15, none, []⟩, ⟨.inl .mov, [.t 1], some 16, none, []⟩, ⟨.inl (.bin .eql), [.t 15, .t 16], some 17, none, []⟩] none)
 (.cond (.t 17) (.seq (.reg [⟨.inl .mov, [.c (.bool true)], some 4, none, []⟩] none)
 .ret) .skip)))

def sp30_2 : AC := (.seq (.reg [⟨.inl .mov, [.t 5], some 6, none, []⟩, ⟨.inl .mov, [.t 0], some 7, none, []⟩, ⟨.inl .len, [.t 7], some 8, none, []⟩, ⟨.inl (.bin .lss), [.t 6, .t 8], some 9, none, []⟩] none)
 (.cond (.t 9) .skip (.exit 0)))

def lb30_3 : AC := (.pre [0, 1, 5] (.seq sp30_2
 (.seq sp30_1
 sq30_0)))

def sq30_4 : AC := (.seq (.seq (.reg [⟨.inl .mov, [.c (.int .i64 (0))], some 5, none, []⟩] none)
 (.block 0 (.loop lb30_3)))
 (.pre [] (.seq (.reg [⟨.inl .mov, [.c (.bool false)], some 4, none, []⟩] none)
 .ret)))

/-- olivette/olivettelaw08.contains -/
def af30 : AFunc := ⟨2,
 (.seq (.reg [⟨.inl .mov, [.c (.bool false)], some 4, none, []⟩] none)
 sq30_4),
 [.t 4]⟩

def sq31_0 : AC := (.seq (.reg [⟨.inl .mov, [.t 0], some 5, none, []⟩, ⟨.inl (.conv .u64), [.t 5], some 6, none, []⟩, ⟨.inl .mov, [.t 1], some 7, none, []⟩, ⟨.inl (.conv .u64), [.t 7], some 8, none, []⟩, ⟨.inl (.bin .rem), [.t 6, .t 8], some 9, none, []⟩, ⟨.inl (.conv .i64), [.t 9], some 10, none, []⟩, ⟨.inl .mov, [.t 10], some 4, none, []⟩] none)
 .ret)

/-- olivette/olivettelaw08.mod -/
def af31 : AFunc := ⟨2,
 (.seq (.reg [⟨.inl .mov, [.c (.int .i64 (0))], some 4, none, []⟩] none)
 sq31_0),
 [.t 4]⟩

def st33_0 : AC := (.seq (.reg [⟨.inl (.bld [.nilS, .nilS, .nilS] []), [], some 15, none, []⟩, ⟨.inr (.st 3), [.t 2, .t 15], none, none, []⟩, ⟨.inl .mov, [.c (.int .i64 (2))], some 3, none, []⟩] none)
 .ret)

def sq33_1 : AC := (.reg [⟨.inl .mov, [.t 6], some 48, none, []⟩, ⟨.inr (.call true false 53), [.t 48], some 49, none, []⟩, ⟨.inr (.bldB 1 1 [.nilS] [(0, 1)]), [.t 49], some 50, none, []⟩, ⟨.inl (.fldA 2), [.t 4], some 46, none, []⟩, ⟨.inl (.ld false 1), [.t 46], some 47, none, []⟩, ⟨.inr (.appB 1 24), [.t 47, .t 50], some 51, none, []⟩, ⟨.inl (.fldA 2), [.t 4], some 52, none, []⟩, ⟨.inr (.st 1), [.t 52, .t 51], none, none, []⟩] (some ([2, 3, 4, 0, 1, 5, 6, 7], [], [0, 1, 0, 4, 12, 31, 63, 127])))

def sq33_2 : AC := (.seq (.reg [⟨.inl (.fldA 1), [.t 4], some 35, none, []⟩, ⟨.inl (.ld false 1), [.t 35], some 36, none, []⟩, ⟨.inl (.fldA 1), [.t 1], some 37, none, []⟩, ⟨.inl (.ld false 1), [.t 37], some 38, none, []⟩, ⟨.inl .mov, [.t 5], some 39, none, []⟩, ⟨.inl (.idxA 1), [.t 38, .t 39], some 40, none, []⟩, ⟨.inl (.ld false 1), [.t 40], some 41, none, []⟩, ⟨.inl (.bin .add), [.t 41, .c (.int .i64 (1))], some 42, none, []⟩, ⟨.inr (.bldS true true 1 1 [.int .i64 0] [(0, 1)]), [.t 42], some 43, none, []⟩, ⟨.inr (.app false 1 8), [.t 36, .t 43], some 44, none, []⟩, ⟨.inl (.fldA 1), [.t 4], some 45, none, []⟩, ⟨.inr (.st 1), [.t 45, .t 44], none, none, []⟩] (some ([0, 1, 2, 3, 4, 5, 6, 7, 8, 9, 10, 11], [], [0, 1, 0, 4, 0, 28, 60, 124, 252, 511, 1023, 2047])))
 sq33_1)

def sq33_3 : AC := (.seq (.reg [⟨.inl (.fldA 0), [.t 4], some 24, none, []⟩, ⟨.inl (.ld false 1), [.t 24], some 25, none, []⟩, ⟨.inl (.fldA 0), [.t 1], some 26, none, []⟩, ⟨.inl (.ld false 1), [.t 26], some 27, none, []⟩, ⟨.inl .mov, [.t 5], some 28, none, []⟩, ⟨.inl (.idxA 1), [.t 27, .t 28], some 29, none, []⟩, ⟨.inl (.ld false 1), [.t 29], some 30, none, []⟩, ⟨.inl (.bin .sub), [.c (.int .i64 (1)), .t 30], some 31, none, []⟩, ⟨.inr (.bldS true true 1 1 [.int .i64 0] [(0, 1)]), [.t 31], some 32, none, []⟩, ⟨.inr (.app false 1 8), [.t 25, .t 32], some 33, none, []⟩, ⟨.inl (.fldA 0), [.t 4], some 34, none, []⟩, ⟨.inr (.st 1), [.t 34, .t 33], none, none, []⟩] (some ([0, 1, 2, 3, 4, 5, 6, 7, 8, 9, 10, 11], [], [0, 1, 0, 4, 0, 28, 60, 124, 252, 511, 1023, 2047])))
 sq33_2)

def sq33_4 : AC := (.reg [⟨.inl (.bin .add), [.t 19, .c (.int .i64 (1))], some 53, none, []⟩, ⟨.inl .mov, [.t 53], some 19, none, []⟩] none)

def sp33_5 : AC := (.block 1 (.seq (.reg [⟨.inl .mov, [.t 19], some 21, none, []⟩, ⟨.inl (.idxA 1), [.t 17, .t 19], some 22, none, []⟩, ⟨.inl (.ld false 1), [.t 22], some 23, none, []⟩, ⟨.inl .mov, [.t 21], some 5, none, []⟩, ⟨.inl .mov, [.t 23], some 6, none, []⟩] none)
 sq33_3))

def lb33_6 : AC := (.pre [1, 2, 4, 17, 18, 19] (.seq (.reg [⟨.inl (.bin .lss), [.t 19, .t 18], some 20, none, []⟩] none)
 (.seq (.cond (.t 20) .skip (.exit 0))
 (.seq sp33_5
 sq33_4))))

def sq33_7 : AC := (.pre [2, 4] (.seq (.reg [⟨.inl (.ld true 3), [.t 4], some 54, none, []⟩, ⟨.inr (.st 3), [.t 2, .t 54], none, none, []⟩, ⟨.inl .mov, [.c (.int .i64 (0))], some 3, none, []⟩] none)
 .ret))

def sp33_8 : AC := (.seq (.reg [⟨.inl (.fldA 2), [.t 1], some 16, none, []⟩, ⟨.inl (.ld false 1), [.t 16], some 17, none, []⟩, ⟨.inl .len, [.t 17], some 18, none, []⟩, ⟨.inl .mov, [.c (.int .i64 (0))], some 19, none, []⟩] none)
 (.block 0 (.loop lb33_6)))

def sp33_9 : AC := (.seq (.reg [⟨.inl (.ld true 3), [.t 1], some 7, none, []⟩, ⟨.inr (.call true true 39), [.t 7], some 8, none, []⟩, ⟨.inl (.un .not), [.t 8], some 9, none, []⟩, ⟨.inl .mov, [.t 9], some 10, none, []⟩, ⟨.inl (.fldA 1), [.t 1], some 11, some (10, false), []⟩, ⟨.inl (.ld false 1), [.t 11], some 12, some (10, false), []⟩, ⟨.inr (.call true true 51), [.t 12, .c (.int .i64 (9))], some 13, some (10, false), []⟩, ⟨.inl .pick, [.t 10, .c (.bool true), .t 13], some 14, none, []⟩] none)
 (.cond (.t 14) st33_0 .skip))

def sq33_10 : AC := (.seq sp33_9
 (.seq (.reg [⟨.inr (.alloc false [.nilS, .nilS, .nilS]), [], some 4, none, []⟩] none)
 (.seq sp33_8
 sq33_7)))

/-- olivette/parity.Turn -/
def af33 : AFunc := ⟨1,
 (.seq (.reg [⟨.inr (.box false), [.t 0], some 1, none, []⟩, ⟨.inr (.alloc false [.nilS, .nilS, .nilS]), [], some 2, none, []⟩, ⟨.inl .mov, [.c (.int .i64 (0))], some 3, none, []⟩] none)
 sq33_10),
 [.cell 2 true 3, .t 3]⟩

def sq34_0 : AC := (.seq (.reg [⟨.inl (.fldA 0), [.t 2], some 47, none, []⟩, ⟨.inl (.ld false 1), [.t 47], some 48, none, []⟩, ⟨.inl .mov, [.t 6], some 49, none, []⟩, ⟨.inl (.idxA 1), [.t 48, .t 49], some 50, none, []⟩, ⟨.inl (.ld false 1), [.t 50], some 51, none, []⟩, ⟨.inl (.fldA 0), [.t 3], some 52, none, []⟩, ⟨.inl (.ld false 1), [.t 52], some 53, none, []⟩, ⟨.inl .mov, [.t 6], some 54, none, []⟩, ⟨.inl (.idxA 1), [.t 53, .t 54], some 55, none, []⟩, ⟨.inl (.ld false 1), [.t 55], some 56, none, []⟩, ⟨.inl (.bin .neq), [.t 51, .t 56], some 57, none, []⟩, ⟨.inl .mov, [.t 57], some 58, none, []⟩, ⟨.inl (.fldA 1), [.t 3], some 59, some (58, true), []⟩, ⟨.inl (.ld false 1), [.t 59], some 60, some (58, true), []⟩, ⟨.inl .mov, [.t 6], some 61, some (58, true), []⟩, ⟨.inl (.idxA 1), [.t 60, .t 61], some 62, some (58, true), []⟩, ⟨.inl (.ld false 1), [.t 62], some 63, some (58, true), []⟩, ⟨.inl (.bin .neq), [.t 63, .c (.int .i64 (-1))], some 64, some (58, true), []⟩, ⟨.inl .pick, [.t 58, .t 64, .c (.bool false)], some 65, none, []⟩, ⟨.inl .mov, [.t 65], some 66, none, []⟩, ⟨.inl (.fldA 0), [.t 2], some 67, some (66, false), []⟩, ⟨.inl (.ld false 1), [.t 67], some 68, some (66, false), []⟩, ⟨.inl .mov, [.t 6], some 69, some (66, false), []⟩, ⟨.inl (.idxA 1), [.t 68, .t 69], some 70, some (66, false), []⟩, ⟨.inl (.ld false 1), [.t 70], some 71, some (66, false), []⟩, ⟨.inl (.fldA 0), [.t 3], some 72, some (66, false), []⟩, ⟨.inl (.ld false 1), [.t 72], some 73, some (66, false), []⟩, ⟨.inl .mov, [.t 6], some 74, some (66, false), []⟩, ⟨.inl (.idxA 1), [.t 73, .t 74], some 75, some (66, false), []⟩, ⟨.inl (.ld false 1), [.t 75], some 76, some (66, false), []⟩, ⟨.inl (.bin .eql), [.t 71, .t 76], some 77, some (66, false), []⟩, ⟨.inl .mov, [.t 77], some 78, some (66, false), []⟩, ⟨.inl (.fldA 2), [.t 2], some 79, some (78, true), []⟩, ⟨.inl (.ld false 1), [.t 79], some 80, some (78, true), []⟩, ⟨.inl .mov, [.t 6], some 81, some (78, true), []⟩, ⟨.inl (.idxA 1), [.t 80, .t 81], some 82, some (78, true), []⟩, ⟨.inl (.ld false 1), [.t 82], some 83, some (78, true), []⟩, ⟨.inl (.fldA 1), [.t 3], some 84, some (78, true), []⟩, ⟨.inl (.ld false 1), [.t 84], some 85, some (78, true), []⟩, ⟨.inl .mov, [.t 6], some 86, some (78, true), []⟩, ⟨.inl (.idxA 1), [.t 85, .t 86], some 87, some (78, true), []⟩, ⟨.inl (.ld false 1), [.t 87], some 88, some (78, true), []⟩, ⟨.inr (.call true true 47), [.t 83, .t 88], some 89, some (78, true), []⟩, ⟨.inl (.un .not), [.t 89], some 90, some (78, true), []⟩, ⟨.inl .pick, [.t 78, .t 90, .c (.bool false)], some 91, some (66, false), []⟩, ⟨.inl .pick, [.t 66, .c (.bool true), .t 91], some 92, none, []⟩] (some ([0, 1, 2, 3, 4, 5, 6, 7, 8, 9, 10, 11, 12, 13, 14, 15, 16, 17, 18, 19, 20, 21, 22, 23, 24, 25, 26, 27, 28, 29, 30, 31, 32, 33, 34, 35, 36, 37, 38, 39, 40, 41, 42, 43, 44, 45], [], [0, 1, 0, 7, 15, 0, 32, 0, 224, 480, 1023, 2047, 4095, 8191, 4095, 32767, 65535, 131071, 262143, 524287, 1048575, 2097151, 1048575, 8388607, 16777215, 1048575, 34603007, 1048575, 235929599, 504365055, 1073741823, 2147483647, 4294967295, 8589934591, 4294967295, 34359738367, 68719476735, 4294967295, 141733920767, 4294967295, 966367641599, 2065879269375, 4398046511103, 8796093022207, 17592186044415, 35184372088831])))
 (.cond (.t 92) (.seq (.reg [⟨.inl .mov, [.c (.bool false)], some 4, none, []⟩] none)
 .ret) .skip))

def sp34_1 : AC := (.seq (.reg [⟨.inl (.fldA 0), [.t 3], some 33, none, []⟩, ⟨.inl (.ld false 1), [.t 33], some 34, none, []⟩, ⟨.inl .mov, [.t 6], some 35, none, []⟩, ⟨.inl (.idxA 1), [.t 34, .t 35], some 36, none, []⟩, ⟨.inl (.ld false 1), [.t 36], some 37, none, []⟩, ⟨.inl (.bin .lss), [.t 37, .c (.int .i64 (0))], some 38, none, []⟩, ⟨.inl .mov, [.t 38], some 39, none, []⟩, ⟨.inl (.fldA 0), [.t 3], some 40, some (39, false), []⟩, ⟨.inl (.ld false 1), [.t 40], some 41, some (39, false), []⟩, ⟨.inl .mov, [.t 6], some 42, some (39, false), []⟩, ⟨.inl (.idxA 1), [.t 41, .t 42], some 43, some (39, false), []⟩, ⟨.inl (.ld false 1), [.t 43], some 44, some (39, false), []⟩, ⟨.inl (.bin .gtr), [.t 44, .c (.int .i64 (1))], some 45, some (39, false), []⟩, ⟨.inl .pick, [.t 39, .c (.bool true), .t 45], some 46, none, []⟩] none)
 (.cond (.t 46) (.seq (.reg [⟨.inl .mov, [.c (.bool false)], some 4, none, []⟩] none)
 .ret) .skip))

def sq34_2 : AC := (.reg [⟨.inl .mov, [.t 6], some 31, none, []⟩, ⟨.inl (.bin .add), [.t 31, .c (.int .i64 (1))], some 32, none, []⟩, ⟨.inl .mov, [.t 32], some 6, none, []⟩] none)

def sp34_3 : AC := (.seq (.reg [⟨.inl .mov, [.t 6], some 28, none, []⟩, ⟨.inl .mov, [.t 5], some 29, none, []⟩, ⟨.inl (.bin .lss), [.t 28, .t 29], some 30, none, []⟩] none)
 (.cond (.t 30) .skip (.exit 0)))

def lb34_4 : AC := (.pre [2, 3, 5, 6] (.seq sp34_3
 (.seq (.block 1 (.seq sp34_1
 sq34_0))
 sq34_2)))

def st34_5 : AC := (.reg [⟨.inl .mov, [.t 8], some 126, none, []⟩, ⟨.inl .mov, [.t 9], some 127, none, []⟩, ⟨.inl (.fldA 1), [.t 3], some 128, none, []⟩, ⟨.inl (.ld false 1), [.t 128], some 129, none, []⟩, ⟨.inl .mov, [.t 9], some 130, none, []⟩, ⟨.inl (.idxA 1), [.t 129, .t 130], some 131, none, []⟩, ⟨.inl (.ld false 1), [.t 131], some 132, none, []⟩, ⟨.inr (.bldS true true 1 1 [.int .i64 0] [(0, 1)]), [.t 132], some 133, none, []⟩, ⟨.inl (.idxA 1), [.t 126, .t 127], some 134, none, []⟩, ⟨.inr (.st 1), [.t 134, .t 133], none, none, []⟩] none)

def sq34_6 : AC := (.reg [⟨.inl .mov, [.t 10], some 142, none, []⟩, ⟨.inl (.bin .add), [.t 142, .c (.int .i64 (1))], some 143, none, []⟩, ⟨.inl .mov, [.t 143], some 10, none, []⟩] none)

def sp34_7 : AC := (.block 7 (.seq (.reg [⟨.inl (.fldA 0), [.t 3], some 144, none, []⟩, ⟨.inl (.ld false 1), [.t 144], some 145, none, []⟩, ⟨.inl .mov, [.t 8], some 146, none, []⟩, ⟨.inl .mov, [.t 9], some 147, none, []⟩, ⟨.inl (.idxA 1), [.t 146, .t 147], some 148, none, []⟩, ⟨.inl (.ld false 1), [.t 148], some 149, none, []⟩, ⟨.inl .mov, [.t 10], some 150, none, []⟩, ⟨.inl (.idxA 1), [.t 149, .t 150], some 151, none, []⟩, ⟨.inl (.ld false 1), [.t 151], some 152, none, []⟩, ⟨.inl (.idxA 1), [.t 145, .t 152], some 153, none, []⟩, ⟨.inl (.ld false 1), [.t 153], some 154, none, []⟩, ⟨.inl .mov, [.t 7], some 155, none, []⟩, ⟨.inl (.bin .neq), [.t 154, .t 155], some 156, none, []⟩] (some ([0, 1, 2, 3, 4, 5, 6, 7, 8, 9, 10, 11, 12], [], [0, 1, 0, 0, 12, 28, 0, 124, 252, 511, 1023, 0, 4095])))
 (.cond (.t 156) (.seq (.reg [⟨.inl .mov, [.c (.bool false)], some 4, none, []⟩] none)
 .ret) .skip)))

def sp34_8 : AC := (.seq (.reg [⟨.inl .mov, [.t 10], some 135, none, []⟩, ⟨.inl .mov, [.t 8], some 136, none, []⟩, ⟨.inl .mov, [.t 9], some 137, none, []⟩, ⟨.inl (.idxA 1), [.t 136, .t 137], some 138, none, []⟩, ⟨.inl (.ld false 1), [.t 138], some 139, none, []⟩, ⟨.inl .len, [.t 139], some 140, none, []⟩, ⟨.inl (.bin .lss), [.t 135, .t 140], some 141, none, []⟩] none)
 (.cond (.t 141) .skip (.exit 6)))

def lb34_9 : AC := (.pre [2, 3, 5, 7, 8, 9, 10] (.seq sp34_8
 (.seq sp34_7
 sq34_6)))

def sp34_10 : AC := (.seq (.reg [⟨.inl (.fldA 0), [.t 2], some 119, none, []⟩, ⟨.inl (.ld false 1), [.t 119], some 120, none, []⟩, ⟨.inl .mov, [.t 9], some 121, none, []⟩, ⟨.inl (.idxA 1), [.t 120, .t 121], some 122, none, []⟩, ⟨.inl (.ld false 1), [.t 122], some 123, none, []⟩, ⟨.inl .mov, [.t 7], some 124, none, []⟩, ⟨.inl (.bin .eql), [.t 123, .t 124], some 125, none, []⟩] none)
 (.cond (.t 125) st34_5 .skip))

def sq34_11 : AC := (.seq (.reg [⟨.inl .mov, [.t 8], some 111, none, []⟩, ⟨.inl .mov, [.t 9], some 112, none, []⟩, ⟨.inl (.fldA 2), [.t 2], some 113, none, []⟩, ⟨.inl (.ld false 1), [.t 113], some 114, none, []⟩, ⟨.inl .mov, [.t 9], some 115, none, []⟩, ⟨.inl (.idxA 1), [.t 114, .t 115], some 116, none, []⟩, ⟨.inl (.ld false 1), [.t 116], some 117, none, []⟩, ⟨.inl (.idxA 1), [.t 111, .t 112], some 118, none, []⟩, ⟨.inr (.st 1), [.t 118, .t 117], none, none, []⟩] none)
 (.seq sp34_10
 (.seq (.reg [⟨.inl .mov, [.c (.int .i64 (0))], some 10, none, []⟩] none)
 (.block 6 (.loop lb34_9)))))

def sp34_12 : AC := (.seq (.reg [⟨.inl (.fldA 0), [.t 3], some 104, none, []⟩, ⟨.inl (.ld false 1), [.t 104], some 105, none, []⟩, ⟨.inl .mov, [.t 9], some 106, none, []⟩, ⟨.inl (.idxA 1), [.t 105, .t 106], some 107, none, []⟩, ⟨.inl (.ld false 1), [.t 107], some 108, none, []⟩, ⟨.inl .mov, [.t 7], some 109, none, []⟩, ⟨.inl (.bin .neq), [.t 108, .t 109], some 110, none, []⟩] none)
 (.cond (.t 110) (.exit 5) .skip))

def sq34_13 : AC := (.pre [2, 3, 5, 7, 8, 9] (.reg [⟨.inl .mov, [.t 9], some 102, none, []⟩, ⟨.inl (.bin .add), [.t 102, .c (.int .i64 (1))], some 103, none, []⟩, ⟨.inl .mov, [.t 103], some 9, none, []⟩] none))

def sp34_14 : AC := (.seq (.reg [⟨.inl .mov, [.t 9], some 99, none, []⟩, ⟨.inl .mov, [.t 5], some 100, none, []⟩, ⟨.inl (.bin .lss), [.t 99, .t 100], some 101, none, []⟩] none)
 (.cond (.t 101) .skip (.exit 4)))

def lb34_15 : AC := (.pre [2, 3, 5, 7, 8, 9] (.seq sp34_14
 (.seq (.block 5 (.seq sp34_12
 sq34_11))
 sq34_13)))

def sq34_16 : AC := (.reg [⟨.inl .mov, [.t 12], some 165, none, []⟩, ⟨.inl (.bin .add), [.t 165, .c (.int .i64 (1))], some 166, none, []⟩, ⟨.inl .mov, [.t 166], some 12, none, []⟩] none)

def sp34_17 : AC := (.block 9 (.seq (.reg [⟨.inl (.fldA 0), [.t 3], some 167, none, []⟩, ⟨.inl (.ld false 1), [.t 167], some 168, none, []⟩, ⟨.inl .mov, [.t 12], some 169, none, []⟩, ⟨.inl (.idxA 1), [.t 168, .t 169], some 170, none, []⟩, ⟨.inl (.ld false 1), [.t 170], some 171, none, []⟩, ⟨.inl .mov, [.t 7], some 172, none, []⟩, ⟨.inl (.bin .eql), [.t 171, .t 172], some 173, none, []⟩, ⟨.inl .mov, [.t 173], some 174, none, []⟩, ⟨.inl .mov, [.t 11], some 175, some (174, true), []⟩, ⟨.inl .mov, [.t 12], some 176, some (174, true), []⟩, ⟨.inl (.idxA 1), [.t 175, .t 176], some 177, some (174, true), []⟩, ⟨.inl (.ld false 1), [.t 177], some 178, some (174, true), []⟩, ⟨.inl .pick, [.t 174, .t 178, .c (.bool false)], some 179, none, []⟩] none)
 (.cond (.t 179) (.seq (.reg [⟨.inl .mov, [.c (.bool false)], some 4, none, []⟩] none)
 .ret) .skip)))

def sp34_18 : AC := (.seq (.reg [⟨.inl .mov, [.t 12], some 162, none, []⟩, ⟨.inl .mov, [.t 5], some 163, none, []⟩, ⟨.inl (.bin .lss), [.t 162, .t 163], some 164, none, []⟩] none)
 (.cond (.t 164) .skip (.exit 8)))

def lb34_19 : AC := (.pre [2, 3, 5, 7, 11, 12] (.seq sp34_18
 (.seq sp34_17
 sq34_16)))

def sq34_20 : AC := (.pre [2, 3, 5, 7, 8] (.seq (.reg [⟨.inl .mov, [.t 8], some 157, none, []⟩, ⟨.inl (.fldA 1), [.t 2], some 158, none, []⟩, ⟨.inl (.ld false 1), [.t 158], some 159, none, []⟩, ⟨.inl .mov, [.t 7], some 160, none, []⟩, ⟨.inr (.call true true 56), [.t 157, .t 159, .t 160], some 161, none, []⟩, ⟨.inl .mov, [.t 161], some 11, none, []⟩] none)
 (.seq (.reg [⟨.inl .mov, [.c (.int .i64 (0))], some 12, none, []⟩] none)
 (.block 8 (.loop lb34_19)))))

def sq34_21 : AC := (.pre [2, 3, 5, 7] (.reg [⟨.inl .mov, [.t 7], some 95, none, []⟩, ⟨.inl (.bin .add), [.t 95, .c (.int .i64 (1))], some 96, none, []⟩, ⟨.inl .mov, [.t 96], some 7, none, []⟩] none))

def sp34_22 : AC := (.block 3 (.seq (.reg [⟨.inl .mov, [.t 5], some 97, none, []⟩, ⟨.inr (.mkS 1 24 [.nilS]), [.t 97, .t 97], some 98, none, []⟩, ⟨.inl .mov, [.t 98], some 8, none, []⟩] none)
 (.seq (.seq (.reg [⟨.inl .mov, [.c (.int .i64 (0))], some 9, none, []⟩] none)
 (.block 4 (.loop lb34_15)))
 sq34_20)))

def sp34_23 : AC := (.seq (.reg [⟨.inl .mov, [.t 7], some 93, none, []⟩, ⟨.inl (.bin .lss), [.t 93, .c (.int .i64 (2))], some 94, none, []⟩] none)
 (.cond (.t 94) .skip (.exit 2)))

def lb34_24 : AC := (.pre [2, 3, 5, 7] (.seq sp34_23
 (.seq sp34_22
 sq34_21)))

def sq34_25 : AC := (.pre [2, 3, 5] (.seq (.seq (.reg [⟨.inl .mov, [.c (.int .i64 (0))], some 7, none, []⟩] none)
 (.block 2 (.loop lb34_24)))
 (.pre [] (.seq (.reg [⟨.inl .mov, [.c (.bool true)], some 4, none, []⟩] none)
 .ret))))

def sp34_26 : AC := (.seq (.reg [⟨.inl (.fldA 0), [.t 3], some 16, none, []⟩, ⟨.inl (.ld false 1), [.t 16], some 17, none, []⟩, ⟨.inl .len, [.t 17], some 18, none, []⟩, ⟨.inl .mov, [.t 5], some 19, none, []⟩, ⟨.inl (.bin .neq), [.t 18, .t 19], some 20, none, []⟩, ⟨.inl .mov, [.t 20], some 21, none, []⟩, ⟨.inl (.fldA 1), [.t 3], some 22, some (21, false), []⟩, ⟨.inl (.ld false 1), [.t 22], some 23, some (21, false), []⟩, ⟨.inl .len, [.t 23], some 24, some (21, false), []⟩, ⟨.inl .mov, [.t 5], some 25, some (21, false), []⟩, ⟨.inl (.bin .neq), [.t 24, .t 25], some 26, some (21, false), []⟩, ⟨.inl .pick, [.t 21, .c (.bool true), .t 26], some 27, none, []⟩] none)
 (.cond (.t 27) (.seq (.reg [⟨.inl .mov, [.c (.bool false)], some 4, none, []⟩] none)
 .ret) .skip))

def sq34_27 : AC := (.seq sp34_26
 (.seq (.seq (.reg [⟨.inl .mov, [.c (.int .i64 (0))], some 6, none, []⟩] none)
 (.block 0 (.loop lb34_4)))
 sq34_25))

def sq34_28 : AC := (.seq (.reg [⟨.inl (.fldA 0), [.t 2], some 13, none, []⟩, ⟨.inl (.ld false 1), [.t 13], some 14, none, []⟩, ⟨.inl .len, [.t 14], some 15, none, []⟩, ⟨.inl .mov, [.t 15], some 5, none, []⟩] none)
 sq34_27)

/-- olivette/olivetteref08.Right -/
def af34 : AFunc := ⟨2,
 (.seq (.reg [⟨.inr (.box false), [.t 0], some 2, none, []⟩, ⟨.inr (.box false), [.t 1], some 3, none, []⟩, ⟨.inl .mov, [.c (.bool false)], some 4, none, []⟩] none)
 sq34_28),
 [.t 4]⟩

def st35_0 : AC := (.seq (.reg [⟨.inl .mov, [.c (.nilS)], some 6, none, []⟩, ⟨.inl .mov, [.c (.int .i64 (2))], some 7, none, []⟩] none)
 .ret)

def sq35_1 : AC := (.seq (.reg [⟨.inl (.ld true 3), [.t 3], some 23, none, []⟩, ⟨.inl (.ld false 1), [.t 4], some 24, none, []⟩, ⟨.inl .mov, [.t 2], some 25, none, []⟩, ⟨.inr (.call true true 58), [.t 23, .t 24, .t 25], some 26, none, []⟩, ⟨.inl .mov, [.t 26], some 6, none, []⟩, ⟨.inl .mov, [.c (.int .i64 (0))], some 7, none, []⟩] none)
 .ret)

def sp35_2 : AC := (.seq (.reg [⟨.inl (.ld true 3), [.t 3], some 8, none, []⟩, ⟨.inr (.call true true 39), [.t 8], some 9, none, []⟩, ⟨.inl (.un .not), [.t 9], some 10, none, []⟩, ⟨.inl .mov, [.t 10], some 11, none, []⟩, ⟨.inl (.ld false 1), [.t 4], some 12, some (11, false), []⟩, ⟨.inr (.call true true 40), [.t 12, .c (.int .i64 (0)), .c (.int .i64 (1))], some 13, some (11, false), []⟩, ⟨.inl (.un .not), [.t 13], some 14, some (11, false), []⟩, ⟨.inl .pick, [.t 11, .c (.bool true), .t 14], some 15, none, []⟩, ⟨.inl .mov, [.t 15], some 16, none, []⟩, ⟨.inl (.ld true 3), [.t 3], some 17, some (16, false), []⟩, ⟨.inl .mov, [.t 2], some 18, some (16, false), []⟩, ⟨.inl (.mkfn 57), [.t 3, .t 4], some 19, some (16, false), []⟩, ⟨.inr (.call true true 49), [.t 17, .t 18, .t 19], some 20, some (16, false), []⟩, ⟨.inl (.un .not), [.t 20], some 21, some (16, false), []⟩, ⟨.inl .pick, [.t 16, .c (.bool true), .t 21], some 22, none, []⟩] none)
 (.cond (.t 22) st35_0 .skip))

/-- olivette/parity.Beats -/
def af35 : AFunc := ⟨3,
 (.seq (.reg [⟨.inr (.box false), [.t 0], some 3, none, []⟩, ⟨.inr (.box true), [.t 1], some 4, none, []⟩, ⟨.inl .mov, [.c (.nilS)], some 6, none, []⟩, ⟨.inl .mov, [.c (.int .i64 (0))], some 7, none, []⟩] none)
 (.seq sp35_2
 sq35_1)),
 [.t 6, .t 7]⟩

def st36_0 : AC := (.reg [⟨.inl .mov, [.t 8], some 29, none, []⟩, ⟨.inl .mov, [.t 9], some 30, none, []⟩, ⟨.inr (.bldS true true 1 1 [.int .i64 0] [(0, 1)]), [.t 30], some 31, none, []⟩, ⟨.inr (.app false 1 8), [.t 29, .t 31], some 32, none, []⟩, ⟨.inl .mov, [.t 32], some 8, none, []⟩] none)

def sq36_1 : AC := (.reg [⟨.inl .mov, [.t 9], some 22, none, []⟩, ⟨.inl (.bin .add), [.t 22, .c (.int .i64 (1))], some 23, none, []⟩, ⟨.inl .mov, [.t 23], some 9, none, []⟩] none)

def sp36_2 : AC := (.block 1 (.seq (.reg [⟨.inl .mov, [.t 7], some 24, none, []⟩, ⟨.inl .mov, [.t 9], some 25, none, []⟩, ⟨.inl (.idxA 1), [.t 24, .t 25], some 26, none, []⟩, ⟨.inl (.ld false 1), [.t 26], some 27, none, []⟩, ⟨.inl (.un .not), [.t 27], some 28, none, []⟩] none)
 (.cond (.t 28) st36_0 .skip)))

def sp36_3 : AC := (.seq (.reg [⟨.inl .mov, [.t 9], some 18, none, []⟩, ⟨.inl .mov, [.t 7], some 19, none, []⟩, ⟨.inl .len, [.t 19], some 20, none, []⟩, ⟨.inl (.bin .lss), [.t 18, .t 20], some 21, none, []⟩] none)
 (.cond (.t 21) .skip (.exit 0)))

def lb36_4 : AC := (.pre [7, 8, 9] (.seq sp36_3
 (.seq sp36_2
 sq36_1)))

def sq36_5 : AC := (.seq (.seq (.reg [⟨.inl .mov, [.c (.int .i64 (0))], some 9, none, []⟩] none)
 (.block 0 (.loop lb36_4)))
 (.pre [8] (.seq (.reg [⟨.inl .mov, [.t 8], some 33, none, []⟩, ⟨.inl .mov, [.t 33], some 6, none, []⟩] none)
 .ret)))

def sq36_6 : AC := (.seq (.reg [⟨.inl (.ld true 3), [.t 3], some 10, none, []⟩, ⟨.inl .mov, [.t 1], some 11, none, []⟩, ⟨.inl .mov, [.t 2], some 12, none, []⟩, ⟨.inr (.call true true 59), [.t 10, .t 11, .t 12], some 13, none, []⟩, ⟨.inl (.fldA 1), [.t 3], some 14, none, []⟩, ⟨.inl (.ld false 1), [.t 14], some 15, none, []⟩, ⟨.inl .mov, [.t 1], some 16, none, []⟩, ⟨.inr (.call true true 56), [.t 13, .t 15, .t 16], some 17, none, []⟩, ⟨.inl .mov, [.t 17], some 7, none, []⟩] (some ([0, 1, 2, 3, 4, 5, 6, 7, 8], [], [0, 0, 0, 7, 0, 16, 0, 127, 255])))
 (.seq (.reg [⟨.inl .mov, [.c (.nilS)], some 8, none, []⟩] none)
 sq36_5))

/-- olivette/olivetteref08.Beats -/
def af36 : AFunc := ⟨3,
 (.seq (.reg [⟨.inr (.box false), [.t 0], some 3, none, []⟩, ⟨.inl .mov, [.c (.nilS)], some 6, none, []⟩] none)
 sq36_6),
 [.t 6]⟩
end Go.AM.Pa
