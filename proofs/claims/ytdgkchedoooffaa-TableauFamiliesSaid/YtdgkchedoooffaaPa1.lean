/- The functions as the abstract machine has them. -/
import Derived.Test.YtdgkchedoooffaaM3
namespace Go.AM.Tb
def st9_0 : AC := (.seq (.reg [⟨.inl (.fldA 0), [.t 7], some 34, none, []⟩, oLd 34 35, oLn 35 36, oBc .eql 36 (0) 37, oMv 37 38, ⟨.inl (.fldA 1), [.t 7], some 39, some (38, true), []⟩, ⟨.inl (.ld false 1), [.t 39], some 40, some (38, true), []⟩, ⟨.inl .len, [.t 40], some 41, some (38, true), []⟩, ⟨.inl (.bin .eql), [.t 41, .c (.int .i64 (0))], some 42, some (38, true), []⟩, oPk 38 42 false 43, oMv 43 44, oMg 8 45 44 true, ⟨.inl (.bin .eql), [.t 45, .c (.int .i64 (2))], some 46, some (44, true), []⟩, oPk 44 46 false 47, oMv 47 48, oMg 5 49 48 true, oMg 1 50 48 true, ⟨.inl (.ld true 2), [.t 7], some 51, some (48, true), []⟩, ⟨.inr (.call true true 39), [.t 49, .t 50, .t 51], some 52, some (48, true), []⟩, ⟨.inl (.bin .eql), [.t 52, .c (.int .i64 (2))], some 53, some (48, true), []⟩, oPk 48 53 false 54, oMv 54 55, ⟨.inr (.call true true 23), [], some 56, some (55, true), []⟩, oPk 55 56 false 57, oMv 57 4] none)
 .ret)
def sq9_1 : AC := (.seq (.reg [oMv 8 58, oBc .eql 58 (0) 59, oMv 59 60, oMg 5 61 60 true, oMg 1 62 60 true, ⟨.inl (.ld true 2), [.t 7], some 63, some (60, true), []⟩, ⟨.inr (.call true true 40), [.t 61, .t 62, .t 63], some 64, some (60, true), []⟩, oPk 60 64 false 65, oMv 65 66, oMg 5 67 66 true, oMg 1 68 66 true, ⟨.inl (.ld true 2), [.t 7], some 69, some (66, true), []⟩, ⟨.inr (.call true true 39), [.t 67, .t 68, .t 69], some 70, some (66, true), []⟩, ⟨.inl (.bin .eql), [.t 70, .c (.int .i64 (0))], some 71, some (66, true), []⟩, oPk 66 71 false 72, oMv 72 73, ⟨.inr (.call true true 23), [], some 74, some (73, true), []⟩, oPk 73 74 false 75, oMv 75 4] none)
 .ret)
def sp9_2 : AC := (.seq (.reg [oMv 5 23, oCl 22 [.t 23] 24, ⟨.inl (.un .not), [.t 24], some 25, none, []⟩, oMv 25 26, oMg 1 27 26 false, ⟨.inl (.bin .lss), [.t 27, .c (.int .i64 (1))], some 28, some (26, false), []⟩, ⟨.inl .pick, [.t 26, .c (.bool true), .t 28], some 29, none, []⟩, oMv 29 30, oMg 1 31 30 false, ⟨.inl (.bin .gtr), [.t 31, .c (.int .i64 (60))], some 32, some (30, false), []⟩, ⟨.inl .pick, [.t 30, .c (.bool true), .t 32], some 33, none, []⟩] none)
 (.cond (.t 33) st9_0 .skip))
def sp9_3 : AC := (.seq (.reg [oMv 6 19, oMv 5 20, oCl 21 [.t 19, .t 20] 21, ⟨.inl (.un .not), [.t 21], some 22, none, []⟩] none)
 (.cond (.t 22) (.seq (.reg [oMc (.bool false) 4] none)
 .ret) .skip))
def sq9_4 : AC := (.seq (.reg [oMv 6 14, oMv 1 15, oCl 34 [.t 14, .t 15] 16, oMv 16 13, oEx 0 13 17, oEx 1 13 18, ⟨.inr (.alloc false [.nilS, .nilS]), [], some 7, none, []⟩, ⟨.inr (.st 2), [.t 7, .t 17], none, none, []⟩, oMv 18 8] none)
 (.seq sp9_3
 (.seq sp9_2
 sq9_1)))
def sq9_5 : AC := (.seq (.reg [oMv 0 9, oCl 19 [.t 9] 10, oMv 0 11, oCl 19 [.t 11] 12, oMv 10 5, oMv 12 6] none)
 sq9_4)
def af9 : AFunc := ⟨2,
 (.seq (.reg [oMc (.bool false) 4] none)
 sq9_5),
 [.t 4]⟩
def sq19_0 : AC := (.seq (.reg [oMv 3 4, oMv 0 5, oMv 0 6, oLn 6 7, ⟨.inl .mn, [.t 7, .c (.int .i64 (61))], some 8, none, []⟩, ⟨.inl (.slc 1 false true), [.t 5, .t 8], some 9, none, []⟩, ⟨.inr (.app false 1 8), [.t 4, .t 9], some 10, none, []⟩, oMv 10 2] none)
 .ret)
def af19 : AFunc := ⟨1,
 (.seq (.reg [oMc (.nilS) 2] none)
 (.seq (.reg [oMc (.nilS) 3] none)
 sq19_0)),
 [.t 2]⟩
def st20_0 : AC := (.seq (.reg [oMc (.nilS) 2, oMc (.nilS) 3, oMc (.int .i64 (2)) 4] none)
 .ret)
def sq20_1 : AC := (.seq (.reg [oMv 5 15, oMv 6 16, oMv 15 2, oMv 16 3, oMc (.int .i64 (0)) 4] none)
 .ret)
def sq20_2 : AC := (.seq (.reg [oMv 0 11, oCl 53 [.t 11] 12, oMv 12 10, oEx 0 10 13, oEx 1 10 14, oMv 13 5, oMv 14 6] none)
 sq20_1)
def sp20_3 : AC := (.seq (.reg [oMv 0 7, oCl 52 [.t 7] 8, ⟨.inl (.un .not), [.t 8], some 9, none, []⟩] none)
 (.cond (.t 9) st20_0 .skip))
def af20 : AFunc := ⟨1,
 (.seq (.reg [oMc (.nilS) 2, oMc (.nilS) 3, oMc (.int .i64 (0)) 4] none)
 (.seq sp20_3
 sq20_2)),
 [.t 2, .t 3, .t 4]⟩
def sq21_0 : AC := (.reg [oMv 5 15, oBc .add 15 (1) 16, oMv 16 5] none)
def sp21_1 : AC := (.block 1 (.seq (.reg [oMv 0 17, oMv 5 18, oIx 17 18 19, oLd 19 20, oMv 1 21, oMv 5 22, oIx 21 22 23, oLd 23 24, oBn .neq 20 24 25] (some ([0, 1, 2, 3, 4, 5, 6, 7, 8], [], [0, 0, 3, 7, 0, 0, 48, 112, 255])))
 (.cond (.t 25) (.seq (.reg [oMc (.bool false) 4] none)
 .ret) .skip)))
def sp21_2 : AC := (.seq (.reg [oMv 5 11, oMv 0 12, oLn 12 13, oBn .lss 11 13 14] none)
 (.cond (.t 14) .skip (.exit 0)))
def lb21_3 : AC := (.pre [0, 1, 5] (.seq sp21_2
 (.seq sp21_1
 sq21_0)))
def sq21_4 : AC := (.seq (.seq (.reg [oMc (.int .i64 (0)) 5] none)
 (.block 0 (.loop lb21_3)))
 (.pre [] (.seq (.reg [oMc (.bool true) 4] none)
 .ret)))
def sp21_5 : AC := (.seq (.reg [oMv 0 6, oLn 6 7, oMv 1 8, oLn 8 9, oBn .neq 7 9 10] none)
 (.cond (.t 10) (.seq (.reg [oMc (.bool false) 4] none)
 .ret) .skip))
def af21 : AFunc := ⟨2,
 (.seq (.reg [oMc (.bool false) 4] none)
 (.seq sp21_5
 sq21_4)),
 [.t 4]⟩
def sq22_0 : AC := (.reg [oMv 3 8, oBc .add 8 (1) 9, oMv 9 3] none)
def sp22_1 : AC := (.block 1 (.seq (.reg [oMv 0 10, oMv 3 11, oIx 10 11 12, oLd 12 13, oBc .lss 13 (0) 14, oMv 14 15, oMg 0 16 15 false, oMg 3 17 15 false, ⟨.inl (.idxA 1), [.t 16, .t 17], some 18, some (15, false), []⟩, ⟨.inl (.ld false 1), [.t 18], some 19, some (15, false), []⟩, ⟨.inl (.bin .gtr), [.t 19, .c (.int .i64 (1000))], some 20, some (15, false), []⟩, ⟨.inl .pick, [.t 15, .c (.bool true), .t 20], some 21, none, []⟩] none)
 (.cond (.t 21) (.seq (.reg [oMc (.bool false) 2] none)
 .ret) .skip)))
def sp22_2 : AC := (.seq (.reg [oMv 3 4, oMv 0 5, oLn 5 6, oBn .lss 4 6 7] none)
 (.cond (.t 7) .skip (.exit 0)))
def lb22_3 : AC := (.pre [0, 3] (.seq sp22_2
 (.seq sp22_1
 sq22_0)))
def sq22_4 : AC := (.pre [0] (.seq (.reg [oMv 0 22, oLn 22 23, oBc .leq 23 (60) 24, oMv 24 2] none)
 .ret))
def af22 : AFunc := ⟨1,
 (.seq (.reg [oMc (.bool false) 2] none)
 (.seq (.seq (.reg [oMc (.int .i64 (0)) 3] none)
 (.block 0 (.loop lb22_3)))
 sq22_4)),
 [.t 2]⟩
def sp23_0 : AC := (.seq (.reg [oMv 3 31, oBc .neq 31 (0) 32, oMv 32 33, oMg 1 34 33 false, ⟨.inr (.bldS true true 1 2 [.int .i64 0] [(0, 1), (1, 1)]), [.c (.int .i64 (1)), .c (.int .i64 (2))], some 35, some (33, false), []⟩, ⟨.inr (.bldS true true 1 1 [.int .i64 0] [(0, 1)]), [.c (.int .i64 (3))], some 36, some (33, false), []⟩, ⟨.inr (.bldS true true 1 2 [.nilS] [(0, 1), (1, 1)]), [.t 35, .t 36], some 37, some (33, false), []⟩, ⟨.inr (.call true true 25), [.t 34, .t 37], some 38, some (33, false), []⟩, ⟨.inl (.un .not), [.t 38], some 39, some (33, false), []⟩, ⟨.inl .pick, [.t 33, .c (.bool true), .t 39], some 40, none, []⟩, oMv 40 41, oMg 2 42 41 false, ⟨.inr (.bldS true true 1 2 [.int .i64 0] [(0, 1), (1, 1)]), [.c (.int .i64 (1)), .c (.int .i64 (3))], some 43, some (41, false), []⟩, ⟨.inr (.bldS true true 1 1 [.int .i64 0] [(0, 1)]), [.c (.int .i64 (2))], some 44, some (41, false), []⟩, ⟨.inr (.bldS true true 1 2 [.nilS] [(0, 1), (1, 1)]), [.t 43, .t 44], some 45, some (41, false), []⟩, ⟨.inr (.call true true 25), [.t 42, .t 45], some 46, some (41, false), []⟩, ⟨.inl (.un .not), [.t 46], some 47, some (41, false), []⟩, ⟨.inl .pick, [.t 41, .c (.bool true), .t 47], some 48, none, []⟩, oMv 48 49, oMg 5 50 49 false, ⟨.inl (.bin .neq), [.t 50, .c (.int .i64 (0))], some 51, some (49, false), []⟩, ⟨.inl .pick, [.t 49, .c (.bool true), .t 51], some 52, none, []⟩, oMv 52 53, oMg 4 54 53 false, ⟨.inl (.bin .neq), [.t 54, .c (.int .i64 (2))], some 55, some (53, false), []⟩, ⟨.inl .pick, [.t 53, .c (.bool true), .t 55], some 56, none, []⟩, oMv 56 57, oMg 7 58 57 false, ⟨.inl (.bin .neq), [.t 58, .c (.int .i64 (0))], some 59, some (57, false), []⟩, ⟨.inl .pick, [.t 57, .c (.bool true), .t 59], some 60, none, []⟩, oMv 60 61, oMg 6 62 61 false, ⟨.inr (.bldS true true 1 2 [.int .i64 0] [(0, 1), (1, 1)]), [.c (.int .i64 (1)), .c (.int .i64 (3))], some 63, some (61, false), []⟩, ⟨.inr (.bldS true true 1 1 [.int .i64 0] [(0, 1)]), [.c (.int .i64 (2))], some 64, some (61, false), []⟩, ⟨.inr (.bldS true true 1 2 [.nilS] [(0, 1), (1, 1)]), [.t 63, .t 64], some 65, some (61, false), []⟩, ⟨.inr (.call true true 25), [.t 62, .t 65], some 66, some (61, false), []⟩, ⟨.inl (.un .not), [.t 66], some 67, some (61, false), []⟩, ⟨.inl .pick, [.t 61, .c (.bool true), .t 67], some 68, none, []⟩, oMv 68 69, oMg 9 70 69 false, ⟨.inl (.bin .neq), [.t 70, .c (.int .i64 (0))], some 71, some (69, false), []⟩, ⟨.inl .pick, [.t 69, .c (.bool true), .t 71], some 72, none, []⟩, oMv 72 73, ⟨.inl (.fldA 0), [.t 8], some 74, some (73, false), []⟩, ⟨.inl (.ld false 1), [.t 74], some 75, some (73, false), []⟩, ⟨.inl .len, [.t 75], some 76, some (73, false), []⟩, ⟨.inl (.bin .neq), [.t 76, .c (.int .i64 (1))], some 77, some (73, false), []⟩, ⟨.inl .pick, [.t 73, .c (.bool true), .t 77], some 78, none, []⟩, oMv 78 79, ⟨.inl (.fldA 0), [.t 8], some 80, some (79, false), []⟩, ⟨.inl (.ld false 1), [.t 80], some 81, some (79, false), []⟩, ⟨.inl (.idxA 1), [.t 81, .c (.int .i64 (0))], some 82, some (79, false), []⟩, ⟨.inl (.ld false 1), [.t 82], some 83, some (79, false), []⟩, ⟨.inl .len, [.t 83], some 84, some (79, false), []⟩, ⟨.inl (.bin .neq), [.t 84, .c (.int .i64 (2))], some 85, some (79, false), []⟩, ⟨.inl .pick, [.t 79, .c (.bool true), .t 85], some 86, none, []⟩] none)
 (.cond (.t 86) (.seq (.reg [oMc (.bool false) 0] none)
 .ret) .skip))
def sq23_1 : AC := (.seq (.reg [⟨.inr (.bldS true true 1 4 [.int .i64 0] [(0, 1), (1, 1), (2, 1), (3, 1)]), [.c (.int .i64 (2)), .c (.int .i64 (1)), .c (.int .i64 (4)), .c (.int .i64 (3))], some 27, none, []⟩, oCl 34 [.t 27, .c (.int .i64 (1))] 28, oMv 28 26, oEx 0 26 29, oEx 1 26 30, ⟨.inr (.alloc false [.nilS, .nilS]), [], some 8, none, []⟩, ⟨.inr (.st 2), [.t 8, .t 29], none, none, []⟩, oMv 30 9] none)
 (.seq sp23_0
 (.seq (.reg [oMc (.bool true) 0] none)
 .ret)))
def sq23_2 : AC := (.seq (.reg [⟨.inr (.bldS true true 1 2 [.int .i64 0] [(0, 1), (1, 1)]), [.c (.int .i64 (2)), .c (.int .i64 (1))], some 22, none, []⟩, oCl 27 [.t 22, .c (.int .i64 (1))] 23, oMv 23 21, oEx 0 21 24, oEx 1 21 25, oMv 24 6, oMv 25 7] none)
 sq23_1)
def sq23_3 : AC := (.seq (.reg [⟨.inr (.bldS true true 1 2 [.int .i64 0] [(0, 1), (1, 1)]), [.c (.int .i64 (2)), .c (.int .i64 (1))], some 17, none, []⟩, oCl 26 [.t 17] 18, oMv 18 16, oEx 0 16 19, oEx 1 16 20, oMv 19 4, oMv 20 5] none)
 sq23_2)
def sq23_4 : AC := (.seq (.reg [⟨.inr (.bldS true true 1 3 [.int .i64 0] [(0, 1), (1, 1), (2, 1)]), [.c (.int .i64 (3)), .c (.int .i64 (1)), .c (.int .i64 (2))], some 11, none, []⟩, oCl 20 [.t 11] 12, oMv 12 10, oEx 0 10 13, oEx 1 10 14, oEx 2 10 15, oMv 13 1, oMv 14 2, oMv 15 3] none)
 sq23_3)
def af23 : AFunc := ⟨0,
 (.seq (.reg [oMc (.bool false) 0] none)
 sq23_4),
 [.t 0]⟩
def sq25_0 : AC := (.reg [oMv 5 15, oBc .add 15 (1) 16, oMv 16 5] none)
def sp25_1 : AC := (.block 1 (.seq (.reg [oMv 0 17, oMv 5 18, oIx 17 18 19, oLd 19 20, oMv 1 21, oMv 5 22, oIx 21 22 23, oLd 23 24, oCl 21 [.t 20, .t 24] 25, ⟨.inl (.un .not), [.t 25], some 26, none, []⟩] (some ([0, 1, 2, 3, 4, 5, 6, 7, 8, 9], [], [0, 0, 3, 7, 0, 0, 48, 112, 255, 511])))
 (.cond (.t 26) (.seq (.reg [oMc (.bool false) 4] none)
 .ret) .skip)))
def sp25_2 : AC := (.seq (.reg [oMv 5 11, oMv 0 12, oLn 12 13, oBn .lss 11 13 14] none)
 (.cond (.t 14) .skip (.exit 0)))
def lb25_3 : AC := (.pre [0, 1, 5] (.seq sp25_2
 (.seq sp25_1
 sq25_0)))
def sq25_4 : AC := (.seq (.seq (.reg [oMc (.int .i64 (0)) 5] none)
 (.block 0 (.loop lb25_3)))
 (.pre [] (.seq (.reg [oMc (.bool true) 4] none)
 .ret)))
def sp25_5 : AC := (.seq (.reg [oMv 0 6, oLn 6 7, oMv 1 8, oLn 8 9, oBn .neq 7 9 10] none)
 (.cond (.t 10) (.seq (.reg [oMc (.bool false) 4] none)
 .ret) .skip))
def af25 : AFunc := ⟨2,
 (.seq (.reg [oMc (.bool false) 4] none)
 (.seq sp25_5
 sq25_4)),
 [.t 4]⟩
def st26_0 : AC := (.seq (.reg [oMv 4 9, oMc (.int .i64 (0)) 2, oMv 9 3] none)
 .ret)
def sq26_1 : AC := (.seq (.reg [oMv 4 7, oBc .neq 7 (0) 8] none)
 (.cond (.t 8) st26_0 .skip))
def sq26_2 : AC := (.seq (.reg [⟨.inr .mkM, [], some 10, none, []⟩, oMv 0 11, ⟨.inr (.call false true 56), [.t 10, .t 11], some 12, none, []⟩, oMv 12 2, oMc (.int .i64 (0)) 3] none)
 .ret)
def sp26_3 : AC := (.seq (.reg [oMv 0 5, oCl 55 [.t 5] 6, oMv 6 4] none)
 sq26_1)
def af26 : AFunc := ⟨1,
 (.seq (.reg [oMc (.int .i64 (0)) 2, oMc (.int .i64 (0)) 3] none)
 (.seq sp26_3
 sq26_2)),
 [.t 2, .t 3]⟩
def st27_0 : AC := (.seq (.reg [oMv 6 20, oMc (.nilS) 4, oMv 20 5] none)
 .ret)
def sq27_1 : AC := (.seq (.reg [oMv 6 18, oBc .neq 18 (0) 19] none)
 (.cond (.t 19) st27_0 .skip))
def st27_2 : AC := (.seq (.reg [oMc (.nilS) 4, oMc (.int .i64 (2)) 5] none)
 .ret)
def sq27_3 : AC := (.reg [oMv 9 46, oMv 11 47, oBn .add 46 47 48, oMv 48 9] none)
def sq27_4 : AC := (.seq (.reg [oMv 8 41, oMv 10 42, oMv 11 43, ⟨.inr (.mkS 1 8 [.int .i64 0]), [.t 43, .t 43], some 44, none, []⟩, oIx 41 42 45, ⟨.inr (.st 1), [.t 45, .t 44], none, none, []⟩] none)
 sq27_3)
def sq27_5 : AC := (.reg [oBc .add 36 (1) 49, oMv 49 36] none)
def sp27_6 : AC := (.block 1 (.seq (.reg [oMv 36 38, oIx 34 36 39, oLd 39 40, oMv 38 10, oMv 40 11] none)
 sq27_4))
def lb27_7 : AC := (.pre [0, 1, 7, 8, 9, 34, 35, 36] (.seq (.reg [oBn .lss 36 35 37] none)
 (.seq (.cond (.t 37) .skip (.exit 0))
 (.seq sp27_6
 sq27_5))))
def st27_8 : AC := (.seq (.reg [oMv 1 75, oMv 15 76, oBn .sub 75 76 77, oMv 77 1] none)
 (.exit 5))
def sq27_9 : AC := (.seq (.reg [oMv 1 72, oMv 15 73, oBn .geq 72 73 74] none)
 (.cond (.t 74) st27_8 .skip))
def sq27_10 : AC := (.seq (.reg [oMv 8 78, oMv 12 79, oIx 78 79 80, oLd 80 81, oMv 0 82, oMv 12 83, oIx 82 83 84, oLd 84 85, oBc .sub 85 (1) 86, oMv 9 87, oIx 81 86 88, ⟨.inr (.st 1), [.t 88, .t 87], none, none, []⟩] (some ([0, 1, 2, 3, 4, 5, 6, 7, 8, 9, 10, 11], [], [0, 0, 3, 7, 0, 0, 48, 112, 240, 0, 1023, 2047])))
 (.seq (.reg [oMv 13 89, oMv 89 0] none)
 (.exit 4)))
def sp27_11 : AC := (.seq (.reg [oMv 7 69, oMv 13 70, ⟨.inr (.call false true 56), [.t 69, .t 70], some 71, none, []⟩, oMv 71 15] none)
 sq27_9)
def sp27_12 : AC := (.seq (.reg [oMv 14 67, ⟨.inl (.un .not), [.t 67], some 68, none, []⟩] none)
 (.cond (.t 68) (.exit 5) .skip))
def sq27_13 : AC := (.reg [oMv 12 59, oBc .sub 59 (1) 60, oMv 60 12] none)
def sp27_14 : AC := (.block 5 (.seq (.reg [oMv 0 62, oMv 12 63, oCl 57 [.t 62, .t 63] 64, oMv 64 61, oEx 0 61 65, oEx 1 61 66, oMv 65 13, oMv 66 14] none)
 (.seq sp27_12
 (.seq sp27_11
 sq27_10))))
def sp27_15 : AC := (.seq (.reg [oMv 12 57, oBc .geq 57 (0) 58] none)
 (.cond (.t 58) .skip (.exit 4)))
def lb27_16 : AC := (.pre [0, 1, 7, 8, 9, 12] (.seq sp27_15
 (.seq sp27_14
 sq27_13)))
def sq27_17 : AC := (.pre [0, 1, 7, 8, 9] (.reg [oMv 9 52, oBc .sub 52 (1) 53, oMv 53 9] none))
def sp27_18 : AC := (.block 3 (.seq (.reg [oMv 0 54, oLn 54 55, oBc .sub 55 (1) 56, oMv 56 12] none)
 (.block 4 (.loop lb27_16))))
def sp27_19 : AC := (.seq (.reg [oMv 9 50, oBc .gtr 50 (0) 51] none)
 (.cond (.t 51) .skip (.exit 2)))
def lb27_20 : AC := (.pre [0, 1, 7, 8, 9] (.seq sp27_19
 (.seq sp27_18
 sq27_17)))
def sq27_21 : AC := (.pre [8] (.seq (.reg [oMv 8 90, oMv 90 4, oMc (.int .i64 (0)) 5] none)
 .ret))
def sp27_22 : AC := (.seq (.reg [oMv 0 34, oLn 34 35, oMc (.int .i64 (0)) 36] none)
 (.block 0 (.loop lb27_7)))
def sq27_23 : AC := (.seq (.reg [oMc (.int .i64 (0)) 9] none)
 (.seq sp27_22
 (.pre [0, 1, 7, 8, 9] (.seq (.block 2 (.loop lb27_20))
 sq27_21))))
def sq27_24 : AC := (.seq (.reg [oMv 0 31, oLn 31 32, ⟨.inr (.mkB 1 24 [.nilS]), [.t 32, .t 32], some 33, none, []⟩, oMv 33 8] none)
 sq27_23)
def sp27_25 : AC := (.seq (.reg [oMv 1 22, oBc .lss 22 (0) 23, oMv 23 24, oMg 1 25 24 false, oMg 7 26 24 false, oMg 0 27 24 false, ⟨.inr (.call false true 56), [.t 26, .t 27], some 28, some (24, false), []⟩, ⟨.inl (.bin .geq), [.t 25, .t 28], some 29, some (24, false), []⟩, ⟨.inl .pick, [.t 24, .c (.bool true), .t 29], some 30, none, []⟩] none)
 (.cond (.t 30) st27_2 .skip))
def sp27_26 : AC := (.seq (.reg [oMv 0 16, oCl 55 [.t 16] 17, oMv 17 6] none)
 sq27_1)
def sq27_27 : AC := (.seq sp27_26
 (.seq (.reg [⟨.inr .mkM, [], some 21, none, []⟩, oMv 21 7] none)
 (.seq sp27_25
 sq27_24)))
def af27 : AFunc := ⟨2,
 (.seq (.reg [oMc (.nilS) 4, oMc (.int .i64 (0)) 5] none)
 sq27_27),
 [.t 4, .t 5]⟩
def st34_0 : AC := (.seq (.reg [⟨.inl (.bld [.nilS, .nilS] []), [], some 17, none, []⟩, ⟨.inr (.st 2), [.t 4, .t 17], none, none, []⟩, oMc (.int .i64 (2)) 5] none)
 .ret)
def sq34_1 : AC := (.seq (.reg [oMv 0 18, oMv 1 19, oCl 60 [.t 18, .t 19] 20, ⟨.inr (.st 2), [.t 4, .t 20], none, none, []⟩, oMc (.int .i64 (0)) 5] none)
 .ret)
def sp34_2 : AC := (.seq (.reg [oMv 0 6, oCl 52 [.t 6] 7, ⟨.inl (.un .not), [.t 7], some 8, none, []⟩, oMv 8 9, oMg 1 10 9 false, ⟨.inl (.bin .lss), [.t 10, .c (.int .i64 (1))], some 11, some (9, false), []⟩, ⟨.inl .pick, [.t 9, .c (.bool true), .t 11], some 12, none, []⟩, oMv 12 13, oMg 1 14 13 false, ⟨.inl (.bin .gtr), [.t 14, .c (.int .i64 (60))], some 15, some (13, false), []⟩, ⟨.inl .pick, [.t 13, .c (.bool true), .t 15], some 16, none, []⟩] none)
 (.cond (.t 16) st34_0 .skip))
def af34 : AFunc := ⟨2,
 (.seq (.reg [⟨.inr (.alloc false [.nilS, .nilS]), [], some 4, none, []⟩, oMc (.int .i64 (0)) 5] none)
 (.seq sp34_2
 sq34_1)),
 [.cell 4 true 2, .t 5]⟩
def sp39_0 : AC := (.seq (.reg [oMv 8 36, ⟨.inl (.un .not), [.t 36], some 37, none, []⟩, oMv 37 38, oMg 10 39 38 false, ⟨.inl (.un .not), [.t 39], some 40, some (38, false), []⟩, ⟨.inl .pick, [.t 38, .c (.bool true), .t 40], some 41, none, []⟩, oMv 41 42, ⟨.inl (.fldA 0), [.t 5], some 43, some (42, false), []⟩, ⟨.inl (.ld false 1), [.t 43], some 44, some (42, false), []⟩, ⟨.inl .len, [.t 44], some 45, some (42, false), []⟩, oMg 1 46 42 false, ⟨.inl (.bin .gtr), [.t 45, .t 46], some 47, some (42, false), []⟩, ⟨.inl .pick, [.t 42, .c (.bool true), .t 47], some 48, none, []⟩, oMv 48 49, oMg 7 50 49 false, oMg 1 51 49 false, ⟨.inl (.fldA 1), [.t 5], some 52, some (49, false), []⟩, ⟨.inl (.ld false 1), [.t 52], some 53, some (49, false), []⟩, ⟨.inl .len, [.t 53], some 54, some (49, false), []⟩, ⟨.inl (.bin .mul), [.t 51, .t 54], some 55, some (49, false), []⟩, oMg 0 56 49 false, ⟨.inl .len, [.t 56], some 57, some (49, false), []⟩, ⟨.inl (.bin .add), [.t 55, .t 57], some 58, some (49, false), []⟩, oMg 9 59 49 false, ⟨.inl (.bin .sub), [.t 58, .t 59], some 60, some (49, false), []⟩, ⟨.inl (.bin .neq), [.t 50, .t 60], some 61, some (49, false), []⟩, ⟨.inl .pick, [.t 49, .c (.bool true), .t 61], some 62, none, []⟩] none)
 (.cond (.t 62) (.seq (.reg [oMc (.int .i64 (10)) 6] none)
 .ret) .skip))
def sq39_1 : AC := (.seq (.reg [oMv 0 30, ⟨.inl (.fldA 1), [.t 5], some 31, none, []⟩, oLd 31 32, ⟨.inr (.call true true 61), [.t 30, .t 32, .c (.fn 63 [])], some 33, none, []⟩, oMv 33 29, oEx 0 29 34, oEx 1 29 35, oMv 34 9, oMv 35 10] none)
 (.seq sp39_0
 (.seq (.reg [oMc (.int .i64 (0)) 6] none)
 .ret)))
def sq39_2 : AC := (.seq (.reg [oMv 0 23, ⟨.inl (.fldA 0), [.t 5], some 24, none, []⟩, oLd 24 25, ⟨.inr (.call true true 61), [.t 23, .t 25, .c (.fn 62 [])], some 26, none, []⟩, oMv 26 22, oEx 0 22 27, oEx 1 22 28, oMv 27 7, oMv 28 8] none)
 sq39_1)
def sp39_3 : AC := (.seq (.reg [oMv 0 11, oCl 52 [.t 11] 12, ⟨.inl (.un .not), [.t 12], some 13, none, []⟩, oMv 13 14, oMg 1 15 14 false, ⟨.inl (.bin .lss), [.t 15, .c (.int .i64 (1))], some 16, some (14, false), []⟩, ⟨.inl .pick, [.t 14, .c (.bool true), .t 16], some 17, none, []⟩, oMv 17 18, oMg 1 19 18 false, ⟨.inl (.bin .gtr), [.t 19, .c (.int .i64 (60))], some 20, some (18, false), []⟩, ⟨.inl .pick, [.t 18, .c (.bool true), .t 20], some 21, none, []⟩] none)
 (.cond (.t 21) (.seq (.reg [oMc (.int .i64 (2)) 6] none)
 .ret) .skip))
def af39 : AFunc := ⟨3,
 (.seq (.reg [⟨.inr (.box false), [.t 2], some 5, none, []⟩, oMc (.int .i64 (0)) 6] none)
 (.seq sp39_3
 sq39_2)),
 [.t 6]⟩
def sq40_0 : AC := (.seq (.reg [oMv 7 22, oBc .geq 22 (0) 23, oMv 23 24, oMg 8 25 24 true, ⟨.inl (.bin .geq), [.t 25, .c (.int .i64 (0))], some 26, some (24, true), []⟩, oPk 24 26 false 27, oMv 27 28, oMg 7 29 28 true, oMg 1 30 28 true, ⟨.inl (.fldA 1), [.t 5], some 31, some (28, true), []⟩, ⟨.inl (.ld false 1), [.t 31], some 32, some (28, true), []⟩, ⟨.inl .len, [.t 32], some 33, some (28, true), []⟩, ⟨.inl (.bin .mul), [.t 30, .t 33], some 34, some (28, true), []⟩, oMg 0 35 28 true, ⟨.inl .len, [.t 35], some 36, some (28, true), []⟩, ⟨.inl (.bin .add), [.t 34, .t 36], some 37, some (28, true), []⟩, oMg 8 38 28 true, ⟨.inl (.bin .sub), [.t 37, .t 38], some 39, some (28, true), []⟩, ⟨.inl (.bin .eql), [.t 29, .t 39], some 40, some (28, true), []⟩, oPk 28 40 false 41, oMv 41 6] none)
 .ret)
def sq40_1 : AC := (.seq (.reg [oMv 0 14, ⟨.inl (.fldA 0), [.t 5], some 15, none, []⟩, oLd 15 16, oCl 64 [.t 14, .t 16, .c (.bool true)] 17, oMv 0 18, ⟨.inl (.fldA 1), [.t 5], some 19, none, []⟩, oLd 19 20, oCl 64 [.t 18, .t 20, .c (.bool false)] 21, oMv 17 7, oMv 21 8] (some ([0, 1, 2, 3, 4, 5, 6, 7, 8, 9], [], [0, 0, 2, 7, 0, 0, 32, 127, 255, 511])))
 sq40_0)
def sp40_2 : AC := (.seq (.reg [⟨.inl (.fldA 0), [.t 5], some 9, none, []⟩, oLd 9 10, oLn 10 11, oMv 1 12, oBn .gtr 11 12 13] none)
 (.cond (.t 13) (.seq (.reg [oMc (.bool false) 6] none)
 .ret) .skip))
def af40 : AFunc := ⟨3,
 (.seq (.reg [⟨.inr (.box false), [.t 2], some 5, none, []⟩, oMc (.bool false) 6] none)
 (.seq sp40_2
 sq40_1)),
 [.t 6]⟩
def sq52_0 : AC := (.seq (.reg [oMv 0 3, oLn 3 4, oBc .leq 4 (60) 5, oMv 5 6, oMg 0 7 6 true, ⟨.inr (.call true true 72), [.t 7, .c (.fn 73 [])], some 8, some (6, true), []⟩, ⟨.inl (.un .not), [.t 8], some 9, some (6, true), []⟩, oPk 6 9 false 10, oMv 10 2] none)
 .ret)
def af52 : AFunc := ⟨1,
 (.seq (.reg [oMc (.bool false) 2] none)
 sq52_0),
 [.t 2]⟩
def st53_0 : AC := (.reg [oMv 5 26, ⟨.inr (.bldB 1 1 [.nilS] [(0, 1)]), [.c (.nilS)], some 27, none, []⟩, ⟨.inr (.appB 1 24), [.t 26, .t 27], some 28, none, []⟩, oMv 28 5] none)
def sq53_1 : AC := (.reg [oMv 5 29, oMv 8 30, oMv 5 31, oMv 8 32, oIx 31 32 33, oLd 33 34, oMv 6 35, oBc .add 35 (1) 36, ⟨.inr (.bldS true true 1 1 [.int .i64 0] [(0, 1)]), [.t 36], some 37, none, []⟩, ⟨.inr (.app false 1 8), [.t 34, .t 37], some 38, none, []⟩, oIx 29 30 39, ⟨.inr (.st 1), [.t 39, .t 38], none, none, []⟩] none)
def sp53_2 : AC := (.seq (.reg [oMv 8 22, oMv 5 23, oLn 23 24, oBn .eql 22 24 25] none)
 (.cond (.t 25) st53_0 .skip))
def sq53_3 : AC := (.seq (.reg [oMv 4 17, oMv 7 18, ⟨.inr (.call false true 75), [.t 17, .t 18], some 19, none, []⟩, oMv 19 16, oEx 0 16 20, oEx 1 16 21, oMv 20 4, oMv 21 8] none)
 (.seq sp53_2
 sq53_1))
def sq53_4 : AC := (.reg [oBc .add 11 (1) 40, oMv 40 11] none)
def sp53_5 : AC := (.block 1 (.seq (.reg [oMv 11 13, oIx 9 11 14, oLd 14 15, oMv 13 6, oMv 15 7] none)
 (.seq (.reg [oMc (.int .i64 (0)) 8] none)
 sq53_3)))
def lb53_6 : AC := (.pre [4, 5, 9, 10, 11] (.seq (.reg [oBn .lss 11 10 12] none)
 (.seq (.cond (.t 12) .skip (.exit 0))
 (.seq sp53_5
 sq53_4))))
def sq53_7 : AC := (.pre [4, 5] (.seq (.reg [oMv 4 41, oMv 5 42, oMv 41 2, oMv 42 3] none)
 .ret))
def sp53_8 : AC := (.seq (.reg [oMv 0 9, oLn 9 10, oMc (.int .i64 (0)) 11] none)
 (.block 0 (.loop lb53_6)))
def sq53_9 : AC := (.seq (.reg [oMc (.nilS) 4, oMc (.nilS) 5] none)
 (.seq sp53_8
 sq53_7))
def af53 : AFunc := ⟨1,
 (.seq (.reg [oMc (.nilS) 2, oMc (.nilS) 3] none)
 sq53_9),
 [.t 2, .t 3]⟩
def sq55_0 : AC := (.reg [oMv 3 19, oMv 5 20, oBn .add 19 20 21, oMv 21 3] none)
def sp55_1 : AC := (.seq (.reg [oMv 5 15, oMv 3 16, ⟨.inl (.bin .sub), [.c (.int .i64 (30)), .t 16], some 17, none, []⟩, oBn .gtr 15 17 18] none)
 (.cond (.t 18) (.seq (.reg [oMc (.int .i64 (5)) 2] none)
 .ret) .skip))
def sq55_2 : AC := (.reg [oBc .add 11 (1) 22, oMv 22 11] none)
def sp55_3 : AC := (.block 1 (.seq (.reg [oIx 9 11 13, oLd 13 14, oMv 14 5] none)
 (.seq sp55_1
 sq55_0)))
def lb55_4 : AC := (.pre [3, 9, 10, 11] (.seq (.reg [oBn .lss 11 10 12] none)
 (.seq (.cond (.t 12) .skip (.exit 0))
 (.seq sp55_3
 sq55_2))))
def sp55_5 : AC := (.seq (.reg [oMv 0 9, oLn 9 10, oMc (.int .i64 (0)) 11] none)
 (.block 0 (.loop lb55_4)))
def sq55_6 : AC := (.seq (.reg [oMc (.int .i64 (0)) 3] none)
 (.seq sp55_5
 (.pre [] (.seq (.reg [oMc (.int .i64 (0)) 2] none)
 .ret))))
def sp55_7 : AC := (.seq (.reg [oMv 0 6, oCl 76 [.t 6] 7, ⟨.inl (.un .not), [.t 7], some 8, none, []⟩] none)
 (.cond (.t 8) (.seq (.reg [oMc (.int .i64 (2)) 2] none)
 .ret) .skip))
def af55 : AFunc := ⟨1,
 (.seq (.reg [oMc (.int .i64 (0)) 2] none)
 (.seq sp55_7
 sq55_6)),
 [.t 2]⟩
def sq56_0 : AC := (.cond (.t 23) (.seq (.reg [oMv 6 24, oMv 24 4] none)
 .ret) .skip)
def st56_1 : AC := (.reg [oMv 8 37, oMv 0 38, oMv 10 39, ⟨.inr (.call false true 56), [.t 38, .t 39], some 40, none, []⟩, oBn .add 37 40 41, oMv 41 8] none)
def sq56_2 : AC := (.seq (.reg [oMv 1 31, oMv 9 32, oCl 57 [.t 31, .t 32] 33, oMv 33 30, oEx 0 30 34, oEx 1 30 35, oMv 34 10, oMv 35 11] none)
 (.seq (.reg [oMv 11 36] none)
 (.cond (.t 36) st56_1 .skip)))
def sq56_3 : AC := (.reg [oBc .add 27 (1) 42, oMv 42 27] none)
def sq56_4 : AC := (.seq (.block 1 (.seq (.reg [oMv 27 29, oMv 29 9] none)
 sq56_2))
 sq56_3)
def lb56_5 : AC := (.pre [0, 1, 5, 8, 26, 27] (.seq (.reg [oBn .lss 27 26 28] none)
 (.seq (.cond (.t 28) .skip (.exit 0))
 sq56_4)))
def sq56_6 : AC := (.pre [0, 5, 8] (.seq (.reg [oMv 0 43, ⟨.inl (.ld true 30), [.t 5], some 44, none, []⟩, oMv 8 45, ⟨.inr (.upM [some .i64, some .i64, some .i64, some .i64, some .i64, some .i64, some .i64, some .i64, some .i64, some .i64, some .i64, some .i64, some .i64, some .i64, some .i64, some .i64, some .i64, some .i64, some .i64, some .i64, some .i64, some .i64, some .i64, some .i64, some .i64, some .i64, some .i64, some .i64, some .i64, some .i64]), [.t 43, .t 44, .t 45], none, none, []⟩] none)
 (.seq (.reg [oMv 8 46, oMv 46 4] none)
 .ret)))
def sp56_7 : AC := (.seq (.reg [oMv 1 25, oLn 25 26, oMc (.int .i64 (0)) 27] none)
 (.block 0 (.loop lb56_5)))
def sp56_8 : AC := (.seq (.reg [oMv 0 18, ⟨.inl (.ld true 30), [.t 5], some 19, none, []⟩, ⟨.inr (.lkM [some .i64, some .i64, some .i64, some .i64, some .i64, some .i64, some .i64, some .i64, some .i64, some .i64, some .i64, some .i64, some .i64, some .i64, some .i64, some .i64, some .i64, some .i64, some .i64, some .i64, some .i64, some .i64, some .i64, some .i64, some .i64, some .i64, some .i64, some .i64, some .i64, some .i64] true (.int .i64 0)), [.t 18, .t 19], some 20, none, []⟩, oMv 20 17, oEx 0 17 21, oEx 1 17 22, oMv 21 6, oMv 22 7] none)
 (.seq (.reg [oMv 7 23] none)
 sq56_0))
def sq56_9 : AC := (.seq (.reg [oMv 1 15, oCl 77 [.t 15] 16, ⟨.inr (.alloc true [.int .i64 0, .int .i64 0, .int .i64 0, .int .i64 0, .int .i64 0, .int .i64 0, .int .i64 0, .int .i64 0, .int .i64 0, .int .i64 0, .int .i64 0, .int .i64 0, .int .i64 0, .int .i64 0, .int .i64 0, .int .i64 0, .int .i64 0, .int .i64 0, .int .i64 0, .int .i64 0, .int .i64 0, .int .i64 0, .int .i64 0, .int .i64 0, .int .i64 0, .int .i64 0, .int .i64 0, .int .i64 0, .int .i64 0, .int .i64 0]), [], some 5, none, []⟩, ⟨.inr (.st 30), [.t 5, .t 16], none, none, []⟩] none)
 (.seq sp56_8
 (.seq (.reg [oMc (.int .i64 (0)) 8] none)
 (.seq sp56_7
 sq56_6))))
def sp56_10 : AC := (.seq (.reg [oMv 1 12, oLn 12 13, oBc .eql 13 (0) 14] none)
 (.cond (.t 14) (.seq (.reg [oMc (.int .i64 (1)) 4] none)
 .ret) .skip))
def af56 : AFunc := ⟨2,
 (.seq (.reg [oMc (.int .i64 (0)) 4] none)
 (.seq sp56_10
 sq56_9)),
 [.t 4]⟩
def st57_0 : AC := (.seq (.reg [oMc (.nilS) 4, oMc (.bool false) 5] none)
 .ret)
def st57_1 : AC := (.reg [oMv 6 37, oMv 1 38, ⟨.inl (.slc 1 false true), [.t 37, .t 38], some 39, none, []⟩, oMv 39 6] none)
def sq57_2 : AC := (.seq (.reg [oMv 6 40, oMv 40 4, oMc (.bool true) 5] none)
 .ret)
def sp57_3 : AC := (.seq (.reg [oMv 6 32, oMv 1 33, oIx 32 33 34, oLd 34 35, oBc .eql 35 (0) 36] none)
 (.cond (.t 36) st57_1 .skip))
def sq57_4 : AC := (.seq (.reg [oMv 6 26, oMv 1 27, oIx 26 27 28, oLd 28 29, oBc .sub 29 (1) 30, oIx 26 27 31, ⟨.inr (.st 1), [.t 31, .t 30], none, none, []⟩] none)
 (.seq sp57_3
 sq57_2))
def sq57_5 : AC := (.seq (.reg [oMv 0 24, ⟨.inr (.call true false 78), [.t 24], some 25, none, []⟩, oMv 25 6] none)
 sq57_4)
def sp57_6 : AC := (.seq (.reg [oMv 1 7, oBc .add 7 (1) 8, oMv 0 9, oLn 9 10, oBn .lss 8 10 11, oMv 11 12, oMg 0 13 12 true, oMg 1 14 12 true, ⟨.inl (.bin .add), [.t 14, .c (.int .i64 (1))], some 15, some (12, true), []⟩, ⟨.inl (.idxA 1), [.t 13, .t 15], some 16, some (12, true), []⟩, ⟨.inl (.ld false 1), [.t 16], some 17, some (12, true), []⟩, oMg 0 18 12 true, oMg 1 19 12 true, ⟨.inl (.idxA 1), [.t 18, .t 19], some 20, some (12, true), []⟩, ⟨.inl (.ld false 1), [.t 20], some 21, some (12, true), []⟩, ⟨.inl (.bin .eql), [.t 17, .t 21], some 22, some (12, true), []⟩, oPk 12 22 false 23] (some ([0, 1, 2, 3, 4, 5, 6, 7, 8, 9, 10, 11, 12, 13, 14, 15, 16], [], [0, 1, 0, 4, 15, 31, 63, 63, 191, 511, 1023, 63, 63, 6207, 14399, 32767, 65535])))
 (.cond (.t 23) st57_0 .skip))
def af57 : AFunc := ⟨2,
 (.seq (.reg [oMc (.nilS) 4, oMc (.bool false) 5] none)
 (.seq sp57_6
 sq57_5)),
 [.t 4, .t 5]⟩
def sq60_0 : AC := (.reg [oMv 5 44, oMv 6 45, oCl 80 [.t 44, .t 45] 46, oMv 46 43, oEx 0 43 47, oEx 1 43 48, oMv 47 8, oMv 48 9] none)
def sq60_1 : AC := (.reg [oMv 7 38, oBc .add 38 (1) 39, oMv 39 7] none)
def sp60_2 : AC := (.block 1 (.seq (.reg [oMv 5 40, oMv 9 41, ⟨.inr (.call false true 81), [.t 40, .t 41], some 42, none, []⟩] none)
 sq60_0))
def sp60_3 : AC := (.seq (.reg [oMv 7 29, oMv 1 30, oBn .lss 29 30 31, oMv 31 32, oMg 8 33 32 true, ⟨.inl (.idxA 1), [.t 33, .c (.int .i64 (1))], some 34, some (32, true), []⟩, ⟨.inl (.ld false 1), [.t 34], some 35, some (32, true), []⟩, ⟨.inl (.bin .gtr), [.t 35, .c (.int .i64 (0))], some 36, some (32, true), []⟩, oPk 32 36 false 37] none)
 (.cond (.t 37) .skip (.exit 0)))
def lb60_4 : AC := (.pre [0, 1, 4, 5, 6, 7, 8, 9] (.seq sp60_3
 (.seq sp60_2
 sq60_1)))
def sq60_5 : AC := (.reg [oMv 11 79, oMv 13 80, oMv 11 81, oMv 13 82, oIx 81 82 83, oLd 83 84, oMv 12 85, ⟨.inr (.bldS true true 1 1 [.int .i64 0] [(0, 1)]), [.t 85], some 86, none, []⟩, ⟨.inr (.app false 1 8), [.t 84, .t 86], some 87, none, []⟩, oIx 79 80 88, ⟨.inr (.st 1), [.t 88, .t 87], none, none, []⟩] none)
def st60_6 : AC := (.seq (.reg [oMv 8 74, oMv 12 75, oCl 83 [.t 75] 76, oIx 74 76 77, oLd 77 78, oMv 78 13] none)
 sq60_5)
def sq60_7 : AC := (.seq (.reg [oMv 12 64, oCl 82 [.t 64] 65, oMv 12 69, oCl 83 [.t 69] 70, oMv 8 63, oIx 63 65 66, oLd 66 67, oMv 8 68, oIx 68 70 71, oLd 71 72, oBn .gtr 67 72 73] (some ([1, 2, 6, 7, 0, 3, 4, 5, 8, 9, 10], [], [0, 0, 2, 7, 15, 0, 0, 70, 230, 486, 1023])))
 (.cond (.t 73) st60_6 .skip))
def sq60_8 : AC := (.reg [oBc .add 60 (1) 89, oMv 89 60] none)
def sq60_9 : AC := (.seq (.block 3 (.seq (.reg [oMv 60 62, oMv 62 12] none)
 sq60_7))
 sq60_8)
def lb60_10 : AC := (.pre [4, 5, 7, 8, 10, 11, 59, 60] (.seq (.reg [oBn .lss 60 59 61] none)
 (.seq (.cond (.t 61) .skip (.exit 2))
 sq60_9)))
def st60_11 : AC := (.reg [⟨.inl (.fldA 1), [.t 10], some 99, none, []⟩, oLd 99 100, ⟨.inr .frz, [.t 15], some 101, none, []⟩, ⟨.inr (.bldB 1 1 [.nilS] [(0, 1)]), [.t 101], some 102, none, []⟩, ⟨.inr (.appB 1 24), [.t 100, .t 102], some 103, none, []⟩, ⟨.inl (.fldA 1), [.t 10], some 104, none, []⟩, ⟨.inr (.st 1), [.t 104, .t 103], none, none, []⟩] none)
def sq60_12 : AC := (.seq (.reg [oMv 15 96, oLn 96 97, oBc .gtr 97 (0) 98] none)
 (.cond (.t 98) st60_11 .skip))
def sq60_13 : AC := (.reg [oBc .add 92 (1) 105, oMv 105 92] none)
def sp60_14 : AC := (.block 5 (.seq (.reg [oIx 90 92 94, oLd 94 95, oMv 95 15] none)
 sq60_12))
def lb60_15 : AC := (.pre [4, 5, 7, 10, 90, 91, 92] (.seq (.reg [oBn .lss 92 91 93] none)
 (.seq (.cond (.t 93) .skip (.exit 4))
 (.seq sp60_14
 sq60_13))))
def sq60_16 : AC := (.pre [4, 5, 7, 10, 11] (.seq (.reg [oMv 11 90, oLn 90 91, oMc (.int .i64 (0)) 92] none)
 (.block 4 (.loop lb60_15))))
def sp60_17 : AC := (.seq (.reg [oMv 0 58, oLn 58 59, oMc (.int .i64 (0)) 60] none)
 (.block 2 (.loop lb60_10)))
def st60_18 : AC := (.seq (.reg [oMv 8 53, ⟨.inl (.idxA 1), [.t 53, .c (.int .i64 (1))], some 54, none, []⟩, oLd 54 55, oBc .add 55 (1) 56, ⟨.inr (.mkB 1 24 [.nilS]), [.t 56, .t 56], some 57, none, []⟩, oMv 57 11] none)
 (.seq sp60_17
 sq60_16))
def st60_19 : AC := (.reg [⟨.inl (.fldA 0), [.t 10], some 114, none, []⟩, oLd 114 115, oMv 16 116, ⟨.inr (.bldB 1 1 [.nilS] [(0, 1)]), [.t 116], some 117, none, []⟩, ⟨.inr (.appB 1 24), [.t 115, .t 117], some 118, none, []⟩, ⟨.inl (.fldA 0), [.t 10], some 119, none, []⟩, ⟨.inr (.st 1), [.t 119, .t 118], none, none, []⟩] none)
def sq60_20 : AC := (.seq (.reg [oMv 16 111, oLn 111 112, oBc .gtr 112 (0) 113] none)
 (.cond (.t 113) st60_19 .skip))
def sq60_21 : AC := (.reg [oBc .add 107 (1) 120, oMv 120 107] none)
def sp60_22 : AC := (.block 7 (.seq (.reg [oMv 5 109, ⟨.inr (.call false true 84), [.t 109], some 110, none, []⟩, oMv 110 16] none)
 sq60_20))
def lb60_23 : AC := (.pre [4, 5, 10, 106, 107] (.seq (.reg [oBn .lss 107 106 108] none)
 (.seq (.cond (.t 108) .skip (.exit 6))
 (.seq sp60_22
 sq60_21))))
def sq60_24 : AC := (.pre [4, 10] (.seq (.reg [⟨.inl (.ld true 2), [.t 10], some 121, none, []⟩, ⟨.inr (.st 2), [.t 4, .t 121], none, none, []⟩] none)
 .ret))
def sp60_25 : AC := (.seq (.reg [oMv 7 106, oMc (.int .i64 (0)) 107] none)
 (.block 6 (.loop lb60_23)))
def sp60_26 : AC := (.seq (.reg [oMv 7 50, oMv 1 51, oBn .eql 50 51 52] none)
 (.cond (.t 52) st60_18 .skip))
def sq60_27 : AC := (.pre [0, 1, 4, 5, 7, 8] (.seq (.reg [⟨.inl (.bld [.nilS, .nilS] []), [], some 49, none, []⟩, ⟨.inr (.alloc false [.nilS, .nilS]), [], some 10, none, []⟩, ⟨.inr (.st 2), [.t 10, .t 49], none, none, []⟩] none)
 (.seq sp60_26
 (.pre [4, 5, 7, 10] (.seq sp60_25
 sq60_24)))))
def sq60_28 : AC := (.seq (.reg [oMv 5 24, oMv 6 25, oCl 80 [.t 24, .t 25] 26, oMv 26 23, oEx 0 23 27, oEx 1 23 28, oMv 27 8, oMv 28 9] none)
 (.seq (.block 0 (.loop lb60_4))
 sq60_27))
def sq60_29 : AC := (.seq (.reg [oMv 0 19, oLn 19 20, ⟨.inl (.bin .mul), [.c (.int .i64 (2)), .t 20], some 21, none, []⟩, ⟨.inl (.bin .add), [.c (.int .i64 (2)), .t 21], some 22, none, []⟩, oMv 22 6] none)
 (.seq (.reg [oMc (.int .i64 (0)) 7] none)
 sq60_28))
end Go.AM.Tb
