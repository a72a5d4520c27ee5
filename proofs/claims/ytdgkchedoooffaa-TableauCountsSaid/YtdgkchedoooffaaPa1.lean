/- The functions as the abstract machine has them. -/
import Derived.Test.YtdgkchedoooffaaM3
namespace Go.AM.Tb
def sf4_0 : AC := (.seq (.reg [oMv 5 34, oCl 29 [.t 34, .c (.int .i64 (30))] 35, oBc .gtr 35 (30) 36] none)
 (.cond (.t 36) (.reg [oMc (.int .i64 (5)) 11] none) .skip))
def st4_1 : AC := (.seq (.reg [oMv 7 39, oBc .eql 39 (0) 40, oMv 40 41, oMg 8 42 41 true, oMg 11 43 41 true, ⟨.inl (.bin .eql), [.t 42, .t 43], some 44, some (41, true), []⟩, oPk 41 44 false 45, oMv 45 46, oMg 9 47 46 true, ⟨.inl .len, [.t 47], some 48, some (46, true), []⟩, ⟨.inl (.bin .eql), [.t 48, .c (.int .i64 (0))], some 49, some (46, true), []⟩, oPk 46 49 false 50, oMv 50 51, oMg 10 52 51 true, oMg 11 53 51 true, ⟨.inl (.bin .eql), [.t 52, .t 53], some 54, some (51, true), []⟩, oPk 51 54 false 55, oMv 55 56, ⟨.inr (.call true true 23), [], some 57, some (56, true), []⟩, oPk 56 57 false 58, oMv 58 4] none)
 .ret)
def st4_2 : AC := (.seq (.reg [oMv 9 74, oLn 74 75, oBc .eql 75 (0) 76, oMv 76 77, oMg 10 78 77 true, ⟨.inl (.bin .eql), [.t 78, .c (.int .i64 (2))], some 79, some (77, true), []⟩, oPk 77 79 false 80, oMv 80 81, ⟨.inr (.call true true 23), [], some 82, some (81, true), []⟩, oPk 81 82 false 83, oMv 83 4] none)
 .ret)
def sq4_3 : AC := (.seq (.reg [oMv 9 84, oMv 5 85, oMv 1 86, oCl 31 [.t 85, .t 86] 87, oCl 25 [.t 84, .t 87] 88, oMv 88 89, oMg 10 90 89 true, ⟨.inl (.bin .eql), [.t 90, .c (.int .i64 (0))], some 91, some (89, true), []⟩, oPk 89 91 false 92, oMv 92 93, ⟨.inr (.call true true 23), [], some 94, some (93, true), []⟩, oPk 93 94 false 95, oMv 95 4] none)
 .ret)
def sp4_4 : AC := (.seq (.reg [oMv 1 67, oBc .lss 67 (0) 68, oMv 68 69, oMg 1 70 69 false, oMg 7 71 69 false, ⟨.inl (.bin .geq), [.t 70, .t 71], some 72, some (69, false), []⟩, ⟨.inl .pick, [.t 69, .c (.bool true), .t 72], some 73, none, []⟩] none)
 (.cond (.t 73) st4_2 .skip))
def sp4_5 : AC := (.seq (.reg [oMv 7 59, oMv 5 60, oCl 30 [.t 60] 61, oBn .neq 59 61 62, oMv 62 63, oMg 8 64 63 false, ⟨.inl (.bin .neq), [.t 64, .c (.int .i64 (0))], some 65, some (63, false), []⟩, ⟨.inl .pick, [.t 63, .c (.bool true), .t 65], some 66, none, []⟩] none)
 (.cond (.t 66) (.seq (.reg [oMc (.bool false) 4] none)
 .ret) .skip))
def sp4_6 : AC := (.seq (.reg [oMv 11 37, oBc .neq 37 (0) 38] none)
 (.cond (.t 38) st4_1 .skip))
def sp4_7 : AC := (.seq (.reg [oMv 5 31, oCl 28 [.t 31] 32, ⟨.inl (.un .not), [.t 32], some 33, none, []⟩] none)
 (.cond (.t 33) (.reg [oMc (.int .i64 (2)) 11] none) sf4_0))
def sq4_8 : AC := (.seq (.reg [oMc (.int .i64 (0)) 11] none)
 (.seq sp4_7
 (.seq sp4_6
 (.seq sp4_5
 (.seq sp4_4
 sq4_3)))))
def sp4_9 : AC := (.seq (.reg [oMv 6 27, oMv 5 28, oCl 21 [.t 27, .t 28] 29, ⟨.inl (.un .not), [.t 29], some 30, none, []⟩] none)
 (.cond (.t 30) (.seq (.reg [oMc (.bool false) 4] none)
 .ret) .skip))
def sq4_10 : AC := (.seq (.reg [oMv 6 22, oMv 1 23, oCl 27 [.t 22, .t 23] 24, oMv 24 21, oEx 0 21 25, oEx 1 21 26, oMv 25 9, oMv 26 10] none)
 (.seq sp4_9
 sq4_8))
def sq4_11 : AC := (.seq (.reg [oMv 6 17, oCl 26 [.t 17] 18, oMv 18 16, oEx 0 16 19, oEx 1 16 20, oMv 19 7, oMv 20 8] none)
 sq4_10)
def sq4_12 : AC := (.seq (.reg [oMv 0 12, oCl 19 [.t 12] 13, oMv 0 14, oCl 19 [.t 14] 15, oMv 13 5, oMv 15 6] none)
 sq4_11)
def af4 : AFunc := ⟨2,
 (.seq (.reg [oMc (.bool false) 4] none)
 sq4_12),
 [.t 4]⟩
def sq19_0 : AC := (.seq (.reg [oMv 3 4, oMv 0 5, oMv 0 6, oLn 6 7, ⟨.inl .mn, [.t 7, .c (.int .i64 (61))], some 8, none, []⟩, ⟨.inl (.slc 1 false true), [.t 5, .t 8], some 9, none, []⟩, ⟨.inr (.app false 1 8), [.t 4, .t 9], some 10, none, []⟩, oMv 10 2] none)
 .ret)
def af19 : AFunc := ⟨1,
 (.seq (.reg [oMc (.nilS) 2] none)
 (.seq (.reg [oMc (.nilS) 3] none)
 sq19_0)),
 [.t 2]⟩
def st20_0 : AC := (.seq (.reg [oMc (.nilS) 2, oMc (.nilS) 3, oMc (.int .i64 (2)) 4] none)
 .ret)
def sq20_1 : AC := (.seq (.reg [oMv 5 15, oMv 6 16, oMv 15 2, oMv 16 3, oMc (.int .i64 (0)) 4] none)
 .ret)
def sq20_2 : AC := (.seq (.reg [oMv 0 11, oCl 53 [.t 11] 12, oMv 12 10, oEx 0 10 13, oEx 1 10 14, oMv 13 5, oMv 14 6] none)
 sq20_1)
def sp20_3 : AC := (.seq (.reg [oMv 0 7, oCl 52 [.t 7] 8, ⟨.inl (.un .not), [.t 8], some 9, none, []⟩] none)
 (.cond (.t 9) st20_0 .skip))
def af20 : AFunc := ⟨1,
 (.seq (.reg [oMc (.nilS) 2, oMc (.nilS) 3, oMc (.int .i64 (0)) 4] none)
 (.seq sp20_3
 sq20_2)),
 [.t 2, .t 3, .t 4]⟩
def sq21_0 : AC := (.reg [oMv 5 15, oBc .add 15 (1) 16, oMv 16 5] none)
def sp21_1 : AC := (.block 1 (.seq (.reg [oMv 0 17, oMv 5 18, oIx 17 18 19, oLd 19 20, oMv 1 21, oMv 5 22, oIx 21 22 23, oLd 23 24, oBn .neq 20 24 25] (some ([0, 1, 2, 3, 4, 5, 6, 7, 8], [], [0, 0, 3, 7, 0, 0, 48, 112, 255])))
 (.cond (.t 25) (.seq (.reg [oMc (.bool false) 4] none)
 .ret) .skip)))
def sp21_2 : AC := (.seq (.reg [oMv 5 11, oMv 0 12, oLn 12 13, oBn .lss 11 13 14] none)
 (.cond (.t 14) .skip (.exit 0)))
def lb21_3 : AC := (.pre [0, 1, 5] (.seq sp21_2
 (.seq sp21_1
 sq21_0)))
def sq21_4 : AC := (.seq (.seq (.reg [oMc (.int .i64 (0)) 5] none)
 (.block 0 (.loop lb21_3)))
 (.pre [] (.seq (.reg [oMc (.bool true) 4] none)
 .ret)))
def sp21_5 : AC := (.seq (.reg [oMv 0 6, oLn 6 7, oMv 1 8, oLn 8 9, oBn .neq 7 9 10] none)
 (.cond (.t 10) (.seq (.reg [oMc (.bool false) 4] none)
 .ret) .skip))
def af21 : AFunc := ⟨2,
 (.seq (.reg [oMc (.bool false) 4] none)
 (.seq sp21_5
 sq21_4)),
 [.t 4]⟩
def sp23_0 : AC := (.seq (.reg [oMv 3 31, oBc .neq 31 (0) 32, oMv 32 33, oMg 1 34 33 false, ⟨.inr (.bldS true true 1 2 [.int .i64 0] [(0, 1), (1, 1)]), [.c (.int .i64 (1)), .c (.int .i64 (2))], some 35, some (33, false), []⟩, ⟨.inr (.bldS true true 1 1 [.int .i64 0] [(0, 1)]), [.c (.int .i64 (3))], some 36, some (33, false), []⟩, ⟨.inr (.bldS true true 1 2 [.nilS] [(0, 1), (1, 1)]), [.t 35, .t 36], some 37, some (33, false), []⟩, ⟨.inr (.call true true 25), [.t 34, .t 37], some 38, some (33, false), []⟩, ⟨.inl (.un .not), [.t 38], some 39, some (33, false), []⟩, ⟨.inl .pick, [.t 33, .c (.bool true), .t 39], some 40, none, []⟩, oMv 40 41, oMg 2 42 41 false, ⟨.inr (.bldS true true 1 2 [.int .i64 0] [(0, 1), (1, 1)]), [.c (.int .i64 (1)), .c (.int .i64 (3))], some 43, some (41, false), []⟩, ⟨.inr (.bldS true true 1 1 [.int .i64 0] [(0, 1)]), [.c (.int .i64 (2))], some 44, some (41, false), []⟩, ⟨.inr (.bldS true true 1 2 [.nilS] [(0, 1), (1, 1)]), [.t 43, .t 44], some 45, some (41, false), []⟩, ⟨.inr (.call true true 25), [.t 42, .t 45], some 46, some (41, false), []⟩, ⟨.inl (.un .not), [.t 46], some 47, some (41, false), []⟩, ⟨.inl .pick, [.t 41, .c (.bool true), .t 47], some 48, none, []⟩, oMv 48 49, oMg 5 50 49 false, ⟨.inl (.bin .neq), [.t 50, .c (.int .i64 (0))], some 51, some (49, false), []⟩, ⟨.inl .pick, [.t 49, .c (.bool true), .t 51], some 52, none, []⟩, oMv 52 53, oMg 4 54 53 false, ⟨.inl (.bin .neq), [.t 54, .c (.int .i64 (2))], some 55, some (53, false), []⟩, ⟨.inl .pick, [.t 53, .c (.bool true), .t 55], some 56, none, []⟩, oMv 56 57, oMg 7 58 57 false, ⟨.inl (.bin .neq), [.t 58, .c (.int .i64 (0))], some 59, some (57, false), []⟩, ⟨.inl .pick, [.t 57, .c (.bool true), .t 59], some 60, none, []⟩, oMv 60 61, oMg 6 62 61 false, ⟨.inr (.bldS true true 1 2 [.int .i64 0] [(0, 1), (1, 1)]), [.c (.int .i64 (1)), .c (.int .i64 (3))], some 63, some (61, false), []⟩, ⟨.inr (.bldS true true 1 1 [.int .i64 0] [(0, 1)]), [.c (.int .i64 (2))], some 64, some (61, false), []⟩, ⟨.inr (.bldS true true 1 2 [.nilS] [(0, 1), (1, 1)]), [.t 63, .t 64], some 65, some (61, false), []⟩, ⟨.inr (.call true true 25), [.t 62, .t 65], some 66, some (61, false), []⟩, ⟨.inl (.un .not), [.t 66], some 67, some (61, false), []⟩, ⟨.inl .pick, [.t 61, .c (.bool true), .t 67], some 68, none, []⟩, oMv 68 69, oMg 9 70 69 false, ⟨.inl (.bin .neq), [.t 70, .c (.int .i64 (0))], some 71, some (69, false), []⟩, ⟨.inl .pick, [.t 69, .c (.bool true), .t 71], some 72, none, []⟩, oMv 72 73, ⟨.inl (.fldA 0), [.t 8], some 74, some (73, false), []⟩, ⟨.inl (.ld false 1), [.t 74], some 75, some (73, false), []⟩, ⟨.inl .len, [.t 75], some 76, some (73, false), []⟩, ⟨.inl (.bin .neq), [.t 76, .c (.int .i64 (1))], some 77, some (73, false), []⟩, ⟨.inl .pick, [.t 73, .c (.bool true), .t 77], some 78, none, []⟩, oMv 78 79, ⟨.inl (.fldA 0), [.t 8], some 80, some (79, false), []⟩, ⟨.inl (.ld false 1), [.t 80], some 81, some (79, false), []⟩, ⟨.inl (.idxA 1), [.t 81, .c (.int .i64 (0))], some 82, some (79, false), []⟩, ⟨.inl (.ld false 1), [.t 82], some 83, some (79, false), []⟩, ⟨.inl .len, [.t 83], some 84, some (79, false), []⟩, ⟨.inl (.bin .neq), [.t 84, .c (.int .i64 (2))], some 85, some (79, false), []⟩, ⟨.inl .pick, [.t 79, .c (.bool true), .t 85], some 86, none, []⟩] none)
 (.cond (.t 86) (.seq (.reg [oMc (.bool false) 0] none)
 .ret) .skip))
def sq23_1 : AC := (.seq (.reg [⟨.inr (.bldS true true 1 4 [.int .i64 0] [(0, 1), (1, 1), (2, 1), (3, 1)]), [.c (.int .i64 (2)), .c (.int .i64 (1)), .c (.int .i64 (4)), .c (.int .i64 (3))], some 27, none, []⟩, oCl 34 [.t 27, .c (.int .i64 (1))] 28, oMv 28 26, oEx 0 26 29, oEx 1 26 30, ⟨.inr (.alloc false [.nilS, .nilS]), [], some 8, none, []⟩, ⟨.inr (.st 2), [.t 8, .t 29], none, none, []⟩, oMv 30 9] none)
 (.seq sp23_0
 (.seq (.reg [oMc (.bool true) 0] none)
 .ret)))
def sq23_2 : AC := (.seq (.reg [⟨.inr (.bldS true true 1 2 [.int .i64 0] [(0, 1), (1, 1)]), [.c (.int .i64 (2)), .c (.int .i64 (1))], some 22, none, []⟩, oCl 27 [.t 22, .c (.int .i64 (1))] 23, oMv 23 21, oEx 0 21 24, oEx 1 21 25, oMv 24 6, oMv 25 7] none)
 sq23_1)
def sq23_3 : AC := (.seq (.reg [⟨.inr (.bldS true true 1 2 [.int .i64 0] [(0, 1), (1, 1)]), [.c (.int .i64 (2)), .c (.int .i64 (1))], some 17, none, []⟩, oCl 26 [.t 17] 18, oMv 18 16, oEx 0 16 19, oEx 1 16 20, oMv 19 4, oMv 20 5] none)
 sq23_2)
def sq23_4 : AC := (.seq (.reg [⟨.inr (.bldS true true 1 3 [.int .i64 0] [(0, 1), (1, 1), (2, 1)]), [.c (.int .i64 (3)), .c (.int .i64 (1)), .c (.int .i64 (2))], some 11, none, []⟩, oCl 20 [.t 11] 12, oMv 12 10, oEx 0 10 13, oEx 1 10 14, oEx 2 10 15, oMv 13 1, oMv 14 2, oMv 15 3] none)
 sq23_3)
def af23 : AFunc := ⟨0,
 (.seq (.reg [oMc (.bool false) 0] none)
 sq23_4),
 [.t 0]⟩
def sq25_0 : AC := (.reg [oMv 5 15, oBc .add 15 (1) 16, oMv 16 5] none)
def sp25_1 : AC := (.block 1 (.seq (.reg [oMv 0 17, oMv 5 18, oIx 17 18 19, oLd 19 20, oMv 1 21, oMv 5 22, oIx 21 22 23, oLd 23 24, oCl 21 [.t 20, .t 24] 25, ⟨.inl (.un .not), [.t 25], some 26, none, []⟩] (some ([0, 1, 2, 3, 4, 5, 6, 7, 8, 9], [], [0, 0, 3, 7, 0, 0, 48, 112, 255, 511])))
 (.cond (.t 26) (.seq (.reg [oMc (.bool false) 4] none)
 .ret) .skip)))
def sp25_2 : AC := (.seq (.reg [oMv 5 11, oMv 0 12, oLn 12 13, oBn .lss 11 13 14] none)
 (.cond (.t 14) .skip (.exit 0)))
def lb25_3 : AC := (.pre [0, 1, 5] (.seq sp25_2
 (.seq sp25_1
 sq25_0)))
def sq25_4 : AC := (.seq (.seq (.reg [oMc (.int .i64 (0)) 5] none)
 (.block 0 (.loop lb25_3)))
 (.pre [] (.seq (.reg [oMc (.bool true) 4] none)
 .ret)))
def sp25_5 : AC := (.seq (.reg [oMv 0 6, oLn 6 7, oMv 1 8, oLn 8 9, oBn .neq 7 9 10] none)
 (.cond (.t 10) (.seq (.reg [oMc (.bool false) 4] none)
 .ret) .skip))
def af25 : AFunc := ⟨2,
 (.seq (.reg [oMc (.bool false) 4] none)
 (.seq sp25_5
 sq25_4)),
 [.t 4]⟩
def st26_0 : AC := (.seq (.reg [oMv 4 9, oMc (.int .i64 (0)) 2, oMv 9 3] none)
 .ret)
def sq26_1 : AC := (.seq (.reg [oMv 4 7, oBc .neq 7 (0) 8] none)
 (.cond (.t 8) st26_0 .skip))
def sq26_2 : AC := (.seq (.reg [⟨.inr .mkM, [], some 10, none, []⟩, oMv 0 11, ⟨.inr (.call false true 56), [.t 10, .t 11], some 12, none, []⟩, oMv 12 2, oMc (.int .i64 (0)) 3] none)
 .ret)
def sp26_3 : AC := (.seq (.reg [oMv 0 5, oCl 55 [.t 5] 6, oMv 6 4] none)
 sq26_1)
def af26 : AFunc := ⟨1,
 (.seq (.reg [oMc (.int .i64 (0)) 2, oMc (.int .i64 (0)) 3] none)
 (.seq sp26_3
 sq26_2)),
 [.t 2, .t 3]⟩
def st27_0 : AC := (.seq (.reg [oMv 6 20, oMc (.nilS) 4, oMv 20 5] none)
 .ret)
def sq27_1 : AC := (.seq (.reg [oMv 6 18, oBc .neq 18 (0) 19] none)
 (.cond (.t 19) st27_0 .skip))
def st27_2 : AC := (.seq (.reg [oMc (.nilS) 4, oMc (.int .i64 (2)) 5] none)
 .ret)
def sq27_3 : AC := (.reg [oMv 9 46, oMv 11 47, oBn .add 46 47 48, oMv 48 9] none)
def sq27_4 : AC := (.seq (.reg [oMv 8 41, oMv 10 42, oMv 11 43, ⟨.inr (.mkS 1 8 [.int .i64 0]), [.t 43, .t 43], some 44, none, []⟩, oIx 41 42 45, ⟨.inr (.st 1), [.t 45, .t 44], none, none, []⟩] none)
 sq27_3)
def sq27_5 : AC := (.reg [oBc .add 36 (1) 49, oMv 49 36] none)
def sp27_6 : AC := (.block 1 (.seq (.reg [oMv 36 38, oIx 34 36 39, oLd 39 40, oMv 38 10, oMv 40 11] none)
 sq27_4))
def lb27_7 : AC := (.pre [0, 1, 7, 8, 9, 34, 35, 36] (.seq (.reg [oBn .lss 36 35 37] none)
 (.seq (.cond (.t 37) .skip (.exit 0))
 (.seq sp27_6
 sq27_5))))
def st27_8 : AC := (.seq (.reg [oMv 1 75, oMv 15 76, oBn .sub 75 76 77, oMv 77 1] none)
 (.exit 5))
def sq27_9 : AC := (.seq (.reg [oMv 1 72, oMv 15 73, oBn .geq 72 73 74] none)
 (.cond (.t 74) st27_8 .skip))
def sq27_10 : AC := (.seq (.reg [oMv 8 78, oMv 12 79, oIx 78 79 80, oLd 80 81, oMv 0 82, oMv 12 83, oIx 82 83 84, oLd 84 85, oBc .sub 85 (1) 86, oMv 9 87, oIx 81 86 88, ⟨.inr (.st 1), [.t 88, .t 87], none, none, []⟩] (some ([0, 1, 2, 3, 4, 5, 6, 7, 8, 9, 10, 11], [], [0, 0, 3, 7, 0, 0, 48, 112, 240, 0, 1023, 2047])))
 (.seq (.reg [oMv 13 89, oMv 89 0] none)
 (.exit 4)))
def sp27_11 : AC := (.seq (.reg [oMv 7 69, oMv 13 70, ⟨.inr (.call false true 56), [.t 69, .t 70], some 71, none, []⟩, oMv 71 15] none)
 sq27_9)
def sp27_12 : AC := (.seq (.reg [oMv 14 67, ⟨.inl (.un .not), [.t 67], some 68, none, []⟩] none)
 (.cond (.t 68) (.exit 5) .skip))
def sq27_13 : AC := (.reg [oMv 12 59, oBc .sub 59 (1) 60, oMv 60 12] none)
def sp27_14 : AC := (.block 5 (.seq (.reg [oMv 0 62, oMv 12 63, oCl 57 [.t 62, .t 63] 64, oMv 64 61, oEx 0 61 65, oEx 1 61 66, oMv 65 13, oMv 66 14] none)
 (.seq sp27_12
 (.seq sp27_11
 sq27_10))))
def sp27_15 : AC := (.seq (.reg [oMv 12 57, oBc .geq 57 (0) 58] none)
 (.cond (.t 58) .skip (.exit 4)))
def lb27_16 : AC := (.pre [0, 1, 7, 8, 9, 12] (.seq sp27_15
 (.seq sp27_14
 sq27_13)))
def sq27_17 : AC := (.pre [0, 1, 7, 8, 9] (.reg [oMv 9 52, oBc .sub 52 (1) 53, oMv 53 9] none))
def sp27_18 : AC := (.block 3 (.seq (.reg [oMv 0 54, oLn 54 55, oBc .sub 55 (1) 56, oMv 56 12] none)
 (.block 4 (.loop lb27_16))))
def sp27_19 : AC := (.seq (.reg [oMv 9 50, oBc .gtr 50 (0) 51] none)
 (.cond (.t 51) .skip (.exit 2)))
def lb27_20 : AC := (.pre [0, 1, 7, 8, 9] (.seq sp27_19
 (.seq sp27_18
 sq27_17)))
def sq27_21 : AC := (.pre [8] (.seq (.reg [oMv 8 90, oMv 90 4, oMc (.int .i64 (0)) 5] none)
 .ret))
def sp27_22 : AC := (.seq (.reg [oMv 0 34, oLn 34 35, oMc (.int .i64 (0)) 36] none)
 (.block 0 (.loop lb27_7)))
def sq27_23 : AC := (.seq (.reg [oMc (.int .i64 (0)) 9] none)
 (.seq sp27_22
 (.pre [0, 1, 7, 8, 9] (.seq (.block 2 (.loop lb27_20))
 sq27_21))))
def sq27_24 : AC := (.seq (.reg [oMv 0 31, oLn 31 32, ⟨.inr (.mkB 1 24 [.nilS]), [.t 32, .t 32], some 33, none, []⟩, oMv 33 8] none)
 sq27_23)
def sp27_25 : AC := (.seq (.reg [oMv 1 22, oBc .lss 22 (0) 23, oMv 23 24, oMg 1 25 24 false, oMg 7 26 24 false, oMg 0 27 24 false, ⟨.inr (.call false true 56), [.t 26, .t 27], some 28, some (24, false), []⟩, ⟨.inl (.bin .geq), [.t 25, .t 28], some 29, some (24, false), []⟩, ⟨.inl .pick, [.t 24, .c (.bool true), .t 29], some 30, none, []⟩] none)
 (.cond (.t 30) st27_2 .skip))
def sp27_26 : AC := (.seq (.reg [oMv 0 16, oCl 55 [.t 16] 17, oMv 17 6] none)
 sq27_1)
def sq27_27 : AC := (.seq sp27_26
 (.seq (.reg [⟨.inr .mkM, [], some 21, none, []⟩, oMv 21 7] none)
 (.seq sp27_25
 sq27_24)))
def af27 : AFunc := ⟨2,
 (.seq (.reg [oMc (.nilS) 4, oMc (.int .i64 (0)) 5] none)
 sq27_27),
 [.t 4, .t 5]⟩
def sq28_0 : AC := (.reg [oMv 3 8, oBc .add 8 (1) 9, oMv 9 3] none)
def sp28_1 : AC := (.block 1 (.seq (.reg [oMv 0 10, oMv 3 11, oIx 10 11 12, oLd 12 13, oBc .lss 13 (1) 14, oMv 14 15, oMg 3 16 15 false, ⟨.inl (.bin .gtr), [.t 16, .c (.int .i64 (0))], some 17, some (15, false), []⟩, oMg 17 18 15 false, oMg 0 19 18 true, oMg 3 20 18 true, ⟨.inl (.idxA 1), [.t 19, .t 20], some 21, some (18, true), []⟩, ⟨.inl (.ld false 1), [.t 21], some 22, some (18, true), []⟩, oMg 0 23 18 true, oMg 3 24 18 true, ⟨.inl (.bin .sub), [.t 24, .c (.int .i64 (1))], some 25, some (18, true), []⟩, ⟨.inl (.idxA 1), [.t 23, .t 25], some 26, some (18, true), []⟩, ⟨.inl (.ld false 1), [.t 26], some 27, some (18, true), []⟩, ⟨.inl (.bin .gtr), [.t 22, .t 27], some 28, some (18, true), []⟩, ⟨.inl .pick, [.t 18, .t 28, .c (.bool false)], some 29, some (15, false), []⟩, ⟨.inl .pick, [.t 15, .c (.bool true), .t 29], some 30, none, []⟩] (some ([0, 1, 2, 3, 4, 5, 6, 7, 8, 9, 10, 11, 12, 13, 14, 15, 16, 17, 18, 19, 20], [], [0, 0, 3, 7, 15, 31, 63, 127, 255, 511, 511, 2047, 4095, 511, 511, 16895, 57855, 123391, 262143, 524287, 1048575])))
 (.cond (.t 30) (.seq (.reg [oMc (.bool false) 2] none)
 .ret) .skip)))
def sp28_2 : AC := (.seq (.reg [oMv 3 4, oMv 0 5, oLn 5 6, oBn .lss 4 6 7] none)
 (.cond (.t 7) .skip (.exit 0)))
def lb28_3 : AC := (.pre [0, 3] (.seq sp28_2
 (.seq sp28_1
 sq28_0)))
def sq28_4 : AC := (.seq (.seq (.reg [oMc (.int .i64 (0)) 3] none)
 (.block 0 (.loop lb28_3)))
 (.pre [] (.seq (.reg [oMc (.bool true) 2] none)
 .ret)))
def af28 : AFunc := ⟨1,
 (.seq (.reg [oMc (.bool false) 2] none)
 sq28_4),
 [.t 2]⟩
def st29_0 : AC := (.seq (.reg [oMv 1 21, oBc .add 21 (1) 22, oMv 22 4] none)
 .ret)
def sq29_1 : AC := (.reg [oMv 5 23, oMv 0 24, oMv 6 25, oIx 24 25 26, oLd 26 27, oBn .add 23 27 28, oMv 28 5] none)
def sp29_2 : AC := (.seq (.reg [oMv 0 13, oMv 6 14, oIx 13 14 15, oLd 15 16, oMv 1 17, oMv 5 18, oBn .sub 17 18 19, oBn .gtr 16 19 20] none)
 (.cond (.t 20) st29_0 .skip))
def sq29_3 : AC := (.reg [oMv 6 11, oBc .add 11 (1) 12, oMv 12 6] none)
def sp29_4 : AC := (.seq (.reg [oMv 6 7, oMv 0 8, oLn 8 9, oBn .lss 7 9 10] none)
 (.cond (.t 10) .skip (.exit 0)))
def lb29_5 : AC := (.pre [0, 1, 5, 6] (.seq sp29_4
 (.seq (.block 1 (.seq sp29_2
 sq29_1))
 sq29_3)))
def sq29_6 : AC := (.seq (.seq (.reg [oMc (.int .i64 (0)) 6] none)
 (.block 0 (.loop lb29_5)))
 (.pre [5] (.seq (.reg [oMv 5 29, oMv 29 4] none)
 .ret)))
def af29 : AFunc := ⟨2,
 (.seq (.reg [oMc (.int .i64 (0)) 4] none)
 (.seq (.reg [oMc (.int .i64 (0)) 5] none)
 sq29_6)),
 [.t 4]⟩
def sq30_0 : AC := (.reg [oMv 8 44, oBc .add 44 (1) 45, oMv 45 8] none)
def sp30_1 : AC := (.block 5 (.reg [oMv 7 46, oBc .add 46 (1) 47, oMv 47 7] none))
def sp30_2 : AC := (.seq (.reg [oMv 8 32, oMv 0 33, oLn 33 34, oBn .lss 32 34 35, oMv 35 36, oMg 0 37 36 true, oMg 8 38 36 true, ⟨.inl (.idxA 1), [.t 37, .t 38], some 39, some (36, true), []⟩, ⟨.inl (.ld false 1), [.t 39], some 40, some (36, true), []⟩, oMg 6 41 36 true, ⟨.inl (.bin .gtr), [.t 40, .t 41], some 42, some (36, true), []⟩, oPk 36 42 false 43] none)
 (.cond (.t 43) .skip (.exit 4)))
def lb30_3 : AC := (.pre [0, 3, 4, 5, 6, 7, 8] (.seq sp30_2
 (.seq sp30_1
 sq30_0)))
def sq30_4 : AC := (.pre [0, 3, 4, 5, 6, 7] (.reg [oMv 4 48, oMv 0 49, oMv 5 50, oIx 49 50 51, oLd 51 52, oMv 6 53, oBn .sub 52 53 54, oMv 7 55, oBn .add 54 55 56, ⟨.inr (.bldS true true 1 1 [.int .i64 0] [(0, 1)]), [.t 56], some 57, none, []⟩, ⟨.inr (.app false 1 8), [.t 48, .t 57], some 58, none, []⟩, oMv 58 4] none))
def sp30_5 : AC := (.seq (.reg [oMv 5 30, oBc .add 30 (1) 31, oMv 31 8] none)
 (.block 4 (.loop lb30_3)))
def sq30_6 : AC := (.pre [0, 3, 4, 5, 6] (.reg [oMv 6 28, oBc .add 28 (1) 29, oMv 29 6] none))
def sq30_7 : AC := (.seq (.block 3 (.seq (.reg [oMc (.int .i64 (0)) 7] none)
 (.seq sp30_5
 sq30_4)))
 sq30_6)
def sp30_8 : AC := (.seq (.reg [oMv 6 22, oMv 0 23, oMv 5 24, oIx 23 24 25, oLd 25 26, oBn .lss 22 26 27] none)
 (.cond (.t 27) .skip (.exit 2)))
def lb30_9 : AC := (.pre [0, 3, 4, 5, 6] (.seq sp30_8
 sq30_7))
def sq30_10 : AC := (.pre [0, 3, 4, 5] (.reg [oMv 5 20, oBc .add 20 (1) 21, oMv 21 5] none))
def sq30_11 : AC := (.seq (.block 1 (.seq (.reg [oMc (.int .i64 (0)) 6] none)
 (.block 2 (.loop lb30_9))))
 sq30_10)
def sp30_12 : AC := (.seq (.reg [oMv 5 16, oMv 0 17, oLn 17 18, oBn .lss 16 18 19] none)
 (.cond (.t 19) .skip (.exit 0)))
def lb30_13 : AC := (.pre [0, 3, 4, 5] (.seq sp30_12
 sq30_11))
def sq30_14 : AC := (.reg [oMv 4 80, oMv 12 81, oMv 4 82, oMv 12 83, oIx 82 83 84, oLd 84 85, oMv 13 86, oBn .quo 85 86 87, oIx 80 81 88, ⟨.inr (.st 1), [.t 88, .t 87], none, none, []⟩] none)
def sq30_15 : AC := (.seq (.reg [oMv 11 77, oMv 13 78, oBn .quo 77 78 79, oMv 79 11] none)
 sq30_14)
def sq30_16 : AC := (.reg [oMv 12 69, oBc .add 69 (1) 70, oMv 70 12] none)
def sp30_17 : AC := (.block 9 (.seq (.reg [oMv 11 71, oMv 4 72, oMv 12 73, oIx 72 73 74, oLd 74 75, oCl 58 [.t 71, .t 75] 76, oMv 76 13] none)
 sq30_15))
def sp30_18 : AC := (.seq (.reg [oMv 12 65, oMv 4 66, oLn 66 67, oBn .lss 65 67 68] none)
 (.cond (.t 68) .skip (.exit 8)))
def lb30_19 : AC := (.pre [3, 4, 9, 10, 11, 12] (.seq sp30_18
 (.seq sp30_17
 sq30_16)))
def sq30_20 : AC := (.pre [3, 4, 9, 10, 11] (.reg [oMv 9 89, oMv 11 90, oBn .mul 89 90 91, oMv 91 9] none))
def sq30_21 : AC := (.pre [3, 4, 9, 10] (.reg [oMv 10 62, oBc .add 62 (1) 63, oMv 63 10] none))
def sp30_22 : AC := (.block 7 (.seq (.reg [oMv 10 64, oMv 64 11] none)
 (.seq (.seq (.reg [oMc (.int .i64 (0)) 12] none)
 (.block 8 (.loop lb30_19)))
 sq30_20)))
def sp30_23 : AC := (.seq (.reg [oMv 10 59, oMv 3 60, oBn .leq 59 60 61] none)
 (.cond (.t 61) .skip (.exit 6)))
def lb30_24 : AC := (.pre [3, 4, 9, 10] (.seq sp30_23
 (.seq sp30_22
 sq30_21)))
def sq30_25 : AC := (.seq (.seq (.reg [oMc (.int .i64 (2)) 10] none)
 (.block 6 (.loop lb30_24)))
 (.pre [9] (.seq (.reg [oMv 9 92, oMv 92 2] none)
 .ret)))
def sq30_26 : AC := (.seq (.seq (.reg [oMc (.int .i64 (0)) 5] none)
 (.block 0 (.loop lb30_13)))
 (.pre [3, 4] (.seq (.reg [oMc (.int .i64 (1)) 9] none)
 sq30_25)))
def sq30_27 : AC := (.seq (.reg [oMv 0 14, oCl 29 [.t 14, .c (.int .i64 (30))] 15, oMv 15 3] none)
 (.seq (.reg [oMc (.nilS) 4] none)
 sq30_26))
def af30 : AFunc := ⟨1,
 (.seq (.reg [oMc (.int .i64 (0)) 2] none)
 sq30_27),
 [.t 2]⟩
def sq31_0 : AC := (.reg [oMv 6 16, oBc .add 16 (1) 17, oMv 17 6] none)
def sp31_1 : AC := (.block 1 (.reg [oMv 5 18, oMv 0 19, oMv 6 20, oIx 19 20 21, oLd 21 22, ⟨.inr (.mkS 1 8 [.int .i64 0]), [.t 22, .t 22], some 23, none, []⟩, ⟨.inr (.bldB 1 1 [.nilS] [(0, 1)]), [.t 23], some 24, none, []⟩, ⟨.inr (.appB 1 24), [.t 18, .t 24], some 25, none, []⟩, oMv 25 5] none))
def sp31_2 : AC := (.seq (.reg [oMv 6 12, oMv 0 13, oLn 13 14, oBn .lss 12 14 15] none)
 (.cond (.t 15) .skip (.exit 0)))
def lb31_3 : AC := (.pre [0, 1, 5, 6] (.seq sp31_2
 (.seq sp31_1
 sq31_0)))
def st31_4 : AC := (.seq (.reg [oMv 5 52, oMv 8 53, oIx 52 53 54, oLd 54 55, oMv 0 56, oMv 8 57, oIx 56 57 58, oLd 58 59, oBc .sub 59 (1) 60, oMv 7 61, oIx 55 60 62, ⟨.inr (.st 1), [.t 62, .t 61], none, none, []⟩] (some ([0, 1, 2, 3, 4, 5, 6, 7, 8, 9, 10, 11], [], [0, 0, 3, 7, 0, 0, 48, 112, 240, 0, 1023, 2047])))
 (.seq (.reg [oMv 9 63, oMv 63 0] none)
 (.exit 4)))
def sq31_5 : AC := (.reg [oMv 1 64, oMv 11 65, oBn .sub 64 65 66, oMv 66 1] none)
def sp31_6 : AC := (.seq (.reg [oMv 1 49, oMv 11 50, oBn .lss 49 50 51] none)
 (.cond (.t 51) st31_4 .skip))
def sq31_7 : AC := (.seq (.reg [oMv 9 47, oCl 30 [.t 47] 48, oMv 48 11] none)
 (.seq sp31_6
 sq31_5))
def sp31_8 : AC := (.seq (.reg [oMv 10 45, ⟨.inl (.un .not), [.t 45], some 46, none, []⟩] none)
 (.cond (.t 46) (.exit 5) .skip))
def sq31_9 : AC := (.reg [oMv 8 37, oBc .sub 37 (1) 38, oMv 38 8] none)
def sp31_10 : AC := (.block 5 (.seq (.reg [oMv 0 40, oMv 8 41, oCl 59 [.t 40, .t 41] 42, oMv 42 39, oEx 0 39 43, oEx 1 39 44, oMv 43 9, oMv 44 10] none)
 (.seq sp31_8
 sq31_7)))
def sp31_11 : AC := (.seq (.reg [oMv 8 35, oBc .geq 35 (0) 36] none)
 (.cond (.t 36) .skip (.exit 4)))
def lb31_12 : AC := (.pre [0, 1, 5, 7, 8] (.seq sp31_11
 (.seq sp31_10
 sq31_9)))
def sq31_13 : AC := (.pre [0, 1, 5, 7] (.reg [oMv 7 30, oBc .sub 30 (1) 31, oMv 31 7] none))
def sp31_14 : AC := (.block 3 (.seq (.reg [oMv 0 32, oLn 32 33, oBc .sub 33 (1) 34, oMv 34 8] none)
 (.block 4 (.loop lb31_12))))
def sp31_15 : AC := (.seq (.reg [oMv 7 28, oBc .geq 28 (1) 29] none)
 (.cond (.t 29) .skip (.exit 2)))
def lb31_16 : AC := (.pre [0, 1, 5, 7] (.seq sp31_15
 (.seq sp31_14
 sq31_13)))
def sp31_17 : AC := (.seq (.reg [oMv 0 26, oCl 29 [.t 26, .c (.int .i64 (30))] 27, oMv 27 7] none)
 (.block 2 (.loop lb31_16)))
def sq31_18 : AC := (.pre [0, 1, 5] (.seq sp31_17
 (.pre [5] (.seq (.reg [oMv 5 67, oMv 67 4] none)
 .ret))))
def sq31_19 : AC := (.seq (.reg [oMc (.nilS) 5] none)
 (.seq (.seq (.reg [oMc (.int .i64 (0)) 6] none)
 (.block 0 (.loop lb31_3)))
 sq31_18))
def af31 : AFunc := ⟨2,
 (.seq (.reg [oMc (.nilS) 4] none)
 sq31_19),
 [.t 4]⟩
def st34_0 : AC := (.seq (.reg [⟨.inl (.bld [.nilS, .nilS] []), [], some 17, none, []⟩, ⟨.inr (.st 2), [.t 4, .t 17], none, none, []⟩, oMc (.int .i64 (2)) 5] none)
 .ret)
def sq34_1 : AC := (.seq (.reg [oMv 0 18, oMv 1 19, oCl 60 [.t 18, .t 19] 20, ⟨.inr (.st 2), [.t 4, .t 20], none, none, []⟩, oMc (.int .i64 (0)) 5] none)
 .ret)
def sp34_2 : AC := (.seq (.reg [oMv 0 6, oCl 52 [.t 6] 7, ⟨.inl (.un .not), [.t 7], some 8, none, []⟩, oMv 8 9, oMg 1 10 9 false, ⟨.inl (.bin .lss), [.t 10, .c (.int .i64 (1))], some 11, some (9, false), []⟩, ⟨.inl .pick, [.t 9, .c (.bool true), .t 11], some 12, none, []⟩, oMv 12 13, oMg 1 14 13 false, ⟨.inl (.bin .gtr), [.t 14, .c (.int .i64 (60))], some 15, some (13, false), []⟩, ⟨.inl .pick, [.t 13, .c (.bool true), .t 15], some 16, none, []⟩] none)
 (.cond (.t 16) st34_0 .skip))
def af34 : AFunc := ⟨2,
 (.seq (.reg [⟨.inr (.alloc false [.nilS, .nilS]), [], some 4, none, []⟩, oMc (.int .i64 (0)) 5] none)
 (.seq sp34_2
 sq34_1)),
 [.cell 4 true 2, .t 5]⟩
def sq52_0 : AC := (.seq (.reg [oMv 0 3, oLn 3 4, oBc .leq 4 (60) 5, oMv 5 6, oMg 0 7 6 true, ⟨.inr (.call true true 72), [.t 7, .c (.fn 73 [])], some 8, some (6, true), []⟩, ⟨.inl (.un .not), [.t 8], some 9, some (6, true), []⟩, oPk 6 9 false 10, oMv 10 2] none)
 .ret)
def af52 : AFunc := ⟨1,
 (.seq (.reg [oMc (.bool false) 2] none)
 sq52_0),
 [.t 2]⟩
def st53_0 : AC := (.reg [oMv 5 26, ⟨.inr (.bldB 1 1 [.nilS] [(0, 1)]), [.c (.nilS)], some 27, none, []⟩, ⟨.inr (.appB 1 24), [.t 26, .t 27], some 28, none, []⟩, oMv 28 5] none)
def sq53_1 : AC := (.reg [oMv 5 29, oMv 8 30, oMv 5 31, oMv 8 32, oIx 31 32 33, oLd 33 34, oMv 6 35, oBc .add 35 (1) 36, ⟨.inr (.bldS true true 1 1 [.int .i64 0] [(0, 1)]), [.t 36], some 37, none, []⟩, ⟨.inr (.app false 1 8), [.t 34, .t 37], some 38, none, []⟩, oIx 29 30 39, ⟨.inr (.st 1), [.t 39, .t 38], none, none, []⟩] none)
def sp53_2 : AC := (.seq (.reg [oMv 8 22, oMv 5 23, oLn 23 24, oBn .eql 22 24 25] none)
 (.cond (.t 25) st53_0 .skip))
def sq53_3 : AC := (.seq (.reg [oMv 4 17, oMv 7 18, ⟨.inr (.call false true 75), [.t 17, .t 18], some 19, none, []⟩, oMv 19 16, oEx 0 16 20, oEx 1 16 21, oMv 20 4, oMv 21 8] none)
 (.seq sp53_2
 sq53_1))
def sq53_4 : AC := (.reg [oBc .add 11 (1) 40, oMv 40 11] none)
def sp53_5 : AC := (.block 1 (.seq (.reg [oMv 11 13, oIx 9 11 14, oLd 14 15, oMv 13 6, oMv 15 7] none)
 (.seq (.reg [oMc (.int .i64 (0)) 8] none)
 sq53_3)))
def lb53_6 : AC := (.pre [4, 5, 9, 10, 11] (.seq (.reg [oBn .lss 11 10 12] none)
 (.seq (.cond (.t 12) .skip (.exit 0))
 (.seq sp53_5
 sq53_4))))
def sq53_7 : AC := (.pre [4, 5] (.seq (.reg [oMv 4 41, oMv 5 42, oMv 41 2, oMv 42 3] none)
 .ret))
def sp53_8 : AC := (.seq (.reg [oMv 0 9, oLn 9 10, oMc (.int .i64 (0)) 11] none)
 (.block 0 (.loop lb53_6)))
def sq53_9 : AC := (.seq (.reg [oMc (.nilS) 4, oMc (.nilS) 5] none)
 (.seq sp53_8
 sq53_7))
def af53 : AFunc := ⟨1,
 (.seq (.reg [oMc (.nilS) 2, oMc (.nilS) 3] none)
 sq53_9),
 [.t 2, .t 3]⟩
def sq55_0 : AC := (.reg [oMv 3 19, oMv 5 20, oBn .add 19 20 21, oMv 21 3] none)
def sp55_1 : AC := (.seq (.reg [oMv 5 15, oMv 3 16, ⟨.inl (.bin .sub), [.c (.int .i64 (30)), .t 16], some 17, none, []⟩, oBn .gtr 15 17 18] none)
 (.cond (.t 18) (.seq (.reg [oMc (.int .i64 (5)) 2] none)
 .ret) .skip))
def sq55_2 : AC := (.reg [oBc .add 11 (1) 22, oMv 22 11] none)
def sp55_3 : AC := (.block 1 (.seq (.reg [oIx 9 11 13, oLd 13 14, oMv 14 5] none)
 (.seq sp55_1
 sq55_0)))
def lb55_4 : AC := (.pre [3, 9, 10, 11] (.seq (.reg [oBn .lss 11 10 12] none)
 (.seq (.cond (.t 12) .skip (.exit 0))
 (.seq sp55_3
 sq55_2))))
def sp55_5 : AC := (.seq (.reg [oMv 0 9, oLn 9 10, oMc (.int .i64 (0)) 11] none)
 (.block 0 (.loop lb55_4)))
def sq55_6 : AC := (.seq (.reg [oMc (.int .i64 (0)) 3] none)
 (.seq sp55_5
 (.pre [] (.seq (.reg [oMc (.int .i64 (0)) 2] none)
 .ret))))
def sp55_7 : AC := (.seq (.reg [oMv 0 6, oCl 76 [.t 6] 7, ⟨.inl (.un .not), [.t 7], some 8, none, []⟩] none)
 (.cond (.t 8) (.seq (.reg [oMc (.int .i64 (2)) 2] none)
 .ret) .skip))
def af55 : AFunc := ⟨1,
 (.seq (.reg [oMc (.int .i64 (0)) 2] none)
 (.seq sp55_7
 sq55_6)),
 [.t 2]⟩
def sq56_0 : AC := (.cond (.t 23) (.seq (.reg [oMv 6 24, oMv 24 4] none)
 .ret) .skip)
def st56_1 : AC := (.reg [oMv 8 37, oMv 0 38, oMv 10 39, ⟨.inr (.call false true 56), [.t 38, .t 39], some 40, none, []⟩, oBn .add 37 40 41, oMv 41 8] none)
def sq56_2 : AC := (.seq (.reg [oMv 1 31, oMv 9 32, oCl 57 [.t 31, .t 32] 33, oMv 33 30, oEx 0 30 34, oEx 1 30 35, oMv 34 10, oMv 35 11] none)
 (.seq (.reg [oMv 11 36] none)
 (.cond (.t 36) st56_1 .skip)))
def sq56_3 : AC := (.reg [oBc .add 27 (1) 42, oMv 42 27] none)
def sq56_4 : AC := (.seq (.block 1 (.seq (.reg [oMv 27 29, oMv 29 9] none)
 sq56_2))
 sq56_3)
def lb56_5 : AC := (.pre [0, 1, 5, 8, 26, 27] (.seq (.reg [oBn .lss 27 26 28] none)
 (.seq (.cond (.t 28) .skip (.exit 0))
 sq56_4)))
def sq56_6 : AC := (.pre [0, 5, 8] (.seq (.reg [oMv 0 43, ⟨.inl (.ld true 30), [.t 5], some 44, none, []⟩, oMv 8 45, ⟨.inr (.upM [some .i64, some .i64, some .i64, some .i64, some .i64, some .i64, some .i64, some .i64, some .i64, some .i64, some .i64, some .i64, some .i64, some .i64, some .i64, some .i64, some .i64, some .i64, some .i64, some .i64, some .i64, some .i64, some .i64, some .i64, some .i64, some .i64, some .i64, some .i64, some .i64, some .i64]), [.t 43, .t 44, .t 45], none, none, []⟩] none)
 (.seq (.reg [oMv 8 46, oMv 46 4] none)
 .ret)))
def sp56_7 : AC := (.seq (.reg [oMv 1 25, oLn 25 26, oMc (.int .i64 (0)) 27] none)
 (.block 0 (.loop lb56_5)))
def sp56_8 : AC := (.seq (.reg [oMv 0 18, ⟨.inl (.ld true 30), [.t 5], some 19, none, []⟩, ⟨.inr (.lkM [some .i64, some .i64, some .i64, some .i64, some .i64, some .i64, some .i64, some .i64, some .i64, some .i64, some .i64, some .i64, some .i64, some .i64, some .i64, some .i64, some .i64, some .i64, some .i64, some .i64, some .i64, some .i64, some .i64, some .i64, some .i64, some .i64, some .i64, some .i64, some .i64, some .i64] true (.int .i64 0)), [.t 18, .t 19], some 20, none, []⟩, oMv 20 17, oEx 0 17 21, oEx 1 17 22, oMv 21 6, oMv 22 7] none)
 (.seq (.reg [oMv 7 23] none)
 sq56_0))
def sq56_9 : AC := (.seq (.reg [oMv 1 15, oCl 77 [.t 15] 16, ⟨.inr (.alloc true [.int .i64 0, .int .i64 0, .int .i64 0, .int .i64 0, .int .i64 0, .int .i64 0, .int .i64 0, .int .i64 0, .int .i64 0, .int .i64 0, .int .i64 0, .int .i64 0, .int .i64 0, .int .i64 0, .int .i64 0, .int .i64 0, .int .i64 0, .int .i64 0, .int .i64 0, .int .i64 0, .int .i64 0, .int .i64 0, .int .i64 0, .int .i64 0, .int .i64 0, .int .i64 0, .int .i64 0, .int .i64 0, .int .i64 0, .int .i64 0]), [], some 5, none, []⟩, ⟨.inr (.st 30), [.t 5, .t 16], none, none, []⟩] none)
 (.seq sp56_8
 (.seq (.reg [oMc (.int .i64 (0)) 8] none)
 (.seq sp56_7
 sq56_6))))
def sp56_10 : AC := (.seq (.reg [oMv 1 12, oLn 12 13, oBc .eql 13 (0) 14] none)
 (.cond (.t 14) (.seq (.reg [oMc (.int .i64 (1)) 4] none)
 .ret) .skip))
end Go.AM.Tb
