/- The functions as the abstract machine has them. -/
import Derived.Test.YtmegimhfoedcdaaM3
namespace Go.AM.Ch
def st4_0 : AC := (.seq (.reg [oMv 9 49, oBc .eql 49 (0) 50, oMv 50 51, oMg 10 52 51 true, ⟨.inl (.bin .eql), [.t 52, .c (.int .i64 (2))], some 53, some (51, true), []⟩, oPk 51 53 false 54, oMv 54 55, oMg 11 56 55 true, ⟨.inl (.bin .eql), [.t 56, .c (.int .i64 (0))], some 57, some (55, true), []⟩, oPk 55 57 false 58, oMv 58 59, oMg 12 60 59 true, ⟨.inl (.bin .eql), [.t 60, .c (.int .i64 (2))], some 61, some (59, true), []⟩, oPk 59 61 false 62, oMv 62 63, ⟨.inr (.call true true 25), [], some 64, some (63, true), []⟩, oPk 63 64 false 65, oMv 65 4] none)
 .ret)
def st4_1 : AC := (.seq (.reg [oMv 11 78, oBc .eql 78 (0) 79, oMv 79 80, oMg 12 81 80 true, ⟨.inl (.bin .eql), [.t 81, .c (.int .i64 (2))], some 82, some (80, true), []⟩, oPk 80 82 false 83, oMv 83 84, ⟨.inr (.call true true 25), [], some 85, some (84, true), []⟩, oPk 84 85 false 86, oMv 86 4] none)
 .ret)
def st4_2 : AC := (.seq (.reg [oMv 11 90, oBc .eql 90 (0) 91, oMv 91 92, oMg 12 93 92 true, ⟨.inl (.bin .eql), [.t 93, .c (.int .i64 (6))], some 94, some (92, true), []⟩, oPk 92 94 false 95, oMv 95 96, ⟨.inr (.call true true 25), [], some 97, some (96, true), []⟩, oPk 96 97 false 98, oMv 98 4] none)
 .ret)
def sq4_3 : AC := (.seq (.reg [oMv 12 99, oBc .eql 99 (0) 100, oMv 100 101, oMg 5 102 101 true, oMg 6 103 101 true, oMg 11 104 101 true, ⟨.inr (.call true true 33), [.t 102, .t 103, .t 104], some 105, some (101, true), []⟩, oPk 101 105 false 106, oMv 106 107, ⟨.inr (.call true true 25), [], some 108, some (107, true), []⟩, oPk 107 108 false 109, oMv 109 4] none)
 .ret)
def sp4_4 : AC := (.seq (.reg [oMv 6 87, oCl 32 [.t 87] 88, oBc .neq 88 (0) 89] none)
 (.cond (.t 89) st4_2 .skip))
def sp4_5 : AC := (.seq (.reg [oMv 5 74, oMv 6 75, oCl 24 [.t 74, .t 75] 76, ⟨.inl (.un .not), [.t 76], some 77, none, []⟩] none)
 (.cond (.t 77) st4_1 .skip))
def sp4_6 : AC := (.seq (.reg [oMv 9 66, oMv 5 67, oCl 31 [.t 67] 68, oBn .neq 66 68 69, oMv 69 70, oMg 10 71 70 false, ⟨.inl (.bin .neq), [.t 71, .c (.int .i64 (0))], some 72, some (70, false), []⟩, ⟨.inl .pick, [.t 70, .c (.bool true), .t 72], some 73, none, []⟩] none)
 (.cond (.t 73) (.seq (.reg [oMc (.bool false) 4] none)
 .ret) .skip))
def sp4_7 : AC := (.seq (.reg [oMv 5 46, oCl 23 [.t 46] 47, ⟨.inl (.un .not), [.t 47], some 48, none, []⟩] none)
 (.cond (.t 48) st4_0 .skip))
def sp4_8 : AC := (.seq (.reg [oMv 7 36, oMv 5 37, oCl 21 [.t 36, .t 37] 38, ⟨.inl (.un .not), [.t 38], some 39, none, []⟩, oMv 39 40, oMg 8 41 40 false, oMg 6 42 40 false, ⟨.inr (.call true true 22), [.t 41, .t 42], some 43, some (40, false), []⟩, ⟨.inl (.un .not), [.t 43], some 44, some (40, false), []⟩, ⟨.inl .pick, [.t 40, .c (.bool true), .t 44], some 45, none, []⟩] none)
 (.cond (.t 45) (.seq (.reg [oMc (.bool false) 4] none)
 .ret) .skip))
def sq4_9 : AC := (.seq (.reg [oMv 7 31, oMv 8 32, oCl 30 [.t 31, .t 32] 33, oMv 33 30, oEx 0 30 34, oEx 1 30 35, oMv 34 11, oMv 35 12] none)
 (.seq sp4_8
 (.seq sp4_7
 (.seq sp4_6
 (.seq sp4_5
 (.seq sp4_4
 sq4_3))))))
def sp4_10 : AC := (.seq (.reg [oMv 7 26, oMv 5 27, oCl 21 [.t 26, .t 27] 28, ⟨.inl (.un .not), [.t 28], some 29, none, []⟩] none)
 (.cond (.t 29) (.seq (.reg [oMc (.bool false) 4] none)
 .ret) .skip))
def sq4_11 : AC := (.seq (.reg [oMv 7 22, oCl 29 [.t 22] 23, oMv 23 21, oEx 0 21 24, oEx 1 21 25, oMv 24 9, oMv 25 10] none)
 (.seq sp4_10
 sq4_9))
def sq4_12 : AC := (.seq (.reg [oMv 5 17, oCl 18 [.t 17] 18, oMv 6 19, oCl 19 [.t 19] 20, oMv 18 7, oMv 20 8] none)
 sq4_11)
def sq4_13 : AC := (.seq (.reg [oMv 0 13, oCl 18 [.t 13] 14, oMv 1 15, oCl 19 [.t 15] 16, oMv 14 5, oMv 16 6] none)
 sq4_12)
def af4 : AFunc := ⟨2,
 (.seq (.reg [oMc (.bool false) 4] none)
 sq4_13),
 [.t 4]⟩
def sq18_0 : AC := (.reg [oMv 4 13, oBc .add 13 (1) 14, oMv 14 4] none)
def sp18_1 : AC := (.block 1 (.reg [oMv 3 15, oMv 0 16, oMv 4 17, oIx 16 17 18, oLd 18 19, oCl 19 [.t 19] 20, ⟨.inr (.bldS true true 1 1 [.nilS] [(0, 1)]), [.t 20], some 21, none, []⟩, ⟨.inr (.app false 1 24), [.t 15, .t 21], some 22, none, []⟩, oMv 22 3] none))
def sp18_2 : AC := (.seq (.reg [oMv 4 5, oMv 0 6, oLn 6 7, oBn .lss 5 7 8, oMv 8 9, oMg 4 10 9 true, ⟨.inl (.bin .lss), [.t 10, .c (.int .i64 (12))], some 11, some (9, true), []⟩, oPk 9 11 false 12] none)
 (.cond (.t 12) .skip (.exit 0)))
def lb18_3 : AC := (.pre [0, 3, 4] (.seq sp18_2
 (.seq sp18_1
 sq18_0)))
def sq18_4 : AC := (.seq (.seq (.reg [oMc (.int .i64 (0)) 4] none)
 (.block 0 (.loop lb18_3)))
 (.pre [3] (.seq (.reg [oMv 3 23, oMv 23 2] none)
 .ret)))
def af18 : AFunc := ⟨1,
 (.seq (.reg [oMc (.nilS) 2] none)
 (.seq (.reg [oMc (.nilS) 3] none)
 sq18_4)),
 [.t 2]⟩
def sq19_0 : AC := (.seq (.reg [oMv 3 4, oMv 0 5, oMv 0 6, oLn 6 7, ⟨.inl .mn, [.t 7, .c (.int .i64 (12))], some 8, none, []⟩, ⟨.inl (.slc 1 false true), [.t 5, .t 8], some 9, none, []⟩, ⟨.inr (.app false 1 8), [.t 4, .t 9], some 10, none, []⟩, oMv 10 2] none)
 .ret)
def af19 : AFunc := ⟨1,
 (.seq (.reg [oMc (.nilS) 2] none)
 (.seq (.reg [oMc (.nilS) 3] none)
 sq19_0)),
 [.t 2]⟩
def st20_0 : AC := (.seq (.reg [oMc (.nilS) 6, oMc (.nilS) 7, oMc (.int .i64 (2)) 8] none)
 .ret)
def sq20_1 : AC := (.seq (.reg [oMv 9 14, oBc .neq 14 (0) 15, oMv 15 16, oMg 2 17 16 false, oMg 0 18 16 false, ⟨.inl .len, [.t 18], some 19, some (16, false), []⟩, ⟨.inl (.bin .sub), [.t 19, .c (.int .i64 (1))], some 20, some (16, false), []⟩, ⟨.inr (.call true true 53), [.t 17, .c (.int .i64 (0)), .t 20], some 21, some (16, false), []⟩, ⟨.inl (.un .not), [.t 21], some 22, some (16, false), []⟩, ⟨.inl .pick, [.t 16, .c (.bool true), .t 22], some 23, none, []⟩] none)
 (.cond (.t 23) st20_0 .skip))
def sq20_2 : AC := (.seq (.reg [oMv 0 28, oMv 1 29, oMv 10 30, ⟨.inr (.call true false 55), [.t 28, .t 29, .t 30], some 31, none, []⟩, oMv 10 32, oMv 31 6, oMv 32 7, oMc (.int .i64 (0)) 8] none)
 .ret)
def sq20_3 : AC := (.seq (.reg [oMv 0 24, oMv 1 25, oMv 2 26, ⟨.inr (.call true false 54), [.t 24, .t 25, .t 26], some 27, none, []⟩, oMv 27 10] none)
 sq20_2)
def sp20_4 : AC := (.seq (.reg [oMv 0 11, oMv 1 12, oCl 52 [.t 11, .t 12] 13, oMv 13 9] none)
 sq20_1)
def af20 : AFunc := ⟨3,
 (.seq (.reg [oMc (.nilS) 6, oMc (.nilS) 7, oMc (.int .i64 (0)) 8] none)
 (.seq sp20_4
 sq20_3)),
 [.t 6, .t 7, .t 8]⟩
def sq21_0 : AC := (.reg [oMv 5 15, oBc .add 15 (1) 16, oMv 16 5] none)
def sp21_1 : AC := (.block 1 (.seq (.reg [oMv 0 17, oMv 5 18, oIx 17 18 19, oLd 19 20, oMv 1 21, oMv 5 22, oIx 21 22 23, oLd 23 24, oCl 22 [.t 20, .t 24] 25, ⟨.inl (.un .not), [.t 25], some 26, none, []⟩] (some ([0, 1, 2, 3, 4, 5, 6, 7, 8, 9], [], [0, 0, 3, 7, 0, 0, 48, 112, 255, 511])))
 (.cond (.t 26) (.seq (.reg [oMc (.bool false) 4] none)
 .ret) .skip)))
def sp21_2 : AC := (.seq (.reg [oMv 5 11, oMv 0 12, oLn 12 13, oBn .lss 11 13 14] none)
 (.cond (.t 14) .skip (.exit 0)))
def lb21_3 : AC := (.pre [0, 1, 5] (.seq sp21_2
 (.seq sp21_1
 sq21_0)))
def sq21_4 : AC := (.seq (.seq (.reg [oMc (.int .i64 (0)) 5] none)
 (.block 0 (.loop lb21_3)))
 (.pre [] (.seq (.reg [oMc (.bool true) 4] none)
 .ret)))
def sp21_5 : AC := (.seq (.reg [oMv 0 6, oLn 6 7, oMv 1 8, oLn 8 9, oBn .neq 7 9 10] none)
 (.cond (.t 10) (.seq (.reg [oMc (.bool false) 4] none)
 .ret) .skip))
def af21 : AFunc := ⟨2,
 (.seq (.reg [oMc (.bool false) 4] none)
 (.seq sp21_5
 sq21_4)),
 [.t 4]⟩
def sq22_0 : AC := (.reg [oMv 5 15, oBc .add 15 (1) 16, oMv 16 5] none)
def sp22_1 : AC := (.block 1 (.seq (.reg [oMv 0 17, oMv 5 18, oIx 17 18 19, oLd 19 20, oMv 1 21, oMv 5 22, oIx 21 22 23, oLd 23 24, oBn .neq 20 24 25] (some ([0, 1, 2, 3, 4, 5, 6, 7, 8], [], [0, 0, 3, 7, 0, 0, 48, 112, 255])))
 (.cond (.t 25) (.seq (.reg [oMc (.bool false) 4] none)
 .ret) .skip)))
def sp22_2 : AC := (.seq (.reg [oMv 5 11, oMv 0 12, oLn 12 13, oBn .lss 11 13 14] none)
 (.cond (.t 14) .skip (.exit 0)))
def lb22_3 : AC := (.pre [0, 1, 5] (.seq sp22_2
 (.seq sp22_1
 sq22_0)))
def sq22_4 : AC := (.seq (.seq (.reg [oMc (.int .i64 (0)) 5] none)
 (.block 0 (.loop lb22_3)))
 (.pre [] (.seq (.reg [oMc (.bool true) 4] none)
 .ret)))
def sp22_5 : AC := (.seq (.reg [oMv 0 6, oLn 6 7, oMv 1 8, oLn 8 9, oBn .neq 7 9 10] none)
 (.cond (.t 10) (.seq (.reg [oMc (.bool false) 4] none)
 .ret) .skip))
def af22 : AFunc := ⟨2,
 (.seq (.reg [oMc (.bool false) 4] none)
 (.seq sp22_5
 sq22_4)),
 [.t 4]⟩
def sq23_0 : AC := (.reg [oMv 4 22, oBc .add 22 (1) 23, oMv 23 4] none)
def sp23_1 : AC := (.block 1 (.seq (.reg [oMv 0 24, oMv 4 25, oIx 24 25 26, oLd 26 27, oLn 27 28, oMv 3 29, oBn .neq 28 29 30] none)
 (.cond (.t 30) (.seq (.reg [oMc (.bool false) 2] none)
 .ret) .skip)))
def sp23_2 : AC := (.seq (.reg [oMv 4 19, oMv 3 20, oBn .lss 19 20 21] none)
 (.cond (.t 21) .skip (.exit 0)))
def lb23_3 : AC := (.pre [0, 3, 4] (.seq sp23_2
 (.seq sp23_1
 sq23_0)))
def sq23_4 : AC := (.reg [oMv 6 39, oBc .add 39 (1) 40, oMv 40 6] none)
def sp23_5 : AC := (.block 5 (.seq (.reg [oMv 0 41, oMv 5 42, oIx 41 42 43, oLd 43 44, oMv 6 45, oIx 44 45 46, oLd 46 47, oBc .lss 47 (0) 48, oMv 48 49, oMg 0 50 49 false, oMg 5 51 49 false, ⟨.inl (.idxA 1), [.t 50, .t 51], some 52, some (49, false), []⟩, ⟨.inl (.ld false 1), [.t 52], some 53, some (49, false), []⟩, oMg 6 54 49 false, ⟨.inl (.idxA 1), [.t 53, .t 54], some 55, some (49, false), []⟩, ⟨.inl (.ld false 1), [.t 55], some 56, some (49, false), []⟩, ⟨.inl (.bin .gtr), [.t 56, .c (.int .i64 (3))], some 57, some (49, false), []⟩, ⟨.inl .pick, [.t 49, .c (.bool true), .t 57], some 58, none, []⟩, oMv 58 59, oMg 0 60 59 false, oMg 5 61 59 false, ⟨.inl (.idxA 1), [.t 60, .t 61], some 62, some (59, false), []⟩, ⟨.inl (.ld false 1), [.t 62], some 63, some (59, false), []⟩, oMg 6 64 59 false, ⟨.inl (.idxA 1), [.t 63, .t 64], some 65, some (59, false), []⟩, ⟨.inl (.ld false 1), [.t 65], some 66, some (59, false), []⟩, oMg 0 67 59 false, oMg 6 68 59 false, ⟨.inl (.idxA 1), [.t 67, .t 68], some 69, some (59, false), []⟩, ⟨.inl (.ld false 1), [.t 69], some 70, some (59, false), []⟩, oMg 5 71 59 false, ⟨.inl (.idxA 1), [.t 70, .t 71], some 72, some (59, false), []⟩, ⟨.inl (.ld false 1), [.t 72], some 73, some (59, false), []⟩, ⟨.inl (.bin .neq), [.t 66, .t 73], some 74, some (59, false), []⟩, ⟨.inl .pick, [.t 59, .c (.bool true), .t 74], some 75, none, []⟩, oMv 75 76, oMg 5 77 76 false, oMg 6 78 76 false, ⟨.inl (.bin .eql), [.t 77, .t 78], some 79, some (76, false), []⟩, oMg 79 80 76 false, oMg 0 81 80 true, oMg 5 82 80 true, ⟨.inl (.idxA 1), [.t 81, .t 82], some 83, some (80, true), []⟩, ⟨.inl (.ld false 1), [.t 83], some 84, some (80, true), []⟩, oMg 6 85 80 true, ⟨.inl (.idxA 1), [.t 84, .t 85], some 86, some (80, true), []⟩, ⟨.inl (.ld false 1), [.t 86], some 87, some (80, true), []⟩, ⟨.inl (.bin .neq), [.t 87, .c (.int .i64 (0))], some 88, some (80, true), []⟩, ⟨.inl .pick, [.t 80, .t 88, .c (.bool false)], some 89, some (76, false), []⟩, ⟨.inl .pick, [.t 76, .c (.bool true), .t 89], some 90, none, []⟩] (some ([0, 1, 2, 3, 4, 5, 6, 7, 8, 9, 10, 11, 12, 13, 14, 15, 16, 17, 18, 19, 20, 21, 22, 23, 24, 25, 26, 27, 28, 29, 30, 31, 32, 33, 34, 35, 36, 37, 38, 39, 40, 41, 42, 43, 44, 45, 46, 47, 48, 49], [], [0, 0, 3, 7, 0, 31, 63, 127, 255, 511, 511, 2047, 4095, 511, 16383, 32767, 65535, 131071, 262143, 524287, 524287, 2097151, 4194303, 524287, 16777215, 33554431, 524287, 524287, 201850879, 470286335, 524287, 2080899071, 4228382719, 8589934591, 17179869183, 34359738367, 68719476735, 68719476735, 274877906943, 549755813887, 1099511627775, 1099511627775, 4398046511103, 8796093022207, 1099511627775, 35184372088831, 70368744177663, 140737488355327, 281474976710655, 562949953421311])))
 (.cond (.t 90) (.seq (.reg [oMc (.bool false) 2] none)
 .ret) .skip)))
def sp23_6 : AC := (.seq (.reg [oMv 6 36, oMv 3 37, oBn .lss 36 37 38] none)
 (.cond (.t 38) .skip (.exit 4)))
def lb23_7 : AC := (.pre [0, 3, 5, 6] (.seq sp23_6
 (.seq sp23_5
 sq23_4)))
def sq23_8 : AC := (.pre [0, 3, 5] (.reg [oMv 5 34, oBc .add 34 (1) 35, oMv 35 5] none))
def sq23_9 : AC := (.seq (.block 3 (.seq (.reg [oMc (.int .i64 (0)) 6] none)
 (.block 4 (.loop lb23_7))))
 sq23_8)
def sp23_10 : AC := (.seq (.reg [oMv 5 31, oMv 3 32, oBn .lss 31 32 33] none)
 (.cond (.t 33) .skip (.exit 2)))
def lb23_11 : AC := (.pre [0, 3, 5] (.seq sp23_10
 sq23_9))
def sq23_12 : AC := (.reg [oMv 8 128, oMv 10 129, ⟨.inr (.bldS true true 1 1 [.int .i64 0] [(0, 1)]), [.t 129], some 130, none, []⟩, ⟨.inr (.app false 1 8), [.t 128, .t 130], some 131, none, []⟩, oMv 131 8] none)
def st23_13 : AC := (.seq (.reg [oMv 7 125, oMv 10 126, oIx 125 126 127, ⟨.inr (.st 1), [.t 127, .c (.bool true)], none, none, []⟩] none)
 sq23_12)
def sq23_14 : AC := (.reg [oMv 10 105, oBc .add 105 (1) 106, oMv 106 10] none)
def sp23_15 : AC := (.block 9 (.seq (.reg [oMv 0 107, oMv 8 108, oMv 9 109, oIx 108 109 110, oLd 110 111, oIx 107 111 112, oLd 112 113, oMv 10 114, oIx 113 114 115, oLd 115 116, oBc .gtr 116 (0) 117, oMv 117 118, oMg 7 119 118 true, oMg 10 120 118 true, ⟨.inl (.idxA 1), [.t 119, .t 120], some 121, some (118, true), []⟩, ⟨.inl (.ld false 1), [.t 121], some 122, some (118, true), []⟩, ⟨.inl (.un .not), [.t 122], some 123, some (118, true), []⟩, oPk 118 123 false 124] none)
 (.cond (.t 124) st23_13 .skip)))
def sp23_16 : AC := (.seq (.reg [oMv 10 102, oMv 3 103, oBn .lss 102 103 104] none)
 (.cond (.t 104) .skip (.exit 8)))
def lb23_17 : AC := (.pre [0, 3, 7, 8, 9, 10] (.seq sp23_16
 (.seq sp23_15
 sq23_14)))
def sq23_18 : AC := (.pre [0, 3, 7, 8, 9] (.reg [oMv 9 100, oBc .add 100 (1) 101, oMv 101 9] none))
def sq23_19 : AC := (.seq (.block 7 (.seq (.reg [oMc (.int .i64 (0)) 10] none)
 (.block 8 (.loop lb23_17))))
 sq23_18)
def sp23_20 : AC := (.seq (.reg [oMv 9 96, oMv 8 97, oLn 97 98, oBn .lss 96 98 99] none)
 (.cond (.t 99) .skip (.exit 6)))
def lb23_21 : AC := (.pre [0, 3, 7, 8, 9] (.seq sp23_20
 sq23_19))
def sq23_22 : AC := (.pre [3, 8] (.seq (.reg [oMv 8 132, oLn 132 133, oMv 3 134, oBn .eql 133 134 135, oMv 135 2] none)
 .ret))
def sq23_23 : AC := (.seq (.reg [⟨.inr (.bldS true false 1 1 [.int .i64 0] [(0, 1)]), [.c (.int .i64 (0))], some 95, none, []⟩, oMv 95 8] none)
 (.seq (.seq (.reg [oMc (.int .i64 (0)) 9] none)
 (.block 6 (.loop lb23_21)))
 sq23_22))
def sq23_24 : AC := (.seq (.reg [oMv 7 93, ⟨.inl (.idxA 1), [.t 93, .c (.int .i64 (0))], some 94, none, []⟩, ⟨.inr (.st 1), [.t 94, .c (.bool true)], none, none, []⟩] none)
 sq23_23)
def sq23_25 : AC := (.pre [0, 3] (.seq (.reg [oMv 3 91, ⟨.inr (.mkS 1 1 [.bool false]), [.t 91, .t 91], some 92, none, []⟩, oMv 92 7] none)
 sq23_24))
def sq23_26 : AC := (.pre [0, 3] (.seq (.seq (.reg [oMc (.int .i64 (0)) 5] none)
 (.block 2 (.loop lb23_11)))
 sq23_25))
def sp23_27 : AC := (.seq (.reg [oMv 3 13, oBc .lss 13 (1) 14, oMv 14 15, oMg 3 16 15 false, ⟨.inl (.bin .gtr), [.t 16, .c (.int .i64 (10))], some 17, some (15, false), []⟩, ⟨.inl .pick, [.t 15, .c (.bool true), .t 17], some 18, none, []⟩] none)
 (.cond (.t 18) (.seq (.reg [oMc (.bool false) 2] none)
 .ret) .skip))
def sq23_28 : AC := (.seq sp23_27
 (.seq (.seq (.reg [oMc (.int .i64 (0)) 4] none)
 (.block 0 (.loop lb23_3)))
 sq23_26))
def sq23_29 : AC := (.seq (.reg [oMv 0 11, oLn 11 12, oMv 12 3] none)
 sq23_28)
def af23 : AFunc := ⟨1,
 (.seq (.reg [oMc (.bool false) 2] none)
 sq23_29),
 [.t 2]⟩
def sq24_0 : AC := (.seq (.reg [oMv 0 5, oMv 1 6, oCl 56 [.t 5, .t 6, .c (.int .i64 (1048576))] 7, oMv 7 4] none)
 .ret)
def af24 : AFunc := ⟨2,
 (.seq (.reg [oMc (.bool false) 4] none)
 sq24_0),
 [.t 4]⟩
def sq25_0 : AC := (.seq (.cond (.c (.bool false)) (.seq (.reg [oMc (.bool false) 0] none)
 .ret) .skip)
 (.seq (.reg [oMc (.bool true) 0] none)
 .ret))
def sp25_1 : AC := (.seq (.reg [oMv 4 51, oBc .neq 51 (0) 52, oMv 52 53, ⟨.inl (.fldA 0), [.t 3], some 54, some (53, false), []⟩, ⟨.inl (.ld false 1), [.t 54], some 55, some (53, false), []⟩, ⟨.inl .pick, [.t 53, .c (.bool true), .t 55], some 56, none, []⟩, oMv 56 57, oMg 6 58 57 false, ⟨.inl (.bin .neq), [.t 58, .c (.int .i64 (0))], some 59, some (57, false), []⟩, ⟨.inl .pick, [.t 57, .c (.bool true), .t 59], some 60, none, []⟩, oMv 60 61, oMg 5 62 61 false, ⟨.inl (.bin .neq), [.t 62, .c (.int .i64 (2))], some 63, some (61, false), []⟩, ⟨.inl .pick, [.t 61, .c (.bool true), .t 63], some 64, none, []⟩, oMv 64 65, oMg 9 66 65 false, ⟨.inl (.bin .neq), [.t 66, .c (.int .i64 (0))], some 67, some (65, false), []⟩, ⟨.inl .pick, [.t 65, .c (.bool true), .t 67], some 68, none, []⟩, oMv 68 69, oMg 7 70 69 false, ⟨.inr (.bldS true true 1 3 [.int .i64 0] [(0, 1), (1, 1), (2, 1)]), [.c (.int .i64 (2)), .c (.int .i64 (1)), .c (.int .i64 (0))], some 71, some (69, false), []⟩, ⟨.inr (.call true true 22), [.t 70, .t 71], some 72, some (69, false), []⟩, ⟨.inl (.un .not), [.t 72], some 73, some (69, false), []⟩, ⟨.inl .pick, [.t 69, .c (.bool true), .t 73], some 74, none, []⟩, oMv 74 75, oMg 11 76 75 false, ⟨.inl (.bin .neq), [.t 76, .c (.int .i64 (0))], some 77, some (75, false), []⟩, ⟨.inl .pick, [.t 75, .c (.bool true), .t 77], some 78, none, []⟩, oMv 78 79, oMg 10 80 79 false, ⟨.inl (.bin .neq), [.t 80, .c (.int .i64 (1))], some 81, some (79, false), []⟩, ⟨.inl .pick, [.t 79, .c (.bool true), .t 81], some 82, none, []⟩, oMv 82 83, oMg 13 84 83 false, ⟨.inl (.bin .neq), [.t 84, .c (.int .i64 (0))], some 85, some (83, false), []⟩, ⟨.inl .pick, [.t 83, .c (.bool true), .t 85], some 86, none, []⟩, oMv 86 87, oMg 12 88 87 false, ⟨.inl (.bin .neq), [.t 88, .c (.int .i64 (3))], some 89, some (87, false), []⟩, ⟨.inl .pick, [.t 87, .c (.bool true), .t 89], some 90, none, []⟩] none)
 (.cond (.t 90) (.seq (.reg [oMc (.bool false) 0] none)
 .ret) .skip))
def sq25_2 : AC := (.seq (.reg [oMv 2 47, oCl 29 [.t 47] 48, oMv 48 46, oEx 0 46 49, oEx 1 46 50, oMv 49 12, oMv 50 13] none)
 (.seq sp25_1
 sq25_0))
def sq25_3 : AC := (.seq (.reg [oMv 2 41, ⟨.inr (.bldS true true 1 3 [.int .i64 0] [(0, 1), (1, 1), (2, 1)]), [.c (.int .i64 (2)), .c (.int .i64 (0)), .c (.int .i64 (0))], some 42, none, []⟩, oCl 40 [.t 41, .t 42] 43, oMv 43 40, oEx 0 40 44, oEx 1 40 45, oMv 44 10, oMv 45 11] none)
 sq25_2)
def sq25_4 : AC := (.seq (.reg [oMv 2 34, ⟨.inr (.bldS true true 1 3 [.int .i64 0] [(0, 1), (1, 1), (2, 1)]), [.c (.int .i64 (0)), .c (.int .i64 (2)), .c (.int .i64 (1))], some 35, none, []⟩, oCl 20 [.t 34, .t 35, .c (.int .i64 (0))] 36, oMv 36 33, oEx 0 33 37, oEx 1 33 38, oEx 2 33 39, oMv 37 7, oMv 38 8, oMv 39 9] none)
 sq25_3)
def sq25_5 : AC := (.seq (.reg [oMv 1 28, ⟨.inr (.bldS true true 1 2 [.int .i64 0] [(0, 1), (1, 1)]), [.c (.int .i64 (1)), .c (.int .i64 (-1))], some 29, none, []⟩, oCl 30 [.t 28, .t 29] 30, oMv 30 27, oEx 0 27 31, oEx 1 27 32, oMv 31 5, oMv 32 6] none)
 sq25_4)
def sq25_6 : AC := (.seq (.reg [oMv 1 22, ⟨.inr (.bldS true true 1 2 [.int .i64 0] [(0, 1), (1, 1)]), [.c (.int .i64 (1)), .c (.int .i64 (-1))], some 23, none, []⟩, oCl 39 [.t 22, .t 23] 24, oMv 24 21, oEx 0 21 25, oEx 1 21 26, ⟨.inr (.alloc false [.bool false, .nilS, .nilS]), [], some 3, none, []⟩, ⟨.inr (.st 3), [.t 3, .t 25], none, none, []⟩, oMv 26 4] none)
 sq25_5)
def sq25_7 : AC := (.seq (.reg [⟨.inr (.bldS true true 1 3 [.int .i64 0] [(0, 1), (1, 1), (2, 1)]), [.c (.int .i64 (0)), .c (.int .i64 (1)), .c (.int .i64 (1))], some 17, none, []⟩, ⟨.inr (.bldS true true 1 3 [.int .i64 0] [(0, 1), (1, 1), (2, 1)]), [.c (.int .i64 (1)), .c (.int .i64 (0)), .c (.int .i64 (1))], some 18, none, []⟩, ⟨.inr (.bldS true true 1 3 [.int .i64 0] [(0, 1), (1, 1), (2, 1)]), [.c (.int .i64 (1)), .c (.int .i64 (1)), .c (.int .i64 (0))], some 19, none, []⟩, ⟨.inr (.bldS true true 1 3 [.nilS] [(0, 1), (1, 1), (2, 1)]), [.t 17, .t 18, .t 19], some 20, none, []⟩, oMv 20 2] none)
 sq25_6)
def sq25_8 : AC := (.seq (.reg [⟨.inr (.bldS true true 1 2 [.int .i64 0] [(0, 1), (1, 1)]), [.c (.int .i64 (0)), .c (.int .i64 (2))], some 14, none, []⟩, ⟨.inr (.bldS true true 1 2 [.int .i64 0] [(0, 1), (1, 1)]), [.c (.int .i64 (2)), .c (.int .i64 (0))], some 15, none, []⟩, ⟨.inr (.bldS true true 1 2 [.nilS] [(0, 1), (1, 1)]), [.t 14, .t 15], some 16, none, []⟩, oMv 16 1] none)
 sq25_7)
def af25 : AFunc := ⟨0,
 (.seq (.reg [oMc (.bool false) 0] none)
 sq25_8),
 [.t 0]⟩
def sq26_0 : AC := (.reg [oMv 10 34, oBc .add 34 (1) 35, oMv 35 10] none)
def sp26_1 : AC := (.block 3 (.reg [oMv 9 36, oMv 2 37, oMv 10 38, oIx 37 38 39, oLd 39 40, oMv 0 41, oMv 8 42, oIx 41 42 43, oLd 43 44, oMv 10 45, oIx 44 45 46, oLd 46 47, oBn .mul 40 47 48, oBn .add 36 48 49, oMv 49 9] (some ([0, 1, 2, 3, 4, 5, 6, 7, 8, 9, 10, 11, 12, 13, 14], [], [0, 0, 0, 6, 14, 0, 0, 96, 224, 0, 992, 2016, 4094, 8191, 16383]))))
def sp26_2 : AC := (.seq (.reg [oMv 10 30, oMv 0 31, oLn 31 32, oBn .lss 30 32 33] none)
 (.cond (.t 33) .skip (.exit 2)))
def lb26_3 : AC := (.pre [0, 1, 2, 7, 8, 9, 10] (.seq sp26_2
 (.seq sp26_1
 sq26_0)))
def sq26_4 : AC := (.pre [0, 1, 2, 7, 8, 9] (.reg [oMv 7 50, oMv 9 51, ⟨.inr (.bldS true true 1 1 [.int .i64 0] [(0, 1)]), [.t 51], some 52, none, []⟩, ⟨.inr (.app false 1 8), [.t 50, .t 52], some 53, none, []⟩, oMv 53 7] none))
def sq26_5 : AC := (.pre [0, 1, 2, 7, 8] (.reg [oMv 8 15, oBc .add 15 (1) 16, oMv 16 8] none))
def sp26_6 : AC := (.block 1 (.seq (.reg [oMv 0 25, oMv 8 26, oCl 35 [.t 25, .t 26] 27, oMv 1 17, oMv 8 18, oIx 17 18 19, oLd 19 20, oMv 2 21, oMv 8 22, oIx 21 22 23, oLd 23 24, oBn .mul 24 27 28, oBn .sub 20 28 29, oMv 29 9] (some ([8, 9, 10, 0, 1, 2, 3, 4, 5, 6, 7, 11, 12, 13], [], [0, 0, 3, 7, 0, 0, 48, 112, 0, 0, 768, 2032, 4095, 8191])))
 (.seq (.seq (.reg [oMc (.int .i64 (0)) 10] none)
 (.block 2 (.loop lb26_3)))
 sq26_4)))
def sp26_7 : AC := (.seq (.reg [oMv 8 11, oMv 0 12, oLn 12 13, oBn .lss 11 13 14] none)
 (.cond (.t 14) .skip (.exit 0)))
def lb26_8 : AC := (.pre [0, 1, 2, 7, 8] (.seq sp26_7
 (.seq sp26_6
 sq26_5)))
def sq26_9 : AC := (.seq (.seq (.reg [oMc (.int .i64 (0)) 8] none)
 (.block 0 (.loop lb26_8)))
 (.pre [7] (.seq (.reg [oMv 7 54, oMv 54 6] none)
 .ret)))
def af26 : AFunc := ⟨3,
 (.seq (.reg [oMc (.nilS) 6] none)
 (.seq (.reg [oMc (.nilS) 7] none)
 sq26_9)),
 [.t 6]⟩
def st28_0 : AC := (.reg [oMv 11 43, ⟨.inl (.un .neg), [.t 43], some 44, none, []⟩, oMv 44 11] none)
def sq28_1 : AC := (.reg [oMv 9 45, oMv 11 46, ⟨.inr (.bldS true true 1 1 [.int .i64 0] [(0, 1)]), [.t 46], some 47, none, []⟩, ⟨.inr (.app false 1 8), [.t 45, .t 47], some 48, none, []⟩, oMv 48 9] none)
def sp28_2 : AC := (.seq (.reg [oMv 1 38, oMv 10 39, oIx 38 39 40, oLd 40 41, oBc .lss 41 (0) 42] none)
 (.cond (.t 42) st28_0 .skip))
def sq28_3 : AC := (.reg [oMv 10 23, oBc .add 23 (1) 24, oMv 24 10] none)
def sp28_4 : AC := (.block 3 (.seq (.reg [oMv 1 25, oMv 10 26, oIx 25 26 27, oLd 27 28, oMv 1 29, oMv 10 30, oIx 29 30 31, oLd 31 32, ⟨.inl (.un .neg), [.t 32], some 33, none, []⟩, ⟨.inl .mx, [.t 28, .t 33], some 34, none, []⟩, oMv 8 35, oBn .shr 34 35 36, oBc .rem 36 (2) 37, oMv 37 11] (some ([0, 1, 2, 3, 4, 5, 6, 7, 8, 9, 10, 11, 12, 13], [], [0, 0, 3, 7, 0, 0, 48, 112, 240, 511, 0, 2047, 4095, 8191])))
 (.seq sp28_2
 sq28_1)))
def sp28_5 : AC := (.seq (.reg [oMv 10 19, oMv 1 20, oLn 20 21, oBn .lss 19 21 22] none)
 (.cond (.t 22) .skip (.exit 2)))
def lb28_6 : AC := (.pre [0, 1, 2, 7, 8, 9, 10] (.seq sp28_5
 (.seq sp28_4
 sq28_3)))
def sq28_7 : AC := (.pre [0, 1, 2, 7, 8, 9] (.reg [oMv 0 49, oMv 7 50, oMv 9 51, oCl 59 [.t 50, .t 51, .c (.int .i64 (1))] 52, oMv 2 53, oCl 58 [.t 49, .t 52, .t 53] 54, oMv 54 7] none))
def sq28_8 : AC := (.pre [0, 1, 2, 7, 8] (.reg [oMv 8 17, oBc .sub 17 (1) 18, oMv 18 8] none))
def sp28_9 : AC := (.block 1 (.seq (.reg [oMc (.nilS) 9] none)
 (.seq (.seq (.reg [oMc (.int .i64 (0)) 10] none)
 (.block 2 (.loop lb28_6)))
 sq28_7)))
def sp28_10 : AC := (.seq (.reg [oMv 8 15, oBc .geq 15 (0) 16] none)
 (.cond (.t 16) .skip (.exit 0)))
def lb28_11 : AC := (.pre [0, 1, 2, 7, 8] (.seq sp28_10
 (.seq sp28_9
 sq28_8)))
def sq28_12 : AC := (.seq (.seq (.reg [oMc (.int .i64 (40)) 8] none)
 (.block 0 (.loop lb28_11)))
 (.pre [7] (.seq (.reg [oMv 7 55, oMv 55 6] none)
 .ret)))
def sq28_13 : AC := (.seq (.reg [oMv 0 12, oLn 12 13, ⟨.inr (.mkS 1 8 [.int .i64 0]), [.t 13, .t 13], some 14, none, []⟩, oMv 14 7] none)
 sq28_12)
def af28 : AFunc := ⟨3,
 (.seq (.reg [oMc (.nilS) 6] none)
 sq28_13),
 [.t 6]⟩
def st29_0 : AC := (.seq (.reg [oMc (.int .i64 (0)) 2, oMc (.int .i64 (2)) 3] none)
 .ret)
def sq29_1 : AC := (.reg [oMv 5 21, oMv 0 22, oMv 7 23, oCl 61 [.t 22, .t 23] 24, ⟨.inr (.bldS true true 1 1 [.int .i64 0] [(0, 1)]), [.t 24], some 25, none, []⟩, ⟨.inr (.app false 1 8), [.t 21, .t 25], some 26, none, []⟩, oMv 26 5] none)
def sq29_2 : AC := (.reg [oBc .add 17 (1) 27, oMv 27 17] none)
def sp29_3 : AC := (.block 1 (.seq (.reg [oIx 15 17 19, oLd 19 20, oMv 20 7] none)
 sq29_1))
def lb29_4 : AC := (.pre [0, 4, 5, 15, 16, 17] (.seq (.reg [oBn .lss 17 16 18] none)
 (.seq (.cond (.t 18) .skip (.exit 0))
 (.seq sp29_3
 sq29_2))))
def sq29_5 : AC := (.seq (.reg [oMv 8 35, oMv 35 2, oMc (.int .i64 (0)) 3] none)
 .ret)
def sq29_6 : AC := (.pre [4, 5] (.seq (.reg [oMv 5 29, oMv 4 30, oCl 62 [.t 29, .t 30] 31, oMv 31 28, oEx 0 28 32, oEx 1 28 33, oEx 2 28 34, oMv 32 8, oMv 33 9, oMv 34 10] none)
 sq29_5))
def sp29_7 : AC := (.seq (.reg [oMv 4 15, oLn 15 16, oMc (.int .i64 (0)) 17] none)
 (.block 0 (.loop lb29_4)))
def sq29_8 : AC := (.seq (.reg [⟨.inr (.bldS true true 1 2 [.int .i64 0] [(0, 1), (1, 1)]), [.c (.int .i64 (2147483647)), .c (.int .i64 (2147483629))], some 14, none, []⟩, oMv 14 4] none)
 (.seq (.reg [oMc (.nilS) 5] none)
 (.seq sp29_7
 sq29_6)))
def sp29_9 : AC := (.seq (.reg [oMv 0 11, oCl 60 [.t 11] 12, ⟨.inl (.un .not), [.t 12], some 13, none, []⟩] none)
 (.cond (.t 13) st29_0 .skip))
def af29 : AFunc := ⟨1,
 (.seq (.reg [oMc (.int .i64 (0)) 2, oMc (.int .i64 (0)) 3] none)
 (.seq sp29_9
 sq29_8)),
 [.t 2, .t 3]⟩
def st30_0 : AC := (.seq (.reg [oMv 6 15, oMc (.int .i64 (0)) 4, oMv 15 5] none)
 .ret)
def sq30_1 : AC := (.seq (.reg [oMv 6 13, oBc .neq 13 (0) 14] none)
 (.cond (.t 14) st30_0 .skip))
def st30_2 : AC := (.seq (.reg [oMc (.int .i64 (0)) 4, oMc (.int .i64 (6)) 5] none)
 .ret)
def sq30_3 : AC := (.seq (.reg [oMv 9 25, oMv 9 26, oMv 1 27, oMv 9 28, oMv 1 29, oCl 54 [.t 28, .t 29, .c (.int .i64 (0))] 30, oCl 55 [.t 26, .t 27, .t 30] 31, oMv 7 32, oCl 64 [.t 25, .t 31, .t 32] 33, oMv 33 4, oMc (.int .i64 (0)) 5] none)
 .ret)
def sq30_4 : AC := (.seq (.reg [oMv 0 20, oCl 29 [.t 20] 21, oMv 21 19, oEx 0 19 22, oEx 1 19 23, oMv 22 7, oMv 23 8] none)
 (.seq (.reg [oMv 0 24, oMv 24 9] none)
 sq30_3))
def sp30_5 : AC := (.seq (.reg [oMv 1 16, oCl 63 [.t 16] 17, oBc .neq 17 (0) 18] none)
 (.cond (.t 18) st30_2 .skip))
def sp30_6 : AC := (.seq (.reg [oMv 0 10, oMv 1 11, oCl 52 [.t 10, .t 11] 12, oMv 12 6] none)
 sq30_1)
def af30 : AFunc := ⟨2,
 (.seq (.reg [oMc (.int .i64 (0)) 4, oMc (.int .i64 (0)) 5] none)
 (.seq sp30_6
 (.seq sp30_5
 sq30_4))),
 [.t 4, .t 5]⟩
def sq31_0 : AC := (.seq (.reg [oMv 0 9, oMv 3 10, oCl 66 [.t 9, .t 10] 11, oMv 0 12, oMv 4 13, oCl 66 [.t 12, .t 13] 14, ⟨.inr (.bldS true true 1 2 [.int .i64 0] [(0, 1), (1, 1)]), [.t 11, .t 14], some 15, none, []⟩, oMv 3 16, oMv 4 17, ⟨.inr (.bldS true true 1 2 [.int .i64 0] [(0, 1), (1, 1)]), [.t 16, .t 17], some 18, none, []⟩, oCl 65 [.t 15, .t 18] 19, oMv 19 8, oEx 0 8 20, oEx 1 8 21, oEx 2 8 22, oMv 20 5, oMv 21 6, oMv 22 7] none)
 (.seq (.reg [oMv 5 23, oMv 23 2] none)
 .ret))
def sq31_1 : AC := (.seq (.reg [oMc (.int .i64 (2147483647)) 3, oMc (.int .i64 (2147483629)) 4] none)
 sq31_0)
def af31 : AFunc := ⟨1,
 (.seq (.reg [oMc (.int .i64 (0)) 2] none)
 sq31_1),
 [.t 2]⟩
def sq32_0 : AC := (.reg [oMv 4 9, oBc .add 9 (1) 10, oMv 10 4] none)
def sp32_1 : AC := (.block 1 (.reg [oMv 3 11, oMv 0 12, oMv 4 13, oIx 12 13 14, oLd 14 15, oBn .add 11 15 16, oMv 16 3] none))
def sp32_2 : AC := (.seq (.reg [oMv 4 5, oMv 0 6, oLn 6 7, oBn .lss 5 7 8] none)
 (.cond (.t 8) .skip (.exit 0)))
def lb32_3 : AC := (.pre [0, 3, 4] (.seq sp32_2
 (.seq sp32_1
 sq32_0)))
def sq32_4 : AC := (.seq (.seq (.reg [oMc (.int .i64 (0)) 4] none)
 (.block 0 (.loop lb32_3)))
 (.pre [3] (.seq (.reg [oMv 3 17, oMv 17 2] none)
 .ret)))
def af32 : AFunc := ⟨1,
 (.seq (.reg [oMc (.int .i64 (0)) 2] none)
 (.seq (.reg [oMc (.int .i64 (0)) 3] none)
 sq32_4)),
 [.t 2]⟩
def sq33_0 : AC := (.block 3 (.reg [oMv 7 53, oMv 8 54, oBn .quo 53 54 55, oMv 55 7] none))
def sp33_1 : AC := (.seq (.reg [oMv 7 49, oMv 8 50, oBn .rem 49 50 51, oBc .eql 51 (0) 52] none)
 (.cond (.t 52) .skip (.exit 2)))
def lb33_2 : AC := (.pre [0, 1, 2, 7, 8] (.seq sp33_1
 sq33_0))
def sp33_3 : AC := (.seq (.reg [oMv 0 42, oMv 1 43, oMv 2 44, oMv 8 45, oBn .quo 44 45 46, oCl 68 [.t 42, .t 43, .t 46, .c (.int .i64 (0))] 47, oCl 67 [.t 47] 48] none)
 (.cond (.t 48) (.seq (.reg [oMc (.bool false) 6] none)
 .ret) .skip))
def sq33_4 : AC := (.pre [0, 1, 2, 7, 8] (.reg [oMv 8 36, oBc .add 36 (1) 37, oMv 37 8] none))
def sp33_5 : AC := (.block 1 (.seq (.reg [oMv 7 38, oMv 8 39, oBn .rem 38 39 40, oBc .eql 40 (0) 41] none)
 (.cond (.t 41) (.seq sp33_3
 (.block 2 (.loop lb33_2))) .skip)))
def sp33_6 : AC := (.seq (.reg [oMv 8 27, oBc .leq 27 (1500000) 28, oMv 28 29, oMg 8 30 29 true, oMg 8 31 29 true, ⟨.inl (.bin .mul), [.t 30, .t 31], some 32, some (29, true), []⟩, oMg 7 33 29 true, ⟨.inl (.bin .leq), [.t 32, .t 33], some 34, some (29, true), []⟩, oPk 29 34 false 35] none)
 (.cond (.t 35) .skip (.exit 0)))
def lb33_7 : AC := (.pre [0, 1, 2, 7, 8] (.seq sp33_6
 (.seq sp33_5
 sq33_4)))
def sq33_8 : AC := (.pre [0, 1, 2, 7] (.seq (.reg [oMv 7 56, oBc .eql 56 (1) 57, oMv 57 58, oMg 0 59 58 false, oMg 1 60 58 false, oMg 2 61 58 false, oMg 7 62 58 false, ⟨.inl (.bin .quo), [.t 61, .t 62], some 63, some (58, false), []⟩, ⟨.inr (.call true true 68), [.t 59, .t 60, .t 63, .c (.int .i64 (0))], some 64, some (58, false), []⟩, ⟨.inr (.call true true 67), [.t 64], some 65, some (58, false), []⟩, ⟨.inl (.un .not), [.t 65], some 66, some (58, false), []⟩, ⟨.inl .pick, [.t 58, .c (.bool true), .t 66], some 67, none, []⟩, oMv 67 6] none)
 .ret))
def sq33_9 : AC := (.seq (.reg [oMv 2 26, oMv 26 7] none)
 (.seq (.seq (.reg [oMc (.int .i64 (2)) 8] none)
 (.block 0 (.loop lb33_7)))
 sq33_8))
def sp33_10 : AC := (.seq (.reg [oMv 2 9, oBc .lss 9 (1) 10, oMv 10 11, oMg 0 12 11 false, ⟨.inr (.call true true 31), [.t 12], some 13, some (11, false), []⟩, oMg 2 14 11 false, ⟨.inl (.bin .rem), [.t 13, .t 14], some 15, some (11, false), []⟩, ⟨.inl (.bin .neq), [.t 15, .c (.int .i64 (0))], some 16, some (11, false), []⟩, ⟨.inl .pick, [.t 11, .c (.bool true), .t 16], some 17, none, []⟩, oMv 17 18, oMg 0 19 18 false, oMg 1 20 18 false, oMg 2 21 18 false, ⟨.inr (.call true true 68), [.t 19, .t 20, .t 21, .c (.int .i64 (0))], some 22, some (18, false), []⟩, ⟨.inr (.call true true 67), [.t 22], some 23, some (18, false), []⟩, ⟨.inl (.un .not), [.t 23], some 24, some (18, false), []⟩, ⟨.inl .pick, [.t 18, .c (.bool true), .t 24], some 25, none, []⟩] none)
 (.cond (.t 25) (.seq (.reg [oMc (.bool false) 6] none)
 .ret) .skip))
def af33 : AFunc := ⟨3,
 (.seq (.reg [oMc (.bool false) 6] none)
 (.seq sp33_10
 sq33_9)),
 [.t 6]⟩
def sq35_0 : AC := (.seq (.reg [oMv 0 5, oMv 1 6, oIx 5 6 7, oLd 7 8, oCl 32 [.t 8] 9, oMv 9 4] none)
 .ret)
def af35 : AFunc := ⟨2,
 (.seq (.reg [oMc (.int .i64 (0)) 4] none)
 sq35_0),
 [.t 4]⟩
def st39_0 : AC := (.seq (.reg [⟨.inl (.bld [.bool false, .nilS, .nilS] []), [], some 12, none, []⟩, oMv 6 13, ⟨.inr (.st 3), [.t 4, .t 12], none, none, []⟩, oMv 13 5] none)
 .ret)
def sq39_1 : AC := (.seq (.reg [oMv 6 10, oBc .neq 10 (0) 11] none)
 (.cond (.t 11) st39_0 .skip))
def sq39_2 : AC := (.seq (.reg [oMv 0 14, oMv 1 15, ⟨.inr (.call true false 71), [.t 14, .t 15], some 16, none, []⟩, ⟨.inr (.st 3), [.t 4, .t 16], none, none, []⟩, oMc (.int .i64 (0)) 5] none)
 .ret)
def sp39_3 : AC := (.seq (.reg [oMv 0 7, oMv 1 8, oCl 52 [.t 7, .t 8] 9, oMv 9 6] none)
 sq39_1)
def af39 : AFunc := ⟨2,
 (.seq (.reg [⟨.inr (.alloc false [.bool false, .nilS, .nilS]), [], some 4, none, []⟩, oMc (.int .i64 (0)) 5] none)
 (.seq sp39_3
 sq39_2)),
 [.cell 4 true 3, .t 5]⟩
def st40_0 : AC := (.seq (.reg [oMv 6 17, oMc (.int .i64 (0)) 4, oMv 17 5] none)
 .ret)
def sq40_1 : AC := (.seq (.reg [oMv 6 15, oBc .neq 15 (0) 16] none)
 (.cond (.t 16) st40_0 .skip))
def st40_2 : AC := (.seq (.reg [oMc (.int .i64 (0)) 4, oMc (.int .i64 (5)) 5] none)
 .ret)
def st40_3 : AC := (.seq (.reg [oMv 8 36, oMv 9 37, oBn .sub 36 37 38, ⟨.inl .mx, [.c (.int .i64 (-1)), .t 38], some 39, none, []⟩, oMv 39 4, oMc (.int .i64 (0)) 5] none)
 .ret)
def sq40_4 : AC := (.seq (.reg [oMv 8 31, oMv 9 32, ⟨.inl (.bin .mul), [.c (.int .i64 (2)), .t 32], some 33, none, []⟩, oBc .sub 33 (2) 34, oBn .gtr 31 34 35] none)
 (.cond (.t 35) st40_3 .skip))
def sq40_5 : AC := (.block 1 (.reg [oMv 11 58, oBc .add 58 (1) 59, oMv 59 11] none))
def sp40_6 : AC := (.seq (.reg [oMv 10 46, oCl 63 [.t 46] 47, oMv 11 48, oBn .gtr 47 48 49, oMv 49 50, oMg 7 51 50 true, oMg 10 52 50 true, oMg 11 53 50 true, ⟨.inl (.bin .add), [.t 53, .c (.int .i64 (1))], some 54, some (50, true), []⟩, ⟨.inr (.call false true 73), [.t 51, .t 52, .t 54, .c (.int .i64 (0))], some 55, some (50, true), []⟩, ⟨.inl (.un .not), [.t 55], some 56, some (50, true), []⟩, oPk 50 56 false 57] none)
 (.cond (.t 57) .skip (.exit 0)))
def lb40_7 : AC := (.pre [7, 10, 11] (.seq sp40_6
 sq40_5))
def sq40_8 : AC := (.pre [11] (.seq (.reg [oMv 11 60, oMv 60 4, oMc (.int .i64 (0)) 5] none)
 .ret))
def sq40_9 : AC := (.seq (.reg [oMv 7 40, oMv 1 41, oMv 7 42, oMv 1 43, oCl 54 [.t 42, .t 43, .c (.int .i64 (0))] 44, ⟨.inr (.call true false 55), [.t 40, .t 41, .t 44], some 45, none, []⟩, oMv 45 10] none)
 (.seq (.reg [oMc (.int .i64 (-1)) 11] none)
 (.seq (.block 0 (.loop lb40_7))
 sq40_8)))
def sp40_10 : AC := (.seq (.reg [oMv 1 27, oCl 63 [.t 27] 28, oMv 7 29, oCl 72 [.t 29] 30, oMv 28 8, oMv 30 9] none)
 sq40_4)
def sq40_11 : AC := (.seq (.reg [oMv 0 26, oMv 26 7] none)
 (.seq sp40_10
 sq40_9))
def sp40_12 : AC := (.seq (.reg [oMv 0 18, oLn 18 19, oBc .gtr 19 (6) 20, oMv 20 21, oMg 1 22 21 false, ⟨.inr (.call true true 63), [.t 22], some 23, some (21, false), []⟩, ⟨.inl (.bin .gtr), [.t 23, .c (.int .i64 (12))], some 24, some (21, false), []⟩, ⟨.inl .pick, [.t 21, .c (.bool true), .t 24], some 25, none, []⟩] none)
 (.cond (.t 25) st40_2 .skip))
def sp40_13 : AC := (.seq (.reg [oMv 0 12, oMv 1 13, oCl 52 [.t 12, .t 13] 14, oMv 14 6] none)
 sq40_1)
def af40 : AFunc := ⟨2,
 (.seq (.reg [oMc (.int .i64 (0)) 4, oMc (.int .i64 (0)) 5] none)
 (.seq sp40_13
 (.seq sp40_12
 sq40_11))),
 [.t 4, .t 5]⟩
def sp52_0 : AC := (.seq (.reg [oMv 0 5, oCl 60 [.t 5] 6, ⟨.inl (.un .not), [.t 6], some 7, none, []⟩, oMv 7 8, oMg 0 9 8 false, oMg 1 10 8 false, ⟨.inr (.call true true 80), [.t 9, .t 10], some 11, some (8, false), []⟩, ⟨.inl (.un .not), [.t 11], some 12, some (8, false), []⟩, ⟨.inl .pick, [.t 8, .c (.bool true), .t 12], some 13, none, []⟩] none)
 (.cond (.t 13) (.seq (.reg [oMc (.int .i64 (2)) 4] none)
 .ret) .skip))
def af52 : AFunc := ⟨2,
 (.seq (.reg [oMc (.int .i64 (0)) 4] none)
 (.seq sp52_0
 (.seq (.reg [oMc (.int .i64 (0)) 4] none)
 .ret))),
 [.t 4]⟩
def sq53_0 : AC := (.seq (.reg [oMv 0 7, oMv 1 8, oBn .geq 7 8 9, oMv 9 10, oMg 0 11 10 true, oMg 2 12 10 true, ⟨.inl (.bin .leq), [.t 11, .t 12], some 13, some (10, true), []⟩, oPk 10 13 false 14, oMv 14 6] none)
 .ret)
def af53 : AFunc := ⟨3,
 (.seq (.reg [oMc (.bool false) 6] none)
 sq53_0),
 [.t 6]⟩
def sq54_0 : AC := (.reg [oMv 8 29, oMv 29 30, oMg 10 31 30 true, ⟨.inl (.bin .quo), [.t 31, .c (.int .i64 (2))], some 32, some (30, true), []⟩, ⟨.inl (.bin .eql), [.t 32, .c (.int .i64 (0))], some 33, some (30, true), []⟩, oPk 30 33 false 34, oMv 34 8] none)
def sq54_1 : AC := (.seq (.reg [oMv 7 24, oMv 9 25, oMv 10 26, oBc .quo 26 (2) 27, oIx 24 25 28, ⟨.inr (.st 1), [.t 28, .t 27], none, none, []⟩] none)
 sq54_0)
def sq54_2 : AC := (.reg [oBc .add 19 (1) 35, oMv 35 19] none)
def sp54_3 : AC := (.block 1 (.seq (.reg [oMv 19 21, oIx 17 19 22, oLd 22 23, oMv 21 9, oMv 23 10] none)
 sq54_1))
def lb54_4 : AC := (.pre [0, 1, 2, 7, 8, 17, 18, 19] (.seq (.reg [oBn .lss 19 18 20] none)
 (.seq (.cond (.t 20) .skip (.exit 0))
 (.seq sp54_3
 sq54_2))))
def sq54_5 : AC := (.reg [oMv 11 51, oMv 12 52, oMv 13 53, ⟨.inl (.bin .mul), [.c (.int .i64 (2)), .t 53], some 54, none, []⟩, oIx 51 52 55, ⟨.inr (.st 1), [.t 55, .t 54], none, none, []⟩] none)
def sq54_6 : AC := (.reg [oBc .add 46 (1) 56, oMv 56 46] none)
def sp54_7 : AC := (.block 3 (.seq (.reg [oMv 46 48, oIx 44 46 49, oLd 49 50, oMv 48 12, oMv 50 13] none)
 sq54_5))
def lb54_8 : AC := (.pre [0, 1, 2, 11, 44, 45, 46] (.seq (.reg [oBn .lss 46 45 47] none)
 (.seq (.cond (.t 47) .skip (.exit 2))
 (.seq sp54_7
 sq54_6))))
def st54_9 : AC := (.seq (.reg [oMv 0 41, oMv 7 42, oMv 2 43, oCl 54 [.t 41, .t 42, .t 43] 44, oLn 44 45, oMc (.int .i64 (0)) 46] none)
 (.block 2 (.loop lb54_8)))
def sq54_10 : AC := (.pre [0, 1, 2, 11] (.seq (.reg [oMv 11 57, oMv 0 58, oMv 0 59, oMv 1 60, oMv 11 61, oCl 55 [.t 59, .t 60, .t 61] 62, oMv 2 63, oCl 81 [.t 58, .t 62, .t 63] 64, ⟨.inr (.call true false 77), [.t 57, .t 64], some 65, none, []⟩, oMv 65 6] none)
 .ret))
def sp54_11 : AC := (.seq (.reg [oMv 8 39, ⟨.inl (.un .not), [.t 39], some 40, none, []⟩] none)
 (.cond (.t 40) st54_9 .skip))
def sq54_12 : AC := (.pre [0, 1, 2, 7, 8] (.seq (.reg [oMv 1 36, oLn 36 37, ⟨.inr (.mkS 1 8 [.int .i64 0]), [.t 37, .t 37], some 38, none, []⟩, oMv 38 11] none)
 (.seq sp54_11
 sq54_10)))
def sp54_13 : AC := (.seq (.reg [oMv 1 17, oLn 17 18, oMc (.int .i64 (0)) 19] none)
 (.block 0 (.loop lb54_4)))
def sq54_14 : AC := (.seq (.reg [oMv 1 14, oLn 14 15, ⟨.inr (.mkS 1 8 [.int .i64 0]), [.t 15, .t 15], some 16, none, []⟩, oMv 16 7] none)
 (.seq (.reg [oMc (.bool true) 8] none)
 (.seq sp54_13
 sq54_12)))
def af54 : AFunc := ⟨3,
 (.seq (.reg [oMc (.nilS) 6] none)
 sq54_14),
 [.t 6]⟩
def sq55_0 : AC := (.reg [oMv 7 44, oMv 10 45, oIx 44 45 46, oLd 46 47, oMv 9 48, oMv 11 49, oBn .mul 48 49 50, oBn .add 47 50 51, oIx 44 45 52, ⟨.inr (.st 1), [.t 52, .t 51], none, none, []⟩] none)
def sq55_1 : AC := (.seq (.reg [oMv 7 35, oMv 8 36, oIx 35 36 37, oLd 37 38, oMv 9 39, oMv 11 40, oBn .mul 39 40 41, oBn .sub 38 41 42, oIx 35 36 43, ⟨.inr (.st 1), [.t 43, .t 42], none, none, []⟩] none)
 sq55_0)
def sq55_2 : AC := (.reg [oBc .add 30 (1) 53, oMv 53 30] none)
def sp55_3 : AC := (.block 3 (.seq (.reg [oMv 30 32, oIx 28 30 33, oLd 33 34, oMv 32 10, oMv 34 11] none)
 sq55_1))
def lb55_4 : AC := (.pre [0, 7, 8, 9, 18, 19, 20, 28, 29, 30] (.seq (.reg [oBn .lss 30 29 31] none)
 (.seq (.cond (.t 31) .skip (.exit 2))
 (.seq sp55_3
 sq55_2))))
def sq55_5 : AC := (.seq (.reg [oMv 0 25, oMv 8 26, oIx 25 26 27, oLd 27 28, oLn 28 29, oMc (.int .i64 (0)) 30] none)
 (.block 2 (.loop lb55_4)))
def sq55_6 : AC := (.pre [0, 7, 18, 19, 20] (.reg [oBc .add 20 (1) 54, oMv 54 20] none))
def sp55_7 : AC := (.block 1 (.seq (.reg [oMv 20 22, oIx 18 20 23, oLd 23 24, oMv 22 8, oMv 24 9] none)
 sq55_5))
def lb55_8 : AC := (.pre [0, 7, 18, 19, 20] (.seq (.reg [oBn .lss 20 19 21] none)
 (.seq (.cond (.t 21) .skip (.exit 0))
 (.seq sp55_7
 sq55_6))))
def sp55_9 : AC := (.seq (.reg [oMv 2 18, oLn 18 19, oMc (.int .i64 (0)) 20] none)
 (.block 0 (.loop lb55_8)))
def sq55_10 : AC := (.seq sp55_9
 (.pre [7] (.seq (.reg [oMv 7 55, oMv 55 6] none)
 .ret)))
def sq55_11 : AC := (.seq (.reg [oMv 7 15, oMv 1 16, ⟨.inr (.cpy 1), [.t 15, .t 16], some 17, none, []⟩] none)
 sq55_10)
def sq55_12 : AC := (.seq (.reg [oMv 1 12, oLn 12 13, ⟨.inr (.mkS 1 8 [.int .i64 0]), [.t 13, .t 13], some 14, none, []⟩, oMv 14 7] none)
 sq55_11)
def af55 : AFunc := ⟨3,
 (.seq (.reg [oMc (.nilS) 6] none)
 sq55_12),
 [.t 6]⟩
def sq56_0 : AC := (.reg [oMv 7 12, oBc .add 12 (1) 13, oMv 13 7] none)
def sp56_1 : AC := (.block 1 (.seq (.reg [oMv 1 14, oMv 7 15, oIx 14 15 16, oLd 16 17, oMv 2 18, ⟨.inl (.un .neg), [.t 18], some 19, none, []⟩, oBn .lss 17 19 20, oMv 20 21, oMg 1 22 21 false, oMg 7 23 21 false, ⟨.inl (.idxA 1), [.t 22, .t 23], some 24, some (21, false), []⟩, ⟨.inl (.ld false 1), [.t 24], some 25, some (21, false), []⟩, oMg 2 26 21 false, ⟨.inl (.bin .gtr), [.t 25, .t 26], some 27, some (21, false), []⟩, ⟨.inl .pick, [.t 21, .c (.bool true), .t 27], some 28, none, []⟩] none)
 (.cond (.t 28) (.seq (.reg [oMc (.bool false) 6] none)
 .ret) .skip)))
def sp56_2 : AC := (.seq (.reg [oMv 7 8, oMv 1 9, oLn 9 10, oBn .lss 8 10 11] none)
 (.cond (.t 11) .skip (.exit 0)))
def lb56_3 : AC := (.pre [0, 1, 2, 7] (.seq sp56_2
 (.seq sp56_1
 sq56_0)))
def sq56_4 : AC := (.pre [0, 1] (.seq (.reg [oMv 1 29, oLn 29 30, oMv 0 31, oLn 31 32, oBn .eql 30 32 33, oMv 33 6] none)
 .ret))
def af56 : AFunc := ⟨3,
 (.seq (.reg [oMc (.bool false) 6] none)
 (.seq (.seq (.reg [oMc (.int .i64 (0)) 7] none)
 (.block 0 (.loop lb56_3)))
 sq56_4)),
 [.t 6]⟩
def st57_0 : AC := (.reg [oMv 7 20, oMv 0 21, oMv 2 22, oIx 21 22 23, oLd 23 24, oMv 8 25, oIx 24 25 26, oLd 26 27, oBn .add 20 27 28, oMv 28 7] none)
def sq57_1 : AC := (.reg [oMv 8 13, oBc .add 13 (1) 14, oMv 14 8] none)
def sp57_2 : AC := (.block 1 (.seq (.reg [oMv 1 15, oMv 8 16, oBn .shr 15 16 17, oBc .rem 17 (2) 18, oBc .eql 18 (0) 19] none)
 (.cond (.t 19) st57_0 .skip)))
def sp57_3 : AC := (.seq (.reg [oMv 8 9, oMv 0 10, oLn 10 11, oBn .lss 9 11 12] none)
 (.cond (.t 12) .skip (.exit 0)))
def lb57_4 : AC := (.pre [0, 1, 2, 7, 8] (.seq sp57_3
 (.seq sp57_2
 sq57_1)))
def sq57_5 : AC := (.seq (.seq (.reg [oMc (.int .i64 (0)) 8] none)
 (.block 0 (.loop lb57_4)))
 (.pre [7] (.seq (.reg [oMv 7 29, oMv 29 6] none)
 .ret)))
def af57 : AFunc := ⟨3,
 (.seq (.reg [oMc (.int .i64 (0)) 6] none)
 (.seq (.reg [oMc (.int .i64 (0)) 7] none)
 sq57_5)),
 [.t 6]⟩
def sq58_0 : AC := (.seq (.reg [oMv 0 11, oMv 7 12, oMv 2 13, oCl 82 [.t 11, .t 12, .t 13] 14, oMv 14 6] none)
 .ret)
def sq58_1 : AC := (.seq (.reg [oMv 7 8, oMv 1 9, ⟨.inr (.app true 1 8), [.t 8, .t 9], some 10, none, []⟩, oMv 10 7] none)
 sq58_0)
def af58 : AFunc := ⟨3,
 (.seq (.reg [oMc (.nilS) 6] none)
 (.seq (.reg [oMc (.nilS) 7] none)
 sq58_1)),
 [.t 6]⟩
def sq59_0 : AC := (.reg [oMv 8 13, oBc .add 13 (1) 14, oMv 14 8] none)
def sp59_1 : AC := (.block 1 (.reg [oMv 7 15, oMv 0 16, oMv 8 17, oIx 16 17 18, oLd 18 19, ⟨.inl (.bin .mul), [.c (.int .i64 (2)), .t 19], some 20, none, []⟩, oMv 2 21, oMv 1 22, oMv 8 23, oIx 22 23 24, oLd 24 25, oBn .mul 21 25 26, oBn .add 20 26 27, ⟨.inr (.bldS true true 1 1 [.int .i64 0] [(0, 1)]), [.t 27], some 28, none, []⟩, ⟨.inr (.app false 1 8), [.t 15, .t 28], some 29, none, []⟩, oMv 29 7] (some ([0, 1, 2, 3, 4, 5, 6, 7, 8, 9, 10, 11, 12, 13, 14, 15], [], [0, 0, 0, 6, 14, 30, 0, 0, 0, 384, 896, 1984, 4094, 8190, 16383, 32767]))))
def sp59_2 : AC := (.seq (.reg [oMv 8 9, oMv 0 10, oLn 10 11, oBn .lss 9 11 12] none)
 (.cond (.t 12) .skip (.exit 0)))
def lb59_3 : AC := (.pre [0, 1, 2, 7, 8] (.seq sp59_2
 (.seq sp59_1
 sq59_0)))
def sq59_4 : AC := (.seq (.seq (.reg [oMc (.int .i64 (0)) 8] none)
 (.block 0 (.loop lb59_3)))
 (.pre [7] (.seq (.reg [oMv 7 30, oMv 30 6] none)
 .ret)))
def af59 : AFunc := ⟨3,
 (.seq (.reg [oMc (.nilS) 6] none)
 (.seq (.reg [oMc (.nilS) 7] none)
 sq59_4)),
 [.t 6]⟩
def sq60_0 : AC := (.seq (.reg [oMv 5 21, oLn 21 22, oMv 3 23, oBn .neq 22 23 24] none)
 (.cond (.t 24) (.seq (.reg [oMc (.bool false) 2] none)
 .ret) .skip))
def sq60_1 : AC := (.reg [oBc .add 17 (1) 25, oMv 25 17] none)
def sp60_2 : AC := (.block 1 (.seq (.reg [oIx 15 17 19, oLd 19 20, oMv 20 5] none)
 sq60_0))
def lb60_3 : AC := (.pre [0, 3, 15, 16, 17] (.seq (.reg [oBn .lss 17 16 18] none)
 (.seq (.cond (.t 18) .skip (.exit 0))
 (.seq sp60_2
 sq60_1))))
def sq60_4 : AC := (.seq (.reg [oMv 9 40, oCl 53 [.t 40, .c (.int .i64 (0)), .c (.int .i64 (3))] 41, ⟨.inl (.un .not), [.t 41], some 42, none, []⟩, oMv 42 43, oMg 9 44 43 false, oMg 0 45 43 false, oMg 8 46 43 false, ⟨.inl (.idxA 1), [.t 45, .t 46], some 47, some (43, false), []⟩, ⟨.inl (.ld false 1), [.t 47], some 48, some (43, false), []⟩, oMg 6 49 43 false, ⟨.inl (.idxA 1), [.t 48, .t 49], some 50, some (43, false), []⟩, ⟨.inl (.ld false 1), [.t 50], some 51, some (43, false), []⟩, ⟨.inl (.bin .neq), [.t 44, .t 51], some 52, some (43, false), []⟩, ⟨.inl .pick, [.t 43, .c (.bool true), .t 52], some 53, none, []⟩, oMv 53 54, oMg 6 55 54 false, oMg 8 56 54 false, ⟨.inl (.bin .eql), [.t 55, .t 56], some 57, some (54, false), []⟩, oMg 57 58 54 false, oMg 9 59 58 true, ⟨.inl (.bin .neq), [.t 59, .c (.int .i64 (0))], some 60, some (58, true), []⟩, ⟨.inl .pick, [.t 58, .t 60, .c (.bool false)], some 61, some (54, false), []⟩, ⟨.inl .pick, [.t 54, .c (.bool true), .t 61], some 62, none, []⟩] none)
 (.cond (.t 62) (.seq (.reg [oMc (.bool false) 2] none)
 .ret) .skip))
def sq60_5 : AC := (.reg [oBc .add 35 (1) 63, oMv 63 35] none)
def sp60_6 : AC := (.block 5 (.seq (.reg [oMv 35 37, oIx 33 35 38, oLd 38 39, oMv 37 8, oMv 39 9] none)
 sq60_4))
def lb60_7 : AC := (.pre [0, 6, 26, 27, 28, 33, 34, 35] (.seq (.reg [oBn .lss 35 34 36] none)
 (.seq (.cond (.t 36) .skip (.exit 4))
 (.seq sp60_6
 sq60_5))))
def sq60_8 : AC := (.seq (.reg [oMv 7 33, oLn 33 34, oMc (.int .i64 (0)) 35] none)
 (.block 4 (.loop lb60_7)))
def sq60_9 : AC := (.pre [0, 26, 27, 28] (.reg [oBc .add 28 (1) 64, oMv 64 28] none))
def sp60_10 : AC := (.block 3 (.seq (.reg [oMv 28 30, oIx 26 28 31, oLd 31 32, oMv 30 6, oMv 32 7] none)
 sq60_8))
def lb60_11 : AC := (.pre [0, 26, 27, 28] (.seq (.reg [oBn .lss 28 27 29] none)
 (.seq (.cond (.t 29) .skip (.exit 2))
 (.seq sp60_10
 sq60_9))))
def sq60_12 : AC := (.pre [0] (.seq (.reg [oMv 0 65, oCl 84 [.t 65, .c (.int .i64 (0))] 66, oCl 83 [.t 66, .c (.int .i64 (-1))] 67, ⟨.inl (.un .not), [.t 67], some 68, none, []⟩, oMv 68 2] none)
 .ret))
def sp60_13 : AC := (.seq (.reg [oMv 0 26, oLn 26 27, oMc (.int .i64 (0)) 28] none)
 (.block 2 (.loop lb60_11)))
def sp60_14 : AC := (.seq (.reg [oMv 0 15, oLn 15 16, oMc (.int .i64 (0)) 17] none)
 (.block 0 (.loop lb60_3)))
def sp60_15 : AC := (.seq (.reg [oMv 3 12, oCl 53 [.t 12, .c (.int .i64 (1)), .c (.int .i64 (10))] 13, ⟨.inl (.un .not), [.t 13], some 14, none, []⟩] none)
 (.cond (.t 14) (.seq (.reg [oMc (.bool false) 2] none)
 .ret) .skip))
def sq60_16 : AC := (.seq (.reg [oMv 0 10, oLn 10 11, oMv 11 3] none)
 (.seq sp60_15
 (.seq sp60_14
 (.pre [0] (.seq sp60_13
 sq60_12)))))
def af60 : AFunc := ⟨1,
 (.seq (.reg [oMc (.bool false) 2] none)
 sq60_16),
 [.t 2]⟩
def sq61_0 : AC := (.reg [oMv 6 40, oMv 7 41, oIx 40 41 42, oLd 42 43, oMv 8 44, oMv 1 45, oMv 0 46, oMv 7 47, oBc .add 47 (1) 48, oIx 46 48 49, oLd 49 50, oMv 8 51, oBc .add 51 (1) 52, oIx 50 52 53, oLd 53 54, oBn .sub 45 54 55, oMv 1 56, oBn .rem 55 56 57, oIx 43 44 58, ⟨.inr (.st 1), [.t 58, .t 57], none, none, []⟩] (some ([0, 1, 2, 3, 4, 5, 6, 7, 8, 9, 10, 11, 12, 13, 14, 15, 16, 17, 18, 19], [], [0, 0, 3, 7, 0, 0, 0, 0, 128, 448, 960, 0, 2048, 8128, 16320, 32736, 0, 131040, 262143, 524287])))
def sq61_1 : AC := (.reg [oBc .add 37 (1) 59, oMv 59 37] none)
def sq61_2 : AC := (.seq (.block 3 (.seq (.reg [oMv 37 39, oMv 39 8] none)
 sq61_0))
 sq61_1)
def lb61_3 : AC := (.pre [0, 1, 5, 6, 7, 23, 24, 36, 37] (.seq (.reg [oBn .lss 37 36 38] none)
 (.seq (.cond (.t 38) .skip (.exit 2))
 sq61_2)))
def sq61_4 : AC := (.pre [0, 1, 5, 6, 7, 23, 24] (.reg [oMv 0 65, oMv 7 66, oBc .add 66 (1) 67, oCl 74 [.t 65, .t 67] 68, oMv 6 60, oMv 7 61, oIx 60 61 62, oLd 62 63, oMv 7 64, oIx 63 64 69, ⟨.inr (.st 1), [.t 69, .t 68], none, none, []⟩] (some ([5, 6, 7, 8, 0, 1, 2, 3, 4, 9, 10], [], [0, 0, 3, 7, 0, 0, 0, 64, 224, 511, 1023]))))
def sp61_5 : AC := (.seq (.reg [oMv 6 32, oMv 7 33, oIx 32 33 34, oLd 34 35, oLn 35 36, oMc (.int .i64 (0)) 37] none)
 (.block 2 (.loop lb61_3)))
def sq61_6 : AC := (.seq (.reg [oMv 6 27, oMv 7 28, oMv 5 29, ⟨.inr (.mkS 1 8 [.int .i64 0]), [.t 29, .t 29], some 30, none, []⟩, oIx 27 28 31, ⟨.inr (.st 1), [.t 31, .t 30], none, none, []⟩] none)
 (.seq sp61_5
 sq61_4))
def sq61_7 : AC := (.pre [0, 1, 5, 6, 23, 24] (.reg [oBc .add 24 (1) 70, oMv 70 24] none))
def sq61_8 : AC := (.seq (.block 1 (.seq (.reg [oMv 24 26, oMv 26 7] none)
 sq61_6))
 sq61_7)
def lb61_9 : AC := (.pre [0, 1, 5, 6, 23, 24] (.seq (.reg [oBn .lss 24 23 25] none)
 (.seq (.cond (.t 25) .skip (.exit 0))
 sq61_8)))
def sq61_10 : AC := (.reg [oMv 1 102, oMv 9 103, oBn .sub 102 103 104, oMv 1 105, oBn .rem 104 105 106, oMv 106 9] none)
def st61_11 : AC := (.seq (.reg [oMv 6 84, oLd 10 85, oMv 6 90, oLd 10 91, oMv 11 92, oBn .add 91 92 93, oIx 90 93 94, oLd 94 95, oMv 6 96, oLd 10 97, oIx 96 97 98, oLd 98 99, oIx 84 85 100, ⟨.inr (.st 1), [.t 100, .t 95], none, none, [.t 10]⟩, oMv 6 86, oLd 10 87, oMv 11 88, oBn .add 87 88 89, oIx 86 89 101, ⟨.inr (.st 1), [.t 101, .t 99], none, none, []⟩] (some ([0, 1, 6, 7, 8, 9, 10, 11, 12, 13, 14, 15, 16, 17, 2, 3, 4, 5, 18, 19], [], [0, 0, 0, 0, 0, 24, 0, 0, 0, 384, 960, 1984, 0, 0, 12288, 28672, 65475, 131011, 262143, 524287])))
 sq61_10)
def sq61_12 : AC := (.reg [oMv 16 152, oBc .add 152 (1) 153, oMv 153 16] none)
def sp61_13 : AC := (.block 9 (.reg [oMv 6 154, oMv 14 155, oIx 154 155 156, oLd 156 157, oMv 16 158, oMv 6 159, oMv 14 160, oIx 159 160 161, oLd 161 162, oMv 16 163, oIx 162 163 164, oLd 164 165, oMv 1 166, oMv 15 167, oBn .sub 166 167 168, oMv 6 169, oLd 10 170, oIx 169 170 171, oLd 171 172, oMv 16 173, oIx 172 173 174, oLd 174 175, oBn .mul 168 175 176, oBn .add 165 176 177, oMv 1 178, oBn .rem 177 178 179, oIx 157 158 180, ⟨.inr (.st 1), [.t 180, .t 179], none, none, []⟩] (some ([0, 1, 2, 3, 4, 5, 6, 7, 8, 9, 10, 11, 12, 13, 14, 15, 16, 17, 18, 19, 20, 21, 22, 23, 24, 25, 26, 27], [], [0, 0, 3, 7, 0, 0, 0, 96, 224, 0, 992, 2016, 0, 0, 12288, 0, 0, 98304, 229376, 0, 1015808, 2064384, 4190208, 8388576, 0, 33554400, 67108863, 134217727]))))
def sp61_14 : AC := (.seq (.reg [oMv 16 149, oMv 5 150, oBn .lss 149 150 151] none)
 (.cond (.t 151) .skip (.exit 8)))
def lb61_15 : AC := (.pre [1, 5, 6, 9, 10, 12, 14, 15, 16, 71, 72] (.seq sp61_14
 (.seq sp61_13
 sq61_12)))
def sq61_16 : AC := (.seq (.reg [oLd 10 148, oMv 148 16] none)
 (.block 8 (.loop lb61_15)))
def sq61_17 : AC := (.pre [1, 5, 6, 9, 10, 12, 14, 71, 72] (.reg [oMv 14 135, oBc .add 135 (1) 136, oMv 136 14] none))
def sp61_18 : AC := (.block 7 (.seq (.reg [oMv 6 137, oMv 14 138, oIx 137 138 139, oLd 139 140, oLd 10 141, oIx 140 141 142, oLd 142 143, oMv 12 144, oBn .mul 143 144 145, oMv 1 146, oBn .rem 145 146 147, oMv 147 15] (some ([0, 1, 2, 3, 4, 5, 6, 7, 8, 9, 10, 11], [], [0, 0, 3, 7, 0, 31, 63, 0, 255, 0, 1023, 2047])))
 sq61_16))
def sp61_19 : AC := (.seq (.reg [oMv 14 132, oMv 5 133, oBn .lss 132 133 134] none)
 (.cond (.t 134) .skip (.exit 6)))
def lb61_20 : AC := (.pre [1, 5, 6, 9, 10, 12, 14, 71, 72] (.seq sp61_19
 (.seq sp61_18
 sq61_17)))
def sq61_21 : AC := (.seq (.reg [oLd 10 130, oBc .add 130 (1) 131, oMv 131 14] none)
 (.block 6 (.loop lb61_20)))
def sq61_22 : AC := (.seq (.reg [oMv 6 119, oLd 10 120, oIx 119 120 121, oLd 121 122, oLd 10 123, oIx 122 123 124, oLd 124 125, oMv 1 126, oCl 87 [.t 125, .t 126] 127, oMv 127 118, oEx 0 118 128, oEx 1 118 129, oMv 128 12, oMv 129 13] (some ([0, 1, 2, 3, 4, 5, 6, 7, 8, 9, 10, 11, 12, 13], [], [0, 0, 3, 7, 0, 31, 63, 0, 255, 511, 1023, 1023, 2047, 8191])))
 sq61_21)
def sq61_23 : AC := (.seq (.reg [oMv 9 107, oMv 6 108, oLd 10 109, oIx 108 109 110, oLd 110 111, oLd 10 112, oIx 111 112 113, oLd 113 114, oBn .mul 107 114 115, oMv 1 116, oBn .rem 115 116 117, oMv 117 9] (some ([0, 1, 2, 3, 4, 5, 6, 7, 8, 9, 10, 11], [], [0, 0, 0, 6, 14, 0, 62, 126, 255, 0, 1023, 2047])))
 sq61_22)
def sp61_24 : AC := (.seq (.reg [oMv 11 82, oBc .gtr 82 (0) 83] none)
 (.cond (.t 83) st61_11 .skip))
def sp61_25 : AC := (.seq (.reg [oMv 11 80, oBc .lss 80 (0) 81] none)
 (.cond (.t 81) (.seq (.reg [oMc (.int .i64 (0)) 4] none)
 .ret) .skip))
def sq61_26 : AC := (.seq (.reg [oMv 6 75, oLd 10 76, ⟨.inl (.slc 1 true false), [.t 75, .t 76], some 77, none, []⟩, ⟨.inl (.mkfn 86), [.t 10], some 78, none, []⟩, oCl 85 [.t 77, .t 78] 79, oMv 79 11] none)
 (.seq sp61_25
 (.seq sp61_24
 sq61_23)))
def sq61_27 : AC := (.pre [1, 5, 6, 9, 71, 72] (.reg [oBc .add 72 (1) 181, oMv 181 72] none))
def sp61_28 : AC := (.block 5 (.seq (.reg [oMv 72 74, ⟨.inr (.alloc true [.int .i64 0]), [], some 10, none, []⟩, ⟨.inr (.st 1), [.t 10, .t 74], none, none, []⟩] none)
 sq61_26))
def lb61_29 : AC := (.pre [1, 5, 6, 9, 71, 72] (.seq (.reg [oBn .lss 72 71 73] none)
 (.seq (.cond (.t 73) .skip (.exit 4))
 (.seq sp61_28
 sq61_27))))
def sp61_30 : AC := (.seq (.reg [oMv 5 71, oMc (.int .i64 (0)) 72] none)
 (.block 4 (.loop lb61_29)))
def sq61_31 : AC := (.seq sp61_30
 (.pre [9] (.seq (.reg [oMv 9 182, oMv 182 4] none)
 .ret)))
def sp61_32 : AC := (.seq (.reg [oMv 6 22, oLn 22 23, oMc (.int .i64 (0)) 24] none)
 (.block 0 (.loop lb61_9)))
def sq61_33 : AC := (.seq (.reg [oMv 5 20, ⟨.inr (.mkB 1 24 [.nilS]), [.t 20, .t 20], some 21, none, []⟩, oMv 21 6] none)
 (.seq sp61_32
 (.pre [1, 5, 6] (.seq (.reg [oMc (.int .i64 (1)) 9] none)
 sq61_31))))
def sq61_34 : AC := (.seq (.reg [oMv 0 17, oLn 17 18, oBc .sub 18 (1) 19, oMv 19 5] none)
 sq61_33)
def af61 : AFunc := ⟨2,
 (.seq (.reg [oMc (.int .i64 (0)) 4] none)
 sq61_34),
 [.t 4]⟩
def st62_0 : AC := (.seq (.reg [oMc (.int .i64 (0)) 4, oMc (.int .i64 (0)) 5, oMc (.int .i64 (2)) 6] none)
 .ret)
def st62_1 : AC := (.seq (.reg [oMc (.int .i64 (0)) 4, oMc (.int .i64 (0)) 5, oMc (.int .i64 (2)) 6] none)
 .ret)
def st62_2 : AC := (.seq (.reg [oMc (.int .i64 (0)) 4, oMc (.int .i64 (0)) 5, oMc (.int .i64 (2)) 6] none)
 .ret)
def sq62_3 : AC := (.reg [oMv 13 75, ⟨.inl (.conv .i64), [.t 75], some 76, none, []⟩, oMv 76 7] none)
def sp62_4 : AC := (.seq (.reg [oMv 12 69, ⟨.inl (.bin .gtr), [.t 69, .c (.int .u64 (0))], some 70, none, []⟩, oMv 70 71, oMg 13 72 71 false, ⟨.inl (.bin .gtr), [.t 72, .c (.int .u64 (4611686018427387904))], some 73, some (71, false), []⟩, ⟨.inl .pick, [.t 71, .c (.bool true), .t 73], some 74, none, []⟩] none)
 (.cond (.t 74) st62_2 .skip))
def sq62_5 : AC := (.seq (.reg [oMv 7 57, ⟨.inl (.conv .u64), [.t 57], some 58, none, []⟩, oMv 1 59, oMv 8 60, oIx 59 60 61, oLd 61 62, oMv 10 63, oBn .quo 62 63 64, ⟨.inl (.conv .u64), [.t 64], some 65, none, []⟩, oCl 90 [.t 58, .t 65] 66, oMv 66 56, oEx 0 56 67, oEx 1 56 68, oMv 67 12, oMv 68 13] none)
 (.seq sp62_4
 sq62_3))
def sq62_6 : AC := (.seq (.reg [oMv 7 48, oMv 1 49, oMv 8 50, oIx 49 50 51, oLd 51 52, oCl 89 [.t 48, .t 52] 53, oMv 53 47, oEx 0 47 54, oEx 1 47 55, oMv 54 10, oMv 55 11] none)
 sq62_5)
def sp62_7 : AC := (.seq (.reg [oMv 9 40, oMv 1 41, oMv 8 42, oIx 41 42 43, oLd 43 44, oCl 88 [.t 40, .t 44] 45, ⟨.inl (.un .not), [.t 45], some 46, none, []⟩] none)
 (.cond (.t 46) st62_1 .skip))
def sq62_8 : AC := (.reg [oBc .add 35 (1) 77, oMv 77 35] none)
def sp62_9 : AC := (.block 1 (.seq (.reg [oMv 35 37, oIx 33 35 38, oLd 38 39, oMv 37 8, oMv 39 9] none)
 (.seq sp62_7
 sq62_6)))
def lb62_10 : AC := (.pre [0, 1, 7, 33, 34, 35] (.seq (.reg [oBn .lss 35 34 36] none)
 (.seq (.cond (.t 36) .skip (.exit 0))
 (.seq sp62_9
 sq62_8))))
def st62_11 : AC := (.seq (.reg [oMc (.int .i64 (0)) 4, oMc (.int .i64 (0)) 5, oMc (.int .i64 (6)) 6] none)
 .ret)
def sq62_12 : AC := (.reg [oMv 15 146, oMv 20 147, oBn .mul 146 147 148, oMv 148 15] none)
def sq62_13 : AC := (.seq (.reg [oMv 14 141, oMv 15 142, oMv 22 143, oBn .mul 142 143 144, oBn .add 141 144 145, oMv 145 14] none)
 sq62_12)
def sq62_14 : AC := (.seq (.reg [oMv 21 127, oMv 18 128, oBn .quo 127 128 129, oMv 20 130, oBn .rem 129 130 131, oMv 19 132, oMv 20 133, oBn .rem 132 133 134, oMv 20 135, oBn .add 134 135 136, oMv 20 137, oBn .rem 136 137 138, oMv 20 139, oCl 91 [.t 131, .t 138, .t 139] 140, oMv 140 22] (some ([0, 1, 2, 3, 4, 5, 6, 7, 8, 9, 10, 11, 12, 13, 14], [], [0, 0, 3, 0, 15, 0, 0, 96, 0, 480, 0, 2016, 0, 8191, 16383])))
 sq62_13)
def sp62_15 : AC := (.seq (.reg [oMv 21 123, oMv 18 124, oBn .rem 123 124 125, oBc .neq 125 (0) 126] none)
 (.cond (.t 126) st62_11 .skip))
def sq62_16 : AC := (.seq (.reg [oMv 17 105, oMv 14 106, oBn .sub 105 106 107, oMv 1 108, oMv 16 109, oIx 108 109 110, oLd 110 111, oBn .rem 107 111 112, oMv 1 113, oMv 16 114, oIx 113 114 115, oLd 115 116, oBn .add 112 116 117, oMv 1 118, oMv 16 119, oIx 118 119 120, oLd 120 121, oBn .rem 117 121 122, oMv 122 21] (some ([0, 1, 2, 3, 4, 5, 6, 7, 8, 9, 10, 11, 12, 13, 14, 15, 16, 17, 18], [], [0, 0, 3, 0, 0, 24, 56, 127, 0, 0, 768, 1792, 4095, 0, 0, 24576, 57344, 131071, 262143])))
 (.seq sp62_15
 sq62_14))
def sq62_17 : AC := (.seq (.reg [oMv 1 99, oMv 16 100, oIx 99 100 101, oLd 101 102, oMv 18 103, oBn .quo 102 103 104, oMv 104 20] none)
 sq62_16)
def sq62_18 : AC := (.seq (.reg [oMv 15 86, oMv 1 87, oMv 16 88, oIx 87 88 89, oLd 89 90, oBn .rem 86 90 91, oMv 1 92, oMv 16 93, oIx 92 93 94, oLd 94 95, oCl 89 [.t 91, .t 95] 96, oMv 96 85, oEx 0 85 97, oEx 1 85 98, oMv 97 18, oMv 98 19] (some ([0, 1, 2, 3, 4, 5, 6, 7, 8, 9, 10, 11, 12, 13, 14, 15], [], [0, 0, 0, 6, 14, 31, 0, 0, 192, 448, 1023, 2047, 4095, 4095, 8191, 32767])))
 sq62_17)
def sq62_19 : AC := (.reg [oBc .add 80 (1) 149, oMv 149 80] none)
def sp62_20 : AC := (.block 3 (.seq (.reg [oMv 80 82, oIx 78 80 83, oLd 83 84, oMv 82 16, oMv 84 17] none)
 sq62_18))
def lb62_21 : AC := (.pre [1, 7, 14, 15, 78, 79, 80] (.seq (.reg [oBn .lss 80 79 81] none)
 (.seq (.cond (.t 81) .skip (.exit 2))
 (.seq sp62_20
 sq62_19))))
def sq62_22 : AC := (.pre [7, 14] (.seq (.reg [oMv 14 150, oMv 7 151, oMv 150 4, oMv 151 5, oMc (.int .i64 (0)) 6] none)
 .ret))
def sp62_23 : AC := (.seq (.reg [oMv 0 78, oLn 78 79, oMc (.int .i64 (0)) 80] none)
 (.block 2 (.loop lb62_21)))
def sq62_24 : AC := (.pre [0, 1, 7] (.seq (.reg [oMc (.int .i64 (0)) 14, oMc (.int .i64 (1)) 15] none)
 (.seq sp62_23
 sq62_22)))
def sp62_25 : AC := (.seq (.reg [oMv 0 33, oLn 33 34, oMc (.int .i64 (0)) 35] none)
 (.block 0 (.loop lb62_10)))
def sp62_26 : AC := (.seq (.reg [oMv 0 23, oLn 23 24, oMv 1 25, oLn 25 26, oBn .neq 24 26 27, oMv 27 28, oMg 0 29 28 false, ⟨.inl .len, [.t 29], some 30, some (28, false), []⟩, ⟨.inl (.bin .gtr), [.t 30, .c (.int .i64 (32))], some 31, some (28, false), []⟩, ⟨.inl .pick, [.t 28, .c (.bool true), .t 31], some 32, none, []⟩] none)
 (.cond (.t 32) st62_0 .skip))
def af62 : AFunc := ⟨2,
 (.seq (.reg [oMc (.int .i64 (0)) 4, oMc (.int .i64 (0)) 5, oMc (.int .i64 (0)) 6] none)
 (.seq sp62_26
 (.seq (.reg [oMc (.int .i64 (1)) 7] none)
 (.seq sp62_25
 sq62_24)))),
 [.t 4, .t 5, .t 6]⟩
def sq63_0 : AC := (.reg [oMv 3 12, oMv 5 13, oBn .add 12 13 14, oMv 14 3] none)
def sp63_1 : AC := (.block 1 (.seq (.reg [oIx 6 8 10, oLd 10 11, oMv 11 5] none)
 sq63_0))
end Go.AM.Ch
