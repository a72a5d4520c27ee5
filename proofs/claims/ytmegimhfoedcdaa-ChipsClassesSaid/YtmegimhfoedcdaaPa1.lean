/- The functions as the abstract machine has them. -/
import Derived.Test.YtmegimhfoedcdaaM3
namespace Go.AM.Ch
def st5_0 : AC := (.reg [oMv 8 45, oBc .add 45 (1) 46, oMv 46 8] none)
def sq5_1 : AC := (.reg [oMv 13 65, oBc .add 65 (1) 66, oMv 66 13] none)
def sq5_2 : AC := (.block 3 (.seq (.reg [oMv 9 62, oMv 13 63, oIx 62 63 64, ⟨.inr (.st 1), [.t 64, .c (.int .i64 (0))], none, none, []⟩] none)
 sq5_1))
def sp5_3 : AC := (.seq (.reg [oMv 13 47, oMv 5 48, oLn 48 49, oBn .lss 47 49 50, oMv 50 51, oMg 5 56 51 true, oMg 13 57 51 true, ⟨.inr (.call true true 35), [.t 56, .t 57], some 58, some (51, true), []⟩, oMg 9 52 51 true, oMg 13 53 51 true, ⟨.inl (.idxA 1), [.t 52, .t 53], some 54, some (51, true), []⟩, ⟨.inl (.ld false 1), [.t 54], some 55, some (51, true), []⟩, ⟨.inl (.bin .sub), [.t 58, .c (.int .i64 (1))], some 59, some (51, true), []⟩, ⟨.inl (.bin .eql), [.t 55, .t 59], some 60, some (51, true), []⟩, oPk 51 60 false 61] (some ([0, 1, 2, 3, 4, 9, 10, 11, 5, 6, 7, 8, 12, 13, 14], [], [0, 0, 2, 7, 15, 31, 31, 127, 255, 31, 31, 1567, 3615, 8191, 16383])))
 (.cond (.t 61) .skip (.exit 2)))
def lb5_4 : AC := (.pre [1, 5, 6, 8, 9, 13] (.seq sp5_3
 sq5_2))
def sq5_5 : AC := (.reg [oMv 9 71, oMv 13 72, oMv 9 73, oMv 13 74, oIx 73 74 75, oLd 75 76, oBc .add 76 (1) 77, oIx 71 72 78, ⟨.inr (.st 1), [.t 78, .t 77], none, none, []⟩] none)
def sp5_6 : AC := (.seq (.reg [oMv 13 67, oMv 5 68, oLn 68 69, oBn .eql 67 69 70] none)
 (.cond (.t 70) (.exit 0) .skip))
def sq5_7 : AC := (.seq (.reg [oMc (.int .i64 (1)) 13] none)
 (.seq (.block 2 (.loop lb5_4))
 (.pre [1, 5, 6, 8, 9, 13] (.seq sp5_6
 sq5_5))))
def sp5_8 : AC := (.seq (.reg [oMv 10 42, oMv 9 43, oCl 22 [.t 42, .t 43] 44] none)
 (.cond (.t 44) st5_0 .skip))
def sp5_9 : AC := (.seq (.reg [oMv 12 40, oBc .neq 40 (0) 41] none)
 (.cond (.t 41) (.seq (.reg [oMc (.bool false) 4] none)
 .ret) .skip))
def lb5_10 : AC := (.pre [1, 5, 6, 8, 9] (.block 1 (.seq (.reg [oMv 5 34, oMv 9 35, oCl 20 [.t 34, .t 35, .c (.int .i64 (0))] 36, oMv 36 33, oEx 0 33 37, oEx 1 33 38, oEx 2 33 39, oMv 37 10, oMv 38 11, oMv 39 12] none)
 (.seq sp5_9
 (.seq sp5_8
 sq5_7)))))
def sq5_11 : AC := (.seq (.reg [oMv 16 99, oBc .eql 99 (0) 100, oMv 100 101, oMg 15 102 101 true, ⟨.inl (.bin .geq), [.t 102, .c (.int .i64 (1))], some 103, some (101, true), []⟩, oPk 101 103 false 104, oMv 104 105, oMg 6 106 105 true, oMg 15 107 105 true, ⟨.inl (.bin .rem), [.t 106, .t 107], some 108, some (105, true), []⟩, ⟨.inl (.bin .eql), [.t 108, .c (.int .i64 (0))], some 109, some (105, true), []⟩, oPk 105 109 false 110, oMv 110 111, ⟨.inr (.call true true 25), [], some 112, some (111, true), []⟩, oPk 111 112 false 113, oMv 113 4] none)
 .ret)
def sq5_12 : AC := (.seq (.reg [oMv 5 94, oMv 14 95, oCl 30 [.t 94, .t 95] 96, oMv 96 93, oEx 0 93 97, oEx 1 93 98, oMv 97 15, oMv 98 16] none)
 sq5_11)
def sq5_13 : AC := (.seq (.reg [oMv 14 89, oCl 32 [.t 89] 90, oMv 14 85, oMv 14 86, ⟨.inl (.idxA 1), [.t 86, .c (.int .i64 (0))], some 87, none, []⟩, oLd 87 88, oBn .sub 88 90 91, ⟨.inl (.idxA 1), [.t 85, .c (.int .i64 (0))], some 92, none, []⟩, ⟨.inr (.st 1), [.t 92, .t 91], none, none, []⟩] (some ([4, 5, 0, 1, 2, 3, 6, 7, 8], [], [0, 0, 2, 6, 0, 16, 62, 127, 255])))
 sq5_12)
def sq5_14 : AC := (.seq (.reg [oMv 5 82, oMv 1 83, ⟨.inr (.call true false 36), [.t 82, .t 83, .c (.int .i64 (1000))], some 84, none, []⟩, oMv 84 14] none)
 sq5_13)
def sp5_15 : AC := (.seq (.reg [oMv 8 79, oMv 6 80, oBn .neq 79 80 81] none)
 (.cond (.t 81) (.seq (.reg [oMc (.bool false) 4] none)
 .ret) .skip))
def sq5_16 : AC := (.seq (.reg [oMv 5 30, oLn 30 31, ⟨.inr (.mkS 1 8 [.int .i64 0]), [.t 31, .t 31], some 32, none, []⟩, oMv 32 9] none)
 (.seq (.block 0 (.loop lb5_10))
 (.pre [1, 5, 6, 8] (.seq sp5_15
 sq5_14))))
def sp5_17 : AC := (.seq (.reg [oMv 7 24, oBc .neq 24 (0) 25, oMv 25 26, oMg 6 27 26 false, ⟨.inl (.bin .lss), [.t 27, .c (.int .i64 (1))], some 28, some (26, false), []⟩, ⟨.inl .pick, [.t 26, .c (.bool true), .t 28], some 29, none, []⟩] none)
 (.cond (.t 29) (.seq (.reg [oMc (.bool false) 4] none)
 .ret) .skip))
def sq5_18 : AC := (.seq (.reg [oMv 5 20, oCl 29 [.t 20] 21, oMv 21 19, oEx 0 19 22, oEx 1 19 23, oMv 22 6, oMv 23 7] none)
 (.seq sp5_17
 (.seq (.reg [oMc (.int .i64 (0)) 8] none)
 sq5_16)))
def sq5_19 : AC := (.seq (.reg [oMv 0 17, oCl 34 [.t 17, .c (.int .i64 (4))] 18, oMv 18 5] none)
 sq5_18)
def af5 : AFunc := ⟨2,
 (.seq (.reg [oMc (.bool false) 4] none)
 sq5_19),
 [.t 4]⟩
def st20_0 : AC := (.seq (.reg [oMc (.nilS) 6, oMc (.nilS) 7, oMc (.int .i64 (2)) 8] none)
 .ret)
def sq20_1 : AC := (.seq (.reg [oMv 9 14, oBc .neq 14 (0) 15, oMv 15 16, oMg 2 17 16 false, oMg 0 18 16 false, ⟨.inl .len, [.t 18], some 19, some (16, false), []⟩, ⟨.inl (.bin .sub), [.t 19, .c (.int .i64 (1))], some 20, some (16, false), []⟩, ⟨.inr (.call true true 53), [.t 17, .c (.int .i64 (0)), .t 20], some 21, some (16, false), []⟩, ⟨.inl (.un .not), [.t 21], some 22, some (16, false), []⟩, ⟨.inl .pick, [.t 16, .c (.bool true), .t 22], some 23, none, []⟩] none)
 (.cond (.t 23) st20_0 .skip))
def sq20_2 : AC := (.seq (.reg [oMv 0 28, oMv 1 29, oMv 10 30, ⟨.inr (.call true false 55), [.t 28, .t 29, .t 30], some 31, none, []⟩, oMv 10 32, oMv 31 6, oMv 32 7, oMc (.int .i64 (0)) 8] none)
 .ret)
def sq20_3 : AC := (.seq (.reg [oMv 0 24, oMv 1 25, oMv 2 26, ⟨.inr (.call true false 54), [.t 24, .t 25, .t 26], some 27, none, []⟩, oMv 27 10] none)
 sq20_2)
def sp20_4 : AC := (.seq (.reg [oMv 0 11, oMv 1 12, oCl 52 [.t 11, .t 12] 13, oMv 13 9] none)
 sq20_1)
def af20 : AFunc := ⟨3,
 (.seq (.reg [oMc (.nilS) 6, oMc (.nilS) 7, oMc (.int .i64 (0)) 8] none)
 (.seq sp20_4
 sq20_3)),
 [.t 6, .t 7, .t 8]⟩
def sq22_0 : AC := (.reg [oMv 5 15, oBc .add 15 (1) 16, oMv 16 5] none)
def sp22_1 : AC := (.block 1 (.seq (.reg [oMv 0 17, oMv 5 18, oIx 17 18 19, oLd 19 20, oMv 1 21, oMv 5 22, oIx 21 22 23, oLd 23 24, oBn .neq 20 24 25] (some ([0, 1, 2, 3, 4, 5, 6, 7, 8], [], [0, 0, 3, 7, 0, 0, 48, 112, 255])))
 (.cond (.t 25) (.seq (.reg [oMc (.bool false) 4] none)
 .ret) .skip)))
def sp22_2 : AC := (.seq (.reg [oMv 5 11, oMv 0 12, oLn 12 13, oBn .lss 11 13 14] none)
 (.cond (.t 14) .skip (.exit 0)))
def lb22_3 : AC := (.pre [0, 1, 5] (.seq sp22_2
 (.seq sp22_1
 sq22_0)))
def sq22_4 : AC := (.seq (.seq (.reg [oMc (.int .i64 (0)) 5] none)
 (.block 0 (.loop lb22_3)))
 (.pre [] (.seq (.reg [oMc (.bool true) 4] none)
 .ret)))
def sp22_5 : AC := (.seq (.reg [oMv 0 6, oLn 6 7, oMv 1 8, oLn 8 9, oBn .neq 7 9 10] none)
 (.cond (.t 10) (.seq (.reg [oMc (.bool false) 4] none)
 .ret) .skip))
def af22 : AFunc := ⟨2,
 (.seq (.reg [oMc (.bool false) 4] none)
 (.seq sp22_5
 sq22_4)),
 [.t 4]⟩
def sq25_0 : AC := (.seq (.cond (.c (.bool false)) (.seq (.reg [oMc (.bool false) 0] none)
 .ret) .skip)
 (.seq (.reg [oMc (.bool true) 0] none)
 .ret))
def sp25_1 : AC := (.seq (.reg [oMv 4 51, oBc .neq 51 (0) 52, oMv 52 53, ⟨.inl (.fldA 0), [.t 3], some 54, some (53, false), []⟩, ⟨.inl (.ld false 1), [.t 54], some 55, some (53, false), []⟩, ⟨.inl .pick, [.t 53, .c (.bool true), .t 55], some 56, none, []⟩, oMv 56 57, oMg 6 58 57 false, ⟨.inl (.bin .neq), [.t 58, .c (.int .i64 (0))], some 59, some (57, false), []⟩, ⟨.inl .pick, [.t 57, .c (.bool true), .t 59], some 60, none, []⟩, oMv 60 61, oMg 5 62 61 false, ⟨.inl (.bin .neq), [.t 62, .c (.int .i64 (2))], some 63, some (61, false), []⟩, ⟨.inl .pick, [.t 61, .c (.bool true), .t 63], some 64, none, []⟩, oMv 64 65, oMg 9 66 65 false, ⟨.inl (.bin .neq), [.t 66, .c (.int .i64 (0))], some 67, some (65, false), []⟩, ⟨.inl .pick, [.t 65, .c (.bool true), .t 67], some 68, none, []⟩, oMv 68 69, oMg 7 70 69 false, ⟨.inr (.bldS true true 1 3 [.int .i64 0] [(0, 1), (1, 1), (2, 1)]), [.c (.int .i64 (2)), .c (.int .i64 (1)), .c (.int .i64 (0))], some 71, some (69, false), []⟩, ⟨.inr (.call true true 22), [.t 70, .t 71], some 72, some (69, false), []⟩, ⟨.inl (.un .not), [.t 72], some 73, some (69, false), []⟩, ⟨.inl .pick, [.t 69, .c (.bool true), .t 73], some 74, none, []⟩, oMv 74 75, oMg 11 76 75 false, ⟨.inl (.bin .neq), [.t 76, .c (.int .i64 (0))], some 77, some (75, false), []⟩, ⟨.inl .pick, [.t 75, .c (.bool true), .t 77], some 78, none, []⟩, oMv 78 79, oMg 10 80 79 false, ⟨.inl (.bin .neq), [.t 80, .c (.int .i64 (1))], some 81, some (79, false), []⟩, ⟨.inl .pick, [.t 79, .c (.bool true), .t 81], some 82, none, []⟩, oMv 82 83, oMg 13 84 83 false, ⟨.inl (.bin .neq), [.t 84, .c (.int .i64 (0))], some 85, some (83, false), []⟩, ⟨.inl .pick, [.t 83, .c (.bool true), .t 85], some 86, none, []⟩, oMv 86 87, oMg 12 88 87 false, ⟨.inl (.bin .neq), [.t 88, .c (.int .i64 (3))], some 89, some (87, false), []⟩, ⟨.inl .pick, [.t 87, .c (.bool true), .t 89], some 90, none, []⟩] none)
 (.cond (.t 90) (.seq (.reg [oMc (.bool false) 0] none)
 .ret) .skip))
def sq25_2 : AC := (.seq (.reg [oMv 2 47, oCl 29 [.t 47] 48, oMv 48 46, oEx 0 46 49, oEx 1 46 50, oMv 49 12, oMv 50 13] none)
 (.seq sp25_1
 sq25_0))
def sq25_3 : AC := (.seq (.reg [oMv 2 41, ⟨.inr (.bldS true true 1 3 [.int .i64 0] [(0, 1), (1, 1), (2, 1)]), [.c (.int .i64 (2)), .c (.int .i64 (0)), .c (.int .i64 (0))], some 42, none, []⟩, oCl 40 [.t 41, .t 42] 43, oMv 43 40, oEx 0 40 44, oEx 1 40 45, oMv 44 10, oMv 45 11] none)
 sq25_2)
def sq25_4 : AC := (.seq (.reg [oMv 2 34, ⟨.inr (.bldS true true 1 3 [.int .i64 0] [(0, 1), (1, 1), (2, 1)]), [.c (.int .i64 (0)), .c (.int .i64 (2)), .c (.int .i64 (1))], some 35, none, []⟩, oCl 20 [.t 34, .t 35, .c (.int .i64 (0))] 36, oMv 36 33, oEx 0 33 37, oEx 1 33 38, oEx 2 33 39, oMv 37 7, oMv 38 8, oMv 39 9] none)
 sq25_3)
def sq25_5 : AC := (.seq (.reg [oMv 1 28, ⟨.inr (.bldS true true 1 2 [.int .i64 0] [(0, 1), (1, 1)]), [.c (.int .i64 (1)), .c (.int .i64 (-1))], some 29, none, []⟩, oCl 30 [.t 28, .t 29] 30, oMv 30 27, oEx 0 27 31, oEx 1 27 32, oMv 31 5, oMv 32 6] none)
 sq25_4)
def sq25_6 : AC := (.seq (.reg [oMv 1 22, ⟨.inr (.bldS true true 1 2 [.int .i64 0] [(0, 1), (1, 1)]), [.c (.int .i64 (1)), .c (.int .i64 (-1))], some 23, none, []⟩, oCl 39 [.t 22, .t 23] 24, oMv 24 21, oEx 0 21 25, oEx 1 21 26, ⟨.inr (.alloc false [.bool false, .nilS, .nilS]), [], some 3, none, []⟩, ⟨.inr (.st 3), [.t 3, .t 25], none, none, []⟩, oMv 26 4] none)
 sq25_5)
def sq25_7 : AC := (.seq (.reg [⟨.inr (.bldS true true 1 3 [.int .i64 0] [(0, 1), (1, 1), (2, 1)]), [.c (.int .i64 (0)), .c (.int .i64 (1)), .c (.int .i64 (1))], some 17, none, []⟩, ⟨.inr (.bldS true true 1 3 [.int .i64 0] [(0, 1), (1, 1), (2, 1)]), [.c (.int .i64 (1)), .c (.int .i64 (0)), .c (.int .i64 (1))], some 18, none, []⟩, ⟨.inr (.bldS true true 1 3 [.int .i64 0] [(0, 1), (1, 1), (2, 1)]), [.c (.int .i64 (1)), .c (.int .i64 (1)), .c (.int .i64 (0))], some 19, none, []⟩, ⟨.inr (.bldS true true 1 3 [.nilS] [(0, 1), (1, 1), (2, 1)]), [.t 17, .t 18, .t 19], some 20, none, []⟩, oMv 20 2] none)
 sq25_6)
def sq25_8 : AC := (.seq (.reg [⟨.inr (.bldS true true 1 2 [.int .i64 0] [(0, 1), (1, 1)]), [.c (.int .i64 (0)), .c (.int .i64 (2))], some 14, none, []⟩, ⟨.inr (.bldS true true 1 2 [.int .i64 0] [(0, 1), (1, 1)]), [.c (.int .i64 (2)), .c (.int .i64 (0))], some 15, none, []⟩, ⟨.inr (.bldS true true 1 2 [.nilS] [(0, 1), (1, 1)]), [.t 14, .t 15], some 16, none, []⟩, oMv 16 1] none)
 sq25_7)
def af25 : AFunc := ⟨0,
 (.seq (.reg [oMc (.bool false) 0] none)
 sq25_8),
 [.t 0]⟩
def st29_0 : AC := (.seq (.reg [oMc (.int .i64 (0)) 2, oMc (.int .i64 (2)) 3] none)
 .ret)
def sq29_1 : AC := (.reg [oMv 5 21, oMv 0 22, oMv 7 23, oCl 61 [.t 22, .t 23] 24, ⟨.inr (.bldS true true 1 1 [.int .i64 0] [(0, 1)]), [.t 24], some 25, none, []⟩, ⟨.inr (.app false 1 8), [.t 21, .t 25], some 26, none, []⟩, oMv 26 5] none)
def sq29_2 : AC := (.reg [oBc .add 17 (1) 27, oMv 27 17] none)
def sp29_3 : AC := (.block 1 (.seq (.reg [oIx 15 17 19, oLd 19 20, oMv 20 7] none)
 sq29_1))
def lb29_4 : AC := (.pre [0, 4, 5, 15, 16, 17] (.seq (.reg [oBn .lss 17 16 18] none)
 (.seq (.cond (.t 18) .skip (.exit 0))
 (.seq sp29_3
 sq29_2))))
def sq29_5 : AC := (.seq (.reg [oMv 8 35, oMv 35 2, oMc (.int .i64 (0)) 3] none)
 .ret)
def sq29_6 : AC := (.pre [4, 5] (.seq (.reg [oMv 5 29, oMv 4 30, oCl 62 [.t 29, .t 30] 31, oMv 31 28, oEx 0 28 32, oEx 1 28 33, oEx 2 28 34, oMv 32 8, oMv 33 9, oMv 34 10] none)
 sq29_5))
def sp29_7 : AC := (.seq (.reg [oMv 4 15, oLn 15 16, oMc (.int .i64 (0)) 17] none)
 (.block 0 (.loop lb29_4)))
def sq29_8 : AC := (.seq (.reg [⟨.inr (.bldS true true 1 2 [.int .i64 0] [(0, 1), (1, 1)]), [.c (.int .i64 (2147483647)), .c (.int .i64 (2147483629))], some 14, none, []⟩, oMv 14 4] none)
 (.seq (.reg [oMc (.nilS) 5] none)
 (.seq sp29_7
 sq29_6)))
def sp29_9 : AC := (.seq (.reg [oMv 0 11, oCl 60 [.t 11] 12, ⟨.inl (.un .not), [.t 12], some 13, none, []⟩] none)
 (.cond (.t 13) st29_0 .skip))
def af29 : AFunc := ⟨1,
 (.seq (.reg [oMc (.int .i64 (0)) 2, oMc (.int .i64 (0)) 3] none)
 (.seq sp29_9
 sq29_8)),
 [.t 2, .t 3]⟩
def st30_0 : AC := (.seq (.reg [oMv 6 15, oMc (.int .i64 (0)) 4, oMv 15 5] none)
 .ret)
def sq30_1 : AC := (.seq (.reg [oMv 6 13, oBc .neq 13 (0) 14] none)
 (.cond (.t 14) st30_0 .skip))
def st30_2 : AC := (.seq (.reg [oMc (.int .i64 (0)) 4, oMc (.int .i64 (6)) 5] none)
 .ret)
def sq30_3 : AC := (.seq (.reg [oMv 9 25, oMv 9 26, oMv 1 27, oMv 9 28, oMv 1 29, oCl 54 [.t 28, .t 29, .c (.int .i64 (0))] 30, oCl 55 [.t 26, .t 27, .t 30] 31, oMv 7 32, oCl 64 [.t 25, .t 31, .t 32] 33, oMv 33 4, oMc (.int .i64 (0)) 5] none)
 .ret)
def sq30_4 : AC := (.seq (.reg [oMv 0 20, oCl 29 [.t 20] 21, oMv 21 19, oEx 0 19 22, oEx 1 19 23, oMv 22 7, oMv 23 8] none)
 (.seq (.reg [oMv 0 24, oMv 24 9] none)
 sq30_3))
def sp30_5 : AC := (.seq (.reg [oMv 1 16, oCl 63 [.t 16] 17, oBc .neq 17 (0) 18] none)
 (.cond (.t 18) st30_2 .skip))
def sp30_6 : AC := (.seq (.reg [oMv 0 10, oMv 1 11, oCl 52 [.t 10, .t 11] 12, oMv 12 6] none)
 sq30_1)
def af30 : AFunc := ⟨2,
 (.seq (.reg [oMc (.int .i64 (0)) 4, oMc (.int .i64 (0)) 5] none)
 (.seq sp30_6
 (.seq sp30_5
 sq30_4))),
 [.t 4, .t 5]⟩
def sq32_0 : AC := (.reg [oMv 4 9, oBc .add 9 (1) 10, oMv 10 4] none)
def sp32_1 : AC := (.block 1 (.reg [oMv 3 11, oMv 0 12, oMv 4 13, oIx 12 13 14, oLd 14 15, oBn .add 11 15 16, oMv 16 3] none))
def sp32_2 : AC := (.seq (.reg [oMv 4 5, oMv 0 6, oLn 6 7, oBn .lss 5 7 8] none)
 (.cond (.t 8) .skip (.exit 0)))
def lb32_3 : AC := (.pre [0, 3, 4] (.seq sp32_2
 (.seq sp32_1
 sq32_0)))
def sq32_4 : AC := (.seq (.seq (.reg [oMc (.int .i64 (0)) 4] none)
 (.block 0 (.loop lb32_3)))
 (.pre [3] (.seq (.reg [oMv 3 17, oMv 17 2] none)
 .ret)))
def af32 : AFunc := ⟨1,
 (.seq (.reg [oMc (.int .i64 (0)) 2] none)
 (.seq (.reg [oMc (.int .i64 (0)) 3] none)
 sq32_4)),
 [.t 2]⟩
def sq34_0 : AC := (.reg [oMv 7 21, oBc .add 21 (1) 22, oMv 22 7] none)
def sp34_1 : AC := (.block 1 (.reg [oMv 6 23, oMv 5 24, ⟨.inr (.mkS 1 8 [.int .i64 0]), [.t 24, .t 24], some 25, none, []⟩, ⟨.inr (.bldB 1 1 [.nilS] [(0, 1)]), [.t 25], some 26, none, []⟩, ⟨.inr (.appB 1 24), [.t 23, .t 26], some 27, none, []⟩, oMv 27 6] none))
def sp34_2 : AC := (.seq (.reg [oMv 7 18, oMv 5 19, oBn .lss 18 19 20] none)
 (.cond (.t 20) .skip (.exit 0)))
def lb34_3 : AC := (.pre [0, 5, 6, 7] (.seq sp34_2
 (.seq sp34_1
 sq34_0)))
def st34_4 : AC := (.reg [oMv 0 48, oMv 8 49, oIx 48 49 50, oLd 50 51, oMv 8 52, oIx 51 52 53, oLd 53 54, oMv 8 55, oCl 49 [.t 54, .t 55] 56, oMv 8 57, oBn .add 56 57 58, oBc .sub 58 (1) 59, oMv 8 60, oCl 49 [.t 59, .t 60] 61, oMv 61 9] none)
def st34_5 : AC := (.reg [oMv 0 80, oMv 8 81, oIx 80 81 82, oLd 82 83, oMv 10 84, oIx 83 84 85, oLd 85 86, oCl 49 [.t 86, .c (.int .i64 (4))] 87, oMv 87 11] none)
def st34_6 : AC := (.reg [oMv 11 91, ⟨.inl .mx, [.t 91, .c (.int .i64 (1))], some 92, none, []⟩, oMv 92 11] none)
def sq34_7 : AC := (.reg [oMv 6 100, oMv 10 101, oIx 100 101 102, oLd 102 103, oMv 8 104, oMv 11 105, oIx 103 104 106, ⟨.inr (.st 1), [.t 106, .t 105], none, none, []⟩] none)
def sq34_8 : AC := (.seq (.reg [oMv 6 93, oMv 8 94, oIx 93 94 95, oLd 95 96, oMv 10 97, oMv 11 98, oIx 96 97 99, ⟨.inr (.st 1), [.t 99, .t 98], none, none, []⟩] none)
 sq34_7)
def sp34_9 : AC := (.seq (.reg [oMv 10 88, oMv 9 89, oBn .eql 88 89 90] none)
 (.cond (.t 90) st34_6 .skip))
def sp34_10 : AC := (.seq (.reg [oMv 8 67, oMv 0 68, oLn 68 69, oBn .lss 67 69 70, oMv 70 71, oMg 10 72 71 true, oMg 0 73 71 true, oMg 8 74 71 true, ⟨.inl (.idxA 1), [.t 73, .t 74], some 75, some (71, true), []⟩, ⟨.inl (.ld false 1), [.t 75], some 76, some (71, true), []⟩, ⟨.inl .len, [.t 76], some 77, some (71, true), []⟩, ⟨.inl (.bin .lss), [.t 72, .t 77], some 78, some (71, true), []⟩, oPk 71 78 false 79] none)
 (.cond (.t 79) st34_5 .skip))
def sq34_11 : AC := (.reg [oMv 10 65, oBc .add 65 (1) 66, oMv 66 10] none)
def sp34_12 : AC := (.block 5 (.seq (.reg [oMc (.int .i64 (0)) 11] none)
 (.seq sp34_10
 (.seq sp34_9
 sq34_8))))
def sp34_13 : AC := (.seq (.reg [oMv 10 62, oMv 8 63, oBn .lss 62 63 64] none)
 (.cond (.t 64) .skip (.exit 4)))
def lb34_14 : AC := (.pre [0, 5, 6, 8, 9, 10] (.seq sp34_13
 (.seq sp34_12
 sq34_11)))
def sp34_15 : AC := (.seq (.reg [oMv 8 35, oMv 0 36, oLn 36 37, oBn .lss 35 37 38, oMv 38 39, oMg 8 40 39 true, oMg 0 41 39 true, oMg 8 42 39 true, ⟨.inl (.idxA 1), [.t 41, .t 42], some 43, some (39, true), []⟩, ⟨.inl (.ld false 1), [.t 43], some 44, some (39, true), []⟩, ⟨.inl .len, [.t 44], some 45, some (39, true), []⟩, ⟨.inl (.bin .lss), [.t 40, .t 45], some 46, some (39, true), []⟩, oPk 39 46 false 47] none)
 (.cond (.t 47) st34_4 .skip))
def sq34_16 : AC := (.pre [0, 5, 6, 8] (.reg [oMv 8 31, oBc .add 31 (1) 32, oMv 32 8] none))
def sp34_17 : AC := (.block 3 (.seq (.reg [oMv 8 33, oBc .sub 33 (1) 34, oMv 34 9] none)
 (.seq sp34_15
 (.seq (.reg [oMc (.int .i64 (0)) 10] none)
 (.block 4 (.loop lb34_14))))))
def sp34_18 : AC := (.seq (.reg [oMv 8 28, oMv 5 29, oBn .lss 28 29 30] none)
 (.cond (.t 30) .skip (.exit 2)))
def lb34_19 : AC := (.pre [0, 5, 6, 8] (.seq sp34_18
 (.seq sp34_17
 sq34_16)))
def sq34_20 : AC := (.pre [0, 5, 6] (.seq (.seq (.reg [oMc (.int .i64 (1)) 8] none)
 (.block 2 (.loop lb34_19)))
 (.pre [6] (.seq (.reg [oMv 6 107, oMv 107 4] none)
 .ret))))
def sq34_21 : AC := (.seq (.reg [oMc (.nilS) 6] none)
 (.seq (.seq (.reg [oMc (.int .i64 (0)) 7] none)
 (.block 0 (.loop lb34_3)))
 sq34_20))
def sq34_22 : AC := (.seq (.reg [oMv 0 12, oLn 12 13, oBc .sub 13 (1) 14, oMv 1 15, oCl 49 [.t 14, .t 15] 16, ⟨.inl (.bin .add), [.c (.int .i64 (1)), .t 16], some 17, none, []⟩, oMv 17 5] none)
 sq34_21)
def af34 : AFunc := ⟨2,
 (.seq (.reg [oMc (.nilS) 4] none)
 sq34_22),
 [.t 4]⟩
def sq35_0 : AC := (.seq (.reg [oMv 0 5, oMv 1 6, oIx 5 6 7, oLd 7 8, oCl 32 [.t 8] 9, oMv 9 4] none)
 .ret)
def af35 : AFunc := ⟨2,
 (.seq (.reg [oMc (.int .i64 (0)) 4] none)
 sq35_0),
 [.t 4]⟩
def st36_0 : AC := (.reg [oMv 1 20, oMv 8 21, oIx 20 21 22, oLd 22 23, oMv 23 9] none)
def st36_1 : AC := (.reg [oMv 9 33, oMv 2 34, ⟨.inl (.bin .mul), [.c (.int .i64 (2)), .t 34], some 35, none, []⟩, oBc .add 35 (1) 36, oCl 49 [.t 33, .t 36] 37, oMv 2 38, oBn .sub 37 38 39, oMv 39 9] none)
def sq36_2 : AC := (.reg [oMv 7 40, oMv 9 41, ⟨.inr (.bldS true true 1 1 [.int .i64 0] [(0, 1)]), [.t 41], some 42, none, []⟩, ⟨.inr (.app false 1 8), [.t 40, .t 42], some 43, none, []⟩, oMv 43 7] none)
def sp36_3 : AC := (.seq (.reg [oMv 9 24, oMv 2 25, ⟨.inl (.un .neg), [.t 25], some 26, none, []⟩, oBn .lss 24 26 27, oMv 27 28, oMg 9 29 28 false, oMg 2 30 28 false, ⟨.inl (.bin .gtr), [.t 29, .t 30], some 31, some (28, false), []⟩, ⟨.inl .pick, [.t 28, .c (.bool true), .t 31], some 32, none, []⟩] none)
 (.cond (.t 32) st36_1 .skip))
def sp36_4 : AC := (.seq (.reg [oMv 8 16, oMv 1 17, oLn 17 18, oBn .lss 16 18 19] none)
 (.cond (.t 19) st36_0 .skip))
def sq36_5 : AC := (.reg [oMv 8 14, oBc .add 14 (1) 15, oMv 15 8] none)
def sp36_6 : AC := (.block 1 (.seq (.reg [oMc (.int .i64 (0)) 9] none)
 (.seq sp36_4
 (.seq sp36_3
 sq36_2))))
def sp36_7 : AC := (.seq (.reg [oMv 8 10, oMv 0 11, oLn 11 12, oBn .lss 10 12 13] none)
 (.cond (.t 13) .skip (.exit 0)))
def lb36_8 : AC := (.pre [0, 1, 2, 7, 8] (.seq sp36_7
 (.seq sp36_6
 sq36_5)))
def sq36_9 : AC := (.seq (.seq (.reg [oMc (.int .i64 (0)) 8] none)
 (.block 0 (.loop lb36_8)))
 (.pre [7] (.seq (.reg [oMv 7 44, oMv 44 6] none)
 .ret)))
def af36 : AFunc := ⟨3,
 (.seq (.reg [oMc (.nilS) 6] none)
 (.seq (.reg [oMc (.nilS) 7] none)
 sq36_9)),
 [.t 6]⟩
def st39_0 : AC := (.seq (.reg [⟨.inl (.bld [.bool false, .nilS, .nilS] []), [], some 12, none, []⟩, oMv 6 13, ⟨.inr (.st 3), [.t 4, .t 12], none, none, []⟩, oMv 13 5] none)
 .ret)
def sq39_1 : AC := (.seq (.reg [oMv 6 10, oBc .neq 10 (0) 11] none)
 (.cond (.t 11) st39_0 .skip))
def sq39_2 : AC := (.seq (.reg [oMv 0 14, oMv 1 15, ⟨.inr (.call true false 71), [.t 14, .t 15], some 16, none, []⟩, ⟨.inr (.st 3), [.t 4, .t 16], none, none, []⟩, oMc (.int .i64 (0)) 5] none)
 .ret)
def sp39_3 : AC := (.seq (.reg [oMv 0 7, oMv 1 8, oCl 52 [.t 7, .t 8] 9, oMv 9 6] none)
 sq39_1)
def af39 : AFunc := ⟨2,
 (.seq (.reg [⟨.inr (.alloc false [.bool false, .nilS, .nilS]), [], some 4, none, []⟩, oMc (.int .i64 (0)) 5] none)
 (.seq sp39_3
 sq39_2)),
 [.cell 4 true 3, .t 5]⟩
def st40_0 : AC := (.seq (.reg [oMv 6 17, oMc (.int .i64 (0)) 4, oMv 17 5] none)
 .ret)
def sq40_1 : AC := (.seq (.reg [oMv 6 15, oBc .neq 15 (0) 16] none)
 (.cond (.t 16) st40_0 .skip))
def st40_2 : AC := (.seq (.reg [oMc (.int .i64 (0)) 4, oMc (.int .i64 (5)) 5] none)
 .ret)
def st40_3 : AC := (.seq (.reg [oMv 8 36, oMv 9 37, oBn .sub 36 37 38, ⟨.inl .mx, [.c (.int .i64 (-1)), .t 38], some 39, none, []⟩, oMv 39 4, oMc (.int .i64 (0)) 5] none)
 .ret)
def sq40_4 : AC := (.seq (.reg [oMv 8 31, oMv 9 32, ⟨.inl (.bin .mul), [.c (.int .i64 (2)), .t 32], some 33, none, []⟩, oBc .sub 33 (2) 34, oBn .gtr 31 34 35] none)
 (.cond (.t 35) st40_3 .skip))
def sq40_5 : AC := (.block 1 (.reg [oMv 11 58, oBc .add 58 (1) 59, oMv 59 11] none))
def sp40_6 : AC := (.seq (.reg [oMv 10 46, oCl 63 [.t 46] 47, oMv 11 48, oBn .gtr 47 48 49, oMv 49 50, oMg 7 51 50 true, oMg 10 52 50 true, oMg 11 53 50 true, ⟨.inl (.bin .add), [.t 53, .c (.int .i64 (1))], some 54, some (50, true), []⟩, ⟨.inr (.call false true 73), [.t 51, .t 52, .t 54, .c (.int .i64 (0))], some 55, some (50, true), []⟩, ⟨.inl (.un .not), [.t 55], some 56, some (50, true), []⟩, oPk 50 56 false 57] none)
 (.cond (.t 57) .skip (.exit 0)))
def lb40_7 : AC := (.pre [7, 10, 11] (.seq sp40_6
 sq40_5))
def sq40_8 : AC := (.pre [11] (.seq (.reg [oMv 11 60, oMv 60 4, oMc (.int .i64 (0)) 5] none)
 .ret))
def sq40_9 : AC := (.seq (.reg [oMv 7 40, oMv 1 41, oMv 7 42, oMv 1 43, oCl 54 [.t 42, .t 43, .c (.int .i64 (0))] 44, ⟨.inr (.call true false 55), [.t 40, .t 41, .t 44], some 45, none, []⟩, oMv 45 10] none)
 (.seq (.reg [oMc (.int .i64 (-1)) 11] none)
 (.seq (.block 0 (.loop lb40_7))
 sq40_8)))
def sp40_10 : AC := (.seq (.reg [oMv 1 27, oCl 63 [.t 27] 28, oMv 7 29, oCl 72 [.t 29] 30, oMv 28 8, oMv 30 9] none)
 sq40_4)
def sq40_11 : AC := (.seq (.reg [oMv 0 26, oMv 26 7] none)
 (.seq sp40_10
 sq40_9))
def sp40_12 : AC := (.seq (.reg [oMv 0 18, oLn 18 19, oBc .gtr 19 (6) 20, oMv 20 21, oMg 1 22 21 false, ⟨.inr (.call true true 63), [.t 22], some 23, some (21, false), []⟩, ⟨.inl (.bin .gtr), [.t 23, .c (.int .i64 (12))], some 24, some (21, false), []⟩, ⟨.inl .pick, [.t 21, .c (.bool true), .t 24], some 25, none, []⟩] none)
 (.cond (.t 25) st40_2 .skip))
def sp40_13 : AC := (.seq (.reg [oMv 0 12, oMv 1 13, oCl 52 [.t 12, .t 13] 14, oMv 14 6] none)
 sq40_1)
def af40 : AFunc := ⟨2,
 (.seq (.reg [oMc (.int .i64 (0)) 4, oMc (.int .i64 (0)) 5] none)
 (.seq sp40_13
 (.seq sp40_12
 sq40_11))),
 [.t 4, .t 5]⟩
def sq49_0 : AC := (.seq (.reg [oMv 0 5, ⟨.inl (.conv .u64), [.t 5], some 6, none, []⟩, oMv 1 7, ⟨.inl (.conv .u64), [.t 7], some 8, none, []⟩, oBn .rem 6 8 9, ⟨.inl (.conv .i64), [.t 9], some 10, none, []⟩, oMv 10 4] none)
 .ret)
def af49 : AFunc := ⟨2,
 (.seq (.reg [oMc (.int .i64 (0)) 4] none)
 sq49_0),
 [.t 4]⟩
def sp52_0 : AC := (.seq (.reg [oMv 0 5, oCl 60 [.t 5] 6, ⟨.inl (.un .not), [.t 6], some 7, none, []⟩, oMv 7 8, oMg 0 9 8 false, oMg 1 10 8 false, ⟨.inr (.call true true 80), [.t 9, .t 10], some 11, some (8, false), []⟩, ⟨.inl (.un .not), [.t 11], some 12, some (8, false), []⟩, ⟨.inl .pick, [.t 8, .c (.bool true), .t 12], some 13, none, []⟩] none)
 (.cond (.t 13) (.seq (.reg [oMc (.int .i64 (2)) 4] none)
 .ret) .skip))
def af52 : AFunc := ⟨2,
 (.seq (.reg [oMc (.int .i64 (0)) 4] none)
 (.seq sp52_0
 (.seq (.reg [oMc (.int .i64 (0)) 4] none)
 .ret))),
 [.t 4]⟩
def sq53_0 : AC := (.seq (.reg [oMv 0 7, oMv 1 8, oBn .geq 7 8 9, oMv 9 10, oMg 0 11 10 true, oMg 2 12 10 true, ⟨.inl (.bin .leq), [.t 11, .t 12], some 13, some (10, true), []⟩, oPk 10 13 false 14, oMv 14 6] none)
 .ret)
def af53 : AFunc := ⟨3,
 (.seq (.reg [oMc (.bool false) 6] none)
 sq53_0),
 [.t 6]⟩
def sq54_0 : AC := (.reg [oMv 8 29, oMv 29 30, oMg 10 31 30 true, ⟨.inl (.bin .quo), [.t 31, .c (.int .i64 (2))], some 32, some (30, true), []⟩, ⟨.inl (.bin .eql), [.t 32, .c (.int .i64 (0))], some 33, some (30, true), []⟩, oPk 30 33 false 34, oMv 34 8] none)
def sq54_1 : AC := (.seq (.reg [oMv 7 24, oMv 9 25, oMv 10 26, oBc .quo 26 (2) 27, oIx 24 25 28, ⟨.inr (.st 1), [.t 28, .t 27], none, none, []⟩] none)
 sq54_0)
def sq54_2 : AC := (.reg [oBc .add 19 (1) 35, oMv 35 19] none)
def sp54_3 : AC := (.block 1 (.seq (.reg [oMv 19 21, oIx 17 19 22, oLd 22 23, oMv 21 9, oMv 23 10] none)
 sq54_1))
def lb54_4 : AC := (.pre [0, 1, 2, 7, 8, 17, 18, 19] (.seq (.reg [oBn .lss 19 18 20] none)
 (.seq (.cond (.t 20) .skip (.exit 0))
 (.seq sp54_3
 sq54_2))))
def sq54_5 : AC := (.reg [oMv 11 51, oMv 12 52, oMv 13 53, ⟨.inl (.bin .mul), [.c (.int .i64 (2)), .t 53], some 54, none, []⟩, oIx 51 52 55, ⟨.inr (.st 1), [.t 55, .t 54], none, none, []⟩] none)
def sq54_6 : AC := (.reg [oBc .add 46 (1) 56, oMv 56 46] none)
def sp54_7 : AC := (.block 3 (.seq (.reg [oMv 46 48, oIx 44 46 49, oLd 49 50, oMv 48 12, oMv 50 13] none)
 sq54_5))
def lb54_8 : AC := (.pre [0, 1, 2, 11, 44, 45, 46] (.seq (.reg [oBn .lss 46 45 47] none)
 (.seq (.cond (.t 47) .skip (.exit 2))
 (.seq sp54_7
 sq54_6))))
def st54_9 : AC := (.seq (.reg [oMv 0 41, oMv 7 42, oMv 2 43, oCl 54 [.t 41, .t 42, .t 43] 44, oLn 44 45, oMc (.int .i64 (0)) 46] none)
 (.block 2 (.loop lb54_8)))
def sq54_10 : AC := (.pre [0, 1, 2, 11] (.seq (.reg [oMv 11 57, oMv 0 58, oMv 0 59, oMv 1 60, oMv 11 61, oCl 55 [.t 59, .t 60, .t 61] 62, oMv 2 63, oCl 81 [.t 58, .t 62, .t 63] 64, ⟨.inr (.call true false 77), [.t 57, .t 64], some 65, none, []⟩, oMv 65 6] none)
 .ret))
def sp54_11 : AC := (.seq (.reg [oMv 8 39, ⟨.inl (.un .not), [.t 39], some 40, none, []⟩] none)
 (.cond (.t 40) st54_9 .skip))
def sq54_12 : AC := (.pre [0, 1, 2, 7, 8] (.seq (.reg [oMv 1 36, oLn 36 37, ⟨.inr (.mkS 1 8 [.int .i64 0]), [.t 37, .t 37], some 38, none, []⟩, oMv 38 11] none)
 (.seq sp54_11
 sq54_10)))
def sp54_13 : AC := (.seq (.reg [oMv 1 17, oLn 17 18, oMc (.int .i64 (0)) 19] none)
 (.block 0 (.loop lb54_4)))
def sq54_14 : AC := (.seq (.reg [oMv 1 14, oLn 14 15, ⟨.inr (.mkS 1 8 [.int .i64 0]), [.t 15, .t 15], some 16, none, []⟩, oMv 16 7] none)
 (.seq (.reg [oMc (.bool true) 8] none)
 (.seq sp54_13
 sq54_12)))
def af54 : AFunc := ⟨3,
 (.seq (.reg [oMc (.nilS) 6] none)
 sq54_14),
 [.t 6]⟩
def sq55_0 : AC := (.reg [oMv 7 44, oMv 10 45, oIx 44 45 46, oLd 46 47, oMv 9 48, oMv 11 49, oBn .mul 48 49 50, oBn .add 47 50 51, oIx 44 45 52, ⟨.inr (.st 1), [.t 52, .t 51], none, none, []⟩] none)
def sq55_1 : AC := (.seq (.reg [oMv 7 35, oMv 8 36, oIx 35 36 37, oLd 37 38, oMv 9 39, oMv 11 40, oBn .mul 39 40 41, oBn .sub 38 41 42, oIx 35 36 43, ⟨.inr (.st 1), [.t 43, .t 42], none, none, []⟩] none)
 sq55_0)
def sq55_2 : AC := (.reg [oBc .add 30 (1) 53, oMv 53 30] none)
def sp55_3 : AC := (.block 3 (.seq (.reg [oMv 30 32, oIx 28 30 33, oLd 33 34, oMv 32 10, oMv 34 11] none)
 sq55_1))
def lb55_4 : AC := (.pre [0, 7, 8, 9, 18, 19, 20, 28, 29, 30] (.seq (.reg [oBn .lss 30 29 31] none)
 (.seq (.cond (.t 31) .skip (.exit 2))
 (.seq sp55_3
 sq55_2))))
def sq55_5 : AC := (.seq (.reg [oMv 0 25, oMv 8 26, oIx 25 26 27, oLd 27 28, oLn 28 29, oMc (.int .i64 (0)) 30] none)
 (.block 2 (.loop lb55_4)))
def sq55_6 : AC := (.pre [0, 7, 18, 19, 20] (.reg [oBc .add 20 (1) 54, oMv 54 20] none))
def sp55_7 : AC := (.block 1 (.seq (.reg [oMv 20 22, oIx 18 20 23, oLd 23 24, oMv 22 8, oMv 24 9] none)
 sq55_5))
def lb55_8 : AC := (.pre [0, 7, 18, 19, 20] (.seq (.reg [oBn .lss 20 19 21] none)
 (.seq (.cond (.t 21) .skip (.exit 0))
 (.seq sp55_7
 sq55_6))))
def sp55_9 : AC := (.seq (.reg [oMv 2 18, oLn 18 19, oMc (.int .i64 (0)) 20] none)
 (.block 0 (.loop lb55_8)))
def sq55_10 : AC := (.seq sp55_9
 (.pre [7] (.seq (.reg [oMv 7 55, oMv 55 6] none)
 .ret)))
def sq55_11 : AC := (.seq (.reg [oMv 7 15, oMv 1 16, ⟨.inr (.cpy 1), [.t 15, .t 16], some 17, none, []⟩] none)
 sq55_10)
def sq55_12 : AC := (.seq (.reg [oMv 1 12, oLn 12 13, ⟨.inr (.mkS 1 8 [.int .i64 0]), [.t 13, .t 13], some 14, none, []⟩, oMv 14 7] none)
 sq55_11)
def af55 : AFunc := ⟨3,
 (.seq (.reg [oMc (.nilS) 6] none)
 sq55_12),
 [.t 6]⟩
def sq60_0 : AC := (.seq (.reg [oMv 5 21, oLn 21 22, oMv 3 23, oBn .neq 22 23 24] none)
 (.cond (.t 24) (.seq (.reg [oMc (.bool false) 2] none)
 .ret) .skip))
def sq60_1 : AC := (.reg [oBc .add 17 (1) 25, oMv 25 17] none)
def sp60_2 : AC := (.block 1 (.seq (.reg [oIx 15 17 19, oLd 19 20, oMv 20 5] none)
 sq60_0))
def lb60_3 : AC := (.pre [0, 3, 15, 16, 17] (.seq (.reg [oBn .lss 17 16 18] none)
 (.seq (.cond (.t 18) .skip (.exit 0))
 (.seq sp60_2
 sq60_1))))
def sq60_4 : AC := (.seq (.reg [oMv 9 40, oCl 53 [.t 40, .c (.int .i64 (0)), .c (.int .i64 (3))] 41, ⟨.inl (.un .not), [.t 41], some 42, none, []⟩, oMv 42 43, oMg 9 44 43 false, oMg 0 45 43 false, oMg 8 46 43 false, ⟨.inl (.idxA 1), [.t 45, .t 46], some 47, some (43, false), []⟩, ⟨.inl (.ld false 1), [.t 47], some 48, some (43, false), []⟩, oMg 6 49 43 false, ⟨.inl (.idxA 1), [.t 48, .t 49], some 50, some (43, false), []⟩, ⟨.inl (.ld false 1), [.t 50], some 51, some (43, false), []⟩, ⟨.inl (.bin .neq), [.t 44, .t 51], some 52, some (43, false), []⟩, ⟨.inl .pick, [.t 43, .c (.bool true), .t 52], some 53, none, []⟩, oMv 53 54, oMg 6 55 54 false, oMg 8 56 54 false, ⟨.inl (.bin .eql), [.t 55, .t 56], some 57, some (54, false), []⟩, oMg 57 58 54 false, oMg 9 59 58 true, ⟨.inl (.bin .neq), [.t 59, .c (.int .i64 (0))], some 60, some (58, true), []⟩, ⟨.inl .pick, [.t 58, .t 60, .c (.bool false)], some 61, some (54, false), []⟩, ⟨.inl .pick, [.t 54, .c (.bool true), .t 61], some 62, none, []⟩] none)
 (.cond (.t 62) (.seq (.reg [oMc (.bool false) 2] none)
 .ret) .skip))
def sq60_5 : AC := (.reg [oBc .add 35 (1) 63, oMv 63 35] none)
def sp60_6 : AC := (.block 5 (.seq (.reg [oMv 35 37, oIx 33 35 38, oLd 38 39, oMv 37 8, oMv 39 9] none)
 sq60_4))
def lb60_7 : AC := (.pre [0, 6, 26, 27, 28, 33, 34, 35] (.seq (.reg [oBn .lss 35 34 36] none)
 (.seq (.cond (.t 36) .skip (.exit 4))
 (.seq sp60_6
 sq60_5))))
def sq60_8 : AC := (.seq (.reg [oMv 7 33, oLn 33 34, oMc (.int .i64 (0)) 35] none)
 (.block 4 (.loop lb60_7)))
def sq60_9 : AC := (.pre [0, 26, 27, 28] (.reg [oBc .add 28 (1) 64, oMv 64 28] none))
def sp60_10 : AC := (.block 3 (.seq (.reg [oMv 28 30, oIx 26 28 31, oLd 31 32, oMv 30 6, oMv 32 7] none)
 sq60_8))
def lb60_11 : AC := (.pre [0, 26, 27, 28] (.seq (.reg [oBn .lss 28 27 29] none)
 (.seq (.cond (.t 29) .skip (.exit 2))
 (.seq sp60_10
 sq60_9))))
def sq60_12 : AC := (.pre [0] (.seq (.reg [oMv 0 65, oCl 84 [.t 65, .c (.int .i64 (0))] 66, oCl 83 [.t 66, .c (.int .i64 (-1))] 67, ⟨.inl (.un .not), [.t 67], some 68, none, []⟩, oMv 68 2] none)
 .ret))
def sp60_13 : AC := (.seq (.reg [oMv 0 26, oLn 26 27, oMc (.int .i64 (0)) 28] none)
 (.block 2 (.loop lb60_11)))
def sp60_14 : AC := (.seq (.reg [oMv 0 15, oLn 15 16, oMc (.int .i64 (0)) 17] none)
 (.block 0 (.loop lb60_3)))
def sp60_15 : AC := (.seq (.reg [oMv 3 12, oCl 53 [.t 12, .c (.int .i64 (1)), .c (.int .i64 (10))] 13, ⟨.inl (.un .not), [.t 13], some 14, none, []⟩] none)
 (.cond (.t 14) (.seq (.reg [oMc (.bool false) 2] none)
 .ret) .skip))
def sq60_16 : AC := (.seq (.reg [oMv 0 10, oLn 10 11, oMv 11 3] none)
 (.seq sp60_15
 (.seq sp60_14
 (.pre [0] (.seq sp60_13
 sq60_12)))))
def af60 : AFunc := ⟨1,
 (.seq (.reg [oMc (.bool false) 2] none)
 sq60_16),
 [.t 2]⟩
def sq61_0 : AC := (.reg [oMv 6 40, oMv 7 41, oIx 40 41 42, oLd 42 43, oMv 8 44, oMv 1 45, oMv 0 46, oMv 7 47, oBc .add 47 (1) 48, oIx 46 48 49, oLd 49 50, oMv 8 51, oBc .add 51 (1) 52, oIx 50 52 53, oLd 53 54, oBn .sub 45 54 55, oMv 1 56, oBn .rem 55 56 57, oIx 43 44 58, ⟨.inr (.st 1), [.t 58, .t 57], none, none, []⟩] (some ([0, 1, 2, 3, 4, 5, 6, 7, 8, 9, 10, 11, 12, 13, 14, 15, 16, 17, 18, 19], [], [0, 0, 3, 7, 0, 0, 0, 0, 128, 448, 960, 0, 2048, 8128, 16320, 32736, 0, 131040, 262143, 524287])))
def sq61_1 : AC := (.reg [oBc .add 37 (1) 59, oMv 59 37] none)
def sq61_2 : AC := (.seq (.block 3 (.seq (.reg [oMv 37 39, oMv 39 8] none)
 sq61_0))
 sq61_1)
def lb61_3 : AC := (.pre [0, 1, 5, 6, 7, 23, 24, 36, 37] (.seq (.reg [oBn .lss 37 36 38] none)
 (.seq (.cond (.t 38) .skip (.exit 2))
 sq61_2)))
def sq61_4 : AC := (.pre [0, 1, 5, 6, 7, 23, 24] (.reg [oMv 0 65, oMv 7 66, oBc .add 66 (1) 67, oCl 74 [.t 65, .t 67] 68, oMv 6 60, oMv 7 61, oIx 60 61 62, oLd 62 63, oMv 7 64, oIx 63 64 69, ⟨.inr (.st 1), [.t 69, .t 68], none, none, []⟩] (some ([5, 6, 7, 8, 0, 1, 2, 3, 4, 9, 10], [], [0, 0, 3, 7, 0, 0, 0, 64, 224, 511, 1023]))))
def sp61_5 : AC := (.seq (.reg [oMv 6 32, oMv 7 33, oIx 32 33 34, oLd 34 35, oLn 35 36, oMc (.int .i64 (0)) 37] none)
 (.block 2 (.loop lb61_3)))
def sq61_6 : AC := (.seq (.reg [oMv 6 27, oMv 7 28, oMv 5 29, ⟨.inr (.mkS 1 8 [.int .i64 0]), [.t 29, .t 29], some 30, none, []⟩, oIx 27 28 31, ⟨.inr (.st 1), [.t 31, .t 30], none, none, []⟩] none)
 (.seq sp61_5
 sq61_4))
def sq61_7 : AC := (.pre [0, 1, 5, 6, 23, 24] (.reg [oBc .add 24 (1) 70, oMv 70 24] none))
def sq61_8 : AC := (.seq (.block 1 (.seq (.reg [oMv 24 26, oMv 26 7] none)
 sq61_6))
 sq61_7)
def lb61_9 : AC := (.pre [0, 1, 5, 6, 23, 24] (.seq (.reg [oBn .lss 24 23 25] none)
 (.seq (.cond (.t 25) .skip (.exit 0))
 sq61_8)))
def sq61_10 : AC := (.reg [oMv 1 102, oMv 9 103, oBn .sub 102 103 104, oMv 1 105, oBn .rem 104 105 106, oMv 106 9] none)
def st61_11 : AC := (.seq (.reg [oMv 6 84, oLd 10 85, oMv 6 90, oLd 10 91, oMv 11 92, oBn .add 91 92 93, oIx 90 93 94, oLd 94 95, oMv 6 96, oLd 10 97, oIx 96 97 98, oLd 98 99, oIx 84 85 100, ⟨.inr (.st 1), [.t 100, .t 95], none, none, [.t 10]⟩, oMv 6 86, oLd 10 87, oMv 11 88, oBn .add 87 88 89, oIx 86 89 101, ⟨.inr (.st 1), [.t 101, .t 99], none, none, []⟩] (some ([0, 1, 6, 7, 8, 9, 10, 11, 12, 13, 14, 15, 16, 17, 2, 3, 4, 5, 18, 19], [], [0, 0, 0, 0, 0, 24, 0, 0, 0, 384, 960, 1984, 0, 0, 12288, 28672, 65475, 131011, 262143, 524287])))
 sq61_10)
def sq61_12 : AC := (.reg [oMv 16 152, oBc .add 152 (1) 153, oMv 153 16] none)
def sp61_13 : AC := (.block 9 (.reg [oMv 6 154, oMv 14 155, oIx 154 155 156, oLd 156 157, oMv 16 158, oMv 6 159, oMv 14 160, oIx 159 160 161, oLd 161 162, oMv 16 163, oIx 162 163 164, oLd 164 165, oMv 1 166, oMv 15 167, oBn .sub 166 167 168, oMv 6 169, oLd 10 170, oIx 169 170 171, oLd 171 172, oMv 16 173, oIx 172 173 174, oLd 174 175, oBn .mul 168 175 176, oBn .add 165 176 177, oMv 1 178, oBn .rem 177 178 179, oIx 157 158 180, ⟨.inr (.st 1), [.t 180, .t 179], none, none, []⟩] (some ([0, 1, 2, 3, 4, 5, 6, 7, 8, 9, 10, 11, 12, 13, 14, 15, 16, 17, 18, 19, 20, 21, 22, 23, 24, 25, 26, 27], [], [0, 0, 3, 7, 0, 0, 0, 96, 224, 0, 992, 2016, 0, 0, 12288, 0, 0, 98304, 229376, 0, 1015808, 2064384, 4190208, 8388576, 0, 33554400, 67108863, 134217727]))))
def sp61_14 : AC := (.seq (.reg [oMv 16 149, oMv 5 150, oBn .lss 149 150 151] none)
 (.cond (.t 151) .skip (.exit 8)))
def lb61_15 : AC := (.pre [1, 5, 6, 9, 10, 12, 14, 15, 16, 71, 72] (.seq sp61_14
 (.seq sp61_13
 sq61_12)))
def sq61_16 : AC := (.seq (.reg [oLd 10 148, oMv 148 16] none)
 (.block 8 (.loop lb61_15)))
def sq61_17 : AC := (.pre [1, 5, 6, 9, 10, 12, 14, 71, 72] (.reg [oMv 14 135, oBc .add 135 (1) 136, oMv 136 14] none))
def sp61_18 : AC := (.block 7 (.seq (.reg [oMv 6 137, oMv 14 138, oIx 137 138 139, oLd 139 140, oLd 10 141, oIx 140 141 142, oLd 142 143, oMv 12 144, oBn .mul 143 144 145, oMv 1 146, oBn .rem 145 146 147, oMv 147 15] (some ([0, 1, 2, 3, 4, 5, 6, 7, 8, 9, 10, 11], [], [0, 0, 3, 7, 0, 31, 63, 0, 255, 0, 1023, 2047])))
 sq61_16))
def sp61_19 : AC := (.seq (.reg [oMv 14 132, oMv 5 133, oBn .lss 132 133 134] none)
 (.cond (.t 134) .skip (.exit 6)))
def lb61_20 : AC := (.pre [1, 5, 6, 9, 10, 12, 14, 71, 72] (.seq sp61_19
 (.seq sp61_18
 sq61_17)))
def sq61_21 : AC := (.seq (.reg [oLd 10 130, oBc .add 130 (1) 131, oMv 131 14] none)
 (.block 6 (.loop lb61_20)))
def sq61_22 : AC := (.seq (.reg [oMv 6 119, oLd 10 120, oIx 119 120 121, oLd 121 122, oLd 10 123, oIx 122 123 124, oLd 124 125, oMv 1 126, oCl 87 [.t 125, .t 126] 127, oMv 127 118, oEx 0 118 128, oEx 1 118 129, oMv 128 12, oMv 129 13] (some ([0, 1, 2, 3, 4, 5, 6, 7, 8, 9, 10, 11, 12, 13], [], [0, 0, 3, 7, 0, 31, 63, 0, 255, 511, 1023, 1023, 2047, 8191])))
 sq61_21)
def sq61_23 : AC := (.seq (.reg [oMv 9 107, oMv 6 108, oLd 10 109, oIx 108 109 110, oLd 110 111, oLd 10 112, oIx 111 112 113, oLd 113 114, oBn .mul 107 114 115, oMv 1 116, oBn .rem 115 116 117, oMv 117 9] (some ([0, 1, 2, 3, 4, 5, 6, 7, 8, 9, 10, 11], [], [0, 0, 0, 6, 14, 0, 62, 126, 255, 0, 1023, 2047])))
 sq61_22)
def sp61_24 : AC := (.seq (.reg [oMv 11 82, oBc .gtr 82 (0) 83] none)
 (.cond (.t 83) st61_11 .skip))
def sp61_25 : AC := (.seq (.reg [oMv 11 80, oBc .lss 80 (0) 81] none)
 (.cond (.t 81) (.seq (.reg [oMc (.int .i64 (0)) 4] none)
 .ret) .skip))
def sq61_26 : AC := (.seq (.reg [oMv 6 75, oLd 10 76, ⟨.inl (.slc 1 true false), [.t 75, .t 76], some 77, none, []⟩, ⟨.inl (.mkfn 86), [.t 10], some 78, none, []⟩, oCl 85 [.t 77, .t 78] 79, oMv 79 11] none)
 (.seq sp61_25
 (.seq sp61_24
 sq61_23)))
def sq61_27 : AC := (.pre [1, 5, 6, 9, 71, 72] (.reg [oBc .add 72 (1) 181, oMv 181 72] none))
def sp61_28 : AC := (.block 5 (.seq (.reg [oMv 72 74, ⟨.inr (.alloc true [.int .i64 0]), [], some 10, none, []⟩, ⟨.inr (.st 1), [.t 10, .t 74], none, none, []⟩] none)
 sq61_26))
def lb61_29 : AC := (.pre [1, 5, 6, 9, 71, 72] (.seq (.reg [oBn .lss 72 71 73] none)
 (.seq (.cond (.t 73) .skip (.exit 4))
 (.seq sp61_28
 sq61_27))))
def sp61_30 : AC := (.seq (.reg [oMv 5 71, oMc (.int .i64 (0)) 72] none)
 (.block 4 (.loop lb61_29)))
end Go.AM.Ch
