/- The functions as the abstract machine has them. -/
import Derived.Test.YtdgkchedoooffaaPa1
namespace Go.AM.Tb
def lb60_4 : AC := (.pre [0, 1, 4, 5, 6, 7, 8, 9] (.seq sp60_3
 (.seq sp60_2
 sq60_1)))
def sq60_5 : AC := (.reg [oMv 11 79, oMv 13 80, oMv 11 81, oMv 13 82, oIx 81 82 83, oLd 83 84, oMv 12 85, ⟨.inr (.bldS true true 1 1 [.int .i64 0] [(0, 1)]), [.t 85], some 86, none, []⟩, ⟨.inr (.app false 1 8), [.t 84, .t 86], some 87, none, []⟩, oIx 79 80 88, ⟨.inr (.st 1), [.t 88, .t 87], none, none, []⟩] none)
def st60_6 : AC := (.seq (.reg [oMv 8 74, oMv 12 75, oCl 83 [.t 75] 76, oIx 74 76 77, oLd 77 78, oMv 78 13] none)
 sq60_5)
def sq60_7 : AC := (.seq (.reg [oMv 12 64, oCl 82 [.t 64] 65, oMv 12 69, oCl 83 [.t 69] 70, oMv 8 63, oIx 63 65 66, oLd 66 67, oMv 8 68, oIx 68 70 71, oLd 71 72, oBn .gtr 67 72 73] (some ([1, 2, 6, 7, 0, 3, 4, 5, 8, 9, 10], [], [0, 0, 2, 7, 15, 0, 0, 70, 230, 486, 1023])))
 (.cond (.t 73) st60_6 .skip))
def sq60_8 : AC := (.reg [oBc .add 60 (1) 89, oMv 89 60] none)
def sq60_9 : AC := (.seq (.block 3 (.seq (.reg [oMv 60 62, oMv 62 12] none)
 sq60_7))
 sq60_8)
def lb60_10 : AC := (.pre [4, 5, 7, 8, 10, 11, 59, 60] (.seq (.reg [oBn .lss 60 59 61] none)
 (.seq (.cond (.t 61) .skip (.exit 2))
 sq60_9)))
def st60_11 : AC := (.reg [⟨.inl (.fldA 1), [.t 10], some 99, none, []⟩, oLd 99 100, oMv 15 101, ⟨.inr (.bldB 1 1 [.nilS] [(0, 1)]), [.t 101], some 102, none, []⟩, ⟨.inr (.appB 1 24), [.t 100, .t 102], some 103, none, []⟩, ⟨.inl (.fldA 1), [.t 10], some 104, none, []⟩, ⟨.inr (.st 1), [.t 104, .t 103], none, none, []⟩] none)
def sq60_12 : AC := (.seq (.reg [oMv 15 96, oLn 96 97, oBc .gtr 97 (0) 98] none)
 (.cond (.t 98) st60_11 .skip))
def sq60_13 : AC := (.reg [oBc .add 92 (1) 105, oMv 105 92] none)
def sp60_14 : AC := (.block 5 (.seq (.reg [oIx 90 92 94, oLd 94 95, oMv 95 15] none)
 sq60_12))
def lb60_15 : AC := (.pre [4, 5, 7, 10, 90, 91, 92] (.seq (.reg [oBn .lss 92 91 93] none)
 (.seq (.cond (.t 93) .skip (.exit 4))
 (.seq sp60_14
 sq60_13))))
def sq60_16 : AC := (.pre [4, 5, 7, 10, 11] (.seq (.reg [oMv 11 90, oLn 90 91, oMc (.int .i64 (0)) 92] none)
 (.block 4 (.loop lb60_15))))
def sp60_17 : AC := (.seq (.reg [oMv 0 58, oLn 58 59, oMc (.int .i64 (0)) 60] none)
 (.block 2 (.loop lb60_10)))
def st60_18 : AC := (.seq (.reg [oMv 8 53, ⟨.inl (.idxA 1), [.t 53, .c (.int .i64 (1))], some 54, none, []⟩, oLd 54 55, oBc .add 55 (1) 56, ⟨.inr (.mkB 1 24 [.nilS]), [.t 56, .t 56], some 57, none, []⟩, oMv 57 11] none)
 (.seq sp60_17
 sq60_16))
def st60_19 : AC := (.reg [⟨.inl (.fldA 0), [.t 10], some 114, none, []⟩, oLd 114 115, oMv 16 116, ⟨.inr (.bldB 1 1 [.nilS] [(0, 1)]), [.t 116], some 117, none, []⟩, ⟨.inr (.appB 1 24), [.t 115, .t 117], some 118, none, []⟩, ⟨.inl (.fldA 0), [.t 10], some 119, none, []⟩, ⟨.inr (.st 1), [.t 119, .t 118], none, none, []⟩] none)
def sq60_20 : AC := (.seq (.reg [oMv 16 111, oLn 111 112, oBc .gtr 112 (0) 113] none)
 (.cond (.t 113) st60_19 .skip))
def sq60_21 : AC := (.reg [oBc .add 107 (1) 120, oMv 120 107] none)
def sp60_22 : AC := (.block 7 (.seq (.reg [oMv 5 109, ⟨.inr (.call false true 84), [.t 109], some 110, none, []⟩, oMv 110 16] none)
 sq60_20))
def lb60_23 : AC := (.pre [4, 5, 10, 106, 107] (.seq (.reg [oBn .lss 107 106 108] none)
 (.seq (.cond (.t 108) .skip (.exit 6))
 (.seq sp60_22
 sq60_21))))
def sq60_24 : AC := (.pre [4, 10] (.seq (.reg [⟨.inl (.ld true 2), [.t 10], some 121, none, []⟩, ⟨.inr (.st 2), [.t 4, .t 121], none, none, []⟩] none)
 .ret))
def sp60_25 : AC := (.seq (.reg [oMv 7 106, oMc (.int .i64 (0)) 107] none)
 (.block 6 (.loop lb60_23)))
def sp60_26 : AC := (.seq (.reg [oMv 7 50, oMv 1 51, oBn .eql 50 51 52] none)
 (.cond (.t 52) st60_18 .skip))
def sq60_27 : AC := (.pre [0, 1, 4, 5, 7, 8] (.seq (.reg [⟨.inl (.bld [.nilS, .nilS] []), [], some 49, none, []⟩, ⟨.inr (.alloc false [.nilS, .nilS]), [], some 10, none, []⟩, ⟨.inr (.st 2), [.t 10, .t 49], none, none, []⟩] none)
 (.seq sp60_26
 (.pre [4, 5, 7, 10] (.seq sp60_25
 sq60_24)))))
def sq60_28 : AC := (.seq (.reg [oMv 5 24, oMv 6 25, oCl 80 [.t 24, .t 25] 26, oMv 26 23, oEx 0 23 27, oEx 1 23 28, oMv 27 8, oMv 28 9] none)
 (.seq (.block 0 (.loop lb60_4))
 sq60_27))
def sq60_29 : AC := (.seq (.reg [oMv 0 19, oLn 19 20, ⟨.inl (.bin .mul), [.c (.int .i64 (2)), .t 20], some 21, none, []⟩, ⟨.inl (.bin .add), [.c (.int .i64 (2)), .t 21], some 22, none, []⟩, oMv 22 6] none)
 (.seq (.reg [oMc (.int .i64 (0)) 7] none)
 sq60_28))
def sq60_30 : AC := (.seq (.reg [oMv 0 17, ⟨.inr (.call true false 79), [.t 17], some 18, none, []⟩, oMv 18 5] none)
 sq60_29)
def af60 : AFunc := ⟨2,
 (.seq (.reg [⟨.inr (.alloc false [.nilS, .nilS]), [], some 4, none, []⟩] none)
 sq60_30),
 [.cell 4 true 2]⟩
def sq72_0 : AC := (.seq (.reg [oMv 0 5, oMv 1 6, oCl 93 [.t 5, .t 6] 7, oBc .geq 7 (0) 8, oMv 8 4] none)
 .ret)
def af72 : AFunc := ⟨2,
 (.seq (.reg [oMc (.bool false) 4] none)
 sq72_0),
 [.t 4]⟩
def sq73_0 : AC := (.seq (.reg [oMv 0 3, oCl 74 [.t 3] 4, ⟨.inl (.un .not), [.t 4], some 5, none, []⟩, oMv 5 2] none)
 .ret)
def af73 : AFunc := ⟨1,
 (.seq (.reg [oMc (.bool false) 2] none)
 sq73_0),
 [.t 2]⟩
def sq74_0 : AC := (.seq (.reg [oMv 0 3, oBc .geq 3 (0) 4, oMv 4 5, oMg 0 6 5 true, ⟨.inl (.bin .leq), [.t 6, .c (.int .i64 (1000))], some 7, some (5, true), []⟩, oPk 5 7 false 8, oMv 8 2] none)
 .ret)
def af74 : AFunc := ⟨1,
 (.seq (.reg [oMc (.bool false) 2] none)
 sq74_0),
 [.t 2]⟩
def sq75_0 : AC := (.seq (.reg [oMv 0 31, oMv 6 32, oMv 31 4, oMv 32 5] none)
 .ret)
def st75_1 : AC := (.seq (.reg [oMv 0 24, oMv 6 25, oLd 7 26, oLd 3 27, ⟨.inr (.bldS true true 1 1 [.int .i64 0] [(0, 1)]), [.t 27], some 28, none, []⟩, ⟨.inr (.app false 1 8), [.t 26, .t 28], some 29, none, []⟩, oIx 24 25 30, ⟨.inr (.st 1), [.t 30, .t 29], none, none, []⟩] none)
 sq75_0)
def sq75_2 : AC := (.reg [oLd 7 33, oMv 8 34, oLd 3 35, oLd 7 36, oMv 8 37, oIx 36 37 38, oLd 38 39, oIx 33 34 40, ⟨.inr (.st 1), [.t 40, .t 35], none, none, []⟩, ⟨.inr (.st 1), [.t 3, .t 39], none, none, []⟩] (some ([0, 1, 2, 3, 4, 5, 6, 7, 8, 9], [], [0, 0, 0, 0, 0, 24, 56, 127, 255, 511])))
def sp75_3 : AC := (.seq (.reg [oMv 8 20, oLd 7 21, oLn 21 22, oBn .eql 20 22 23] none)
 (.cond (.t 23) st75_1 .skip))
def sq75_4 : AC := (.seq (.reg [oLd 7 16, oLn 16 17, ⟨.inl (.mkfn 94), [.t 7, .t 3], some 18, none, []⟩, oCl 91 [.t 17, .t 18] 19, oMv 19 8] none)
 (.seq sp75_3
 sq75_2))
def sq75_5 : AC := (.reg [oBc .add 11 (1) 41, oMv 41 11] none)
def sp75_6 : AC := (.block 1 (.seq (.reg [oMv 11 13, oIx 9 11 14, oLd 14 15, ⟨.inr (.alloc false [.nilS]), [], some 7, none, []⟩, oMv 13 6, ⟨.inr (.st 1), [.t 7, .t 15], none, none, []⟩] none)
 sq75_4))
def lb75_7 : AC := (.pre [0, 3, 9, 10, 11] (.seq (.reg [oBn .lss 11 10 12] none)
 (.seq (.cond (.t 12) .skip (.exit 0))
 (.seq sp75_6
 sq75_5))))
def sq75_8 : AC := (.pre [0, 3] (.seq (.reg [oMv 0 42, oLd 3 43, ⟨.inr (.bldS true false 1 1 [.int .i64 0] [(0, 1)]), [.t 43], some 44, none, []⟩, ⟨.inr (.bldB 1 1 [.nilS] [(0, 1)]), [.t 44], some 45, none, []⟩, ⟨.inr (.appB 1 24), [.t 42, .t 45], some 46, none, []⟩, oMv 0 47, oLn 47 48, oMv 46 4, oMv 48 5] none)
 .ret))
def sp75_9 : AC := (.seq (.reg [oMv 0 9, oLn 9 10, oMc (.int .i64 (0)) 11] none)
 (.block 0 (.loop lb75_7)))
def af75 : AFunc := ⟨2,
 (.seq (.reg [⟨.inr (.box true), [.t 1], some 3, none, []⟩, oMc (.nilS) 4, oMc (.int .i64 (0)) 5] none)
 (.seq sp75_9
 sq75_8)),
 [.t 4, .t 5]⟩
def sq76_0 : AC := (.seq (.reg [oMv 4 12, oBc .lss 12 (1) 13, oMv 13 14, oMg 3 15 14 false, ⟨.inl (.bin .gtr), [.t 15, .c (.int .i64 (0))], some 16, some (14, false), []⟩, oMg 16 17 14 false, oMg 4 18 17 true, oMg 0 19 17 true, oMg 3 20 17 true, ⟨.inl (.bin .sub), [.t 20, .c (.int .i64 (1))], some 21, some (17, true), []⟩, ⟨.inl (.idxA 1), [.t 19, .t 21], some 22, some (17, true), []⟩, ⟨.inl (.ld false 1), [.t 22], some 23, some (17, true), []⟩, ⟨.inl (.bin .gtr), [.t 18, .t 23], some 24, some (17, true), []⟩, ⟨.inl .pick, [.t 17, .t 24, .c (.bool false)], some 25, some (14, false), []⟩, ⟨.inl .pick, [.t 14, .c (.bool true), .t 25], some 26, none, []⟩] none)
 (.cond (.t 26) (.seq (.reg [oMc (.bool false) 2] none)
 .ret) .skip))
def sp76_1 : AC := (.block 1 (.seq (.reg [oMv 7 9, oIx 5 7 10, oLd 10 11, oMv 9 3, oMv 11 4] none)
 sq76_0))
def sq76_2 : AC := (.seq sp76_1
 (.reg [oBc .add 7 (1) 27, oMv 27 7] none))
def lb76_3 : AC := (.pre [0, 5, 6, 7] (.seq (.reg [oBn .lss 7 6 8] none)
 (.seq (.cond (.t 8) .skip (.exit 0))
 sq76_2)))
def sp76_4 : AC := (.seq (.reg [oMv 0 5, oLn 5 6, oMc (.int .i64 (0)) 7] none)
 (.block 0 (.loop lb76_3)))
def af76 : AFunc := ⟨1,
 (.seq (.reg [oMc (.bool false) 2] none)
 (.seq sp76_4
 (.pre [] (.seq (.reg [oMc (.bool true) 2] none)
 .ret)))),
 [.t 2]⟩
def sq77_0 : AC := (.seq (.reg [⟨.inl (.slcP 30 1 false false), [.t 3], some 4, none, []⟩, oMv 0 5, ⟨.inr (.cpy 1), [.t 4, .t 5], some 6, none, []⟩] none)
 (.seq (.reg [⟨.inl (.ld true 30), [.t 3], some 7, none, []⟩, ⟨.inr (.st 30), [.t 2, .t 7], none, none, []⟩] none)
 .ret))
def sq77_1 : AC := (.seq (.reg [⟨.inr (.alloc true [.int .i64 0, .int .i64 0, .int .i64 0, .int .i64 0, .int .i64 0, .int .i64 0, .int .i64 0, .int .i64 0, .int .i64 0, .int .i64 0, .int .i64 0, .int .i64 0, .int .i64 0, .int .i64 0, .int .i64 0, .int .i64 0, .int .i64 0, .int .i64 0, .int .i64 0, .int .i64 0, .int .i64 0, .int .i64 0, .int .i64 0, .int .i64 0, .int .i64 0, .int .i64 0, .int .i64 0, .int .i64 0, .int .i64 0, .int .i64 0]), [], some 3, none, []⟩] none)
 sq77_0)
def af77 : AFunc := ⟨1,
 (.seq (.reg [⟨.inr (.alloc true [.int .i64 0, .int .i64 0, .int .i64 0, .int .i64 0, .int .i64 0, .int .i64 0, .int .i64 0, .int .i64 0, .int .i64 0, .int .i64 0, .int .i64 0, .int .i64 0, .int .i64 0, .int .i64 0, .int .i64 0, .int .i64 0, .int .i64 0, .int .i64 0, .int .i64 0, .int .i64 0, .int .i64 0, .int .i64 0, .int .i64 0, .int .i64 0, .int .i64 0, .int .i64 0, .int .i64 0, .int .i64 0, .int .i64 0, .int .i64 0]), [], some 2, none, []⟩] none)
 sq77_1),
 [.cell 2 true 30]⟩
def sq78_0 : AC := (.seq (.reg [⟨.inr (.bldS true false 1 0 [.int .i64 0] []), [], some 5, none, []⟩, oMv 0 6, ⟨.inr (.app false 1 8), [.t 5, .t 6], some 7, none, []⟩, oMv 7 2] none)
 .ret)
def sp78_1 : AC := (.seq (.reg [oMv 0 3, ⟨.inl (.eqnil false), [.t 3, .c (.nilS)], some 4, none, []⟩] none)
 (.cond (.t 4) (.seq (.reg [oMc (.nilS) 2] none)
 .ret) .skip))
def af78 : AFunc := ⟨1,
 (.seq (.reg [oMc (.nilS) 2] none)
 (.seq sp78_1
 sq78_0)),
 [.t 2]⟩
def st79_0 : AC := (.reg [oMv 3 50, oMv 4 51, oCl 82 [.t 51] 52, oMv 6 53, oCl 83 [.t 53] 54, ⟨.inr (.call false true 95), [.t 50, .t 52, .t 54, .c (.int .i64 (1048576)), .c (.int .i64 (0))], some 55, none, []⟩] none)
def sq79_1 : AC := (.reg [oMv 6 42, oBc .add 42 (1) 43, oMv 43 6] none)
def sp79_2 : AC := (.block 3 (.seq (.reg [oMv 5 44, oMv 0 45, oMv 6 46, oIx 45 46 47, oLd 47 48, oBn .leq 44 48 49] none)
 (.cond (.t 49) st79_0 .skip)))
def sp79_3 : AC := (.seq (.reg [oMv 6 38, oMv 0 39, oLn 39 40, oBn .lss 38 40 41] none)
 (.cond (.t 41) .skip (.exit 2)))
def lb79_4 : AC := (.pre [0, 3, 4, 5, 6, 9, 10, 11] (.seq sp79_3
 (.seq sp79_2
 sq79_1)))
def sq79_5 : AC := (.seq (.reg [oMv 4 36, oBc .add 36 (1) 37, oMv 37 6] none)
 (.block 2 (.loop lb79_4)))
def sq79_6 : AC := (.seq (.reg [oMv 3 32, oMv 4 33, oCl 82 [.t 33] 34, ⟨.inr (.call false true 95), [.t 32, .t 34, .c (.int .i64 (1)), .c (.int .i64 (1048576)), .c (.int .i64 (0))], some 35, none, []⟩] none)
 sq79_5)
def sq79_7 : AC := (.seq (.reg [oMv 3 26, oMv 4 27, oCl 83 [.t 27] 28, oMv 4 29, oCl 82 [.t 29] 30, ⟨.inr (.call false true 95), [.t 26, .t 28, .t 30, .c (.int .i64 (1048576)), .c (.int .i64 (0))], some 31, none, []⟩] none)
 sq79_6)
def sq79_8 : AC := (.seq (.reg [oMv 3 20, oMv 4 21, oCl 83 [.t 21] 22, oMv 4 23, oCl 82 [.t 23] 24, ⟨.inr (.call false true 95), [.t 20, .t 22, .t 24, .c (.int .i64 (1)), .c (.int .i64 (1))], some 25, none, []⟩] none)
 sq79_7)
def sq79_9 : AC := (.seq (.reg [oMv 3 16, oMv 4 17, oCl 83 [.t 17] 18, ⟨.inr (.call false true 95), [.t 16, .c (.int .i64 (0)), .t 18, .c (.int .i64 (1048576)), .c (.int .i64 (0))], some 19, none, []⟩] none)
 sq79_8)
def sq79_10 : AC := (.pre [0, 3, 9, 10, 11] (.reg [oBc .add 11 (1) 56, oMv 56 11] none))
def sp79_11 : AC := (.block 1 (.seq (.reg [oMv 11 13, oIx 9 11 14, oLd 14 15, oMv 13 4, oMv 15 5] none)
 sq79_9))
def lb79_12 : AC := (.pre [0, 3, 9, 10, 11] (.seq (.reg [oBn .lss 11 10 12] none)
 (.seq (.cond (.t 12) .skip (.exit 0))
 (.seq sp79_11
 sq79_10))))
def sp79_13 : AC := (.seq (.reg [oMv 0 9, oLn 9 10, oMc (.int .i64 (0)) 11] none)
 (.block 0 (.loop lb79_12)))
def sq79_14 : AC := (.seq sp79_13
 (.pre [3] (.seq (.reg [oMv 3 57, oMv 57 2] none)
 .ret)))
def sq79_15 : AC := (.seq (.reg [⟨.inl (.bld [.nilS] []), [], some 7, none, []⟩, ⟨.inr (.box false), [.t 7], some 8, none, []⟩, oMv 8 3] none)
 sq79_14)
def af79 : AFunc := ⟨1,
 (.seq (.reg [oMc (.nilP) 2] none)
 sq79_15),
 [.t 2]⟩
def sq80_0 : AC := (.reg [oMv 6 21, oMv 8 22, oMv 7 23, oMv 8 24, oIx 21 22 25, ⟨.inr (.st 1), [.t 25, .c (.int .i64 (-1048576))], none, none, []⟩, oIx 23 24 26, ⟨.inr (.st 1), [.t 26, .c (.int .i64 (-1))], none, none, []⟩] none)
def sq80_1 : AC := (.reg [oBc .add 18 (1) 27, oMv 27 18] none)
def sq80_2 : AC := (.seq (.block 1 (.seq (.reg [oMv 18 20, oMv 20 8] none)
 sq80_0))
 sq80_1)
def lb80_3 : AC := (.pre [0, 6, 7, 17, 18] (.seq (.reg [oBn .lss 18 17 19] none)
 (.seq (.cond (.t 19) .skip (.exit 0))
 sq80_2)))
def st80_4 : AC := (.seq (.reg [oMv 6 68, ⟨.inl (.fldA 1), [.t 11], some 69, none, []⟩, oLd 69 70, oMv 6 74, ⟨.inl (.fldA 0), [.t 11], some 75, none, []⟩, oLd 75 76, oIx 74 76 77, oLd 77 78, ⟨.inl (.fldA 3), [.t 11], some 79, none, []⟩, oLd 79 80, oBn .add 78 80 81, oIx 68 70 83, ⟨.inr (.st 1), [.t 83, .t 81], none, none, [.t 11]⟩, oMv 7 71, ⟨.inl (.fldA 1), [.t 11], some 72, none, []⟩, oLd 72 73, oMv 10 82, oIx 71 73 84, ⟨.inr (.st 1), [.t 84, .t 82], none, none, []⟩] (some ([0, 1, 2, 6, 7, 8, 9, 10, 11, 12, 13, 15, 16, 3, 4, 5, 14, 17, 18], [], [0, 0, 2, 0, 0, 16, 0, 0, 128, 448, 960, 0, 2048, 8128, 0, 16327, 49095, 131071, 262143])))
 (.reg [oMc (.bool true) 9] none))
def sq80_5 : AC := (.seq (.reg [⟨.inl (.fldA 2), [.t 11], some 41, none, []⟩, oLd 41 42, oBc .gtr 42 (0) 43, oMv 43 44, oMg 6 45 44 true, ⟨.inl (.fldA 0), [.t 11], some 46, some (44, true), []⟩, ⟨.inl (.ld false 1), [.t 46], some 47, some (44, true), []⟩, ⟨.inl (.idxA 1), [.t 45, .t 47], some 48, some (44, true), []⟩, ⟨.inl (.ld false 1), [.t 48], some 49, some (44, true), []⟩, ⟨.inl (.bin .gtr), [.t 49, .c (.int .i64 (-1048576))], some 50, some (44, true), []⟩, oPk 44 50 false 51, oMv 51 52, oMg 6 53 52 true, ⟨.inl (.fldA 0), [.t 11], some 54, some (52, true), []⟩, ⟨.inl (.ld false 1), [.t 54], some 55, some (52, true), []⟩, ⟨.inl (.idxA 1), [.t 53, .t 55], some 56, some (52, true), []⟩, ⟨.inl (.ld false 1), [.t 56], some 57, some (52, true), []⟩, ⟨.inl (.fldA 3), [.t 11], some 58, some (52, true), []⟩, ⟨.inl (.ld false 1), [.t 58], some 59, some (52, true), []⟩, ⟨.inl (.bin .add), [.t 57, .t 59], some 60, some (52, true), []⟩, oMg 6 61 52 true, ⟨.inl (.fldA 1), [.t 11], some 62, some (52, true), []⟩, ⟨.inl (.ld false 1), [.t 62], some 63, some (52, true), []⟩, ⟨.inl (.idxA 1), [.t 61, .t 63], some 64, some (52, true), []⟩, ⟨.inl (.ld false 1), [.t 64], some 65, some (52, true), []⟩, ⟨.inl (.bin .gtr), [.t 60, .t 65], some 66, some (52, true), []⟩, oPk 52 66 false 67] (some ([0, 1, 2, 3, 4, 5, 6, 7, 8, 9, 10, 11, 12, 13, 14, 15, 16, 17, 18, 19, 20, 21, 22, 23, 24, 25, 26], [], [0, 1, 3, 7, 15, 15, 47, 127, 255, 511, 1023, 2047, 4095, 4095, 12287, 32767, 65535, 4095, 135167, 524287, 4095, 4095, 2101247, 7344127, 15732735, 33554431, 67108863])))
 (.cond (.t 67) st80_4 .skip))
def sq80_6 : AC := (.reg [oBc .add 36 (1) 85, oMv 85 36] none)
def sp80_7 : AC := (.block 5 (.seq (.reg [oMv 36 38, ⟨.inl (.idxA 4), [.t 34, .t 36], some 39, none, []⟩, ⟨.inl (.ld true 4), [.t 39], some 40, none, []⟩, ⟨.inr (.alloc true [.int .i64 0, .int .i64 0, .int .i64 0, .int .i64 0]), [], some 11, none, []⟩, oMv 38 10, ⟨.inr (.st 4), [.t 11, .t 40], none, none, []⟩] none)
 sq80_5))
def lb80_8 : AC := (.pre [0, 6, 7, 9, 34, 35, 36] (.seq (.reg [oBn .lss 36 35 37] none)
 (.seq (.cond (.t 37) .skip (.exit 4))
 (.seq sp80_7
 sq80_6))))
def sq80_9 : AC := (.seq (.reg [oMv 0 31, ⟨.inl .nilc, [.t 31], some 32, none, []⟩, ⟨.inl (.fldA 0), [.t 32], some 33, none, []⟩, oLd 33 34, oLn 34 35, oMc (.int .i64 (0)) 36] none)
 (.block 4 (.loop lb80_8)))
def lb80_10 : AC := (.pre [0, 6, 7, 9] (.seq (.seq (.reg [oMv 9 30] none)
 (.cond (.t 30) .skip (.exit 2)))
 (.block 3 (.seq (.reg [oMc (.bool false) 9] none)
 sq80_9))))
def sq80_11 : AC := (.pre [6, 7] (.seq (.reg [oMv 6 86, oMv 7 87, oMv 86 4, oMv 87 5] none)
 .ret))
def sq80_12 : AC := (.pre [0, 6, 7] (.seq (.reg [oMv 6 28, ⟨.inl (.idxA 1), [.t 28, .c (.int .i64 (0))], some 29, none, []⟩, ⟨.inr (.st 1), [.t 29, .c (.int .i64 (0))], none, none, []⟩] none)
 (.seq (.seq (.reg [oMc (.bool true) 9] none)
 (.block 2 (.loop lb80_10)))
 sq80_11)))
def sp80_13 : AC := (.seq (.reg [oMv 6 16, oLn 16 17, oMc (.int .i64 (0)) 18] none)
 (.block 0 (.loop lb80_3)))
def sq80_14 : AC := (.seq (.reg [oMv 1 12, ⟨.inr (.mkS 1 8 [.int .i64 0]), [.t 12, .t 12], some 13, none, []⟩, oMv 13 6, oMv 1 14, ⟨.inr (.mkS 1 8 [.int .i64 0]), [.t 14, .t 14], some 15, none, []⟩, oMv 15 7] (some ([0, 1, 4, 2, 3, 5], [4, 5], [0, 1, 0, 4, 3, 31])))
 (.seq sp80_13
 sq80_12))
def af80 : AFunc := ⟨2,
 (.seq (.reg [oMc (.nilS) 4, oMc (.nilS) 5] none)
 sq80_14),
 [.t 4, .t 5]⟩
def sq81_0 : AC := (.reg [oMv 0 32, ⟨.inl .nilc, [.t 32], some 33, none, []⟩, ⟨.inl (.fldA 0), [.t 33], some 34, none, []⟩, oLd 34 35, oMv 1 36, oMv 4 37, oIx 36 37 38, oLd 38 39, oBc .xor 39 (1) 40, ⟨.inl (.idxA 4), [.t 35, .t 40], some 41, none, []⟩, ⟨.inl (.fldA 2), [.t 41], some 42, none, []⟩, oLd 42 43, oBc .add 43 (1) 44, ⟨.inl (.idxA 4), [.t 35, .t 40], some 45, none, []⟩, ⟨.inl (.fldA 2), [.t 45], some 46, none, []⟩, ⟨.inr (.st 1), [.t 46, .t 44], none, none, []⟩] (some ([0, 1, 2, 3, 4, 5, 6, 7, 8, 9, 10, 11, 12, 13, 14, 15], [], [0, 1, 3, 7, 0, 0, 48, 112, 240, 511, 1023, 2047, 4095, 8191, 16383, 32767])))
def sq81_1 : AC := (.reg [oMv 0 7, ⟨.inl .nilc, [.t 7], some 8, none, []⟩, ⟨.inl (.fldA 0), [.t 8], some 9, none, []⟩, oLd 9 10, oMv 1 11, oMv 4 12, oIx 11 12 13, oLd 13 14, ⟨.inl (.idxA 4), [.t 10, .t 14], some 15, none, []⟩, ⟨.inl (.fldA 0), [.t 15], some 16, none, []⟩, oLd 16 17, oMv 17 4] (some ([0, 1, 2, 3, 4, 5, 6, 7, 8, 9, 10, 11], [], [0, 1, 3, 7, 0, 0, 48, 112, 255, 511, 1023, 2047])))
def sp81_2 : AC := (.block 1 (.seq (.reg [oMv 0 18, ⟨.inl .nilc, [.t 18], some 19, none, []⟩, ⟨.inl (.fldA 0), [.t 19], some 20, none, []⟩, oLd 20 21, oMv 1 22, oMv 4 23, oIx 22 23 24, oLd 24 25, ⟨.inl (.idxA 4), [.t 21, .t 25], some 26, none, []⟩, ⟨.inl (.fldA 2), [.t 26], some 27, none, []⟩, oLd 27 28, oBc .sub 28 (1) 29, ⟨.inl (.idxA 4), [.t 21, .t 25], some 30, none, []⟩, ⟨.inl (.fldA 2), [.t 30], some 31, none, []⟩, ⟨.inr (.st 1), [.t 31, .t 29], none, none, []⟩] (some ([0, 1, 2, 3, 4, 5, 6, 7, 8, 9, 10, 11, 12, 13, 14], [], [0, 1, 3, 7, 0, 0, 48, 112, 255, 511, 1023, 2047, 4095, 8191, 16383])))
 sq81_0))
def sp81_3 : AC := (.seq (.reg [oMv 4 5, oBc .neq 5 (0) 6] none)
 (.cond (.t 6) .skip (.exit 0)))
def lb81_4 : AC := (.pre [0, 1, 4] (.seq sp81_3
 (.seq sp81_2
 sq81_1)))
def af81 : AFunc := ⟨2,
 (.seq (.reg [oMc (.int .i64 (1)) 4] none)
 (.block 0 (.loop lb81_4))),
 []⟩
def sq82_0 : AC := (.seq (.reg [oMv 0 3, ⟨.inl (.bin .mul), [.c (.int .i64 (2)), .t 3], some 4, none, []⟩, ⟨.inl (.bin .add), [.c (.int .i64 (3)), .t 4], some 5, none, []⟩, oMv 5 2] none)
 .ret)
def af82 : AFunc := ⟨1,
 (.seq (.reg [oMc (.int .i64 (0)) 2] none)
 sq82_0),
 [.t 2]⟩
def sq83_0 : AC := (.seq (.reg [oMv 0 3, ⟨.inl (.bin .mul), [.c (.int .i64 (2)), .t 3], some 4, none, []⟩, ⟨.inl (.bin .add), [.c (.int .i64 (2)), .t 4], some 5, none, []⟩, oMv 5 2] none)
 .ret)
def af83 : AFunc := ⟨1,
 (.seq (.reg [oMc (.int .i64 (0)) 2] none)
 sq83_0),
 [.t 2]⟩
def st84_0 : AC := (.reg [oMv 3 56, oMv 4 57, oBc .sub 57 (2) 58, oBc .quo 58 (2) 59, ⟨.inr (.bldS true true 1 1 [.int .i64 0] [(0, 1)]), [.t 59], some 60, none, []⟩, oCl 96 [.t 56, .t 60] 61, oMv 61 3] none)
def sq84_1 : AC := (.seq (.reg [⟨.inl (.fldA 1), [.t 6], some 62, none, []⟩, oLd 62 63, oMv 63 4] none)
 (.exit 2))
def sp84_2 : AC := (.seq (.reg [⟨.inl (.fldA 3), [.t 6], some 53, none, []⟩, oLd 53 54, oBc .eql 54 (1) 55] none)
 (.cond (.t 55) st84_0 .skip))
def sq84_3 : AC := (.seq (.reg [oMv 0 41, ⟨.inl .nilc, [.t 41], some 42, none, []⟩, ⟨.inl (.fldA 0), [.t 42], some 43, none, []⟩, oLd 43 44, oMv 5 45, oBc .add 45 (1) 46, ⟨.inl (.idxA 4), [.t 44, .t 46], some 47, none, []⟩, ⟨.inl (.fldA 2), [.t 47], some 48, none, []⟩, oLd 48 49, oBc .sub 49 (1) 50, ⟨.inl (.idxA 4), [.t 44, .t 46], some 51, none, []⟩, ⟨.inl (.fldA 2), [.t 51], some 52, none, []⟩, ⟨.inr (.st 1), [.t 52, .t 50], none, none, []⟩] none)
 (.seq sp84_2
 sq84_1))
def sp84_4 : AC := (.seq (.reg [⟨.inl (.fldA 0), [.t 6], some 25, none, []⟩, oLd 25 26, oMv 4 27, oBn .neq 26 27 28, oMv 28 29, oMg 0 30 29 false, ⟨.inl .nilc, [.t 30], some 31, some (29, false), []⟩, ⟨.inl (.fldA 0), [.t 31], some 32, some (29, false), []⟩, ⟨.inl (.ld false 1), [.t 32], some 33, some (29, false), []⟩, oMg 5 34 29 false, ⟨.inl (.bin .add), [.t 34, .c (.int .i64 (1))], some 35, some (29, false), []⟩, ⟨.inl (.idxA 4), [.t 33, .t 35], some 36, some (29, false), []⟩, ⟨.inl (.fldA 2), [.t 36], some 37, some (29, false), []⟩, ⟨.inl (.ld false 1), [.t 37], some 38, some (29, false), []⟩, ⟨.inl (.bin .eql), [.t 38, .c (.int .i64 (0))], some 39, some (29, false), []⟩, ⟨.inl .pick, [.t 29, .c (.bool true), .t 39], some 40, none, []⟩] none)
 (.cond (.t 40) (.exit 3) .skip))
def sq84_5 : AC := (.reg [oMv 5 16, oBc .add 16 (2) 17, oMv 17 5] none)
def sp84_6 : AC := (.block 3 (.seq (.reg [oMv 0 18, ⟨.inl .nilc, [.t 18], some 19, none, []⟩, ⟨.inl (.fldA 0), [.t 19], some 20, none, []⟩, oLd 20 21, oMv 5 22, ⟨.inl (.idxA 4), [.t 21, .t 22], some 23, none, []⟩, ⟨.inl (.ld true 4), [.t 23], some 24, none, []⟩, ⟨.inr (.alloc true [.int .i64 0, .int .i64 0, .int .i64 0, .int .i64 0]), [], some 6, none, []⟩, ⟨.inr (.st 4), [.t 6, .t 24], none, none, []⟩] none)
 (.seq sp84_4
 sq84_3)))
def sp84_7 : AC := (.seq (.reg [oMv 5 9, oMv 0 10, ⟨.inl .nilc, [.t 10], some 11, none, []⟩, ⟨.inl (.fldA 0), [.t 11], some 12, none, []⟩, oLd 12 13, oLn 13 14, oBn .lss 9 14 15] none)
 (.cond (.t 15) .skip (.exit 2)))
def lb84_8 : AC := (.pre [0, 3, 4, 5] (.seq sp84_7
 (.seq sp84_6
 sq84_5)))
def sp84_9 : AC := (.seq (.reg [oMv 4 7, oBc .neq 7 (1) 8] none)
 (.cond (.t 8) .skip (.exit 0)))
def lb84_10 : AC := (.pre [0, 3, 4] (.seq sp84_9
 (.block 1 (.seq (.reg [oMc (.int .i64 (0)) 5] none)
 (.block 2 (.loop lb84_8))))))
def sq84_11 : AC := (.seq (.seq (.reg [oMc (.int .i64 (0)) 4] none)
 (.block 0 (.loop lb84_10)))
 (.pre [3] (.seq (.reg [oMv 3 64, oMv 64 2] none)
 .ret)))
def af84 : AFunc := ⟨1,
 (.seq (.reg [oMc (.nilS) 2] none)
 (.seq (.reg [oMc (.nilS) 3] none)
 sq84_11)),
 [.t 2]⟩
def st91_0 : AC := (.reg [oMv 7 22, oBc .add 22 (1) 23, oMv 23 5] none)
def sq91_1 : AC := (.seq (.reg [oMv 1 18, oMv 7 19, ⟨.inr (.callv true true), [.t 18, .t 19], some 20, none, []⟩, ⟨.inl (.un .not), [.t 20], some 21, none, []⟩] none)
 (.cond (.t 21) st91_0 (.reg [oMv 7 24, oMv 24 6] none)))
def sq91_2 : AC := (.block 1 (.seq (.reg [oMv 5 12, oMv 6 13, oBn .add 12 13 14, ⟨.inl (.conv .u64), [.t 14], some 15, none, []⟩, ⟨.inl (.bin .shr), [.t 15, .c (.int .u64 (1))], some 16, none, []⟩, ⟨.inl (.conv .i64), [.t 16], some 17, none, []⟩, oMv 17 7] none)
 sq91_1))
def sp91_3 : AC := (.seq (.reg [oMv 5 9, oMv 6 10, oBn .lss 9 10 11] none)
 (.cond (.t 11) .skip (.exit 0)))
def lb91_4 : AC := (.pre [1, 5, 6] (.seq sp91_3
 sq91_2))
def sq91_5 : AC := (.seq (.block 0 (.loop lb91_4))
 (.pre [5] (.seq (.reg [oMv 5 25, oMv 25 4] none)
 .ret)))
def sq91_6 : AC := (.seq (.reg [oMv 0 8, oMc (.int .i64 (0)) 5, oMv 8 6] none)
 sq91_5)
def af91 : AFunc := ⟨2,
 (.seq (.reg [oMc (.int .i64 (0)) 4] none)
 sq91_6),
 [.t 4]⟩
def sq93_0 : AC := (.cond (.t 16) (.seq (.reg [oMv 5 17, oMv 17 4] none)
 .ret) .skip)
def sq93_1 : AC := (.seq (.reg [oMv 1 11, oMv 0 12, oMv 5 13, oIx 12 13 14, oLd 14 15, ⟨.inr (.callv true true), [.t 11, .t 15], some 16, none, []⟩] none)
 sq93_0)
def sq93_2 : AC := (.seq (.block 1 (.seq (.reg [oMv 8 10, oMv 10 5] none)
 sq93_1))
 (.reg [oBc .add 8 (1) 18, oMv 18 8] none))
def lb93_3 : AC := (.pre [0, 1, 7, 8] (.seq (.reg [oBn .lss 8 7 9] none)
 (.seq (.cond (.t 9) .skip (.exit 0))
 sq93_2)))
def sp93_4 : AC := (.seq (.reg [oMv 0 6, oLn 6 7, oMc (.int .i64 (0)) 8] none)
 (.block 0 (.loop lb93_3)))
def af93 : AFunc := ⟨2,
 (.seq (.reg [oMc (.int .i64 (0)) 4] none)
 (.seq sp93_4
 (.pre [] (.seq (.reg [oMc (.int .i64 (-1)) 4] none)
 .ret)))),
 [.t 4]⟩
def sq94_0 : AC := (.seq (.reg [oLd 1 5, oMv 0 6, oIx 5 6 7, oLd 7 8, oLd 2 9, oBn .gtr 8 9 10, oMv 10 4] (some ([0, 1, 2, 3, 4, 5, 6], [], [0, 0, 3, 7, 0, 31, 63])))
 .ret)
def af94 : AFunc := ⟨3,
 (.seq (.reg [oMc (.bool false) 4] none)
 sq94_0),
 [.t 4]⟩
def af95 : AFunc := ⟨5,
 (.reg [oMv 0 10, oMv 0 11, ⟨.inl .nilc, [.t 11], some 12, none, []⟩, ⟨.inl (.fldA 0), [.t 12], some 13, none, []⟩, oLd 13 14, oMv 1 15, oMv 2 16, oMv 3 17, oMv 4 18, ⟨.inl (.bld [.int .i64 0, .int .i64 0, .int .i64 0, .int .i64 0] [(0, 1), (1, 1), (2, 1), (3, 1)]), [.t 15, .t 16, .t 17, .t 18], some 19, none, []⟩, oMv 2 20, oMv 1 21, oMv 4 22, ⟨.inl (.un .neg), [.t 22], some 23, none, []⟩, ⟨.inl (.bld [.int .i64 0, .int .i64 0, .int .i64 0, .int .i64 0] [(0, 1), (1, 1), (2, 1), (3, 1)]), [.t 20, .t 21, .c (.int .i64 (0)), .t 23], some 24, none, []⟩, ⟨.inr (.bldS true true 4 2 [.int .i64 0, .int .i64 0, .int .i64 0, .int .i64 0] [(0, 4), (4, 4)]), [.t 19, .t 24], some 25, none, []⟩, ⟨.inr (.app false 4 32), [.t 14, .t 25], some 26, none, []⟩, ⟨.inl .nilc, [.t 10], some 27, none, []⟩, ⟨.inl (.fldA 0), [.t 27], some 28, none, []⟩, ⟨.inr (.st 1), [.t 28, .t 26], none, none, []⟩] none),
 []⟩
def sq96_0 : AC := (.seq (.reg [oMv 0 5, ⟨.inr (.call true false 78), [.t 5], some 6, none, []⟩, oMv 1 7, ⟨.inr (.app false 1 8), [.t 6, .t 7], some 8, none, []⟩, oMv 8 4] none)
 .ret)
def af96 : AFunc := ⟨2,
 (.seq (.reg [oMc (.nilS) 4] none)
 sq96_0),
 [.t 4]⟩
def tab : Nat → Option AFunc
  | 6 => some af6
  | 20 => some af20
  | 21 => some af21
  | 23 => some af23
  | 25 => some af25
  | 26 => some af26
  | 27 => some af27
  | 32 => some af32
  | 33 => some af33
  | 34 => some af34
  | 36 => some af36
  | 52 => some af52
  | 53 => some af53
  | 55 => some af55
  | 56 => some af56
  | 57 => some af57
  | 60 => some af60
  | 72 => some af72
  | 73 => some af73
  | 74 => some af74
  | 75 => some af75
  | 76 => some af76
  | 77 => some af77
  | 78 => some af78
  | 79 => some af79
  | 80 => some af80
  | 81 => some af81
  | 82 => some af82
  | 83 => some af83
  | 84 => some af84
  | 91 => some af91
  | 93 => some af93
  | 94 => some af94
  | 95 => some af95
  | 96 => some af96
  | _ => none
def tabI : Nat → Option AFunc
  | _ => none
def types : List (Nat × TS) := [
  (3, ⟨.int .i64, 1, 8, [.int .i64 0]⟩),
  (4, ⟨.bool, 1, 1, [.bool false]⟩),
  (22, ⟨.slice 3, 1, 24, [.nilS]⟩),
  (24, ⟨.slice 22, 1, 24, [.nilS]⟩),
  (45, ⟨.struct [(0, 24), (1, 24)], 2, 48, [.nilS, .nilS]⟩),
  (54, ⟨.slice 4, 1, 24, [.nilS]⟩),
  (69, ⟨.map 80 3, 1, 8, [.nilM]⟩),
  (72, ⟨.int .u64, 1, 8, [.int .u64 0]⟩),
  (80, ⟨.array 30 3, 30, 240, [.int .i64 0, .int .i64 0, .int .i64 0, .int .i64 0, .int .i64 0, .int .i64 0, .int .i64 0, .int .i64 0, .int .i64 0, .int .i64 0, .int .i64 0, .int .i64 0, .int .i64 0, .int .i64 0, .int .i64 0, .int .i64 0, .int .i64 0, .int .i64 0, .int .i64 0, .int .i64 0, .int .i64 0, .int .i64 0, .int .i64 0, .int .i64 0, .int .i64 0, .int .i64 0, .int .i64 0, .int .i64 0, .int .i64 0, .int .i64 0]⟩),
  (88, ⟨.map 3 4, 1, 8, [.nilM]⟩),
  (94, ⟨.slice 99, 1, 24, [.nilS]⟩),
  (96, ⟨.struct [(0, 94)], 1, 24, [.nilS]⟩),
  (99, ⟨.struct [(0, 3), (1, 3), (2, 3), (3, 3)], 4, 32, [.int .i64 0, .int .i64 0, .int .i64 0, .int .i64 0]⟩)
]
end Go.AM.Tb
