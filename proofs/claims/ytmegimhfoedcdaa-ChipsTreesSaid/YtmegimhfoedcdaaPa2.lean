/- The functions as the abstract machine has them. -/
import Derived.Test.YtmegimhfoedcdaaPa1
namespace Go.AM.Ch
def sp61_14 : AC := (.seq (.reg [oMv 16 149, oMv 5 150, oBn .lss 149 150 151] none)
 (.cond (.t 151) .skip (.exit 8)))
def lb61_15 : AC := (.pre [1, 5, 6, 9, 10, 12, 14, 15, 16, 71, 72] (.seq sp61_14
 (.seq sp61_13
 sq61_12)))
def sq61_16 : AC := (.seq (.reg [oLd 10 148, oMv 148 16] none)
 (.block 8 (.loop lb61_15)))
def sq61_17 : AC := (.pre [1, 5, 6, 9, 10, 12, 14, 71, 72] (.reg [oMv 14 135, oBc .add 135 (1) 136, oMv 136 14] none))
def sp61_18 : AC := (.block 7 (.seq (.reg [oMv 6 137, oMv 14 138, oIx 137 138 139, oLd 139 140, oLd 10 141, oIx 140 141 142, oLd 142 143, oMv 12 144, oBn .mul 143 144 145, oMv 1 146, oBn .rem 145 146 147, oMv 147 15] (some ([0, 1, 2, 3, 4, 5, 6, 7, 8, 9, 10, 11], [], [0, 0, 3, 7, 0, 31, 63, 0, 255, 0, 1023, 2047])))
 sq61_16))
def sp61_19 : AC := (.seq (.reg [oMv 14 132, oMv 5 133, oBn .lss 132 133 134] none)
 (.cond (.t 134) .skip (.exit 6)))
def lb61_20 : AC := (.pre [1, 5, 6, 9, 10, 12, 14, 71, 72] (.seq sp61_19
 (.seq sp61_18
 sq61_17)))
def sq61_21 : AC := (.seq (.reg [oLd 10 130, oBc .add 130 (1) 131, oMv 131 14] none)
 (.block 6 (.loop lb61_20)))
def sq61_22 : AC := (.seq (.reg [oMv 6 119, oLd 10 120, oIx 119 120 121, oLd 121 122, oLd 10 123, oIx 122 123 124, oLd 124 125, oMv 1 126, oCl 87 [.t 125, .t 126] 127, oMv 127 118, oEx 0 118 128, oEx 1 118 129, oMv 128 12, oMv 129 13] (some ([0, 1, 2, 3, 4, 5, 6, 7, 8, 9, 10, 11, 12, 13], [], [0, 0, 3, 7, 0, 31, 63, 0, 255, 511, 1023, 1023, 2047, 8191])))
 sq61_21)
def sq61_23 : AC := (.seq (.reg [oMv 9 107, oMv 6 108, oLd 10 109, oIx 108 109 110, oLd 110 111, oLd 10 112, oIx 111 112 113, oLd 113 114, oBn .mul 107 114 115, oMv 1 116, oBn .rem 115 116 117, oMv 117 9] (some ([0, 1, 2, 3, 4, 5, 6, 7, 8, 9, 10, 11], [], [0, 0, 0, 6, 14, 0, 62, 126, 255, 0, 1023, 2047])))
 sq61_22)
def sp61_24 : AC := (.seq (.reg [oMv 11 82, oBc .gtr 82 (0) 83] none)
 (.cond (.t 83) st61_11 .skip))
def sp61_25 : AC := (.seq (.reg [oMv 11 80, oBc .lss 80 (0) 81] none)
 (.cond (.t 81) (.seq (.reg [oMc (.int .i64 (0)) 4] none)
 .ret) .skip))
def sq61_26 : AC := (.seq (.reg [oMv 6 75, oLd 10 76, ⟨.inl (.slc 1 true false), [.t 75, .t 76], some 77, none, []⟩, ⟨.inl (.mkfn 86), [.t 10], some 78, none, []⟩, oCl 85 [.t 77, .t 78] 79, oMv 79 11] none)
 (.seq sp61_25
 (.seq sp61_24
 sq61_23)))
def sq61_27 : AC := (.pre [1, 5, 6, 9, 71, 72] (.reg [oBc .add 72 (1) 181, oMv 181 72] none))
def sp61_28 : AC := (.block 5 (.seq (.reg [oMv 72 74, ⟨.inr (.alloc true [.int .i64 0]), [], some 10, none, []⟩, ⟨.inr (.st 1), [.t 10, .t 74], none, none, []⟩] none)
 sq61_26))
def lb61_29 : AC := (.pre [1, 5, 6, 9, 71, 72] (.seq (.reg [oBn .lss 72 71 73] none)
 (.seq (.cond (.t 73) .skip (.exit 4))
 (.seq sp61_28
 sq61_27))))
def sp61_30 : AC := (.seq (.reg [oMv 5 71, oMc (.int .i64 (0)) 72] none)
 (.block 4 (.loop lb61_29)))
def sq61_31 : AC := (.seq sp61_30
 (.pre [9] (.seq (.reg [oMv 9 182, oMv 182 4] none)
 .ret)))
def sp61_32 : AC := (.seq (.reg [oMv 6 22, oLn 22 23, oMc (.int .i64 (0)) 24] none)
 (.block 0 (.loop lb61_9)))
def sq61_33 : AC := (.seq (.reg [oMv 5 20, ⟨.inr (.mkB 1 24 [.nilS]), [.t 20, .t 20], some 21, none, []⟩, oMv 21 6] none)
 (.seq sp61_32
 (.pre [1, 5, 6] (.seq (.reg [oMc (.int .i64 (1)) 9] none)
 sq61_31))))
def sq61_34 : AC := (.seq (.reg [oMv 0 17, oLn 17 18, oBc .sub 18 (1) 19, oMv 19 5] none)
 sq61_33)
def af61 : AFunc := ⟨2,
 (.seq (.reg [oMc (.int .i64 (0)) 4] none)
 sq61_34),
 [.t 4]⟩
def st62_0 : AC := (.seq (.reg [oMc (.int .i64 (0)) 4, oMc (.int .i64 (0)) 5, oMc (.int .i64 (2)) 6] none)
 .ret)
def st62_1 : AC := (.seq (.reg [oMc (.int .i64 (0)) 4, oMc (.int .i64 (0)) 5, oMc (.int .i64 (2)) 6] none)
 .ret)
def st62_2 : AC := (.seq (.reg [oMc (.int .i64 (0)) 4, oMc (.int .i64 (0)) 5, oMc (.int .i64 (2)) 6] none)
 .ret)
def sq62_3 : AC := (.reg [oMv 13 75, ⟨.inl (.conv .i64), [.t 75], some 76, none, []⟩, oMv 76 7] none)
def sp62_4 : AC := (.seq (.reg [oMv 12 69, ⟨.inl (.bin .gtr), [.t 69, .c (.int .u64 (0))], some 70, none, []⟩, oMv 70 71, oMg 13 72 71 false, ⟨.inl (.bin .gtr), [.t 72, .c (.int .u64 (4611686018427387904))], some 73, some (71, false), []⟩, ⟨.inl .pick, [.t 71, .c (.bool true), .t 73], some 74, none, []⟩] none)
 (.cond (.t 74) st62_2 .skip))
def sq62_5 : AC := (.seq (.reg [oMv 7 57, ⟨.inl (.conv .u64), [.t 57], some 58, none, []⟩, oMv 1 59, oMv 8 60, oIx 59 60 61, oLd 61 62, oMv 10 63, oBn .quo 62 63 64, ⟨.inl (.conv .u64), [.t 64], some 65, none, []⟩, oCl 90 [.t 58, .t 65] 66, oMv 66 56, oEx 0 56 67, oEx 1 56 68, oMv 67 12, oMv 68 13] none)
 (.seq sp62_4
 sq62_3))
def sq62_6 : AC := (.seq (.reg [oMv 7 48, oMv 1 49, oMv 8 50, oIx 49 50 51, oLd 51 52, oCl 89 [.t 48, .t 52] 53, oMv 53 47, oEx 0 47 54, oEx 1 47 55, oMv 54 10, oMv 55 11] none)
 sq62_5)
def sp62_7 : AC := (.seq (.reg [oMv 9 40, oMv 1 41, oMv 8 42, oIx 41 42 43, oLd 43 44, oCl 88 [.t 40, .t 44] 45, ⟨.inl (.un .not), [.t 45], some 46, none, []⟩] none)
 (.cond (.t 46) st62_1 .skip))
def sq62_8 : AC := (.reg [oBc .add 35 (1) 77, oMv 77 35] none)
def sp62_9 : AC := (.block 1 (.seq (.reg [oMv 35 37, oIx 33 35 38, oLd 38 39, oMv 37 8, oMv 39 9] none)
 (.seq sp62_7
 sq62_6)))
def lb62_10 : AC := (.pre [0, 1, 7, 33, 34, 35] (.seq (.reg [oBn .lss 35 34 36] none)
 (.seq (.cond (.t 36) .skip (.exit 0))
 (.seq sp62_9
 sq62_8))))
def st62_11 : AC := (.seq (.reg [oMc (.int .i64 (0)) 4, oMc (.int .i64 (0)) 5, oMc (.int .i64 (6)) 6] none)
 .ret)
def sq62_12 : AC := (.reg [oMv 15 146, oMv 20 147, oBn .mul 146 147 148, oMv 148 15] none)
def sq62_13 : AC := (.seq (.reg [oMv 14 141, oMv 15 142, oMv 22 143, oBn .mul 142 143 144, oBn .add 141 144 145, oMv 145 14] none)
 sq62_12)
def sq62_14 : AC := (.seq (.reg [oMv 21 127, oMv 18 128, oBn .quo 127 128 129, oMv 20 130, oBn .rem 129 130 131, oMv 19 132, oMv 20 133, oBn .rem 132 133 134, oMv 20 135, oBn .add 134 135 136, oMv 20 137, oBn .rem 136 137 138, oMv 20 139, oCl 91 [.t 131, .t 138, .t 139] 140, oMv 140 22] (some ([0, 1, 2, 3, 4, 5, 6, 7, 8, 9, 10, 11, 12, 13, 14], [], [0, 0, 3, 0, 15, 0, 0, 96, 0, 480, 0, 2016, 0, 8191, 16383])))
 sq62_13)
def sp62_15 : AC := (.seq (.reg [oMv 21 123, oMv 18 124, oBn .rem 123 124 125, oBc .neq 125 (0) 126] none)
 (.cond (.t 126) st62_11 .skip))
def sq62_16 : AC := (.seq (.reg [oMv 17 105, oMv 14 106, oBn .sub 105 106 107, oMv 1 108, oMv 16 109, oIx 108 109 110, oLd 110 111, oBn .rem 107 111 112, oMv 1 113, oMv 16 114, oIx 113 114 115, oLd 115 116, oBn .add 112 116 117, oMv 1 118, oMv 16 119, oIx 118 119 120, oLd 120 121, oBn .rem 117 121 122, oMv 122 21] (some ([0, 1, 2, 3, 4, 5, 6, 7, 8, 9, 10, 11, 12, 13, 14, 15, 16, 17, 18], [], [0, 0, 3, 0, 0, 24, 56, 127, 0, 0, 768, 1792, 4095, 0, 0, 24576, 57344, 131071, 262143])))
 (.seq sp62_15
 sq62_14))
def sq62_17 : AC := (.seq (.reg [oMv 1 99, oMv 16 100, oIx 99 100 101, oLd 101 102, oMv 18 103, oBn .quo 102 103 104, oMv 104 20] none)
 sq62_16)
def sq62_18 : AC := (.seq (.reg [oMv 15 86, oMv 1 87, oMv 16 88, oIx 87 88 89, oLd 89 90, oBn .rem 86 90 91, oMv 1 92, oMv 16 93, oIx 92 93 94, oLd 94 95, oCl 89 [.t 91, .t 95] 96, oMv 96 85, oEx 0 85 97, oEx 1 85 98, oMv 97 18, oMv 98 19] (some ([0, 1, 2, 3, 4, 5, 6, 7, 8, 9, 10, 11, 12, 13, 14, 15], [], [0, 0, 0, 6, 14, 31, 0, 0, 192, 448, 1023, 2047, 4095, 4095, 8191, 32767])))
 sq62_17)
def sq62_19 : AC := (.reg [oBc .add 80 (1) 149, oMv 149 80] none)
def sp62_20 : AC := (.block 3 (.seq (.reg [oMv 80 82, oIx 78 80 83, oLd 83 84, oMv 82 16, oMv 84 17] none)
 sq62_18))
def lb62_21 : AC := (.pre [1, 7, 14, 15, 78, 79, 80] (.seq (.reg [oBn .lss 80 79 81] none)
 (.seq (.cond (.t 81) .skip (.exit 2))
 (.seq sp62_20
 sq62_19))))
def sq62_22 : AC := (.pre [7, 14] (.seq (.reg [oMv 14 150, oMv 7 151, oMv 150 4, oMv 151 5, oMc (.int .i64 (0)) 6] none)
 .ret))
def sp62_23 : AC := (.seq (.reg [oMv 0 78, oLn 78 79, oMc (.int .i64 (0)) 80] none)
 (.block 2 (.loop lb62_21)))
def sq62_24 : AC := (.pre [0, 1, 7] (.seq (.reg [oMc (.int .i64 (0)) 14, oMc (.int .i64 (1)) 15] none)
 (.seq sp62_23
 sq62_22)))
def sp62_25 : AC := (.seq (.reg [oMv 0 33, oLn 33 34, oMc (.int .i64 (0)) 35] none)
 (.block 0 (.loop lb62_10)))
def sp62_26 : AC := (.seq (.reg [oMv 0 23, oLn 23 24, oMv 1 25, oLn 25 26, oBn .neq 24 26 27, oMv 27 28, oMg 0 29 28 false, ⟨.inl .len, [.t 29], some 30, some (28, false), []⟩, ⟨.inl (.bin .gtr), [.t 30, .c (.int .i64 (32))], some 31, some (28, false), []⟩, ⟨.inl .pick, [.t 28, .c (.bool true), .t 31], some 32, none, []⟩] none)
 (.cond (.t 32) st62_0 .skip))
def af62 : AFunc := ⟨2,
 (.seq (.reg [oMc (.int .i64 (0)) 4, oMc (.int .i64 (0)) 5, oMc (.int .i64 (0)) 6] none)
 (.seq sp62_26
 (.seq (.reg [oMc (.int .i64 (1)) 7] none)
 (.seq sp62_25
 sq62_24)))),
 [.t 4, .t 5, .t 6]⟩
def sq63_0 : AC := (.reg [oMv 3 12, oMv 5 13, oBn .add 12 13 14, oMv 14 3] none)
def sp63_1 : AC := (.block 1 (.seq (.reg [oIx 6 8 10, oLd 10 11, oMv 11 5] none)
 sq63_0))
def sq63_2 : AC := (.seq sp63_1
 (.reg [oBc .add 8 (1) 15, oMv 15 8] none))
def lb63_3 : AC := (.pre [3, 6, 7, 8] (.seq (.reg [oBn .lss 8 7 9] none)
 (.seq (.cond (.t 9) .skip (.exit 0))
 sq63_2)))
def sp63_4 : AC := (.seq (.reg [oMv 0 6, oLn 6 7, oMc (.int .i64 (0)) 8] none)
 (.block 0 (.loop lb63_3)))
def sq63_5 : AC := (.seq sp63_4
 (.pre [3] (.seq (.reg [oMv 3 16, oMv 16 2] none)
 .ret)))
def af63 : AFunc := ⟨1,
 (.seq (.reg [oMc (.int .i64 (0)) 2] none)
 (.seq (.reg [oMc (.int .i64 (0)) 3] none)
 sq63_5)),
 [.t 2]⟩
def st64_0 : AC := (.reg [oMv 2 40, oMv 7 41, oBn .quo 40 41 42, oMv 42 2] none)
def sq64_1 : AC := (.seq (.reg [oMv 2 27, oMv 7 28, oBn .rem 27 28 29, oBc .eql 29 (0) 30, oMv 30 31, oMg 0 32 31 true, oMg 1 33 31 true, oMg 2 34 31 true, oMg 7 35 31 true, ⟨.inl (.bin .quo), [.t 34, .t 35], some 36, some (31, true), []⟩, ⟨.inr (.call true true 93), [.t 32, .t 33, .t 36], some 37, some (31, true), []⟩, ⟨.inr (.call true true 92), [.t 37], some 38, some (31, true), []⟩, oPk 31 38 false 39] none)
 (.cond (.t 39) st64_0 .skip))
def sq64_2 : AC := (.block 3 (.seq (.reg [oMv 8 24, oMv 7 25, oBn .quo 24 25 26, oMv 26 8] none)
 sq64_1))
def sp64_3 : AC := (.seq (.reg [oMv 8 20, oMv 7 21, oBn .rem 20 21 22, oBc .eql 22 (0) 23] none)
 (.cond (.t 23) .skip (.exit 2)))
def lb64_4 : AC := (.pre [0, 1, 2, 7, 8] (.seq sp64_3
 sq64_2))
def sp64_5 : AC := (.seq (.reg [oMv 7 14, oMv 7 15, oBn .mul 14 15 16, oMv 8 17, oBn .gtr 16 17 18] none)
 (.cond (.t 18) (.reg [oMv 8 19, oMv 19 7] none) .skip))
def sq64_6 : AC := (.pre [0, 1, 2, 7, 8] (.reg [oMv 7 12, oBc .add 12 (1) 13, oMv 13 7] none))
def sp64_7 : AC := (.seq (.reg [oMv 8 10, oBc .gtr 10 (1) 11] none)
 (.cond (.t 11) .skip (.exit 0)))
def lb64_8 : AC := (.pre [0, 1, 2, 7, 8] (.seq sp64_7
 (.seq (.block 1 (.seq sp64_5
 (.block 2 (.loop lb64_4))))
 sq64_6)))
def sp64_9 : AC := (.seq (.reg [oMv 2 9, oMc (.int .i64 (2)) 7, oMv 9 8] none)
 (.block 0 (.loop lb64_8)))
def sq64_10 : AC := (.seq sp64_9
 (.pre [2] (.seq (.reg [oMv 2 43, oMv 43 6] none)
 .ret)))
def af64 : AFunc := ⟨3,
 (.seq (.reg [oMc (.int .i64 (0)) 6] none)
 sq64_10),
 [.t 6]⟩
def sq69_0 : AC := (.seq (.reg [oMv 0 5, oMv 1 6, oCl 98 [.t 5, .t 6] 7, oBc .geq 7 (0) 8, oMv 8 4] none)
 .ret)
def af69 : AFunc := ⟨2,
 (.seq (.reg [oMc (.bool false) 4] none)
 sq69_0),
 [.t 4]⟩
def st71_0 : AC := (.seq (.reg [oMv 5 20, ⟨.inl (.bld [.bool false, .nilS, .nilS] [(0, 1), (1, 1)]), [.c (.bool true), .t 20], some 21, none, []⟩, ⟨.inr (.st 3), [.t 4, .t 21], none, none, []⟩] none)
 .ret)
def sq71_1 : AC := (.seq (.reg [oMv 5 28, oMv 8 29, ⟨.inl (.bld [.bool false, .nilS, .nilS] [(1, 1), (2, 1)]), [.t 28, .t 29], some 30, none, []⟩, ⟨.inr (.st 3), [.t 4, .t 30], none, none, []⟩] none)
 .ret)
def sq71_2 : AC := (.seq (.reg [oMv 0 23, oMv 6 24, ⟨.inr (.call true false 99), [.t 23, .t 24, .c (.int .i64 (0))], some 25, none, []⟩, oMv 25 22, oEx 0 22 26, oEx 1 22 27, oMv 26 7, oMv 27 8] none)
 sq71_1)
def sp71_3 : AC := (.seq (.reg [oMv 6 16, ⟨.inl (.idxA 1), [.t 16, .c (.int .i64 (0))], some 17, none, []⟩, oLd 17 18, oBc .geq 18 (0) 19] none)
 (.cond (.t 19) st71_0 .skip))
def sq71_4 : AC := (.seq (.reg [oMv 0 12, oMv 1 13, oMv 5 14, oCl 55 [.t 12, .t 13, .t 14] 15, oMv 15 6] none)
 (.seq sp71_3
 sq71_2))
def sq71_5 : AC := (.seq (.reg [oMv 0 9, oMv 1 10, ⟨.inr (.call true false 54), [.t 9, .t 10, .c (.int .i64 (0))], some 11, none, []⟩, oMv 11 5] none)
 sq71_4)
def af71 : AFunc := ⟨2,
 (.seq (.reg [⟨.inr (.alloc false [.bool false, .nilS, .nilS]), [], some 4, none, []⟩] none)
 sq71_5),
 [.cell 4 true 3]⟩
def sq72_0 : AC := (.reg [oMv 3 10, oMv 0 11, oMv 4 12, oCl 74 [.t 11, .t 12] 13, oBn .add 10 13 14, oMv 14 3] none)
def sq72_1 : AC := (.seq (.block 1 (.seq (.reg [oMv 7 9, oMv 9 4] none)
 sq72_0))
 (.reg [oBc .add 7 (1) 15, oMv 15 7] none))
def lb72_2 : AC := (.pre [0, 3, 6, 7] (.seq (.reg [oBn .lss 7 6 8] none)
 (.seq (.cond (.t 8) .skip (.exit 0))
 sq72_1)))
def sq72_3 : AC := (.pre [0, 3] (.seq (.reg [oMv 3 16, oBc .quo 16 (2) 17, oMv 0 18, oLn 18 19, oBn .sub 17 19 20, oBc .add 20 (1) 21, oMv 21 2] none)
 .ret))
def sp72_4 : AC := (.seq (.reg [oMv 0 5, oLn 5 6, oMc (.int .i64 (0)) 7] none)
 (.block 0 (.loop lb72_2)))
def af72 : AFunc := ⟨1,
 (.seq (.reg [oMc (.int .i64 (0)) 2] none)
 (.seq (.reg [oMc (.int .i64 (0)) 3] none)
 (.seq sp72_4
 sq72_3))),
 [.t 2]⟩
def st73_0 : AC := (.seq (.reg [oMv 0 13, oMv 1 14, oMv 0 15, oMv 1 16, oCl 81 [.t 15, .t 16, .c (.int .i64 (0))] 17, oCl 55 [.t 13, .t 14, .t 17] 18, ⟨.inl (.idxA 1), [.t 18, .c (.int .i64 (0))], some 19, none, []⟩, oLd 19 20, oBc .lss 20 (0) 21, oMv 21 8] none)
 .ret)
def sq73_1 : AC := (.seq (.reg [oMv 10 47] none)
 (.cond (.t 47) (.seq (.reg [oMc (.bool true) 8] none)
 .ret) .skip))
def sq73_2 : AC := (.seq (.reg [oMv 1 41, oMv 9 42, oIx 41 42 43, oLd 43 44, oBc .add 44 (1) 45, oIx 41 42 46, ⟨.inr (.st 1), [.t 46, .t 45], none, none, []⟩] none)
 sq73_1)
def sq73_3 : AC := (.seq (.reg [oMv 0 35, oMv 1 36, oMv 2 37, oBc .sub 37 (1) 38, oMv 9 39, ⟨.inr (.call false true 73), [.t 35, .t 36, .t 38, .t 39], some 40, none, []⟩, oMv 40 10] none)
 sq73_2)
def sq73_4 : AC := (.reg [oMv 9 27, oBc .add 27 (1) 28, oMv 28 9] none)
def sp73_5 : AC := (.block 1 (.seq (.reg [oMv 1 29, oMv 9 30, oIx 29 30 31, oLd 31 32, oBc .sub 32 (1) 33, oIx 29 30 34, ⟨.inr (.st 1), [.t 34, .t 33], none, none, []⟩] none)
 sq73_3))
def sp73_6 : AC := (.seq (.reg [oMv 9 23, oMv 0 24, oLn 24 25, oBn .lss 23 25 26] none)
 (.cond (.t 26) .skip (.exit 0)))
def lb73_7 : AC := (.pre [0, 1, 2, 9] (.seq sp73_6
 (.seq sp73_5
 sq73_4)))
def sp73_8 : AC := (.seq (.reg [oMv 3 22, oMv 22 9] none)
 (.block 0 (.loop lb73_7)))
def sp73_9 : AC := (.seq (.reg [oMv 2 11, oBc .eql 11 (0) 12] none)
 (.cond (.t 12) st73_0 .skip))
def af73 : AFunc := ⟨4,
 (.seq (.reg [oMc (.bool false) 8] none)
 (.seq sp73_9
 (.seq sp73_8
 (.pre [] (.seq (.reg [oMc (.bool false) 8] none)
 .ret))))),
 [.t 8]⟩
def sq74_0 : AC := (.reg [oMv 5 17, oMv 7 18, oBn .add 17 18 19, oMv 19 5] none)
def sq74_1 : AC := (.reg [oBc .add 13 (1) 20, oMv 20 13] none)
def sp74_2 : AC := (.block 1 (.seq (.reg [oIx 11 13 15, oLd 15 16, oMv 16 7] none)
 sq74_0))
def lb74_3 : AC := (.pre [5, 11, 12, 13] (.seq (.reg [oBn .lss 13 12 14] none)
 (.seq (.cond (.t 14) .skip (.exit 0))
 (.seq sp74_2
 sq74_1))))
def sp74_4 : AC := (.seq (.reg [oMv 0 8, oMv 1 9, oIx 8 9 10, oLd 10 11, oLn 11 12, oMc (.int .i64 (0)) 13] none)
 (.block 0 (.loop lb74_3)))
def sq74_5 : AC := (.seq sp74_4
 (.pre [5] (.seq (.reg [oMv 5 21, oMv 21 4] none)
 .ret)))
def af74 : AFunc := ⟨2,
 (.seq (.reg [oMc (.int .i64 (0)) 4] none)
 (.seq (.reg [oMc (.int .i64 (0)) 5] none)
 sq74_5)),
 [.t 4]⟩
def sq76_0 : AC := (.seq (.reg [⟨.inr (.bldS true false 1 0 [.int .i64 0] []), [], some 5, none, []⟩, oMv 0 6, ⟨.inr (.app false 1 8), [.t 5, .t 6], some 7, none, []⟩, oMv 7 2] none)
 .ret)
def sp76_1 : AC := (.seq (.reg [oMv 0 3, ⟨.inl (.eqnil false), [.t 3, .c (.nilS)], some 4, none, []⟩] none)
 (.cond (.t 4) (.seq (.reg [oMc (.nilS) 2] none)
 .ret) .skip))
def af76 : AFunc := ⟨1,
 (.seq (.reg [oMc (.nilS) 2] none)
 (.seq sp76_1
 sq76_0)),
 [.t 2]⟩
def sq77_0 : AC := (.seq (.reg [oMv 0 5, oMv 1 6, ⟨.inr (.call true false 100), [.t 5, .t 6, .c (.fn 101 [])], some 7, none, []⟩, oMv 7 4] none)
 .ret)
def af77 : AFunc := ⟨2,
 (.seq (.reg [oMc (.nilS) 4] none)
 sq77_0),
 [.t 4]⟩
def sq80_0 : AC := (.seq (.reg [oMv 1 5, oLn 5 6, oMv 0 7, oLn 7 8, oBn .eql 6 8 9, oMv 9 10, oMg 1 11 10 true, ⟨.inr (.call true true 69), [.t 11, .c (.fn 104 [])], some 12, some (10, true), []⟩, ⟨.inl (.un .not), [.t 12], some 13, some (10, true), []⟩, oPk 10 13 false 14, oMv 14 4] none)
 .ret)
def af80 : AFunc := ⟨2,
 (.seq (.reg [oMc (.bool false) 4] none)
 sq80_0),
 [.t 4]⟩
def st81_0 : AC := (.reg [oMv 7 41, oMv 10 42, oIx 41 42 43, oLd 43 44, oBc .add 44 (1) 45, oIx 41 42 46, ⟨.inr (.st 1), [.t 46, .t 45], none, none, []⟩] none)
def sq81_1 : AC := (.reg [oBc .add 35 (1) 47, oMv 47 35] none)
def sp81_2 : AC := (.block 3 (.seq (.reg [oMv 35 37, oIx 33 35 38, oLd 38 39, oMv 37 10, oMv 39 11] none)
 (.seq (.reg [oMv 11 40] none)
 (.cond (.t 40) st81_0 .skip))))
def lb81_3 : AC := (.pre [0, 1, 2, 7, 33, 34, 35] (.seq (.reg [oBn .lss 35 34 36] none)
 (.seq (.cond (.t 36) .skip (.exit 2))
 (.seq sp81_2
 sq81_1))))
def sq81_4 : AC := (.seq (.reg [oMv 8 33, oLn 33 34, oMc (.int .i64 (0)) 35] none)
 (.block 2 (.loop lb81_3)))
def sp81_5 : AC := (.seq (.reg [oMv 9 28, oLn 28 29, oMv 0 30, oLn 30 31, oBn .eql 29 31 32] none)
 (.cond (.t 32) (.exit 0) .skip))
def lb81_6 : AC := (.pre [0, 1, 2, 7] (.block 1 (.seq (.reg [oMv 0 19, oMv 0 20, oMv 1 21, oMv 7 22, oCl 55 [.t 20, .t 21, .t 22] 23, oMv 2 24, oCl 99 [.t 19, .t 23, .t 24] 25, oMv 25 18, oEx 0 18 26, oEx 1 18 27, oMv 26 8, oMv 27 9] none)
 (.seq sp81_5
 sq81_4))))
def sq81_7 : AC := (.reg [oMv 7 57, oMv 13 58, oIx 57 58 59, oLd 59 60, oMv 12 61, oBn .sub 60 61 62, oIx 57 58 63, ⟨.inr (.st 1), [.t 63, .t 62], none, none, []⟩] none)
def sq81_8 : AC := (.reg [oBc .add 54 (1) 64, oMv 64 54] none)
def sq81_9 : AC := (.seq (.block 5 (.seq (.reg [oMv 54 56, oMv 56 13] none)
 sq81_7))
 sq81_8)
def lb81_10 : AC := (.pre [7, 12, 53, 54] (.seq (.reg [oBn .lss 54 53 55] none)
 (.seq (.cond (.t 55) .skip (.exit 4))
 sq81_9)))
def sp81_11 : AC := (.seq (.reg [oMv 7 52, oLn 52 53, oMc (.int .i64 (0)) 54] none)
 (.block 4 (.loop lb81_10)))
def sq81_12 : AC := (.seq sp81_11
 (.pre [7] (.seq (.reg [oMv 7 65, oMv 65 6] none)
 .ret)))
def sq81_13 : AC := (.pre [2, 7] (.seq (.reg [oMv 7 48, oMv 2 49, oIx 48 49 50, oLd 50 51, oMv 51 12] none)
 sq81_12))
def sq81_14 : AC := (.seq (.reg [oMv 0 14, oMv 1 15, oMv 2 16, ⟨.inr (.call true false 105), [.t 14, .t 15, .t 16], some 17, none, []⟩, oMv 17 7] none)
 (.seq (.block 0 (.loop lb81_6))
 sq81_13))
def af81 : AFunc := ⟨3,
 (.seq (.reg [oMc (.nilS) 6] none)
 sq81_14),
 [.t 6]⟩
def sq83_0 : AC := (.seq (.reg [oMv 0 5, oMv 1 6, oCl 109 [.t 5, .t 6] 7, oBc .geq 7 (0) 8, oMv 8 4] none)
 .ret)
def af83 : AFunc := ⟨2,
 (.seq (.reg [oMc (.bool false) 4] none)
 sq83_0),
 [.t 4]⟩
def sq84_0 : AC := (.reg [oMv 5 19, oMv 6 20, oIx 19 20 21, ⟨.inr (.st 1), [.t 21, .c (.int .i64 (-1))], none, none, []⟩] none)
def sq84_1 : AC := (.reg [oBc .add 16 (1) 22, oMv 22 16] none)
def sq84_2 : AC := (.seq (.block 1 (.seq (.reg [oMv 16 18, oMv 18 6] none)
 sq84_0))
 sq84_1)
def lb84_3 : AC := (.pre [0, 1, 5, 15, 16] (.seq (.reg [oBn .lss 16 15 17] none)
 (.seq (.cond (.t 17) .skip (.exit 0))
 sq84_2)))
def sq84_4 : AC := (.reg [oMv 7 63, oMv 9 64, ⟨.inr (.bldS true true 1 1 [.int .i64 0] [(0, 1)]), [.t 64], some 65, none, []⟩, ⟨.inr (.app false 1 8), [.t 63, .t 65], some 66, none, []⟩, oMv 66 7] none)
def st84_5 : AC := (.seq (.reg [oMv 5 55, oMv 9 56, oMv 5 57, oMv 8 58, oIx 57 58 59, oLd 59 60, oBc .add 60 (1) 61, oIx 55 56 62, ⟨.inr (.st 1), [.t 62, .t 61], none, none, []⟩] none)
 sq84_4)
def sq84_6 : AC := (.seq (.reg [oMv 10 46, oBc .gtr 46 (0) 47, oMv 47 48, oMg 5 49 48 true, oMg 9 50 48 true, ⟨.inl (.idxA 1), [.t 49, .t 50], some 51, some (48, true), []⟩, ⟨.inl (.ld false 1), [.t 51], some 52, some (48, true), []⟩, ⟨.inl (.bin .lss), [.t 52, .c (.int .i64 (0))], some 53, some (48, true), []⟩, oPk 48 53 false 54] none)
 (.cond (.t 54) st84_5 .skip))
def sq84_7 : AC := (.reg [oBc .add 41 (1) 67, oMv 67 41] none)
def sp84_8 : AC := (.block 5 (.seq (.reg [oMv 41 43, oIx 39 41 44, oLd 44 45, oMv 43 9, oMv 45 10] none)
 sq84_6))
def lb84_9 : AC := (.pre [0, 5, 7, 8, 39, 40, 41] (.seq (.reg [oBn .lss 41 40 42] none)
 (.seq (.cond (.t 42) .skip (.exit 4))
 (.seq sp84_8
 sq84_7))))
def sq84_10 : AC := (.seq (.reg [oMv 0 36, oMv 8 37, oIx 36 37 38, oLd 38 39, oLn 39 40, oMc (.int .i64 (0)) 41] none)
 (.block 4 (.loop lb84_9)))
def sq84_11 : AC := (.seq (.reg [oMv 7 34, ⟨.inl (.slc 1 true false), [.t 34, .c (.int .i64 (1))], some 35, none, []⟩, oMv 35 7] none)
 sq84_10)
def sq84_12 : AC := (.block 3 (.seq (.reg [oMv 7 31, ⟨.inl (.idxA 1), [.t 31, .c (.int .i64 (0))], some 32, none, []⟩, oLd 32 33, oMv 33 8] none)
 sq84_11))
def sp84_13 : AC := (.seq (.reg [oMv 7 28, oLn 28 29, oBc .gtr 29 (0) 30] none)
 (.cond (.t 30) .skip (.exit 2)))
def lb84_14 : AC := (.pre [0, 5, 7] (.seq sp84_13
 sq84_12))
def sq84_15 : AC := (.seq (.block 2 (.loop lb84_14))
 (.pre [5] (.seq (.reg [oMv 5 68, oMv 68 4] none)
 .ret)))
def sq84_16 : AC := (.seq (.reg [oMv 1 26, ⟨.inr (.bldS true false 1 1 [.int .i64 0] [(0, 1)]), [.t 26], some 27, none, []⟩, oMv 27 7] none)
 sq84_15)
def sq84_17 : AC := (.pre [0, 1, 5] (.seq (.reg [oMv 5 23, oMv 1 24, oIx 23 24 25, ⟨.inr (.st 1), [.t 25, .c (.int .i64 (0))], none, none, []⟩] none)
 sq84_16))
def sp84_18 : AC := (.seq (.reg [oMv 5 14, oLn 14 15, oMc (.int .i64 (0)) 16] none)
 (.block 0 (.loop lb84_3)))
def sq84_19 : AC := (.seq (.reg [oMv 0 11, oLn 11 12, ⟨.inr (.mkS 1 8 [.int .i64 0]), [.t 12, .t 12], some 13, none, []⟩, oMv 13 5] none)
 (.seq sp84_18
 sq84_17))
def af84 : AFunc := ⟨2,
 (.seq (.reg [oMc (.nilS) 4] none)
 sq84_19),
 [.t 4]⟩
def sq85_0 : AC := (.cond (.t 16) (.seq (.reg [oMv 5 17, oMv 17 4] none)
 .ret) .skip)
def sq85_1 : AC := (.seq (.reg [oMv 1 11, oMv 0 12, oMv 5 13, oIx 12 13 14, oLd 14 15, ⟨.inr (.callv true true), [.t 11, .t 15], some 16, none, []⟩] none)
 sq85_0)
def sq85_2 : AC := (.seq (.block 1 (.seq (.reg [oMv 8 10, oMv 10 5] none)
 sq85_1))
 (.reg [oBc .add 8 (1) 18, oMv 18 8] none))
def lb85_3 : AC := (.pre [0, 1, 7, 8] (.seq (.reg [oBn .lss 8 7 9] none)
 (.seq (.cond (.t 9) .skip (.exit 0))
 sq85_2)))
def sp85_4 : AC := (.seq (.reg [oMv 0 6, oLn 6 7, oMc (.int .i64 (0)) 8] none)
 (.block 0 (.loop lb85_3)))
def af85 : AFunc := ⟨2,
 (.seq (.reg [oMc (.int .i64 (0)) 4] none)
 (.seq sp85_4
 (.pre [] (.seq (.reg [oMc (.int .i64 (-1)) 4] none)
 .ret)))),
 [.t 4]⟩
def sq86_0 : AC := (.seq (.reg [oMv 0 4, oLd 1 5, oIx 4 5 6, oLd 6 7, oBc .neq 7 (0) 8, oMv 8 3] none)
 .ret)
def af86 : AFunc := ⟨2,
 (.seq (.reg [oMc (.bool false) 3] none)
 sq86_0),
 [.t 3]⟩
def st87_0 : AC := (.seq (.reg [oMc (.int .i64 (0)) 4, oMc (.int .i64 (2)) 5] none)
 .ret)
def st87_1 : AC := (.seq (.reg [oMc (.int .i64 (0)) 4, oMc (.int .i64 (6)) 5] none)
 .ret)
def sq87_2 : AC := (.seq (.reg [oMv 7 20, oMv 1 21, oBn .rem 20 21 22, oMv 1 23, oBn .add 22 23 24, oMv 1 25, oBn .rem 24 25 26, oMv 26 4, oMc (.int .i64 (0)) 5] none)
 .ret)
def sp87_3 : AC := (.seq (.reg [oMv 6 18, oBc .neq 18 (1) 19] none)
 (.cond (.t 19) st87_1 .skip))
def sq87_4 : AC := (.seq (.reg [oMv 0 13, oMv 1 14, oCl 89 [.t 13, .t 14] 15, oMv 15 12, oEx 0 12 16, oEx 1 12 17, oMv 16 6, oMv 17 7] none)
 (.seq sp87_3
 sq87_2))
def sp87_5 : AC := (.seq (.reg [oMv 0 8, oMv 1 9, oCl 88 [.t 8, .t 9] 10, ⟨.inl (.un .not), [.t 10], some 11, none, []⟩] none)
 (.cond (.t 11) st87_0 .skip))
def af87 : AFunc := ⟨2,
 (.seq (.reg [oMc (.int .i64 (0)) 4, oMc (.int .i64 (0)) 5] none)
 (.seq sp87_5
 sq87_4)),
 [.t 4, .t 5]⟩
def sq88_0 : AC := (.seq (.reg [oMv 1 5, oCl 110 [.t 5] 6, oMv 6 7, oMg 0 8 7 true, ⟨.inl (.bin .geq), [.t 8, .c (.int .i64 (0))], some 9, some (7, true), []⟩, oPk 7 9 false 10, oMv 10 11, oMg 0 12 11 true, oMg 1 13 11 true, ⟨.inl (.bin .lss), [.t 12, .t 13], some 14, some (11, true), []⟩, oPk 11 14 false 15, oMv 15 4] none)
 .ret)
def af88 : AFunc := ⟨2,
 (.seq (.reg [oMc (.bool false) 4] none)
 sq88_0),
 [.t 4]⟩
def sq89_0 : AC := (.reg [oMv 7 20, oMv 6 21, oMv 8 22, oMv 7 23, oBn .mul 22 23 24, oBn .sub 21 24 25, oMv 20 6, oMv 25 7] none)
def sq89_1 : AC := (.seq (.reg [oMv 1 14, oMv 0 15, oMv 8 16, oMv 1 17, oBn .mul 16 17 18, oBn .sub 15 18 19, oMv 14 0, oMv 19 1] none)
 sq89_0)
def sq89_2 : AC := (.block 1 (.seq (.reg [oMv 0 11, oMv 1 12, oBn .quo 11 12 13, oMv 13 8] none)
 sq89_1))
def sp89_3 : AC := (.seq (.reg [oMv 1 9, oBc .neq 9 (0) 10] none)
 (.cond (.t 10) .skip (.exit 0)))
def lb89_4 : AC := (.pre [0, 1, 6, 7] (.seq sp89_3
 sq89_2))
def sq89_5 : AC := (.pre [0, 6] (.seq (.reg [oMv 0 26, oMv 6 27, oMv 26 4, oMv 27 5] none)
 .ret))
def sq89_6 : AC := (.seq (.reg [oMc (.int .i64 (1)) 6, oMc (.int .i64 (0)) 7] none)
 (.seq (.block 0 (.loop lb89_4))
 sq89_5))
def af89 : AFunc := ⟨2,
 (.seq (.reg [oMc (.int .i64 (0)) 4, oMc (.int .i64 (0)) 5] none)
 sq89_6),
 [.t 4, .t 5]⟩
def sq90_0 : AC := (.seq (.reg [oMv 0 48, oMv 1 49, oBn .mul 48 49 50, oMv 50 5] none)
 .ret)
def sq90_1 : AC := (.seq (.reg [oMv 7 40, oMv 9 41, oBn .mul 40 41 42, oMv 13 43, oBn .add 42 43 44, oMv 12 45, ⟨.inl (.bin .shr), [.t 45, .c (.int .u64 (32))], some 46, none, []⟩, oBn .add 44 46 47, oMv 47 4] none)
 sq90_0)
def sq90_2 : AC := (.seq (.reg [oMv 12 35, oMv 6 36, oMv 9 37, oBn .mul 36 37 38, oBn .add 35 38 39, oMv 39 12] none)
 sq90_1)
def sq90_3 : AC := (.seq (.reg [oMv 11 33, ⟨.inl (.bin .shr), [.t 33, .c (.int .u64 (32))], some 34, none, []⟩, oMv 34 13] none)
 sq90_2)
def sq90_4 : AC := (.seq (.reg [oMv 11 31, ⟨.inl (.bin .and), [.t 31, .c (.int .u64 (4294967295))], some 32, none, []⟩, oMv 32 12] none)
 sq90_3)
def sq90_5 : AC := (.seq (.reg [oMv 7 25, oMv 8 26, oBn .mul 25 26 27, oMv 10 28, ⟨.inl (.bin .shr), [.t 28, .c (.int .u64 (32))], some 29, none, []⟩, oBn .add 27 29 30, oMv 30 11] none)
 sq90_4)
def sq90_6 : AC := (.seq (.reg [oMv 6 22, oMv 8 23, oBn .mul 22 23 24, oMv 24 10] none)
 sq90_5)
def sq90_7 : AC := (.seq (.reg [oMv 1 20, ⟨.inl (.bin .shr), [.t 20, .c (.int .u64 (32))], some 21, none, []⟩, oMv 21 9] none)
 sq90_6)
def sq90_8 : AC := (.seq (.reg [oMv 1 18, ⟨.inl (.bin .and), [.t 18, .c (.int .u64 (4294967295))], some 19, none, []⟩, oMv 19 8] none)
 sq90_7)
def sq90_9 : AC := (.seq (.reg [oMv 0 16, ⟨.inl (.bin .shr), [.t 16, .c (.int .u64 (32))], some 17, none, []⟩, oMv 17 7] none)
 sq90_8)
def sq90_10 : AC := (.seq (.reg [oMv 0 14, ⟨.inl (.bin .and), [.t 14, .c (.int .u64 (4294967295))], some 15, none, []⟩, oMv 15 6] none)
 sq90_9)
def af90 : AFunc := ⟨2,
 (.seq (.reg [oMc (.int .u64 (0)) 4, oMc (.int .u64 (0)) 5] none)
 sq90_10),
 [.t 4, .t 5]⟩
def sq91_0 : AC := (.seq (.reg [oMv 0 7, oMv 1 8, oBn .mul 7 8 9, oMv 2 10, oBn .rem 9 10 11, oMv 11 6] none)
 .ret)
def af91 : AFunc := ⟨3,
 (.seq (.reg [oMc (.int .i64 (0)) 6] none)
 sq91_0),
 [.t 6]⟩
def sq92_0 : AC := (.seq (.reg [⟨.inl (.ld true 10), [.t 3], some 7, none, []⟩, ⟨.inl (.bld [.int .i64 0, .int .i64 0, .int .i64 0, .int .i64 0, .int .i64 0, .int .i64 0, .int .i64 0, .int .i64 0, .int .i64 0, .int .i64 0] []), [], some 8, none, []⟩, ⟨.inl (.eqagg false [some .i64, some .i64, some .i64, some .i64, some .i64, some .i64, some .i64, some .i64, some .i64, some .i64]), [.t 7, .t 8], some 9, none, []⟩, oMv 9 2] none)
 .ret)
def sq92_1 : AC := (.seq (.reg [⟨.inl (.slcP 10 1 false false), [.t 3], some 4, none, []⟩, oMv 0 5, ⟨.inr (.cpy 1), [.t 4, .t 5], some 6, none, []⟩] none)
 sq92_0)
def sq92_2 : AC := (.seq (.reg [⟨.inr (.alloc true [.int .i64 0, .int .i64 0, .int .i64 0, .int .i64 0, .int .i64 0, .int .i64 0, .int .i64 0, .int .i64 0, .int .i64 0, .int .i64 0]), [], some 3, none, []⟩] none)
 sq92_1)
def af92 : AFunc := ⟨1,
 (.seq (.reg [oMc (.bool false) 2] none)
 sq92_2),
 [.t 2]⟩
def st93_0 : AC := (.reg [oMv 0 18, oMv 7 19, oMv 1 20, oCl 77 [.t 19, .t 20] 21, oCl 111 [.t 18, .t 21] 22, oMv 22 7] none)
def sq93_1 : AC := (.reg [oMv 0 23, oMv 1 24, oMv 1 25, oCl 77 [.t 24, .t 25] 26, oCl 111 [.t 23, .t 26] 27, oMv 27 1] none)
def sp93_2 : AC := (.seq (.reg [oMv 2 15, oBc .and 15 (1) 16, oBc .eql 16 (1) 17] none)
 (.cond (.t 17) st93_0 .skip))
def sq93_3 : AC := (.reg [oMv 2 13, ⟨.inl (.bin .shr), [.t 13, .c (.int .u64 (1))], some 14, none, []⟩, oMv 14 2] none)
def sp93_4 : AC := (.seq (.reg [oMv 2 11, oBc .gtr 11 (0) 12] none)
 (.cond (.t 12) .skip (.exit 0)))
def lb93_5 : AC := (.pre [0, 1, 2, 7] (.seq sp93_4
 (.seq (.block 1 (.seq sp93_2
 sq93_1))
 sq93_3)))
def sq93_6 : AC := (.seq (.block 0 (.loop lb93_5))
 (.pre [7] (.seq (.reg [oMv 7 28, oMv 28 6] none)
 .ret)))
def sq93_7 : AC := (.seq (.reg [oMv 1 8, oLn 8 9, ⟨.inr (.mkS 1 8 [.int .i64 0]), [.t 9, .t 9], some 10, none, []⟩, oMv 10 7] none)
 sq93_6)
def af93 : AFunc := ⟨3,
 (.seq (.reg [oMc (.nilS) 6] none)
 sq93_7),
 [.t 6]⟩
def sq98_0 : AC := (.cond (.t 16) (.seq (.reg [oMv 5 17, oMv 17 4] none)
 .ret) .skip)
def sq98_1 : AC := (.seq (.reg [oMv 1 11, oMv 0 12, oMv 5 13, oIx 12 13 14, oLd 14 15, ⟨.inr (.callv true true), [.t 11, .t 15], some 16, none, []⟩] none)
 sq98_0)
def sq98_2 : AC := (.seq (.block 1 (.seq (.reg [oMv 8 10, oMv 10 5] none)
 sq98_1))
 (.reg [oBc .add 8 (1) 18, oMv 18 8] none))
def lb98_3 : AC := (.pre [0, 1, 7, 8] (.seq (.reg [oBn .lss 8 7 9] none)
 (.seq (.cond (.t 9) .skip (.exit 0))
 sq98_2)))
def sp98_4 : AC := (.seq (.reg [oMv 0 6, oLn 6 7, oMc (.int .i64 (0)) 8] none)
 (.block 0 (.loop lb98_3)))
def af98 : AFunc := ⟨2,
 (.seq (.reg [oMc (.int .i64 (0)) 4] none)
 (.seq sp98_4
 (.pre [] (.seq (.reg [oMc (.int .i64 (-1)) 4] none)
 .ret)))),
 [.t 4]⟩
def sq99_0 : AC := (.reg [oMv 8 24, oMv 9 25, oMv 9 26, oMv 2 27, oBn .neq 26 27 28, oIx 24 25 29, ⟨.inr (.st 1), [.t 29, .t 28], none, none, []⟩] none)
def sq99_1 : AC := (.reg [oBc .add 21 (1) 30, oMv 30 21] none)
def sq99_2 : AC := (.seq (.block 1 (.seq (.reg [oMv 21 23, oMv 23 9] none)
 sq99_0))
 sq99_1)
def lb99_3 : AC := (.pre [0, 1, 2, 8, 20, 21] (.seq (.reg [oBn .lss 21 20 22] none)
 (.seq (.cond (.t 22) .skip (.exit 0))
 sq99_2)))
def sq99_4 : AC := (.reg [oMv 13 48, oMv 0 49, oMv 11 50, oIx 49 50 51, oLd 51 52, oMv 15 53, oIx 52 53 54, oLd 54 55, oBn .add 48 55 56, oMv 56 13] none)
def sq99_5 : AC := (.reg [oBc .add 44 (1) 57, oMv 57 44] none)
def sp99_6 : AC := (.block 7 (.seq (.reg [oIx 42 44 46, oLd 46 47, oMv 47 15] none)
 sq99_4))
def lb99_7 : AC := (.pre [0, 1, 8, 10, 11, 13, 33, 34, 35, 42, 43, 44] (.seq (.reg [oBn .lss 44 43 45] none)
 (.seq (.cond (.t 45) .skip (.exit 6))
 (.seq sp99_6
 sq99_5))))
def sq99_8 : AC := (.seq (.reg [oMv 10 67, oMv 11 68, ⟨.inr (.bldS true true 1 1 [.int .i64 0] [(0, 1)]), [.t 68], some 69, none, []⟩, ⟨.inr (.app false 1 8), [.t 67, .t 69], some 70, none, []⟩, oMv 70 10] none)
 (.exit 3))
def st99_9 : AC := (.seq (.reg [oMv 8 64, oMv 11 65, oIx 64 65 66, ⟨.inr (.st 1), [.t 66, .c (.bool false)], none, none, []⟩] none)
 sq99_8)
def sq99_10 : AC := (.pre [0, 1, 8, 10, 11, 13, 33, 34, 35] (.seq (.reg [oMv 1 58, oMv 11 59, oIx 58 59 60, oLd 60 61, oMv 13 62, oBn .lss 61 62 63] none)
 (.cond (.t 63) st99_9 .skip)))
def sp99_11 : AC := (.seq (.reg [oMv 10 42, oLn 42 43, oMc (.int .i64 (0)) 44] none)
 (.block 6 (.loop lb99_7)))
def sp99_12 : AC := (.seq (.reg [oMv 12 40, ⟨.inl (.un .not), [.t 40], some 41, none, []⟩] none)
 (.cond (.t 41) (.exit 5) .skip))
def sq99_13 : AC := (.pre [0, 1, 8, 10, 33, 34, 35] (.reg [oBc .add 35 (1) 71, oMv 71 35] none))
def sp99_14 : AC := (.block 5 (.seq (.reg [oMv 35 37, oIx 33 35 38, oLd 38 39, oMv 37 11, oMv 39 12] none)
 (.seq sp99_12
 (.seq (.reg [oMc (.int .i64 (0)) 13] none)
 (.seq sp99_11
 sq99_10)))))
def lb99_15 : AC := (.pre [0, 1, 8, 10, 33, 34, 35] (.seq (.reg [oBn .lss 35 34 36] none)
 (.seq (.cond (.t 36) .skip (.exit 4))
 (.seq sp99_14
 sq99_13))))
def sq99_16 : AC := (.pre [8, 10] (.seq (.reg [oMv 8 72, oMv 10 73, oMv 72 6, oMv 73 7] none)
 .ret))
def sp99_17 : AC := (.seq (.reg [oMv 8 33, oLn 33 34, oMc (.int .i64 (0)) 35] none)
 (.block 4 (.loop lb99_15)))
def lb99_18 : AC := (.pre [0, 1, 8, 10] (.block 3 (.seq sp99_17
 sq99_16)))
def sq99_19 : AC := (.pre [0, 1, 2, 8] (.seq (.reg [oMv 2 31, ⟨.inr (.bldS true false 1 1 [.int .i64 0] [(0, 1)]), [.t 31], some 32, none, []⟩, oMv 32 10] none)
 (.seq .skip
 (.block 2 (.loop lb99_18)))))
def sp99_20 : AC := (.seq (.reg [oMv 8 19, oLn 19 20, oMc (.int .i64 (0)) 21] none)
 (.block 0 (.loop lb99_3)))
def sq99_21 : AC := (.seq .skip (.seq (.reg [oMv 0 16, oLn 16 17, ⟨.inr (.mkS 1 1 [.bool false]), [.t 17, .t 17], some 18, none, []⟩, oMv 18 8] none)
 (.seq sp99_20
 sq99_19)))
def af99 : AFunc := ⟨3,
 (.seq (.reg [oMc (.nilS) 6, oMc (.nilS) 7] none)
 sq99_21),
 [.t 6, .t 7]⟩
def sq100_0 : AC := (.reg [oMv 7 19, oMv 8 20, oMv 2 21, oMv 7 22, oMv 8 23, oIx 22 23 24, oLd 24 25, oMv 9 26, ⟨.inr (.callv true true), [.t 21, .t 25, .t 26], some 27, none, []⟩, oIx 19 20 28, ⟨.inr (.st 1), [.t 28, .t 27], none, none, []⟩] none)
def sq100_1 : AC := (.reg [oBc .add 14 (1) 29, oMv 29 14] none)
def sp100_2 : AC := (.block 1 (.seq (.reg [oMv 14 16, oIx 12 14 17, oLd 17 18, oMv 16 8, oMv 18 9] none)
 sq100_0))
def lb100_3 : AC := (.pre [2, 7, 12, 13, 14] (.seq (.reg [oBn .lss 14 13 15] none)
 (.seq (.cond (.t 15) .skip (.exit 0))
 (.seq sp100_2
 sq100_1))))
def sp100_4 : AC := (.seq (.reg [oMv 1 12, oLn 12 13, oMc (.int .i64 (0)) 14] none)
 (.block 0 (.loop lb100_3)))
def sq100_5 : AC := (.seq sp100_4
 (.pre [7] (.seq (.reg [oMv 7 30, oMv 30 6] none)
 .ret)))
def sq100_6 : AC := (.seq (.reg [oMv 0 10, ⟨.inr (.call true false 76), [.t 10], some 11, none, []⟩, oMv 11 7] none)
 sq100_5)
def af100 : AFunc := ⟨3,
 (.seq (.reg [oMc (.nilS) 6] none)
 sq100_6),
 [.t 6]⟩
def sq101_0 : AC := (.seq (.reg [oMv 0 5, oMv 1 6, oBn .add 5 6 7, oMv 7 4] none)
 .ret)
def af101 : AFunc := ⟨2,
 (.seq (.reg [oMc (.int .i64 (0)) 4] none)
 sq101_0),
 [.t 4]⟩
def sq104_0 : AC := (.seq (.reg [oMv 0 3, oCl 53 [.t 3, .c (.int .i64 (-1048576)), .c (.int .i64 (1048576))] 4, ⟨.inl (.un .not), [.t 4], some 5, none, []⟩, oMv 5 2] none)
 .ret)
def af104 : AFunc := ⟨1,
 (.seq (.reg [oMc (.bool false) 2] none)
 sq104_0),
 [.t 2]⟩
def st105_0 : AC := (.reg [oMv 13 60, oMv 15 61, oBn .add 60 61 62, oMv 62 13] none)
def sq105_1 : AC := (.seq (.reg [oMv 7 54, oMv 14 55, oIx 54 55 56, oLd 56 57, oMv 9 58, oBn .lss 57 58 59] none)
 (.cond (.t 59) st105_0 .skip))
def sq105_2 : AC := (.reg [oBc .add 49 (1) 63, oMv 63 49] none)
def sp105_3 : AC := (.block 5 (.seq (.reg [oMv 49 51, oIx 47 49 52, oLd 52 53, oMv 51 14, oMv 53 15] none)
 sq105_1))
def lb105_4 : AC := (.pre [0, 1, 7, 8, 9, 10, 11, 12, 13, 34, 35, 47, 48, 49] (.seq (.reg [oBn .lss 49 48 50] none)
 (.seq (.cond (.t 50) .skip (.exit 4))
 (.seq sp105_3
 sq105_2))))
def sq105_5 : AC := (.pre [0, 1, 7, 8, 9, 10, 11, 12, 13, 34, 35] (.reg [oMv 11 64, oMv 10 65, oMv 12 66, oIx 65 66 67, oLd 67 68, ⟨.inl (.un .neg), [.t 68], some 69, none, []⟩, oMv 13 70, oCl 113 [.t 69, .t 70] 71, ⟨.inl .mx, [.t 64, .t 71], some 72, none, []⟩, oMv 72 11] none))
def sp105_6 : AC := (.seq (.reg [oMv 0 44, oMv 12 45, oIx 44 45 46, oLd 46 47, oLn 47 48, oMc (.int .i64 (0)) 49] none)
 (.block 4 (.loop lb105_4)))
def sp105_7 : AC := (.seq (.reg [oMv 7 38, oMv 12 39, oIx 38 39 40, oLd 40 41, oMv 9 42, oBn .neq 41 42 43] none)
 (.cond (.t 43) (.exit 3) .skip))
def sq105_8 : AC := (.pre [0, 1, 7, 8, 9, 10, 11, 34, 35] (.reg [oBc .add 35 (1) 73, oMv 73 35] none))
def sp105_9 : AC := (.block 3 (.seq (.reg [oMv 35 37, oMv 37 12] none)
 (.seq sp105_7
 (.seq (.reg [oMc (.int .i64 (0)) 13] none)
 (.seq sp105_6
 sq105_5)))))
def lb105_10 : AC := (.pre [0, 1, 7, 8, 9, 10, 11, 34, 35] (.seq (.reg [oBn .lss 35 34 36] none)
 (.seq (.cond (.t 36) .skip (.exit 2))
 (.seq sp105_9
 sq105_8))))
def st105_11 : AC := (.reg [oMv 8 85, oMv 16 86, oIx 85 86 87, oLd 87 88, oMv 11 89, oBn .add 88 89 90, oIx 85 86 91, ⟨.inr (.st 1), [.t 91, .t 90], none, none, []⟩] none)
def sq105_12 : AC := (.seq (.reg [oMv 7 79, oMv 16 80, oIx 79 80 81, oLd 81 82, oMv 9 83, oBn .lss 82 83 84] none)
 (.cond (.t 84) st105_11 .skip))
def sq105_13 : AC := (.reg [oBc .add 76 (1) 92, oMv 92 76] none)
def sp105_14 : AC := (.block 7 (.seq (.reg [oMv 76 78, oMv 78 16] none)
 sq105_12))
def lb105_15 : AC := (.pre [0, 1, 7, 8, 9, 11, 75, 76] (.seq (.reg [oBn .lss 76 75 77] none)
 (.seq (.cond (.t 77) .skip (.exit 6))
 (.seq sp105_14
 sq105_13))))
def sq105_16 : AC := (.pre [0, 1, 7, 8, 9, 11] (.seq (.reg [oMv 0 74, oLn 74 75, oMc (.int .i64 (0)) 76] none)
 (.block 6 (.loop lb105_15))))
def sp105_17 : AC := (.seq (.reg [oMv 0 33, oLn 33 34, oMc (.int .i64 (0)) 35] none)
 (.block 2 (.loop lb105_10)))
def sq105_18 : AC := (.pre [0, 1, 7, 8, 9] (.reg [oMv 9 27, oBc .sub 27 (1) 28, oMv 28 9] none))
def sp105_19 : AC := (.block 1 (.seq (.reg [oMv 0 29, oMv 1 30, oMv 8 31, oCl 55 [.t 29, .t 30, .t 31] 32, oMv 32 10] none)
 (.seq (.reg [oMc (.int .i64 (0)) 11] none)
 (.seq sp105_17
 sq105_16))))
def sp105_20 : AC := (.seq (.reg [oMv 9 25, oBc .gtr 25 (0) 26] none)
 (.cond (.t 26) .skip (.exit 0)))
def lb105_21 : AC := (.pre [0, 1, 7, 8, 9] (.seq sp105_20
 (.seq sp105_19
 sq105_18)))
def sp105_22 : AC := (.seq (.reg [oMv 7 23, oCl 112 [.t 23] 24, oMv 24 9] none)
 (.block 0 (.loop lb105_21)))
def sq105_23 : AC := (.seq sp105_22
 (.pre [8] (.seq (.reg [oMv 8 93, oMv 93 6] none)
 .ret)))
def sq105_24 : AC := (.seq (.reg [oMv 0 20, oLn 20 21, ⟨.inr (.mkS 1 8 [.int .i64 0]), [.t 21, .t 21], some 22, none, []⟩, oMv 22 8] none)
 sq105_23)
def sq105_25 : AC := (.seq (.reg [oMv 0 17, oMv 2 18, oCl 84 [.t 17, .t 18] 19, oMv 19 7] none)
 sq105_24)
def af105 : AFunc := ⟨3,
 (.seq (.reg [oMc (.nilS) 6] none)
 sq105_25),
 [.t 6]⟩
def sq109_0 : AC := (.cond (.t 16) (.seq (.reg [oMv 5 17, oMv 17 4] none)
 .ret) .skip)
def sq109_1 : AC := (.seq (.reg [oMv 1 11, oMv 0 12, oMv 5 13, oIx 12 13 14, oLd 14 15, oBn .eql 11 15 16] none)
 sq109_0)
def sq109_2 : AC := (.seq (.block 1 (.seq (.reg [oMv 8 10, oMv 10 5] none)
 sq109_1))
 (.reg [oBc .add 8 (1) 18, oMv 18 8] none))
def lb109_3 : AC := (.pre [0, 1, 7, 8] (.seq (.reg [oBn .lss 8 7 9] none)
 (.seq (.cond (.t 9) .skip (.exit 0))
 sq109_2)))
def sp109_4 : AC := (.seq (.reg [oMv 0 6, oLn 6 7, oMc (.int .i64 (0)) 8] none)
 (.block 0 (.loop lb109_3)))
def af109 : AFunc := ⟨2,
 (.seq (.reg [oMc (.int .i64 (0)) 4] none)
 (.seq sp109_4
 (.pre [] (.seq (.reg [oMc (.int .i64 (-1)) 4] none)
 .ret)))),
 [.t 4]⟩
def sq110_0 : AC := (.seq (.reg [oMv 0 3, oBc .geq 3 (1) 4, oMv 4 5, oMg 0 6 5 true, ⟨.inl (.bin .leq), [.t 6, .c (.int .i64 (2147483647))], some 7, some (5, true), []⟩, oPk 5 7 false 8, oMv 8 2] none)
 .ret)
def af110 : AFunc := ⟨1,
 (.seq (.reg [oMc (.bool false) 2] none)
 sq110_0),
 [.t 2]⟩
def sq111_0 : AC := (.seq (.reg [oMv 0 5, oMv 1 6, oMv 0 7, oMv 1 8, oCl 81 [.t 7, .t 8, .c (.int .i64 (0))] 9, oCl 55 [.t 5, .t 6, .t 9] 10, oMv 10 4] none)
 .ret)
def af111 : AFunc := ⟨2,
 (.seq (.reg [oMc (.nilS) 4] none)
 sq111_0),
 [.t 4]⟩
def sq112_0 : AC := (.reg [oMv 4 16, oBc .add 16 (1) 17, oMv 17 4] none)
def sp112_1 : AC := (.block 1 (.reg [oMv 3 18, oMv 0 19, oMv 4 20, oIx 19 20 21, oLd 21 22, ⟨.inl .mx, [.t 18, .t 22], some 23, none, []⟩, oMv 23 3] none))
def sp112_2 : AC := (.seq (.reg [oMv 4 12, oMv 0 13, oLn 13 14, oBn .lss 12 14 15] none)
 (.cond (.t 15) .skip (.exit 0)))
def lb112_3 : AC := (.pre [0, 3, 4] (.seq sp112_2
 (.seq sp112_1
 sq112_0)))
def sq112_4 : AC := (.seq (.seq (.reg [oMc (.int .i64 (1)) 4] none)
 (.block 0 (.loop lb112_3)))
 (.pre [3] (.seq (.reg [oMv 3 24, oMv 24 2] none)
 .ret)))
def sq112_5 : AC := (.seq (.reg [oMv 0 9, ⟨.inl (.idxA 1), [.t 9, .c (.int .i64 (0))], some 10, none, []⟩, oLd 10 11, oMv 11 3] none)
 sq112_4)
def sp112_6 : AC := (.seq (.reg [oMv 0 5, oLn 5 6, oBc .lss 6 (1) 7] none)
 (.cond (.t 7) (.reg [⟨.inl .fail, [], some 8, none, []⟩, ⟨.inl .fail, [], none, none, []⟩] none) .skip))
def af112 : AFunc := ⟨1,
 (.seq (.reg [oMc (.int .i64 (0)) 2] none)
 (.seq sp112_6
 sq112_5)),
 [.t 2]⟩
def sq113_0 : AC := (.seq (.reg [oMv 0 7, oMv 1 8, oBn .add 7 8 9, oBc .sub 9 (1) 10, oMv 1 11, oBn .quo 10 11 12, oMv 12 4] none)
 .ret)
def sp113_1 : AC := (.seq (.reg [oMv 0 5, oBc .leq 5 (0) 6] none)
 (.cond (.t 6) (.seq (.reg [oMc (.int .i64 (0)) 4] none)
 .ret) .skip))
def af113 : AFunc := ⟨2,
 (.seq (.reg [oMc (.int .i64 (0)) 4] none)
 (.seq sp113_1
 sq113_0)),
 [.t 4]⟩
def tab : Nat → Option AFunc
  | 11 => some af11
  | 18 => some af18
  | 19 => some af19
  | 20 => some af20
  | 22 => some af22
  | 25 => some af25
  | 29 => some af29
  | 30 => some af30
  | 39 => some af39
  | 40 => some af40
  | 41 => some af41
  | 44 => some af44
  | 45 => some af45
  | 49 => some af49
  | 52 => some af52
  | 53 => some af53
  | 54 => some af54
  | 55 => some af55
  | 60 => some af60
  | 61 => some af61
  | 62 => some af62
  | 63 => some af63
  | 64 => some af64
  | 69 => some af69
  | 71 => some af71
  | 72 => some af72
  | 73 => some af73
  | 74 => some af74
  | 76 => some af76
  | 77 => some af77
  | 80 => some af80
  | 81 => some af81
  | 83 => some af83
  | 84 => some af84
  | 85 => some af85
  | 86 => some af86
  | 87 => some af87
  | 88 => some af88
  | 89 => some af89
  | 90 => some af90
  | 91 => some af91
  | 92 => some af92
  | 93 => some af93
  | 98 => some af98
  | 99 => some af99
  | 100 => some af100
  | 101 => some af101
  | 104 => some af104
  | 105 => some af105
  | 109 => some af109
  | 110 => some af110
  | 111 => some af111
  | 112 => some af112
  | 113 => some af113
  | _ => none
def tabI : Nat → Option AFunc
  | _ => none
def types : List (Nat × TS) := [
  (3, ⟨.int .i64, 1, 8, [.int .i64 0]⟩),
  (4, ⟨.bool, 1, 1, [.bool false]⟩),
  (22, ⟨.slice 23, 1, 24, [.nilS]⟩),
  (23, ⟨.slice 3, 1, 24, [.nilS]⟩),
  (48, ⟨.struct [(0, 4), (1, 23), (2, 23)], 3, 56, [.bool false, .nilS, .nilS]⟩),
  (62, ⟨.slice 23, 1, 24, [.nilS]⟩),
  (65, ⟨.slice 4, 1, 24, [.nilS]⟩),
  (83, ⟨.int .u64, 1, 8, [.int .u64 0]⟩),
  (92, ⟨.int .u64, 1, 8, [.int .u64 0]⟩),
  (107, ⟨.array 10 3, 10, 80, [.int .i64 0, .int .i64 0, .int .i64 0, .int .i64 0, .int .i64 0, .int .i64 0, .int .i64 0, .int .i64 0, .int .i64 0, .int .i64 0]⟩)
]
end Go.AM.Ch
