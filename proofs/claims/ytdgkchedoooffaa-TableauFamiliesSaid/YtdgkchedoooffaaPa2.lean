/- The functions as the abstract machine has them. -/
import Derived.Test.YtdgkchedoooffaaPa1
namespace Go.AM.Tb
def sq60_30 : AC := (.seq (.reg [oMv 0 17, ⟨.inr (.call true false 79), [.t 17], some 18, none, []⟩, oMv 18 5] none)
 sq60_29)
def af60 : AFunc := ⟨2,
 (.seq (.reg [⟨.inr (.alloc false [.nilS, .nilS]), [], some 4, none, []⟩] none)
 sq60_30),
 [.cell 4 true 2]⟩
def st61_0 : AC := (.seq (.reg [oMc (.int .i64 (0)) 6, oMc (.bool false) 7] none)
 .ret)
def st61_1 : AC := (.seq (.reg [oMc (.int .i64 (0)) 6, oMc (.bool false) 7] none)
 .ret)
def sq61_2 : AC := (.reg [oMv 8 73, oMv 12 74, ⟨.inr (.upM [some .i64]), [.t 73, .t 74, .c (.bool true)], none, none, []⟩] none)
def sp61_3 : AC := (.seq (.reg [oMv 12 30, oBc .lss 30 (0) 31, oMv 31 32, oMg 12 33 32 false, oMg 0 34 32 false, ⟨.inl .len, [.t 34], some 35, some (32, false), []⟩, ⟨.inl (.bin .geq), [.t 33, .t 35], some 36, some (32, false), []⟩, ⟨.inl .pick, [.t 32, .c (.bool true), .t 36], some 37, none, []⟩, oMv 37 38, oMg 8 39 38 false, oMg 12 40 38 false, ⟨.inr (.lkM [some .i64] false (.bool false)), [.t 39, .t 40], some 41, some (38, false), []⟩, ⟨.inl .pick, [.t 38, .c (.bool true), .t 41], some 42, none, []⟩, oMv 42 43, oMg 11 44 43 false, ⟨.inl (.bin .gtr), [.t 44, .c (.int .i64 (0))], some 45, some (43, false), []⟩, oMg 45 46 43 false, oMg 10 47 46 true, oMg 11 48 46 true, ⟨.inl (.bin .sub), [.t 48, .c (.int .i64 (1))], some 49, some (46, true), []⟩, ⟨.inl (.idxA 1), [.t 47, .t 49], some 50, some (46, true), []⟩, ⟨.inl (.ld false 1), [.t 50], some 51, some (46, true), []⟩, oMg 12 52 46 true, ⟨.inl (.bin .geq), [.t 51, .t 52], some 53, some (46, true), []⟩, oMg 53 54 46 true, oMg 2 55 54 false, oMg 0 56 54 false, oMg 10 57 54 false, oMg 11 58 54 false, ⟨.inl (.bin .sub), [.t 58, .c (.int .i64 (1))], some 59, some (54, false), []⟩, ⟨.inl (.idxA 1), [.t 57, .t 59], some 60, some (54, false), []⟩, ⟨.inl (.ld false 1), [.t 60], some 61, some (54, false), []⟩, ⟨.inl (.idxA 1), [.t 56, .t 61], some 62, some (54, false), []⟩, ⟨.inl (.ld false 1), [.t 62], some 63, some (54, false), []⟩, oMg 0 64 54 false, oMg 12 65 54 false, ⟨.inl (.idxA 1), [.t 64, .t 65], some 66, some (54, false), []⟩, ⟨.inl (.ld false 1), [.t 66], some 67, some (54, false), []⟩, ⟨.inr (.callv true true), [.t 55, .t 63, .t 67], some 68, some (54, false), []⟩, ⟨.inl (.un .not), [.t 68], some 69, some (54, false), []⟩, ⟨.inl .pick, [.t 54, .c (.bool true), .t 69], some 70, some (46, true), []⟩, ⟨.inl .pick, [.t 46, .t 70, .c (.bool false)], some 71, some (43, false), []⟩, ⟨.inl .pick, [.t 43, .c (.bool true), .t 71], some 72, none, []⟩] (some ([0, 1, 2, 3, 4, 5, 6, 7, 8, 9, 10, 11, 12, 13, 14, 15, 16, 17, 18, 19, 20, 21, 22, 23, 24, 25, 26, 27, 28, 29, 30, 31, 32, 33, 34, 35, 36, 37, 38, 39, 40, 41, 42], [], [0, 1, 3, 7, 7, 23, 63, 127, 255, 511, 511, 2047, 4095, 8191, 16383, 32767, 65535, 131071, 131071, 393215, 1048575, 2097151, 131071, 8388607, 16777215, 33554431, 33554431, 33554431, 33554431, 301989887, 973078527, 2046820351, 4261412863, 8556380159, 33554431, 33554431, 51573161983, 120292638719, 274877906943, 549755813887, 1099511627775, 2199023255551, 4398046511103])))
 (.cond (.t 72) st61_1 .skip))
def sq61_4 : AC := (.reg [oBc .add 25 (1) 75, oMv 75 25] none)
def sp61_5 : AC := (.block 3 (.seq (.reg [oMv 25 27, oIx 23 25 28, oLd 28 29, oMv 27 11, oMv 29 12] none)
 (.seq sp61_3
 sq61_2)))
def lb61_6 : AC := (.pre [0, 2, 8, 10, 14, 15, 16, 23, 24, 25] (.seq (.reg [oBn .lss 25 24 26] none)
 (.seq (.cond (.t 26) .skip (.exit 2))
 (.seq sp61_5
 sq61_4))))
def sq61_7 : AC := (.seq (.reg [oMv 10 23, oLn 23 24, oMc (.int .i64 (0)) 25] none)
 (.block 2 (.loop lb61_6)))
def sp61_8 : AC := (.seq (.reg [oMv 10 20, oLn 20 21, oBc .eql 21 (0) 22] none)
 (.cond (.t 22) st61_0 .skip))
def sq61_9 : AC := (.pre [0, 2, 8, 14, 15, 16] (.reg [oBc .add 16 (1) 76, oMv 76 16] none))
def sp61_10 : AC := (.block 1 (.seq (.reg [oIx 14 16 18, oLd 18 19, oMv 19 10] none)
 (.seq sp61_8
 sq61_7)))
def lb61_11 : AC := (.pre [0, 2, 8, 14, 15, 16] (.seq (.reg [oBn .lss 16 15 17] none)
 (.seq (.cond (.t 17) .skip (.exit 0))
 (.seq sp61_10
 sq61_9))))
def sq61_12 : AC := (.pre [8] (.seq (.reg [oMv 8 77, ⟨.inl .lenM, [.t 77], some 78, none, []⟩, oMv 78 6, oMc (.bool true) 7] none)
 .ret))
def sp61_13 : AC := (.seq (.reg [oMv 1 14, oLn 14 15, oMc (.int .i64 (0)) 16] none)
 (.block 0 (.loop lb61_11)))
def af61 : AFunc := ⟨3,
 (.seq (.reg [oMc (.int .i64 (0)) 6, oMc (.bool false) 7] none)
 (.seq (.reg [⟨.inr .mkM, [], some 13, none, []⟩, oMv 13 8] none)
 (.seq sp61_13
 sq61_12))),
 [.t 6, .t 7]⟩
def sq62_0 : AC := (.seq (.reg [oMv 0 5, oMv 1 6, oBn .leq 5 6 7, oMv 7 4] none)
 .ret)
def af62 : AFunc := ⟨2,
 (.seq (.reg [oMc (.bool false) 4] none)
 sq62_0),
 [.t 4]⟩
def sq63_0 : AC := (.seq (.reg [oMv 0 5, oMv 1 6, oBn .gtr 5 6 7, oMv 7 4] none)
 .ret)
def af63 : AFunc := ⟨2,
 (.seq (.reg [oMc (.bool false) 4] none)
 sq63_0),
 [.t 4]⟩
def sq64_0 : AC := (.reg [oMv 8 56, oBc .add 56 (1) 57, oMv 57 8] none)
def sq64_1 : AC := (.seq (.reg [oMv 7 47, oMv 1 48, oMv 9 49, oIx 48 49 50, oLd 50 51, oMv 10 52, oIx 51 52 53, oLd 53 54, oIx 47 54 55, ⟨.inr (.st 1), [.t 55, .c (.bool true)], none, none, []⟩] none)
 sq64_0)
def sp64_2 : AC := (.seq (.reg [oMv 7 37, oMv 1 38, oMv 9 39, oIx 38 39 40, oLd 40 41, oMv 10 42, oIx 41 42 43, oLd 43 44, oIx 37 44 45, oLd 45 46] none)
 (.cond (.t 46) (.seq (.reg [oMc (.int .i64 (-1)) 6] none)
 .ret) .skip))
def sq64_3 : AC := (.reg [oMv 10 35, oBc .add 35 (1) 36, oMv 36 10] none)
def sp64_4 : AC := (.seq (.reg [oMv 10 28, oMv 1 29, oMv 9 30, oIx 29 30 31, oLd 31 32, oLn 32 33, oBn .lss 28 33 34] none)
 (.cond (.t 34) .skip (.exit 2)))
def lb64_5 : AC := (.pre [0, 1, 2, 7, 8, 9, 10] (.seq sp64_4
 (.seq (.block 3 (.seq sp64_2
 sq64_1))
 sq64_3)))
def sp64_6 : AC := (.seq (.reg [oMv 0 20, oMv 1 21, oMv 9 22, oIx 21 22 23, oLd 23 24, oMv 2 25, oCl 85 [.t 20, .t 24, .t 25] 26, ⟨.inl (.un .not), [.t 26], some 27, none, []⟩] none)
 (.cond (.t 27) (.seq (.reg [oMc (.int .i64 (-1)) 6] none)
 .ret) .skip))
def sq64_7 : AC := (.pre [0, 1, 2, 7, 8, 9] (.reg [oMv 9 18, oBc .add 18 (1) 19, oMv 19 9] none))
def sp64_8 : AC := (.block 1 (.seq sp64_6
 (.seq (.reg [oMc (.int .i64 (0)) 10] none)
 (.block 2 (.loop lb64_5)))))
def sp64_9 : AC := (.seq (.reg [oMv 9 14, oMv 1 15, oLn 15 16, oBn .lss 14 16 17] none)
 (.cond (.t 17) .skip (.exit 0)))
def lb64_10 : AC := (.pre [0, 1, 2, 7, 8, 9] (.seq sp64_9
 (.seq sp64_8
 sq64_7)))
def sq64_11 : AC := (.seq (.seq (.reg [oMc (.int .i64 (0)) 9] none)
 (.block 0 (.loop lb64_10)))
 (.pre [8] (.seq (.reg [oMv 8 58, oMv 58 6] none)
 .ret)))
def sq64_12 : AC := (.seq (.reg [oMv 0 11, oLn 11 12, ⟨.inr (.mkS 1 1 [.bool false]), [.t 12, .t 12], some 13, none, []⟩, oMv 13 7] none)
 (.seq (.reg [oMc (.int .i64 (0)) 8] none)
 sq64_11))
def af64 : AFunc := ⟨3,
 (.seq (.reg [oMc (.int .i64 (0)) 6] none)
 sq64_12),
 [.t 6]⟩
def sq72_0 : AC := (.seq (.reg [oMv 0 5, oMv 1 6, oCl 93 [.t 5, .t 6] 7, oBc .geq 7 (0) 8, oMv 8 4] none)
 .ret)
def af72 : AFunc := ⟨2,
 (.seq (.reg [oMc (.bool false) 4] none)
 sq72_0),
 [.t 4]⟩
def sq73_0 : AC := (.seq (.reg [oMv 0 3, oCl 74 [.t 3] 4, ⟨.inl (.un .not), [.t 4], some 5, none, []⟩, oMv 5 2] none)
 .ret)
def af73 : AFunc := ⟨1,
 (.seq (.reg [oMc (.bool false) 2] none)
 sq73_0),
 [.t 2]⟩
def sq74_0 : AC := (.seq (.reg [oMv 0 3, oBc .geq 3 (0) 4, oMv 4 5, oMg 0 6 5 true, ⟨.inl (.bin .leq), [.t 6, .c (.int .i64 (1000))], some 7, some (5, true), []⟩, oPk 5 7 false 8, oMv 8 2] none)
 .ret)
def af74 : AFunc := ⟨1,
 (.seq (.reg [oMc (.bool false) 2] none)
 sq74_0),
 [.t 2]⟩
def sq75_0 : AC := (.seq (.reg [oMv 0 31, oMv 6 32, oMv 31 4, oMv 32 5] none)
 .ret)
def st75_1 : AC := (.seq (.reg [oMv 0 24, oMv 6 25, oLd 7 26, oLd 3 27, ⟨.inr (.bldS true true 1 1 [.int .i64 0] [(0, 1)]), [.t 27], some 28, none, []⟩, ⟨.inr (.app false 1 8), [.t 26, .t 28], some 29, none, []⟩, oIx 24 25 30, ⟨.inr (.st 1), [.t 30, .t 29], none, none, []⟩] none)
 sq75_0)
def sq75_2 : AC := (.reg [oLd 7 33, oMv 8 34, oLd 3 35, oLd 7 36, oMv 8 37, oIx 36 37 38, oLd 38 39, oIx 33 34 40, ⟨.inr (.st 1), [.t 40, .t 35], none, none, []⟩, ⟨.inr (.st 1), [.t 3, .t 39], none, none, []⟩] (some ([0, 1, 2, 3, 4, 5, 6, 7, 8, 9], [], [0, 0, 0, 0, 0, 24, 56, 127, 255, 511])))
def sp75_3 : AC := (.seq (.reg [oMv 8 20, oLd 7 21, oLn 21 22, oBn .eql 20 22 23] none)
 (.cond (.t 23) st75_1 .skip))
def sq75_4 : AC := (.seq (.reg [oLd 7 16, oLn 16 17, ⟨.inl (.mkfn 94), [.t 7, .t 3], some 18, none, []⟩, oCl 91 [.t 17, .t 18] 19, oMv 19 8] none)
 (.seq sp75_3
 sq75_2))
def sq75_5 : AC := (.reg [oBc .add 11 (1) 41, oMv 41 11] none)
def sp75_6 : AC := (.block 1 (.seq (.reg [oMv 11 13, oIx 9 11 14, oLd 14 15, ⟨.inr (.alloc false [.nilS]), [], some 7, none, []⟩, oMv 13 6, ⟨.inr (.st 1), [.t 7, .t 15], none, none, []⟩] none)
 sq75_4))
def lb75_7 : AC := (.pre [0, 3, 9, 10, 11] (.seq (.reg [oBn .lss 11 10 12] none)
 (.seq (.cond (.t 12) .skip (.exit 0))
 (.seq sp75_6
 sq75_5))))
def sq75_8 : AC := (.pre [0, 3] (.seq (.reg [oMv 0 42, oLd 3 43, ⟨.inr (.bldS true false 1 1 [.int .i64 0] [(0, 1)]), [.t 43], some 44, none, []⟩, ⟨.inr (.bldB 1 1 [.nilS] [(0, 1)]), [.t 44], some 45, none, []⟩, ⟨.inr (.appB 1 24), [.t 42, .t 45], some 46, none, []⟩, oMv 0 47, oLn 47 48, oMv 46 4, oMv 48 5] none)
 .ret))
def sp75_9 : AC := (.seq (.reg [oMv 0 9, oLn 9 10, oMc (.int .i64 (0)) 11] none)
 (.block 0 (.loop lb75_7)))
def af75 : AFunc := ⟨2,
 (.seq (.reg [⟨.inr (.box true), [.t 1], some 3, none, []⟩, oMc (.nilS) 4, oMc (.int .i64 (0)) 5] none)
 (.seq sp75_9
 sq75_8)),
 [.t 4, .t 5]⟩
def sq76_0 : AC := (.seq (.reg [oMv 4 12, oBc .lss 12 (1) 13, oMv 13 14, oMg 3 15 14 false, ⟨.inl (.bin .gtr), [.t 15, .c (.int .i64 (0))], some 16, some (14, false), []⟩, oMg 16 17 14 false, oMg 4 18 17 true, oMg 0 19 17 true, oMg 3 20 17 true, ⟨.inl (.bin .sub), [.t 20, .c (.int .i64 (1))], some 21, some (17, true), []⟩, ⟨.inl (.idxA 1), [.t 19, .t 21], some 22, some (17, true), []⟩, ⟨.inl (.ld false 1), [.t 22], some 23, some (17, true), []⟩, ⟨.inl (.bin .gtr), [.t 18, .t 23], some 24, some (17, true), []⟩, ⟨.inl .pick, [.t 17, .t 24, .c (.bool false)], some 25, some (14, false), []⟩, ⟨.inl .pick, [.t 14, .c (.bool true), .t 25], some 26, none, []⟩] none)
 (.cond (.t 26) (.seq (.reg [oMc (.bool false) 2] none)
 .ret) .skip))
def sp76_1 : AC := (.block 1 (.seq (.reg [oMv 7 9, oIx 5 7 10, oLd 10 11, oMv 9 3, oMv 11 4] none)
 sq76_0))
def sq76_2 : AC := (.seq sp76_1
 (.reg [oBc .add 7 (1) 27, oMv 27 7] none))
def lb76_3 : AC := (.pre [0, 5, 6, 7] (.seq (.reg [oBn .lss 7 6 8] none)
 (.seq (.cond (.t 8) .skip (.exit 0))
 sq76_2)))
def sp76_4 : AC := (.seq (.reg [oMv 0 5, oLn 5 6, oMc (.int .i64 (0)) 7] none)
 (.block 0 (.loop lb76_3)))
def af76 : AFunc := ⟨1,
 (.seq (.reg [oMc (.bool false) 2] none)
 (.seq sp76_4
 (.pre [] (.seq (.reg [oMc (.bool true) 2] none)
 .ret)))),
 [.t 2]⟩
def sq77_0 : AC := (.seq (.reg [⟨.inl (.slcP 30 1 false false), [.t 3], some 4, none, []⟩, oMv 0 5, ⟨.inr (.cpy 1), [.t 4, .t 5], some 6, none, []⟩] none)
 (.seq (.reg [⟨.inl (.ld true 30), [.t 3], some 7, none, []⟩, ⟨.inr (.st 30), [.t 2, .t 7], none, none, []⟩] none)
 .ret))
def sq77_1 : AC := (.seq (.reg [⟨.inr (.alloc true [.int .i64 0, .int .i64 0, .int .i64 0, .int .i64 0, .int .i64 0, .int .i64 0, .int .i64 0, .int .i64 0, .int .i64 0, .int .i64 0, .int .i64 0, .int .i64 0, .int .i64 0, .int .i64 0, .int .i64 0, .int .i64 0, .int .i64 0, .int .i64 0, .int .i64 0, .int .i64 0, .int .i64 0, .int .i64 0, .int .i64 0, .int .i64 0, .int .i64 0, .int .i64 0, .int .i64 0, .int .i64 0, .int .i64 0, .int .i64 0]), [], some 3, none, []⟩] none)
 sq77_0)
def af77 : AFunc := ⟨1,
 (.seq (.reg [⟨.inr (.alloc true [.int .i64 0, .int .i64 0, .int .i64 0, .int .i64 0, .int .i64 0, .int .i64 0, .int .i64 0, .int .i64 0, .int .i64 0, .int .i64 0, .int .i64 0, .int .i64 0, .int .i64 0, .int .i64 0, .int .i64 0, .int .i64 0, .int .i64 0, .int .i64 0, .int .i64 0, .int .i64 0, .int .i64 0, .int .i64 0, .int .i64 0, .int .i64 0, .int .i64 0, .int .i64 0, .int .i64 0, .int .i64 0, .int .i64 0, .int .i64 0]), [], some 2, none, []⟩] none)
 sq77_1),
 [.cell 2 true 30]⟩
def sq78_0 : AC := (.seq (.reg [⟨.inr (.bldS true false 1 0 [.int .i64 0] []), [], some 5, none, []⟩, oMv 0 6, ⟨.inr (.app false 1 8), [.t 5, .t 6], some 7, none, []⟩, oMv 7 2] none)
 .ret)
def sp78_1 : AC := (.seq (.reg [oMv 0 3, ⟨.inl (.eqnil false), [.t 3, .c (.nilS)], some 4, none, []⟩] none)
 (.cond (.t 4) (.seq (.reg [oMc (.nilS) 2] none)
 .ret) .skip))
def af78 : AFunc := ⟨1,
 (.seq (.reg [oMc (.nilS) 2] none)
 (.seq sp78_1
 sq78_0)),
 [.t 2]⟩
def st79_0 : AC := (.reg [oMv 3 50, oMv 4 51, oCl 82 [.t 51] 52, oMv 6 53, oCl 83 [.t 53] 54, ⟨.inr (.call false true 95), [.t 50, .t 52, .t 54, .c (.int .i64 (1048576)), .c (.int .i64 (0))], some 55, none, []⟩] none)
def sq79_1 : AC := (.reg [oMv 6 42, oBc .add 42 (1) 43, oMv 43 6] none)
def sp79_2 : AC := (.block 3 (.seq (.reg [oMv 5 44, oMv 0 45, oMv 6 46, oIx 45 46 47, oLd 47 48, oBn .leq 44 48 49] none)
 (.cond (.t 49) st79_0 .skip)))
def sp79_3 : AC := (.seq (.reg [oMv 6 38, oMv 0 39, oLn 39 40, oBn .lss 38 40 41] none)
 (.cond (.t 41) .skip (.exit 2)))
def lb79_4 : AC := (.pre [0, 3, 4, 5, 6, 9, 10, 11] (.seq sp79_3
 (.seq sp79_2
 sq79_1)))
def sq79_5 : AC := (.seq (.reg [oMv 4 36, oBc .add 36 (1) 37, oMv 37 6] none)
 (.block 2 (.loop lb79_4)))
def sq79_6 : AC := (.seq (.reg [oMv 3 32, oMv 4 33, oCl 82 [.t 33] 34, ⟨.inr (.call false true 95), [.t 32, .t 34, .c (.int .i64 (1)), .c (.int .i64 (1048576)), .c (.int .i64 (0))], some 35, none, []⟩] none)
 sq79_5)
def sq79_7 : AC := (.seq (.reg [oMv 3 26, oMv 4 27, oCl 83 [.t 27] 28, oMv 4 29, oCl 82 [.t 29] 30, ⟨.inr (.call false true 95), [.t 26, .t 28, .t 30, .c (.int .i64 (1048576)), .c (.int .i64 (0))], some 31, none, []⟩] none)
 sq79_6)
def sq79_8 : AC := (.seq (.reg [oMv 3 20, oMv 4 21, oCl 83 [.t 21] 22, oMv 4 23, oCl 82 [.t 23] 24, ⟨.inr (.call false true 95), [.t 20, .t 22, .t 24, .c (.int .i64 (1)), .c (.int .i64 (1))], some 25, none, []⟩] none)
 sq79_7)
def sq79_9 : AC := (.seq (.reg [oMv 3 16, oMv 4 17, oCl 83 [.t 17] 18, ⟨.inr (.call false true 95), [.t 16, .c (.int .i64 (0)), .t 18, .c (.int .i64 (1048576)), .c (.int .i64 (0))], some 19, none, []⟩] none)
 sq79_8)
def sq79_10 : AC := (.pre [0, 3, 9, 10, 11] (.reg [oBc .add 11 (1) 56, oMv 56 11] none))
def sp79_11 : AC := (.block 1 (.seq (.reg [oMv 11 13, oIx 9 11 14, oLd 14 15, oMv 13 4, oMv 15 5] none)
 sq79_9))
def lb79_12 : AC := (.pre [0, 3, 9, 10, 11] (.seq (.reg [oBn .lss 11 10 12] none)
 (.seq (.cond (.t 12) .skip (.exit 0))
 (.seq sp79_11
 sq79_10))))
def sp79_13 : AC := (.seq (.reg [oMv 0 9, oLn 9 10, oMc (.int .i64 (0)) 11] none)
 (.block 0 (.loop lb79_12)))
def sq79_14 : AC := (.seq sp79_13
 (.pre [3] (.seq (.reg [oMv 3 57, oMv 57 2] none)
 .ret)))
def sq79_15 : AC := (.seq (.reg [⟨.inl (.bld [.nilS] []), [], some 7, none, []⟩, ⟨.inr (.box false), [.t 7], some 8, none, []⟩, oMv 8 3] none)
 sq79_14)
def af79 : AFunc := ⟨1,
 (.seq (.reg [oMc (.nilP) 2] none)
 sq79_15),
 [.t 2]⟩
def sq80_0 : AC := (.reg [oMv 6 21, oMv 8 22, oMv 7 23, oMv 8 24, oIx 21 22 25, ⟨.inr (.st 1), [.t 25, .c (.int .i64 (-1048576))], none, none, []⟩, oIx 23 24 26, ⟨.inr (.st 1), [.t 26, .c (.int .i64 (-1))], none, none, []⟩] none)
def sq80_1 : AC := (.reg [oBc .add 18 (1) 27, oMv 27 18] none)
def sq80_2 : AC := (.seq (.block 1 (.seq (.reg [oMv 18 20, oMv 20 8] none)
 sq80_0))
 sq80_1)
def lb80_3 : AC := (.pre [0, 6, 7, 17, 18] (.seq (.reg [oBn .lss 18 17 19] none)
 (.seq (.cond (.t 19) .skip (.exit 0))
 sq80_2)))
def st80_4 : AC := (.seq (.reg [oMv 6 68, ⟨.inl (.fldA 1), [.t 11], some 69, none, []⟩, oLd 69 70, oMv 6 74, ⟨.inl (.fldA 0), [.t 11], some 75, none, []⟩, oLd 75 76, oIx 74 76 77, oLd 77 78, ⟨.inl (.fldA 3), [.t 11], some 79, none, []⟩, oLd 79 80, oBn .add 78 80 81, oIx 68 70 83, ⟨.inr (.st 1), [.t 83, .t 81], none, none, [.t 11]⟩, oMv 7 71, ⟨.inl (.fldA 1), [.t 11], some 72, none, []⟩, oLd 72 73, oMv 10 82, oIx 71 73 84, ⟨.inr (.st 1), [.t 84, .t 82], none, none, []⟩] (some ([0, 1, 2, 6, 7, 8, 9, 10, 11, 12, 13, 15, 16, 3, 4, 5, 14, 17, 18], [], [0, 0, 2, 0, 0, 16, 0, 0, 128, 448, 960, 0, 2048, 8128, 0, 16327, 49095, 131071, 262143])))
 (.reg [oMc (.bool true) 9] none))
def sq80_5 : AC := (.seq (.reg [⟨.inl (.fldA 2), [.t 11], some 41, none, []⟩, oLd 41 42, oBc .gtr 42 (0) 43, oMv 43 44, oMg 6 45 44 true, ⟨.inl (.fldA 0), [.t 11], some 46, some (44, true), []⟩, ⟨.inl (.ld false 1), [.t 46], some 47, some (44, true), []⟩, ⟨.inl (.idxA 1), [.t 45, .t 47], some 48, some (44, true), []⟩, ⟨.inl (.ld false 1), [.t 48], some 49, some (44, true), []⟩, ⟨.inl (.bin .gtr), [.t 49, .c (.int .i64 (-1048576))], some 50, some (44, true), []⟩, oPk 44 50 false 51, oMv 51 52, oMg 6 53 52 true, ⟨.inl (.fldA 0), [.t 11], some 54, some (52, true), []⟩, ⟨.inl (.ld false 1), [.t 54], some 55, some (52, true), []⟩, ⟨.inl (.idxA 1), [.t 53, .t 55], some 56, some (52, true), []⟩, ⟨.inl (.ld false 1), [.t 56], some 57, some (52, true), []⟩, ⟨.inl (.fldA 3), [.t 11], some 58, some (52, true), []⟩, ⟨.inl (.ld false 1), [.t 58], some 59, some (52, true), []⟩, ⟨.inl (.bin .add), [.t 57, .t 59], some 60, some (52, true), []⟩, oMg 6 61 52 true, ⟨.inl (.fldA 1), [.t 11], some 62, some (52, true), []⟩, ⟨.inl (.ld false 1), [.t 62], some 63, some (52, true), []⟩, ⟨.inl (.idxA 1), [.t 61, .t 63], some 64, some (52, true), []⟩, ⟨.inl (.ld false 1), [.t 64], some 65, some (52, true), []⟩, ⟨.inl (.bin .gtr), [.t 60, .t 65], some 66, some (52, true), []⟩, oPk 52 66 false 67] (some ([0, 1, 2, 3, 4, 5, 6, 7, 8, 9, 10, 11, 12, 13, 14, 15, 16, 17, 18, 19, 20, 21, 22, 23, 24, 25, 26], [], [0, 1, 3, 7, 15, 15, 47, 127, 255, 511, 1023, 2047, 4095, 4095, 12287, 32767, 65535, 4095, 135167, 524287, 4095, 4095, 2101247, 7344127, 15732735, 33554431, 67108863])))
 (.cond (.t 67) st80_4 .skip))
def sq80_6 : AC := (.reg [oBc .add 36 (1) 85, oMv 85 36] none)
def sp80_7 : AC := (.block 5 (.seq (.reg [oMv 36 38, ⟨.inl (.idxA 4), [.t 34, .t 36], some 39, none, []⟩, ⟨.inl (.ld true 4), [.t 39], some 40, none, []⟩, ⟨.inr (.alloc true [.int .i64 0, .int .i64 0, .int .i64 0, .int .i64 0]), [], some 11, none, []⟩, oMv 38 10, ⟨.inr (.st 4), [.t 11, .t 40], none, none, []⟩] none)
 sq80_5))
def lb80_8 : AC := (.pre [0, 6, 7, 9, 34, 35, 36] (.seq (.reg [oBn .lss 36 35 37] none)
 (.seq (.cond (.t 37) .skip (.exit 4))
 (.seq sp80_7
 sq80_6))))
def sq80_9 : AC := (.seq (.reg [oMv 0 31, ⟨.inl .nilc, [.t 31], some 32, none, []⟩, ⟨.inl (.fldA 0), [.t 32], some 33, none, []⟩, oLd 33 34, oLn 34 35, oMc (.int .i64 (0)) 36] none)
 (.block 4 (.loop lb80_8)))
def lb80_10 : AC := (.pre [0, 6, 7, 9] (.seq (.seq (.reg [oMv 9 30] none)
 (.cond (.t 30) .skip (.exit 2)))
 (.block 3 (.seq (.reg [oMc (.bool false) 9] none)
 sq80_9))))
def sq80_11 : AC := (.pre [6, 7] (.seq (.reg [oMv 6 86, oMv 7 87, oMv 86 4, oMv 87 5] none)
 .ret))
def sq80_12 : AC := (.pre [0, 6, 7] (.seq (.reg [oMv 6 28, ⟨.inl (.idxA 1), [.t 28, .c (.int .i64 (0))], some 29, none, []⟩, ⟨.inr (.st 1), [.t 29, .c (.int .i64 (0))], none, none, []⟩] none)
 (.seq (.seq (.reg [oMc (.bool true) 9] none)
 (.block 2 (.loop lb80_10)))
 sq80_11)))
def sp80_13 : AC := (.seq (.reg [oMv 6 16, oLn 16 17, oMc (.int .i64 (0)) 18] none)
 (.block 0 (.loop lb80_3)))
def sq80_14 : AC := (.seq (.reg [oMv 1 12, ⟨.inr (.mkS 1 8 [.int .i64 0]), [.t 12, .t 12], some 13, none, []⟩, oMv 13 6, oMv 1 14, ⟨.inr (.mkS 1 8 [.int .i64 0]), [.t 14, .t 14], some 15, none, []⟩, oMv 15 7] (some ([0, 1, 4, 2, 3, 5], [4, 5], [0, 1, 0, 4, 3, 31])))
 (.seq sp80_13
 sq80_12))
def af80 : AFunc := ⟨2,
 (.seq (.reg [oMc (.nilS) 4, oMc (.nilS) 5] none)
 sq80_14),
 [.t 4, .t 5]⟩
def sq81_0 : AC := (.reg [oMv 0 32, ⟨.inl .nilc, [.t 32], some 33, none, []⟩, ⟨.inl (.fldA 0), [.t 33], some 34, none, []⟩, oLd 34 35, oMv 1 36, oMv 4 37, oIx 36 37 38, oLd 38 39, oBc .xor 39 (1) 40, ⟨.inl (.idxA 4), [.t 35, .t 40], some 41, none, []⟩, ⟨.inl (.fldA 2), [.t 41], some 42, none, []⟩, oLd 42 43, oBc .add 43 (1) 44, ⟨.inl (.idxA 4), [.t 35, .t 40], some 45, none, []⟩, ⟨.inl (.fldA 2), [.t 45], some 46, none, []⟩, ⟨.inr (.st 1), [.t 46, .t 44], none, none, []⟩] (some ([0, 1, 2, 3, 4, 5, 6, 7, 8, 9, 10, 11, 12, 13, 14, 15], [], [0, 1, 3, 7, 0, 0, 48, 112, 240, 511, 1023, 2047, 4095, 8191, 16383, 32767])))
def sq81_1 : AC := (.reg [oMv 0 7, ⟨.inl .nilc, [.t 7], some 8, none, []⟩, ⟨.inl (.fldA 0), [.t 8], some 9, none, []⟩, oLd 9 10, oMv 1 11, oMv 4 12, oIx 11 12 13, oLd 13 14, ⟨.inl (.idxA 4), [.t 10, .t 14], some 15, none, []⟩, ⟨.inl (.fldA 0), [.t 15], some 16, none, []⟩, oLd 16 17, oMv 17 4] (some ([0, 1, 2, 3, 4, 5, 6, 7, 8, 9, 10, 11], [], [0, 1, 3, 7, 0, 0, 48, 112, 255, 511, 1023, 2047])))
def sp81_2 : AC := (.block 1 (.seq (.reg [oMv 0 18, ⟨.inl .nilc, [.t 18], some 19, none, []⟩, ⟨.inl (.fldA 0), [.t 19], some 20, none, []⟩, oLd 20 21, oMv 1 22, oMv 4 23, oIx 22 23 24, oLd 24 25, ⟨.inl (.idxA 4), [.t 21, .t 25], some 26, none, []⟩, ⟨.inl (.fldA 2), [.t 26], some 27, none, []⟩, oLd 27 28, oBc .sub 28 (1) 29, ⟨.inl (.idxA 4), [.t 21, .t 25], some 30, none, []⟩, ⟨.inl (.fldA 2), [.t 30], some 31, none, []⟩, ⟨.inr (.st 1), [.t 31, .t 29], none, none, []⟩] (some ([0, 1, 2, 3, 4, 5, 6, 7, 8, 9, 10, 11, 12, 13, 14], [], [0, 1, 3, 7, 0, 0, 48, 112, 255, 511, 1023, 2047, 4095, 8191, 16383])))
 sq81_0))
def sp81_3 : AC := (.seq (.reg [oMv 4 5, oBc .neq 5 (0) 6] none)
 (.cond (.t 6) .skip (.exit 0)))
def lb81_4 : AC := (.pre [0, 1, 4] (.seq sp81_3
 (.seq sp81_2
 sq81_1)))
def af81 : AFunc := ⟨2,
 (.seq (.reg [oMc (.int .i64 (1)) 4] none)
 (.block 0 (.loop lb81_4))),
 []⟩
def sq82_0 : AC := (.seq (.reg [oMv 0 3, ⟨.inl (.bin .mul), [.c (.int .i64 (2)), .t 3], some 4, none, []⟩, ⟨.inl (.bin .add), [.c (.int .i64 (3)), .t 4], some 5, none, []⟩, oMv 5 2] none)
 .ret)
def af82 : AFunc := ⟨1,
 (.seq (.reg [oMc (.int .i64 (0)) 2] none)
 sq82_0),
 [.t 2]⟩
def sq83_0 : AC := (.seq (.reg [oMv 0 3, ⟨.inl (.bin .mul), [.c (.int .i64 (2)), .t 3], some 4, none, []⟩, ⟨.inl (.bin .add), [.c (.int .i64 (2)), .t 4], some 5, none, []⟩, oMv 5 2] none)
 .ret)
def af83 : AFunc := ⟨1,
 (.seq (.reg [oMc (.int .i64 (0)) 2] none)
 sq83_0),
 [.t 2]⟩
def st84_0 : AC := (.reg [oMv 3 56, oMv 4 57, oBc .sub 57 (2) 58, oBc .quo 58 (2) 59, ⟨.inr (.bldS true true 1 1 [.int .i64 0] [(0, 1)]), [.t 59], some 60, none, []⟩, oCl 96 [.t 56, .t 60] 61, oMv 61 3] none)
def sq84_1 : AC := (.seq (.reg [⟨.inl (.fldA 1), [.t 6], some 62, none, []⟩, oLd 62 63, oMv 63 4] none)
 (.exit 2))
def sp84_2 : AC := (.seq (.reg [⟨.inl (.fldA 3), [.t 6], some 53, none, []⟩, oLd 53 54, oBc .eql 54 (1) 55] none)
 (.cond (.t 55) st84_0 .skip))
def sq84_3 : AC := (.seq (.reg [oMv 0 41, ⟨.inl .nilc, [.t 41], some 42, none, []⟩, ⟨.inl (.fldA 0), [.t 42], some 43, none, []⟩, oLd 43 44, oMv 5 45, oBc .add 45 (1) 46, ⟨.inl (.idxA 4), [.t 44, .t 46], some 47, none, []⟩, ⟨.inl (.fldA 2), [.t 47], some 48, none, []⟩, oLd 48 49, oBc .sub 49 (1) 50, ⟨.inl (.idxA 4), [.t 44, .t 46], some 51, none, []⟩, ⟨.inl (.fldA 2), [.t 51], some 52, none, []⟩, ⟨.inr (.st 1), [.t 52, .t 50], none, none, []⟩] none)
 (.seq sp84_2
 sq84_1))
def sp84_4 : AC := (.seq (.reg [⟨.inl (.fldA 0), [.t 6], some 25, none, []⟩, oLd 25 26, oMv 4 27, oBn .neq 26 27 28, oMv 28 29, oMg 0 30 29 false, ⟨.inl .nilc, [.t 30], some 31, some (29, false), []⟩, ⟨.inl (.fldA 0), [.t 31], some 32, some (29, false), []⟩, ⟨.inl (.ld false 1), [.t 32], some 33, some (29, false), []⟩, oMg 5 34 29 false, ⟨.inl (.bin .add), [.t 34, .c (.int .i64 (1))], some 35, some (29, false), []⟩, ⟨.inl (.idxA 4), [.t 33, .t 35], some 36, some (29, false), []⟩, ⟨.inl (.fldA 2), [.t 36], some 37, some (29, false), []⟩, ⟨.inl (.ld false 1), [.t 37], some 38, some (29, false), []⟩, ⟨.inl (.bin .eql), [.t 38, .c (.int .i64 (0))], some 39, some (29, false), []⟩, ⟨.inl .pick, [.t 29, .c (.bool true), .t 39], some 40, none, []⟩] none)
 (.cond (.t 40) (.exit 3) .skip))
def sq84_5 : AC := (.reg [oMv 5 16, oBc .add 16 (2) 17, oMv 17 5] none)
def sp84_6 : AC := (.block 3 (.seq (.reg [oMv 0 18, ⟨.inl .nilc, [.t 18], some 19, none, []⟩, ⟨.inl (.fldA 0), [.t 19], some 20, none, []⟩, oLd 20 21, oMv 5 22, ⟨.inl (.idxA 4), [.t 21, .t 22], some 23, none, []⟩, ⟨.inl (.ld true 4), [.t 23], some 24, none, []⟩, ⟨.inr (.alloc true [.int .i64 0, .int .i64 0, .int .i64 0, .int .i64 0]), [], some 6, none, []⟩, ⟨.inr (.st 4), [.t 6, .t 24], none, none, []⟩] none)
 (.seq sp84_4
 sq84_3)))
def sp84_7 : AC := (.seq (.reg [oMv 5 9, oMv 0 10, ⟨.inl .nilc, [.t 10], some 11, none, []⟩, ⟨.inl (.fldA 0), [.t 11], some 12, none, []⟩, oLd 12 13, oLn 13 14, oBn .lss 9 14 15] none)
 (.cond (.t 15) .skip (.exit 2)))
def lb84_8 : AC := (.pre [0, 3, 4, 5] (.seq sp84_7
 (.seq sp84_6
 sq84_5)))
def sp84_9 : AC := (.seq (.reg [oMv 4 7, oBc .neq 7 (1) 8] none)
 (.cond (.t 8) .skip (.exit 0)))
def lb84_10 : AC := (.pre [0, 3, 4] (.seq sp84_9
 (.block 1 (.seq (.reg [oMc (.int .i64 (0)) 5] none)
 (.block 2 (.loop lb84_8))))))
def sq84_11 : AC := (.seq (.seq (.reg [oMc (.int .i64 (0)) 4] none)
 (.block 0 (.loop lb84_10)))
 (.pre [3] (.seq (.reg [oMv 3 64, oMv 64 2] none)
 .ret)))
def af84 : AFunc := ⟨1,
 (.seq (.reg [oMc (.nilS) 2] none)
 (.seq (.reg [oMc (.nilS) 3] none)
 sq84_11)),
 [.t 2]⟩
def sq85_0 : AC := (.seq (.reg [oMv 7 44, oBc .gtr 44 (0) 45, oMv 45 46, oMg 2 47 46 true, oMg 47 48 46 true, oMg 0 49 48 true, oMg 1 50 48 true, oMg 7 51 48 true, ⟨.inl (.idxA 1), [.t 50, .t 51], some 52, some (48, true), []⟩, ⟨.inl (.ld false 1), [.t 52], some 53, some (48, true), []⟩, ⟨.inl (.idxA 1), [.t 49, .t 53], some 54, some (48, true), []⟩, ⟨.inl (.ld false 1), [.t 54], some 55, some (48, true), []⟩, oMg 0 56 48 true, oMg 1 57 48 true, oMg 7 58 48 true, ⟨.inl (.bin .sub), [.t 58, .c (.int .i64 (1))], some 59, some (48, true), []⟩, ⟨.inl (.idxA 1), [.t 57, .t 59], some 60, some (48, true), []⟩, ⟨.inl (.ld false 1), [.t 60], some 61, some (48, true), []⟩, ⟨.inl (.idxA 1), [.t 56, .t 61], some 62, some (48, true), []⟩, ⟨.inl (.ld false 1), [.t 62], some 63, some (48, true), []⟩, ⟨.inl (.bin .lss), [.t 55, .t 63], some 64, some (48, true), []⟩, ⟨.inl .pick, [.t 48, .t 64, .c (.bool false)], some 65, some (46, true), []⟩, oMg 65 66 46 true, oMg 2 67 66 false, ⟨.inl (.un .not), [.t 67], some 68, some (66, false), []⟩, oMg 68 69 66 false, oMg 0 70 69 true, oMg 1 71 69 true, oMg 7 72 69 true, ⟨.inl (.idxA 1), [.t 71, .t 72], some 73, some (69, true), []⟩, ⟨.inl (.ld false 1), [.t 73], some 74, some (69, true), []⟩, ⟨.inl (.idxA 1), [.t 70, .t 74], some 75, some (69, true), []⟩, ⟨.inl (.ld false 1), [.t 75], some 76, some (69, true), []⟩, oMg 0 77 69 true, oMg 1 78 69 true, oMg 7 79 69 true, ⟨.inl (.bin .sub), [.t 79, .c (.int .i64 (1))], some 80, some (69, true), []⟩, ⟨.inl (.idxA 1), [.t 78, .t 80], some 81, some (69, true), []⟩, ⟨.inl (.ld false 1), [.t 81], some 82, some (69, true), []⟩, ⟨.inl (.idxA 1), [.t 77, .t 82], some 83, some (69, true), []⟩, ⟨.inl (.ld false 1), [.t 83], some 84, some (69, true), []⟩, ⟨.inl (.bin .geq), [.t 76, .t 84], some 85, some (69, true), []⟩, ⟨.inl .pick, [.t 69, .t 85, .c (.bool false)], some 86, some (66, false), []⟩, ⟨.inl .pick, [.t 66, .c (.bool true), .t 86], some 87, some (46, true), []⟩, oPk 46 87 false 88] (some ([0, 1, 2, 3, 4, 5, 6, 7, 8, 9, 10, 11, 12, 13, 14, 15, 16, 17, 18, 19, 20, 21, 22, 23, 24, 25, 26, 27, 28, 29, 30, 31, 32, 33, 34, 35, 36, 37, 38, 39, 40, 41, 42, 43, 44], [], [0, 1, 3, 7, 15, 31, 31, 31, 223, 479, 1023, 2047, 31, 31, 31, 16415, 57375, 122911, 258079, 520223, 1048575, 2097151, 4194303, 8388607, 16777215, 33554431, 67108863, 67108863, 67108863, 469762047, 1006632959, 2147483647, 4294967295, 67108863, 67108863, 67108863, 34426847231, 120326193151, 257765146623, 541232988159, 1090988802047, 2199023255551, 4398046511103, 8796093022207, 17592186044415])))
 (.cond (.t 88) (.seq (.reg [oMc (.bool false) 6] none)
 .ret) .skip))
def sp85_1 : AC := (.seq (.reg [oMv 1 14, oMv 7 15, oIx 14 15 16, oLd 16 17, oBc .lss 17 (0) 18, oMv 18 19, oMg 1 20 19 false, oMg 7 21 19 false, ⟨.inl (.idxA 1), [.t 20, .t 21], some 22, some (19, false), []⟩, ⟨.inl (.ld false 1), [.t 22], some 23, some (19, false), []⟩, oMg 0 24 19 false, ⟨.inl .len, [.t 24], some 25, some (19, false), []⟩, ⟨.inl (.bin .geq), [.t 23, .t 25], some 26, some (19, false), []⟩, ⟨.inl .pick, [.t 19, .c (.bool true), .t 26], some 27, none, []⟩, oMv 27 28, oMg 7 29 28 false, ⟨.inl (.bin .gtr), [.t 29, .c (.int .i64 (0))], some 30, some (28, false), []⟩, oMg 30 31 28 false, oMg 1 32 31 true, oMg 7 33 31 true, ⟨.inl (.bin .sub), [.t 33, .c (.int .i64 (1))], some 34, some (31, true), []⟩, ⟨.inl (.idxA 1), [.t 32, .t 34], some 35, some (31, true), []⟩, ⟨.inl (.ld false 1), [.t 35], some 36, some (31, true), []⟩, oMg 1 37 31 true, oMg 7 38 31 true, ⟨.inl (.idxA 1), [.t 37, .t 38], some 39, some (31, true), []⟩, ⟨.inl (.ld false 1), [.t 39], some 40, some (31, true), []⟩, ⟨.inl (.bin .geq), [.t 36, .t 40], some 41, some (31, true), []⟩, ⟨.inl .pick, [.t 31, .t 41, .c (.bool false)], some 42, some (28, false), []⟩, ⟨.inl .pick, [.t 28, .c (.bool true), .t 42], some 43, none, []⟩] (some ([0, 1, 2, 3, 4, 5, 6, 7, 8, 9, 10, 11, 12, 13, 14, 15, 16, 17, 18, 19, 20, 21, 22, 23, 24, 25, 26, 27, 28, 29], [], [0, 0, 3, 7, 15, 31, 63, 63, 255, 511, 63, 1087, 4095, 8191, 16383, 32767, 65535, 131071, 262143, 262143, 786431, 2097151, 4194303, 262143, 262143, 25427967, 58982399, 134217727, 268435455, 536870911])))
 (.cond (.t 43) (.seq (.reg [oMc (.bool false) 6] none)
 .ret) .skip))
def sq85_2 : AC := (.reg [oMv 7 12, oBc .add 12 (1) 13, oMv 13 7] none)
def sp85_3 : AC := (.seq (.reg [oMv 7 8, oMv 1 9, oLn 9 10, oBn .lss 8 10 11] none)
 (.cond (.t 11) .skip (.exit 0)))
def lb85_4 : AC := (.pre [0, 1, 2, 7] (.seq sp85_3
 (.seq (.block 1 (.seq sp85_1
 sq85_0))
 sq85_2)))
def sq85_5 : AC := (.pre [1] (.seq (.reg [oMv 1 89, oLn 89 90, oBc .gtr 90 (0) 91, oMv 91 6] none)
 .ret))
def af85 : AFunc := ⟨3,
 (.seq (.reg [oMc (.bool false) 6] none)
 (.seq (.seq (.reg [oMc (.int .i64 (0)) 7] none)
 (.block 0 (.loop lb85_4)))
 sq85_5)),
 [.t 6]⟩
def st91_0 : AC := (.reg [oMv 7 22, oBc .add 22 (1) 23, oMv 23 5] none)
def sq91_1 : AC := (.seq (.reg [oMv 1 18, oMv 7 19, ⟨.inr (.callv true true), [.t 18, .t 19], some 20, none, []⟩, ⟨.inl (.un .not), [.t 20], some 21, none, []⟩] none)
 (.cond (.t 21) st91_0 (.reg [oMv 7 24, oMv 24 6] none)))
def sq91_2 : AC := (.block 1 (.seq (.reg [oMv 5 12, oMv 6 13, oBn .add 12 13 14, ⟨.inl (.conv .u64), [.t 14], some 15, none, []⟩, ⟨.inl (.bin .shr), [.t 15, .c (.int .u64 (1))], some 16, none, []⟩, ⟨.inl (.conv .i64), [.t 16], some 17, none, []⟩, oMv 17 7] none)
 sq91_1))
def sp91_3 : AC := (.seq (.reg [oMv 5 9, oMv 6 10, oBn .lss 9 10 11] none)
 (.cond (.t 11) .skip (.exit 0)))
def lb91_4 : AC := (.pre [1, 5, 6] (.seq sp91_3
 sq91_2))
def sq91_5 : AC := (.seq (.block 0 (.loop lb91_4))
 (.pre [5] (.seq (.reg [oMv 5 25, oMv 25 4] none)
 .ret)))
def sq91_6 : AC := (.seq (.reg [oMv 0 8, oMc (.int .i64 (0)) 5, oMv 8 6] none)
 sq91_5)
def af91 : AFunc := ⟨2,
 (.seq (.reg [oMc (.int .i64 (0)) 4] none)
 sq91_6),
 [.t 4]⟩
def sq93_0 : AC := (.cond (.t 16) (.seq (.reg [oMv 5 17, oMv 17 4] none)
 .ret) .skip)
def sq93_1 : AC := (.seq (.reg [oMv 1 11, oMv 0 12, oMv 5 13, oIx 12 13 14, oLd 14 15, ⟨.inr (.callv true true), [.t 11, .t 15], some 16, none, []⟩] none)
 sq93_0)
def sq93_2 : AC := (.seq (.block 1 (.seq (.reg [oMv 8 10, oMv 10 5] none)
 sq93_1))
 (.reg [oBc .add 8 (1) 18, oMv 18 8] none))
def lb93_3 : AC := (.pre [0, 1, 7, 8] (.seq (.reg [oBn .lss 8 7 9] none)
 (.seq (.cond (.t 9) .skip (.exit 0))
 sq93_2)))
def sp93_4 : AC := (.seq (.reg [oMv 0 6, oLn 6 7, oMc (.int .i64 (0)) 8] none)
 (.block 0 (.loop lb93_3)))
def af93 : AFunc := ⟨2,
 (.seq (.reg [oMc (.int .i64 (0)) 4] none)
 (.seq sp93_4
 (.pre [] (.seq (.reg [oMc (.int .i64 (-1)) 4] none)
 .ret)))),
 [.t 4]⟩
def sq94_0 : AC := (.seq (.reg [oLd 1 5, oMv 0 6, oIx 5 6 7, oLd 7 8, oLd 2 9, oBn .gtr 8 9 10, oMv 10 4] (some ([0, 1, 2, 3, 4, 5, 6], [], [0, 0, 3, 7, 0, 31, 63])))
 .ret)
def af94 : AFunc := ⟨3,
 (.seq (.reg [oMc (.bool false) 4] none)
 sq94_0),
 [.t 4]⟩
def af95 : AFunc := ⟨5,
 (.reg [oMv 0 10, oMv 0 11, ⟨.inl .nilc, [.t 11], some 12, none, []⟩, ⟨.inl (.fldA 0), [.t 12], some 13, none, []⟩, oLd 13 14, oMv 1 15, oMv 2 16, oMv 3 17, oMv 4 18, ⟨.inl (.bld [.int .i64 0, .int .i64 0, .int .i64 0, .int .i64 0] [(0, 1), (1, 1), (2, 1), (3, 1)]), [.t 15, .t 16, .t 17, .t 18], some 19, none, []⟩, oMv 2 20, oMv 1 21, oMv 4 22, ⟨.inl (.un .neg), [.t 22], some 23, none, []⟩, ⟨.inl (.bld [.int .i64 0, .int .i64 0, .int .i64 0, .int .i64 0] [(0, 1), (1, 1), (2, 1), (3, 1)]), [.t 20, .t 21, .c (.int .i64 (0)), .t 23], some 24, none, []⟩, ⟨.inr (.bldS true true 4 2 [.int .i64 0, .int .i64 0, .int .i64 0, .int .i64 0] [(0, 4), (4, 4)]), [.t 19, .t 24], some 25, none, []⟩, ⟨.inr (.app false 4 32), [.t 14, .t 25], some 26, none, []⟩, ⟨.inl .nilc, [.t 10], some 27, none, []⟩, ⟨.inl (.fldA 0), [.t 27], some 28, none, []⟩, ⟨.inr (.st 1), [.t 28, .t 26], none, none, []⟩] none),
 []⟩
def sq96_0 : AC := (.seq (.reg [oMv 0 5, ⟨.inr (.call true false 78), [.t 5], some 6, none, []⟩, oMv 1 7, ⟨.inr (.app false 1 8), [.t 6, .t 7], some 8, none, []⟩, oMv 8 4] none)
 .ret)
def af96 : AFunc := ⟨2,
 (.seq (.reg [oMc (.nilS) 4] none)
 sq96_0),
 [.t 4]⟩
def tab : Nat → Option AFunc
  | 9 => some af9
  | 19 => some af19
  | 20 => some af20
  | 21 => some af21
  | 22 => some af22
  | 23 => some af23
  | 25 => some af25
  | 26 => some af26
  | 27 => some af27
  | 34 => some af34
  | 39 => some af39
  | 40 => some af40
  | 52 => some af52
  | 53 => some af53
  | 55 => some af55
  | 56 => some af56
  | 57 => some af57
  | 60 => some af60
  | 61 => some af61
  | 62 => some af62
  | 63 => some af63
  | 64 => some af64
  | 72 => some af72
  | 73 => some af73
  | 74 => some af74
  | 75 => some af75
  | 76 => some af76
  | 77 => some af77
  | 78 => some af78
  | 79 => some af79
  | 80 => some af80
  | 81 => some af81
  | 82 => some af82
  | 83 => some af83
  | 84 => some af84
  | 85 => some af85
  | 91 => some af91
  | 93 => some af93
  | 94 => some af94
  | 95 => some af95
  | 96 => some af96
  | _ => none
def tabI : Nat → Option AFunc
  | _ => none
def types : List (Nat × TS) := [
  (3, ⟨.int .i64, 1, 8, [.int .i64 0]⟩),
  (4, ⟨.bool, 1, 1, [.bool false]⟩),
  (22, ⟨.slice 3, 1, 24, [.nilS]⟩),
  (24, ⟨.slice 22, 1, 24, [.nilS]⟩),
  (45, ⟨.struct [(0, 24), (1, 24)], 2, 48, [.nilS, .nilS]⟩),
  (54, ⟨.slice 4, 1, 24, [.nilS]⟩),
  (69, ⟨.map 80 3, 1, 8, [.nilM]⟩),
  (72, ⟨.int .u64, 1, 8, [.int .u64 0]⟩),
  (80, ⟨.array 30 3, 30, 240, [.int .i64 0, .int .i64 0, .int .i64 0, .int .i64 0, .int .i64 0, .int .i64 0, .int .i64 0, .int .i64 0, .int .i64 0, .int .i64 0, .int .i64 0, .int .i64 0, .int .i64 0, .int .i64 0, .int .i64 0, .int .i64 0, .int .i64 0, .int .i64 0, .int .i64 0, .int .i64 0, .int .i64 0, .int .i64 0, .int .i64 0, .int .i64 0, .int .i64 0, .int .i64 0, .int .i64 0, .int .i64 0, .int .i64 0, .int .i64 0]⟩),
  (88, ⟨.map 3 4, 1, 8, [.nilM]⟩),
  (94, ⟨.slice 99, 1, 24, [.nilS]⟩),
  (96, ⟨.struct [(0, 94)], 1, 24, [.nilS]⟩),
  (99, ⟨.struct [(0, 3), (1, 3), (2, 3), (3, 3)], 4, 32, [.int .i64 0, .int .i64 0, .int .i64 0, .int .i64 0]⟩)
]
end Go.AM.Tb
