/- The functions as the abstract machine has them. -/
import Derived.Test.YtmegimhfoedcdaaM3
namespace Go.AM.Ch
def sq11_0 : AC := (.cond (.t 37) (.seq (.reg [oCl 25 [] 38, oMv 38 2] none)
 .ret) .skip)
def st11_1 : AC := (.seq (.reg [oMv 7 73, oMv 73 5] none)
 (.reg [oMv 8 74, oMv 74 6] none))
def sq11_2 : AC := (.reg [oMv 8 47, oBc .add 47 (1) 48, oMv 48 8] none)
def sp11_3 : AC := (.block 3 (.seq (.reg [oMv 3 49, oMv 7 50, oIx 49 50 51, oLd 51 52, oMv 8 53, oIx 52 53 54, oLd 54 55, oBc .gtr 55 (1) 56, oMv 56 57, oMg 3 58 57 false, oMg 7 59 57 false, ⟨.inl (.idxA 1), [.t 58, .t 59], some 60, some (57, false), []⟩, ⟨.inl (.ld false 1), [.t 60], some 61, some (57, false), []⟩, oMg 8 62 57 false, ⟨.inl (.idxA 1), [.t 61, .t 62], some 63, some (57, false), []⟩, ⟨.inl (.ld false 1), [.t 63], some 64, some (57, false), []⟩, ⟨.inl (.bin .eql), [.t 64, .c (.int .i64 (1))], some 65, some (57, false), []⟩, oMg 65 66 57 false, oMg 8 67 66 true, oMg 7 68 66 true, ⟨.inl (.bin .sub), [.t 68, .c (.int .i64 (1))], some 69, some (66, true), []⟩, ⟨.inl (.bin .lss), [.t 67, .t 69], some 70, some (66, true), []⟩, ⟨.inl .pick, [.t 66, .t 70, .c (.bool false)], some 71, some (57, false), []⟩, ⟨.inl .pick, [.t 57, .c (.bool true), .t 71], some 72, none, []⟩] none)
 (.cond (.t 72) st11_1 .skip)))
def sp11_4 : AC := (.seq (.reg [oMv 8 44, oMv 7 45, oBn .lss 44 45 46] none)
 (.cond (.t 46) .skip (.exit 2)))
def lb11_5 : AC := (.pre [3, 4, 5, 6, 7, 8] (.seq sp11_4
 (.seq sp11_3
 sq11_2)))
def sq11_6 : AC := (.pre [3, 4, 5, 6, 7] (.reg [oMv 7 42, oBc .add 42 (1) 43, oMv 43 7] none))
def sq11_7 : AC := (.seq (.block 1 (.seq (.reg [oMc (.int .i64 (0)) 8] none)
 (.block 2 (.loop lb11_5))))
 sq11_6)
def sp11_8 : AC := (.seq (.reg [oMv 7 39, oMv 4 40, oBn .lss 39 40 41] none)
 (.cond (.t 41) .skip (.exit 0)))
def lb11_9 : AC := (.pre [3, 4, 5, 6, 7] (.seq sp11_8
 sq11_7))
def sq11_10 : AC := (.reg [oMv 11 101, oMv 12 102, oIx 101 102 103, oLd 103 104, oMv 12 105, oMv 4 106, oBn .add 105 106 107, oBc .sub 107 (1) 108, oMv 4 109, oBn .rem 108 109 110, oIx 104 110 111, ⟨.inr (.st 1), [.t 111, .c (.int .i64 (1))], none, none, []⟩] (some ([0, 1, 2, 3, 4, 5, 6, 7, 8, 9, 10, 11], [], [0, 0, 3, 7, 0, 0, 48, 112, 0, 496, 1023, 2047])))
def sq11_11 : AC := (.seq (.reg [oMv 11 92, oMv 12 93, oIx 92 93 94, oLd 94 95, oMv 12 96, oBc .add 96 (1) 97, oMv 4 98, oBn .rem 97 98 99, oIx 95 99 100, ⟨.inr (.st 1), [.t 100, .c (.int .i64 (1))], none, none, []⟩] (some ([0, 1, 2, 3, 4, 5, 6, 7, 8, 9], [], [0, 0, 3, 7, 0, 16, 0, 112, 255, 511])))
 sq11_10)
def sq11_12 : AC := (.reg [oMv 12 85, oBc .add 85 (1) 86, oMv 86 12] none)
def sp11_13 : AC := (.block 5 (.seq (.reg [oMv 11 87, oMv 12 88, oMv 4 89, ⟨.inr (.mkS 1 8 [.int .i64 0]), [.t 89, .t 89], some 90, none, []⟩, oIx 87 88 91, ⟨.inr (.st 1), [.t 91, .t 90], none, none, []⟩] none)
 sq11_11))
def sp11_14 : AC := (.seq (.reg [oMv 12 82, oMv 4 83, oBn .lss 82 83 84] none)
 (.cond (.t 84) .skip (.exit 4)))
def lb11_15 : AC := (.pre [3, 4, 5, 6, 9, 10, 11, 12] (.seq sp11_14
 (.seq sp11_13
 sq11_12)))
def st11_16 : AC := (.seq (.reg [oMv 9 144, oBc .eql 144 (1) 145, oMv 145 146, ⟨.inr (.call true true 25), [], some 147, some (146, true), []⟩, oPk 146 147 false 148, oMv 148 2] none)
 .ret)
def sq11_17 : AC := (.reg [oMv 22 191, oBc .add 191 (1) 192, oMv 192 22] none)
def sp11_18 : AC := (.block 7 (.reg [oMv 21 193, oMv 22 194, oMv 4 195, oBc .sub 195 (1) 196, ⟨.inr (.mkS 1 8 [.int .i64 0]), [.t 196, .t 196], some 197, none, []⟩, oIx 193 194 198, ⟨.inr (.st 1), [.t 198, .t 197], none, none, []⟩] none))
def sp11_19 : AC := (.seq (.reg [oMv 22 187, oMv 4 188, oBc .sub 188 (1) 189, oBn .lss 187 189 190] none)
 (.cond (.t 190) .skip (.exit 6)))
def lb11_20 : AC := (.pre [3, 4, 5, 6, 9, 19, 20, 21, 22] (.seq sp11_19
 (.seq sp11_18
 sq11_17)))
def sq11_21 : AC := (.reg [oMv 27 226, oMv 26 227, oMv 27 228, oMv 26 229, oIx 228 229 230, oLd 230 231, oMv 3 232, oMv 23 233, oIx 232 233 234, oLd 234 235, oMv 24 236, oIx 235 236 237, oLd 237 238, oBn .add 231 238 239, oIx 226 227 240, ⟨.inr (.st 1), [.t 240, .t 239], none, none, []⟩] (some ([0, 1, 2, 3, 4, 5, 6, 7, 8, 9, 10, 11, 12, 13, 14, 15], [], [0, 0, 0, 0, 12, 28, 0, 0, 192, 448, 0, 1984, 4032, 8188, 16383, 32767])))
def st11_22 : AC := (.seq (.reg [oMv 21 222, oMv 25 223, oIx 222 223 224, oLd 224 225, oMv 225 27] none)
 sq11_21)
def sq11_23 : AC := (.seq (.reg [oMv 25 219, oMv 26 220, oBn .neq 219 220 221] none)
 (.cond (.t 221) st11_22 .skip))
def sq11_24 : AC := (.reg [oMv 24 207, oBc .add 207 (1) 208, oMv 208 24] none)
def sp11_25 : AC := (.block 11 (.seq (.reg [oMv 23 209, oMv 5 210, oMv 6 211, oMv 4 212, oCl 45 [.t 209, .t 210, .t 211, .t 212] 213, oMv 24 214, oMv 5 215, oMv 6 216, oMv 4 217, oCl 45 [.t 214, .t 215, .t 216, .t 217] 218, oMv 213 25, oMv 218 26] none)
 sq11_23))
def sp11_26 : AC := (.seq (.reg [oMv 24 204, oMv 4 205, oBn .lss 204 205 206] none)
 (.cond (.t 206) .skip (.exit 10)))
def lb11_27 : AC := (.pre [3, 4, 5, 6, 9, 19, 20, 21, 23, 24] (.seq sp11_26
 (.seq sp11_25
 sq11_24)))
def sq11_28 : AC := (.pre [3, 4, 5, 6, 9, 19, 20, 21, 23] (.reg [oMv 23 202, oBc .add 202 (1) 203, oMv 203 23] none))
def sq11_29 : AC := (.seq (.block 9 (.seq (.reg [oMc (.int .i64 (0)) 24] none)
 (.block 10 (.loop lb11_27))))
 sq11_28)
def sp11_30 : AC := (.seq (.reg [oMv 23 199, oMv 4 200, oBn .lss 199 200 201] none)
 (.cond (.t 201) .skip (.exit 8)))
def lb11_31 : AC := (.pre [3, 4, 5, 6, 9, 19, 20, 21, 23] (.seq sp11_30
 sq11_29))
def st11_32 : AC := (.seq (.reg [oMv 20 261, oBc .eql 261 (0) 262, oMv 262 263, oMg 19 264 263 true, oMg 9 265 263 true, ⟨.inl (.bin .leq), [.t 264, .t 265], some 266, some (263, true), []⟩, oPk 263 266 false 267, oMv 267 268, ⟨.inr (.call true true 25), [], some 269, some (268, true), []⟩, oPk 268 269 false 270, oMv 270 2] none)
 .ret)
def sq11_33 : AC := (.reg [oMv 29 251, oBc .add 251 (1) 252, oMv 252 29] none)
def sp11_34 : AC := (.block 15 (.seq (.reg [oMv 21 253, oMv 28 254, oIx 253 254 255, oLd 255 256, oMv 29 257, oIx 256 257 258, oLd 258 259, oBc .gtr 259 (3) 260] none)
 (.cond (.t 260) st11_32 .skip)))
def sp11_35 : AC := (.seq (.reg [oMv 29 247, oMv 4 248, oBc .sub 248 (1) 249, oBn .lss 247 249 250] none)
 (.cond (.t 250) .skip (.exit 14)))
def lb11_36 : AC := (.pre [4, 9, 19, 20, 21, 28, 29] (.seq sp11_35
 (.seq sp11_34
 sq11_33)))
def sq11_37 : AC := (.pre [4, 9, 19, 20, 21, 28] (.reg [oMv 28 245, oBc .add 245 (1) 246, oMv 246 28] none))
def sq11_38 : AC := (.seq (.block 13 (.seq (.reg [oMc (.int .i64 (0)) 29] none)
 (.block 14 (.loop lb11_36))))
 sq11_37)
def sp11_39 : AC := (.seq (.reg [oMv 28 241, oMv 4 242, oBc .sub 242 (1) 243, oBn .lss 241 243 244] none)
 (.cond (.t 244) .skip (.exit 12)))
def lb11_40 : AC := (.pre [4, 9, 19, 20, 21, 28] (.seq sp11_39
 sq11_38))
def sq11_41 : AC := (.seq (.reg [oMv 20 276, oBc .eql 276 (0) 277, oMv 277 278, oMg 31 279 278 true, ⟨.inl (.bin .eql), [.t 279, .c (.int .i64 (0))], some 280, some (278, true), []⟩, oPk 278 280 false 281, oMv 281 282, oMg 9 283 282 true, oMg 19 284 282 true, oMg 30 285 282 true, ⟨.inl (.bin .add), [.t 284, .t 285], some 286, some (282, true), []⟩, ⟨.inl (.bin .eql), [.t 283, .t 286], some 287, some (282, true), []⟩, oPk 282 287 false 288, oMv 288 289, ⟨.inr (.call true true 25), [], some 290, some (289, true), []⟩, oPk 289 290 false 291, oMv 291 2] none)
 .ret)
def sq11_42 : AC := (.pre [9, 19, 20, 21] (.seq (.reg [oMv 21 272, oCl 29 [.t 272] 273, oMv 273 271, oEx 0 271 274, oEx 1 271 275, oMv 274 30, oMv 275 31] none)
 sq11_41))
def sq11_43 : AC := (.pre [4, 9, 19, 20, 21] (.seq (.seq (.reg [oMc (.int .i64 (0)) 28] none)
 (.block 12 (.loop lb11_40)))
 sq11_42))
def sq11_44 : AC := (.pre [3, 4, 5, 6, 9, 19, 20, 21] (.seq (.seq (.reg [oMc (.int .i64 (0)) 23] none)
 (.block 8 (.loop lb11_31)))
 sq11_43))
def sq11_45 : AC := (.seq (.reg [oMv 4 184, oBc .sub 184 (1) 185, ⟨.inr (.mkB 1 24 [.nilS]), [.t 185, .t 185], some 186, none, []⟩, oMv 186 21] none)
 (.seq (.seq (.reg [oMc (.int .i64 (0)) 22] none)
 (.block 6 (.loop lb11_20)))
 sq11_44))
def sq11_46 : AC := (.seq (.reg [oMv 18 180, oCl 29 [.t 180] 181, oMv 181 179, oEx 0 179 182, oEx 1 179 183, oMv 182 19, oMv 183 20] none)
 sq11_45)
def sq11_47 : AC := (.seq (.reg [oMv 18 165, oMv 6 166, oIx 165 166 167, oLd 167 168, oMv 5 169, oMv 18 170, oMv 6 171, oIx 170 171 172, oLd 172 173, oMv 5 174, oIx 173 174 175, oLd 175 176, oBc .sub 176 (1) 177, oIx 168 169 178, ⟨.inr (.st 1), [.t 178, .t 177], none, none, []⟩] (some ([0, 1, 2, 3, 4, 5, 6, 7, 8, 9, 10, 11, 12, 13, 14], [], [0, 0, 3, 7, 0, 0, 0, 96, 224, 0, 992, 2016, 4064, 8191, 16383])))
 sq11_46)
def sq11_48 : AC := (.seq (.reg [oMv 18 151, oMv 5 152, oIx 151 152 153, oLd 153 154, oMv 6 155, oMv 18 156, oMv 5 157, oIx 156 157 158, oLd 158 159, oMv 6 160, oIx 159 160 161, oLd 161 162, oBc .sub 162 (1) 163, oIx 154 155 164, ⟨.inr (.st 1), [.t 164, .t 163], none, none, []⟩] (some ([0, 1, 2, 3, 4, 5, 6, 7, 8, 9, 10, 11, 12, 13, 14], [], [0, 0, 3, 7, 0, 0, 0, 96, 224, 0, 992, 2016, 4064, 8191, 16383])))
 sq11_47)
def sq11_49 : AC := (.seq (.reg [oMv 3 149, ⟨.inr (.call true false 18), [.t 149], some 150, none, []⟩, oMv 150 18] none)
 sq11_48)
def sp11_50 : AC := (.seq (.reg [oMv 5 142, oBc .lss 142 (0) 143] none)
 (.cond (.t 143) st11_16 .skip))
def sp11_51 : AC := (.seq (.reg [oMv 10 123, oBc .neq 123 (0) 124, oMv 124 125, oMg 14 126 125 false, ⟨.inl (.bin .neq), [.t 126, .c (.int .i64 (0))], some 127, some (125, false), []⟩, ⟨.inl .pick, [.t 125, .c (.bool true), .t 127], some 128, none, []⟩, oMv 128 129, oMg 17 130 129 false, ⟨.inl (.bin .neq), [.t 130, .c (.int .i64 (0))], some 131, some (129, false), []⟩, ⟨.inl .pick, [.t 129, .c (.bool true), .t 131], some 132, none, []⟩, oMv 132 133, oMg 13 134 133 false, oMg 4 135 133 false, ⟨.inl (.bin .neq), [.t 134, .t 135], some 136, some (133, false), []⟩, ⟨.inl .pick, [.t 133, .c (.bool true), .t 136], some 137, none, []⟩, oMv 137 138, oMg 16 139 138 false, ⟨.inl (.bin .neq), [.t 139, .c (.int .i64 (1))], some 140, some (138, false), []⟩, ⟨.inl .pick, [.t 138, .c (.bool true), .t 140], some 141, none, []⟩] none)
 (.cond (.t 141) (.seq (.reg [oMc (.bool false) 2] none)
 .ret) .skip))
def sq11_52 : AC := (.seq (.reg [oMv 11 118, oCl 41 [.t 118] 119, oMv 119 117, oEx 0 117 120, oEx 1 117 121, oEx 2 117 122, oMv 120 15, oMv 121 16, oMv 122 17] none)
 (.seq sp11_51
 (.seq sp11_50
 sq11_49)))
def sq11_53 : AC := (.pre [3, 4, 5, 6, 9, 10, 11] (.seq (.reg [oMv 11 113, oCl 29 [.t 113] 114, oMv 114 112, oEx 0 112 115, oEx 1 112 116, oMv 115 13, oMv 116 14] none)
 sq11_52))
def sq11_54 : AC := (.seq (.reg [oMv 4 80, ⟨.inr (.mkB 1 24 [.nilS]), [.t 80, .t 80], some 81, none, []⟩, oMv 81 11] none)
 (.seq (.seq (.reg [oMc (.int .i64 (0)) 12] none)
 (.block 4 (.loop lb11_15)))
 sq11_53))
def sq11_55 : AC := (.pre [3, 4, 5, 6] (.seq (.reg [oMv 3 76, oCl 29 [.t 76] 77, oMv 77 75, oEx 0 75 78, oEx 1 75 79, oMv 78 9, oMv 79 10] none)
 sq11_54))
def sq11_56 : AC := (.seq (.reg [oMc (.int .i64 (-1)) 5, oMc (.int .i64 (-1)) 6] none)
 (.seq (.seq (.reg [oMc (.int .i64 (0)) 7] none)
 (.block 0 (.loop lb11_9)))
 sq11_55))
def sp11_57 : AC := (.seq (.reg [oMv 4 36, oBc .lss 36 (3) 37] none)
 sq11_0)
def sq11_58 : AC := (.seq (.reg [oMv 3 34, oLn 34 35, oMv 35 4] none)
 (.seq sp11_57
 sq11_56))
def sq11_59 : AC := (.seq (.reg [oMv 0 32, oCl 44 [.t 32, .c (.int .i64 (6))] 33, oMv 33 3] none)
 sq11_58)
def af11 : AFunc := ⟨1,
 (.seq (.reg [oMc (.bool false) 2] none)
 sq11_59),
 [.t 2]⟩
def sq18_0 : AC := (.reg [oMv 4 13, oBc .add 13 (1) 14, oMv 14 4] none)
def sp18_1 : AC := (.block 1 (.reg [oMv 3 15, oMv 0 16, oMv 4 17, oIx 16 17 18, oLd 18 19, ⟨.inr (.call true false 19), [.t 19], some 20, none, []⟩, ⟨.inr (.bldB 1 1 [.nilS] [(0, 1)]), [.t 20], some 21, none, []⟩, ⟨.inr (.appB 1 24), [.t 15, .t 21], some 22, none, []⟩, oMv 22 3] none))
def sp18_2 : AC := (.seq (.reg [oMv 4 5, oMv 0 6, oLn 6 7, oBn .lss 5 7 8, oMv 8 9, oMg 4 10 9 true, ⟨.inl (.bin .lss), [.t 10, .c (.int .i64 (12))], some 11, some (9, true), []⟩, oPk 9 11 false 12] none)
 (.cond (.t 12) .skip (.exit 0)))
def lb18_3 : AC := (.pre [0, 3, 4] (.seq sp18_2
 (.seq sp18_1
 sq18_0)))
def sq18_4 : AC := (.seq (.seq (.reg [oMc (.int .i64 (0)) 4] none)
 (.block 0 (.loop lb18_3)))
 (.pre [3] (.seq (.reg [oMv 3 23, oMv 23 2] none)
 .ret)))
def af18 : AFunc := ⟨1,
 (.seq (.reg [oMc (.nilS) 2] none)
 (.seq (.reg [oMc (.nilS) 3] none)
 sq18_4)),
 [.t 2]⟩
def sq19_0 : AC := (.seq (.reg [oMv 3 4, oMv 0 5, oMv 0 6, oLn 6 7, ⟨.inl .mn, [.t 7, .c (.int .i64 (12))], some 8, none, []⟩, ⟨.inl (.slc 1 false true), [.t 5, .t 8], some 9, none, []⟩, ⟨.inr (.app false 1 8), [.t 4, .t 9], some 10, none, []⟩, oMv 10 2] none)
 .ret)
def af19 : AFunc := ⟨1,
 (.seq (.reg [oMc (.nilS) 2] none)
 (.seq (.reg [oMc (.nilS) 3] none)
 sq19_0)),
 [.t 2]⟩
def st20_0 : AC := (.seq (.reg [oMc (.nilS) 6, oMc (.nilS) 7, oMc (.int .i64 (2)) 8] none)
 .ret)
def sq20_1 : AC := (.seq (.reg [oMv 9 14, oBc .neq 14 (0) 15, oMv 15 16, oMg 2 17 16 false, oMg 0 18 16 false, ⟨.inl .len, [.t 18], some 19, some (16, false), []⟩, ⟨.inl (.bin .sub), [.t 19, .c (.int .i64 (1))], some 20, some (16, false), []⟩, ⟨.inr (.call true true 53), [.t 17, .c (.int .i64 (0)), .t 20], some 21, some (16, false), []⟩, ⟨.inl (.un .not), [.t 21], some 22, some (16, false), []⟩, ⟨.inl .pick, [.t 16, .c (.bool true), .t 22], some 23, none, []⟩] none)
 (.cond (.t 23) st20_0 .skip))
def sq20_2 : AC := (.seq (.reg [oMv 0 28, oMv 1 29, oMv 10 30, ⟨.inr (.call true false 55), [.t 28, .t 29, .t 30], some 31, none, []⟩, oMv 10 32, oMv 31 6, oMv 32 7, oMc (.int .i64 (0)) 8] none)
 .ret)
def sq20_3 : AC := (.seq (.reg [oMv 0 24, oMv 1 25, oMv 2 26, ⟨.inr (.call true false 54), [.t 24, .t 25, .t 26], some 27, none, []⟩, oMv 27 10] none)
 sq20_2)
def sp20_4 : AC := (.seq (.reg [oMv 0 11, oMv 1 12, oCl 52 [.t 11, .t 12] 13, oMv 13 9] none)
 sq20_1)
def af20 : AFunc := ⟨3,
 (.seq (.reg [oMc (.nilS) 6, oMc (.nilS) 7, oMc (.int .i64 (0)) 8] none)
 (.seq sp20_4
 sq20_3)),
 [.t 6, .t 7, .t 8]⟩
def sq22_0 : AC := (.reg [oMv 5 15, oBc .add 15 (1) 16, oMv 16 5] none)
def sp22_1 : AC := (.block 1 (.seq (.reg [oMv 0 17, oMv 5 18, oIx 17 18 19, oLd 19 20, oMv 1 21, oMv 5 22, oIx 21 22 23, oLd 23 24, oBn .neq 20 24 25] (some ([0, 1, 2, 3, 4, 5, 6, 7, 8], [], [0, 0, 3, 7, 0, 0, 48, 112, 255])))
 (.cond (.t 25) (.seq (.reg [oMc (.bool false) 4] none)
 .ret) .skip)))
def sp22_2 : AC := (.seq (.reg [oMv 5 11, oMv 0 12, oLn 12 13, oBn .lss 11 13 14] none)
 (.cond (.t 14) .skip (.exit 0)))
def lb22_3 : AC := (.pre [0, 1, 5] (.seq sp22_2
 (.seq sp22_1
 sq22_0)))
def sq22_4 : AC := (.seq (.seq (.reg [oMc (.int .i64 (0)) 5] none)
 (.block 0 (.loop lb22_3)))
 (.pre [] (.seq (.reg [oMc (.bool true) 4] none)
 .ret)))
def sp22_5 : AC := (.seq (.reg [oMv 0 6, oLn 6 7, oMv 1 8, oLn 8 9, oBn .neq 7 9 10] none)
 (.cond (.t 10) (.seq (.reg [oMc (.bool false) 4] none)
 .ret) .skip))
def af22 : AFunc := ⟨2,
 (.seq (.reg [oMc (.bool false) 4] none)
 (.seq sp22_5
 sq22_4)),
 [.t 4]⟩
def sq25_0 : AC := (.seq (.cond (.c (.bool false)) (.seq (.reg [oMc (.bool false) 0] none)
 .ret) .skip)
 (.seq (.reg [oMc (.bool true) 0] none)
 .ret))
def sp25_1 : AC := (.seq (.reg [oMv 4 51, oBc .neq 51 (0) 52, oMv 52 53, ⟨.inl (.fldA 0), [.t 3], some 54, some (53, false), []⟩, ⟨.inl (.ld false 1), [.t 54], some 55, some (53, false), []⟩, ⟨.inl .pick, [.t 53, .c (.bool true), .t 55], some 56, none, []⟩, oMv 56 57, oMg 6 58 57 false, ⟨.inl (.bin .neq), [.t 58, .c (.int .i64 (0))], some 59, some (57, false), []⟩, ⟨.inl .pick, [.t 57, .c (.bool true), .t 59], some 60, none, []⟩, oMv 60 61, oMg 5 62 61 false, ⟨.inl (.bin .neq), [.t 62, .c (.int .i64 (2))], some 63, some (61, false), []⟩, ⟨.inl .pick, [.t 61, .c (.bool true), .t 63], some 64, none, []⟩, oMv 64 65, oMg 9 66 65 false, ⟨.inl (.bin .neq), [.t 66, .c (.int .i64 (0))], some 67, some (65, false), []⟩, ⟨.inl .pick, [.t 65, .c (.bool true), .t 67], some 68, none, []⟩, oMv 68 69, oMg 7 70 69 false, ⟨.inr (.bldS true true 1 3 [.int .i64 0] [(0, 1), (1, 1), (2, 1)]), [.c (.int .i64 (2)), .c (.int .i64 (1)), .c (.int .i64 (0))], some 71, some (69, false), []⟩, ⟨.inr (.call true true 22), [.t 70, .t 71], some 72, some (69, false), []⟩, ⟨.inl (.un .not), [.t 72], some 73, some (69, false), []⟩, ⟨.inl .pick, [.t 69, .c (.bool true), .t 73], some 74, none, []⟩, oMv 74 75, oMg 11 76 75 false, ⟨.inl (.bin .neq), [.t 76, .c (.int .i64 (0))], some 77, some (75, false), []⟩, ⟨.inl .pick, [.t 75, .c (.bool true), .t 77], some 78, none, []⟩, oMv 78 79, oMg 10 80 79 false, ⟨.inl (.bin .neq), [.t 80, .c (.int .i64 (1))], some 81, some (79, false), []⟩, ⟨.inl .pick, [.t 79, .c (.bool true), .t 81], some 82, none, []⟩, oMv 82 83, oMg 13 84 83 false, ⟨.inl (.bin .neq), [.t 84, .c (.int .i64 (0))], some 85, some (83, false), []⟩, ⟨.inl .pick, [.t 83, .c (.bool true), .t 85], some 86, none, []⟩, oMv 86 87, oMg 12 88 87 false, ⟨.inl (.bin .neq), [.t 88, .c (.int .i64 (3))], some 89, some (87, false), []⟩, ⟨.inl .pick, [.t 87, .c (.bool true), .t 89], some 90, none, []⟩] none)
 (.cond (.t 90) (.seq (.reg [oMc (.bool false) 0] none)
 .ret) .skip))
def sq25_2 : AC := (.seq (.reg [oMv 2 47, oCl 29 [.t 47] 48, oMv 48 46, oEx 0 46 49, oEx 1 46 50, oMv 49 12, oMv 50 13] none)
 (.seq sp25_1
 sq25_0))
def sq25_3 : AC := (.seq (.reg [oMv 2 41, ⟨.inr (.bldS true true 1 3 [.int .i64 0] [(0, 1), (1, 1), (2, 1)]), [.c (.int .i64 (2)), .c (.int .i64 (0)), .c (.int .i64 (0))], some 42, none, []⟩, oCl 40 [.t 41, .t 42] 43, oMv 43 40, oEx 0 40 44, oEx 1 40 45, oMv 44 10, oMv 45 11] none)
 sq25_2)
def sq25_4 : AC := (.seq (.reg [oMv 2 34, ⟨.inr (.bldS true true 1 3 [.int .i64 0] [(0, 1), (1, 1), (2, 1)]), [.c (.int .i64 (0)), .c (.int .i64 (2)), .c (.int .i64 (1))], some 35, none, []⟩, oCl 20 [.t 34, .t 35, .c (.int .i64 (0))] 36, oMv 36 33, oEx 0 33 37, oEx 1 33 38, oEx 2 33 39, oMv 37 7, oMv 38 8, oMv 39 9] none)
 sq25_3)
def sq25_5 : AC := (.seq (.reg [oMv 1 28, ⟨.inr (.bldS true true 1 2 [.int .i64 0] [(0, 1), (1, 1)]), [.c (.int .i64 (1)), .c (.int .i64 (-1))], some 29, none, []⟩, oCl 30 [.t 28, .t 29] 30, oMv 30 27, oEx 0 27 31, oEx 1 27 32, oMv 31 5, oMv 32 6] none)
 sq25_4)
def sq25_6 : AC := (.seq (.reg [oMv 1 22, ⟨.inr (.bldS true true 1 2 [.int .i64 0] [(0, 1), (1, 1)]), [.c (.int .i64 (1)), .c (.int .i64 (-1))], some 23, none, []⟩, oCl 39 [.t 22, .t 23] 24, oMv 24 21, oEx 0 21 25, oEx 1 21 26, ⟨.inr (.alloc false [.bool false, .nilS, .nilS]), [], some 3, none, []⟩, ⟨.inr (.st 3), [.t 3, .t 25], none, none, []⟩, oMv 26 4] none)
 sq25_5)
def sq25_7 : AC := (.seq (.reg [⟨.inr (.bldS true true 1 3 [.int .i64 0] [(0, 1), (1, 1), (2, 1)]), [.c (.int .i64 (0)), .c (.int .i64 (1)), .c (.int .i64 (1))], some 17, none, []⟩, ⟨.inr (.bldS true true 1 3 [.int .i64 0] [(0, 1), (1, 1), (2, 1)]), [.c (.int .i64 (1)), .c (.int .i64 (0)), .c (.int .i64 (1))], some 18, none, []⟩, ⟨.inr (.bldS true true 1 3 [.int .i64 0] [(0, 1), (1, 1), (2, 1)]), [.c (.int .i64 (1)), .c (.int .i64 (1)), .c (.int .i64 (0))], some 19, none, []⟩, ⟨.inr (.bldS true true 1 3 [.nilS] [(0, 1), (1, 1), (2, 1)]), [.t 17, .t 18, .t 19], some 20, none, []⟩, oMv 20 2] none)
 sq25_6)
def sq25_8 : AC := (.seq (.reg [⟨.inr (.bldS true true 1 2 [.int .i64 0] [(0, 1), (1, 1)]), [.c (.int .i64 (0)), .c (.int .i64 (2))], some 14, none, []⟩, ⟨.inr (.bldS true true 1 2 [.int .i64 0] [(0, 1), (1, 1)]), [.c (.int .i64 (2)), .c (.int .i64 (0))], some 15, none, []⟩, ⟨.inr (.bldS true true 1 2 [.nilS] [(0, 1), (1, 1)]), [.t 14, .t 15], some 16, none, []⟩, oMv 16 1] none)
 sq25_7)
def af25 : AFunc := ⟨0,
 (.seq (.reg [oMc (.bool false) 0] none)
 sq25_8),
 [.t 0]⟩
def st29_0 : AC := (.seq (.reg [oMc (.int .i64 (0)) 2, oMc (.int .i64 (2)) 3] none)
 .ret)
def sq29_1 : AC := (.reg [oMv 5 21, oMv 0 22, oMv 7 23, oCl 61 [.t 22, .t 23] 24, ⟨.inr (.bldS true true 1 1 [.int .i64 0] [(0, 1)]), [.t 24], some 25, none, []⟩, ⟨.inr (.app false 1 8), [.t 21, .t 25], some 26, none, []⟩, oMv 26 5] none)
def sq29_2 : AC := (.reg [oBc .add 17 (1) 27, oMv 27 17] none)
def sp29_3 : AC := (.block 1 (.seq (.reg [oIx 15 17 19, oLd 19 20, oMv 20 7] none)
 sq29_1))
def lb29_4 : AC := (.pre [0, 4, 5, 15, 16, 17] (.seq (.reg [oBn .lss 17 16 18] none)
 (.seq (.cond (.t 18) .skip (.exit 0))
 (.seq sp29_3
 sq29_2))))
def sq29_5 : AC := (.seq (.reg [oMv 8 35, oMv 35 2, oMc (.int .i64 (0)) 3] none)
 .ret)
def sq29_6 : AC := (.pre [4, 5] (.seq (.reg [oMv 5 29, oMv 4 30, oCl 62 [.t 29, .t 30] 31, oMv 31 28, oEx 0 28 32, oEx 1 28 33, oEx 2 28 34, oMv 32 8, oMv 33 9, oMv 34 10] none)
 sq29_5))
def sp29_7 : AC := (.seq (.reg [oMv 4 15, oLn 15 16, oMc (.int .i64 (0)) 17] none)
 (.block 0 (.loop lb29_4)))
def sq29_8 : AC := (.seq (.reg [⟨.inr (.bldS true true 1 2 [.int .i64 0] [(0, 1), (1, 1)]), [.c (.int .i64 (2147483647)), .c (.int .i64 (2147483629))], some 14, none, []⟩, oMv 14 4] none)
 (.seq (.reg [oMc (.nilS) 5] none)
 (.seq sp29_7
 sq29_6)))
def sp29_9 : AC := (.seq (.reg [oMv 0 11, oCl 60 [.t 11] 12, ⟨.inl (.un .not), [.t 12], some 13, none, []⟩] none)
 (.cond (.t 13) st29_0 .skip))
def af29 : AFunc := ⟨1,
 (.seq (.reg [oMc (.int .i64 (0)) 2, oMc (.int .i64 (0)) 3] none)
 (.seq sp29_9
 sq29_8)),
 [.t 2, .t 3]⟩
def st30_0 : AC := (.seq (.reg [oMv 6 15, oMc (.int .i64 (0)) 4, oMv 15 5] none)
 .ret)
def sq30_1 : AC := (.seq (.reg [oMv 6 13, oBc .neq 13 (0) 14] none)
 (.cond (.t 14) st30_0 .skip))
def st30_2 : AC := (.seq (.reg [oMc (.int .i64 (0)) 4, oMc (.int .i64 (6)) 5] none)
 .ret)
def sq30_3 : AC := (.seq (.reg [oMv 9 25, oMv 9 26, oMv 1 27, oMv 9 28, oMv 1 29, oCl 54 [.t 28, .t 29, .c (.int .i64 (0))] 30, oCl 55 [.t 26, .t 27, .t 30] 31, oMv 7 32, oCl 64 [.t 25, .t 31, .t 32] 33, oMv 33 4, oMc (.int .i64 (0)) 5] none)
 .ret)
def sq30_4 : AC := (.seq (.reg [oMv 0 20, oCl 29 [.t 20] 21, oMv 21 19, oEx 0 19 22, oEx 1 19 23, oMv 22 7, oMv 23 8] none)
 (.seq (.reg [oMv 0 24, oMv 24 9] none)
 sq30_3))
def sp30_5 : AC := (.seq (.reg [oMv 1 16, oCl 63 [.t 16] 17, oBc .neq 17 (0) 18] none)
 (.cond (.t 18) st30_2 .skip))
def sp30_6 : AC := (.seq (.reg [oMv 0 10, oMv 1 11, oCl 52 [.t 10, .t 11] 12, oMv 12 6] none)
 sq30_1)
def af30 : AFunc := ⟨2,
 (.seq (.reg [oMc (.int .i64 (0)) 4, oMc (.int .i64 (0)) 5] none)
 (.seq sp30_6
 (.seq sp30_5
 sq30_4))),
 [.t 4, .t 5]⟩
def st39_0 : AC := (.seq (.reg [⟨.inl (.bld [.bool false, .nilS, .nilS] []), [], some 12, none, []⟩, oMv 6 13, ⟨.inr (.st 3), [.t 4, .t 12], none, none, []⟩, oMv 13 5] none)
 .ret)
def sq39_1 : AC := (.seq (.reg [oMv 6 10, oBc .neq 10 (0) 11] none)
 (.cond (.t 11) st39_0 .skip))
def sq39_2 : AC := (.seq (.reg [oMv 0 14, oMv 1 15, ⟨.inr (.call true false 71), [.t 14, .t 15], some 16, none, []⟩, ⟨.inr (.st 3), [.t 4, .t 16], none, none, []⟩, oMc (.int .i64 (0)) 5] none)
 .ret)
def sp39_3 : AC := (.seq (.reg [oMv 0 7, oMv 1 8, oCl 52 [.t 7, .t 8] 9, oMv 9 6] none)
 sq39_1)
def af39 : AFunc := ⟨2,
 (.seq (.reg [⟨.inr (.alloc false [.bool false, .nilS, .nilS]), [], some 4, none, []⟩, oMc (.int .i64 (0)) 5] none)
 (.seq sp39_3
 sq39_2)),
 [.cell 4 true 3, .t 5]⟩
def st40_0 : AC := (.seq (.reg [oMv 6 17, oMc (.int .i64 (0)) 4, oMv 17 5] none)
 .ret)
def sq40_1 : AC := (.seq (.reg [oMv 6 15, oBc .neq 15 (0) 16] none)
 (.cond (.t 16) st40_0 .skip))
def st40_2 : AC := (.seq (.reg [oMc (.int .i64 (0)) 4, oMc (.int .i64 (5)) 5] none)
 .ret)
def st40_3 : AC := (.seq (.reg [oMv 8 36, oMv 9 37, oBn .sub 36 37 38, ⟨.inl .mx, [.c (.int .i64 (-1)), .t 38], some 39, none, []⟩, oMv 39 4, oMc (.int .i64 (0)) 5] none)
 .ret)
def sq40_4 : AC := (.seq (.reg [oMv 8 31, oMv 9 32, ⟨.inl (.bin .mul), [.c (.int .i64 (2)), .t 32], some 33, none, []⟩, oBc .sub 33 (2) 34, oBn .gtr 31 34 35] none)
 (.cond (.t 35) st40_3 .skip))
def sq40_5 : AC := (.block 1 (.reg [oMv 11 58, oBc .add 58 (1) 59, oMv 59 11] none))
def sp40_6 : AC := (.seq (.reg [oMv 10 46, oCl 63 [.t 46] 47, oMv 11 48, oBn .gtr 47 48 49, oMv 49 50, oMg 7 51 50 true, oMg 10 52 50 true, oMg 11 53 50 true, ⟨.inl (.bin .add), [.t 53, .c (.int .i64 (1))], some 54, some (50, true), []⟩, ⟨.inr (.call false true 73), [.t 51, .t 52, .t 54, .c (.int .i64 (0))], some 55, some (50, true), []⟩, ⟨.inl (.un .not), [.t 55], some 56, some (50, true), []⟩, oPk 50 56 false 57] none)
 (.cond (.t 57) .skip (.exit 0)))
def lb40_7 : AC := (.pre [7, 10, 11] (.seq sp40_6
 sq40_5))
def sq40_8 : AC := (.pre [11] (.seq (.reg [oMv 11 60, oMv 60 4, oMc (.int .i64 (0)) 5] none)
 .ret))
def sq40_9 : AC := (.seq (.reg [oMv 7 40, oMv 1 41, oMv 7 42, oMv 1 43, oCl 54 [.t 42, .t 43, .c (.int .i64 (0))] 44, ⟨.inr (.call true false 55), [.t 40, .t 41, .t 44], some 45, none, []⟩, oMv 45 10] none)
 (.seq (.reg [oMc (.int .i64 (-1)) 11] none)
 (.seq (.block 0 (.loop lb40_7))
 sq40_8)))
def sp40_10 : AC := (.seq (.reg [oMv 1 27, oCl 63 [.t 27] 28, oMv 7 29, oCl 72 [.t 29] 30, oMv 28 8, oMv 30 9] none)
 sq40_4)
def sq40_11 : AC := (.seq (.reg [oMv 0 26, oMv 26 7] none)
 (.seq sp40_10
 sq40_9))
def sp40_12 : AC := (.seq (.reg [oMv 0 18, oLn 18 19, oBc .gtr 19 (6) 20, oMv 20 21, oMg 1 22 21 false, ⟨.inr (.call true true 63), [.t 22], some 23, some (21, false), []⟩, ⟨.inl (.bin .gtr), [.t 23, .c (.int .i64 (12))], some 24, some (21, false), []⟩, ⟨.inl .pick, [.t 21, .c (.bool true), .t 24], some 25, none, []⟩] none)
 (.cond (.t 25) st40_2 .skip))
def sp40_13 : AC := (.seq (.reg [oMv 0 12, oMv 1 13, oCl 52 [.t 12, .t 13] 14, oMv 14 6] none)
 sq40_1)
def af40 : AFunc := ⟨2,
 (.seq (.reg [oMc (.int .i64 (0)) 4, oMc (.int .i64 (0)) 5] none)
 (.seq sp40_13
 (.seq sp40_12
 sq40_11))),
 [.t 4, .t 5]⟩
def st41_0 : AC := (.seq (.reg [oMc (.nilS) 2, oMc (.int .i64 (0)) 3, oMc (.int .i64 (2)) 4] none)
 .ret)
def sq41_1 : AC := (.reg [oMv 5 15, oMv 0 16, oMv 6 17, oCl 74 [.t 16, .t 17] 18, oBc .sub 18 (2) 19, ⟨.inr (.bldS true true 1 1 [.int .i64 0] [(0, 1)]), [.t 19], some 20, none, []⟩, ⟨.inr (.app false 1 8), [.t 15, .t 20], some 21, none, []⟩, oMv 21 5] none)
def sq41_2 : AC := (.reg [oBc .add 12 (1) 22, oMv 22 12] none)
def sq41_3 : AC := (.seq (.block 1 (.seq (.reg [oMv 12 14, oMv 14 6] none)
 sq41_1))
 sq41_2)
def lb41_4 : AC := (.pre [0, 5, 11, 12] (.seq (.reg [oBn .lss 12 11 13] none)
 (.seq (.cond (.t 13) .skip (.exit 0))
 sq41_3)))
def sq41_5 : AC := (.pre [0, 5] (.seq (.reg [oMv 5 23, oMv 0 24, oCl 72 [.t 24] 25, oMv 23 2, oMv 25 3, oMc (.int .i64 (0)) 4] none)
 .ret))
def sp41_6 : AC := (.seq (.reg [oMv 0 10, oLn 10 11, oMc (.int .i64 (0)) 12] none)
 (.block 0 (.loop lb41_4)))
def sp41_7 : AC := (.seq (.reg [oMv 0 7, oCl 60 [.t 7] 8, ⟨.inl (.un .not), [.t 8], some 9, none, []⟩] none)
 (.cond (.t 9) st41_0 .skip))
def af41 : AFunc := ⟨1,
 (.seq (.reg [oMc (.nilS) 2, oMc (.int .i64 (0)) 3, oMc (.int .i64 (0)) 4] none)
 (.seq sp41_7
 (.seq (.reg [oMc (.nilS) 5] none)
 (.seq sp41_6
 sq41_5)))),
 [.t 2, .t 3, .t 4]⟩
def sq44_0 : AC := (.reg [oMv 7 20, oBc .add 20 (1) 21, oMv 21 7] none)
def sp44_1 : AC := (.block 1 (.reg [oMv 6 22, oMv 5 23, ⟨.inr (.mkS 1 8 [.int .i64 0]), [.t 23, .t 23], some 24, none, []⟩, ⟨.inr (.bldB 1 1 [.nilS] [(0, 1)]), [.t 24], some 25, none, []⟩, ⟨.inr (.appB 1 24), [.t 22, .t 25], some 26, none, []⟩, oMv 26 6] none))
def sp44_2 : AC := (.seq (.reg [oMv 7 17, oMv 5 18, oBn .lss 17 18 19] none)
 (.cond (.t 19) .skip (.exit 0)))
def lb44_3 : AC := (.pre [0, 5, 6, 7] (.seq sp44_2
 (.seq sp44_1
 sq44_0)))
def st44_4 : AC := (.reg [oMv 0 50, oMv 8 51, oIx 50 51 52, oLd 52 53, oMv 9 54, oIx 53 54 55, oLd 55 56, oCl 49 [.t 56, .c (.int .i64 (4))] 57, oMv 57 10] none)
def st44_5 : AC := (.reg [oMv 10 62, ⟨.inl .mx, [.t 62, .c (.int .i64 (1))], some 63, none, []⟩, oMv 63 10] none)
def sq44_6 : AC := (.reg [oMv 6 71, oMv 9 72, oIx 71 72 73, oLd 73 74, oMv 8 75, oMv 10 76, oIx 74 75 77, ⟨.inr (.st 1), [.t 77, .t 76], none, none, []⟩] none)
def sq44_7 : AC := (.seq (.reg [oMv 6 64, oMv 8 65, oIx 64 65 66, oLd 66 67, oMv 9 68, oMv 10 69, oIx 67 68 70, ⟨.inr (.st 1), [.t 70, .t 69], none, none, []⟩] none)
 sq44_6)
def sp44_8 : AC := (.seq (.reg [oMv 9 58, oMv 8 59, oBc .sub 59 (1) 60, oBn .eql 58 60 61] none)
 (.cond (.t 61) st44_5 .skip))
def sp44_9 : AC := (.seq (.reg [oMv 8 37, oMv 0 38, oLn 38 39, oBn .lss 37 39 40, oMv 40 41, oMg 9 42 41 true, oMg 0 43 41 true, oMg 8 44 41 true, ⟨.inl (.idxA 1), [.t 43, .t 44], some 45, some (41, true), []⟩, ⟨.inl (.ld false 1), [.t 45], some 46, some (41, true), []⟩, ⟨.inl .len, [.t 46], some 47, some (41, true), []⟩, ⟨.inl (.bin .lss), [.t 42, .t 47], some 48, some (41, true), []⟩, oPk 41 48 false 49] none)
 (.cond (.t 49) st44_4 .skip))
def sq44_10 : AC := (.reg [oMv 9 35, oBc .add 35 (1) 36, oMv 36 9] none)
def sp44_11 : AC := (.block 5 (.seq (.reg [oMc (.int .i64 (0)) 10] none)
 (.seq sp44_9
 (.seq sp44_8
 sq44_7))))
def sp44_12 : AC := (.seq (.reg [oMv 9 32, oMv 8 33, oBn .lss 32 33 34] none)
 (.cond (.t 34) .skip (.exit 4)))
def lb44_13 : AC := (.pre [0, 5, 6, 8, 9] (.seq sp44_12
 (.seq sp44_11
 sq44_10)))
def sq44_14 : AC := (.pre [0, 5, 6, 8] (.reg [oMv 8 30, oBc .add 30 (1) 31, oMv 31 8] none))
def sq44_15 : AC := (.seq (.block 3 (.seq (.reg [oMc (.int .i64 (0)) 9] none)
 (.block 4 (.loop lb44_13))))
 sq44_14)
def sp44_16 : AC := (.seq (.reg [oMv 8 27, oMv 5 28, oBn .lss 27 28 29] none)
 (.cond (.t 29) .skip (.exit 2)))
def lb44_17 : AC := (.pre [0, 5, 6, 8] (.seq sp44_16
 sq44_15))
def sq44_18 : AC := (.pre [0, 5, 6] (.seq (.seq (.reg [oMc (.int .i64 (0)) 8] none)
 (.block 2 (.loop lb44_17)))
 (.pre [6] (.seq (.reg [oMv 6 78, oMv 78 4] none)
 .ret))))
def sq44_19 : AC := (.seq (.reg [oMc (.nilS) 6] none)
 (.seq (.seq (.reg [oMc (.int .i64 (0)) 7] none)
 (.block 0 (.loop lb44_3)))
 sq44_18))
def sq44_20 : AC := (.seq (.reg [oMv 0 11, oLn 11 12, oBc .sub 12 (1) 13, oMv 1 14, oCl 49 [.t 13, .t 14] 15, ⟨.inl (.bin .add), [.c (.int .i64 (1)), .t 15], some 16, none, []⟩, oMv 16 5] none)
 sq44_19)
def af44 : AFunc := ⟨2,
 (.seq (.reg [oMc (.nilS) 4] none)
 sq44_20),
 [.t 4]⟩
def sq45_0 : AC := (.cond (.t 11) (.seq (.reg [oMv 2 12, oMv 12 8] none)
 .ret) .skip)
def sq45_1 : AC := (.cond (.t 16) (.seq (.reg [oMv 1 17, oMv 17 8] none)
 .ret) .skip)
def sp45_2 : AC := (.seq (.reg [oMv 0 13, oMv 3 14, oBc .sub 14 (1) 15, oBn .eql 13 15 16] none)
 sq45_1)
def sp45_3 : AC := (.seq (.reg [oMv 0 9, oMv 1 10, oBn .eql 9 10 11] none)
 sq45_0)
def sq45_4 : AC := (.seq sp45_3
 (.seq sp45_2
 (.seq (.reg [oMv 0 18, oMv 18 8] none)
 .ret)))
def af45 : AFunc := ⟨4,
 (.seq (.reg [oMc (.int .i64 (0)) 8] none)
 sq45_4),
 [.t 8]⟩
def sq49_0 : AC := (.seq (.reg [oMv 0 5, ⟨.inl (.conv .u64), [.t 5], some 6, none, []⟩, oMv 1 7, ⟨.inl (.conv .u64), [.t 7], some 8, none, []⟩, oBn .rem 6 8 9, ⟨.inl (.conv .i64), [.t 9], some 10, none, []⟩, oMv 10 4] none)
 .ret)
def af49 : AFunc := ⟨2,
 (.seq (.reg [oMc (.int .i64 (0)) 4] none)
 sq49_0),
 [.t 4]⟩
def sp52_0 : AC := (.seq (.reg [oMv 0 5, oCl 60 [.t 5] 6, ⟨.inl (.un .not), [.t 6], some 7, none, []⟩, oMv 7 8, oMg 0 9 8 false, oMg 1 10 8 false, ⟨.inr (.call true true 80), [.t 9, .t 10], some 11, some (8, false), []⟩, ⟨.inl (.un .not), [.t 11], some 12, some (8, false), []⟩, ⟨.inl .pick, [.t 8, .c (.bool true), .t 12], some 13, none, []⟩] none)
 (.cond (.t 13) (.seq (.reg [oMc (.int .i64 (2)) 4] none)
 .ret) .skip))
def af52 : AFunc := ⟨2,
 (.seq (.reg [oMc (.int .i64 (0)) 4] none)
 (.seq sp52_0
 (.seq (.reg [oMc (.int .i64 (0)) 4] none)
 .ret))),
 [.t 4]⟩
def sq53_0 : AC := (.seq (.reg [oMv 0 7, oMv 1 8, oBn .geq 7 8 9, oMv 9 10, oMg 0 11 10 true, oMg 2 12 10 true, ⟨.inl (.bin .leq), [.t 11, .t 12], some 13, some (10, true), []⟩, oPk 10 13 false 14, oMv 14 6] none)
 .ret)
def af53 : AFunc := ⟨3,
 (.seq (.reg [oMc (.bool false) 6] none)
 sq53_0),
 [.t 6]⟩
def sq54_0 : AC := (.reg [oMv 8 29, oMv 29 30, oMg 10 31 30 true, ⟨.inl (.bin .quo), [.t 31, .c (.int .i64 (2))], some 32, some (30, true), []⟩, ⟨.inl (.bin .eql), [.t 32, .c (.int .i64 (0))], some 33, some (30, true), []⟩, oPk 30 33 false 34, oMv 34 8] none)
def sq54_1 : AC := (.seq (.reg [oMv 7 24, oMv 9 25, oMv 10 26, oBc .quo 26 (2) 27, oIx 24 25 28, ⟨.inr (.st 1), [.t 28, .t 27], none, none, []⟩] none)
 sq54_0)
def sq54_2 : AC := (.reg [oBc .add 19 (1) 35, oMv 35 19] none)
def sp54_3 : AC := (.block 1 (.seq (.reg [oMv 19 21, oIx 17 19 22, oLd 22 23, oMv 21 9, oMv 23 10] none)
 sq54_1))
def lb54_4 : AC := (.pre [0, 1, 2, 7, 8, 17, 18, 19] (.seq (.reg [oBn .lss 19 18 20] none)
 (.seq (.cond (.t 20) .skip (.exit 0))
 (.seq sp54_3
 sq54_2))))
def sq54_5 : AC := (.reg [oMv 11 51, oMv 12 52, oMv 13 53, ⟨.inl (.bin .mul), [.c (.int .i64 (2)), .t 53], some 54, none, []⟩, oIx 51 52 55, ⟨.inr (.st 1), [.t 55, .t 54], none, none, []⟩] none)
def sq54_6 : AC := (.reg [oBc .add 46 (1) 56, oMv 56 46] none)
def sp54_7 : AC := (.block 3 (.seq (.reg [oMv 46 48, oIx 44 46 49, oLd 49 50, oMv 48 12, oMv 50 13] none)
 sq54_5))
def lb54_8 : AC := (.pre [0, 1, 2, 11, 44, 45, 46] (.seq (.reg [oBn .lss 46 45 47] none)
 (.seq (.cond (.t 47) .skip (.exit 2))
 (.seq sp54_7
 sq54_6))))
def st54_9 : AC := (.seq (.reg [oMv 0 41, oMv 7 42, oMv 2 43, oCl 54 [.t 41, .t 42, .t 43] 44, oLn 44 45, oMc (.int .i64 (0)) 46] none)
 (.block 2 (.loop lb54_8)))
def sq54_10 : AC := (.pre [0, 1, 2, 11] (.seq (.reg [oMv 11 57, oMv 0 58, oMv 0 59, oMv 1 60, oMv 11 61, oCl 55 [.t 59, .t 60, .t 61] 62, oMv 2 63, oCl 81 [.t 58, .t 62, .t 63] 64, ⟨.inr (.call true false 77), [.t 57, .t 64], some 65, none, []⟩, oMv 65 6] none)
 .ret))
def sp54_11 : AC := (.seq (.reg [oMv 8 39, ⟨.inl (.un .not), [.t 39], some 40, none, []⟩] none)
 (.cond (.t 40) st54_9 .skip))
def sq54_12 : AC := (.pre [0, 1, 2, 7, 8] (.seq (.reg [oMv 1 36, oLn 36 37, ⟨.inr (.mkS 1 8 [.int .i64 0]), [.t 37, .t 37], some 38, none, []⟩, oMv 38 11] none)
 (.seq sp54_11
 sq54_10)))
def sp54_13 : AC := (.seq (.reg [oMv 1 17, oLn 17 18, oMc (.int .i64 (0)) 19] none)
 (.block 0 (.loop lb54_4)))
def sq54_14 : AC := (.seq (.reg [oMv 1 14, oLn 14 15, ⟨.inr (.mkS 1 8 [.int .i64 0]), [.t 15, .t 15], some 16, none, []⟩, oMv 16 7] none)
 (.seq (.reg [oMc (.bool true) 8] none)
 (.seq sp54_13
 sq54_12)))
def af54 : AFunc := ⟨3,
 (.seq (.reg [oMc (.nilS) 6] none)
 sq54_14),
 [.t 6]⟩
def sq55_0 : AC := (.reg [oMv 7 44, oMv 10 45, oIx 44 45 46, oLd 46 47, oMv 9 48, oMv 11 49, oBn .mul 48 49 50, oBn .add 47 50 51, oIx 44 45 52, ⟨.inr (.st 1), [.t 52, .t 51], none, none, []⟩] none)
def sq55_1 : AC := (.seq (.reg [oMv 7 35, oMv 8 36, oIx 35 36 37, oLd 37 38, oMv 9 39, oMv 11 40, oBn .mul 39 40 41, oBn .sub 38 41 42, oIx 35 36 43, ⟨.inr (.st 1), [.t 43, .t 42], none, none, []⟩] none)
 sq55_0)
def sq55_2 : AC := (.reg [oBc .add 30 (1) 53, oMv 53 30] none)
def sp55_3 : AC := (.block 3 (.seq (.reg [oMv 30 32, oIx 28 30 33, oLd 33 34, oMv 32 10, oMv 34 11] none)
 sq55_1))
def lb55_4 : AC := (.pre [0, 7, 8, 9, 18, 19, 20, 28, 29, 30] (.seq (.reg [oBn .lss 30 29 31] none)
 (.seq (.cond (.t 31) .skip (.exit 2))
 (.seq sp55_3
 sq55_2))))
def sq55_5 : AC := (.seq (.reg [oMv 0 25, oMv 8 26, oIx 25 26 27, oLd 27 28, oLn 28 29, oMc (.int .i64 (0)) 30] none)
 (.block 2 (.loop lb55_4)))
def sq55_6 : AC := (.pre [0, 7, 18, 19, 20] (.reg [oBc .add 20 (1) 54, oMv 54 20] none))
def sp55_7 : AC := (.block 1 (.seq (.reg [oMv 20 22, oIx 18 20 23, oLd 23 24, oMv 22 8, oMv 24 9] none)
 sq55_5))
def lb55_8 : AC := (.pre [0, 7, 18, 19, 20] (.seq (.reg [oBn .lss 20 19 21] none)
 (.seq (.cond (.t 21) .skip (.exit 0))
 (.seq sp55_7
 sq55_6))))
def sp55_9 : AC := (.seq (.reg [oMv 2 18, oLn 18 19, oMc (.int .i64 (0)) 20] none)
 (.block 0 (.loop lb55_8)))
def sq55_10 : AC := (.seq sp55_9
 (.pre [7] (.seq (.reg [oMv 7 55, oMv 55 6] none)
 .ret)))
def sq55_11 : AC := (.seq (.reg [oMv 7 15, oMv 1 16, ⟨.inr (.cpy 1), [.t 15, .t 16], some 17, none, []⟩] none)
 sq55_10)
def sq55_12 : AC := (.seq (.reg [oMv 1 12, oLn 12 13, ⟨.inr (.mkS 1 8 [.int .i64 0]), [.t 13, .t 13], some 14, none, []⟩, oMv 14 7] none)
 sq55_11)
def af55 : AFunc := ⟨3,
 (.seq (.reg [oMc (.nilS) 6] none)
 sq55_12),
 [.t 6]⟩
def sq60_0 : AC := (.seq (.reg [oMv 5 21, oLn 21 22, oMv 3 23, oBn .neq 22 23 24] none)
 (.cond (.t 24) (.seq (.reg [oMc (.bool false) 2] none)
 .ret) .skip))
def sq60_1 : AC := (.reg [oBc .add 17 (1) 25, oMv 25 17] none)
def sp60_2 : AC := (.block 1 (.seq (.reg [oIx 15 17 19, oLd 19 20, oMv 20 5] none)
 sq60_0))
def lb60_3 : AC := (.pre [0, 3, 15, 16, 17] (.seq (.reg [oBn .lss 17 16 18] none)
 (.seq (.cond (.t 18) .skip (.exit 0))
 (.seq sp60_2
 sq60_1))))
def sq60_4 : AC := (.seq (.reg [oMv 9 40, oCl 53 [.t 40, .c (.int .i64 (0)), .c (.int .i64 (3))] 41, ⟨.inl (.un .not), [.t 41], some 42, none, []⟩, oMv 42 43, oMg 9 44 43 false, oMg 0 45 43 false, oMg 8 46 43 false, ⟨.inl (.idxA 1), [.t 45, .t 46], some 47, some (43, false), []⟩, ⟨.inl (.ld false 1), [.t 47], some 48, some (43, false), []⟩, oMg 6 49 43 false, ⟨.inl (.idxA 1), [.t 48, .t 49], some 50, some (43, false), []⟩, ⟨.inl (.ld false 1), [.t 50], some 51, some (43, false), []⟩, ⟨.inl (.bin .neq), [.t 44, .t 51], some 52, some (43, false), []⟩, ⟨.inl .pick, [.t 43, .c (.bool true), .t 52], some 53, none, []⟩, oMv 53 54, oMg 6 55 54 false, oMg 8 56 54 false, ⟨.inl (.bin .eql), [.t 55, .t 56], some 57, some (54, false), []⟩, oMg 57 58 54 false, oMg 9 59 58 true, ⟨.inl (.bin .neq), [.t 59, .c (.int .i64 (0))], some 60, some (58, true), []⟩, ⟨.inl .pick, [.t 58, .t 60, .c (.bool false)], some 61, some (54, false), []⟩, ⟨.inl .pick, [.t 54, .c (.bool true), .t 61], some 62, none, []⟩] none)
 (.cond (.t 62) (.seq (.reg [oMc (.bool false) 2] none)
 .ret) .skip))
def sq60_5 : AC := (.reg [oBc .add 35 (1) 63, oMv 63 35] none)
def sp60_6 : AC := (.block 5 (.seq (.reg [oMv 35 37, oIx 33 35 38, oLd 38 39, oMv 37 8, oMv 39 9] none)
 sq60_4))
def lb60_7 : AC := (.pre [0, 6, 26, 27, 28, 33, 34, 35] (.seq (.reg [oBn .lss 35 34 36] none)
 (.seq (.cond (.t 36) .skip (.exit 4))
 (.seq sp60_6
 sq60_5))))
def sq60_8 : AC := (.seq (.reg [oMv 7 33, oLn 33 34, oMc (.int .i64 (0)) 35] none)
 (.block 4 (.loop lb60_7)))
def sq60_9 : AC := (.pre [0, 26, 27, 28] (.reg [oBc .add 28 (1) 64, oMv 64 28] none))
def sp60_10 : AC := (.block 3 (.seq (.reg [oMv 28 30, oIx 26 28 31, oLd 31 32, oMv 30 6, oMv 32 7] none)
 sq60_8))
def lb60_11 : AC := (.pre [0, 26, 27, 28] (.seq (.reg [oBn .lss 28 27 29] none)
 (.seq (.cond (.t 29) .skip (.exit 2))
 (.seq sp60_10
 sq60_9))))
def sq60_12 : AC := (.pre [0] (.seq (.reg [oMv 0 65, oCl 84 [.t 65, .c (.int .i64 (0))] 66, oCl 83 [.t 66, .c (.int .i64 (-1))] 67, ⟨.inl (.un .not), [.t 67], some 68, none, []⟩, oMv 68 2] none)
 .ret))
def sp60_13 : AC := (.seq (.reg [oMv 0 26, oLn 26 27, oMc (.int .i64 (0)) 28] none)
 (.block 2 (.loop lb60_11)))
def sp60_14 : AC := (.seq (.reg [oMv 0 15, oLn 15 16, oMc (.int .i64 (0)) 17] none)
 (.block 0 (.loop lb60_3)))
def sp60_15 : AC := (.seq (.reg [oMv 3 12, oCl 53 [.t 12, .c (.int .i64 (1)), .c (.int .i64 (10))] 13, ⟨.inl (.un .not), [.t 13], some 14, none, []⟩] none)
 (.cond (.t 14) (.seq (.reg [oMc (.bool false) 2] none)
 .ret) .skip))
def sq60_16 : AC := (.seq (.reg [oMv 0 10, oLn 10 11, oMv 11 3] none)
 (.seq sp60_15
 (.seq sp60_14
 (.pre [0] (.seq sp60_13
 sq60_12)))))
def af60 : AFunc := ⟨1,
 (.seq (.reg [oMc (.bool false) 2] none)
 sq60_16),
 [.t 2]⟩
def sq61_0 : AC := (.reg [oMv 6 40, oMv 7 41, oIx 40 41 42, oLd 42 43, oMv 8 44, oMv 1 45, oMv 0 46, oMv 7 47, oBc .add 47 (1) 48, oIx 46 48 49, oLd 49 50, oMv 8 51, oBc .add 51 (1) 52, oIx 50 52 53, oLd 53 54, oBn .sub 45 54 55, oMv 1 56, oBn .rem 55 56 57, oIx 43 44 58, ⟨.inr (.st 1), [.t 58, .t 57], none, none, []⟩] (some ([0, 1, 2, 3, 4, 5, 6, 7, 8, 9, 10, 11, 12, 13, 14, 15, 16, 17, 18, 19], [], [0, 0, 3, 7, 0, 0, 0, 0, 128, 448, 960, 0, 2048, 8128, 16320, 32736, 0, 131040, 262143, 524287])))
def sq61_1 : AC := (.reg [oBc .add 37 (1) 59, oMv 59 37] none)
def sq61_2 : AC := (.seq (.block 3 (.seq (.reg [oMv 37 39, oMv 39 8] none)
 sq61_0))
 sq61_1)
def lb61_3 : AC := (.pre [0, 1, 5, 6, 7, 23, 24, 36, 37] (.seq (.reg [oBn .lss 37 36 38] none)
 (.seq (.cond (.t 38) .skip (.exit 2))
 sq61_2)))
def sq61_4 : AC := (.pre [0, 1, 5, 6, 7, 23, 24] (.reg [oMv 0 65, oMv 7 66, oBc .add 66 (1) 67, oCl 74 [.t 65, .t 67] 68, oMv 6 60, oMv 7 61, oIx 60 61 62, oLd 62 63, oMv 7 64, oIx 63 64 69, ⟨.inr (.st 1), [.t 69, .t 68], none, none, []⟩] (some ([5, 6, 7, 8, 0, 1, 2, 3, 4, 9, 10], [], [0, 0, 3, 7, 0, 0, 0, 64, 224, 511, 1023]))))
def sp61_5 : AC := (.seq (.reg [oMv 6 32, oMv 7 33, oIx 32 33 34, oLd 34 35, oLn 35 36, oMc (.int .i64 (0)) 37] none)
 (.block 2 (.loop lb61_3)))
def sq61_6 : AC := (.seq (.reg [oMv 6 27, oMv 7 28, oMv 5 29, ⟨.inr (.mkS 1 8 [.int .i64 0]), [.t 29, .t 29], some 30, none, []⟩, oIx 27 28 31, ⟨.inr (.st 1), [.t 31, .t 30], none, none, []⟩] none)
 (.seq sp61_5
 sq61_4))
def sq61_7 : AC := (.pre [0, 1, 5, 6, 23, 24] (.reg [oBc .add 24 (1) 70, oMv 70 24] none))
def sq61_8 : AC := (.seq (.block 1 (.seq (.reg [oMv 24 26, oMv 26 7] none)
 sq61_6))
 sq61_7)
def lb61_9 : AC := (.pre [0, 1, 5, 6, 23, 24] (.seq (.reg [oBn .lss 24 23 25] none)
 (.seq (.cond (.t 25) .skip (.exit 0))
 sq61_8)))
def sq61_10 : AC := (.reg [oMv 1 102, oMv 9 103, oBn .sub 102 103 104, oMv 1 105, oBn .rem 104 105 106, oMv 106 9] none)
def st61_11 : AC := (.seq (.reg [oMv 6 84, oLd 10 85, oMv 6 90, oLd 10 91, oMv 11 92, oBn .add 91 92 93, oIx 90 93 94, oLd 94 95, oMv 6 96, oLd 10 97, oIx 96 97 98, oLd 98 99, oIx 84 85 100, ⟨.inr (.st 1), [.t 100, .t 95], none, none, [.t 10]⟩, oMv 6 86, oLd 10 87, oMv 11 88, oBn .add 87 88 89, oIx 86 89 101, ⟨.inr (.st 1), [.t 101, .t 99], none, none, []⟩] (some ([0, 1, 6, 7, 8, 9, 10, 11, 12, 13, 14, 15, 16, 17, 2, 3, 4, 5, 18, 19], [], [0, 0, 0, 0, 0, 24, 0, 0, 0, 384, 960, 1984, 0, 0, 12288, 28672, 65475, 131011, 262143, 524287])))
 sq61_10)
def sq61_12 : AC := (.reg [oMv 16 152, oBc .add 152 (1) 153, oMv 153 16] none)
def sp61_13 : AC := (.block 9 (.reg [oMv 6 154, oMv 14 155, oIx 154 155 156, oLd 156 157, oMv 16 158, oMv 6 159, oMv 14 160, oIx 159 160 161, oLd 161 162, oMv 16 163, oIx 162 163 164, oLd 164 165, oMv 1 166, oMv 15 167, oBn .sub 166 167 168, oMv 6 169, oLd 10 170, oIx 169 170 171, oLd 171 172, oMv 16 173, oIx 172 173 174, oLd 174 175, oBn .mul 168 175 176, oBn .add 165 176 177, oMv 1 178, oBn .rem 177 178 179, oIx 157 158 180, ⟨.inr (.st 1), [.t 180, .t 179], none, none, []⟩] (some ([0, 1, 2, 3, 4, 5, 6, 7, 8, 9, 10, 11, 12, 13, 14, 15, 16, 17, 18, 19, 20, 21, 22, 23, 24, 25, 26, 27], [], [0, 0, 3, 7, 0, 0, 0, 96, 224, 0, 992, 2016, 0, 0, 12288, 0, 0, 98304, 229376, 0, 1015808, 2064384, 4190208, 8388576, 0, 33554400, 67108863, 134217727]))))
end Go.AM.Ch
