/-
  The abstract machine's code of functions of the program, as a program of ours printed it; that it is theirs is proved beside each.
-/
import Derived.Test.YtjogcghofinemaaGreatDoorJAmLToAmR
import Derived.Test.YtjogcghofinemaaGreatDoorProg
import Derived.IntWalk
set_option linter.all false
set_option linter.unusedSimpArgs false
set_option linter.unusedVariables false
set_option linter.unusedSectionVars false
namespace Go.Proofs.YtjogcghofinemaaGreatDoor
open Go.RowKit
open Qq in
def Z5A:RCode :=
 .seq (r 0 [w 0 (.alloc [.nils])]) (.seq (r 1 [w 1 (.build [O,O] [(0,1,.c (.int .i64 20)),(1,1,.c (.int .i64 2))]),w 2 (.build [O,O] [(0,1,.c (.int .i64 30)),(1,1,.c I)]),w 3 (.bsl false 2 2 [O,O,O,O] [(0,.t 1),(1,.t 2)]),w 4 (.build [O,O,.int .u8 0,.nils,.nils] [(0,1,.c (.int .i64 10)),(1,1,.c I),(2,1,.c (.int .u8 1)),(3,1,.t 3)]),w 5 (.build [O,O] [(0,1,.c (.int .i64 20)),(1,1,.c I)]),w 6 (.build [O,O] [(0,1,.c (.int .i64 30)),(1,1,.c (.int .i64 2))]),w 7 (.build [O,O] [(0,1,.c (.int .i64 40)),(1,1,.c (.int .i64 2))]),w 8 (.bsl false 2 3 [O,O,O,O,O,O] [(0,.t 5),(1,.t 6),(2,.t 7)]),w 9 (.build [O,O,.int .u8 0,.nils,.nils] [(0,1,.c (.int .i64 10)),(1,1,.c (.int .i64 2)),(2,1,.c (.int .u8 1)),(3,1,.t 8)]),w 10 (.build [O,O] [(0,1,.c (.int .i64 30)),(1,1,.c (.int .i64 3))]),w 11 (.build [O,O] [(0,1,.c (.int .i64 50)),(1,1,.c I)]),w 12 (.bsl false 2 2 [O,O,O,O] [(0,.t 10),(1,.t 11)]),w 13 (.build [O,O,.int .u8 0,.nils,.nils] [(0,1,.c (.int .i64 20)),(1,1,.c I),(2,1,.c (.int .u8 1)),(3,1,.t 12)]),w 14 (.build [O,O,O] [(0,1,.c (.int .i64 150)),(1,1,.c (.int .i64 100)),(2,1,.c (.int .i64 200))]),w 15 (.bsl false 3 1 [O,O,O] [(0,.t 14)]),w 16 (.build [O,O,.int .u8 0,.nils,.nils] [(0,1,.c (.int .i64 30)),(1,1,.c I),(2,1,.c (.int .u8 2)),(4,1,.t 15)]),w 17 (.build [O,O,O] [(0,1,.c (.int .i64 150)),(1,1,.c (.int .i64 120)),(2,1,.c (.int .i64 200))]),w 18 (.bsl false 3 1 [O,O,O] [(0,.t 17)]),w 19 (.build [O,O,.int .u8 0,.nils,.nils] [(0,1,.c (.int .i64 30)),(1,1,.c (.int .i64 2)),(2,1,.c (.int .u8 2)),(4,1,.t 18)]),w 20 (.build [O,O,.int .u8 0,.nils,.nils] [(0,1,.c (.int .i64 40)),(1,1,.c I),(2,1,.c (.int .u8 2))]),w 21 (.build [O,O,.int .u8 0,.nils,.nils] [(0,1,.c (.int .i64 50)),(1,1,.c I),(2,1,.c (.int .u8 3))]),w 22 (.bsl false 5 7 [O,O,.int .u8 0,.nils,.nils,O,O,.int .u8 0,.nils,.nils,O,O,.int .u8 0,.nils,.nils,O,O,.int .u8 0,.nils,.nils,O,O,.int .u8 0,.nils,.nils,O,O,.int .u8 0,.nils,.nils,O,O,.int .u8 0,.nils,.nils] [(0,.t 4),(1,.t 9),(2,.t 13),(3,.t 16),(4,.t 19),(5,.t 20),(6,.t 21)]),w 23 (.build [.nils] [(0,1,.t 22)]),s 1 0 23]) .ret)
def Z5B:List RRes:=[.c 0 true 1]
theorem Z5C:PCt Tryz.prog 72 Tryz.f72 Z5A Z5B:=pcT Tryz.func72 rfl (by kernel_rfl) (by kernel_rfl) (by kernel_rfl)
open Qq in
def Z5D:RCode :=
 .seq (r 0 [w 4 (.alloc [O,O])]) (.seq (r 1 [m 5 0,m 6 1,w 7 (.build [O,O] [(0,1,.t 5),(1,1,.t 6)]),s 2 4 7]) .ret)
def Z5E:List RRes:=[.c 4 true 2]
theorem Z5F:PCt Tryz.prog 24 Tryz.f24 Z5D Z5E:=pcT Tryz.func24 rfl (by kernel_rfl) (by kernel_rfl) (by kernel_rfl)
open Qq in
def Z5G:RCode :=
 .seq (r 0 [w 0 (.alloc [.nils,.nils,.nils])]) (.seq (r 1 [c 1 72 [],w 2 (.build [O,O,.int .u8 0,O,O,O,O,O,.bool false,.int .u8 0] [(0,1,.c (.int .i64 101)),(1,1,.c (.int .i64 100)),(2,1,.c (.int .u8 2)),(3,1,.c (.int .i64 30)),(4,1,.c (.int .i64 2)),(5,1,.c (.int .i64 5)),(6,1,.c (.int .i64 999)),(9,1,.c (.int .u8 2))]),w 3 (.build [O,O,.int .u8 0,O,O,O,O,O,.bool false,.int .u8 0] [(0,1,.c (.int .i64 103)),(1,1,.c (.int .i64 300)),(2,1,.c (.int .u8 2)),(5,1,.c (.int .i64 10)),(6,1,.c (.int .i64 12)),(7,1,.c (.int .i64 101))]),w 4 (.bsl true 10 2 [O,O,.int .u8 0,O,O,O,O,O,.bool false,.int .u8 0,O,O,.int .u8 0,O,O,O,O,O,.bool false,.int .u8 0] [(0,.t 2),(1,.t 3)]),w 5 (.build [.nils,.nils] [(0,1,.t 1),(1,1,.t 4)]),w 6 (.call 24 [.c (.int .i64 40),.c I]),w 7 (.call 24 [.c (.int .i64 30),.c (.int .i64 2)]),w 8 (.build [O,O,O,O,O,O,.bool false,O] [(0,1,.c I),(1,1,.c (.int .i64 50)),(2,2,.t 6),(4,2,.t 7)]),w 9 (.call 24 [.c (.int .i64 50),.c I]),w 10 (.call 24 [.c (.int .i64 40),.c I]),w 11 (.build [O,O,O,O,O,O,.bool false,O] [(0,1,.c (.int .i64 2)),(1,1,.c (.int .i64 150)),(2,2,.t 9),(4,2,.t 10),(6,1,.c (.bool true))]),w 12 (.build [O,O,O,O,O,O,.bool false,O] [(0,1,.c (.int .i64 3)),(1,1,.c (.int .i64 300)),(7,1,.c (.int .i64 2))]),w 13 (.bsl true 8 3 [O,O,O,O,O,O,.bool false,O,O,O,O,O,O,O,.bool false,O,O,O,O,O,O,O,.bool false,O] [(0,.t 8),(1,.t 11),(2,.t 12)]),w 14 (.build [.nils,.nils,.nils] [(0,2,.t 5),(2,1,.t 13)]),s 3 0 14]) .ret)
def Z5H:List RRes:=[.c 0 true 3]
theorem Z5I:PCt Tryz.prog 41 Tryz.f41 Z5G Z5H:=pcT Tryz.func41 rfl (by kernel_rfl) (by kernel_rfl) (by kernel_rfl)
open Qq in
def Z5J:RCode :=
 .seq (r 0 [b 7 2,b 8 3,n 10 (.bool false)]) (.seq (R 1 [c 14 41 [],m 15 0,m 16 1,L 17 2 7,L 18 2 8,a [0,1,2,3,4,0] (w 19 (.call 17 [.t 14,.c .nils,.t 15,.t 16,.t 17,.t 18])),a [5] (m 13 19),a [6] (x 20 0 13),a [6] (x 21 1 13),a [7,5,0,1,2,3,4,5,6,7] (m 11 20),a [8,9,0,1,2,3,4,5,6,7,8,9] (m 12 21)]) (.seq (r 2 [m 22 12,k 23 .eql 22 O,m 24 23,g 24 true (m 25 11),g 24 true (m 26 4),g 24 true (w 27 (.vop (.beq false) [(.t 25),(.t 26)])),v 28 24 27,m 10 28]) .ret))
def Z5K:List RRes:=[.t 10]
theorem Z5L:PCt Tryz.prog 40 Tryz.f40 Z5J Z5K:=pcT Tryz.func40 rfl (by kernel_rfl) (by kernel_rfl) (by kernel_rfl)
open Qq in
def Z5M:RCode :=
 .seq (r 0 [n 0 (.bool false)]) (.seq (r 1 [c 26 41 [],w 27 (.call 19 [.t 26,.c .nils,.c (.int .i64 9),.c (.int .i64 200)]),m 25 27,x 28 0 25,x 29 1 25,m 1 28,m 2 29]) (.seq (r 2 [w 30 (.call 24 [.c (.int .i64 30),.c (.int .i64 2)]),w 31 (.call 24 [.c (.int .i64 30),.c I]),w 32 (.build [O,O,O,O,O,.bool false] [(0,2,.t 30),(2,2,.t 31),(4,1,.c (.int .i64 101)),(5,1,.c (.bool true))]),w 33 (.call 24 [.c (.int .i64 40),.c I]),w 34 (.call 24 [.c (.int .i64 30),.c (.int .i64 2)]),w 35 (.build [O,O,O,O,O,.bool false] [(0,2,.t 33),(2,2,.t 34),(4,1,.c I)]),w 36 (.call 24 [.c (.int .i64 50),.c I]),w 37 (.call 24 [.c (.int .i64 40),.c I]),w 38 (.build [O,O,O,O,O,.bool false] [(0,2,.t 36),(2,2,.t 37),(4,1,.c (.int .i64 2))]),w 39 (.call 24 [.c (.int .i64 40),.c I]),w 40 (.call 24 [.c (.int .i64 50),.c I]),w 41 (.build [O,O,O,O,O,.bool false] [(0,2,.t 39),(2,2,.t 40),(4,1,.c (.int .i64 2))]),w 3 (.alloc [O,O,O,O,O,.bool false]),w 4 (.alloc [O,O,O,O,O,.bool false]),w 5 (.alloc [O,O,O,O,O,.bool false]),w 6 (.alloc [O,O,O,O,O,.bool false]),s 6 3 32,s 6 4 35,s 6 5 38,s 6 6 41]) (.seq (r 3 [c 43 41 [],w 44 (.call 24 [.c (.int .i64 50),.c I]),w 45 (.call 24 [.c (.int .i64 30),.c I]),w 46 (.call 18 [.t 43,.c .nils,.c (.int .i64 9),.c (.int .i64 200),.t 44,.t 45]),m 42 46,x 47 0 42,x 48 1 42,m 7 47,m 8 48]) (.seq (r 4 [c 50 41 [],w 51 (.call 20 [.t 50,.c (.int .i64 300)]),m 49 51,x 52 0 49,x 53 1 49,m 9 52,m 10 53]) (.seq (r 5 [c 55 41 [],w 56 (.call 24 [.c (.int .i64 30),.c I]),w 57 (.call 27 [.t 55,.c .nils,.c (.int .i64 9),.c (.int .i64 200),.t 56]),m 54 57,x 58 0 54,x 59 1 54,m 11 58,m 12 59]) (.seq (r 6 [c 61 41 [],w 62 (.call 24 [.c (.int .i64 40),.c I]),w 63 (.call 28 [.t 61,.c .nils,.c (.int .i64 9),.c (.int .i64 200),.t 62]),m 60 63,x 64 0 60,x 65 1 60,m 13 64,m 14 65]) (.seq (r 7 [c 67 41 [],w 68 (.call 32 [.t 67,.c .nils,.c (.int .i64 9),.c (.int .i64 200)]),m 66 68,x 69 0 66,x 70 1 66,m 15 69,m 16 70]) (.seq (r 8 [c 72 41 [],w 73 (.call 36 [.t 72,.c .nils,.c (.int .i64 9),.c (.int .i64 200),.c (.int .i64 300)]),m 71 73,x 74 0 71,x 75 1 71,m 17 74,m 18 75]) (.seq (r 9 [c 77 41 [],w 78 (.call 24 [.c (.int .i64 30),.c (.int .i64 2)]),w 79 (.call 24 [.c (.int .i64 30),.c I]),w 80 (.call 43 [.t 77,.c (.int .i64 9),.c (.int .i64 200),.t 78,.t 79]),m 76 80,x 81 0 76,x 82 1 76,m 19 81,m 20 82]) (.seq (r 10 [c 84 41 [],w 85 (.call 37 [.t 84,.c .nils,.c (.int .i64 9),.c (.int .i64 200)]),m 83 85,x 86 0 83,x 87 1 83,m 21 86,m 22 87]) (.seq (r 11 [w 88 (.call 24 [.c (.int .i64 30),.c I]),w 89 (.call 24 [.c (.int .i64 30),.c (.int .i64 2)]),w 90 (.call 24 [.c (.int .i64 40),.c I]),w 91 (.call 24 [.c (.int .i64 50),.c I]),w 92 (.bsl false 2 4 [O,O,O,O,O,O,O,O] [(0,.t 88),(1,.t 89),(2,.t 90),(3,.t 91)]),m 23 92]) (.seq (.seq (R 12 [m 93 2,a [0] (k 94 .neq 93 O),a [1] (m 95 94),a [2] (g 95 false (m 96 1)),a [2] (g 95 false (L 97 6 3)),a [2] (g 95 false (L 98 6 4)),a [2] (g 95 false (L 99 6 5)),a [2] (g 95 false (L 100 6 6)),a [4,5,6,7,2] (g 95 false (w 101 (.bsl false 6 4 [O,O,O,O,O,.bool false,O,O,O,O,O,.bool false,O,O,O,O,O,.bool false,O,O,O,O,O,.bool false] [(0,.t 97),(1,.t 98),(2,.t 99),(3,.t 100)]))),a [3,8,2,2] (g 95 false (c 102 25 [96,101])),a [9,2] (g 95 false (t 103 102)),a [2,10] (u 104 95 103),a [11,9] (m 105 104),a [12] (g 105 false (m 106 8)),a [13,12] (g 105 false (k 107 .neq 106 O)),a [12,14] (u 108 105 107),a [15,12] (m 109 108),a [16] (g 109 false (m 110 7)),a [16] (g 109 false (L 111 6 5)),a [16] (g 109 false (L 112 6 4)),a [16] (g 109 false (L 113 6 3)),a [18,19,20,16] (g 109 false (w 114 (.bsl false 6 3 [O,O,O,O,O,.bool false,O,O,O,O,O,.bool false,O,O,O,O,O,.bool false] [(0,.t 111),(1,.t 112),(2,.t 113)]))),a [17,21,16,16] (g 109 false (c 115 25 [110,114])),a [22,16] (g 109 false (t 116 115)),a [16,23] (u 117 109 116),a [24,22] (m 118 117),a [25] (g 118 false (m 119 10)),a [26,25] (g 118 false (k 120 .neq 119 O)),a [25,27] (u 121 118 120),a [28,25] (m 122 121),a [29] (g 122 false (m 123 9)),a [29] (g 122 false (w 124 (.bsl false 1 2 [O,O] [(0,.c I),(1,.c (.int .i64 3))]))),a [30,31,29,29] (g 122 false (c 125 42 [123,124])),a [32,29] (g 122 false (t 126 125)),a [29,33] (u 127 122 126),a [34,32] (m 128 127),a [35] (g 128 false (m 129 12)),a [36,35] (g 128 false (k 130 .neq 129 O)),a [35,37] (u 131 128 130),a [38,35] (m 132 131),a [39] (g 132 false (m 133 11)),a [39] (g 132 false (m 134 23)),a [40,41,39,39] (g 132 false (c 135 33 [133,134])),a [42,39] (g 132 false (t 136 135)),a [39,43] (u 137 132 136),a [44,42] (m 138 137),a [45] (g 138 false (m 139 14)),a [46,45] (g 138 false (k 140 .neq 139 O)),a [45,47] (u 141 138 140),a [48,45] (m 142 141),a [49] (g 142 false (m 143 13)),a [49] (g 142 false (m 144 23)),a [50,51,49,49] (g 142 false (c 145 33 [143,144])),a [52,49] (g 142 false (t 146 145)),a [49,53] (u 147 142 146),a [54,52] (m 148 147),a [55] (g 148 false (m 149 16)),a [56,55] (g 148 false (k 150 .neq 149 O)),a [55,57] (u 151 148 150),a [58,55] (m 152 151),a [59] (g 152 false (m 153 15)),a [60,59] (g 152 false (e 154 153)),a [61,59] (g 152 false (k 155 .neq 154 I)),a [59,62] (u 156 152 155),a [63,59] (m 157 156),a [64] (g 157 false (m 158 15)),a [65,64] (g 157 false (w 159 (.iaddr 1 (.t 158) (.c O)))),a [66,64] (g 157 false (l 160 159)),a [64,64] (g 157 false (w 161 (.call 24 [.c (.int .i64 40),.c I]))),a [68,64] (g 157 false (w 162 (.call 24 [.c (.int .i64 50),.c I]))),a [68,69,64] (g 157 false (w 163 (.bsl false 2 2 [O,O,O,O] [(0,.t 161),(1,.t 162)]))),a [67,70,69,64] (g 157 false (c 164 33 [160,163])),a [71,64] (g 157 false (t 165 164)),a [64,72] (u 166 157 165)]) (.cond (.t 166) (.seq (r 13 [n 0 (.bool false)]) .ret) .skip)) (.seq (r 14 [w 167 (.call 24 [.c (.int .i64 40),.c I]),w 168 (.call 24 [.c (.int .i64 50),.c I]),w 169 (.build [O,O,O,O] [(0,2,.t 167),(2,2,.t 168)]),w 170 (.call 24 [.c (.int .i64 50),.c I]),w 171 (.call 24 [.c (.int .i64 30),.c I]),w 172 (.build [O,O,O,O] [(0,2,.t 170),(2,2,.t 171)]),w 173 (.call 24 [.c (.int .i64 50),.c I]),w 174 (.call 24 [.c (.int .i64 30),.c (.int .i64 2)]),w 175 (.build [O,O,O,O] [(0,2,.t 173),(2,2,.t 174)]),w 176 (.call 24 [.c (.int .i64 50),.c I]),w 177 (.call 24 [.c (.int .i64 40),.c I]),w 178 (.build [O,O,O,O] [(0,2,.t 176),(2,2,.t 177)]),w 179 (.bsl false 4 4 [O,O,O,O,O,O,O,O,O,O,O,O,O,O,O,O] [(0,.t 169),(1,.t 172),(2,.t 175),(3,.t 178)]),m 24 179]) (.seq (R 15 [m 180 18,a [0] (k 181 .eql 180 O),a [1] (m 182 181),a [2] (g 182 true (m 183 17)),a [2] (g 182 true (m 184 24)),a [3,4,2,2] (g 182 true (c 185 48 [183,184])),a [2,5] (v 186 182 185),a [6,5] (m 187 186),a [7] (g 187 true (m 188 20)),a [8,7] (g 187 true (k 189 .eql 188 O)),a [7,9] (v 190 187 189),a [10,7] (m 191 190),a [11] (g 191 true (m 192 19)),a [12,11] (g 191 true (k 193 .eql 192 (.int .u8 2))),a [11,13] (v 194 191 193),a [14,11] (m 195 194),a [15] (g 195 true (m 196 22)),a [16,15] (g 195 true (k 197 .eql 196 O)),a [15,17] (v 198 195 197),a [18,15] (m 199 198),a [19] (g 199 true (m 200 21)),a [20,19] (g 199 true (e 201 200)),a [21,19] (g 199 true (k 202 .eql 201 (.int .i64 5))),a [19,22] (v 203 199 202),a [23,19] (m 204 203),a [24] (g 204 true (m 205 21)),a [25,24] (g 204 true (w 206 (.iaddr 3 (.t 205) (.c (.int .i64 2))))),a [26,24] (g 204 true (f 207 0 206)),a [27,24] (g 204 true (L 208 2 207)),a [24,24] (g 204 true (w 209 (.call 24 [.c (.int .i64 30),.c (.int .i64 2)]))),a [28,29,24] (g 204 true (w 210 (.eqs false [.i,.i] (.t 208) (.t 209)))),a [24,30] (v 211 204 210),a [31,29] (m 212 211),a [32] (g 212 true (m 213 21)),a [33,32] (g 212 true (w 214 (.iaddr 3 (.t 213) (.c (.int .i64 2))))),a [34,32] (g 212 true (f 215 2 214)),a [35,32] (g 212 true (l 216 215)),a [32,32] (g 212 true (w 217 (.call 24 [.c (.int .i64 30),.c (.int .i64 2)]))),a [37,32] (g 212 true (w 218 (.call 24 [.c (.int .i64 40),.c I]))),a [38,32] (g 212 true (w 219 (.call 24 [.c (.int .i64 50),.c I]))),a [37,38,39,32] (g 212 true (w 220 (.bsl false 2 3 [O,O,O,O,O,O] [(0,.t 217),(1,.t 218),(2,.t 219)]))),a [36,40,39,32] (g 212 true (c 221 33 [216,220])),a [32,41] (v 222 212 221),a [42,41] (m 223 222),a [43,43] (g 223 true (w 224 (.call 24 [.c (.int .i64 30),.c (.int .i64 2)]))),a [44,43] (g 223 true (w 225 (.call 24 [.c (.int .i64 30),.c I]))),a [44,45,45,43] (g 223 true (w 226 (.call 40 [.c (.int .i64 11),.c (.int .i64 299),.t 224,.t 225,.c (.bool true)]))),a [43,46] (v 227 223 226),a [47,46] (m 228 227),a [48,48] (g 228 true (w 229 (.call 24 [.c (.int .i64 30),.c (.int .i64 2)]))),a [49,48] (g 228 true (w 230 (.call 24 [.c (.int .i64 30),.c I]))),a [49,50,50,48] (g 228 true (w 231 (.call 40 [.c (.int .i64 11),.c (.int .i64 300),.t 229,.t 230,.c (.bool false)]))),a [48,51] (v 232 228 231),a [52,51,0,1,2,3,4,5,6,7,8,9,10,11,12,13,14,15,16,17,18,19,20,21,22,23,24,25,26,27,28,29,30,31,32,33,34,35,36,37,38,39,40,41,42,43,44,45,46,47,48,49,50,51,52] (m 0 232)]) .ret))))))))))))))
def Z5N:List RRes:=[.t 0]
theorem Z5O:PCt Tryz.prog 14 Tryz.f14 Z5M Z5N:=pcT Tryz.func14 rfl (by kernel_rfl) (by kernel_rfl) (by kernel_rfl)
open Qq in
def Z5P:RCode :=
 .seq (r 0 [b 1 0,n 2 (.bool false)]) (.seq (r 1 [L 3 3 1,c 4 49 [3],t 5 4,m 6 5,g 6 true (L 7 3 1),g 6 true (c 8 50 [7]),g 6 true (k 9 .eql 8 O),v 10 6 9,m 2 10]) .ret)
def Z5Q:List RRes:=[.t 2]
theorem Z5R:PCt Tryz.prog 15 Tryz.f15 Z5P Z5Q:=pcT Tryz.func15 rfl (by kernel_rfl) (by kernel_rfl) (by kernel_rfl)
open Qq in
def Z5S:RCode :=
 .seq (r 0 [n 2 O]) (.seq (r 1 [m 3 0,w 4 (.conv .i64 (.t 3)),k 5 .rem 4 (.int .i64 999),k 6 .add 5 I,m 2 6]) .ret)
def Z5T:List RRes:=[.t 2]
theorem Z5U:PCt Tryz.prog 52 Tryz.f52 Z5S Z5T:=pcT Tryz.func52 rfl (by kernel_rfl) (by kernel_rfl) (by kernel_rfl)
open Qq in
def Z5V:RCode :=
 .seq (r 0 [n 2 O]) (.seq (r 1 [m 3 0,w 4 (.conv .i64 (.t 3)),k 5 .rem 4 (.int .i64 14611),m 2 5]) .ret)
def Z5W:List RRes:=[.t 2]
theorem Z5X:PCt Tryz.prog 35 Tryz.f35 Z5V Z5W:=pcT Tryz.func35 rfl (by kernel_rfl) (by kernel_rfl) (by kernel_rfl)
open Qq in
def Z5Y:RCode :=
 .seq (r 0 [b 2 0,n 4 .nils]) (.seq (r 1 [L 6 2 2,c 7 45 [6],m 5 7]) (.seq (r 2 [m 8 5,m 9 1,w 10 (.conv .i64 (.t 9)),m 11 5,e 12 11,o 13 .rem 10 12,i 14 1 8 13,l 15 14,m 4 15]) .ret))
def Z5Z:List RRes:=[.t 4]
theorem Z60:PCt Tryz.prog 51 Tryz.f51 Z5Y Z5Z:=pcT Tryz.func51 rfl (by kernel_rfl) (by kernel_rfl) (by kernel_rfl)
open Qq in
def Z61:RCode :=
 .seq (r 0 [b 2 0,w 4 (.alloc [O,O])]) (.seq (r 1 [L 6 1 2,c 7 31 [6],m 5 7]) (.seq (r 2 [m 8 5,m 9 1,w 10 (.conv .i64 (.t 9)),m 11 5,e 12 11,o 13 .rem 10 12,i 14 2 8 13,L 15 2 14,s 2 4 15]) .ret))
def Z62:List RRes:=[.c 4 true 2]
theorem Z63:PCt Tryz.prog 26 Tryz.f26 Z61 Z62:=pcT Tryz.func26 rfl (by kernel_rfl) (by kernel_rfl) (by kernel_rfl)
open Qq in
def Z64:RCode :=
 .seq (r 0 [b 6 0,w 12 (.alloc [.nils,O,O,O,O,O,O])]) (.seq (R 1 [f 13 0 6,a [0] (L 14 2 13),m 15 1,a [1,2] (c 16 51 [14,15]),m 17 2,a [4,3] (c 18 52 [17]),m 19 3,a [6,5] (c 20 35 [19]),f 21 0 6,a [8] (f 22 0 21),a [9] (L 23 1 22),m 24 4,a [10,11,7] (c 25 26 [23,24]),f 26 0 6,a [13] (f 27 0 26),a [14] (L 28 1 27),m 29 5,a [15,16,12] (c 30 26 [28,29]),a [3,5,7,12,17] (w 31 (.build [.nils,O,O,O,O,O,O] [(0,1,.t 16),(1,1,.t 18),(2,1,.t 20),(3,2,.t 25),(5,2,.t 30)])),a [18,17,0,1,2,3,4,5,6,7,8,9,10,11,12,13,14,15,16,17,18] (s 7 12 31)]) .ret)
def Z65:List RRes:=[.c 12 true 7]
theorem Z66:PCt Tryz.prog 16 Tryz.f16 Z64 Z65:=pcT Tryz.func16 rfl (by kernel_rfl) (by kernel_rfl) (by kernel_rfl)
open Qq in
def Z67:RCode :=
 .seq (r 0 [b 6 0,n 12 (.bool false)]) (.seq (r 1 [c 28 14 [],m 13 28]) (.seq (.seq (r 2 [L 29 3 6,c 30 15 [29],t 31 30,m 32 31,g 32 false (m 33 13),g 32 false (t 34 33),u 35 32 34]) (.cond (.t 35) (.seq (r 3 [m 36 13,m 12 36]) .ret) .skip)) (.seq (r 4 [L 37 3 6,c 38 34 [37],w 14 (.alloc [.nils,.nils,.nils]),s 3 14 38]) (.seq (.seq (r 5 [f 39 2 14,l 40 39,e 41 40,n 42 O]) (.block 0 (.loop (.seq (r 6 [o 43 .lss 42 41]) (.seq (.cond (.t 43) .skip (.exit 0)) (.seq (.block 1 (.seq (r 7 [m 44 42,m 15 44]) (.seq (r 8 [f 45 2 14,l 46 45,m 47 15,i 48 8 46 47,m 16 48]) (R 9 [m 49 16,m 50 16,m 51 16,a [2] (w 52 (.nilck (.t 51))),a [3] (f 53 4 52),a [4] (L 54 2 53),m 55 16,a [6] (w 56 (.nilck (.t 55))),a [7] (f 57 2 56),a [8] (L 58 2 57),a [0,0,2,3,4,5,9] (w 59 (.nilck (.t 49))),a [10,0,2,3,4,5,9] (f 60 2 59),a [11,5,0,2,3,4,5,9] (s 2 60 54),a [1,0,1,2,3,4,5,6,7,8,9,10,11,12] (w 61 (.nilck (.t 50))),a [13,0,1,2,3,4,5,6,7,8,9,10,11,12] (f 62 4 61),a [14,9,12,0,1,2,3,4,5,6,7,8,9,10,11,12] (s 2 62 58)])))) (r 10 [k 63 .add 42 I,m 42 63]))))))) (.seq (.seq (r 11 [f 64 0 14,f 65 1 64,l 66 65,e 67 66,n 68 O]) (.block 2 (.loop (.seq (r 12 [o 69 .lss 68 67]) (.seq (.cond (.t 69) .skip (.exit 2)) (.seq (.block 3 (.seq (r 13 [m 70 68,m 17 70]) (.seq (r 14 [f 71 0 14,f 72 1 71,l 73 72,m 74 17,i 75 10 73 74,m 18 75]) (R 15 [m 76 18,m 77 18,a [1] (w 78 (.nilck (.t 77))),a [2] (f 79 9 78),a [3] (l 80 79),a [4] (w 81 (.vop (.bits .and) [(.t 80),(.c (.int .u8 1))])),a [5] (w 82 (.vop (.sh true) [(.t 81),(.c (.int .u64 1))])),m 83 18,a [7] (w 84 (.nilck (.t 83))),a [8] (f 85 9 84),a [9] (l 86 85),a [10] (w 87 (.vop (.sh false) [(.t 86),(.c (.int .u64 1))])),a [6,11] (w 88 (.vop (.bits .or) [(.t 82),(.t 87)])),a [0,0,1,2,3,4,5,6,7,8,9,10,11,12] (w 89 (.nilck (.t 76))),a [13,0,1,2,3,4,5,6,7,8,9,10,11,12] (f 90 9 89),a [14,12,0,1,2,3,4,5,6,7,8,9,10,11,12] (s 1 90 88)])))) (r 16 [k 91 .add 68 I,m 68 91]))))))) (.seq (r 17 [L 92 3 6,m 93 1,m 94 2,m 95 3,m 96 4,m 97 5,c 98 16 [92,93,94,95,96,97],w 19 (.alloc [.nils,O,O,O,O,O,O]),s 7 19 98]) (.seq (r 18 [L 100 3 6,f 101 0 19,l 102 101,f 103 1 19,l 104 103,f 105 2 19,l 106 105,f 107 3 19,L 108 2 107,f 109 5 19,L 110 2 109,c 111 17 [100,102,104,106,108,110],m 99 111,x 112 0 99,x 113 1 99,m 20 112,m 21 113]) (.seq (r 19 [L 115 3 14,f 116 0 19,l 117 116,f 118 1 19,l 119 118,f 120 2 19,l 121 120,f 122 5 19,L 123 2 122,f 124 3 19,L 125 2 124,c 126 17 [115,117,119,121,123,125],m 114 126,x 127 0 114,x 128 1 114,m 22 127,m 23 128]) (.seq (r 20 [L 130 3 6,f 131 0 19,l 132 131,f 133 1 19,l 134 133,f 135 2 19,l 136 135,f 137 3 19,L 138 2 137,c 139 27 [130,132,134,136,138],m 129 139,x 140 0 129,x 141 1 129,m 24 140,m 25 141]) (.seq (r 21 [L 143 3 14,f 144 0 19,l 145 144,f 146 1 19,l 147 146,f 148 2 19,l 149 148,f 150 3 19,L 151 2 150,c 152 28 [143,145,147,149,151],m 142 152,x 153 0 142,x 154 1 142,m 26 153,m 27 154]) (.seq (r 22 [m 155 13,m 156 155,g 156 true (m 157 21),g 156 true (k 158 .eql 157 O),v 159 156 158,m 160 159,g 160 true (m 161 23),g 160 true (k 162 .eql 161 O),v 163 160 162,m 164 163,g 164 true (m 165 20),g 164 true (m 166 22),g 164 true (w 167 (.vop (.beq false) [(.t 165),(.t 166)])),v 168 164 167,m 169 168,g 169 true (m 170 25),g 169 true (k 171 .eql 170 O),v 172 169 171,m 173 172,g 173 true (m 174 27),g 173 true (k 175 .eql 174 O),v 176 173 175,m 177 176,g 177 true (m 178 24),g 177 true (m 179 26),g 177 true (c 180 33 [178,179]),v 181 177 180,m 12 181]) .ret)))))))))))
def Z68:List RRes:=[.t 12]
theorem Z69:PCt Tryz.prog 10 Tryz.f10 Z67 Z68:=pcT Tryz.func10 rfl (by kernel_rfl) (by kernel_rfl) (by kernel_rfl)
open Qq in
def Z6a:RCode :=
 .seq (r 0 [b 1 0,n 2 .nilm]) (.seq (r 1 [w 8 (.mkmap),m 3 8]) (.seq (.seq (r 2 [f 9 0 1,l 10 9,w 11 (.nilck (.t 10)),f 12 3 11,l 13 12,e 14 13,n 15 O]) (.block 0 (.loop (.seq (r 3 [o 16 .lss 15 14]) (.seq (.cond (.t 16) .skip (.exit 0)) (.seq (.block 1 (.seq (r 4 [i 17 2 13 15,L 18 2 17,w 5 (.alloc [O,O]),s 2 5 18]) (.seq (r 5 [L 19 4 1,L 20 2 5,w 21 (.call 66 [.t 19,.t 20,.c (.bool false)]),e 22 21,n 23 O]) (.block 2 (.loop (.seq (r 6 [o 24 .lss 23 22]) (.seq (.cond (.t 24) .skip (.exit 2)) (.seq (.block 3 (.seq (r 7 [i 25 2 21 23,L 26 2 25,w 7 (.alloc [O,O]),s 2 7 26]) (r 8 [m 27 3,L 28 2 7,L 29 2 5,w 30 (.build [O,O,O,O] [(0,2,.t 28),(2,2,.t 29)]),z (.mupd (.ag [.i,.i,.i,.i]) (.t 27) (.t 30) (.c (.bool true)))]))) (r 9 [k 31 .add 23 I,m 23 31]))))))))) (r 10 [k 32 .add 15 I,m 15 32]))))))) (.seq (r 11 [m 33 3,m 2 33]) .ret)))
def Z6b:List RRes:=[.t 2]
open Qq in
def Z6c:RCode :=
 .seq (r 0 [b 4 0,n 8 .nils,n 9 O]) (.seq (r 1 [L 20 3 4,m 21 1,m 22 2,m 23 3,m 24 3,c 25 60 [20,21,22,23,24],m 19 25,x 26 0 19,x 27 1 19,w 10 (.alloc [.nilp,.nils,O,O]),s 4 10 26,m 11 27]) (.seq (.seq (r 2 [m 28 11,k 29 .neq 28 O]) (.cond (.t 29) (.seq (r 3 [m 30 11,n 8 .nils,m 9 30]) .ret) .skip)) (.seq (r 4 [L 31 4 10,c 32 68 [31],m 12 32]) (.seq (r 5 [n 13 .nils]) (.seq (.seq (r 6 [f 33 0 10,l 34 33,w 35 (.nilck (.t 34)),f 36 3 35,l 37 36,e 38 37,n 39 O]) (.block 0 (.loop (.seq (r 7 [o 40 .lss 39 38]) (.seq (.cond (.t 40) .skip (.exit 0)) (.seq (.block 1 (.seq (r 8 [i 41 2 37 39,L 42 2 41,w 15 (.alloc [O,O]),s 2 15 42]) (.seq (r 9 [n 16 .nils]) (.seq (.seq (r 10 [f 43 0 10,l 44 43,w 45 (.nilck (.t 44)),f 46 3 45,l 47 46,e 48 47,n 49 O]) (.block 2 (.loop (.seq (r 11 [o 50 .lss 49 48]) (.seq (.cond (.t 50) .skip (.exit 2)) (.seq (.block 3 (.seq (r 12 [i 51 2 47 49,L 52 2 51,w 18 (.alloc [O,O]),s 2 18 52]) (.seq (r 13 [m 53 12,L 54 2 15,L 55 2 18,w 56 (.build [O,O,O,O] [(0,2,.t 54),(2,2,.t 55)]),w 57 (.look (.ag [.i,.i,.i,.i]) (.bool false) false (.t 53) (.t 56)),m 58 57,g 58 true (m 59 12),g 58 true (L 60 2 18),g 58 true (L 61 2 15),g 58 true (w 62 (.build [O,O,O,O] [(0,2,.t 60),(2,2,.t 61)])),g 58 true (w 63 (.look (.ag [.i,.i,.i,.i]) (.bool false) false (.t 59) (.t 62))),v 64 58 63]) (.cond (.t 64) (r 14 [m 65 16,L 66 2 18,w 67 (.bsl false 2 1 [O,O] [(0,.t 66)]),w 68 (.app 2 16 (.t 65) (.t 67)),m 16 68]) .skip)))) (r 15 [k 69 .add 49 I,m 49 69]))))))) (.seq (R 16 [m 70 16,a [0] (e 71 70),a [1] (k 72 .gtr 71 I),a [2] (m 73 72),a [3] (g 73 true (m 74 16)),a [4,3] (g 73 true (w 75 (.iaddr 2 (.t 74) (.c O)))),a [5,3] (g 73 true (L 76 2 75)),a [3] (g 73 true (L 77 2 15)),a [6,7,3] (g 73 true (w 78 (.eqs false [.i,.i] (.t 76) (.t 77)))),a [3,8] (v 79 73 78)]) (.cond (.t 79) (r 17 [m 80 13,m 81 16,w 82 (.bsl false 1 1 [.nils] [(0,.t 81)]),w 83 (.app 1 24 (.t 80) (.t 82)),m 13 83]) .skip)))))) (r 18 [k 84 .add 39 I,m 39 84]))))))) (.seq (r 19 [m 85 13,m 8 85,n 9 O]) .ret))))))
def Z6d:List RRes:=[.t 8,.t 9]
theorem Z6e:PCt Tryz.prog 32 Tryz.f32 Z6c Z6d:=pcT Tryz.func32 rfl (by kernel_rfl) (by kernel_rfl) (by kernel_rfl)
open Qq in
noncomputable def Z6f:RCode :=
 .seq (r 0 [b 5 0,n 10 .nils,n 11 O]) (.seq (r 1 [L 23 3 5,m 24 1,m 25 2,m 26 3,m 27 4,c 28 60 [23,24,25,26,27],m 22 28,x 29 0 22,x 30 1 22,w 12 (.alloc [.nilp,.nils,O,O]),s 4 12 29,m 13 30]) (.seq (.seq (r 2 [m 31 13,k 32 .neq 31 O]) (.cond (.t 32) (.seq (r 3 [m 33 13,n 10 .nils,m 11 33]) .ret) .skip)) (.seq (r 4 [L 34 4 12,c 35 68 [34],m 14 35]) (.seq (r 5 [m 36 4,f 37 3 12,s 1 37 36]) (.seq (.raw (rngR Tryz.prog [L 38 4 12,c 39 68 [38]] 39 40 41 42 43 44 [w 15 (.alloc [O,O,O,O]),s 4 15 44] [m 45 14,L 46 4 15,z (.mdel (.ag [.i,.i,.i,.i]) (.t 45) (.t 46))])) (.seq (r 10 [n 16 .nils]) (.seq (.seq (r 11 [f 47 0 12,l 48 47,w 49 (.nilck (.t 48)),f 50 3 49,l 51 50,e 52 51,n 53 O]) (.block 2 (.loop (.seq (r 12 [o 54 .lss 53 52]) (.seq (.cond (.t 54) .skip (.exit 2)) (.seq (.block 3 (.seq (r 13 [i 55 2 51 53,L 56 2 55,w 18 (.alloc [O,O]),s 2 18 56]) (.seq (r 14 [f 57 0 12,l 58 57,w 59 (.nilck (.t 58)),f 60 3 59,l 61 60,e 62 61,n 63 O]) (.block 4 (.loop (.seq (r 15 [o 64 .lss 63 62]) (.seq (.cond (.t 64) .skip (.exit 4)) (.seq (.block 5 (.seq (r 16 [i 65 2 61 63,L 66 2 65,w 20 (.alloc [O,O]),s 2 20 66]) (.seq (r 17 [L 67 2 18,L 68 2 20,w 69 (.build [O,O,O,O] [(0,2,.t 67),(2,2,.t 68)]),w 21 (.alloc [O,O,O,O]),s 4 21 69]) (.seq (r 18 [m 70 14,L 71 4 21,w 72 (.look (.ag [.i,.i,.i,.i]) (.bool false) false (.t 70) (.t 71))]) (.cond (.t 72) (r 19 [m 73 16,L 74 4 21,w 75 (.bsl false 4 1 [O,O,O,O] [(0,.t 74)]),w 76 (.app 4 32 (.t 73) (.t 75)),m 16 76]) .skip))))) (r 20 [k 77 .add 63 I,m 63 77]))))))))) (r 21 [k 78 .add 53 I,m 53 78]))))))) (.seq (r 22 [m 79 16,m 10 79,n 11 O]) .ret))))))))
def Z6g:List RRes:=[.t 10,.t 11]
theorem Z6h:PCt Tryz.prog 36 Tryz.f36 Z6f Z6g:=pcT Tryz.func36 rfl (by kernel_rfl) (by kernel_rfl) (by kernel_rfl)
open Qq in
def Z6i:RCode :=
 .seq (r 0 [b 4 0,n 8 .nils,n 9 O]) (.seq (r 1 [L 21 3 4,m 22 1,m 23 2,m 24 3,m 25 3,c 26 60 [21,22,23,24,25],m 20 26,x 27 0 20,x 28 1 20,w 10 (.alloc [.nilp,.nils,O,O]),s 4 10 27,m 11 28]) (.seq (.seq (r 2 [m 29 11,k 30 .neq 29 O]) (.cond (.t 30) (.seq (r 3 [m 31 11,n 8 .nils,m 9 31]) .ret) .skip)) (.seq (r 4 [f 33 0 4,L 34 2 33,m 35 1,m 36 2,c 37 38 [34,35,36],m 32 37,x 38 0 32,x 39 1 32,m 12 38,m 13 39]) (.seq (r 5 [f 41 0 4,f 42 0 41,L 43 1 42,c 44 70 [43],m 40 44,x 45 0 40,x 46 1 40,m 14 45,m 15 46]) (.seq (r 6 [n 16 .nils]) (.seq (.seq (r 7 [m 47 14,e 48 47,n 49 O]) (.block 0 (.loop (.seq (r 8 [o 50 .lss 49 48]) (.seq (.cond (.t 50) .skip (.exit 0)) (.seq (.block 1 (.seq (r 9 [m 51 49,i 52 1 47 49,l 53 52,m 17 51,m 18 53]) (.seq (r 10 [m 54 18,m 55 12,m 56 17,i 57 1 55 56,l 58 57,w 59 (.build [O,O] [(0,1,.t 54),(1,1,.t 58)]),w 19 (.alloc [O,O]),s 2 19 59]) (R 11 [m 60 16,L 61 2 19,L 62 4 10,L 63 2 19,a [2,3] (w 64 (.call 66 [.t 62,.t 63,.c (.bool false)])),a [1,4] (w 65 (.build [O,O,.nils] [(0,2,.t 61),(2,1,.t 64)])),a [5] (w 66 (.bsl false 3 1 [O,O,.nils] [(0,.t 65)])),a [0,6,4] (w 67 (.app 3 40 (.t 60) (.t 66))),a [7,7,0,1,2,3,4,5,6,7] (m 16 67)])))) (r 12 [k 68 .add 49 I,m 49 68]))))))) (.seq (r 13 [m 69 16,m 8 69,n 9 O]) .ret)))))))
def Z6j:List RRes:=[.t 8,.t 9]
theorem Z6k:PCt Tryz.prog 37 Tryz.f37 Z6i Z6j:=pcT Tryz.func37 rfl (by kernel_rfl) (by kernel_rfl) (by kernel_rfl)
open Qq in
def Z6l:RCode :=
 .seq (r 0 [b 3 0,n 6 .nils,n 7 O]) (.seq (r 1 [L 11 2 3,m 12 1,m 13 2,c 14 64 [11,12,13],m 10 14,x 15 0 10,x 16 1 10,m 8 15,m 9 16]) (.seq (.seq (r 2 [m 17 9,k 18 .neq 17 O]) (.cond (.t 18) (.seq (r 3 [m 19 9,n 6 .nils,m 7 19]) .ret) .skip)) (.seq (r 4 [m 20 8,m 21 1,m 22 2,c 23 71 [20,21,22],m 6 23,n 7 O]) .ret)))
def Z6m:List RRes:=[.t 6,.t 7]
theorem Z6n:PCt Tryz.prog 38 Tryz.f38 Z6l Z6m:=pcT Tryz.func38 rfl (by kernel_rfl) (by kernel_rfl) (by kernel_rfl)
open Qq in
def Z6o:RCode :=
 .seq (r 0 [n 6 .nils]) (.seq (r 1 [m 11 0,m 12 1,m 13 2,w 14 (.call 65 [.t 11,.t 12,.c .nils,.t 13]),m 7 14]) (.seq (r 2 [n 8 .nils]) (.seq (.seq (r 3 [m 15 0,w 16 (.nilck (.t 15)),f 17 2 16,l 18 17,e 19 18,n 20 O]) (.block 0 (.loop (.seq (r 4 [o 21 .lss 20 19]) (.seq (.cond (.t 21) .skip (.exit 0)) (.seq (.block 1 (.seq (r 5 [i 22 1 18 20,l 23 22,m 10 23]) (r 6 [m 24 8,m 25 0,m 26 7,m 27 10,c 28 101 [25,26,27],w 29 (.field false 4 1 (.t 28)),w 30 (.bsl false 1 1 [O] [(0,.t 29)]),w 31 (.app 1 8 (.t 24) (.t 30)),m 8 31]))) (r 7 [k 32 .add 20 I,m 20 32]))))))) (.seq (r 8 [m 33 8,m 6 33]) .ret))))
def Z6p:List RRes:=[.t 6]
theorem Z6q:PCt Tryz.prog 71 Tryz.f71 Z6o Z6p:=pcT Tryz.func71 rfl (by kernel_rfl) (by kernel_rfl) (by kernel_rfl)
open Qq in
def Z6r:RCode :=
 .seq (r 0 [w 6 (.alloc [O,O,.int .u8 0,O,O,O,O,O,.bool false,.int .u8 0])]) (.seq (.seq (r 1 [m 9 0,w 10 (.nilck (.t 9)),f 11 0 10,f 12 1 11,l 13 12,e 14 13,k 15 .sub 14 I,m 7 15]) (.block 0 (.loop (.seq (.seq (r 2 [m 16 7,k 17 .geq 16 O]) (.cond (.t 17) .skip (.exit 0))) (.seq (.block 1 (.seq (r 4 [m 20 0,w 21 (.nilck (.t 20)),f 22 0 21,f 23 1 22,l 24 23,m 25 7,i 26 10 24 25,L 27 10 26,w 8 (.alloc [O,O,.int .u8 0,O,O,O,O,O,.bool false,.int .u8 0]),s 10 8 27]) (.seq (r 5 [f 28 3 8,l 29 28,m 30 2,o 31 .eql 29 30,m 32 31,g 32 true (m 33 1),g 32 true (m 34 7),g 32 true (w 35 (.callv (.t 33) [.t 34])),v 36 32 35]) (.cond (.t 36) (.seq (r 6 [L 37 10 8,s 10 6 37]) .ret) .skip)))) (r 3 [m 18 7,k 19 .sub 18 I,m 7 19])))))) (.seq (r 7 [w 38 (.build [O,O,.int .u8 0,O,O,O,O,O,.bool false,.int .u8 0] [(4,1,.c I)]),s 10 6 38]) .ret))
def Z6s:List RRes:=[.c 6 true 10]
theorem Z6t {G:Nat->Option (List AV)} {objs objs':List (Nat×AObj)} {args:List AV} {v:AV} (hn:args.length<=Tryz.f101.ntmps) (h:∀ R:Run,R.G=G->R.Top->AR Tryz.prog R Z6r ⟨iniT 0 args,objs⟩ (FinB Z6s v objs')):PB Tryz.prog G 101 objs args v objs' :=
 PB_of Tryz.func101 rfl (by kernel_rfl) (rc:=Z6r) (by kernel_rfl) (rs:=Z6s) (by kernel_rfl) hn (λR _ hG hr=>h R hG hr)
open Qq in
def Z6u:RCode :=
 .seq (r 0 [n 4 (.bool false)]) (.seq (.seq (r 1 [m 6 0,e 7 6,m 8 1,e 9 8,o 10 .neq 7 9]) (.cond (.t 10) (.seq (r 2 [n 4 (.bool false)]) .ret) .skip)) (.seq (.seq (r 3 [n 5 O]) (.block 0 (.loop (.seq (.seq (r 4 [m 11 5,m 12 0,e 13 12,o 14 .lss 11 13]) (.cond (.t 14) .skip (.exit 0))) (.seq (.block 1 (.seq (R 6 [m 17 0,m 18 5,a [0,1] (i 19 4 17 18),a [2] (L 20 4 19),m 21 1,m 22 5,a [4,5] (i 23 4 21 22),a [6] (L 24 4 23),a [3,7] (w 25 (.eqs true [.i,.i,.i,.i] (.t 20) (.t 24)))]) (.cond (.t 25) (.seq (r 7 [n 4 (.bool false)]) .ret) .skip))) (r 5 [m 15 5,k 16 .add 15 I,m 5 16])))))) (.seq (r 8 [n 4 (.bool true)]) .ret)))
def Z6v:List RRes:=[.t 4]
theorem Z6w:PCt Tryz.prog 48 Tryz.f48 Z6u Z6v:=pcT Tryz.func48 rfl (by kernel_rfl) (by kernel_rfl) (by kernel_rfl)
open Qq in
def Z6x:RCode :=
 .seq (r 0 [b 1 0,w 2 (.alloc [O,O])]) (.seq (r 1 [f 3 0 1,l 4 3,f 5 1 1,l 6 5,w 7 (.build [O,O] [(0,1,.t 4),(1,1,.t 6)]),s 2 2 7]) .ret)
def Z6y:List RRes:=[.c 2 true 2]
theorem Z6z:PCt Tryz.prog 67 Tryz.f67 Z6x Z6y:=pcT Tryz.func67 rfl (by kernel_rfl) (by kernel_rfl) (by kernel_rfl)
open Qq in
def Z6A:RCode :=
 .seq (r 0 [b 1 0,n 2 .nils]) (.seq (r 1 [n 3 .nils]) (.seq (.seq (r 2 [n 4 O]) (.block 0 (.loop (.seq (.seq (r 3 [m 5 4,f 6 0 1,l 7 6,e 8 7,o 9 .lss 5 8]) (.cond (.t 9) .skip (.exit 0))) (.seq (.block 1 (r 5 [m 12 3,f 13 0 1,l 14 13,m 15 4,i 16 5 14 15,L 17 5 16,c 18 67 [17],w 19 (.bsl false 2 1 [O,O] [(0,.t 18)]),w 20 (.app 2 16 (.t 12) (.t 19)),m 3 20])) (r 4 [m 10 4,k 11 .add 10 I,m 4 11])))))) (.seq (r 6 [m 21 3,m 2 21]) .ret)))
def Z6B:List RRes:=[.t 2]
theorem Z6C:PCt Tryz.prog 31 Tryz.f31 Z6A Z6B:=pcT Tryz.func31 rfl (by kernel_rfl) (by kernel_rfl) (by kernel_rfl)
open Qq in
def Z6D:RCode :=
 .seq (r 0 [b 6 0,b 10 4,b 11 5,w 12 (.alloc [.nilp,.nils,O,O]),n 13 O]) (.seq (r 1 [L 17 3 6,m 18 1,m 19 2,m 20 3,m 21 3,c 22 60 [17,18,19,20,21],m 16 22,x 23 0 16,x 24 1 16,w 14 (.alloc [.nilp,.nils,O,O]),s 4 14 23,m 15 24]) (.seq (.seq (r 2 [m 25 15,k 26 .neq 25 O]) (.cond (.t 26) (.seq (r 3 [w 27 (.build [.nilp,.nils,O,O] []),m 28 15,s 4 12 27,m 13 28]) .ret) .skip)) (.seq (.seq (r 4 [f 29 0 14,l 30 29,L 31 2 10,c 32 84 [30,31],t 33 32,m 34 33,g 34 false (f 35 0 14),g 34 false (l 36 35),g 34 false (L 37 2 11),g 34 false (c 38 84 [36,37]),g 34 false (t 39 38),u 40 34 39]) (.cond (.t 40) (.seq (r 5 [w 41 (.build [.nilp,.nils,O,O] []),s 4 12 41,n 13 (.int .i64 6)]) .ret) .skip)) (.seq (r 6 [L 42 4 14,s 4 12 42,n 13 O]) .ret))))
def Z6E:List RRes:=[.c 12 true 4,.t 13]
theorem Z6F:PCt Tryz.prog 53 Tryz.f53 Z6D Z6E:=pcT Tryz.func53 rfl (by kernel_rfl) (by kernel_rfl) (by kernel_rfl)
open Qq in
def Z6G:RCode :=
 .seq (r 0 [b 4 1,n 6 .nilf]) (.seq (r 1 [w 20 (.mkmap),m 7 20]) (.seq (.seq (r 2 [m 21 0,e 22 21,n 23 O]) (.block 0 (.loop (.seq (r 3 [o 24 .lss 23 22]) (.seq (.cond (.t 24) .skip (.exit 0)) (.seq (.block 1 (.seq (r 4 [m 25 23,m 8 25]) (r 5 [m 26 7,m 27 8,z (.mupd (.i .i64) (.t 26) (.t 27) (.c (.bool true)))]))) (r 6 [k 28 .add 23 I,m 23 28]))))))) (.seq (r 7 [w 29 (.mkmap),L 30 2 4,z (.mupd (.ag [.i,.i]) (.t 29) (.t 30) (.c O)),m 31 29,w 9 (.alloc [.nilm]),s 1 9 31]) (.seq (.seq (r 8 [n 10 I]) (.block 2 (.loop (.seq (.block 3 (.seq (r 10 [n 11 .nils]) (.seq (.seq (r 11 [m 34 0,e 35 34,n 36 O]) (.block 4 (.loop (.seq (r 12 [o 37 .lss 36 35]) (.seq (.cond (.t 37) .skip (.exit 4)) (.seq (.block 5 (.seq (r 13 [m 38 36,i 39 6 34 36,L 40 6 39,w 13 (.alloc [O,O,O,O,O,.bool false]),m 12 38,s 6 13 40]) (.seq (R 14 [f 41 0 13,a [0] (L 42 2 41),f 43 2 13,a [2] (L 44 2 43),w 14 (.alloc [O,O]),w 15 (.alloc [O,O]),a [4,1,0,1,4,5] (s 2 14 42),a [5,3,6,0,1,2,3,4,5,6] (s 2 15 44)]) (.seq (.seq (r 15 [m 45 2]) (.cond (.t 45) (r 16 [L 46 2 15,L 47 2 14,s 2 14 46,s 2 15 47]) .skip)) (.seq (.seq (r 17 [l 49 9,L 50 2 15,w 51 (.look (.ag [.i,.i]) O true (.t 49) (.t 50)),m 48 51,x 52 0 48,x 53 1 48,m 16 52,m 17 53]) (.seq (r 18 [m 54 7,m 55 12,w 56 (.look (.i .i64) (.bool false) false (.t 54) (.t 55)),t 57 56,m 58 57,g 58 false (m 59 17),g 58 false (t 60 59),u 61 58 60,m 62 61,g 62 false (m 63 16),g 62 false (m 64 10),g 62 false (o 65 .geq 63 64),u 66 62 65]) (.cond (.t 66) (.exit 5) .skip))) (.seq (r 19 [m 67 7,m 68 12,z (.mdel (.i .i64) (.t 67) (.t 68))]) (.seq (r 20 [l 70 9,L 71 2 14,w 72 (.look (.ag [.i,.i]) O true (.t 70) (.t 71)),m 69 72,x 73 0 69,x 74 1 69,m 18 73,m 19 74]) (.seq (r 21 [m 75 19,t 76 75]) (.cond (.t 76) (.seq (r 22 [l 77 9,L 78 2 14,m 79 10,z (.mupd (.ag [.i,.i]) (.t 77) (.t 78) (.t 79))]) (r 23 [m 80 11,L 81 2 14,w 82 (.bsl false 2 1 [O,O] [(0,.t 81)]),w 83 (.app 2 16 (.t 80) (.t 82)),m 11 83])) .skip))))))))) (r 24 [k 84 .add 36 I,m 36 84]))))))) (.seq (r 25 [m 85 11,e 86 85,k 87 .eql 86 O]) (.cond (.t 87) (.exit 2) .skip))))) (r 9 [m 32 10,k 33 .add 32 I,m 10 33]))))) (.seq (r 26 [w 88 (.mkf (.func 87) [] [.t 9]),m 6 88]) .ret)))))
def Z6H:List RRes:=[.t 6]
theorem Z6I:PCt Tryz.prog 57 Tryz.f57 Z6G Z6H:=pcT Tryz.func57 rfl (by kernel_rfl) (by kernel_rfl) (by kernel_rfl)
open Qq in
def Z6J:RCode :=
 .seq (r 0 [b 2 0,n 3 O]) (.seq (.seq (r 1 [l 7 1,L 8 2 2,w 9 (.look (.ag [.i,.i]) O true (.t 7) (.t 8)),m 6 9,x 10 0 6,x 11 1 6,m 4 10,m 5 11]) (.seq (r 2 [m 12 5]) (.cond (.t 12) (.seq (r 3 [m 13 4,m 3 13]) .ret) .skip))) (.seq (r 4 [n 3 (.int .i64 1048576)]) .ret))
def Z6K:List RRes:=[.t 3]
theorem Z6L:PCt Tryz.prog 87 Tryz.f87 Z6J Z6K:=pcT Tryz.func87 rfl (by kernel_rfl) (by kernel_rfl) (by kernel_rfl)
open Qq in
def Z6M:RCode :=
 .seq (r 0 [b 3 0,b 4 1,b 5 2,n 6 (.bool false)]) (.seq (R 1 [L 7 4 3,a [0] (c 8 56 [7]),a [1,1] (c 9 55 [8]),L 10 2 5,a [2,3,2] (w 11 (.call 57 [.t 9,.t 10,.c (.bool false)])),L 12 2 4,a [4,5,4] (w 13 (.callv (.t 11) [.t 12])),a [6] (k 14 .lss 13 (.int .i64 1048576)),a [7,6,0,1,2,3,4,5,6,7] (m 6 14)]) .ret)
def Z6N:List RRes:=[.t 6]
theorem Z6O:PCt Tryz.prog 54 Tryz.f54 Z6M Z6N:=pcT Tryz.func54 rfl (by kernel_rfl) (by kernel_rfl) (by kernel_rfl)
open Qq in
def Z6P:RCode :=
 .seq (r 0 [b 6 0,b 10 4,b 11 5,n 12 (.bool false),n 13 O]) (.seq (r 1 [L 17 3 6,m 18 1,m 19 2,m 20 3,L 21 2 10,L 22 2 11,c 23 53 [17,18,19,20,21,22],m 16 23,x 24 0 16,x 25 1 16,w 14 (.alloc [.nilp,.nils,O,O]),s 4 14 24,m 15 25]) (.seq (.seq (r 2 [m 26 15,k 27 .neq 26 O]) (.cond (.t 27) (.seq (r 3 [m 28 15,n 12 (.bool false),m 13 28]) .ret) .skip)) (.seq (r 4 [L 29 4 14,L 30 2 10,L 31 2 11,c 32 54 [29,30,31],m 12 32,n 13 O]) .ret)))
def Z6Q:List RRes:=[.t 12,.t 13]
theorem Z6R:PCt Tryz.prog 17 Tryz.f17 Z6P Z6Q:=pcT Tryz.func17 rfl (by kernel_rfl) (by kernel_rfl) (by kernel_rfl)
open Qq in
def Z6S:RCode :=
 .seq (r 0 [b 6 0,b 10 4,b 11 5,n 12 .nils,n 13 O]) (.seq (r 1 [L 22 3 6,m 23 1,m 24 2,m 25 3,L 26 2 10,L 27 2 11,c 28 53 [22,23,24,25,26,27],m 21 28,x 29 0 21,x 30 1 21,w 14 (.alloc [.nilp,.nils,O,O]),s 4 14 29,m 15 30]) (.seq (.seq (r 2 [m 31 15,k 32 .neq 31 O]) (.cond (.t 32) (.seq (r 3 [m 33 15,n 12 .nils,m 13 33]) .ret) .skip)) (.seq (r 4 [L 34 4 14,c 35 56 [34],c 36 55 [35],m 16 36]) (.seq (r 5 [m 37 16,L 38 2 11,w 39 (.call 57 [.t 37,.t 38,.c (.bool false)]),w 17 (.alloc [.nilf]),s 1 17 39]) (.seq (.seq (r 6 [l 40 17,L 41 2 10,w 42 (.callv (.t 40) [.t 41]),k 43 .eql 42 (.int .i64 1048576)]) (.cond (.t 43) (.seq (r 7 [n 12 .nils,n 13 (.int .i64 6)]) .ret) .skip)) (.seq (r 8 [n 18 .nils]) (.seq (.seq (r 9 [L 44 2 10,w 19 (.alloc [O,O]),s 2 19 44]) (.block 0 (.loop (.seq (.seq (r 10 [L 45 2 19,L 46 2 11,w 47 (.eqs true [.i,.i] (.t 45) (.t 46))]) (.cond (.t 47) .skip (.exit 0))) (.seq (.block 1 (.seq (r 11 [m 48 16,w 49 (.mkf (.func 59) [] [.t 19,.t 17]),c 50 58 [48,49],m 20 50]) (.seq (r 12 [m 51 18,m 52 16,m 53 20,i 54 6 52 53,L 55 6 54,w 56 (.bsl false 6 1 [O,O,O,O,O,.bool false] [(0,.t 55)]),w 57 (.app 6 48 (.t 51) (.t 56)),m 18 57]) (r 13 [m 58 16,m 59 20,i 60 6 58 59,f 61 2 60,L 62 2 61,s 2 19 62])))) (.seq (r 14 [L 63 2 19]) (r 15 [w 19 (.alloc [O,O]),s 2 19 63]))))))) (.seq (r 16 [m 64 18,m 12 64,n 13 O]) .ret))))))))
def Z6T:List RRes:=[.t 12,.t 13]
theorem Z6U:PCt Tryz.prog 18 Tryz.f18 Z6S Z6T:=pcT Tryz.func18 rfl (by kernel_rfl) (by kernel_rfl) (by kernel_rfl)
open Qq in
def Z6V:RCode :=
 .seq (r 0 [b 3 0,n 4 (.bool false)]) (.seq (R 1 [f 5 0 3,a [0] (L 6 2 5),L 7 2 1,a [1,2] (w 8 (.eqs false [.i,.i] (.t 6) (.t 7))),a [3] (m 9 8),a [4] (g 9 true (l 10 2)),a [4] (g 9 true (f 11 2 3)),a [6,4] (g 9 true (L 12 2 11)),a [5,7,4,4] (g 9 true (w 13 (.callv (.t 10) [.t 12]))),a [8,4] (g 9 true (k 14 .add 13 I)),a [4] (g 9 true (l 15 2)),a [4] (g 9 true (L 16 2 1)),a [10,11,8,4] (g 9 true (w 17 (.callv (.t 15) [.t 16]))),a [9,12,4] (g 9 true (o 18 .eql 14 17)),a [4,13] (v 19 9 18),a [14,12,0,1,2,3,4,5,6,7,8,9,10,11,12,13,14] (m 4 19)]) .ret)
def Z6W:List RRes:=[.t 4]
theorem Z6X:PCt Tryz.prog 59 Tryz.f59 Z6V Z6W:=pcT Tryz.func59 rfl (by kernel_rfl) (by kernel_rfl) (by kernel_rfl)
open Qq in
def Z6Y:RCode :=
 .seq (r 0 [n 4 O]) (.seq (r 1 [m 5 0,m 6 1,c 7 88 [5,6],m 4 7]) .ret)
def Z6Z:List RRes:=[.t 4]
theorem Z70:PCt Tryz.prog 58 Tryz.f58 Z6Y Z6Z:=pcT Tryz.func58 rfl (by kernel_rfl) (by kernel_rfl) (by kernel_rfl)
open Qq in
def Z71:RCode :=
 .seq (r 0 [n 4 O]) (.seq (.seq (r 1 [m 6 0,e 7 6,n 8 O]) (.block 0 (.loop (.seq (r 2 [o 9 .lss 8 7]) (.seq (.cond (.t 9) .skip (.exit 0)) (.seq (.block 1 (.seq (r 3 [m 10 8,m 5 10]) (.seq (r 4 [m 11 1,m 12 0,m 13 5,i 14 6 12 13,L 15 6 14,w 16 (.callv (.t 11) [.t 15])]) (.cond (.t 16) (.seq (r 5 [m 17 5,m 4 17]) .ret) .skip)))) (r 6 [k 18 .add 8 I,m 8 18]))))))) (.seq (r 7 [n 4 (.int .i64 (-1))]) .ret))
def Z72:List RRes:=[.t 4]
theorem Z73:PCt Tryz.prog 88 Tryz.f88 Z71 Z72:=pcT Tryz.func88 rfl (by kernel_rfl) (by kernel_rfl) (by kernel_rfl)
open Qq in
def Z74:RCode :=
 .seq (r 0 [b 3 0,b 4 1,n 6 .nils]) (.seq (R 1 [L 8 4 3,a [0] (c 9 56 [8]),a [1,1] (c 10 55 [9]),L 11 2 4,m 12 2,a [2,3,4,2] (c 13 57 [10,11,12]),w 7 (.alloc [.nilf]),a [6,5,5,0,1,2,3,4,5,6] (s 1 7 13)]) (.seq (r 2 [f 14 0 3,l 15 14,w 16 (.nilck (.t 15)),f 17 3 16,l 18 17,c 19 97 [18],w 20 (.mkf (.func 98) [] [.t 7]),c 21 96 [19,20],m 6 21]) .ret))
def Z75:List RRes:=[.t 6]
theorem Z76:PCt Tryz.prog 66 Tryz.f66 Z74 Z75:=pcT Tryz.func66 rfl (by kernel_rfl) (by kernel_rfl) (by kernel_rfl)
open Qq in
def Z77:RCode :=
 .seq (r 0 [b 2 0,n 3 (.bool false)]) (.seq (r 1 [l 4 1,L 5 2 2,w 6 (.callv (.t 4) [.t 5]),k 7 .eql 6 (.int .i64 1048576),m 3 7]) .ret)
def Z78:List RRes:=[.t 3]
theorem Z79:PCt Tryz.prog 98 Tryz.f98 Z77 Z78:=pcT Tryz.func98 rfl (by kernel_rfl) (by kernel_rfl) (by kernel_rfl)
open Qq in
def Z7a:RCode :=
 .seq (r 0 [n 2 .nils]) (.seq (.seq (r 1 [m 3 0,w 4 (.vop (.eqn false) [(.t 3),(.c .nils)])]) (.cond (.t 4) (.seq (r 2 [n 2 .nils]) .ret) .skip)) (.seq (r 3 [w 5 (.bsl true 2 0 [] []),m 6 0,w 7 (.app 2 16 (.t 5) (.t 6)),m 2 7]) .ret))
def Z7b:List RRes:=[.t 2]
open Qq in
def Z7c:RCode :=
 .seq (r 0 [n 4 .nils]) (.seq (r 1 [m 8 0,m 9 1,c 10 117 [8,9],m 5 10]) (.seq (.seq (r 2 [m 11 5,k 12 .eql 11 (.int .i64 (-1))]) (.cond (.t 12) (.seq (r 3 [m 13 0,m 4 13]) .ret) .skip)) (.seq (.seq (r 4 [m 14 5,k 15 .add 14 I,m 6 15]) (.block 0 (.loop (.seq (.seq (r 5 [m 16 6,m 17 0,e 18 17,o 19 .lss 16 18]) (.cond (.t 19) .skip (.exit 0))) (.seq (.block 1 (.seq (r 7 [m 22 0,m 23 6,i 24 2 22 23,L 25 2 24,w 7 (.alloc [O,O]),s 2 7 25]) (.seq (r 8 [m 26 1,L 27 2 7,w 28 (.callv (.t 26) [.t 27]),t 29 28]) (.cond (.t 29) (.seq (r 9 [m 30 0,m 31 5,L 32 2 7,i 33 2 30 31,s 2 33 32]) (r 10 [m 34 5,k 35 .add 34 I,m 5 35])) .skip)))) (r 6 [m 20 6,k 21 .add 20 I,m 6 21])))))) (.seq (r 11 [m 36 0,m 37 5,w 38 (.slc 2 (.t 36) (some (.t 37)) none),z (.clr 2 [O,O] (.t 38))]) (.seq (r 12 [m 39 0,m 40 5,w 41 (.slc 2 (.t 39) none (some (.t 40))),m 4 41]) .ret)))))
def Z7d:List RRes:=[.t 4]
theorem Z7e {G:Nat->Option (List AV)} {objs objs':List (Nat×AObj)} {args:List AV} {v:AV} (hn:args.length<=Tryz.f96.ntmps) (h:∀ R:Run,R.G=G->R.Top->AR Tryz.prog R Z7c ⟨iniT 0 args,objs⟩ (FinB Z7d v objs')):PB Tryz.prog G 96 objs args v objs' :=
 PB_of Tryz.func96 rfl (by kernel_rfl) (rc:=Z7c) (by kernel_rfl) (rs:=Z7d) (by kernel_rfl) hn (λR _ hG hr=>h R hG hr)
open Qq in
def Z7f:RCode :=
 .seq (r 0 [b 5 0,b 9 4,n 10 .nils,n 11 O]) (.seq (r 1 [L 15 3 5,m 16 1,m 17 2,m 18 3,L 19 2 9,L 20 2 9,c 21 53 [15,16,17,18,19,20],m 14 21,x 22 0 14,x 23 1 14,w 12 (.alloc [.nilp,.nils,O,O]),s 4 12 22,m 13 23]) (.seq (.seq (r 2 [m 24 13,k 25 .neq 24 O]) (.cond (.t 25) (.seq (r 3 [m 26 13,n 10 .nils,m 11 26]) .ret) .skip)) (.seq (r 4 [L 27 4 12,L 28 2 9,w 29 (.call 66 [.t 27,.t 28,.c (.bool false)]),m 10 29,n 11 O]) .ret)))
def Z7g:List RRes:=[.t 10,.t 11]
theorem Z7h:PCt Tryz.prog 27 Tryz.f27 Z7f Z7g:=pcT Tryz.func27 rfl (by kernel_rfl) (by kernel_rfl) (by kernel_rfl)
open Qq in
def Z7i:RCode :=
 .seq (r 0 [b 5 0,b 9 4,n 10 .nils,n 11 O]) (.seq (r 1 [L 15 3 5,m 16 1,m 17 2,m 18 3,L 19 2 9,L 20 2 9,c 21 53 [15,16,17,18,19,20],m 14 21,x 22 0 14,x 23 1 14,w 12 (.alloc [.nilp,.nils,O,O]),s 4 12 22,m 13 23]) (.seq (.seq (r 2 [m 24 13,k 25 .neq 24 O]) (.cond (.t 25) (.seq (r 3 [m 26 13,n 10 .nils,m 11 26]) .ret) .skip)) (.seq (r 4 [L 27 4 12,L 28 2 9,w 29 (.call 66 [.t 27,.t 28,.c (.bool true)]),m 10 29,n 11 O]) .ret)))
def Z7j:List RRes:=[.t 10,.t 11]
theorem Z7k:PCt Tryz.prog 28 Tryz.f28 Z7i Z7j:=pcT Tryz.func28 rfl (by kernel_rfl) (by kernel_rfl) (by kernel_rfl)
open Qq in
def Z7l:RCode :=
 .seq (r 0 [n 4 O]) (.seq (.seq (r 1 [m 6 0,e 7 6,n 8 O]) (.block 0 (.loop (.seq (r 2 [o 9 .lss 8 7]) (.seq (.cond (.t 9) .skip (.exit 0)) (.seq (.block 1 (.seq (r 3 [m 10 8,m 5 10]) (.seq (r 4 [m 11 1,m 12 0,m 13 5,i 14 2 12 13,L 15 2 14,w 16 (.callv (.t 11) [.t 15])]) (.cond (.t 16) (.seq (r 5 [m 17 5,m 4 17]) .ret) .skip)))) (r 6 [k 18 .add 8 I,m 8 18]))))))) (.seq (r 7 [n 4 (.int .i64 (-1))]) .ret))
def Z7m:List RRes:=[.t 4]
theorem Z7n:PCt Tryz.prog 117 Tryz.f117 Z7l Z7m:=pcT Tryz.func117 rfl (by kernel_rfl) (by kernel_rfl) (by kernel_rfl)
open Qq in
def Z7o:RCode :=
 .seq (r 0 [b 3 0,b 4 1,n 6 (.bool false)]) (.seq (r 1 [m 7 2,w 8 (.mkf (.func 92) [] [.t 3,.t 4]),c 9 91 [7,8],t 10 9,m 6 10]) .ret)
def Z7p:List RRes:=[.t 6]
theorem Z7q:PCt Tryz.prog 62 Tryz.f62 Z7o Z7p:=pcT Tryz.func62 rfl (by kernel_rfl) (by kernel_rfl) (by kernel_rfl)
open Qq in
def Z7r:RCode :=
 .seq (r 0 [n 4 (.bool false)]) (.seq (r 1 [m 5 0,l 6 1,o 7 .lss 5 6,m 8 7,g 8 false (m 9 0),g 8 false (l 10 2),g 8 false (o 11 .gtr 9 10),u 12 8 11,m 4 12]) .ret)
def Z7s:List RRes:=[.t 4]
theorem Z7t:PCt Tryz.prog 92 Tryz.f92 Z7r Z7s:=pcT Tryz.func92 rfl (by kernel_rfl) (by kernel_rfl) (by kernel_rfl)
open Qq in
def Z7u:RCode :=
 .seq (r 0 [n 4 O]) (.seq (.seq (r 1 [m 6 0,e 7 6,n 8 O]) (.block 0 (.loop (.seq (r 2 [o 9 .lss 8 7]) (.seq (.cond (.t 9) .skip (.exit 0)) (.seq (.block 1 (.seq (r 3 [m 10 8,m 5 10]) (.seq (r 4 [m 11 1,m 12 0,m 13 5,i 14 8 12 13,L 15 8 14,w 16 (.callv (.t 11) [.t 15])]) (.cond (.t 16) (.seq (r 5 [m 17 5,m 4 17]) .ret) .skip)))) (r 6 [k 18 .add 8 I,m 8 18]))))))) (.seq (r 7 [n 4 (.int .i64 (-1))]) .ret))
def Z7v:List RRes:=[.t 4]
theorem Z7w:PCt Tryz.prog 141 Tryz.f141 Z7u Z7v:=pcT Tryz.func141 rfl (by kernel_rfl) (by kernel_rfl) (by kernel_rfl)
open Qq in
def Z7x:RCode :=
 .seq (r 0 [n 4 O]) (.seq (r 1 [m 5 0,m 6 1,c 7 141 [5,6],m 4 7]) .ret)
def Z7y:List RRes:=[.t 4]
theorem Z7z:PCt Tryz.prog 110 Tryz.f110 Z7x Z7y:=pcT Tryz.func110 rfl (by kernel_rfl) (by kernel_rfl) (by kernel_rfl)
open Qq in
def Z7A:RCode :=
 .seq (r 0 [n 4 (.bool false)]) (.seq (r 1 [m 8 0,w 9 (.nilck (.t 8)),f 10 0 9,f 11 2 10,l 12 11,m 13 1,i 14 8 12 13,L 15 8 14,w 5 (.alloc [O,O,O,O,O,O,.bool false,O]),s 8 5 15]) (.seq (.seq (r 2 [f 16 0 5,l 17 16,w 18 (.bsl false 1 1 [O] [(0,.t 17)]),w 19 (.call 62 [.c I,.c (.int .i64 9999),.t 18]),t 20 19,m 21 20,g 21 false (f 22 1 5),g 21 false (l 23 22),g 21 false (w 24 (.bsl false 1 1 [O] [(0,.t 23)])),g 21 false (w 25 (.call 62 [.c O,.c (.int .i64 14610),.t 24])),g 21 false (t 26 25),u 27 21 26]) (.cond (.t 27) (.seq (r 3 [n 4 (.bool false)]) .ret) .skip)) (.seq (.seq (r 4 [w 28 (.build [O,O] []),w 6 (.alloc [O,O]),s 2 6 28]) (.seq (r 5 [f 29 2 5,L 30 2 29,L 31 2 6,w 32 (.eqs false [.i,.i] (.t 30) (.t 31)),m 33 32,g 33 true (f 34 4 5),g 33 true (L 35 2 34),g 33 true (L 36 2 6),g 33 true (w 37 (.eqs false [.i,.i] (.t 35) (.t 36))),v 38 33 37]) (.cond (.t 38) (.seq (r 6 [f 39 6 5,l 40 39,m 41 40,g 41 false (f 42 7 5),g 41 false (l 43 42),g 41 false (k 44 .eql 43 O),u 45 41 44]) (.cond (.t 45) (.seq (r 7 [n 4 (.bool false)]) .ret) .skip)) (.seq (r 8 [f 46 2 5,L 47 2 46,f 48 4 5,L 49 2 48,w 50 (.eqs false [.i,.i] (.t 47) (.t 49)),m 51 50,g 51 false (m 52 0),g 51 false (f 53 2 5),g 51 false (L 54 2 53),g 51 false (c 55 84 [52,54]),g 51 false (t 56 55),u 57 51 56,m 58 57,g 58 false (m 59 0),g 58 false (f 60 4 5),g 58 false (L 61 2 60),g 58 false (c 62 84 [59,61]),g 58 false (t 63 62),u 64 58 63]) (.cond (.t 64) (.seq (r 9 [n 4 (.bool false)]) .ret) .skip))))) (.seq (r 10 [m 65 0,w 66 (.nilck (.t 65)),f 67 0 66,f 68 2 67,l 69 68,m 70 1,w 71 (.slc 8 (.t 69) none (some (.t 70))),m 7 71]) (.seq (.seq (r 11 [m 72 7,w 73 (.mkf (.func 111) [] [.t 5]),c 74 110 [72,73],k 75 .geq 74 O,m 76 75,g 76 false (f 77 7 5),g 76 false (l 78 77),g 76 false (k 79 .neq 78 O),g 76 false (m 80 79),g 80 true (m 81 7),g 80 true (w 82 (.mkf (.func 112) [] [.t 5])),g 80 true (c 83 110 [81,82]),g 80 true (k 84 .lss 83 O),g 76 false (v 85 80 84),u 86 76 85]) (.cond (.t 86) (.seq (r 12 [n 4 (.bool false)]) .ret) .skip)) (.seq (R 13 [m 87 1,a [0] (k 88 .eql 87 O),a [1] (m 89 88),a [2] (g 89 false (m 90 0)),a [3,2] (g 89 false (w 91 (.nilck (.t 90)))),a [4,2] (g 89 false (f 92 0 91)),a [5,2] (g 89 false (f 93 2 92)),a [6,2] (g 89 false (l 94 93)),a [2] (g 89 false (m 95 1)),a [8,2] (g 89 false (k 96 .sub 95 I)),a [7,9,2] (g 89 false (i 97 8 94 96)),a [10,2] (g 89 false (f 98 1 97)),a [11,2] (g 89 false (l 99 98)),a [2] (g 89 false (f 100 1 5)),a [13,2] (g 89 false (l 101 100)),a [12,14,2,2] (g 89 false (c 102 114 [99,101])),a [2] (g 89 false (m 103 0)),a [16,2] (g 89 false (w 104 (.nilck (.t 103)))),a [17,2] (g 89 false (f 105 0 104)),a [18,2] (g 89 false (f 106 2 105)),a [19,2] (g 89 false (l 107 106)),a [2] (g 89 false (m 108 1)),a [21,2] (g 89 false (k 109 .sub 108 I)),a [20,22,2] (g 89 false (i 110 8 107 109)),a [23,2] (g 89 false (f 111 0 110)),a [24,2] (g 89 false (l 112 111)),a [2] (g 89 false (f 113 0 5)),a [26,2] (g 89 false (l 114 113)),a [25,27,15,2] (g 89 false (c 115 114 [112,114])),a [15,28,2] (g 89 false (w 116 (.bsl false 1 2 [O,O] [(0,.t 102),(1,.t 115)]))),a [29,28,2] (g 89 false (c 117 113 [116])),a [30,2] (g 89 false (k 118 .lss 117 O)),a [2,31] (u 119 89 118),a [32,30,0,1,2,3,4,5,6,7,8,9,10,11,12,13,14,15,16,17,18,19,20,21,22,23,24,25,26,27,28,29,30,31,32] (m 4 119)]) .ret))))))
def Z7B:List RRes:=[.t 4]
theorem Z7C:PCt Tryz.prog 90 Tryz.f90 Z7A Z7B:=pcT Tryz.func90 rfl (by kernel_rfl) (by kernel_rfl) (by kernel_rfl)
open Qq in
def Z7D:RCode :=
 .seq (r 0 [b 2 0,n 3 (.bool false)]) (.seq (r 1 [f 4 0 2,l 5 4,f 6 0 1,l 7 6,o 8 .eql 5 7,m 3 8]) .ret)
def Z7E:List RRes:=[.t 3]
theorem Z7F:PCt Tryz.prog 111 Tryz.f111 Z7D Z7E:=pcT Tryz.func111 rfl (by kernel_rfl) (by kernel_rfl) (by kernel_rfl)
open Qq in
def Z7G:RCode :=
 .seq (r 0 [b 2 0,n 3 (.bool false)]) (.seq (r 1 [f 4 0 2,l 5 4,f 6 7 1,l 7 6,o 8 .eql 5 7,m 3 8]) .ret)
def Z7H:List RRes:=[.t 3]
theorem Z7I:PCt Tryz.prog 112 Tryz.f112 Z7G Z7H:=pcT Tryz.func112 rfl (by kernel_rfl) (by kernel_rfl) (by kernel_rfl)
open Qq in
def Z7J:RCode :=
 .seq (r 0 [b 3 1,n 4 (.bool false)]) (.seq (R 1 [m 5 0,a [0] (w 6 (.nilck (.t 5))),a [1] (f 7 3 6),a [2] (l 8 7),L 9 2 3,a [3,4] (c 10 109 [8,9]),a [5,5,0,1,2,3,4,5] (m 4 10)]) .ret)
def Z7K:List RRes:=[.t 4]
theorem Z7L:PCt Tryz.prog 84 Tryz.f84 Z7J Z7K:=pcT Tryz.func84 rfl (by kernel_rfl) (by kernel_rfl) (by kernel_rfl)
open Qq in
def Z7M:RCode :=
 .seq (r 0 [n 6 (.bool false)]) (.seq (.seq (r 1 [m 8 0,w 9 (.nilck (.t 8)),f 10 0 9,f 11 2 10,l 12 11,m 13 1,i 14 8 12 13,f 15 1 14,l 16 15,m 17 2,o 18 .gtr 16 17]) (.cond (.t 18) (.seq (r 2 [n 6 (.bool false)]) .ret) .skip)) (.seq (.seq (r 3 [m 19 1,k 20 .add 19 I,m 7 20]) (.block 0 (.loop (.seq (.seq (r 4 [m 21 7,m 22 0,w 23 (.nilck (.t 22)),f 24 0 23,f 25 2 24,l 26 25,e 27 26,o 28 .lss 21 27]) (.cond (.t 28) .skip (.exit 0))) (.seq (.block 1 (.seq (R 6 [m 31 0,a [0] (w 32 (.nilck (.t 31))),a [1] (f 33 0 32),a [2] (f 34 2 33),a [3] (l 35 34),m 36 7,a [4,5] (i 37 8 35 36),a [6] (f 38 7 37),a [7] (l 39 38),m 40 0,a [9] (w 41 (.nilck (.t 40))),a [10] (f 42 0 41),a [11] (f 43 2 42),a [12] (l 44 43),m 45 1,a [13,14] (i 46 8 44 45),a [15] (f 47 0 46),a [16] (l 48 47),a [8,17] (o 49 .eql 39 48),a [18] (m 50 49),a [19] (g 50 true (m 51 0)),a [19] (g 50 true (m 52 7)),a [19] (g 50 true (m 53 2)),a [20,21,22,19,19] (g 50 true (c 54 63 [51,52,53])),a [19,23] (v 55 50 54)]) (.cond (.t 55) (.seq (r 7 [n 6 (.bool false)]) .ret) .skip))) (r 5 [m 29 7,k 30 .add 29 I,m 7 30])))))) (.seq (r 8 [n 6 (.bool true)]) .ret)))
def Z7N:List RRes:=[.t 6]
theorem Z7O:PCt Tryz.prog 63 Tryz.f63 Z7M Z7N:=pcT Tryz.func63 rfl (by kernel_rfl) (by kernel_rfl) (by kernel_rfl)
open Qq in
def Z7P:RCode :=
 .seq (r 0 [b 1 0,n 2 .nilp,n 3 O]) (.scope (.seq (.seq (r 1 [f 10 0 1,L 11 2 10,c 12 89 [11],m 4 12]) (.seq (r 2 [m 13 4,k 14 .neq 13 O]) (.cond (.t 14) (.seq (r 3 [m 15 4,n 2 .nilp,m 3 15]) .ret) .skip))) (.seq (.seq (r 4 [f 16 2 1,l 17 16,e 18 17,k 19 .gtr 18 (.int .i64 16)]) (.cond (.t 19) (.seq (r 5 [n 2 .nilp,n 3 (.int .i64 50)]) .ret) .skip)) (.seq (r 6 [L 20 3 1,w 21 (.build [.nils,.nils,.nils,.nils] [(0,3,.t 20)]),b 22 21,m 5 22]) (.seq (.seq (r 7 [f 23 0 1,f 24 0 23,f 25 0 24,l 26 25,e 27 26,n 28 O]) (.block 0 (.loop (.seq (r 8 [o 29 .lss 28 27]) (.seq (.cond (.t 29) .skip (.exit 0)) (.seq (.block 1 (.seq (r 9 [i 30 5 26 28,L 31 5 30,w 7 (.alloc [O,O,.int .u8 0,.nils,.nils]),s 5 7 31]) (R 10 [m 32 5,m 33 5,a [1] (w 34 (.nilck (.t 33))),a [2] (f 35 3 34),a [3] (l 36 35),f 37 0 7,a [5] (l 38 37),f 39 1 7,a [7] (l 40 39),a [6,8] (w 41 (.build [O,O] [(0,1,.t 38),(1,1,.t 40)])),a [9] (w 42 (.bsl false 2 1 [O,O] [(0,.t 41)])),a [4,10] (w 43 (.app 2 16 (.t 36) (.t 42))),a [0,0,1,2,3,4,5,6,7,8,9,10,11] (w 44 (.nilck (.t 32))),a [12,0,1,2,3,4,5,6,7,8,9,10,11] (f 45 3 44),a [13,11,11,0,1,2,3,4,5,6,7,8,9,10,11] (s 1 45 43)]))) (r 11 [k 46 .add 28 I,m 28 46]))))))) (.seq (r 12 [n 8 O]) (.seq (.label 0) (.seq (.seq (r 13 [f 47 2 1,l 48 47,e 49 48,n 50 O]) (.block 2 (.loop (.seq (r 14 [o 51 .lss 50 49]) (.seq (.cond (.t 51) .skip (.exit 2)) (.seq (.block 3 (.seq (r 15 [m 52 50,m 9 52]) (.seq (r 16 [m 53 5,m 54 9,c 55 90 [53,54],t 56 55]) (.cond (.t 56) (.seq (r 17 [n 8 (.int .i64 50)]) (.exit 2)) .skip)))) (r 18 [k 57 .add 50 I,m 50 57]))))))) (.seq (.seq (r 19 [m 58 8,k 59 .neq 58 O]) (.cond (.t 59) (.seq (r 20 [m 60 8,n 2 .nilp,m 3 60]) .ret) .skip)) (.seq (r 21 [m 61 5,m 2 61,n 3 O]) .ret))))))))))
def Z7Q:List RRes:=[.t 2,.t 3]
theorem Z7R:PCt Tryz.prog 61 Tryz.f61 Z7P Z7Q:=pcT Tryz.func61 rfl (by kernel_rfl) (by kernel_rfl) (by kernel_rfl)
open Qq in
def Z7S:RCode :=
 .seq (r 0 [b 2 0,n 4 .nils,n 5 O]) (.seq (r 1 [L 11 3 2,c 12 61 [11],m 10 12,x 13 0 10,x 14 1 10,m 6 13,m 7 14]) (.seq (.seq (r 2 [m 15 7,k 16 .neq 15 O]) (.cond (.t 16) (.seq (r 3 [m 17 7,n 4 .nils,m 5 17]) .ret) .skip)) (.seq (.seq (r 4 [m 18 1,w 19 (.bsl false 1 1 [O] [(0,.t 18)]),w 20 (.call 62 [.c O,.c (.int .i64 14610),.t 19]),t 21 20]) (.cond (.t 21) (.seq (r 5 [n 4 .nils,n 5 (.int .i64 2)]) .ret) .skip)) (.seq (r 6 [n 8 .nils]) (.seq (.seq (r 7 [f 22 2 2,l 23 22,e 24 23,n 25 O]) (.block 0 (.loop (.seq (r 8 [o 26 .lss 25 24]) (.seq (.cond (.t 26) .skip (.exit 0)) (.seq (.block 1 (.seq (r 9 [m 27 25,m 9 27]) (.seq (r 10 [m 28 6,m 29 9,m 30 1,c 31 63 [28,29,30]]) (.cond (.t 31) (r 11 [m 32 8,f 33 2 2,l 34 33,m 35 9,i 36 8 34 35,f 37 0 36,l 38 37,w 39 (.bsl false 1 1 [O] [(0,.t 38)]),w 40 (.app 1 8 (.t 32) (.t 39)),m 8 40]) .skip)))) (r 12 [k 41 .add 25 I,m 25 41]))))))) (.seq (r 13 [m 42 8,m 4 42,n 5 O]) .ret))))))
def Z7T:List RRes:=[.t 4,.t 5]
theorem Z7U:PCt Tryz.prog 20 Tryz.f20 Z7S Z7T:=pcT Tryz.func20 rfl (by kernel_rfl) (by kernel_rfl) (by kernel_rfl)
open Qq in
def Z7V:RCode :=
 .seq (r 0 [b 1 0,n 2 .nils]) (.seq (r 1 [f 13 0 1,l 14 13,w 15 (.nilck (.t 14)),f 16 0 15,f 17 0 16,f 18 0 17,L 19 1 18,w 20 (.build [.nils,.nils] [(0,1,.t 19)]),w 3 (.alloc [.nils,.nils]),s 2 3 20]) (.seq (r 2 [n 4 .nils]) (.seq (.seq (r 3 [f 21 0 1,l 22 21,w 23 (.nilck (.t 22)),f 24 0 23,f 25 0 24,f 26 1 25,l 27 26,e 28 27,n 29 O]) (.block 0 (.loop (.seq (r 4 [o 30 .lss 29 28]) (.seq (.cond (.t 30) .skip (.exit 0)) (.seq (.block 1 (.seq (r 5 [i 31 10 27 29,L 32 10 31,w 6 (.alloc [O,O,.int .u8 0,O,O,O,O,O,.bool false,.int .u8 0]),s 10 6 32]) (.seq (.seq (r 6 [f 33 1 6,l 34 33,f 35 3 1,l 36 35,o 37 .gtr 34 36]) (.cond (.t 37) (.exit 0) .skip)) (.seq (r 7 [f 38 1 3,l 39 38,L 40 10 6,w 41 (.bsl false 10 1 [O,O,.int .u8 0,O,O,O,O,O,.bool false,.int .u8 0] [(0,.t 40)]),w 42 (.app 10 72 (.t 39) (.t 41)),f 43 1 3,s 1 43 42]) (.seq (r 8 [f 44 1 1,l 45 44,f 46 0 6,l 47 46,c 48 75 [45,47]]) (.cond (.t 48) (r 9 [m 49 4,f 50 0 6,l 51 50,w 52 (.bsl false 1 1 [O] [(0,.t 51)]),w 53 (.app 1 8 (.t 49) (.t 52)),m 4 53]) .skip)))))) (r 10 [k 54 .add 29 I,m 29 54]))))))) (.seq (r 11 [m 55 4,c 56 73 [55]]) (.seq (r 12 [L 58 2 3,m 59 4,f 60 2 1,l 61 60,c 62 22 [58,59,61],m 57 62,x 63 0 57,x 64 1 57,m 7 63,m 8 64]) (.seq (r 13 [n 9 .nils]) (.seq (.seq (r 14 [f 65 1 3,l 66 65,e 67 66,n 68 O]) (.block 2 (.loop (.seq (r 15 [o 69 .lss 68 67]) (.seq (.cond (.t 69) .skip (.exit 2)) (.seq (.block 3 (.seq (r 16 [i 70 10 66 68,L 71 10 70,w 11 (.alloc [O,O,.int .u8 0,O,O,O,O,O,.bool false,.int .u8 0]),s 10 11 71]) (.seq (.seq (r 17 [m 72 7,f 73 0 11,l 74 73,c 75 75 [72,74],t 76 75]) (.cond (.t 76) (.exit 3) .skip)) (.seq (r 18 [f 77 3 11,l 78 77,f 79 4 11,l 80 79,k 81 .sub 80 I,w 82 (.build [O,O] [(0,1,.t 78),(1,1,.t 81)]),f 83 3 11,l 84 83,f 85 4 11,l 86 85,w 87 (.build [O,O] [(0,1,.t 84),(1,1,.t 86)]),w 88 (.build [O,O,O,O] [(0,2,.t 82),(2,2,.t 87)]),w 12 (.alloc [O,O,O,O]),s 4 12 88]) (.seq (.seq (r 19 [f 89 9 11,l 90 89,w 91 (.vop (.bits .and) [(.t 90),(.c (.int .u8 1))]),k 92 .neq 91 (.int .u8 0)]) (.cond (.t 92) (r 20 [m 93 9,w 94 (.vop (.aaddr 2 2) [(.t 12),(.c O)]),L 95 2 94,w 96 (.vop (.aaddr 2 2) [(.t 12),(.c I)]),L 97 2 96,f 98 0 11,l 99 98,w 100 (.build [O,O,O,O,O,.bool false] [(0,2,.t 95),(2,2,.t 97),(4,1,.t 99),(5,1,.c (.bool true))]),w 101 (.bsl false 6 1 [O,O,O,O,O,.bool false] [(0,.t 100)]),w 102 (.app 6 48 (.t 93) (.t 101)),m 9 102]) .skip)) (.seq (r 21 [f 103 9 11,l 104 103,w 105 (.vop (.bits .and) [(.t 104),(.c (.int .u8 2))]),k 106 .neq 105 (.int .u8 0)]) (.cond (.t 106) (r 22 [m 107 9,w 108 (.vop (.aaddr 2 2) [(.t 12),(.c I)]),L 109 2 108,w 110 (.vop (.aaddr 2 2) [(.t 12),(.c O)]),L 111 2 110,f 112 0 11,l 113 112,w 114 (.build [O,O,O,O,O,.bool false] [(0,2,.t 109),(2,2,.t 111),(4,1,.t 113),(5,1,.c (.bool true))]),w 115 (.bsl false 6 1 [O,O,O,O,O,.bool false] [(0,.t 114)]),w 116 (.app 6 48 (.t 107) (.t 115)),m 9 116]) .skip))))))) (r 23 [k 117 .add 68 I,m 68 117]))))))) (.seq (r 24 [m 118 9,m 2 118]) .ret))))))))
def Z7W:List RRes:=[.t 2]
theorem Z7X:PCt Tryz.prog 182 Tryz.f182 Z7V Z7W:=pcT Tryz.func182 rfl (by kernel_rfl) (by kernel_rfl) (by kernel_rfl)
open Qq in
def Z7Y:RCode :=
 .seq (r 0 [b 1 0,n 2 .nils]) (.seq (r 1 [n 3 .nils]) (.seq (.seq (r 2 [f 6 0 1,l 7 6,w 8 (.nilck (.t 7)),f 9 0 8,f 10 2 9,l 11 10,e 12 11,n 13 O]) (.block 0 (.loop (.seq (r 3 [o 14 .lss 13 12]) (.seq (.cond (.t 14) .skip (.exit 0)) (.seq (.block 1 (.seq (r 4 [m 15 13,i 16 8 11 13,L 17 8 16,w 5 (.alloc [O,O,O,O,O,O,.bool false,O]),m 4 15,s 8 5 17]) (.seq (.seq (r 5 [f 18 2 5,L 19 2 18,f 20 4 5,L 21 2 20,w 22 (.eqs false [.i,.i] (.t 19) (.t 21)),m 23 22,g 23 false (f 24 0 1),g 23 false (l 25 24),g 23 false (m 26 4),g 23 false (f 27 3 1),g 23 false (l 28 27),g 23 false (c 29 63 [25,26,28]),g 23 false (t 30 29),u 31 23 30]) (.cond (.t 31) (.exit 1) .skip)) (.seq (r 6 [m 32 3,f 33 2 5,L 34 2 33,f 35 4 5,L 36 2 35,f 37 0 5,l 38 37,w 39 (.build [O,O,O,O,O,.bool false] [(0,2,.t 34),(2,2,.t 36),(4,1,.t 38)]),w 40 (.bsl false 6 1 [O,O,O,O,O,.bool false] [(0,.t 39)]),w 41 (.app 6 48 (.t 32) (.t 40)),m 3 41]) (.seq (r 7 [f 42 6 5,l 43 42]) (.cond (.t 43) (r 8 [m 44 3,f 45 4 5,L 46 2 45,f 47 2 5,L 48 2 47,f 49 0 5,l 50 49,w 51 (.build [O,O,O,O,O,.bool false] [(0,2,.t 46),(2,2,.t 48),(4,1,.t 50)]),w 52 (.bsl false 6 1 [O,O,O,O,O,.bool false] [(0,.t 51)]),w 53 (.app 6 48 (.t 44) (.t 52)),m 3 53]) .skip)))))) (r 9 [k 54 .add 13 I,m 13 54]))))))) (.seq (r 10 [m 55 3,m 2 55]) .ret)))
def Z7Z:List RRes:=[.t 2]
theorem Z80:PCt Tryz.prog 183 Tryz.f183 Z7Y Z7Z:=pcT Tryz.func183 rfl (by kernel_rfl) (by kernel_rfl) (by kernel_rfl)
open Qq in
def Z81:RCode :=
 .seq (r 0 [b 1 0,n 2 .nilf]) (.seq (r 1 [w 3 (.mkf (.func 86) [] [.t 1]),m 2 3]) .ret)
def Z82:List RRes:=[.t 2]
theorem Z83:PCt Tryz.prog 56 Tryz.f56 Z81 Z82:=pcT Tryz.func56 rfl (by kernel_rfl) (by kernel_rfl) (by kernel_rfl)
open Qq in
def Z84:RCode :=
 .seq (r 0 [w 7 (.load true 2 (.g 0)),n 8 O]) (.block 0 (.loop (.seq (r 1 [k 9 .lss 8 (.int .i64 2)]) (.seq (.cond (.t 9) .skip (.exit 0)) (.seq (.block 1 (.seq (r 2 [w 10 (.vop (.aidx true 2 1) [(.t 7),(.t 8)]),w 4 (.alloc [.nilf]),s 1 4 10]) (.seq (r 3 [f 11 0 4,l 12 11,L 13 4 1,w 14 (.callv (.t 12) [.t 13]),e 15 14,n 16 O]) (.block 2 (.loop (.seq (r 4 [o 17 .lss 16 15]) (.seq (.cond (.t 17) .skip (.exit 2)) (.seq (.block 3 (.seq (r 5 [i 18 6 14 16,L 19 6 18,w 6 (.alloc [O,O,O,O,O,.bool false]),s 6 6 19]) (.seq (r 6 [m 20 0,L 21 6 6,w 22 (.callv (.t 20) [.t 21]),t 23 22]) (.cond (.t 23) .ret .skip)))) (r 7 [k 24 .add 16 I,m 16 24]))))))))) (r 8 [k 25 .add 8 I,m 8 25]))))))
open Qq in
def Z85:RCode :=
 .seq (r 0 [b 3 1,n 4 (.bool false)]) (.seq (r 1 [m 5 0,L 6 2 3,c 7 140 [5,6],k 8 .geq 7 O,m 4 8]) .ret)
def Z86:List RRes:=[.t 4]
theorem Z87:PCt Tryz.prog 109 Tryz.f109 Z85 Z86:=pcT Tryz.func109 rfl (by kernel_rfl) (by kernel_rfl) (by kernel_rfl)
open Qq in
def Z88:RCode :=
 .seq (r 0 [b 3 1,n 4 O]) (.seq (.seq (r 1 [m 6 0,e 7 6,n 8 O]) (.block 0 (.loop (.seq (r 2 [o 9 .lss 8 7]) (.seq (.cond (.t 9) .skip (.exit 0)) (.seq (.block 1 (.seq (r 3 [m 10 8,m 5 10]) (.seq (R 4 [L 11 2 3,m 12 0,m 13 5,a [1,2] (i 14 2 12 13),a [3] (L 15 2 14),a [0,4] (w 16 (.eqs false [.i,.i] (.t 11) (.t 15)))]) (.cond (.t 16) (.seq (r 5 [m 17 5,m 4 17]) .ret) .skip)))) (r 6 [k 18 .add 8 I,m 8 18]))))))) (.seq (r 7 [n 4 (.int .i64 (-1))]) .ret))
def Z89:List RRes:=[.t 4]
theorem Z8a:PCt Tryz.prog 140 Tryz.f140 Z88 Z89:=pcT Tryz.func140 rfl (by kernel_rfl) (by kernel_rfl) (by kernel_rfl)
open Qq in
def Z8b:RCode :=
 .seq (r 0 [n 2 .nils]) (.seq (r 1 [m 3 0,w 4 (.call 85 [.c .nils,.t 3]),m 2 4]) .ret)
def Z8c:List RRes:=[.t 2]
theorem Z8d:PCt Tryz.prog 55 Tryz.f55 Z8b Z8c:=pcT Tryz.func55 rfl (by kernel_rfl) (by kernel_rfl) (by kernel_rfl)
open Qq in
def Z8e:RCode :=
 .seq (r 0 [b 2 0,n 4 .nils]) (.seq (.seq (r 1 [m 6 1]) (.block 0 (.rngf (.t 6) [7] (r 2 [w 5 (.alloc [O,O,O,O,O,.bool false]),s 6 5 7]) (.block 1 (r 3 [l 8 2,L 9 6 5,w 10 (.bsl false 6 1 [O,O,O,O,O,.bool false] [(0,.t 9)]),w 11 (.app 6 48 (.t 8) (.t 10)),s 1 2 11]))))) (.seq (r 4 [l 12 2,m 4 12]) .ret))
def Z8f:List RRes:=[.t 4]
theorem Z8g:PCt Tryz.prog 85 Tryz.f85 Z8e Z8f:=pcT Tryz.func85 rfl (by kernel_rfl) (by kernel_rfl) (by kernel_rfl)
open Qq in
def Z8h:RCode :=
 .seq (r 0 [b 5 0,w 10 (.alloc [.nilp,.nils,O,O]),n 11 O]) (.seq (r 1 [L 17 3 5,c 18 61 [17],m 16 18,x 19 0 16,x 20 1 16,m 12 19,m 13 20]) (.seq (.seq (r 2 [m 21 13,k 22 .neq 21 O]) (.cond (.t 22) (.seq (r 3 [w 23 (.build [.nilp,.nils,O,O] []),m 24 13,s 4 10 23,m 11 24]) .ret) .skip)) (.seq (.seq (r 4 [f 26 0 5,L 27 2 26,m 28 1,w 29 (.call 22 [.t 27,.t 28,.c I]),m 25 29,x 30 0 25,x 31 1 25,m 14 30,m 15 31]) (.seq (r 5 [m 32 15,k 33 .neq 32 O]) (.cond (.t 33) (.seq (r 6 [w 34 (.build [.nilp,.nils,O,O] []),m 35 15,s 4 10 34,m 11 35]) .ret) .skip))) (.seq (.seq (r 7 [m 36 2,w 37 (.bsl false 1 1 [O] [(0,.t 36)]),w 38 (.call 62 [.c I,.c (.int .i64 999),.t 37]),t 39 38,m 40 39,g 40 false (m 41 3),g 40 false (m 42 4),g 40 false (w 43 (.bsl false 1 2 [O,O] [(0,.t 41),(1,.t 42)])),g 40 false (w 44 (.call 62 [.c O,.c (.int .i64 14610),.t 43])),g 40 false (t 45 44),u 46 40 45]) (.cond (.t 46) (.seq (r 8 [w 47 (.build [.nilp,.nils,O,O] []),s 4 10 47,n 11 (.int .i64 2)]) .ret) .skip)) (.seq (r 9 [m 48 12,m 49 1,m 50 2,m 51 3,w 52 (.build [.nilp,.nils,O,O] [(0,1,.t 48),(1,1,.t 49),(2,1,.t 50),(3,1,.t 51)]),s 4 10 52,n 11 O]) .ret)))))
def Z8i:List RRes:=[.c 10 true 4,.t 11]
theorem Z8j:PCt Tryz.prog 60 Tryz.f60 Z8h Z8i:=pcT Tryz.func60 rfl (by kernel_rfl) (by kernel_rfl) (by kernel_rfl)
open Qq in
def Z8k:RCode :=
 .seq (r 0 [b 4 0,n 8 .nils,n 9 O]) (.seq (r 1 [L 13 3 4,m 14 1,m 15 2,m 16 3,m 17 3,c 18 60 [13,14,15,16,17],m 12 18,x 19 0 12,x 20 1 12,w 10 (.alloc [.nilp,.nils,O,O]),s 4 10 19,m 11 20]) (.seq (.seq (r 2 [m 21 11,k 22 .neq 21 O]) (.cond (.t 22) (.seq (r 3 [m 23 11,n 8 .nils,m 9 23]) .ret) .skip)) (.seq (r 4 [L 24 4 10,c 25 56 [24],c 26 55 [25],m 8 26,n 9 O]) .ret)))
def Z8l:List RRes:=[.t 8,.t 9]
theorem Z8m:PCt Tryz.prog 19 Tryz.f19 Z8k Z8l:=pcT Tryz.func19 rfl (by kernel_rfl) (by kernel_rfl) (by kernel_rfl)
open Qq in
def Z8n:RCode :=
 .seq (r 0 [n 6 (.bool false)]) (.seq (r 1 [m 7 0,m 8 1,o 9 .geq 7 8,m 10 9,g 10 true (m 11 0),g 10 true (m 12 2),g 10 true (o 13 .leq 11 12),v 14 10 13,m 6 14]) .ret)
def Z8o:List RRes:=[.t 6]
theorem Z8p:PCt Tryz.prog 138 Tryz.f138 Z8n Z8o:=pcT Tryz.func138 rfl (by kernel_rfl) (by kernel_rfl) (by kernel_rfl)
open Qq in
def Z8q:RCode :=
 .seq (r 0 [b 2 0,b 3 1,n 4 (.bool false)]) (.seq (r 1 [L 8 1 2,L 9 2 3,c 10 156 [8,9],m 7 10,x 11 0 7,x 12 1 7,w 5 (.alloc [O,O,.int .u8 0,.nils,.nils]),s 5 5 11,m 6 12]) (.seq (r 2 [m 13 6,m 4 13]) .ret))
def Z8r:List RRes:=[.t 4]
theorem Z8s:PCt Tryz.prog 139 Tryz.f139 Z8q Z8r:=pcT Tryz.func139 rfl (by kernel_rfl) (by kernel_rfl) (by kernel_rfl)
open Qq in
def Z8t:RCode :=
 .seq (r 0 [b 2 0,n 4 (.bool false)]) (.seq (r 1 [f 10 2 2,l 11 10,m 12 1,i 13 8 11 12,L 14 8 13,w 5 (.alloc [O,O,O,O,O,O,.bool false,O]),s 8 5 14]) (.seq (.seq (r 2 [f 15 0 5,l 16 15,w 17 (.call 138 [.t 16,.c I,.c (.int .i64 9999)]),t 18 17,m 19 18,g 19 false (f 20 1 5),g 19 false (l 21 20),g 19 false (w 22 (.call 138 [.t 21,.c O,.c (.int .i64 14610)])),g 19 false (t 23 22),u 24 19 23]) (.cond (.t 24) (.seq (r 3 [n 4 (.bool false)]) .ret) .skip)) (.seq (r 4 [w 25 (.build [O,O] []),w 6 (.alloc [O,O]),s 2 6 25]) (.seq (.seq (r 5 [f 26 2 5,L 27 2 26,L 28 2 6,w 29 (.eqs false [.i,.i] (.t 27) (.t 28)),m 30 29,g 30 true (f 31 4 5),g 30 true (L 32 2 31),g 30 true (L 33 2 6),g 30 true (w 34 (.eqs false [.i,.i] (.t 32) (.t 33))),v 35 30 34]) (.cond (.t 35) (.seq (r 6 [f 36 6 5,l 37 36,m 38 37,g 38 false (f 39 7 5),g 38 false (l 40 39),g 38 false (k 41 .eql 40 O),u 42 38 41]) (.cond (.t 42) (.seq (r 7 [n 4 (.bool false)]) .ret) .skip)) (.seq (r 8 [f 43 2 5,L 44 2 43,f 45 4 5,L 46 2 45,w 47 (.eqs false [.i,.i] (.t 44) (.t 46)),m 48 47,g 48 false (f 49 0 2),g 48 false (f 50 0 49),g 48 false (L 51 1 50),g 48 false (f 52 2 5),g 48 false (L 53 2 52),g 48 false (c 54 139 [51,53]),g 48 false (t 55 54),u 56 48 55,m 57 56,g 57 false (f 58 0 2),g 57 false (f 59 0 58),g 57 false (L 60 1 59),g 57 false (f 61 4 5),g 57 false (L 62 2 61),g 57 false (c 63 139 [60,62]),g 57 false (t 64 63),u 65 57 64]) (.cond (.t 65) (.seq (r 9 [n 4 (.bool false)]) .ret) .skip)))) (.seq (r 10 [f 66 7 5,l 67 66,k 68 .eql 67 O,m 7 68]) (.seq (.seq (r 11 [n 8 O]) (.block 0 (.loop (.seq (.seq (r 12 [m 69 8,m 70 1,o 71 .lss 69 70]) (.cond (.t 71) .skip (.exit 0))) (.seq (.block 1 (.seq (.seq (R 14 [f 74 2 2,a [0] (l 75 74),m 76 8,a [1,2] (i 77 8 75 76),a [3] (f 78 0 77),a [4] (l 79 78),f 80 0 5,a [6] (l 81 80),a [5,7] (o 82 .eql 79 81)]) (.cond (.t 82) (.seq (r 15 [n 4 (.bool false)]) .ret) .skip)) (R 16 [m 83 7,a [0] (m 84 83),a [1] (g 84 false (f 85 2 2)),a [2,1] (g 84 false (l 86 85)),a [1] (g 84 false (m 87 8)),a [3,4,1] (g 84 false (i 88 8 86 87)),a [5,1] (g 84 false (f 89 0 88)),a [6,1] (g 84 false (l 90 89)),a [1] (g 84 false (f 91 7 5)),a [8,1] (g 84 false (l 92 91)),a [7,9,1] (g 84 false (o 93 .eql 90 92)),a [1,10] (u 94 84 93),a [11,1,0,1,2,3,4,5,6,7,8,9,10,11] (m 7 94)]))) (r 13 [m 72 8,k 73 .add 72 I,m 8 73])))))) (.seq (.seq (r 17 [m 95 1,k 96 .eql 95 O]) (.cond (.t 96) (.seq (r 18 [m 97 7,m 4 97]) .ret) .skip)) (.seq (r 19 [f 98 2 2,l 99 98,m 100 1,k 101 .sub 100 I,i 102 8 99 101,L 103 8 102,w 9 (.alloc [O,O,O,O,O,O,.bool false,O]),s 8 9 103]) (.seq (r 20 [m 104 7,m 105 104,g 105 true (f 106 1 9),g 105 true (l 107 106),g 105 true (f 108 1 5),g 105 true (l 109 108),g 105 true (o 110 .lss 107 109),g 105 true (m 111 110),g 111 false (f 112 1 9),g 111 false (l 113 112),g 111 false (f 114 1 5),g 111 false (l 115 114),g 111 false (o 116 .eql 113 115),g 111 false (m 117 116),g 117 true (f 118 0 9),g 117 true (l 119 118),g 117 true (f 120 0 5),g 117 true (l 121 120),g 117 true (o 122 .lss 119 121),g 111 false (v 123 117 122),g 105 true (u 124 111 123),v 125 105 124,m 4 125]) .ret)))))))))
def Z8u:List RRes:=[.t 4]
theorem Z8v:PCt Tryz.prog 108 Tryz.f108 Z8t Z8u:=pcT Tryz.func108 rfl (by kernel_rfl) (by kernel_rfl) (by kernel_rfl)
open Qq in
def Z8w:RCode :=
 .seq (r 0 [b 1 0,n 2 (.bool false)]) (.seq (.seq (r 1 [f 4 2 1,l 5 4,e 6 5,k 7 .gtr 6 (.int .i64 16)]) (.cond (.t 7) (.seq (r 2 [n 2 (.bool false)]) .ret) .skip)) (.seq (.seq (r 3 [n 3 O]) (.block 0 (.loop (.seq (.seq (r 4 [m 8 3,f 9 2 1,l 10 9,e 11 10,o 12 .lss 8 11]) (.cond (.t 12) .skip (.exit 0))) (.seq (.block 1 (.seq (r 6 [L 15 3 1,m 16 3,c 17 108 [15,16],t 18 17]) (.cond (.t 18) (.seq (r 7 [n 2 (.bool false)]) .ret) .skip))) (r 5 [m 13 3,k 14 .add 13 I,m 3 14])))))) (.seq (r 8 [n 2 (.bool true)]) .ret)))
def Z8x:List RRes:=[.t 2]
theorem Z8y:PCt Tryz.prog 83 Tryz.f83 Z8w Z8x:=pcT Tryz.func83 rfl (by kernel_rfl) (by kernel_rfl) (by kernel_rfl)
open Qq in
def Z8z:RCode :=
 .seq (r 0 [b 1 0,n 2 O]) (.seq (.seq (r 1 [f 4 0 1,L 5 2 4,c 6 82 [5],m 3 6]) (.seq (r 2 [m 7 3,k 8 .neq 7 O]) (.cond (.t 8) (.seq (r 3 [m 9 3,m 2 9]) .ret) .skip))) (.seq (.seq (r 4 [L 10 3 1,c 11 83 [10],t 12 11]) (.cond (.t 12) (.seq (r 5 [n 2 (.int .i64 50)]) .ret) .skip)) (.seq (r 6 [n 2 O]) .ret)))
def Z8A:List RRes:=[.t 2]
theorem Z8B:PCt Tryz.prog 50 Tryz.f50 Z8z Z8A:=pcT Tryz.func50 rfl (by kernel_rfl) (by kernel_rfl) (by kernel_rfl)
open Qq in
def Z8C:RCode :=
 .seq (r 0 [n 4 (.bool false)]) (.seq (.seq (r 1 [m 6 0,e 7 6,m 8 1,e 9 8,o 10 .neq 7 9]) (.cond (.t 10) (.seq (r 2 [n 4 (.bool false)]) .ret) .skip)) (.seq (.seq (r 3 [n 5 O]) (.block 0 (.loop (.seq (.seq (r 4 [m 11 5,m 12 0,e 13 12,o 14 .lss 11 13]) (.cond (.t 14) .skip (.exit 0))) (.seq (.block 1 (.seq (R 6 [m 17 0,m 18 5,a [0,1] (i 19 6 17 18),a [2] (L 20 6 19),m 21 1,m 22 5,a [4,5] (i 23 6 21 22),a [6] (L 24 6 23),a [3,7] (w 25 (.eqs true [.i,.i,.i,.i,.i,.b] (.t 20) (.t 24)))]) (.cond (.t 25) (.seq (r 7 [n 4 (.bool false)]) .ret) .skip))) (r 5 [m 15 5,k 16 .add 15 I,m 5 16])))))) (.seq (r 8 [n 4 (.bool true)]) .ret)))
def Z8D:List RRes:=[.t 4]
theorem Z8E:PCt Tryz.prog 25 Tryz.f25 Z8C Z8D:=pcT Tryz.func25 rfl (by kernel_rfl) (by kernel_rfl) (by kernel_rfl)
open Qq in
def Z8F:RCode :=
 .seq (r 0 [b 1 0,w 2 (.alloc [.nils,.nils,.nils])]) (.seq (R 1 [f 3 0 1,a [0] (L 4 2 3),a [1] (c 5 69 [4]),w 6 (.bsl true 8 0 [] []),f 7 2 1,a [4] (l 8 7),a [3,5,2] (w 9 (.app 8 64 (.t 6) (.t 8))),a [2,6] (w 10 (.build [.nils,.nils,.nils] [(0,2,.t 5),(2,1,.t 9)])),a [7,6,0,1,2,3,4,5,6,7] (s 3 2 10)]) .ret)
def Z8G:List RRes:=[.c 2 true 3]
open Qq in
def Z8H:RCode :=
 .seq (r 0 [b 1 0,n 2 (.bool false)]) (.seq (r 1 [f 3 0 1,L 4 2 3,c 5 81 [4],m 6 5,g 6 false (f 7 2 1),g 6 false (l 8 7),g 6 false (e 9 8),g 6 false (k 10 .gtr 9 (.int .i64 20)),u 11 6 10,m 2 11]) .ret)
def Z8I:List RRes:=[.t 2]
theorem Z8J:PCt Tryz.prog 49 Tryz.f49 Z8H Z8I:=pcT Tryz.func49 rfl (by kernel_rfl) (by kernel_rfl) (by kernel_rfl)
open Qq in
noncomputable def Z8K:RCode :=
 .seq (r 0 [b 1 0,n 2 .nilp,n 3 O]) (.scope (.seq (r 1 [L 16 1 1,w 17 (.build [.nils,.nils] [(0,1,.t 16)]),b 18 17,w 4 (.alloc [.nilp]),s 1 4 18]) (.seq (.seq (r 2 [f 19 0 1,l 20 19,e 21 20,w 22 (.bsl false 1 1 [O] [(0,.t 21)]),w 23 (.call 119 [.c I,.c (.int .i64 60),.t 22]),t 24 23]) (.cond (.t 24) (.seq (r 3 [n 2 .nilp,n 3 (.int .i64 20)]) .ret) .skip)) (.seq (.label 0) (.seq (.seq (r 4 [f 25 0 1,l 26 25,e 27 26,n 28 O]) (.block 0 (.loop (.seq (r 5 [o 29 .lss 28 27]) (.seq (.cond (.t 29) .skip (.exit 0)) (.seq (.block 1 (.seq (r 6 [m 30 28,i 31 5 26 28,L 32 5 31,w 6 (.alloc [O,O,.int .u8 0,.nils,.nils]),m 5 30,s 5 6 32]) (.seq (.seq (r 7 [w 33 (.load true 4 (.g 2)),n 34 O]) (.block 2 (.loop (.seq (r 8 [k 35 .lss 34 (.int .i64 4)]) (.seq (.cond (.t 35) .skip (.exit 2)) (.seq (.block 3 (.seq (r 9 [w 36 (.vop (.aidx true 4 1) [(.t 33),(.t 34)]),w 8 (.alloc [.nilf]),s 1 8 36]) (.seq (r 10 [f 37 0 8,l 38 37,L 39 5 6,w 40 (.callv (.t 38) [.t 39]),t 41 40]) (.cond (.t 41) (.seq (r 11 [n 2 .nilp,n 3 (.int .i64 20)]) .ret) .skip)))) (r 12 [k 42 .add 34 I,m 34 42]))))))) (.seq (.seq (r 13 [m 43 5,k 44 .gtr 43 O]) (.cond (.t 44) (.seq (r 14 [f 45 0 1,l 46 45,m 47 5,k 48 .sub 47 I,i 49 5 46 48,L 50 5 49,w 9 (.alloc [O,O,.int .u8 0,.nils,.nils]),s 5 9 50]) (.seq (r 15 [f 51 0 9,l 52 51,f 53 0 6,l 54 53,o 55 .eql 52 54]) (.cond (.t 55) (.seq (.seq (r 16 [f 56 1 9,l 57 56,k 58 .add 57 I,f 59 1 6,l 60 59,o 61 .neq 58 60,m 62 61,g 62 false (f 63 2 9),g 62 false (l 64 63),g 62 false (f 65 2 6),g 62 false (l 66 65),g 62 false (o 67 .neq 64 66),u 68 62 67]) (.cond (.t 68) (.seq (r 17 [n 2 .nilp,n 3 (.int .i64 20)]) .ret) .skip)) (.exit 1)) (.seq (r 18 [f 69 0 9,l 70 69,f 71 0 6,l 72 71,o 73 .gtr 70 72]) (.cond (.t 73) (.seq (r 19 [n 2 .nilp,n 3 (.int .i64 20)]) .ret) .skip))))) .skip)) (.seq (.seq (r 20 [f 74 1 6,l 75 74,k 76 .neq 75 I]) (.cond (.t 76) (.seq (r 21 [n 2 .nilp,n 3 (.int .i64 20)]) .ret) .skip)) (R 22 [l 77 4,l 78 4,a [1] (w 79 (.nilck (.t 78))),a [2] (f 80 1 79),a [3] (l 81 80),f 82 0 6,a [5] (l 83 82),a [6] (w 84 (.bsl false 1 1 [O] [(0,.t 83)])),a [4,7] (w 85 (.app 1 8 (.t 81) (.t 84))),a [0,0,1,2,3,4,5,6,7,8] (w 86 (.nilck (.t 77))),a [9,0,1,2,3,4,5,6,7,8] (f 87 1 86),a [10,8,8,0,1,2,3,4,5,6,7,8] (s 1 87 85)])))))) (r 23 [k 88 .add 28 I,m 28 88]))))))) (.seq (.seq (r 24 [l 89 4,w 90 (.nilck (.t 89)),f 91 1 90,l 92 91,e 93 92,k 94 .gtr 93 (.int .i64 20)]) (.cond (.t 94) (.seq (r 25 [n 2 .nilp,n 3 (.int .i64 20)]) .ret) .skip)) (.seq (.seq (r 26 [f 95 0 1,l 96 95,e 97 96,n 98 O]) (.block 4 (.loop (.seq (r 27 [o 99 .lss 98 97]) (.seq (.cond (.t 99) .skip (.exit 4)) (.seq (.block 5 (.seq (r 28 [i 100 5 96 98,L 101 5 100,w 11 (.alloc [O,O,.int .u8 0,.nils,.nils]),s 5 11 101]) (.seq (r 29 [f 102 3 11,l 103 102,w 104 (.mkf (.func 121) [] [.t 4]),c 105 120 [103,104]]) (.cond (.t 105) (.seq (r 30 [n 2 .nilp,n 3 (.int .i64 20)]) .ret) .skip)))) (r 31 [k 106 .add 98 I,m 98 106]))))))) (.seq (r 32 [l 108 4,c 109 123 [108],m 107 109,x 110 0 107,x 111 1 107,m 12 110,m 13 111]) (.seq (.seq (r 33 [m 112 13]) (.cond (.t 112) (.seq (r 34 [n 2 .nilp,n 3 (.int .i64 21)]) .ret) .skip)) (.seq (.raw (opnR Tryz.prog)) (.seq (r 40 [l 121 4,m 2 121,n 3 O]) .ret)))))))))))
def Z8L:List RRes:=[.t 2,.t 3]
theorem Z8M:PCt Tryz.prog 100 Tryz.f100 Z8K Z8L:=pcT Tryz.func100 rfl (by kernel_rfl) (by kernel_rfl) (by kernel_rfl)
open Qq in
def Z8N:RCode :=
 .seq (r 0 [b 3 0,b 4 1,n 6 (.bool false)]) (.seq (r 1 [m 7 2,w 8 (.mkf (.func 208) [] [.t 3,.t 4]),c 9 91 [7,8],t 10 9,m 6 10]) .ret)
def Z8O:List RRes:=[.t 6]
theorem Z8P:PCt Tryz.prog 207 Tryz.f207 Z8N Z8O:=pcT Tryz.func207 rfl (by kernel_rfl) (by kernel_rfl) (by kernel_rfl)
open Qq in
def Z8Q:RCode :=
 .seq (r 0 [n 4 (.bool false)]) (.seq (r 1 [m 5 0,l 6 1,o 7 .lss 5 6,m 8 7,g 8 false (m 9 0),g 8 false (l 10 2),g 8 false (o 11 .gtr 9 10),u 12 8 11,m 4 12]) .ret)
def Z8R:List RRes:=[.t 4]
theorem Z8S:PCt Tryz.prog 208 Tryz.f208 Z8Q Z8R:=pcT Tryz.func208 rfl (by kernel_rfl) (by kernel_rfl) (by kernel_rfl)
open Qq in
def Z8T:RCode :=
 .seq (r 0 [n 4 (.bool false)]) (.seq (r 1 [m 5 0,m 6 1,c 7 115 [5,6],k 8 .geq 7 O,m 4 8]) .ret)
def Z8U:List RRes:=[.t 4]
theorem Z8V:PCt Tryz.prog 91 Tryz.f91 Z8T Z8U:=pcT Tryz.func91 rfl (by kernel_rfl) (by kernel_rfl) (by kernel_rfl)
open Qq in
def Z8W:RCode :=
 .seq (r 0 [n 4 O]) (.seq (.seq (r 1 [m 6 0,e 7 6,n 8 O]) (.block 0 (.loop (.seq (r 2 [o 9 .lss 8 7]) (.seq (.cond (.t 9) .skip (.exit 0)) (.seq (.block 1 (.seq (r 3 [m 10 8,m 5 10]) (.seq (r 4 [m 11 1,m 12 0,m 13 5,i 14 1 12 13,l 15 14,w 16 (.callv (.t 11) [.t 15])]) (.cond (.t 16) (.seq (r 5 [m 17 5,m 4 17]) .ret) .skip)))) (r 6 [k 18 .add 8 I,m 8 18]))))))) (.seq (r 7 [n 4 (.int .i64 (-1))]) .ret))
def Z8X:List RRes:=[.t 4]
theorem Z8Y:PCt Tryz.prog 115 Tryz.f115 Z8W Z8X:=pcT Tryz.func115 rfl (by kernel_rfl) (by kernel_rfl) (by kernel_rfl)
open Qq in
def Z8Z:RCode :=
 .seq (r 0 [b 1 0,n 2 O]) (.seq (.seq (r 1 [f 3 0 1,l 4 3,f 5 1 1,l 6 5,f 7 2 1,l 8 7,w 9 (.bsl false 1 3 [O,O,O] [(0,.t 4),(1,.t 6),(2,.t 8)]),w 10 (.call 207 [.c O,.c (.int .i64 1000000000),.t 9]),t 11 10,m 12 11,g 12 false (f 13 1 1),g 12 false (l 14 13),g 12 false (f 15 2 1),g 12 false (l 16 15),g 12 false (o 17 .gtr 14 16),u 18 12 17]) (.cond (.t 18) (.seq (r 2 [n 2 (.int .i64 10)]) .ret) .skip)) (.seq (r 3 [n 2 O]) .ret))
def Z90:List RRes:=[.t 2]
theorem Z91:PCt Tryz.prog 205 Tryz.f205 Z8Z Z90:=pcT Tryz.func205 rfl (by kernel_rfl) (by kernel_rfl) (by kernel_rfl)
open Qq in
def Z92:RCode :=
 .seq (r 0 [b 3 0,b 4 1,n 6 (.bool false)]) (.seq (r 1 [m 7 2,w 8 (.mkf (.func 143) [] [.t 3,.t 4]),c 9 91 [7,8],t 10 9,m 6 10]) .ret)
def Z93:List RRes:=[.t 6]
theorem Z94:PCt Tryz.prog 119 Tryz.f119 Z92 Z93:=pcT Tryz.func119 rfl (by kernel_rfl) (by kernel_rfl) (by kernel_rfl)
open Qq in
def Z95:RCode :=
 .seq (r 0 [n 4 (.bool false)]) (.seq (r 1 [m 5 0,l 6 1,o 7 .lss 5 6,m 8 7,g 8 false (m 9 0),g 8 false (l 10 2),g 8 false (o 11 .gtr 9 10),u 12 8 11,m 4 12]) .ret)
def Z96:List RRes:=[.t 4]
theorem Z97:PCt Tryz.prog 143 Tryz.f143 Z95 Z96:=pcT Tryz.func143 rfl (by kernel_rfl) (by kernel_rfl) (by kernel_rfl)
open Qq in
def Z98:RCode :=
 .seq (r 0 [b 1 0,w 2 (.alloc [O,O])]) (.seq (r 1 [f 3 0 1,l 4 3,f 5 1 1,l 6 5,w 7 (.build [O,O] [(0,1,.t 4),(1,1,.t 6)]),s 2 2 7]) .ret)
def Z99:List RRes:=[.c 2 true 2]
theorem Z9a:PCt Tryz.prog 198 Tryz.f198 Z98 Z99:=pcT Tryz.func198 rfl (by kernel_rfl) (by kernel_rfl) (by kernel_rfl)
open Qq in
def Z9b:RCode :=
 .seq (r 0 [b 1 0,n 2 (.bool false)]) (.seq (r 1 [f 3 0 1,l 4 3,w 5 (.bsl false 1 1 [O] [(0,.t 4)]),w 6 (.call 119 [.c I,.c (.int .i64 9999),.t 5]),m 7 6,g 7 true (f 8 1 1),g 7 true (l 9 8),g 7 true (w 10 (.bsl false 1 1 [O] [(0,.t 9)])),g 7 true (w 11 (.call 119 [.c I,.c (.int .i64 8),.t 10])),v 12 7 11,m 2 12]) .ret)
def Z9c:List RRes:=[.t 2]
theorem Z9d:PCt Tryz.prog 199 Tryz.f199 Z9b Z9c:=pcT Tryz.func199 rfl (by kernel_rfl) (by kernel_rfl) (by kernel_rfl)
open Qq in
def Z9e:RCode :=
 .seq (r 0 [b 1 0,n 2 (.bool false)]) (.seq (.seq (r 1 [f 3 2 1,l 4 3,k 5 .eql 4 (.int .u8 1)]) (.cond (.t 5) (.seq (r 2 [f 6 3 1,l 7 6,e 8 7,w 9 (.bsl false 1 1 [O] [(0,.t 8)]),w 10 (.call 119 [.c I,.c (.int .i64 8),.t 9]),m 11 10,g 11 true (f 12 4 1),g 11 true (l 13 12),g 11 true (e 14 13),g 11 true (k 15 .eql 14 O),v 16 11 15,m 2 16]) .ret) .skip)) (.seq (r 3 [f 17 2 1,l 18 17,w 19 (.conv .i64 (.t 18)),w 20 (.bsl false 1 1 [O] [(0,.t 19)]),w 21 (.call 119 [.c (.int .i64 2),.c (.int .i64 3),.t 20]),m 22 21,g 22 true (f 23 4 1),g 22 true (l 24 23),g 22 true (e 25 24),g 22 true (k 26 .leq 25 (.int .i64 4)),v 27 22 26,m 28 27,g 28 true (f 29 3 1),g 28 true (l 30 29),g 28 true (e 31 30),g 28 true (k 32 .eql 31 O),v 33 28 32,m 2 33]) .ret))
def Z9f:List RRes:=[.t 2]
theorem Z9g:PCt Tryz.prog 200 Tryz.f200 Z9e Z9f:=pcT Tryz.func200 rfl (by kernel_rfl) (by kernel_rfl) (by kernel_rfl)
open Qq in
def Z9h:RCode :=
 .seq (r 0 [b 1 0,n 2 (.bool false)]) (.seq (.seq (r 1 [f 5 3 1,l 6 5,e 7 6,n 8 O]) (.block 0 (.loop (.seq (r 2 [o 9 .lss 8 7]) (.seq (.cond (.t 9) .skip (.exit 0)) (.seq (.block 1 (.seq (r 3 [m 10 8,i 11 2 6 8,L 12 2 11,w 4 (.alloc [O,O]),m 3 10,s 2 4 12]) (.seq (R 4 [f 13 0 4,a [0] (l 14 13),a [1] (w 15 (.bsl false 1 1 [O] [(0,.t 14)])),a [2] (w 16 (.call 119 [.c I,.c (.int .i64 9999),.t 15])),a [3] (t 17 16),a [4,3] (m 18 17),a [5] (g 18 false (f 19 1 4)),a [6,5] (g 18 false (l 20 19)),a [7,5] (g 18 false (w 21 (.bsl false 1 1 [O] [(0,.t 20)]))),a [8,5,5] (g 18 false (w 22 (.call 119 [.c I,.c (.int .i64 20),.t 21]))),a [9,5] (g 18 false (t 23 22)),a [5,10] (u 24 18 23),a [11,9] (m 25 24),a [12] (g 25 false (f 26 0 4)),a [13,12] (g 25 false (l 27 26)),a [12] (g 25 false (f 28 0 1)),a [15,12] (g 25 false (l 29 28)),a [14,16,12] (g 25 false (o 30 .eql 27 29)),a [12,17] (u 31 25 30),a [18,12] (m 32 31),a [19] (g 32 false (m 33 3)),a [20,19] (g 32 false (k 34 .gtr 33 O)),a [21,19,19] (g 32 false (m 35 34)),a [22] (g 35 true (f 36 3 1)),a [23,22] (g 35 true (l 37 36)),a [22] (g 35 true (m 38 3)),a [25,22] (g 35 true (k 39 .sub 38 I)),a [24,26,22] (g 35 true (i 40 2 37 39)),a [27,22] (g 35 true (f 41 0 40)),a [28,22] (g 35 true (l 42 41)),a [22] (g 35 true (f 43 0 4)),a [30,22] (g 35 true (l 44 43)),a [29,31,22] (g 35 true (o 45 .geq 42 44)),a [22,32,19] (g 32 false (v 46 35 45)),a [19,33] (u 47 32 46)]) (.cond (.t 47) (.seq (r 5 [n 2 (.bool false)]) .ret) .skip)))) (r 6 [k 48 .add 8 I,m 8 48]))))))) (.seq (r 7 [n 2 (.bool true)]) .ret))
def Z9i:List RRes:=[.t 2]
theorem Z9j:PCt Tryz.prog 201 Tryz.f201 Z9h Z9i:=pcT Tryz.func201 rfl (by kernel_rfl) (by kernel_rfl) (by kernel_rfl)
open Qq in
def Z9k:RCode :=
 .seq (r 0 [b 1 0,n 2 (.bool false)]) (.seq (r 1 [f 3 4 1,l 4 3,w 5 (.call 203 [.t 4,.c (.func (.func 204) [] [])]),t 6 5,m 2 6]) .ret)
def Z9l:List RRes:=[.t 2]
theorem Z9m:PCt Tryz.prog 202 Tryz.f202 Z9k Z9l:=pcT Tryz.func202 rfl (by kernel_rfl) (by kernel_rfl) (by kernel_rfl)
open Qq in
def Z9n:RCode :=
 .seq (r 0 [b 1 0,n 2 (.bool false)]) (.seq (r 1 [L 3 3 1,c 4 205 [3],k 5 .neq 4 O,m 2 5]) .ret)
def Z9o:List RRes:=[.t 2]
theorem Z9p:PCt Tryz.prog 204 Tryz.f204 Z9n Z9o:=pcT Tryz.func204 rfl (by kernel_rfl) (by kernel_rfl) (by kernel_rfl)
open Qq in
def Z9q:RCode :=
 .seq (r 0 [n 4 (.bool false)]) (.seq (r 1 [m 5 0,m 6 1,c 7 206 [5,6],k 8 .geq 7 O,m 4 8]) .ret)
def Z9r:List RRes:=[.t 4]
theorem Z9s:PCt Tryz.prog 203 Tryz.f203 Z9q Z9r:=pcT Tryz.func203 rfl (by kernel_rfl) (by kernel_rfl) (by kernel_rfl)
open Qq in
def Z9t:RCode :=
 .seq (r 0 [n 4 O]) (.seq (.seq (r 1 [m 6 0,e 7 6,n 8 O]) (.block 0 (.loop (.seq (r 2 [o 9 .lss 8 7]) (.seq (.cond (.t 9) .skip (.exit 0)) (.seq (.block 1 (.seq (r 3 [m 10 8,m 5 10]) (.seq (r 4 [m 11 1,m 12 0,m 13 5,i 14 3 12 13,L 15 3 14,w 16 (.callv (.t 11) [.t 15])]) (.cond (.t 16) (.seq (r 5 [m 17 5,m 4 17]) .ret) .skip)))) (r 6 [k 18 .add 8 I,m 8 18]))))))) (.seq (r 7 [n 4 (.int .i64 (-1))]) .ret))
def Z9u:List RRes:=[.t 4]
theorem Z9v:PCt Tryz.prog 206 Tryz.f206 Z9t Z9u:=pcT Tryz.func206 rfl (by kernel_rfl) (by kernel_rfl) (by kernel_rfl)
open Qq in
def Z9w:RCode :=
 .seq (r 0 [n 4 (.bool false)]) (.seq (r 1 [m 5 0,m 6 1,c 7 144 [5,6],k 8 .geq 7 O,m 4 8]) .ret)
def Z9x:List RRes:=[.t 4]
theorem Z9y:PCt Tryz.prog 120 Tryz.f120 Z9w Z9x:=pcT Tryz.func120 rfl (by kernel_rfl) (by kernel_rfl) (by kernel_rfl)
open Qq in
def Z9z:RCode :=
 .seq (r 0 [n 4 O]) (.seq (.seq (r 1 [m 6 0,e 7 6,n 8 O]) (.block 0 (.loop (.seq (r 2 [o 9 .lss 8 7]) (.seq (.cond (.t 9) .skip (.exit 0)) (.seq (.block 1 (.seq (r 3 [m 10 8,m 5 10]) (.seq (r 4 [m 11 1,m 12 0,m 13 5,i 14 2 12 13,L 15 2 14,w 16 (.callv (.t 11) [.t 15])]) (.cond (.t 16) (.seq (r 5 [m 17 5,m 4 17]) .ret) .skip)))) (r 6 [k 18 .add 8 I,m 8 18]))))))) (.seq (r 7 [n 4 (.int .i64 (-1))]) .ret))
def Z9A:List RRes:=[.t 4]
theorem Z9B:PCt Tryz.prog 144 Tryz.f144 Z9z Z9A:=pcT Tryz.func144 rfl (by kernel_rfl) (by kernel_rfl) (by kernel_rfl)
open Qq in
def Z9C:RCode :=
 .seq (r 0 [b 2 0,n 3 (.bool false)]) (.seq (r 1 [l 4 1,f 5 0 2,l 6 5,c 7 122 [4,6],t 8 7,m 3 8]) .ret)
def Z9D:List RRes:=[.t 3]
theorem Z9E:PCt Tryz.prog 121 Tryz.f121 Z9C Z9D:=pcT Tryz.func121 rfl (by kernel_rfl) (by kernel_rfl) (by kernel_rfl)
open Qq in
def Z9F:RCode :=
 .seq (r 0 [n 4 (.bool false)]) (.seq (r 1 [m 8 0,w 9 (.nilck (.t 8)),f 10 1 9,l 11 10,m 12 1,c 13 145 [11,12],m 7 13,x 14 0 7,x 15 1 7,m 5 14,m 6 15]) (.seq (r 2 [m 16 6,m 4 16]) .ret))
def Z9G:List RRes:=[.t 4]
theorem Z9H:PCt Tryz.prog 122 Tryz.f122 Z9F Z9G:=pcT Tryz.func122 rfl (by kernel_rfl) (by kernel_rfl) (by kernel_rfl)
open Qq in
def Z9I:RCode :=
 .seq (r 0 [n 4 O,n 5 (.bool false)]) (.seq (r 1 [m 10 0,e 11 10,m 6 11]) (.seq (r 2 [m 12 6,n 7 O,m 8 12]) (.seq (.block 0 (.loop (.seq (.seq (r 3 [m 13 7,m 14 8,o 15 .lss 13 14]) (.cond (.t 15) .skip (.exit 0))) (.block 1 (.seq (r 4 [m 16 7,m 17 8,o 18 .add 16 17,w 19 (.conv .u64 (.t 18)),w 20 (.vop (.sh false) [(.t 19),(.c (.int .u64 1))]),w 21 (.conv .i64 (.t 20)),m 9 21]) (.seq (r 5 [m 22 0,m 23 9,i 24 1 22 23,l 25 24,m 26 1,c 27 130 [25,26]]) (.cond (.t 27) (r 6 [m 28 9,k 29 .add 28 I,m 7 29]) (r 7 [m 30 9,m 8 30])))))))) (.seq (r 8 [m 31 7,m 32 7,m 33 6,o 34 .lss 32 33,m 35 34,g 35 true (m 36 0),g 35 true (m 37 7),g 35 true (i 38 1 36 37),g 35 true (l 39 38),g 35 true (m 40 1),g 35 true (o 41 .eql 39 40),g 35 true (m 42 41),g 42 false (m 43 0),g 42 false (m 44 7),g 42 false (i 45 1 43 44),g 42 false (l 46 45),g 42 false (c 47 157 [46]),g 42 false (m 48 47),g 48 true (m 49 1),g 48 true (c 50 157 [49]),g 42 false (v 51 48 50),g 35 true (u 52 42 51),v 53 35 52,m 4 31,m 5 53]) .ret))))
def Z9J:List RRes:=[.t 4,.t 5]
theorem Z9K:PCt Tryz.prog 145 Tryz.f145 Z9I Z9J:=pcT Tryz.func145 rfl (by kernel_rfl) (by kernel_rfl) (by kernel_rfl)
open Qq in
def Z9L:RCode :=
 .seq (r 0 [n 4 (.bool false)]) (.seq (r 1 [m 5 0,c 6 142 [5],m 7 6,g 7 true (m 8 1),g 7 true (c 9 142 [8]),g 7 true (t 10 9),v 11 7 10,m 12 11,g 12 false (m 13 0),g 12 false (m 14 1),g 12 false (o 15 .lss 13 14),u 16 12 15,m 4 16]) .ret)
def Z9M:List RRes:=[.t 4]
theorem Z9N:PCt Tryz.prog 130 Tryz.f130 Z9L Z9M:=pcT Tryz.func130 rfl (by kernel_rfl) (by kernel_rfl) (by kernel_rfl)
open Qq in
def Z9O:RCode :=
 .seq (r 0 [n 2 (.bool false)]) (.seq (r 1 [m 3 0,m 4 0,o 5 .neq 3 4,m 2 5]) .ret)
def Z9P:List RRes:=[.t 2]
theorem Z9Q:PCt Tryz.prog 142 Tryz.f142 Z9O Z9P:=pcT Tryz.func142 rfl (by kernel_rfl) (by kernel_rfl) (by kernel_rfl)
open Qq in
def Z9R:RCode :=
 .seq (r 0 [n 2 (.bool false)]) (.seq (r 1 [m 3 0,m 4 0,o 5 .neq 3 4,m 2 5]) .ret)
def Z9S:List RRes:=[.t 2]
theorem Z9T:PCt Tryz.prog 157 Tryz.f157 Z9R Z9S:=pcT Tryz.func157 rfl (by kernel_rfl) (by kernel_rfl) (by kernel_rfl)
open Qq in
def Z9U:RCode :=
 .seq (r 0 [n 4 O]) (.seq (r 1 [m 7 0,c 8 142 [7],m 5 8]) (.seq (r 2 [m 9 1,c 10 142 [9],m 6 10]) (.seq (.seq (r 3 [m 11 5]) (.cond (.t 11) (.seq (.seq (r 4 [m 12 6]) (.cond (.t 12) (.seq (r 5 [n 4 O]) .ret) .skip)) (.seq (r 6 [n 4 (.int .i64 (-1))]) .ret)) .skip)) (.seq (.seq (r 7 [m 13 6]) (.cond (.t 13) (.seq (r 8 [n 4 I]) .ret) .skip)) (.seq (.seq (r 9 [m 14 0,m 15 1,o 16 .lss 14 15]) (.cond (.t 16) (.seq (r 10 [n 4 (.int .i64 (-1))]) .ret) .skip)) (.seq (.seq (r 11 [m 17 0,m 18 1,o 19 .gtr 17 18]) (.cond (.t 19) (.seq (r 12 [n 4 I]) .ret) .skip)) (.seq (r 13 [n 4 O]) .ret)))))))
def Z9V:List RRes:=[.t 4]
theorem Z9W:PCt Tryz.prog 114 Tryz.f114 Z9U Z9V:=pcT Tryz.func114 rfl (by kernel_rfl) (by kernel_rfl) (by kernel_rfl)
open Qq in
def Z9X:RCode :=
 .seq (r 0 [n 6 O,n 7 (.bool false)]) (.seq (r 1 [m 12 0,e 13 12,m 8 13]) (.seq (r 2 [m 14 8,n 9 O,m 10 14]) (.seq (.block 0 (.loop (.seq (.seq (r 3 [m 15 9,m 16 10,o 17 .lss 15 16]) (.cond (.t 17) .skip (.exit 0))) (.block 1 (.seq (r 4 [m 18 9,m 19 10,o 20 .add 18 19,w 21 (.conv .u64 (.t 20)),w 22 (.vop (.sh false) [(.t 21),(.c (.int .u64 1))]),w 23 (.conv .i64 (.t 22)),m 11 23]) (.seq (r 5 [m 24 2,m 25 0,m 26 11,i 27 5 25 26,L 28 5 27,m 29 1,w 30 (.callv (.t 24) [.t 28,.t 29]),k 31 .lss 30 O]) (.cond (.t 31) (r 6 [m 32 11,k 33 .add 32 I,m 9 33]) (r 7 [m 34 11,m 10 34])))))))) (.seq (r 8 [m 35 9,m 36 9,m 37 8,o 38 .lss 36 37,m 39 38,g 39 true (m 40 2),g 39 true (m 41 0),g 39 true (m 42 9),g 39 true (i 43 5 41 42),g 39 true (L 44 5 43),g 39 true (m 45 1),g 39 true (w 46 (.callv (.t 40) [.t 44,.t 45])),g 39 true (k 47 .eql 46 O),v 48 39 47,m 6 35,m 7 48]) .ret))))
def Z9Y:List RRes:=[.t 6,.t 7]
theorem Z9Z:PCt Tryz.prog 159 Tryz.f159 Z9X Z9Y:=pcT Tryz.func159 rfl (by kernel_rfl) (by kernel_rfl) (by kernel_rfl)
open Qq in
def Za0:RCode :=
 .seq (r 0 [b 2 0,b 3 1,n 4 .nilf]) (.seq (r 1 [w 5 (.mkf (.func 158) [] [.t 2,.t 3]),m 4 5]) .ret)
def Za1:List RRes:=[.t 4]
theorem Za2:PCt Tryz.prog 146 Tryz.f146 Za0 Za1:=pcT Tryz.func146 rfl (by kernel_rfl) (by kernel_rfl) (by kernel_rfl)
open Qq in
def Za3:RCode :=
 .seq (r 0 [b 2 0,n 4 O]) (.seq (r 1 [f 5 0 2,l 6 5,m 7 1,c 8 114 [6,7],m 4 8]) .ret)
def Za4:List RRes:=[.t 4]
theorem Za5:PCt Tryz.prog 160 Tryz.f160 Za3 Za4:=pcT Tryz.func160 rfl (by kernel_rfl) (by kernel_rfl) (by kernel_rfl)
open Qq in
def Za6:RCode :=
 .seq (r 0 [b 3 1,w 4 (.alloc [O,O,.int .u8 0,.nils,.nils]),w 5 (.alloc [.bool false])]) (.seq (.seq (r 1 [m 7 0,f 8 0 3,l 9 8,c 10 146 [7,9]]) (.block 0 (.rngf (.t 10) [11] (r 2 [w 6 (.alloc [O,O,.int .u8 0,.nils,.nils]),s 5 6 11]) (.block 1 (.seq (R 3 [L 12 5 6,a [0] (c 13 198 [12]),L 14 2 3,a [1,2] (w 15 (.eqs false [.i,.i] (.t 13) (.t 14)))]) (.cond (.t 15) (.seq (r 4 [L 16 5 6,s 5 4 16,z (.store 1 (.t 5) (.c (.bool true)))]) .ret) .skip)))))) (.seq (r 5 [w 17 (.build [O,O,.int .u8 0,.nils,.nils] []),s 5 4 17,z (.store 1 (.t 5) (.c (.bool false)))]) .ret))
def Za7:List RRes:=[.c 4 true 5,.c 5 false 1]
theorem Za8:PCt Tryz.prog 196 Tryz.f196 Za6 Za7:=pcT Tryz.func196 rfl (by kernel_rfl) (by kernel_rfl) (by kernel_rfl)
open Qq in
def Za9:RCode :=
 .seq (r 0 [n 2 .nilm,n 3 (.bool false)]) (.seq (r 1 [w 15 (.mkmap),w 4 (.alloc [.nilm]),s 1 4 15]) (.seq (r 2 [w 16 (.mkmap),w 5 (.alloc [.nilm]),s 1 5 16]) (.seq (.seq (r 3 [m 17 0,w 18 (.nilck (.t 17)),f 19 1 18,l 20 19,e 21 20,n 22 O]) (.block 0 (.loop (.seq (r 4 [o 23 .lss 22 21]) (.seq (.cond (.t 23) .skip (.exit 0)) (.seq (.block 1 (.seq (r 5 [i 24 1 20 22,l 25 24,m 7 25]) (r 6 [l 26 5,m 27 7,z (.mupd (.i .i64) (.t 26) (.t 27) (.c (.bool true)))]))) (r 7 [k 28 .add 22 I,m 22 28]))))))) (.seq (.seq (r 8 [m 29 0,w 30 (.nilck (.t 29)),f 31 1 30,l 32 31,e 33 32,n 34 O]) (.block 2 (.loop (.seq (r 9 [o 35 .lss 34 33]) (.seq (.cond (.t 35) .skip (.exit 2)) (.seq (.block 3 (.seq (r 10 [m 36 0,w 37 (.nilck (.t 36)),f 38 1 37,l 39 38,e 40 39,n 41 O]) (.block 4 (.loop (.seq (r 11 [o 42 .lss 41 40]) (.seq (.cond (.t 42) .skip (.exit 4)) (.seq (.block 5 (.seq (r 12 [i 43 1 39 41,l 44 43,m 9 44]) (.seq (R 13 [l 45 5,m 46 9,a [0,1] (w 47 (.look (.i .i64) (.bool false) false (.t 45) (.t 46))),w 10 (.alloc [O]),w 11 (.alloc [.bool false]),a [3,3,4] (z (.store 1 (.t 10) (.c O))),a [4,2,5,0,1,2,3,4,5] (s 1 11 47)]) (.seq (.seq (r 14 [m 48 0,m 49 9,c 50 146 [48,49]]) (.block 6 (.rngf (.t 50) [51] (r 15 [w 12 (.alloc [O,O,.int .u8 0,.nils,.nils]),s 5 12 51]) (.block 7 (.seq (r 16 [f 52 3 12,l 53 52,e 54 53,n 55 O]) (.block 8 (.loop (.seq (r 17 [o 56 .lss 55 54]) (.seq (.cond (.t 56) .skip (.exit 8)) (.seq (.block 9 (.seq (r 18 [i 57 2 53 55,L 58 2 57,w 14 (.alloc [O,O]),s 2 14 58]) (.seq (r 19 [l 59 11,m 60 59,g 60 true (l 61 5),g 60 true (f 62 0 14),g 60 true (l 63 62),g 60 true (w 64 (.look (.i .i64) (.bool false) false (.t 61) (.t 63))),g 60 true (t 65 64),v 66 60 65,s 1 11 66]) (r 20 [l 67 10,l 68 4,f 69 0 14,l 70 69,w 71 (.look (.i .i64) O false (.t 68) (.t 70)),w 72 (.mx true (.t 67) [.t 71]),s 1 10 72])))) (r 21 [k 73 .add 55 I,m 55 73]))))))))))) (.seq (r 22 [l 74 11]) (.cond (.t 74) (.seq (r 23 [l 75 4,m 76 9,l 77 10,k 78 .add 77 I,z (.mupd (.i .i64) (.t 75) (.t 76) (.t 78))]) (r 24 [l 79 5,m 80 9,z (.mdel (.i .i64) (.t 79) (.t 80))])) .skip)))))) (r 25 [k 81 .add 41 I,m 41 81])))))))) (r 26 [k 82 .add 34 I,m 34 82]))))))) (.seq (r 27 [l 83 4,l 84 5,w 85 (.mlen (.t 84)),k 86 .gtr 85 O,m 2 83,m 3 86]) .ret)))))
def Zaa:List RRes:=[.t 2,.t 3]
theorem Zab:PCt Tryz.prog 123 Tryz.f123 Za9 Zaa:=pcT Tryz.func123 rfl (by kernel_rfl) (by kernel_rfl) (by kernel_rfl)
open Qq in
def Zac:RCode :=
 .seq (r 0 [b 1 0,w 2 (.alloc [O,O,.int .u8 0,.nils,.nils])]) (.seq (R 1 [f 3 3 1,a [0] (l 4 3),a [1] (w 5 (.calln 77 [.t 4])),f 6 4 1,a [3] (l 7 6),a [4,2] (w 8 (.calln 78 [.t 7])),a [0,1,2,3,4] (f 9 3 1),a [6,2,5,0,1,2,3,4] (s 1 9 5),a [0,1,2,3,4,5,6,7] (f 10 4 1),a [8,5,7,0,1,2,3,4,5,6,7] (s 1 10 8)]) (.seq (r 2 [L 11 5 1,s 5 2 11]) .ret))
def Zad:List RRes:=[.c 2 true 5]
theorem Zae:PCt Tryz.prog 197 Tryz.f197 Zac Zad:=pcT Tryz.func197 rfl (by kernel_rfl) (by kernel_rfl) (by kernel_rfl)
open Qq in
def Zaf:RCode :=
 .seq (r 0 [n 2 .nils]) (.seq (.seq (r 1 [m 3 0,w 4 (.vop (.eqn false) [(.t 3),(.c .nils)])]) (.cond (.t 4) (.seq (r 2 [n 2 .nils]) .ret) .skip)) (.seq (r 3 [w 5 (.bsl true 2 0 [] []),m 6 0,w 7 (.app 2 16 (.t 5) (.t 6)),m 2 7]) .ret))
def Zag:List RRes:=[.t 2]
open Qq in
def Zah:RCode :=
 .seq (r 0 [n 2 .nils]) (.seq (.seq (r 1 [m 3 0,w 4 (.vop (.eqn false) [(.t 3),(.c .nils)])]) (.cond (.t 4) (.seq (r 2 [n 2 .nils]) .ret) .skip)) (.seq (r 3 [w 5 (.bsl true 3 0 [] []),m 6 0,w 7 (.app 3 24 (.t 5) (.t 6)),m 2 7]) .ret))
def Zai:List RRes:=[.t 2]
open Qq in
def Zaj:RCode :=
 .seq (r 0 [b 1 0,n 2 .nils,n 3 O]) (.seq (r 1 [L 7 1 1,c 8 100 [7],m 6 8,x 9 0 6,x 10 1 6,m 4 9,m 5 10]) (.seq (.seq (r 2 [m 11 5,k 12 .neq 11 O]) (.cond (.t 12) (.seq (r 3 [m 13 5,n 2 .nils,m 3 13]) .ret) .skip)) (.seq (r 4 [m 14 4,w 15 (.nilck (.t 14)),f 16 1 15,l 17 16,m 2 17,n 3 O]) .ret)))
def Zak:List RRes:=[.t 2,.t 3]
theorem Zal:PCt Tryz.prog 70 Tryz.f70 Zaj Zak:=pcT Tryz.func70 rfl (by kernel_rfl) (by kernel_rfl) (by kernel_rfl)
open Qq in
def Zam:RCode :=
 .seq (r 0 [b 2 0,b 3 1,w 4 (.alloc [O,O,.int .u8 0,.nils,.nils]),n 5 O]) (.seq (r 1 [L 11 1 2,c 12 100 [11],m 10 12,x 13 0 10,x 14 1 10,m 6 13,m 7 14]) (.seq (.seq (r 2 [m 15 7,k 16 .neq 15 O]) (.cond (.t 16) (.seq (r 3 [w 17 (.build [O,O,.int .u8 0,.nils,.nils] []),m 18 7,s 5 4 17,m 5 18]) .ret) .skip)) (.seq (r 4 [m 20 6,L 21 2 3,c 22 196 [20,21],m 19 22,x 23 0 19,x 24 1 19,w 8 (.alloc [O,O,.int .u8 0,.nils,.nils]),s 5 8 23,m 9 24]) (.seq (.seq (r 5 [m 25 9,t 26 25]) (.cond (.t 26) (.seq (r 6 [w 27 (.build [O,O,.int .u8 0,.nils,.nils] []),s 5 4 27,n 5 (.int .i64 6)]) .ret) .skip)) (.seq (r 7 [L 28 5 8,c 29 197 [28],s 5 4 29,n 5 O]) .ret)))))
def Zan:List RRes:=[.c 4 true 5,.t 5]
theorem Zao:PCt Tryz.prog 188 Tryz.f188 Zam Zan:=pcT Tryz.func188 rfl (by kernel_rfl) (by kernel_rfl) (by kernel_rfl)
open Qq in
def Zap:RCode :=
 .seq (r 0 [n 6 (.bool false)]) (.seq (r 1 [m 7 0,m 8 1,o 9 .geq 7 8,m 10 9,g 10 true (m 11 0),g 10 true (m 12 2),g 10 true (o 13 .leq 11 12),v 14 10 13,m 6 14]) .ret)
def Zaq:List RRes:=[.t 6]
theorem Zar:PCt Tryz.prog 163 Tryz.f163 Zap Zaq:=pcT Tryz.func163 rfl (by kernel_rfl) (by kernel_rfl) (by kernel_rfl)
open Qq in
def Zas:RCode :=
 .seq (r 0 [b 1 0,n 2 (.bool false)]) (.seq (r 1 [f 3 0 1,l 4 3,w 5 (.call 163 [.t 4,.c O,.c (.int .i64 1000000000)]),m 6 5,g 6 true (f 7 2 1),g 6 true (l 8 7),g 6 true (w 9 (.call 163 [.t 8,.c O,.c (.int .i64 1000000000)])),v 10 6 9,m 11 10,g 11 true (f 12 1 1),g 11 true (l 13 12),g 11 true (f 14 2 1),g 11 true (l 15 14),g 11 true (w 16 (.call 163 [.t 13,.c O,.t 15])),v 17 11 16,m 2 17]) .ret)
def Zat:List RRes:=[.t 2]
theorem Zau:PCt Tryz.prog 162 Tryz.f162 Zas Zat:=pcT Tryz.func162 rfl (by kernel_rfl) (by kernel_rfl) (by kernel_rfl)
open Qq in
def Zav:RCode :=
 .seq (r 0 [n 6 (.bool false)]) (.seq (r 1 [m 7 0,m 8 1,o 9 .geq 7 8,m 10 9,g 10 true (m 11 0),g 10 true (m 12 2),g 10 true (o 13 .leq 11 12),v 14 10 13,m 6 14]) .ret)
def Zaw:List RRes:=[.t 6]
theorem Zax:PCt Tryz.prog 152 Tryz.f152 Zav Zaw:=pcT Tryz.func152 rfl (by kernel_rfl) (by kernel_rfl) (by kernel_rfl)
open Qq in
def Zay:RCode :=
 .seq (r 0 [b 1 0,n 2 (.bool false)]) (.seq (.seq (r 1 [f 6 0 1,l 7 6,w 8 (.call 152 [.t 7,.c I,.c (.int .i64 9999)]),t 9 8,m 10 9,g 10 false (f 11 1 1),g 10 false (l 12 11),g 10 false (w 13 (.call 152 [.t 12,.c I,.c (.int .i64 8)])),g 10 false (t 14 13),u 15 10 14,m 16 15,g 16 false (f 17 2 1),g 16 false (l 18 17),g 16 false (w 19 (.conv .i64 (.t 18))),g 16 false (w 20 (.call 152 [.t 19,.c I,.c (.int .i64 3)])),g 16 false (t 21 20),u 22 16 21,m 23 22,g 23 false (f 24 2 1),g 23 false (l 25 24),g 23 false (k 26 .eql 25 (.int .u8 1)),g 23 false (m 27 26),g 27 true (f 28 3 1),g 27 true (l 29 28),g 27 true (e 30 29),g 27 true (w 31 (.call 152 [.t 30,.c I,.c (.int .i64 8)])),g 27 true (t 32 31),g 27 true (m 33 32),g 33 false (f 34 4 1),g 33 false (l 35 34),g 33 false (e 36 35),g 33 false (k 37 .gtr 36 O),g 27 true (u 38 33 37),g 23 false (v 39 27 38),u 40 23 39,m 41 40,g 41 false (f 42 2 1),g 41 false (l 43 42),g 41 false (k 44 .gtr 43 (.int .u8 1)),g 41 false (m 45 44),g 45 true (f 46 4 1),g 45 true (l 47 46),g 45 true (e 48 47),g 45 true (k 49 .gtr 48 (.int .i64 4)),g 45 true (m 50 49),g 50 false (f 51 3 1),g 50 false (l 52 51),g 50 false (e 53 52),g 50 false (k 54 .gtr 53 O),g 45 true (u 55 50 54),g 41 false (v 56 45 55),u 57 41 56]) (.cond (.t 57) (.seq (r 2 [n 2 (.bool false)]) .ret) .skip)) (.seq (.seq (r 3 [n 3 O]) (.block 0 (.loop (.seq (.seq (r 4 [m 58 3,f 59 3 1,l 60 59,e 61 60,o 62 .lss 58 61]) (.cond (.t 62) .skip (.exit 0))) (.seq (.block 1 (.seq (r 6 [f 65 3 1,l 66 65,m 67 3,i 68 2 66 67,L 69 2 68,w 4 (.alloc [O,O]),s 2 4 69]) (.seq (R 7 [f 70 0 4,a [0] (l 71 70),a [1] (w 72 (.call 152 [.t 71,.c I,.c (.int .i64 9999)])),a [2] (t 73 72),a [3,2] (m 74 73),a [4] (g 74 false (f 75 1 4)),a [5,4] (g 74 false (l 76 75)),a [6,4,4] (g 74 false (w 77 (.call 152 [.t 76,.c I,.c (.int .i64 20)]))),a [7,4] (g 74 false (t 78 77)),a [4,8] (u 79 74 78),a [9,7] (m 80 79),a [10] (g 80 false (f 81 0 4)),a [11,10] (g 80 false (l 82 81)),a [10] (g 80 false (f 83 0 1)),a [13,10] (g 80 false (l 84 83)),a [12,14,10] (g 80 false (o 85 .eql 82 84)),a [10,15] (u 86 80 85),a [16,10] (m 87 86),a [17] (g 87 false (m 88 3)),a [18,17] (g 87 false (k 89 .gtr 88 O)),a [19,17,17] (g 87 false (m 90 89)),a [20] (g 90 true (f 91 3 1)),a [21,20] (g 90 true (l 92 91)),a [20] (g 90 true (m 93 3)),a [23,20] (g 90 true (k 94 .sub 93 I)),a [22,24,20] (g 90 true (i 95 2 92 94)),a [25,20] (g 90 true (f 96 0 95)),a [26,20] (g 90 true (l 97 96)),a [20] (g 90 true (f 98 0 4)),a [28,20] (g 90 true (l 99 98)),a [27,29,20] (g 90 true (o 100 .geq 97 99)),a [20,30,17] (g 87 false (v 101 90 100)),a [17,31] (u 102 87 101)]) (.cond (.t 102) (.seq (r 8 [n 2 (.bool false)]) .ret) .skip)))) (r 5 [m 63 3,k 64 .add 63 I,m 3 64])))))) (.seq (.seq (r 9 [n 5 O]) (.block 2 (.loop (.seq (.seq (r 10 [m 103 5,f 104 4 1,l 105 104,e 106 105,o 107 .lss 103 106]) (.cond (.t 107) .skip (.exit 2))) (.seq (.block 3 (.seq (r 12 [f 110 4 1,l 111 110,m 112 5,i 113 3 111 112,L 114 3 113,c 115 162 [114],t 116 115]) (.cond (.t 116) (.seq (r 13 [n 2 (.bool false)]) .ret) .skip))) (r 11 [m 108 5,k 109 .add 108 I,m 5 109])))))) (.seq (r 14 [n 2 (.bool true)]) .ret))))
def Zaz:List RRes:=[.t 2]
theorem ZaA:PCt Tryz.prog 153 Tryz.f153 Zay Zaz:=pcT Tryz.func153 rfl (by kernel_rfl) (by kernel_rfl) (by kernel_rfl)
open Qq in
def ZaB:RCode :=
 .seq (r 0 [b 1 0,n 2 .nils]) (.seq (r 1 [n 3 .nils]) (.seq (.seq (r 2 [n 4 O]) (.block 0 (.loop (.seq (.seq (r 3 [m 6 4,f 7 0 1,l 8 7,e 9 8,o 10 .lss 6 9]) (.cond (.t 10) .skip (.exit 0))) (.seq (.block 1 (.seq (r 5 [f 13 0 1,l 14 13,m 15 4,i 16 5 14 15,f 17 0 16,l 18 17,m 5 18]) (.seq (r 6 [m 19 4,k 20 .eql 19 O,m 21 20,g 21 false (f 22 0 1),g 21 false (l 23 22),g 21 false (m 24 4),g 21 false (k 25 .sub 24 I),g 21 false (i 26 5 23 25),g 21 false (f 27 0 26),g 21 false (l 28 27),g 21 false (m 29 5),g 21 false (o 30 .neq 28 29),u 31 21 30]) (.cond (.t 31) (r 7 [m 32 3,m 33 5,w 34 (.bsl false 1 1 [O] [(0,.t 33)]),w 35 (.app 1 8 (.t 32) (.t 34)),m 3 35]) .skip)))) (r 4 [m 11 4,k 12 .add 11 I,m 4 12])))))) (.seq (r 8 [m 36 3,m 2 36]) .ret)))
def ZaC:List RRes:=[.t 2]
theorem ZaD:PCt Tryz.prog 39 Tryz.f39 ZaB ZaC:=pcT Tryz.func39 rfl (by kernel_rfl) (by kernel_rfl) (by kernel_rfl)
open Qq in
def ZaE:RCode :=
 .seq (r 0 [n 4 O]) (.seq (.seq (r 1 [n 5 O]) (.block 0 (.loop (.seq (.seq (r 2 [m 6 5,m 7 0,e 8 7,o 9 .lss 6 8]) (.cond (.t 9) .skip (.exit 0))) (.seq (.block 1 (.seq (r 4 [m 12 0,m 13 5,i 14 1 12 13,l 15 14,m 16 1,o 17 .eql 15 16]) (.cond (.t 17) (.seq (r 5 [m 18 5,m 4 18]) .ret) .skip))) (r 3 [m 10 5,k 11 .add 10 I,m 5 11])))))) (.seq (r 6 [n 4 (.int .i64 (-1))]) .ret))
def ZaF:List RRes:=[.t 4]
theorem ZaG:PCt Tryz.prog 154 Tryz.f154 ZaE ZaF:=pcT Tryz.func154 rfl (by kernel_rfl) (by kernel_rfl) (by kernel_rfl)
open Qq in
def ZaH:RCode :=
 .seq (r 0 [b 1 0,n 2 (.bool false)]) (.seq (.seq (r 1 [f 9 0 1,l 10 9,e 11 10,w 12 (.call 152 [.t 11,.c I,.c (.int .i64 60)]),t 13 12]) (.cond (.t 13) (.seq (r 2 [n 2 (.bool false)]) .ret) .skip)) (.seq (.seq (r 3 [n 3 O]) (.block 0 (.loop (.seq (.seq (r 4 [m 14 3,f 15 0 1,l 16 15,e 17 16,o 18 .lss 14 17]) (.cond (.t 18) .skip (.exit 0))) (.seq (.block 1 (.seq (r 6 [f 21 0 1,l 22 21,m 23 3,i 24 5 22 23,L 25 5 24,w 4 (.alloc [O,O,.int .u8 0,.nils,.nils]),s 5 4 25]) (.seq (.seq (r 7 [L 26 5 4,c 27 153 [26],t 28 27]) (.cond (.t 28) (.seq (r 8 [n 2 (.bool false)]) .ret) .skip)) (.seq (r 9 [w 29 (.build [O,O,.int .u8 0,.nils,.nils] []),w 5 (.alloc [O,O,.int .u8 0,.nils,.nils]),s 5 5 29]) (.seq (.seq (r 10 [m 30 3,k 31 .gtr 30 O]) (.cond (.t 31) (r 11 [f 32 0 1,l 33 32,m 34 3,k 35 .sub 34 I,i 36 5 33 35,L 37 5 36,s 5 5 37]) .skip)) (.block 2 (.seq (r 12 [f 39 0 4,l 40 39,f 41 0 5,l 42 41,o 43 .lss 40 42,m 38 43]) (.cond (.t 38) (.seq (r 13 [n 2 (.bool false)]) .ret) (.seq (r 14 [f 45 0 4,l 46 45,f 47 0 5,l 48 47,o 49 .gtr 46 48,m 44 49]) (.cond (.t 44) (.seq (r 15 [f 50 1 4,l 51 50,k 52 .neq 51 I]) (.cond (.t 52) (.seq (r 16 [n 2 (.bool false)]) .ret) .skip)) (.seq (r 17 [f 54 1 4,l 55 54,f 56 1 5,l 57 56,k 58 .add 57 I,o 59 .neq 55 58,m 60 59,g 60 false (f 61 2 4),g 60 false (l 62 61),g 60 false (f 63 2 5),g 60 false (l 64 63),g 60 false (o 65 .neq 62 64),u 66 60 65,m 53 66]) (.cond (.t 53) (.seq (r 18 [n 2 (.bool false)]) .ret) .skip)))))))))))) (r 5 [m 19 3,k 20 .add 19 I,m 3 20])))))) (.seq (r 19 [L 67 1 1,c 68 39 [67],m 6 68]) (.seq (.seq (r 20 [n 7 O]) (.block 3 (.loop (.seq (.seq (r 21 [m 69 7,f 70 0 1,l 71 70,e 72 71,o 73 .lss 69 72]) (.cond (.t 73) .skip (.exit 3))) (.seq (.block 4 (.seq (r 23 [n 8 O]) (.block 5 (.loop (.seq (.seq (r 24 [m 76 8,f 77 0 1,l 78 77,m 79 7,i 80 5 78 79,f 81 3 80,l 82 81,e 83 82,o 84 .lss 76 83]) (.cond (.t 84) .skip (.exit 5))) (.seq (.block 6 (.seq (r 26 [m 87 6,f 88 0 1,l 89 88,m 90 7,i 91 5 89 90,f 92 3 91,l 93 92,m 94 8,i 95 2 93 94,f 96 0 95,l 97 96,c 98 154 [87,97],k 99 .lss 98 O]) (.cond (.t 99) (.seq (r 27 [n 2 (.bool false)]) .ret) .skip))) (r 25 [m 85 8,k 86 .add 85 I,m 8 86]))))))) (r 22 [m 74 7,k 75 .add 74 I,m 7 75])))))) (.seq (r 28 [m 100 6,e 101 100,k 102 .leq 101 (.int .i64 20),m 2 102]) .ret)))))
def ZaI:List RRes:=[.t 2]
theorem ZaJ:PCt Tryz.prog 135 Tryz.f135 ZaH ZaI:=pcT Tryz.func135 rfl (by kernel_rfl) (by kernel_rfl) (by kernel_rfl)
open Qq in
def ZaK:RCode :=
 .seq (r 0 [b 1 0,n 2 .nils]) (.seq (r 1 [L 11 1 1,c 12 39 [11],m 3 12]) (.seq (r 2 [m 13 3,e 14 13,w 15 (.mksl 1 8 [O] (.t 14)),m 4 15]) (.seq (.seq (r 3 [n 5 O]) (.block 0 (.loop (.seq (.seq (r 4 [m 16 5,m 17 3,e 18 17,o 19 .leq 16 18]) (.cond (.t 19) .skip (.exit 0))) (.seq (.block 1 (.seq (r 6 [m 22 3,e 23 22,w 24 (.mksl 1 8 [O] (.t 23)),m 6 24]) (.seq (.seq (r 7 [n 7 O]) (.block 2 (.loop (.seq (.seq (r 8 [m 25 7,f 26 0 1,l 27 26,e 28 27,o 29 .lss 25 28]) (.cond (.t 29) .skip (.exit 2))) (.seq (.block 3 (.seq (r 10 [f 32 0 1,l 33 32,m 34 7,i 35 5 33 34,L 36 5 35,w 8 (.alloc [O,O,.int .u8 0,.nils,.nils]),s 5 8 36]) (.seq (r 11 [m 37 3,f 38 0 8,l 39 38,c 40 154 [37,39],m 9 40]) (.seq (r 12 [m 41 6,m 42 9,m 43 6,m 44 9,i 45 1 43 44,l 46 45,w 47 (.mx true (.t 46) [.c I]),i 48 1 41 42,s 1 48 47]) (.seq (r 13 [n 10 O]) (.block 4 (.loop (.seq (.seq (r 14 [m 49 10,f 50 3 8,l 51 50,e 52 51,o 53 .lss 49 52]) (.cond (.t 53) .skip (.exit 4))) (.seq (.block 5 (R 16 [m 56 6,m 57 9,m 58 6,m 59 9,a [2,3] (i 60 1 58 59),a [4] (l 61 60),m 62 4,m 63 3,f 64 3 8,a [8] (l 65 64),m 66 10,a [9,10] (i 67 2 65 66),a [11] (f 68 0 67),a [12] (l 69 68),a [7,13] (c 70 154 [63,69]),a [6,14] (i 71 1 62 70),a [15] (l 72 71),a [16] (w 73 (.bin .add (.c I) (.t 72))),a [5,17] (w 74 (.mx true (.t 61) [.t 73])),a [0,1,0,1,2,3,4,5,6,7,8,9,10,11,12,13,14,15,16,17,18] (i 75 1 56 57),a [19,18,14,0,1,2,3,4,5,6,7,8,9,10,11,12,13,14,15,16,17,18] (s 1 75 74)])) (r 15 [m 54 10,k 55 .add 54 I,m 10 55])))))))))) (r 9 [m 30 7,k 31 .add 30 I,m 7 31])))))) (r 17 [m 76 6,m 4 76])))) (r 5 [m 20 5,k 21 .add 20 I,m 5 21])))))) (.seq (r 18 [m 77 4,m 2 77]) .ret))))
def ZaL:List RRes:=[.t 2]
theorem ZaM:PCt Tryz.prog 136 Tryz.f136 ZaK ZaL:=pcT Tryz.func136 rfl (by kernel_rfl) (by kernel_rfl) (by kernel_rfl)
open Qq in
def ZaN:RCode :=
 .seq (r 0 [b 1 0,n 2 O]) (.seq (.seq (r 1 [L 6 1 1,c 7 135 [6],t 8 7]) (.cond (.t 8) (.seq (r 2 [n 2 (.int .i64 20)]) .ret) .skip)) (.seq (r 3 [L 9 1 1,c 10 136 [9],m 3 10]) (.seq (r 4 [n 4 O]) (.seq (.seq (r 5 [n 5 O]) (.block 0 (.loop (.seq (.seq (r 6 [m 11 5,m 12 3,e 13 12,o 14 .lss 11 13]) (.cond (.t 14) .skip (.exit 0))) (.seq (.block 1 (r 8 [m 17 4,m 18 3,m 19 5,i 20 1 18 19,l 21 20,w 22 (.mx true (.t 17) [.t 21]),m 4 22])) (r 7 [m 15 5,k 16 .add 15 I,m 5 16])))))) (.seq (.block 2 (.seq (r 9 [m 24 4,m 25 3,e 26 25,o 27 .gtr 24 26,m 23 27]) (.cond (.t 23) (.seq (r 10 [n 2 (.int .i64 21)]) .ret) (.seq (r 11 [m 29 4,k 30 .gtr 29 (.int .i64 6),m 28 30]) (.cond (.t 28) (.seq (r 12 [n 2 (.int .i64 20)]) .ret) .skip))))) (.seq (r 13 [n 2 O]) .ret))))))
def ZaO:List RRes:=[.t 2]
theorem ZaP:PCt Tryz.prog 106 Tryz.f106 ZaN ZaO:=pcT Tryz.func106 rfl (by kernel_rfl) (by kernel_rfl) (by kernel_rfl)
open Qq in
def ZaQ:RCode :=
 .seq (r 0 [b 2 0,b 3 1,w 4 (.alloc [O,O,.int .u8 0,.nils,.nils]),n 5 (.bool false)]) (.seq (.seq (r 1 [n 6 O]) (.block 0 (.loop (.seq (.seq (r 2 [m 8 6,f 9 0 2,l 10 9,e 11 10,o 12 .lss 8 11]) (.cond (.t 12) .skip (.exit 0))) (.seq (.block 1 (.seq (r 4 [f 15 0 2,l 16 15,m 17 6,i 18 5 16 17,L 19 5 18,w 7 (.alloc [O,O,.int .u8 0,.nils,.nils]),s 5 7 19]) (.seq (r 5 [f 20 0 7,l 21 20,f 22 0 3,l 23 22,o 24 .eql 21 23,m 25 24,g 25 true (f 26 1 7),g 25 true (l 27 26),g 25 true (f 28 1 3),g 25 true (l 29 28),g 25 true (o 30 .eql 27 29),v 31 25 30]) (.cond (.t 31) (.seq (r 6 [L 32 5 7,s 5 4 32,n 5 (.bool true)]) .ret) .skip)))) (r 3 [m 13 6,k 14 .add 13 I,m 6 14])))))) (.seq (r 7 [w 33 (.build [O,O,.int .u8 0,.nils,.nils] []),s 5 4 33,n 5 (.bool false)]) .ret))
def ZaR:List RRes:=[.c 4 true 5,.t 5]
theorem ZaS:PCt Tryz.prog 156 Tryz.f156 ZaQ ZaR:=pcT Tryz.func156 rfl (by kernel_rfl) (by kernel_rfl) (by kernel_rfl)
open Qq in
def ZaT:RCode :=
 .seq (r 0 [n 4 (.bool false)]) (.seq (.seq (r 1 [m 6 0,e 7 6,m 8 1,e 9 8,o 10 .neq 7 9]) (.cond (.t 10) (.seq (r 2 [n 4 (.bool false)]) .ret) .skip)) (.seq (.seq (r 3 [n 5 O]) (.block 0 (.loop (.seq (.seq (r 4 [m 11 5,m 12 0,e 13 12,o 14 .lss 11 13]) (.cond (.t 14) .skip (.exit 0))) (.seq (.block 1 (.seq (R 6 [m 17 0,m 18 5,a [0,1] (i 19 1 17 18),a [2] (l 20 19),m 21 1,m 22 5,a [4,5] (i 23 1 21 22),a [6] (l 24 23),a [3,7] (o 25 .neq 20 24)]) (.cond (.t 25) (.seq (r 7 [n 4 (.bool false)]) .ret) .skip))) (r 5 [m 15 5,k 16 .add 15 I,m 5 16])))))) (.seq (r 8 [n 4 (.bool true)]) .ret)))
def ZaU:List RRes:=[.t 4]
theorem ZaV:PCt Tryz.prog 42 Tryz.f42 ZaT ZaU:=pcT Tryz.func42 rfl (by kernel_rfl) (by kernel_rfl) (by kernel_rfl)
open Qq in
def ZaW:RCode :=
 .seq (r 0 [b 1 0,w 2 (.alloc [O,O,.int .u8 0,.nils,.nils])]) (.seq (R 1 [w 3 (.bsl true 2 0 [] []),f 4 3 1,a [1] (l 5 4),a [0,2] (w 6 (.app 2 16 (.t 3) (.t 5))),w 7 (.bsl true 3 0 [] []),f 8 4 1,a [5] (l 9 8),a [4,6,3] (w 10 (.app 3 24 (.t 7) (.t 9))),a [0,1,2,3,5,6] (f 11 3 1),a [8,3,7,0,1,2,3,5,6] (s 1 11 6),a [0,1,2,3,4,5,6,7,8,9] (f 12 4 1),a [10,7,9,0,1,2,3,4,5,6,7,8,9] (s 1 12 10)]) (.seq (r 2 [L 13 5 1,s 5 2 13]) .ret))
def ZaX:List RRes:=[.c 2 true 5]
theorem ZaY:PCt Tryz.prog 118 Tryz.f118 ZaW ZaX:=pcT Tryz.func118 rfl (by kernel_rfl) (by kernel_rfl) (by kernel_rfl)
open Qq in
def ZaZ:RCode :=
 .seq (r 0 [b 1 0,w 2 (.alloc [.nils])]) (.seq (r 1 [w 3 (.alloc [.nils])]) (.seq (.seq (r 2 [n 4 O]) (.block 0 (.loop (.seq (.seq (r 3 [m 5 4,f 6 0 1,l 7 6,e 8 7,o 9 .lss 5 8]) (.cond (.t 9) .skip (.exit 0))) (.seq (.block 1 (R 5 [f 12 0 3,a [0] (l 13 12),f 14 0 1,a [2] (l 15 14),m 16 4,a [3,4] (i 17 5 15 16),a [5] (L 18 5 17),a [6] (c 19 118 [18]),a [7] (w 20 (.bsl false 5 1 [O,O,.int .u8 0,.nils,.nils] [(0,.t 19)])),a [1,8,7] (w 21 (.app 5 72 (.t 13) (.t 20))),a [0,1,2,3,4,5,6,7,8,9] (f 22 0 3),a [10,9,9,0,1,2,3,4,5,6,7,8,9] (s 1 22 21)])) (r 4 [m 10 4,k 11 .add 10 I,m 4 11])))))) (.seq (r 6 [L 23 1 3,s 1 2 23]) .ret)))
def Zb0:List RRes:=[.c 2 true 1]
theorem Zb1:PCt Tryz.prog 99 Tryz.f99 ZaZ Zb0:=pcT Tryz.func99 rfl (by kernel_rfl) (by kernel_rfl) (by kernel_rfl)
open Qq in
def Zb2:RCode :=
 .seq (r 0 [b 1 0,n 2 (.bool false)]) (.seq (.seq (r 1 [f 4 0 1,l 5 4,e 6 5,k 7 .gtr 6 (.int .i64 80)]) (.cond (.t 7) (.seq (r 2 [n 2 (.bool true)]) .ret) .skip)) (.seq (.seq (r 3 [n 3 O]) (.block 0 (.loop (.seq (.seq (r 4 [m 8 3,f 9 0 1,l 10 9,e 11 10,o 12 .lss 8 11]) (.cond (.t 12) .skip (.exit 0))) (.seq (.block 1 (.seq (r 6 [f 15 0 1,l 16 15,m 17 3,i 18 5 16 17,f 19 3 18,l 20 19,e 21 20,k 22 .gtr 21 (.int .i64 16),m 23 22,g 23 false (f 24 0 1),g 23 false (l 25 24),g 23 false (m 26 3),g 23 false (i 27 5 25 26),g 23 false (f 28 4 27),g 23 false (l 29 28),g 23 false (e 30 29),g 23 false (k 31 .gtr 30 (.int .i64 8)),u 32 23 31]) (.cond (.t 32) (.seq (r 7 [n 2 (.bool true)]) .ret) .skip))) (r 5 [m 13 3,k 14 .add 13 I,m 3 14])))))) (.seq (r 8 [n 2 (.bool false)]) .ret)))
def Zb3:List RRes:=[.t 2]
theorem Zb4:PCt Tryz.prog 105 Tryz.f105 Zb2 Zb3:=pcT Tryz.func105 rfl (by kernel_rfl) (by kernel_rfl) (by kernel_rfl)
theorem Yb:Tryz.prog.follows .mixedOrders=true:=by kernel_rfl
theorem Qga {R:Run} {c:RCode} {F:Exit->St->Prop} {st:St} (h:GO Tryz.prog R 1000 (.run c) [] F st):AR Tryz.prog R c st F:=Yc Yb 1000 h
theorem Qgr {R:Run} {e:Exit} {ks:List KF} {F:Exit->St->Prop} {st:St} (h:GO Tryz.prog R 1000 (.out e) ks F st):RetP Tryz.prog R ks F e st:=Z2M Yb 1000 h
def inR (n lo hi:Int):Bool:=decide (lo<=n/\n<=hi)
theorem Yg {n:Int} (h0:-9223372036854775808<=n) (h1:n<=9223372036854775807):IntKind.i64.wrap n=n:=IntWalk.i64_in _ ⟨h0,h1⟩
def RndF (S:Nat->St) (I:Nat->Prop) (i:Nat) (Φ:Exit->St->Prop):Exit->St->Prop
 |.normal,st=>Yn st (S (i+1))/\I (i+1)
 |e,st=>Φ e st
def RndE (Φ:Exit->St->Prop):Exit->St->Prop
 |.normal,_=>False
 |e,st=>Φ e st
section
variable {P:Program} {R:Run} {st:St} {Φ:Exit->St->Prop} {S:Nat->St} {I:Nat->Prop} {i:Nat}
theorem Zb5:RndF S I i Φ .normal st=(Yn st (S (i+1))/\I (i+1)):=rfl
theorem Zb6:RndF S I i Φ .ret st=Φ .ret st:=rfl
theorem Zb7 {j:Nat}:RndF S I i Φ (.exit j) st=Φ (.exit j) st:=rfl
theorem Zb8:RndE Φ .ret st=Φ .ret st:=rfl
theorem Zb9 {j:Nat}:RndE Φ (.exit j) st=Φ (.exit j) st:=rfl
attribute [simp] Zb5 Zb6 Zb7 Zb8 Zb9
theorem Zba {c:RCode} (S:Nat->St) (I:Nat->Prop) (N:Nat) (h0:Yn st (S 0)) (hi:I 0) (hr:∀ i,i<N->I i->AR P R c (S i) (RndF S I i Φ)) (he:I N->AR P R c (S N) (RndE Φ)):AR P R (.loop c) st Φ:=by
 refine Z1Q S (λi=>i<=N/\I i) (λi=>N-i) 0 h0 ⟨Nat.zero_le _,hi⟩ ?_;rintro i ⟨h1,h2⟩;by_cases h3:i<N
 . refine Z2D (hr i h3 h2) λe s hs=>?_
   cases e with
   |normal=>exact ⟨i+1,hs.1,⟨by omega,hs.2⟩,by show N-(i+1)<N-i;omega⟩
   |_=>exact hs
 . obtain rfl:i=N:=(by omega);refine Z2D (he h2) λe s hs=>?_
   cases e with
   |normal=>exact hs.elim
   |_=>exact hs
end
structure Iss where
 d:Int
 l:Int
 k:Int
 its:List (Int×Int)
 dms:List Dm
 deriving DecidableEq,Inhabited
def ia (n:Int):List AV:=[.int .i64 n]
def ita (p:Int×Int):List AV:=[.int .i64 p.1,.int .i64 p.2]
def dma (d:Dm):List AV:=[.int .i64 d.n,.int .i64 d.l,.int .i64 d.u]
def isa (x:Iss):List AV:=[.int .i64 x.d,.int .i64 x.l,.int .u8 x.k,.vsl (x.its.map ita),.vsl (x.dms.map dma)]
def rega (r:List Iss):AV:=.agg [.vsl (r.map isa)]
def Sml {α:Type} (l:List α):Prop:=l.length<=16777216
section
variable {G:Nat->Option (List AV)}
theorem Zbb (n lo hi:Int):PC Tryz.prog G 163 [.int .i64 n,.int .i64 lo,.int .i64 hi] (.bool (inR n lo hi)):=by
 (refine Zar rfl λR hG hrd=>Yc Yb 1000 ?_;subst hG)
 by_cases h1:lo<=n <;> simp -implicitDefEqProofs[Zap,Zaq,h1,inR]
theorem Zbc (n l u:Int):PC Tryz.prog G 162 [.agg [.int .i64 n,.int .i64 l,.int .i64 u]] (.bool (vd ⟨n,l,u⟩)):=by
 (refine Zau rfl λR hG hrd=>Yc Yb 1000 ?_;subst hG)
 have e:vd ⟨n,l,u⟩=(inR n 0 1000000000&&(inR u 0 1000000000&&inR l 0 u)):=by
  unfold vd inR;rw[<- Bool.decide_and,<- Bool.decide_and];exact decide_eq_decide.2 (by simp only;omega)
 simp -implicitDefEqProofs[Zas,Zat,e];refine Qco (Zbb _ _ _) (by simp) ?_
 cases h1:inR n 0 1000000000
 . simp -implicitDefEqProofs
 . simp -implicitDefEqProofs;refine Qco (Zbb _ _ _) (by simp) ?_
   cases h2:inR u 0 1000000000
   . simp -implicitDefEqProofs
   . simp -implicitDefEqProofs;refine Qco (Zbb _ _ _) (by simp) ?_;simp -implicitDefEqProofs
theorem Zbd (n lo hi:Int):PC Tryz.prog G 152 [.int .i64 n,.int .i64 lo,.int .i64 hi] (.bool (inR n lo hi)):=by
 (refine Zax rfl λR hG hrd=>Yc Yb 1000 ?_;subst hG)
 by_cases h1:lo<=n <;> simp -implicitDefEqProofs[Zav,Zaw,h1,inR]
def idx (l:List Int) (n:Int):Int:=if n∈l then (l.idxOf n:Int) else -1
theorem Zbe {l:List Int} {n:Int} {i:Nat} (hi:i<l.length) (he:l[i]=n) (hb:∀ j (h:j<i),l[j]≠n):idx l n=i:=by
 have hm:n∈l:=(by rw[<- he];exact List.getElem_mem hi);rw[idx,if_pos hm];have h1:l.idxOf n<l.length:=List.idxOf_lt_length_iff.2 hm;have h2:l[l.idxOf n]=n:=List.getElem_idxOf h1;have h3:¬l.idxOf n<i:=λh=>hb _ h h2
 have h4:¬i<l.idxOf n:=λh=>by
  have:=List.not_of_lt_findIdx (p:=(· == n)) h;simp[he]at this
 congr 1;omega
theorem Zbf {l:List Int} {n:Int} (hb:∀ j (h:j<l.length),l[j]≠n):idx l n = -1:=by
 rw[idx,if_neg];intro hm;obtain ⟨j,h1,h2⟩:=List.getElem_of_mem hm;exact hb j h1 h2
theorem Zbg (l:List Int) (n:Int) (hl:Sml l):PC Tryz.prog G 154 [.vsl (l.map ia),.int .i64 n] (.int .i64 (idx l n)):=by
 (refine ZaG rfl λR hG hrd=>Yc Yb 1000 ?_;subst hG)
 simp -implicitDefEqProofs[ZaE,ZaF];refine Zba (λi=>⟨[(5,.int .i64 i),(0,.vsl (l.map ia)),(1,.int .i64 n)],[]⟩) (λi=>∀ j (h:j<l.length),j<i->l[j]≠n) l.length (by (first|exact Yn.tm (by simp[lk])|exact Yn.sub (by simp[lk,Ya,AV.keys]) (by simp[lk,Yd,Ya,AV.keys]))) (by simp) ?_ ?_
 . intro i hi he;refine Yc Yb 1000 ?_;unfold Sml at hl;have w1:IntKind.i64.wrap ((i:Int)+1)=((i+1:Nat):Int):=Yg (by omega) (by omega);by_cases h2:l[i]=n
   . simp -implicitDefEqProofs[hi,ia,h2];refine Z2M Yb 1000 ?_;simp -implicitDefEqProofs[Zbe hi h2 (λj h=>he j (by omega) h)]
   . simp -implicitDefEqProofs[hi,ia,h2,w1];refine ⟨(by (first|exact Yn.tm (by simp[lk])|exact Yn.sub (by simp[lk,Ya,AV.keys]) (by simp[lk,Yd,Ya,AV.keys]))),λj h1 h3=>?_⟩;by_cases e:j=i
     . subst e;exact h2
     . exact he j h1 (by omega)
 . intro he;refine Yc Yb 1000 ?_;simp -implicitDefEqProofs[];refine Z2M Yb 1000 ?_;simp -implicitDefEqProofs[Zbf (λj h=>he j h h)]
theorem Zbh (a b:List Int) (ha:Sml a):PC Tryz.prog G 42 [.vsl (a.map ia),.vsl (b.map ia)] (.bool (decide (a=b))):=by
 (refine ZaV rfl λR hG hrd=>Yc Yb 1000 ?_;subst hG)
 by_cases hl:a.length=b.length
 . have hl':(a.length:Int)=b.length:=(by omega);simp -implicitDefEqProofs[ZaT,ZaU,hl'];refine Zba (λi=>⟨[(5,.int .i64 i),(0,.vsl (a.map ia)),(1,.vsl (b.map ia))],[]⟩) (λi=>∀ j (h:j<a.length),j<i->a[j]=b[j]) a.length (by (first|exact Yn.tm (by simp[lk])|exact Yn.sub (by simp[lk,Ya,AV.keys]) (by simp[lk,Yd,Ya,AV.keys]))) (by simp) ?_ ?_
   . intro i hi he;refine Yc Yb 1000 ?_;unfold Sml at ha;have hi2:i<b.length:=(by omega);have w1:IntKind.i64.wrap ((i:Int)+1)=((i+1:Nat):Int):=Yg (by omega) (by omega);by_cases h2:a[i]=b[i]
     . simp -implicitDefEqProofs[hi,hi2,ia,h2,w1];refine ⟨rfl,(by (first|exact Yn.tm (by simp[lk])|exact Yn.sub (by simp[lk,Ya,AV.keys]) (by simp[lk,Yd,Ya,AV.keys]))),λj h1 h3=>?_⟩;by_cases e:j=i
       . subst e;exact h2
       . exact he j h1 (by omega)
     . have h3:¬a=b:=λe=>h2 (by subst e;rfl)
       simp -implicitDefEqProofs[hi,hi2,ia,h2];refine ⟨rfl,?_⟩;refine Z2M Yb 1000 ?_;simp -implicitDefEqProofs[h3]
   . intro he;refine Yc Yb 1000 ?_;have h3:a=b:=List.ext_getElem hl λj h1 h2=>he j h1 h1
     simp -implicitDefEqProofs[];refine Z2M Yb 1000 ?_;simp -implicitDefEqProofs[h3]
 . have hl':¬(a.length:Int)=b.length:=(by omega);have h3:¬a=b:=λe=>hl (by rw[e])
   simp -implicitDefEqProofs[ZaT,ZaU,hl',h3]
end
def nz:AV->AV
 |.nils=>.vsl []
 |.agg xs=>.agg (xs.attach.map λ⟨x,_⟩=>nz x)
 |.tup xs=>.tup (xs.attach.map λ⟨x,_⟩=>nz x)
 |x=>x
theorem nz_at (xs:List AV):(xs.attach.map λ⟨x,_⟩=>nz x)=xs.map nz:=by
 have h:(xs.attach.map λ⟨x,_⟩=>nz x)=(xs.attach.map Subtype.val).map nz:=(by rw[List.map_map];rfl);rw[h,List.attach_map_subtype_val]
theorem Zbi (xs:List AV):nz (.agg xs) = .agg (xs.map nz):=by rw[nz,nz_at]
theorem Zbj (xs:List AV):nz (.tup xs) = .tup (xs.map nz):=by rw[nz,nz_at]
theorem PV.nz {M:Nat->Prop} {W:World} {x:AV} {v:Value} (h:PV M W x v):PV M W (nz x) v:=by
 induction h with
 |nils=>simp only[Go.Proofs.YtjogcghofinemaaGreatDoor.nz];exact .vsl [] none 0 1 0 0 (λ_ _=>undef) (Nat.le_refl _) (Nat.zero_le _) (λh=>absurd rfl h) (λ_=>⟨rfl,rfl⟩) (by simp) (by simp) (by simp)
 | agg xs us h1 hx ih =>
   rw[Zbi];refine .agg _ us (by simpa using h1) λi x u hi hu=>?_
   rw[List.getElem?_map,Option.map_eq_some_iff]at hi;obtain ⟨y,hy,rfl⟩:=hi;exact ih i y u hy hu
 | tup xs us h1 hx ih =>
   rw[Zbj];refine .tup _ us (by simpa using h1) λi x u hi hu=>?_
   rw[List.getElem?_map,Option.map_eq_some_iff]at hi;obtain ⟨y,hy,rfl⟩:=hi;exact ih i y u hy hu
 |hole=>simp only[Go.Proofs.YtjogcghofinemaaGreatDoor.nz];exact .hole
 |int k n=>simp only[Go.Proofs.YtjogcghofinemaaGreatDoor.nz];exact .int k n
 |bool b=>simp only[Go.Proofs.YtjogcghofinemaaGreatDoor.nz];exact .bool b
 |abool b=>simp only[Go.Proofs.YtjogcghofinemaaGreatDoor.nz];exact .abool b
 |str s=>simp only[Go.Proofs.YtjogcghofinemaaGreatDoor.nz];exact .str s
 |nilp=>simp only[Go.Proofs.YtjogcghofinemaaGreatDoor.nz];exact .nilp
 |nilm=>simp only[Go.Proofs.YtjogcghofinemaaGreatDoor.nz];exact .nilm
 |nilf=>simp only[Go.Proofs.YtjogcghofinemaaGreatDoor.nz];exact .nilf
 |vptr cells off b o f hb hM hc hr ih=>simp only[Go.Proofs.YtjogcghofinemaaGreatDoor.nz];exact .vptr cells off b o f hb hM hc hr
 |vsl rows a cap sz b o f hcap hmax ha hn hs hc hr ih=>simp only[Go.Proofs.YtjogcghofinemaaGreatDoor.nz];exact .vsl rows a cap sz b o f hcap hmax ha hn hs hc hr
 |func fn xs ys us vs h1 h2 hx hy ihx ihy=>simp only[Go.Proofs.YtjogcghofinemaaGreatDoor.nz];exact .func fn xs ys us vs h1 h2 hx hy
 |vmap kvs b es clock hb hM ho hs hn hk' hv ihk ihv=>simp only[Go.Proofs.YtjogcghofinemaaGreatDoor.nz];exact .vmap kvs b es clock hb hM ho hs hn hk' hv
theorem PC.nzR {P:Program} {G:Nat->Option (List AV)} {f:FuncId} {args:List AV} {v v':AV} (h:PC P G f args v) (e:nz v=v'):PC P G f args v':=by
 subst e;refine ⟨h.1,λM W vs hM hG hs hv=>(h.2 M W vs hM hG hs hv).mono ?_⟩;rintro e W' ⟨u,h1,h2,h3⟩;exact ⟨u,h1,h2.nz,h3⟩
theorem Zbk {a b:Int×Int} (h:¬a=b):(!decide (a.1=b.1) || !decide (a.2=b.2))=true:=by
 cases h5:(!decide (a.1=b.1) || !decide (a.2=b.2))
 . simp only[Bool.or_eq_false_iff,Bool.not_eq_false',decide_eq_true_eq]at h5;exact absurd (Prod.ext h5.1 h5.2) h
 . rfl
section
variable {G:Nat->Option (List AV)}
def SmlR (r:List Iss):Prop:=Sml r/\∀ x∈r,Sml x.its/\Sml x.dms
end
def at' (r:List Iss) (i:Nat):Iss:=r.getD i default
theorem at_eq {r:List Iss} {i:Nat} (h:i<r.length):at' r i=r[i]:=by simp[at',List.getD,h]
def newB (r:List Iss) (i:Nat):Bool:=i == 0 || !decide ((at' r (i-1)).d=(at' r i).d)
def numsN (r:List Iss):Nat->List Int
 |0=>[]
 |i+1=>if newB r i=true then numsN r i++[(at' r i).d] else numsN r i
def nums (r:List Iss):List Int:=numsN r r.length
theorem Zbl (r:List Iss):∀ i,(numsN r i).length<=i
 |0=>by simp[numsN]
 | i+1=>by
   have:=Zbl r i;simp only[numsN]
   split
   . simp;omega
   . omega
def findN (d l:Int):List Iss->Option Iss
 |[]=>none
 |x::r=>if x.d=d/\x.l=l then some x else findN d l r
def noIs:AV:=.agg [.int .i64 0,.int .i64 0,.int .u8 0,.nils,.nils]
def fndA:Option Iss->AV
 |some x=>.tup [.agg (isa x),.bool true]
 |none=>.tup [noIs,.bool false]
def Zbm (r:List Iss):Bool:=decide (80<r.length)||r.any λx=>decide (16<x.its.length)||decide (8<x.dms.length)
theorem Zbn {d l:Int}:∀ {r:List Iss} {i:Nat} (h:i<r.length),r[i].d=d->r[i].l=l->(∀ j (h:j<r.length),j<i->¬(r[j].d=d/\r[j].l=l))->findN d l r=some r[i]
 |x::r,0,h,h1,h2,_=>by simp only[findN];rw[if_pos ⟨h1,h2⟩];rfl
 | x::r,i+1,h,h1,h2,hb=>by
   simp only[findN];rw[if_neg (show ¬(x.d=d/\x.l=l) from hb 0 (by simp) (by omega))];exact Zbn (by simpa using h) h1 h2 λj hj hi=>hb (j+1) (by simpa using hj) (by omega)
theorem Zbo {d l:Int}:∀ {r:List Iss},(∀ j (h:j<r.length),¬(r[j].d=d/\r[j].l=l))->findN d l r=none
 |[],_=>rfl
 | x::r,hb=>by
   simp only[findN];rw[if_neg (show ¬(x.d=d/\x.l=l) from hb 0 (by simp))];exact Zbo λj hj=>hb (j+1) (by simpa using hj)
section
variable {G:Nat->Option (List AV)}
theorem Zbp (x:Iss) (h1:Sml x.its) (h2:Sml x.dms):PC Tryz.prog G 118 [.agg (isa x)] (.agg (isa x)):=by
 (refine ZaY rfl λR hG hrd=>Qga ?_;subst hG)
 unfold Sml at h1 h2;have b1:x.its.length*16<=70368744177664:=(by omega);have b2:x.dms.length*24<=70368744177664:=(by omega);have k1:(x.its.map ita).all (λr=>r.length == 2)=true:=(by simp[ita]);have k2:(x.its.map ita).all (λr=>r.all AV.one)=true:=(by simp[ita,AV.one]);have k3:(x.dms.map dma).all (λr=>r.length == 3)=true:=(by simp[dma]);have k4:(x.dms.map dma).all (λr=>r.all AV.one)=true:=(by simp[dma,AV.one]);have k5:(x.its.map ita).all (λr=>r.all AV.pure)=true:=(by simp[ita,AV.pure]);have k6:(x.dms.map dma).all (λr=>r.all AV.pure)=true:=(by simp[dma,AV.pure]);by_cases e1:x.its=[] <;> by_cases e2:x.dms=[]
 . simp -implicitDefEqProofs[ZaW,ZaX,isa,e1,e2]
   try rfl
 . simp -implicitDefEqProofs[ZaW,ZaX,isa,e1,e2,b2,k3,k4,k6]
   try rfl
 . simp -implicitDefEqProofs[ZaW,ZaX,isa,e1,e2,b1,k1,k2,k5]
   try rfl
 . simp -implicitDefEqProofs[ZaW,ZaX,isa,e1,e2,b1,b2,k1,k2,k3,k4,k5,k6]
   try rfl
theorem Zbq (r:List Iss) (h:Sml r):PC Tryz.prog G 105 [rega r] (.bool (Zbm r)):=by
 (refine Zb4 rfl λR hG hrd=>Qga ?_;subst hG)
 unfold Sml at h;by_cases h1:80<r.length
 . have h1':(80:Int)<r.length:=(by omega);simp -implicitDefEqProofs[Zb2,Zb3,rega,h1',Zbm,h1]
 have h1':¬(80:Int)<r.length:=(by omega);simp -implicitDefEqProofs[Zb2,Zb3,rega,h1'];refine Zba (λi=>⟨[(3,.int .i64 i),(1,.ptr 1 0)],[(1,.box [.vsl (r.map isa)])]⟩) (λi=>∀ j (h:j<r.length),j<i->r[j].its.length<=16/\r[j].dms.length<=8) r.length (by (first|exact Yn.tm (by simp[lk])|exact Yn.sub (by simp[lk,Ya,AV.keys]) (by simp[lk,Yd,Ya,AV.keys]))) (by simp) ?_ ?_
 . intro i hi he;refine Qga ?_;have w1:IntKind.i64.wrap ((i:Int)+1)=((i+1:Nat):Int):=Yg (by omega) (by omega)
   have bad:(16<r[i].its.length∨8<r[i].dms.length)->Zbm r=true:=λhb=>by
    simp only[Zbm,Bool.or_eq_true,List.any_eq_true,decide_eq_true_eq];exact .inr ⟨r[i],List.getElem_mem hi,hb⟩
   by_cases h2:16<r[i].its.length
   . have h2':(16:Int)<r[i].its.length:=(by omega);simp -implicitDefEqProofs[hi,isa,h2'];refine Qgr ?_;simp -implicitDefEqProofs[bad (.inl h2)]
   have h2':¬(16:Int)<r[i].its.length:=(by omega);by_cases h3:8<r[i].dms.length
   . have h3':(8:Int)<r[i].dms.length:=(by omega);simp -implicitDefEqProofs[hi,isa,h2',h3'];refine Qgr ?_;simp -implicitDefEqProofs[bad (.inr h3)]
   have h3':¬(8:Int)<r[i].dms.length:=(by omega);simp -implicitDefEqProofs[hi,isa,h2',h3',w1];refine ⟨(by (first|exact Yn.tm (by simp[lk])|exact Yn.sub (by simp[lk,Ya,AV.keys]) (by simp[lk,Yd,Ya,AV.keys]))),λj q1 q3=>?_⟩;by_cases e:j=i
   . subst e;exact ⟨by omega,by omega⟩
   . exact he j q1 (by omega)
 . intro he;refine Qga ?_
   have hg:Zbm r=false:=by
    simp only[Zbm,Bool.or_eq_false_iff,decide_eq_false_iff_not,h1,not_false_eq_true,true_and,List.any_eq_false,Bool.not_eq_true,Bool.or_eq_true,decide_eq_true_eq];intro x hx;obtain ⟨j,hj,rfl⟩:=List.getElem_of_mem hx;have:=he j hj hj;omega
   simp -implicitDefEqProofs[];refine Qgr ?_;simp -implicitDefEqProofs[hg]
theorem Zbr (r:List Iss) (d l:Int) (h:Sml r):PC Tryz.prog G 156 [rega r,.agg [.int .i64 d,.int .i64 l]] (fndA (findN d l r)):=by
 (refine ZaS rfl λR hG hrd=>Qga ?_;subst hG)
 unfold Sml at h;simp -implicitDefEqProofs[ZaQ,ZaR,rega];refine Zba (λi=>⟨[(6,.int .i64 i),(2,.ptr 2 0),(3,.ptr 3 0),(4,.ptr 4 0)],[(2,.box [.vsl (r.map isa)]),(3,.box [.int .i64 d,.int .i64 l]),(4,.box [.int .i64 0,.int .i64 0,.int .u8 0,.nils,.nils])]⟩) (λi=>∀ j (h:j<r.length),j<i->¬(r[j].d=d/\r[j].l=l)) r.length (by (first|exact Yn.tm (by simp[lk])|exact Yn.sub (by simp[lk,Ya,AV.keys]) (by simp[lk,Yd,Ya,AV.keys]))) (by simp) ?_ ?_
 . intro i hi he;refine Qga ?_;have w1:IntKind.i64.wrap ((i:Int)+1)=((i+1:Nat):Int):=Yg (by omega) (by omega)
   have go:¬(r[i].d=d/\r[i].l=l)->∀ j (h:j<r.length),j<i+1->¬(r[j].d=d/\r[j].l=l):=λhb j q1 q2=>by
    by_cases e:j=i
    . subst e;exact hb
    . exact he j q1 (by omega)
   by_cases h2:r[i].d=d
   . by_cases h3:r[i].l=l
     . simp -implicitDefEqProofs[hi,isa,h2,h3];refine Qgr ?_;simp -implicitDefEqProofs[Zbn hi h2 h3 he,fndA,isa,h2,h3]
     . simp -implicitDefEqProofs[hi,isa,h2,h3,w1];exact ⟨(by (first|exact Yn.tm (by simp[lk])|exact Yn.sub (by simp[lk,Ya,AV.keys]) (by simp[lk,Yd,Ya,AV.keys]))),λj q1 q2 q3 q4=>go (λe=>h3 e.2) j q1 q2 ⟨q3,q4⟩⟩
   . simp -implicitDefEqProofs[hi,isa,h2,w1];exact ⟨(by (first|exact Yn.tm (by simp[lk])|exact Yn.sub (by simp[lk,Ya,AV.keys]) (by simp[lk,Yd,Ya,AV.keys]))),λj q1 q2 q3 q4=>go (λe=>h2 e.1) j q1 q2 ⟨q3,q4⟩⟩
 . intro he;refine Qga ?_;simp -implicitDefEqProofs[];refine Qgr ?_;simp -implicitDefEqProofs[Zbo (λj hj=>he j hj hj),fndA,noIs]
end
def itAt (x:Iss) (i:Nat):Int×Int:=x.its.getD i (0,0)
def itOk (x:Iss) (i:Nat):Bool:=inR (itAt x i).1 1 9999&&inR (itAt x i).2 1 20 && !decide ((itAt x i).1=x.d)&&(i == 0||decide ((itAt x (i-1)).1<(itAt x i).1))
def headB (x:Iss):Bool:=inR x.d 1 9999&&inR x.l 1 8&&inR x.k 1 3&&(if x.k=1 then inR x.its.length 1 8&&decide (x.dms.length=0) else decide (x.dms.length<=4)&&decide (x.its.length=0))
def issB (x:Iss):Bool:=headB x&&(List.range x.its.length).all (itOk x)&&x.dms.all vd
theorem Zbs {n:Nat} {p:Nat->Bool}:(List.range n).all p=true↔∀ j,j<n->p j=true:=by simp[List.all_eq_true]
section
variable {G:Nat->Option (List AV)}
def nuS (r:List Iss):Nat->St
 |0=>⟨[(4,.int .i64 0),(3,.nils),(1,.ptr 1 0)],[(1,.box [.vsl (r.map isa)])]⟩
 |i+1=>⟨[(4,.int .i64 (i+1:Nat)),(3,.osl 35 (numsN r (i+1)).length),(1,.ptr 1 0)],[(1,.box [.vsl (r.map isa)]),(35,.row 1 ((numsN r (i+1)).map ia))]⟩
theorem Zbt (r:List Iss) (h:Sml r) (h0:r≠[]):PC Tryz.prog G 39 [rega r] (.vsl ((nums r).map ia)):=by
 (refine ZaD rfl λR hG hrd=>Qga ?_;subst hG)
 unfold Sml at h;simp -implicitDefEqProofs[ZaB,ZaC,rega];refine Zba (nuS r) (λ_=>True) r.length (by simp only[nuS];(first|exact Yn.tm (by simp[lk])|exact Yn.sub (by simp[lk,Ya,AV.keys]) (by simp[lk,Yd,Ya,AV.keys]))) trivial ?_ ?_
 . intro i hi he;refine Qga ?_;have e1:=at_eq hi
   cases i with
   | zero =>
     have hn:numsN r 1=[r[0].d]:=(by simp[numsN,newB,e1]);have w1:IntKind.i64.wrap 1=1:=rfl;simp -implicitDefEqProofs[nuS,hi,isa,w1];exact Yn.sub (by simp[lk,Ya,AV.keys,hn]) (by simp[lk,Yd,Ya,AV.keys,hn,ia])
   | succ i =>
     have w1:IntKind.i64.wrap ((i:Int)+1+1)=(i:Int)+1+1:=Yg (by omega) (by omega);have w2:IntKind.i64.wrap (i:Int)=(i:Int):=Yg (by omega) (by omega);have k1:(i:Int)+1<r.length:=(by omega);have k2:((i:Int)+1).toNat=i+1:=(by omega);have k3:(0:Int)<=(i:Int)+1:=(by omega);have k4:¬(i:Int)+1=0:=(by omega);have hi2:i<r.length:=(by omega);have e2:=at_eq hi2;have b1:=Zbl r (i+1);have b2:((numsN r (i+1)).length+1)*8<=70368744177664:=(by omega);by_cases h2:r[i].d=r[i+1].d
     . have hn:numsN r (i+1+1)=numsN r (i+1):=(by rw[numsN];simp[newB,e1,e2,h2]);simp -implicitDefEqProofs[nuS,hi,hi2,k1,k2,k3,k4,isa,w1,w2,h2];exact Yn.sub (by simp[lk,Ya,AV.keys,hn]) (by simp[lk,Yd,Ya,AV.keys,hn,ia])
     . have hn:numsN r (i+1+1)=numsN r (i+1)++[r[i+1].d]:=(by rw[numsN];simp[newB,e1,e2,h2]);simp -implicitDefEqProofs[nuS,hi,hi2,k1,k2,k3,k4,isa,w1,w2,h2,b2];exact Yn.sub (by simp[lk,Ya,AV.keys,hn]) (by simp[lk,Yd,Ya,AV.keys,hn,ia])
 . intro he;refine Qga ?_
   obtain ⟨n,hn⟩ : ∃ n,r.length=n+1:=⟨r.length-1,by
    have:r.length≠0:=(by simpa using h0);omega⟩
   have e:numsN r (n+1)=nums r:=(by rw[nums,hn]);have pu:((nums r).map ia).all (λx=>x.all AV.pure)=true:=(by simp[ia,AV.pure]);rw[hn];have k1:¬(n:Int)+1<n+1:=(by omega);simp -implicitDefEqProofs[nuS,e,hn,k1];refine Qgr ?_;simp -implicitDefEqProofs[pu]
theorem Zbu (x:Iss) (h1:Sml x.its) (h2:Sml x.dms) (hk:0<=x.k/\x.k<=255):PC Tryz.prog G 153 [.agg (isa x)] (.bool (issB x)):=by
 (refine ZaA rfl λR hG hrd=>Qga ?_;subst hG)
 unfold Sml at h1 h2;have wk:IntKind.i64.wrap x.k=x.k:=Yg (by omega) (by omega);have bad:headB x=false->issB x=false:=λe=>by simp[issB,e]
 simp -implicitDefEqProofs[Zay,Zaz,isa];refine Qco (Zbd _ _ _) (by simp) ?_
 cases q1:inR x.d 1 9999
 . simp -implicitDefEqProofs[bad (by simp[headB,q1])]
 simp -implicitDefEqProofs[];refine Qco (Zbd _ _ _) (by simp) ?_
 cases q2:inR x.l 1 8
 . simp -implicitDefEqProofs[bad (by simp[headB,q2])]
 simp -implicitDefEqProofs[wk];refine Qco (Zbd _ _ _) (by simp) ?_
 cases q3:inR x.k 1 3
 . simp -implicitDefEqProofs[bad (by simp[headB,q3])]
 have q3':1<=x.k/\x.k<=3:=of_decide_eq_true q3;by_cases c1:x.k=1
 . simp -implicitDefEqProofs [c1];refine Qco (Zbd _ _ _) (by simp) ?_
   cases q4:inR x.its.length 1 8
   . simp -implicitDefEqProofs[bad (by simp[headB,q4,c1])]
   have n1:¬(1:Int)<1:=(by omega);by_cases q5:x.dms.length=0
   . have q5n : ¬0<x.dms.length:=(by omega);have hB:headB x=true:=(by simp[headB,q1,q2,c1,q4,q5];rfl);simp -implicitDefEqProofs[q5n,q5];refine Zba (λi=>⟨[(3,.int .i64 i),(1,.ptr 1 0)],[(1,.box (isa x))]⟩) (λi=>∀ j,j<i->itOk x j=true) x.its.length (by (first|exact Yn.tm (by simp[lk,isa,c1])|exact Yn.sub (by simp[lk,Ya,AV.keys,isa,c1]) (by simp[lk,Yd,Ya,AV.keys,isa,c1]))) (by simp) ?_ ?_
     . intro i hi he;refine Qga ?_;have w1:IntKind.i64.wrap ((i:Int)+1)=((i+1:Nat):Int):=Yg (by omega) (by omega);have a1:itAt x i=x.its[i]:=by simp[itAt,List.getD,hi]
       have no:itOk x i=false->issB x=false:=λe=>by
        cases hI:issB x
        . rfl
        . simp only[issB,Bool.and_eq_true]at hI;rw[Zbs.1 hI.1.2 i hi]at e;cases e
       simp -implicitDefEqProofs[hi,isa,ita];refine Qco (Zbd _ _ _) (by simp) ?_
       cases p1:inR x.its[i].1 1 9999
       . simp -implicitDefEqProofs[];refine ⟨rfl,?_⟩;refine Qgr ?_;simp -implicitDefEqProofs[no (by simp[itOk,a1,p1])]
       simp -implicitDefEqProofs[];refine Qco (Zbd _ _ _) (by simp) ?_
       cases p2:inR x.its[i].2 1 20
       . simp -implicitDefEqProofs[];refine ⟨rfl,?_⟩;refine Qgr ?_;simp -implicitDefEqProofs[no (by simp[itOk,a1,p2])]
       by_cases p3:x.its[i].1=x.d
       . simp -implicitDefEqProofs[p3];refine ⟨rfl,?_⟩;refine Qgr ?_;simp -implicitDefEqProofs[no (by simp[itOk,a1,p3])]
       cases i with
       | zero =>
         have ok:itOk x 0=true:=(by simp[itOk,a1,p1,p2,p3]);have w0:IntKind.i64.wrap 1=1:=rfl;simp -implicitDefEqProofs[p3,w0];exact ⟨rfl,(by (first|exact Yn.tm (by simp[lk,isa])|exact Yn.sub (by simp[lk,Ya,AV.keys,isa]) (by simp[lk,Yd,Ya,AV.keys,isa]))),ok⟩
       | succ i =>
         have w2:IntKind.i64.wrap (i:Int)=(i:Int):=Yg (by omega) (by omega);have w3:IntKind.i64.wrap ((i:Int)+1+1)=(i:Int)+1+1:=Yg (by omega) (by omega);have k3:(0:Int)<(i:Int)+1:=(by omega);have hi2:i<x.its.length:=(by omega);have a2:itAt x i=x.its[i]:=(by simp[itAt,List.getD,hi2]);by_cases p4:x.its[i+1].1<=x.its[i].1
         . simp -implicitDefEqProofs[p3,k3,w2,hi2,ita,p4];refine ⟨rfl,?_⟩;refine Qgr ?_;simp -implicitDefEqProofs[no (by simp[itOk,a1,a2,p4])]
         . have ok:itOk x (i+1)=true:=(by simp[itOk,a1,a2,p1,p2,p3];omega);simp -implicitDefEqProofs[p3,k3,w2,w3,hi2,ita,p4];refine ⟨rfl,(by (first|exact Yn.tm (by simp[lk,isa])|exact Yn.sub (by simp[lk,Ya,AV.keys,isa]) (by simp[lk,Yd,Ya,AV.keys,isa]))),λj hj=>?_⟩;by_cases e:j=i+1
           . subst e;exact ok
           . exact he j (by omega)
     . intro he;refine Qga ?_;have hI:(List.range x.its.length).all (itOk x)=true:=Zbs.2 he;simp -implicitDefEqProofs[isa];refine Qgr ?_;simp -implicitDefEqProofs[];refine Zba (λi=>⟨[(5,.int .i64 i),(1,.ptr 1 0)],[(1,.box (isa x))]⟩) (λi=>∀ j (h:j<x.dms.length),j<i->vd x.dms[j]=true) x.dms.length (by (first|exact Yn.tm (by simp[lk,isa])|exact Yn.sub (by simp[lk,Ya,AV.keys,isa]) (by simp[lk,Yd,Ya,AV.keys,isa]))) (by simp) ?_ ?_
       . intro i hi he;refine Qga ?_;have w1:IntKind.i64.wrap ((i:Int)+1)=((i+1:Nat):Int):=Yg (by omega) (by omega);simp -implicitDefEqProofs[hi,isa,dma];refine Qco (Zbc _ _ _) (by simp) ?_
         cases p1:vd x.dms[i]
         . have hn:issB x=false:=by
            cases hI2:issB x
            . rfl
            . simp only[issB,Bool.and_eq_true]at hI2;rw[List.all_eq_true.1 hI2.2 _ (List.getElem_mem hi)]at p1;cases p1
           have p1':vd ⟨x.dms[i].n,x.dms[i].l,x.dms[i].u⟩=false:=p1;simp -implicitDefEqProofs[p1'];refine Qgr ?_;simp -implicitDefEqProofs[hn]
         . have p1':vd ⟨x.dms[i].n,x.dms[i].l,x.dms[i].u⟩=true:=p1;simp -implicitDefEqProofs[p1',w1];refine ⟨(by (first|exact Yn.tm (by simp[lk,isa])|exact Yn.sub (by simp[lk,Ya,AV.keys,isa]) (by simp[lk,Yd,Ya,AV.keys,isa]))),λj h1 hj=>?_⟩;by_cases e:j=i
           . subst e;exact p1
           . exact he j h1 (by omega)
       . intro hd;refine Qga ?_
         have hD:x.dms.all vd=true:=List.all_eq_true.2 λy hy=>by
          obtain ⟨j,hj,rfl⟩:=List.getElem_of_mem hy;exact hd j hj hj
         have hT:issB x=true:=(by simp[issB,hB,hI,hD]);simp -implicitDefEqProofs[isa];refine Qgr ?_;simp -implicitDefEqProofs[hT]
   . have q5n:0<x.dms.length:=(by omega);simp -implicitDefEqProofs[q5n,bad (by simp[headB,q5,c1])]
 . have c2 : 1<x.k:=(by omega);by_cases q4:x.dms.length<=4
   case neg =>
    have q4n:4<x.dms.length:=(by omega);have q4i:(4:Int)<x.dms.length:=(by omega);simp -implicitDefEqProofs[c1,c2,q4n,q4i,bad (by simp[headB,q4,c1])]
   have q4n:¬4<x.dms.length:=(by omega);have q4i:¬(4:Int)<x.dms.length:=(by omega);by_cases q5:x.its.length=0
   . have q5n : ¬0<x.its.length:=(by omega);have hB:headB x=true:=(by simp[headB,q1,q2,q3,c1,q4,q5]);simp -implicitDefEqProofs[c1,c2,q4n,q4i,q5n,q5];refine Zba (λi=>⟨[(3,.int .i64 i),(1,.ptr 1 0)],[(1,.box (isa x))]⟩) (λi=>∀ j,j<i->itOk x j=true) x.its.length (by (first|exact Yn.tm (by simp[lk,isa,c1])|exact Yn.sub (by simp[lk,Ya,AV.keys,isa,c1]) (by simp[lk,Yd,Ya,AV.keys,isa,c1]))) (by simp) ?_ ?_
     . intro i hi he;refine Qga ?_;have w1:IntKind.i64.wrap ((i:Int)+1)=((i+1:Nat):Int):=Yg (by omega) (by omega);have a1:itAt x i=x.its[i]:=by simp[itAt,List.getD,hi]
       have no:itOk x i=false->issB x=false:=λe=>by
        cases hI:issB x
        . rfl
        . simp only[issB,Bool.and_eq_true]at hI;rw[Zbs.1 hI.1.2 i hi]at e;cases e
       simp -implicitDefEqProofs[hi,isa,ita];refine Qco (Zbd _ _ _) (by simp) ?_
       cases p1:inR x.its[i].1 1 9999
       . simp -implicitDefEqProofs[];refine ⟨rfl,?_⟩;refine Qgr ?_;simp -implicitDefEqProofs[no (by simp[itOk,a1,p1])]
       simp -implicitDefEqProofs[];refine Qco (Zbd _ _ _) (by simp) ?_
       cases p2:inR x.its[i].2 1 20
       . simp -implicitDefEqProofs[];refine ⟨rfl,?_⟩;refine Qgr ?_;simp -implicitDefEqProofs[no (by simp[itOk,a1,p2])]
       by_cases p3:x.its[i].1=x.d
       . simp -implicitDefEqProofs[p3];refine ⟨rfl,?_⟩;refine Qgr ?_;simp -implicitDefEqProofs[no (by simp[itOk,a1,p3])]
       cases i with
       | zero =>
         have ok:itOk x 0=true:=(by simp[itOk,a1,p1,p2,p3]);have w0:IntKind.i64.wrap 1=1:=rfl;simp -implicitDefEqProofs[p3,w0];exact ⟨rfl,(by (first|exact Yn.tm (by simp[lk,isa])|exact Yn.sub (by simp[lk,Ya,AV.keys,isa]) (by simp[lk,Yd,Ya,AV.keys,isa]))),ok⟩
       | succ i =>
         have w2:IntKind.i64.wrap (i:Int)=(i:Int):=Yg (by omega) (by omega);have w3:IntKind.i64.wrap ((i:Int)+1+1)=(i:Int)+1+1:=Yg (by omega) (by omega);have k3:(0:Int)<(i:Int)+1:=(by omega);have hi2:i<x.its.length:=(by omega);have a2:itAt x i=x.its[i]:=(by simp[itAt,List.getD,hi2]);by_cases p4:x.its[i+1].1<=x.its[i].1
         . simp -implicitDefEqProofs[p3,k3,w2,hi2,ita,p4];refine ⟨rfl,?_⟩;refine Qgr ?_;simp -implicitDefEqProofs[no (by simp[itOk,a1,a2,p4])]
         . have ok:itOk x (i+1)=true:=(by simp[itOk,a1,a2,p1,p2,p3];omega);simp -implicitDefEqProofs[p3,k3,w2,w3,hi2,ita,p4];refine ⟨rfl,(by (first|exact Yn.tm (by simp[lk,isa])|exact Yn.sub (by simp[lk,Ya,AV.keys,isa]) (by simp[lk,Yd,Ya,AV.keys,isa]))),λj hj=>?_⟩;by_cases e:j=i+1
           . subst e;exact ok
           . exact he j (by omega)
     . intro he;refine Qga ?_;have hI:(List.range x.its.length).all (itOk x)=true:=Zbs.2 he;simp -implicitDefEqProofs[isa];refine Qgr ?_;simp -implicitDefEqProofs[];refine Zba (λi=>⟨[(5,.int .i64 i),(1,.ptr 1 0)],[(1,.box (isa x))]⟩) (λi=>∀ j (h:j<x.dms.length),j<i->vd x.dms[j]=true) x.dms.length (by (first|exact Yn.tm (by simp[lk,isa])|exact Yn.sub (by simp[lk,Ya,AV.keys,isa]) (by simp[lk,Yd,Ya,AV.keys,isa]))) (by simp) ?_ ?_
       . intro i hi he;refine Qga ?_;have w1:IntKind.i64.wrap ((i:Int)+1)=((i+1:Nat):Int):=Yg (by omega) (by omega);simp -implicitDefEqProofs[hi,isa,dma];refine Qco (Zbc _ _ _) (by simp) ?_
         cases p1:vd x.dms[i]
         . have hn:issB x=false:=by
            cases hI2:issB x
            . rfl
            . simp only[issB,Bool.and_eq_true]at hI2;rw[List.all_eq_true.1 hI2.2 _ (List.getElem_mem hi)]at p1;cases p1
           have p1':vd ⟨x.dms[i].n,x.dms[i].l,x.dms[i].u⟩=false:=p1;simp -implicitDefEqProofs[p1'];refine Qgr ?_;simp -implicitDefEqProofs[hn]
         . have p1':vd ⟨x.dms[i].n,x.dms[i].l,x.dms[i].u⟩=true:=p1;simp -implicitDefEqProofs[p1',w1];refine ⟨(by (first|exact Yn.tm (by simp[lk,isa])|exact Yn.sub (by simp[lk,Ya,AV.keys,isa]) (by simp[lk,Yd,Ya,AV.keys,isa]))),λj h1 hj=>?_⟩;by_cases e:j=i
           . subst e;exact p1
           . exact he j h1 (by omega)
       . intro hd;refine Qga ?_
         have hD:x.dms.all vd=true:=List.all_eq_true.2 λy hy=>by
          obtain ⟨j,hj,rfl⟩:=List.getElem_of_mem hy;exact hd j hj hj
         have hT:issB x=true:=(by simp[issB,hB,hI,hD]);simp -implicitDefEqProofs[isa];refine Qgr ?_;simp -implicitDefEqProofs[hT]
   . have q5n:0<x.its.length:=(by omega);simp -implicitDefEqProofs[c1,c2,q4n,q4i,q5n,bad (by simp[headB,q5,c1])]
end
def Wf (r:List Iss):Prop:=SmlR r/\∀ x∈r,0<=x.k/\x.k<=255
def ordB (r:List Iss):Nat->Bool
 |0=>decide ((at' r 0).l=1)
 | i+1=>if (at' r (i+1)).d<(at' r i).d then false else if (at' r i).d<(at' r (i+1)).d then decide ((at' r (i+1)).l=1)
   else decide ((at' r (i+1)).l=(at' r i).l+1)&&decide ((at' r (i+1)).k=(at' r i).k)
def inB (r:List Iss):Bool:=r.all λx=>x.its.all λy=>decide (y.1∈nums r)
def ItsIn (r:List Iss) (x:Iss):Prop:=∀ y∈x.its,y.1∈nums r
def Zbv (r:List Iss):Bool:=inR r.length 1 60&&r.all issB&&(List.range r.length).all (ordB r)&&inB r&&decide ((nums r).length<=20)
theorem Zbw {r:List Iss} {i:Nat} (h:i<r.length) (e:issB r[i]=false):Zbv r=false:=by
 cases hI:Zbv r
 . rfl
 . simp only[Zbv,Bool.and_eq_true]at hI;rw[List.all_eq_true.1 hI.1.1.1.2 _ (List.getElem_mem h)]at e;cases e
theorem Zbx {r:List Iss} {i:Nat} (h:i<r.length) (e:ordB r i=false):Zbv r=false:=by
 cases hI:Zbv r
 . rfl
 . simp only[Zbv,Bool.and_eq_true]at hI;rw[Zbs.1 hI.1.1.2 i h]at e;cases e
theorem Zby {r:List Iss} {i k:Nat} (h:i<r.length) (hk:k<r[i].its.length) (e:r[i].its[k].1 ∉ nums r):Zbv r=false:=by
 cases hI:Zbv r
 . rfl
 . simp only[Zbv,Bool.and_eq_true,inB]at hI;have:=List.all_eq_true.1 (List.all_eq_true.1 hI.1.2 _ (List.getElem_mem h)) _ (List.getElem_mem hk);exact absurd (of_decide_eq_true this) e
theorem Zbz {l:List Int} {n:Int}:idx l n<0↔n ∉ l:=by
 unfold idx
 split
 . rename_i h;simp[h]
 . rename_i h;simp[h]
theorem ZbA {l:List Int} {n:Int} (h:n∈l):∃ i:Nat,idx l n=i/\i<l.length/\l[i]? = some n:=by
 refine ⟨l.idxOf n,by rw[idx,if_pos h],List.idxOf_lt_length_iff.2 h,?_⟩;have h1:l.idxOf n<l.length:=List.idxOf_lt_length_iff.2 h;rw[List.getElem?_eq_getElem h1,List.getElem_idxOf h1]
theorem ZbB (r:List Iss):(nums r).length<=r.length:=Zbl r _
section
variable {G:Nat->Option (List AV)}
theorem ZbC (r:List Iss) (h:Wf r):PC Tryz.prog G 135 [rega r] (.bool (Zbv r)):=by
 (refine ZaJ rfl λR hG hrd=>Qga ?_;subst hG)
 have hs:=h.1.1;unfold Sml at hs;simp -implicitDefEqProofs[ZaH,ZaI,rega];refine Qco (Zbd _ _ _) (by simp) ?_
 cases q1:inR r.length 1 60
 . simp -implicitDefEqProofs[show Zbv r=false by simp[Zbv,q1]]
 have q1':1<=r.length/\r.length<=60:=by
  have:=of_decide_eq_true q1;omega
 have hne:r≠[]:=(by intro e;subst e;simp at q1');simp -implicitDefEqProofs[];refine Zba (λi=>⟨[(3,.int .i64 i),(1,.ptr 1 0)],[(1,.box [.vsl (r.map isa)])]⟩) (λi=>∀ j (h:j<r.length),j<i->issB r[j]=true/\ordB r j=true) r.length (by (first|exact Yn.tm (by simp[lk])|exact Yn.sub (by simp[lk,Ya,AV.keys]) (by simp[lk,Yd,Ya,AV.keys]))) (by simp) ?_ ?_
 . intro i hi he;refine Qga ?_;have w1:IntKind.i64.wrap ((i:Int)+1)=((i+1:Nat):Int):=Yg (by omega) (by omega);have a1:=at_eq hi;have hx:=h.1.2 r[i] (List.getElem_mem hi);have hk:=h.2 r[i] (List.getElem_mem hi)
   have go:issB r[i]=true->ordB r i=true->∀ j (h:j<r.length),j<i+1->issB r[j]=true/\ordB r j=true:=λg1 g2 j q1 q2=>by
    by_cases e:j=i
    . subst e;exact ⟨g1,g2⟩
    . exact he j q1 (by omega)
   simp -implicitDefEqProofs[hi,isa];refine Qco (Zbu r[i] hx.1 hx.2 hk) (by simp) ?_
   cases p1:issB r[i]
   . simp -implicitDefEqProofs[];refine Qgr ?_;simp -implicitDefEqProofs[Zbw hi p1]
   have hd:1<=r[i].d:=by
    have p2:=p1;simp only[issB,headB,Bool.and_eq_true,inR,decide_eq_true_eq]at p2;exact p2.1.1.1.1.1.1
   cases i with
   | zero =>
     have n1:¬r[0].d<(0:Int):=(by omega);have n2:(0:Int)<r[0].d:=(by omega);by_cases p3:r[0].l=1
     . have ok:ordB r 0=true:=(by simp[ordB,a1,p3]);have w0:IntKind.i64.wrap 1=1:=rfl;simp -implicitDefEqProofs[n1,n2,p3,w0];exact ⟨(by (first|exact Yn.tm (by simp[lk])|exact Yn.sub (by simp[lk,Ya,AV.keys]) (by simp[lk,Yd,Ya,AV.keys]))),λj q1 q2=>by subst q2;exact ⟨p1,ok⟩⟩
     . simp -implicitDefEqProofs[n1,n2,p3];refine Qgr ?_;simp -implicitDefEqProofs[Zbx hi (by simp[ordB,a1,p3])]
   | succ i =>
     have w2:IntKind.i64.wrap (i:Int)=(i:Int):=Yg (by omega) (by omega);have w3:IntKind.i64.wrap ((i:Int)+1+1)=(i:Int)+1+1:=Yg (by omega) (by omega);have k3:(0:Int)<(i:Int)+1:=(by omega);have hi2:i<r.length:=(by omega);have a2:=at_eq hi2;have bl:=(he i hi2 (by omega)).1;simp only[issB,headB,Bool.and_eq_true,inR,decide_eq_true_eq]at bl;have w4:IntKind.i64.wrap (r[i].l+1)=r[i].l+1:=Yg (by omega) (by omega);by_cases p3:r[i+1].d<r[i].d
     . simp -implicitDefEqProofs[k3,w2,hi2,isa,p3];refine Qgr ?_;simp -implicitDefEqProofs[Zbx hi (by simp[ordB,a1,a2,p3])]
     by_cases p4:r[i].d<r[i+1].d
     . by_cases p5:r[i+1].l=1
       . have ok:ordB r (i+1)=true:=(by simp[ordB,a1,a2,p3,p4,p5]);simp -implicitDefEqProofs[k3,w2,w3,hi2,isa,p3,p4,p5];exact ⟨(by (first|exact Yn.tm (by simp[lk])|exact Yn.sub (by simp[lk,Ya,AV.keys]) (by simp[lk,Yd,Ya,AV.keys]))),go p1 ok⟩
       . simp -implicitDefEqProofs[k3,w2,hi2,isa,p3,p4,p5];refine Qgr ?_;simp -implicitDefEqProofs[Zbx hi (by simp[ordB,a1,a2,p3,p4,p5])]
     by_cases p5:r[i+1].l=r[i].l+1
     case neg =>
      simp -implicitDefEqProofs[k3,w2,w4,hi2,isa,p3,p4,p5];refine Qgr ?_;simp -implicitDefEqProofs[Zbx hi (by simp[ordB,a1,a2,p3,p4,p5])]
     by_cases p6:r[i+1].k=r[i].k
     . have ok:ordB r (i+1)=true:=(by simp[ordB,a1,a2,p3,p4,p5,p6]);simp -implicitDefEqProofs[k3,w2,w3,w4,hi2,isa,p3,p4,p5,p6];exact ⟨(by (first|exact Yn.tm (by simp[lk])|exact Yn.sub (by simp[lk,Ya,AV.keys]) (by simp[lk,Yd,Ya,AV.keys]))),go p1 ok⟩
     . simp -implicitDefEqProofs[k3,w2,w4,hi2,isa,p3,p4,p5,p6];refine Qgr ?_;simp -implicitDefEqProofs[Zbx hi (by simp[ordB,a1,a2,p3,p4,p5,p6])]
 . intro he;refine Qga ?_
   have g1:r.all issB=true:=List.all_eq_true.2 λx hx=>by
    obtain ⟨j,hj,rfl⟩:=List.getElem_of_mem hx;exact (he j hj hj).1
   have g2:(List.range r.length).all (ordB r)=true:=Zbs.2 λj hj=>(he j hj hj).2
   have hns:Sml (nums r):=(by have:=ZbB r;unfold Sml;omega);simp -implicitDefEqProofs[];refine Qgr ?_;simp -implicitDefEqProofs[];refine Qco (Zbt r h.1.1 hne) (by simp) ?_;simp -implicitDefEqProofs[];refine Zba (λi=>⟨[(7,.int .i64 i),(6,.vsl ((nums r).map ia)),(1,.ptr 1 0)],[(1,.box [.vsl (r.map isa)])]⟩) (λi=>∀ j (h:j<r.length),j<i->ItsIn r r[j]) r.length (by (first|exact Yn.tm (by simp[lk])|exact Yn.sub (by simp[lk,Ya,AV.keys]) (by simp[lk,Yd,Ya,AV.keys]))) (by simp) ?_ ?_
   . intro i hi hb;refine Qga ?_;have w1:IntKind.i64.wrap ((i:Int)+1)=((i+1:Nat):Int):=Yg (by omega) (by omega);have hx:=(h.1.2 r[i] (List.getElem_mem hi)).1;unfold Sml at hx;simp -implicitDefEqProofs[hi];refine Zba (λk=>⟨[(8,.int .i64 k),(7,.int .i64 i),(6,.vsl ((nums r).map ia)),(1,.ptr 1 0)],[(1,.box [.vsl (r.map isa)])]⟩) (λk=>∀ j (h:j<r[i].its.length),j<k->r[i].its[j].1∈nums r) r[i].its.length (by (first|exact Yn.tm (by simp[lk])|exact Yn.sub (by simp[lk,Ya,AV.keys]) (by simp[lk,Yd,Ya,AV.keys]))) (by simp) ?_ ?_
     . intro k hk hc;refine Qga ?_;have w2:IntKind.i64.wrap ((k:Int)+1)=((k+1:Nat):Int):=Yg (by omega) (by omega);simp -implicitDefEqProofs[hi,isa,hk,ita];refine Qco (Zbg (nums r) _ hns) (by simp) ?_;by_cases p1:r[i].its[k].1∈nums r
       . have n1:¬idx (nums r) r[i].its[k].1<0:=λe=>Zbz.1 e p1
         simp -implicitDefEqProofs[n1,w2];refine ⟨(by (first|exact Yn.tm (by simp[lk])|exact Yn.sub (by simp[lk,Ya,AV.keys]) (by simp[lk,Yd,Ya,AV.keys]))),λj q1 q2=>?_⟩;by_cases e:j=k
         . subst e;exact p1
         . exact hc j q1 (by omega)
       . have n1:idx (nums r) r[i].its[k].1<0:=Zbz.2 p1;simp -implicitDefEqProofs[n1];refine Qgr ?_;simp -implicitDefEqProofs[];refine Qgr ?_;simp -implicitDefEqProofs[Zby hi hk p1]
     . intro hc;refine Qga ?_;simp -implicitDefEqProofs[hi,isa];refine Qgr ?_;simp -implicitDefEqProofs[w1];refine ⟨(by (first|exact Yn.tm (by simp[lk])|exact Yn.sub (by simp[lk,Ya,AV.keys]) (by simp[lk,Yd,Ya,AV.keys]))),λj q1 q2=>?_⟩;by_cases e:j=i
       . subst e;intro y hy;obtain ⟨n,hn,rfl⟩:=List.getElem_of_mem hy;exact hc n hn hn
       . exact hb j q1 (by omega)
   . intro hb;refine Qga ?_
     have g3:inB r=true:=List.all_eq_true.2 λx hx=>List.all_eq_true.2 λy hy=>by
      obtain ⟨j,hj,rfl⟩:=List.getElem_of_mem hx;exact decide_eq_true (hb j hj hj y hy)
     have g4:Zbv r=decide ((nums r).length<=20):=(by simp[Zbv,q1,g1,g2,g3]);simp -implicitDefEqProofs[];refine Qgr ?_;simp -implicitDefEqProofs[g4];omega
end
def Ord (r:List Iss):Prop:=∀ i,i+1<r.length->(at' r i).d<=(at' r (i+1)).d
theorem Ord.mono {r:List Iss} (h:Ord r):∀ {i j:Nat},i<=j->j<r.length->(at' r i).d<=(at' r j).d:=by
 intro i j hij hj
 induction j with
 | zero => obtain rfl:i=0:=by omega
           exact Int.le_refl _
 | succ j ih =>
   by_cases e:i=j+1
   . subst e;exact Int.le_refl _
   . exact Int.le_trans (ih (by omega) (by omega)) (h j hj)
theorem ZbD {r:List Iss} (h:Zbv r=true):Ord r:=by
 intro i hi;simp only[Zbv,Bool.and_eq_true]at h;have:=Zbs.1 h.1.1.2 (i+1) hi;simp only[ordB]at this
 split at this
 . cases this
 . omega
theorem ZbE {r:List Iss} (h:Ord r):∀ i,i<=r.length->(numsN r i).Pairwise (· < ·)/\(∀ y∈numsN r i,∃ j,j<i/\(at' r j).d=y)/\∀ j,j<i->(at' r j).d∈numsN r i:=by
 intro i
 induction i with
 |zero=>intro _;simp[numsN]
 | succ i ih =>
   intro hi;obtain ⟨h1,h2,h3⟩:=ih (by omega);simp only[numsN]
   split
   . rename_i hb;refine ⟨List.pairwise_append.2 ⟨h1,by simp,λa ha b hb'=>?_⟩,λy hy=>?_,λj hj=>?_⟩
     . simp only[List.mem_singleton]at hb';subst hb';obtain ⟨j,hj,rfl⟩:=h2 a ha;simp only[newB,Bool.or_eq_true,beq_iff_eq,Bool.not_eq_true',decide_eq_false_iff_not]at hb;have m1:=h.mono (show j<=i-1 by omega) (by omega);have m2:=h.mono (show i-1<=i by omega) (by omega);rcases hb with hb|hb
       . omega
       . omega
     . rcases List.mem_append.1 hy with hy|hy
       . obtain ⟨j,hj,e⟩:=h2 y hy;exact ⟨j,by omega,e⟩
       . exact ⟨i,by omega,(List.mem_singleton.1 hy).symm⟩
     . by_cases e:j=i
       . subst e;simp
       . exact List.mem_append.2 (.inl (h3 j (by omega)))
   . rename_i hb;refine ⟨h1,λy hy=>?_,λj hj=>?_⟩
     . obtain ⟨j,hj,e⟩:=h2 y hy;exact ⟨j,by omega,e⟩
     . by_cases e:j=i
       . subst e;simp only[newB,Bool.or_eq_true,beq_iff_eq,Bool.not_eq_true',decide_eq_false_iff_not,not_or,Decidable.not_not]at hb;rw[<- hb.2];exact h3 _ (by omega)
       . exact h3 j (by omega)
theorem ZbF {r:List Iss} (h:Ord r):(nums r).Pairwise (· < ·):=(ZbE h _ (Nat.le_refl _)).1
theorem ZbG {r:List Iss} (h:Ord r):(nums r).Nodup:=(ZbF h).imp λh=>Int.ne_of_lt h
theorem ZbH {r:List Iss} (h:Ord r) {n:Int} (hn:n∈nums r):∃ i,∃ hi:i<r.length,r[i].d=n:=by
 obtain ⟨i,hi,e⟩:=(ZbE h _ (Nat.le_refl _)).2.1 n hn;exact ⟨i,hi,by rw[<- at_eq hi];exact e⟩
theorem ZbI {r:List Iss} (h:Ord r) {i:Nat} (hi:i<r.length):r[i].d∈nums r:=by
 have:=(ZbE h _ (Nat.le_refl _)).2.2 i hi
 rwa [at_eq hi]at this
def dvIt (f:Int->Int) (m:Int) (its:List (Int×Int)):Int:=its.foldl (λm y=>max m (1+f y.1)) m
def dvN (r:List Iss) (f:Int->Int) (n:Int):Nat->Int
 |0=>0
 |i+1=>if (at' r i).d=n then dvIt f (max (dvN r f n i) 1) (at' r i).its else dvN r f n i
def Dv (r:List Iss):Nat->Int->Int
 |0,_=>0
 |k+1,n=>dvN r (Dv r k) n r.length
theorem ZbJ {f:Int->Int} {K:Int} (hf:∀ n,0<=f n/\f n<=K):∀ (its:List (Int×Int)) (m:Int),0<=m->m<=K+1->0<=dvIt f m its/\dvIt f m its<=K+1
 |[],m,h1,h2=>⟨h1,h2⟩
 | y::its,m,h1,h2=>by
   have:=hf y.1;exact ZbJ hf its (max m (1+f y.1)) (by omega) (by omega)
theorem ZbK (r:List Iss) {f:Int->Int} {K:Int} (hK:0<=K) (hf:∀ n,0<=f n/\f n<=K) (n:Int):∀ i,0<=dvN r f n i/\dvN r f n i<=K+1
 |0=>by simp only[dvN];omega
 | i+1=>by
   have:=ZbK r hK hf n i;simp only[dvN]
   split
   . exact ZbJ hf _ _ (by omega) (by omega)
   . exact this
theorem Dv_bd (r:List Iss):∀ k n,0<=Dv r k n/\Dv r k n<=k
 |0,n=>by simp[Dv]
 | k+1,n=>by
   have:=ZbK r (K:=(k:Int)) (by omega) (Dv_bd r k) n r.length;simp only[Dv];omega
def rowF (l:List Int) (g:Int->Int):List (List AV):=l.map λn=>[.int .i64 (g n)]
theorem ZbL {l:List Int} (hn:l.Nodup) {g:Int->Int} {j:Nat} {d v:Int} (hj:l[j]? = some d):(rowF l g).set j [.int .i64 v]=rowF l λn=>if n=d then v else g n:=by
 apply List.ext_getElem?
 intro i;obtain ⟨hlt,he⟩:=List.getElem?_eq_some_iff.1 hj;simp only[rowF,List.getElem?_set,List.getElem?_map,List.length_map];by_cases e:j=i
 . subst e;simp[hlt,he]
 . rw[if_neg e]
   cases hi:l[i]? with
   |none=>rfl
   | some x =>
     obtain ⟨hlt2,he2⟩:=List.getElem?_eq_some_iff.1 hi;have:x≠d:=λq=>e ((List.getElem_inj hn).1 (by rw[he,he2,q]))
     simp[this]
theorem ZbM {l:List Int} {g:Int->Int}:(rowF l g).length=l.length:=by simp[rowF]
theorem ZbN {l:List Int} {g:Int->Int}:(rowF l g).all (λr=>r.all AV.pure)=true:=by simp[rowF,AV.pure]
theorem ZbO {l:List Int} {g:Int->Int} {p:List AV->Bool}:(rowF l g).all p=l.all λn=>p [.int .i64 (g n)]:=by simp[rowF,List.all_map,Function.comp_def]
attribute [simp] ZbO
theorem ZbP {l:List Int} {g:Int->Int} {j:Nat} (h:j<(rowF l g).length):(rowF l g)[j]=[.int .i64 (g (l[j]'(by simpa [rowF] using h)))]:=by simp[rowF]
attribute [simp] ZbP ZbM
theorem ZbQ {l:List Int}:List.replicate l.length [AV.int .i64 0]=rowF l λ_=>0:=by
 simp only[rowF];induction l with
 |nil=>rfl
 |cons x l ih=>simp[List.replicate_succ,ih]
theorem ZbR (f:Int->Int) (m:Int) (its:List (Int×Int)) (k:Nat) (h:k<its.length):dvIt f m (its.take (k+1))=max (dvIt f m (its.take k)) (1+f its[k].1):=by
 rw[List.take_succ_eq_append_getElem h,dvIt,List.foldl_append];rfl
theorem ZbS {d:Int} {v v0:Int} {g:Int->Int}:(λn=>if n=d then v else if n=d then v0 else g n)=λn=>if n=d then v else g n:=by
 funext n;split <;> rfl
theorem Yn.trans {a b c:St} (h:Yn a b) (g:Yn b c):Yn a c:=λR x W s=>g R x W (h R x W s)
section
variable {G:Nat->Option (List AV)}
set_option maxRecDepth 8000 in
theorem ZbT (r:List Iss) (h:Wf r) (hL:Zbv r=true):PC Tryz.prog G 136 [rega r] (.vsl (rowF (nums r) (Dv r ((nums r).length+1)))):=by
 (refine ZaM rfl λR hG hrd=>Qga ?_;subst hG)
 have hs:=h.1.1;unfold Sml at hs;have hO:=ZbD hL;have hl:=ZbB r;have hnd:=ZbG hO;have hL2:=hL;simp only[Zbv,Bool.and_eq_true,inB,decide_eq_true_eq]at hL2;obtain ⟨⟨⟨⟨l1,l2⟩,l3⟩,l4⟩,l5⟩:=hL2;have l1':=of_decide_eq_true l1;have hne:r≠[]:=(by intro e;subst e;simp at l1');have hns:Sml (nums r):=(by unfold Sml;omega);simp -implicitDefEqProofs[ZaK,ZaL,rega];refine Qco (Zbt r h.1.1 hne) (by simp) ?_;have b1:((nums r).length:Int)<=16777216:=(by omega);simp -implicitDefEqProofs[b1,ZbQ];refine Zba (λk=>⟨[(5,.int .i64 k),(4,.vsl (rowF (nums r) (Dv r k))),(3,.vsl ((nums r).map ia)),(1,.ptr 1 0)],[(1,.box [.vsl (r.map isa)])]⟩) (λ_=>True) ((nums r).length+1) ?_ trivial ?_ ?_
 . refine Yn.trans (Yn.frz (λk=>k == 15) _) ?_;have e0:(λn=>Dv r 0 n)=λ_=>0:=rfl
   exact Yn.sub (by simp[lk,Ya,AV.keys,Yj,frzA,frzO,frz,Yi,St.get,ZbM,ZbN,Dv,Function.const]) (by simp[lk,Yd,Ya,AV.keys,Yj,frzA,frzO,frz]) (by simp[Yj,lk];try omega)
 . intro k hk _;refine Qga ?_;have k1:(k:Int)<=(nums r).length:=(by omega);simp -implicitDefEqProofs[k1,b1,ZbQ];have bd:=Dv_bd r k;have hkb:(k:Int)<=61:=(by omega);refine Zba (λi=>⟨[(7,.int .i64 i),(6,.osl 24 (nums r).length),(5,.int .i64 k),(4,.vsl (rowF (nums r) (Dv r k))),(3,.vsl ((nums r).map ia)),(1,.ptr 1 0)],[(1,.box [.vsl (r.map isa)]),(24,.row 1 (rowF (nums r) λn=>dvN r (Dv r k) n i))]⟩) (λ_=>True) r.length (by (first|exact Yn.tm (by simp[lk,dvN])|exact Yn.sub (by simp[lk,Ya,AV.keys,dvN]) (by simp[lk,Yd,Ya,AV.keys,dvN]))) trivial ?_ ?_
   . intro i hi _;refine Qga ?_;have w1:IntKind.i64.wrap ((i:Int)+1)=((i+1:Nat):Int):=Yg (by omega) (by omega);have a1:=at_eq hi;have hx:=(h.1.2 r[i] (List.getElem_mem hi)).1;unfold Sml at hx
     have hits:∀ m (hm:m<r[i].its.length),r[i].its[m].1∈nums r:=λm hm =>
      of_decide_eq_true (List.all_eq_true.1 (List.all_eq_true.1 l4 _ (List.getElem_mem hi)) _ (List.getElem_mem hm))
     simp -implicitDefEqProofs[hi,isa];refine Qco (Zbg (nums r) _ hns) (by simp) ?_;obtain ⟨j,hj,hlt,hget⟩:=ZbA (ZbI hO hi);rw[hj];have hset:=λg v=>ZbL (g:=g) (v:=v) hnd hget
     have hgt:(nums r)[j]=r[i].d:=(List.getElem?_eq_some_iff.1 hget).2;simp -implicitDefEqProofs[hlt,hgt,hset]
     refine Zba (λm=>⟨[(10,.int .i64 m),(9,.int .i64 j),(8,.ptr 8 0),(7,.int .i64 i),(6,.osl 24 (nums r).length),(5,.int .i64 k),(4,.vsl (rowF (nums r) (Dv r k))),(3,.vsl ((nums r).map ia)),(1,.ptr 1 0)],
      [(1,.box [.vsl (r.map isa)]),(8,.box (isa r[i])),(24,.row 1 (rowF (nums r) λn=>if n=r[i].d then dvIt (Dv r k) (max (dvN r (Dv r k) r[i].d i) 1) (r[i].its.take m) else dvN r (Dv r k) n i))]⟩) (λ_=>True) r[i].its.length (by (first|exact Yn.tm (by simp[lk,dvIt,isa])|exact Yn.sub (by simp[lk,Ya,AV.keys,dvIt,isa]) (by simp[lk,Yd,Ya,AV.keys,dvIt,isa]))) trivial ?_ ?_
     . intro m hm _;refine Qga ?_;have w2:IntKind.i64.wrap ((m:Int)+1)=((m+1:Nat):Int):=Yg (by omega) (by omega);obtain ⟨j2,hj2,hlt2,hget2⟩:=ZbA (hits m hm);have hgt2:(nums r)[j2]=r[i].its[m].1:=(List.getElem?_eq_some_iff.1 hget2).2;have bd2:=bd r[i].its[m].1;have w3:IntKind.i64.wrap (1+Dv r k r[i].its[m].1)=1+Dv r k r[i].its[m].1:=Yg (by omega) (by omega);simp -implicitDefEqProofs[isa,hm,ita,hlt,hgt];refine Qco (Zbg (nums r) _ hns) (by simp) ?_;rw[hj2];have tk:=ZbR (Dv r k) (max (dvN r (Dv r k) r[i].d i) 1) r[i].its m hm;simp -implicitDefEqProofs[hlt2,hgt2,w2,w3,hlt,hgt,hset,ZbS];refine ⟨rfl,?_⟩;rw[<- tk]
       (first|exact Yn.tm (by simp[lk,isa])|exact Yn.sub (by simp[lk,Ya,AV.keys,isa]) (by simp[lk,Yd,Ya,AV.keys,isa]))
     . intro _;refine Qga ?_;simp -implicitDefEqProofs[isa];refine Qgr ?_;simp -implicitDefEqProofs[w1]
       have e:(λn=>if n=r[i].d then dvIt (Dv r k) (max (dvN r (Dv r k) r[i].d i) 1) r[i].its else dvN r (Dv r k) n i)=λn=>dvN r (Dv r k) n (i+1):=by
        funext n
        simp only[dvN,a1];by_cases q:r[i].d=n
        . subst q;simp
        . rw[if_neg q,if_neg (λe=>q e.symm)]
       rw[e]
       (first|exact Yn.tm (by simp[lk])|exact Yn.sub (by simp[lk,Ya,AV.keys]) (by simp[lk,Yd,Ya,AV.keys]))
   . intro _;refine Qga ?_;simp -implicitDefEqProofs[];refine Qgr ?_;have w1:IntKind.i64.wrap ((k:Int)+1)=((k+1:Nat):Int):=Yg (by omega) (by omega);simp -implicitDefEqProofs[w1];have e:(λn=>dvN r (Dv r k) n r.length)=Dv r (k+1):=rfl;rw[e];refine Yn.trans (Yn.frz (λk=>k == 24) _) ?_;exact Yn.sub (by simp[lk,Ya,AV.keys,Yj,frzA,frzO,frz,Yi,St.get,ZbN]) (by simp[lk,Yd,Ya,AV.keys,Yj,frzA,frzO,frz]) (by simp[Yj,lk];try omega)
 . intro _;refine Qga ?_;have k1:¬((nums r).length:Int)+1<=(nums r).length:=(by omega);simp -implicitDefEqProofs[k1];refine Qgr ?_;simp -implicitDefEqProofs[]
end
theorem ZbU (r:List Iss):(rega r).pure=true:=by simp[rega,AV.pure]
attribute [simp] ZbU
def mostV (l:List Int) (g:Int->Int):Int:=l.foldl (λm n=>max m (g n)) 0
def chkV (r:List Iss):Int:=if Zbv r=true then
    if ((nums r).length:Int)<mostV (nums r) (Dv r ((nums r).length+1)) then 21 else if 6<mostV (nums r) (Dv r ((nums r).length+1)) then 20 else 0
 else 20
def zI:Iss:=⟨0,0,0,[],[]⟩
theorem ZbV {d l:Int}:∀ {r:List Iss} {x:Iss},findN d l r=some x->x∈r/\x.d=d/\x.l=l
 |[],x,h=>by simp[findN]at h
 | y::r,x,h=>by
   simp only[findN]at h
   split at h
   . rename_i e;cases h;exact ⟨List.mem_cons_self ..,e⟩
   . obtain ⟨h1,h2⟩:=ZbV h;exact ⟨List.mem_cons_of_mem _ h1,h2⟩
theorem ZbW (l:List Int) (g:Int->Int) (k:Nat) (h:k<l.length):mostV (l.take (k+1)) g=max (mostV (l.take k) g) (g l[k]):=by
 rw[List.take_succ_eq_append_getElem h,mostV,List.foldl_append];rfl
section
variable {G:Nat->Option (List AV)}
theorem ZbX (r:List Iss) (h:Wf r):PC Tryz.prog G 106 [rega r] (.int .i64 (chkV r)):=by
 (refine ZaP rfl λR hG hrd=>Qga ?_;subst hG)
 simp -implicitDefEqProofs[ZaN,ZaO,rega];refine Qco (ZbC r h) (by simp) ?_
 cases hL:Zbv r
 . simp -implicitDefEqProofs[show chkV r=20 by simp[chkV,hL]]
 simp -implicitDefEqProofs[];refine Qco (ZbT r h hL) (by simp) ?_;have hs:=h.1.1;unfold Sml at hs;have hl:=ZbB r;simp -implicitDefEqProofs[];refine Zba (λk=>⟨[(5,.int .i64 k),(4,.int .i64 (mostV ((nums r).take k) (Dv r ((nums r).length+1)))),(3,.vsl (rowF (nums r) (Dv r ((nums r).length+1)))),(1,.ptr 1 0)],[(1,.box [.vsl (r.map isa)])]⟩) (λ_=>True) (nums r).length (by (first|exact Yn.tm (by simp[lk,mostV])|exact Yn.sub (by simp[lk,Ya,AV.keys,mostV]) (by simp[lk,Yd,Ya,AV.keys,mostV]))) trivial ?_ ?_
 . intro k hk _;refine Qga ?_;have w1:IntKind.i64.wrap ((k:Int)+1)=((k+1:Nat):Int):=Yg (by omega) (by omega);have tk:=ZbW (nums r) (Dv r ((nums r).length+1)) k hk;simp -implicitDefEqProofs[hk,w1];rw[<- tk]
   (first|exact Yn.tm (by simp[lk])|exact Yn.sub (by simp[lk,Ya,AV.keys]) (by simp[lk,Yd,Ya,AV.keys]))
 . intro _;refine Qga ?_;simp -implicitDefEqProofs[];refine Qgr ?_;generalize hm:mostV (nums r) (Dv r ((nums r).length+1))=m;by_cases q1:((nums r).length:Int)<m
   . simp -implicitDefEqProofs[q1,show chkV r=21 by simp[chkV,hL,hm,q1]]
   by_cases q2:6<m
   . simp -implicitDefEqProofs[q1,q2,show chkV r=20 by simp[chkV,hL,hm,q1,q2]]
   . simp -implicitDefEqProofs[q1,q2,show chkV r=0 by simp[chkV,hL,hm,q1,q2]]
end
def fstOf {α:Type} (p:α->Bool) (l:List α):Int:=match l.findIdx? p with|some i=>(i:Int)|none=>-1
theorem ZbY {α:Type} {p:α->Bool} {l:List α} {i:Nat} (h:i<l.length) (hp:p l[i]=true) (hn:∀ j (h:j<l.length),j<i->p l[j]=false):fstOf p l=i:=by
 have:l.findIdx? p=some i:=by
  rw[List.findIdx?_eq_some_iff_getElem];refine ⟨h,hp,λj hj=>?_⟩;rw[hn j (by omega) hj];simp
 simp[fstOf,this]
theorem ZbZ {α:Type} {p:α->Bool} {l:List α} (hn:∀ j (h:j<l.length),p l[j]=false):fstOf p l = -1:=by
 have:l.findIdx? p=none:=List.findIdx?_eq_none_iff.2 λx hx=>by
  obtain ⟨j,hj,rfl⟩:=List.getElem_of_mem hx;exact hn j hj
 simp[fstOf,this]
theorem Zc0 {α:Type} (p:α->Bool) (l:List α):decide (0<=fstOf p l)=l.any p:=by
 unfold fstOf
 cases h:l.findIdx? p with
 | none =>
   have h2:=List.findIdx?_eq_none_iff.1 h;have:l.any p=false:=(by rw[<- Bool.not_eq_true,List.any_eq_true];rintro ⟨x,hx,hp⟩;rw[h2 x hx]at hp;cases hp);simp[this]
 | some i =>
   obtain ⟨h1,h2,-⟩:=List.findIdx?_eq_some_iff_getElem.1 h;have:l.any p=true:=List.any_eq_true.2 ⟨l[i],List.getElem_mem h1,h2⟩;simp[this]
section
variable {G:Nat->Option (List AV)}
theorem Zc1 (g:Nat) (caps:List AV) (p:Int->Bool) (l:List Int) (hc:caps.all AV.pure=true) (hl:Sml l)
  (hg:∀ x∈l,PC Tryz.prog G g (.int .i64 x::caps) (.bool (p x))) :
  PC Tryz.prog G 115 [.vsl (l.map ia),.func (.func g) [] caps] (.int .i64 (fstOf p l)):=by
 (refine Z8Y rfl λR hG hrd=>Qga ?_;subst hG)
 unfold Sml at hl;have hc2:∀ x∈caps,x.pure=true:=List.all_eq_true.1 hc;simp -implicitDefEqProofs[Z8W,Z8X];refine Zba (λi=>⟨[(8,.int .i64 i),(7,.int .i64 l.length),(0,.vsl (l.map ia)),(1,.func (.func g) [] caps)],[]⟩) (λi=>∀ j (h:j<l.length),j<i->p l[j]=false) l.length (by (first|exact Yn.tm (by simp[lk])|exact Yn.sub (by simp[lk,Ya,AV.keys]) (by simp[lk,Yd,Ya,AV.keys]))) (by simp) ?_ ?_
 . intro i hi he;refine Qga ?_;have w1:IntKind.i64.wrap ((i:Int)+1)=((i+1:Nat):Int):=Yg (by omega) (by omega);simp -implicitDefEqProofs[hi,ia];refine Ye.of (hg _ (List.getElem_mem hi)) (by simpa [AV.pure] using hc2) ?_
   cases h3:p l[i]
   . simp -implicitDefEqProofs[w1];refine ⟨(by (first|exact Yn.tm (by simp[lk])|exact Yn.sub (by simp[lk,Ya,AV.keys]) (by simp[lk,Yd,Ya,AV.keys]))),λj q1 q2=>?_⟩;by_cases e:j=i
     . subst e;exact h3
     . exact he j q1 (by omega)
   . simp -implicitDefEqProofs;refine Qgr ?_;simp -implicitDefEqProofs[ZbY hi h3 he]
 . intro he;refine Qga ?_;simp -implicitDefEqProofs[];refine Qgr ?_;simp -implicitDefEqProofs[ZbZ (p:=p) (l:=l) (λj hj=>he j hj hj)]
theorem Zc2 (g:Nat) (caps:List AV) (p:Int->Bool) (l:List Int) (hc:caps.all AV.pure=true) (hl:Sml l)
  (hg:∀ x∈l,PC Tryz.prog G g (.int .i64 x::caps) (.bool (p x))) :
  PC Tryz.prog G 91 [.vsl (l.map ia),.func (.func g) [] caps] (.bool (l.any p)):=by
 (refine Z8V rfl λR hG hrd=>Qga ?_;subst hG)
 simp -implicitDefEqProofs[Z8T,Z8U];have hc2:∀ x∈caps,x.pure=true:=List.all_eq_true.1 hc;refine Ye.of (Zc1 g caps p l hc hl hg) (by simpa [AV.pure] using hc2) ?_;have e:=Zc0 p l;simp -implicitDefEqProofs[e]
theorem Zc3 (g:Nat) (caps:List AV) (p:(Int×Int)->Bool) (l:List (Int×Int)) (hc:caps.all AV.pure=true) (hl:Sml l)
  (hg:∀ x∈l,PC Tryz.prog G g (.agg [.int .i64 x.1,.int .i64 x.2]::caps) (.bool (p x))) :
  PC Tryz.prog G 144 [.vsl (l.map ita),.func (.func g) [] caps] (.int .i64 (fstOf p l)):=by
 (refine Z9B rfl λR hG hrd=>Qga ?_;subst hG)
 unfold Sml at hl;have hc2:∀ x∈caps,x.pure=true:=List.all_eq_true.1 hc;simp -implicitDefEqProofs[Z9z,Z9A];refine Zba (λi=>⟨[(8,.int .i64 i),(7,.int .i64 l.length),(0,.vsl (l.map ita)),(1,.func (.func g) [] caps)],[]⟩) (λi=>∀ j (h:j<l.length),j<i->p l[j]=false) l.length (by (first|exact Yn.tm (by simp[lk])|exact Yn.sub (by simp[lk,Ya,AV.keys]) (by simp[lk,Yd,Ya,AV.keys]))) (by simp) ?_ ?_
 . intro i hi he;refine Qga ?_;have w1:IntKind.i64.wrap ((i:Int)+1)=((i+1:Nat):Int):=Yg (by omega) (by omega);simp -implicitDefEqProofs[hi,ita];refine Ye.of (hg _ (List.getElem_mem hi)) (by simpa [AV.pure] using hc2) ?_
   cases h3:p l[i]
   . simp -implicitDefEqProofs[w1];refine ⟨(by (first|exact Yn.tm (by simp[lk])|exact Yn.sub (by simp[lk,Ya,AV.keys]) (by simp[lk,Yd,Ya,AV.keys]))),λj q1 q2=>?_⟩;by_cases e:j=i
     . subst e;exact h3
     . exact he j q1 (by omega)
   . simp -implicitDefEqProofs;refine Qgr ?_;simp -implicitDefEqProofs[ZbY hi h3 he]
 . intro he;refine Qga ?_;simp -implicitDefEqProofs[];refine Qgr ?_;simp -implicitDefEqProofs[ZbZ (p:=p) (l:=l) (λj hj=>he j hj hj)]
theorem Zc4 (g:Nat) (caps:List AV) (p:(Int×Int)->Bool) (l:List (Int×Int)) (hc:caps.all AV.pure=true) (hl:Sml l)
  (hg:∀ x∈l,PC Tryz.prog G g (.agg [.int .i64 x.1,.int .i64 x.2]::caps) (.bool (p x))) :
  PC Tryz.prog G 120 [.vsl (l.map ita),.func (.func g) [] caps] (.bool (l.any p)):=by
 (refine Z9y rfl λR hG hrd=>Qga ?_;subst hG)
 simp -implicitDefEqProofs[Z9w,Z9x];have hc2:∀ x∈caps,x.pure=true:=List.all_eq_true.1 hc;refine Ye.of (Zc3 g caps p l hc hl hg) (by simpa [AV.pure] using hc2) ?_;have e:=Zc0 p l;simp -implicitDefEqProofs[e]
theorem Zc5 (g:Nat) (caps:List AV) (p:Dm->Bool) (l:List Dm) (hc:caps.all AV.pure=true) (hl:Sml l)
  (hg:∀ x∈l,PC Tryz.prog G g (.agg [.int .i64 x.n,.int .i64 x.l,.int .i64 x.u]::caps) (.bool (p x))) :
  PC Tryz.prog G 206 [.vsl (l.map dma),.func (.func g) [] caps] (.int .i64 (fstOf p l)):=by
 (refine Z9v rfl λR hG hrd=>Qga ?_;subst hG)
 unfold Sml at hl;have hc2:∀ x∈caps,x.pure=true:=List.all_eq_true.1 hc;simp -implicitDefEqProofs[Z9t,Z9u];refine Zba (λi=>⟨[(8,.int .i64 i),(7,.int .i64 l.length),(0,.vsl (l.map dma)),(1,.func (.func g) [] caps)],[]⟩) (λi=>∀ j (h:j<l.length),j<i->p l[j]=false) l.length (by (first|exact Yn.tm (by simp[lk])|exact Yn.sub (by simp[lk,Ya,AV.keys]) (by simp[lk,Yd,Ya,AV.keys]))) (by simp) ?_ ?_
 . intro i hi he;refine Qga ?_;have w1:IntKind.i64.wrap ((i:Int)+1)=((i+1:Nat):Int):=Yg (by omega) (by omega);simp -implicitDefEqProofs[hi,dma];refine Ye.of (hg _ (List.getElem_mem hi)) (by simpa [AV.pure] using hc2) ?_
   cases h3:p l[i]
   . simp -implicitDefEqProofs[w1];refine ⟨(by (first|exact Yn.tm (by simp[lk])|exact Yn.sub (by simp[lk,Ya,AV.keys]) (by simp[lk,Yd,Ya,AV.keys]))),λj q1 q2=>?_⟩;by_cases e:j=i
     . subst e;exact h3
     . exact he j q1 (by omega)
   . simp -implicitDefEqProofs;refine Qgr ?_;simp -implicitDefEqProofs[ZbY hi h3 he]
 . intro he;refine Qga ?_;simp -implicitDefEqProofs[];refine Qgr ?_;simp -implicitDefEqProofs[ZbZ (p:=p) (l:=l) (λj hj=>he j hj hj)]
theorem Zc6 (g:Nat) (caps:List AV) (p:Dm->Bool) (l:List Dm) (hc:caps.all AV.pure=true) (hl:Sml l)
  (hg:∀ x∈l,PC Tryz.prog G g (.agg [.int .i64 x.n,.int .i64 x.l,.int .i64 x.u]::caps) (.bool (p x))) :
  PC Tryz.prog G 203 [.vsl (l.map dma),.func (.func g) [] caps] (.bool (l.any p)):=by
 (refine Z9s rfl λR hG hrd=>Qga ?_;subst hG)
 simp -implicitDefEqProofs[Z9q,Z9r];have hc2:∀ x∈caps,x.pure=true:=List.all_eq_true.1 hc;refine Ye.of (Zc5 g caps p l hc hl hg) (by simpa [AV.pure] using hc2) ?_;have e:=Zc0 p l;simp -implicitDefEqProofs[e]
theorem Zc7 (n lo hi:Int):PC Tryz.prog G 208 [.int .i64 n,.vptr [.int .i64 lo] 0,.vptr [.int .i64 hi] 0] (.bool (!inR n lo hi)):=by
 (refine Z8S rfl λR hG hrd=>Qga ?_;subst hG)
 by_cases h1:n<lo
 . have h2:¬lo<=n:=(by omega);simp -implicitDefEqProofs[Z8Q,Z8R,h1,h2,inR]
 . have h2:lo<=n:=(by omega);by_cases h3:hi<n
   . have h4:¬n<=hi:=(by omega);simp -implicitDefEqProofs[Z8Q,Z8R,h1,h2,h3,h4,inR]
   . have h4:n<=hi:=(by omega);simp -implicitDefEqProofs[Z8Q,Z8R,h1,h2,h3,h4,inR]
theorem Zc8 (n lo hi:Int):PC Tryz.prog G 143 [.int .i64 n,.vptr [.int .i64 lo] 0,.vptr [.int .i64 hi] 0] (.bool (!inR n lo hi)):=by
 (refine Z97 rfl λR hG hrd=>Qga ?_;subst hG)
 by_cases h1:n<lo
 . have h2:¬lo<=n:=(by omega);simp -implicitDefEqProofs[Z95,Z96,h1,h2,inR]
 . have h2:lo<=n:=(by omega);by_cases h3:hi<n
   . have h4:¬n<=hi:=(by omega);simp -implicitDefEqProofs[Z95,Z96,h1,h2,h3,h4,inR]
   . have h4:n<=hi:=(by omega);simp -implicitDefEqProofs[Z95,Z96,h1,h2,h3,h4,inR]
theorem Zc9 (lo hi:Int) (l:List Int) (hl:Sml l):PC Tryz.prog G 207 [.int .i64 lo,.int .i64 hi,.vsl (l.map ia)] (.bool (l.all λn=>inR n lo hi)):=by
 (refine Z8P rfl λR hG hrd=>Qga ?_;subst hG)
 simp -implicitDefEqProofs[Z8N,Z8O]
 (first|refine Ye.flat (Zc2 208 [.vptr [.int .i64 lo] 0,.vptr [.int .i64 hi] 0] (λn=>!inR n lo hi) l (by simp[AV.pure]) hl (λn _=>Zc7 n lo hi)) (by simp[AV.flat]) (by simp) ?_|refine Yf.flat (Zc2 208 [.vptr [.int .i64 lo] 0,.vptr [.int .i64 hi] 0] (λn=>!inR n lo hi) l (by simp[AV.pure]) hl (λn _=>Zc7 n lo hi)) (by simp[AV.flat]) (by simp) ?_)
 have e:(!l.any λn=>!inR n lo hi)=l.all λn=>inR n lo hi:=by simp[List.all_eq_not_any_not]
 simp -implicitDefEqProofs[e]
theorem Zca (lo hi:Int) (n:Int):PC Tryz.prog G 119 [.int .i64 lo,.int .i64 hi,.vsl [[.int .i64 n]]] (.bool (inR n lo hi)):=by
 (refine Z94 rfl λR hG hrd=>Qga ?_;subst hG)
 simp -implicitDefEqProofs[Z92,Z93];refine Ye.flat (Zc2 143 [.vptr [.int .i64 lo] 0,.vptr [.int .i64 hi] 0] (λn=>!inR n lo hi) [n] (by simp[AV.pure]) (by simp[Sml]) (λn _=>Zc8 n lo hi)) (by simp[AV.flat]) (by simp[ia]) ?_;simp -implicitDefEqProofs[]
theorem Zcb (d:Dm):PC Tryz.prog G 205 [.agg [.int .i64 d.n,.int .i64 d.l,.int .i64 d.u]] (.int .i64 (if vd d=true then 0 else 10)):=by
 (refine Z91 rfl λR hG hrd=>Qga ?_;subst hG)
 simp -implicitDefEqProofs[Z8Z,Z90];refine Qco (Zc9 0 1000000000 [d.n,d.l,d.u] (by simp[Sml])) (by simp) ?_
 cases h1:[d.n,d.l,d.u].all λn=>inR n 0 1000000000
 . have e:vd d=false:=by
    refine decide_eq_false λh=>?_
    have:([d.n,d.l,d.u].all λn=>inR n 0 1000000000)=true:=by
     simp[inR];omega
    rw[this]at h1;cases h1
   simp -implicitDefEqProofs[e]
 . have h2:(0<=d.n/\d.n<=1000000000)/\(0<=d.l/\d.l<=1000000000)/\0<=d.u/\d.u<=1000000000:=by
    simpa [inR] using h1
   by_cases h3:d.u<d.l
   . have e:vd d=false:=decide_eq_false (by omega);simp -implicitDefEqProofs[e,h3]
   . have e:vd d=true:=decide_eq_true (by omega);simp -implicitDefEqProofs[e,h3]
theorem Zcc (x:Iss):PC Tryz.prog G 198 [.agg (isa x)] (.agg [.int .i64 x.d,.int .i64 x.l]):=by
 (refine Z9a rfl λR hG hrd=>Qga ?_;subst hG)
 simp -implicitDefEqProofs[Z98,Z99,isa]
def ck1 (x:Iss):Bool:=inR x.d 1 9999&&inR x.l 1 8
def ck2 (x:Iss):Bool:=if x.k=1 then inR x.its.length 1 8&&decide (x.dms.length=0) else inR x.k 2 3&&decide (x.dms.length<=4)&&decide (x.its.length=0)
def ck3 (x:Iss):Bool:=(List.range x.its.length).all (itOk x)
def ck4 (x:Iss):Bool:=x.dms.all vd
theorem Zcd (x:Iss):issB x=(ck1 x&&ck2 x&&ck3 x&&ck4 x):=by
 have e:headB x=(ck1 x&&ck2 x):=by
  unfold headB ck1 ck2;by_cases c1:x.k=1
  . have:inR x.k 1 3=true:=decide_eq_true (by omega);simp only[c1,if_true];rw[c1]at this;rw[this];simp
  . have:inR x.k 1 3=inR x.k 2 3:=decide_eq_decide.2 (by omega);simp only[c1,if_false,this,Bool.and_assoc]
 simp only[issB,e,ck3,ck4]
theorem Zce (x:Iss):PC Tryz.prog G 199 [.agg (isa x)] (.bool (ck1 x)):=by
 (refine Z9d rfl λR hG hrd=>Qga ?_;subst hG)
 simp -implicitDefEqProofs[Z9b,Z9c,isa];refine Qco (Zca _ _ _) (by simp) ?_
 cases q1:inR x.d 1 9999
 . simp -implicitDefEqProofs[ck1,q1]
 . simp -implicitDefEqProofs[];refine Qco (Zca _ _ _) (by simp) ?_;simp -implicitDefEqProofs[ck1,q1]
theorem Zcf (x:Iss) (hk:0<=x.k/\x.k<=255):PC Tryz.prog G 200 [.agg (isa x)] (.bool (ck2 x)):=by
 (refine Z9g rfl λR hG hrd=>Qga ?_;subst hG)
 have wk:IntKind.i64.wrap x.k=x.k:=Yg (by omega) (by omega);by_cases c1:x.k=1
 . simp -implicitDefEqProofs[Z9e,Z9f,isa,c1];refine Qco (Zca _ _ _) (by simp) ?_
   cases q1:inR x.its.length 1 8
   . simp -implicitDefEqProofs[ck2,c1,q1]
   . by_cases q2:x.dms.length=0 <;> simp -implicitDefEqProofs[ck2,c1,q1,q2]
 . simp -implicitDefEqProofs[Z9e,Z9f,isa,c1,wk];refine Qco (Zca _ _ _) (by simp) ?_
   cases q1:inR x.k 2 3
   . simp -implicitDefEqProofs[ck2,c1,q1]
   by_cases q2:x.dms.length<=4
   . have q2i:(x.dms.length:Int)<=4:=(by omega);by_cases q3:x.its.length=0 <;> simp -implicitDefEqProofs[ck2,c1,q1,q2,q2i,q3]
   . have q2i:¬(x.dms.length:Int)<=4:=(by omega);simp -implicitDefEqProofs[ck2,c1,q1,q2,q2i]
theorem Zcg (x:Iss) (h1:Sml x.its):PC Tryz.prog G 201 [.agg (isa x)] (.bool (ck3 x)):=by
 (refine Z9j rfl λR hG hrd=>Qga ?_;subst hG)
 unfold Sml at h1;simp -implicitDefEqProofs[Z9h,Z9i,isa];refine Zba (λi=>⟨[(8,.int .i64 i),(7,.int .i64 x.its.length),(6,.vsl (x.its.map ita)),(1,.ptr 1 0)],[(1,.box (isa x))]⟩) (λi=>∀ j,j<i->itOk x j=true) x.its.length (by (first|exact Yn.tm (by simp[lk,isa])|exact Yn.sub (by simp[lk,Ya,AV.keys,isa]) (by simp[lk,Yd,Ya,AV.keys,isa]))) (by simp) ?_ ?_
 . intro i hi he;refine Qga ?_;have w1:IntKind.i64.wrap ((i:Int)+1)=((i+1:Nat):Int):=Yg (by omega) (by omega);have a1:itAt x i=x.its[i]:=by simp[itAt,List.getD,hi]
   have no:itOk x i=false->ck3 x=false:=λe=>by
    cases hI:ck3 x
    . rfl
    . rw[Zbs.1 hI i hi]at e;cases e
   simp -implicitDefEqProofs[hi,isa,ita];refine Qco (Zca _ _ _) (by simp) ?_
   cases p1:inR x.its[i].1 1 9999
   . simp -implicitDefEqProofs[];refine ⟨rfl,?_⟩;refine Qgr ?_;simp -implicitDefEqProofs[no (by simp[itOk,a1,p1])]
   simp -implicitDefEqProofs[];refine Qco (Zca _ _ _) (by simp) ?_
   cases p2:inR x.its[i].2 1 20
   . simp -implicitDefEqProofs[];refine ⟨rfl,?_⟩;refine Qgr ?_;simp -implicitDefEqProofs[no (by simp[itOk,a1,p2])]
   by_cases p3:x.its[i].1=x.d
   . simp -implicitDefEqProofs[p3];refine ⟨rfl,?_⟩;refine Qgr ?_;simp -implicitDefEqProofs[no (by simp[itOk,a1,p3])]
   cases i with
   | zero =>
     have ok:itOk x 0=true:=(by simp[itOk,a1,p1,p2,p3]);have w0:IntKind.i64.wrap 1=1:=rfl;simp -implicitDefEqProofs[p3,w0];exact ⟨rfl,(by (first|exact Yn.tm (by simp[lk,isa])|exact Yn.sub (by simp[lk,Ya,AV.keys,isa]) (by simp[lk,Yd,Ya,AV.keys,isa]))),ok⟩
   | succ i =>
     have w2:IntKind.i64.wrap (i:Int)=(i:Int):=Yg (by omega) (by omega);have w3:IntKind.i64.wrap ((i:Int)+1+1)=(i:Int)+1+1:=Yg (by omega) (by omega);have k3:(0:Int)<(i:Int)+1:=(by omega);have hi2:i<x.its.length:=(by omega);have a2:itAt x i=x.its[i]:=(by simp[itAt,List.getD,hi2]);by_cases p4:x.its[i+1].1<=x.its[i].1
     . simp -implicitDefEqProofs[p3,k3,w2,hi2,ita,p4];refine ⟨rfl,?_⟩;refine Qgr ?_;simp -implicitDefEqProofs[no (by simp[itOk,a1,a2,p4])]
     . have ok:itOk x (i+1)=true:=(by simp[itOk,a1,a2,p1,p2,p3];omega);simp -implicitDefEqProofs[p3,k3,w2,w3,hi2,ita,p4];refine ⟨rfl,(by (first|exact Yn.tm (by simp[lk,isa])|exact Yn.sub (by simp[lk,Ya,AV.keys,isa]) (by simp[lk,Yd,Ya,AV.keys,isa]))),λj hj=>?_⟩;by_cases e:j=i+1
       . subst e;exact ok
       . exact he j (by omega)
 . intro he;refine Qga ?_;have hI:ck3 x=true:=Zbs.2 he;simp -implicitDefEqProofs[];refine Qgr ?_;simp -implicitDefEqProofs[hI]
theorem Zch (d:Dm):PC Tryz.prog G 204 [.agg [.int .i64 d.n,.int .i64 d.l,.int .i64 d.u]] (.bool (!vd d)):=by
 (refine Z9p rfl λR hG hrd=>Qga ?_;subst hG)
 simp -implicitDefEqProofs[Z9n,Z9o];refine Qco (Zcb d) (by simp) ?_
 cases q:vd d <;> simp -implicitDefEqProofs[]
theorem Zci (x:Iss) (h2:Sml x.dms):PC Tryz.prog G 202 [.agg (isa x)] (.bool (ck4 x)):=by
 (refine Z9m rfl λR hG hrd=>Qga ?_;subst hG)
 simp -implicitDefEqProofs[Z9k,Z9l,isa];refine Qco (Zc6 204 [] (λd=>!vd d) x.dms rfl h2 (λd _=>Zch d)) (by simp) ?_;have e:(!x.dms.any λd=>!vd d)=ck4 x:=(by simp[ck4,List.all_eq_not_any_not]);simp -implicitDefEqProofs[e]
end
def lowB (l:List Int) (n:Int):Nat:=l.countP (λx=>decide (x<n))
theorem Zcj (l:List Int) (n:Int):lowB l n<=l.length:=List.countP_le_length
theorem Zck {l:List Int} (hs:l.Pairwise (· <= ·)) (n:Int):∀ (i:Nat) (hi:i<l.length),i<lowB l n↔l[i]<n:=by
 induction l with
 |nil=>intro i hi;simp at hi
 | cons x l ih =>
   obtain ⟨h1,h2⟩:=List.pairwise_cons.1 hs;intro i hi;by_cases hx:x<n
   . have e:lowB (x::l) n=lowB l n+1:=(by simp[lowB,List.countP_cons,hx]);rw[e]
     cases i with
     |zero=>simp[hx]
     | succ i =>
       have:=ih h2 i (by simpa using hi);simp only[List.getElem_cons_succ];rw[<- this];omega
   . have z:lowB l n=0:=by
      unfold lowB;rw[List.countP_eq_zero];intro y hy;have:=h1 y hy;simp;omega
     have e:lowB (x::l) n=0:=by
      have:lowB (x::l) n=lowB l n:=(by simp[lowB,List.countP_cons,hx]);omega
     rw[e]
     have hge:∀ (i:Nat) (hi:i<(x::l).length),x<=(x::l)[i]:=λi hi=>by
      cases i with
      |zero=>exact Int.le_refl _
      |succ i=>exact h1 _ (List.getElem_mem _)
     have:=hge i hi
     constructor
     . intro h;omega
     . intro h;omega
theorem Zcl {l:List Int} (hs:l.Pairwise (· < ·)):l.Pairwise (· <= ·):=hs.imp λh=>Int.le_of_lt h
theorem Zcm {l:List Int} (hs:l.Pairwise (· <= ·)) (n:Int):n∈l↔l[lowB l n]? = some n:=by
 constructor
 . intro hm;obtain ⟨j,hj,he⟩:=List.getElem_of_mem hm;have h1:¬j<lowB l n:=λh=>by have:=(Zck hs n j hj).1 h;omega
   have h2:lowB l n<l.length:=(by omega);rw[List.getElem?_eq_getElem h2];have h3:¬l[lowB l n]<n:=λh=>by have:=(Zck hs n _ h2).2 h;omega
   have h4:l[lowB l n]<=l[j]:=by
    by_cases e:lowB l n=j
    . simp[e]
    . exact List.pairwise_iff_getElem.1 hs _ _ h2 hj (by omega)
   congr 1;omega
 . intro h;exact List.mem_of_getElem? h
theorem Zcn {i j:Nat} (h:i+j<=33554432):IntKind.i64.wrap ((IntKind.u64.wrap (IntKind.i64.wrap ((i:Int)+j))).fdiv (2 ^ (min 1 IntKind.u64.bits)))=(((i+j) / 2:Nat):Int):=by
 show IntKind.i64.wrap ((IntKind.u64.wrap (IntKind.i64.wrap ((i:Int)+j))).fdiv (2 ^ (min 1 64)))=(((i+j) / 2:Nat):Int);have e1:IntKind.i64.wrap ((i:Int)+j)=((i+j:Nat):Int):=by rw[Yg (by omega) (by omega)];omega
 have e2:IntKind.u64.wrap (((i+j:Nat):Int))=((i+j:Nat):Int):=by
  have:=IntWalk.u64_in (((i+j:Nat):Int)) ⟨by omega,by omega⟩;exact this
 rw[e1,e2]
 have e3:(((i+j:Nat):Int)).fdiv (2 ^ (min 1 64))=(((i+j) / 2:Nat):Int):=by
  rw[Int.fdiv_eq_ediv_of_nonneg _ (by decide)];simp
 rw[e3,Yg (by omega) (by omega)]
section
variable {G:Nat->Option (List AV)}
theorem Zco (n:Int):PC Tryz.prog G 142 [.int .i64 n] (.bool false):=by
 (refine Z9Q rfl λR hG hrd=>Qga ?_;subst hG)
 simp -implicitDefEqProofs[Z9O,Z9P]
theorem Zcp (n:Int):PC Tryz.prog G 157 [.int .i64 n] (.bool false):=by
 (refine Z9T rfl λR hG hrd=>Qga ?_;subst hG)
 simp -implicitDefEqProofs[Z9R,Z9S]
theorem Zcq (a b:Int):PC Tryz.prog G 130 [.int .i64 a,.int .i64 b] (.bool (decide (a<b))):=by
 (refine Z9N rfl λR hG hrd=>Qga ?_;subst hG)
 by_cases h:a<b
 . simp -implicitDefEqProofs[Z9L,Z9M,h]
   try refine Qco (Zco a) (by simp) ?_
   try simp -implicitDefEqProofs[h]
 . simp -implicitDefEqProofs[Z9L,Z9M,h]
   try refine Qco (Zco a) (by simp) ?_
   try simp -implicitDefEqProofs[h]
theorem Zcr (l:List Int) (n:Int) (hs:l.Pairwise (· <= ·)) (hl:Sml l):PC Tryz.prog G 145 [.vsl (l.map ia),.int .i64 n] (.tup [.int .i64 (lowB l n),.bool (decide (n∈l))]):=by
 (refine Z9K rfl λR hG hrd=>Qga ?_;subst hG)
 unfold Sml at hl;have hle:=Zcj l n;simp -implicitDefEqProofs[Z9I,Z9J];refine Z1Q (λp:Nat×Nat=>⟨[(8,.int .i64 p.2),(7,.int .i64 p.1),(6,.int .i64 l.length),(0,.vsl (l.map ia)),(1,.int .i64 n)],[]⟩) (λp=>p.1<=lowB l n/\lowB l n<=p.2/\p.2<=l.length) (λp=>p.2-p.1) (0,l.length) (by (first|exact Yn.tm (by simp[lk])|exact Yn.sub (by simp[lk,Ya,AV.keys]) (by simp[lk,Yd,Ya,AV.keys]))) ⟨by omega,hle,Nat.le_refl _⟩ ?_;rintro ⟨lo,hi⟩ ⟨h1,h2,h3⟩;simp only at h1 h2 h3;refine Qga ?_;by_cases h4:lo<hi
 . obtain ⟨m,hm⟩ : ∃ m,m=(lo+hi) / 2:=⟨_,rfl⟩;have hw:=Zcn (i:=lo) (j:=hi) (by omega);rw[<- hm]at hw;have m1:m<l.length:=(by omega);have w1:IntKind.i64.wrap ((m:Int)+1)=((m+1:Nat):Int):=Yg (by omega) (by omega);have hb:=Zck hs n m m1;by_cases h5:l[m]<n
   . simp -implicitDefEqProofs[h4,hw,m1,ia];refine Qco (Zcq _ _) (by simp) ?_;simp -implicitDefEqProofs[h5,w1];exact ⟨(m+1,hi),(by (first|exact Yn.tm (by simp[lk])|exact Yn.sub (by simp[lk,Ya,AV.keys]) (by simp[lk,Yd,Ya,AV.keys]))),⟨by have:=hb.2 h5;show m+1<=_;omega,h2,h3⟩,by show hi-(m+1)<hi-lo;omega⟩
   . simp -implicitDefEqProofs[h4,hw,m1,ia];refine Qco (Zcq _ _) (by simp) ?_;simp -implicitDefEqProofs[h5];exact ⟨(lo,m),(by (first|exact Yn.tm (by simp[lk])|exact Yn.sub (by simp[lk,Ya,AV.keys]) (by simp[lk,Yd,Ya,AV.keys]))),⟨h1,by have:¬m<lowB l n:=λh=>h5 (hb.1 h);show lowB l n<=m;omega,by show m<=_;omega⟩,by show m-lo<hi-lo;omega⟩
 . obtain rfl:lo=lowB l n:=(by omega);have hmem:=Zcm hs n;by_cases h5:lowB l n<l.length
   . by_cases h6:l[lowB l n]=n
     . have e:n∈l:=hmem.2 (by rw[List.getElem?_eq_getElem h5,h6]);simp -implicitDefEqProofs[h4];refine Qgr ?_;simp -implicitDefEqProofs[h5,ia,h6,e]
     . have e:¬n∈l:=λh=>h6 (by have:=hmem.1 h;rw[List.getElem?_eq_getElem h5]at this;exact Option.some.inj this)
       simp -implicitDefEqProofs[h4];refine Qgr ?_;simp -implicitDefEqProofs[h5,ia,h6];refine Qco (Zcp _) (by simp) ?_;simp -implicitDefEqProofs[e]
   . have e:¬n∈l:=λh=>by have:=hmem.1 h;rw[List.getElem?_eq_none (by omega)]at this;cases this
     simp -implicitDefEqProofs[h4];refine Qgr ?_;simp -implicitDefEqProofs[h5,e]
end
open Qq in
def Zcs:RCode :=
 .seq (R 0 [l 9 1,a [0] (w 10 (.nilck (.t 9))),a [1] (f 11 0 10),a [2] (f 12 0 11),a [3] (l 13 12),l 14 2,a [4,5] (w 15 (.call 159 [.t 13,.t 14,.c (.func (.func 160) [] [])])),a [6] (m 8 15),a [7] (x 16 0 8),a [7] (x 17 1 8),a [8,6,0,1,2,3,4,5,6,7,8] (m 4 16),a [9,10,0,1,2,3,4,5,6,7,8,9,10] (m 5 17)]) (.seq (r 1 [l 18 1,w 19 (.nilck (.t 18)),f 20 0 19,f 21 0 20,l 22 21,m 23 4,w 24 (.slc 5 (.t 22) (some (.t 23)) none),e 25 24,n 26 O]) (.block 0 (.loop (.seq (r 2 [o 27 .lss 26 25]) (.seq (.cond (.t 27) .skip (.exit 0)) (.seq (.block 1 (.seq (r 3 [i 28 5 24 26,L 29 5 28,w 7 (.alloc [O,O,.int .u8 0,.nils,.nils]),s 5 7 29]) (.seq (r 4 [f 30 0 7,l 31 30,l 32 2,o 33 .neq 31 32,m 34 33,g 34 false (m 35 0),g 34 false (L 36 5 7),g 34 false (w 37 (.callv (.t 35) [.t 36])),g 34 false (t 38 37),u 39 34 38]) (.cond (.t 39) .ret .skip)))) (r 5 [k 40 .add 26 I,m 26 40])))))))
section
variable {P:Program} {N:Nat} {c:Code}
theorem Zct {a b:RCode} (h:Z1A P N c (.seq a b)=true):∃ c1 c2,c = .seq c1 c2/\Z1A P N c1 a=true/\Z1A P N c2 b=true:=by
 cases c <;> simp only[Z1A,Bool.false_eq_true,Bool.and_eq_true]at h
 exact ⟨_,_,rfl,h.1,h.2⟩
theorem Zcu {id:Nat} {a:RCode} (h:Z1A P N c (.block id a)=true):∃ c1,c = .block id c1/\Z1A P N c1 a=true:=by
 cases c <;> simp only[Z1A,Bool.false_eq_true,Bool.and_eq_true,beq_iff_eq]at h
 obtain ⟨rfl,h⟩:=h;exact ⟨_,rfl,h⟩
theorem Zcv {a:RCode} (h:Z1A P N c (.loop a)=true):∃ c1,c = .loop c1/\Z1A P N c1 a=true:=by
 cases c <;> simp only[Z1A,Bool.false_eq_true]at h
 exact ⟨_,rfl,h⟩
theorem Zcw {id:Nat} {rs:List ROper} (h:Z1A P N c (.reg id false rs)=true):∃ ops,c = .region id ops false/\allB2 (Z1z P N ops) ops.toList rs=true:=by
 cases c <;> simp only[Z1A,Bool.false_eq_true,Bool.and_eq_true,beq_iff_eq]at h
 obtain ⟨⟨⟨rfl,rfl⟩,h⟩,-⟩:=h;exact ⟨_,rfl,h⟩
end
section
variable {P:Program} {R:Run} {rd:Option Nat} {m:Nat} {ops:Array Oper} {Q:Exit->Act->World->Prop}
theorem Zcx (l2:List Nat):∀ (l:List Nat) (rs':List ROper) (st:St) (K:St->Prop) (a:Act) (W:World),
  (∀ (i:Nat) (r:ROper),rs'[i]? = some r->∃ (j:Nat) (o:Oper),l[i]? = some j/\ops[j]? = some o/\Z1z P R.N ops o r=true)->l.length=rs'.length->(∀ st' a' W',K st'->SR R st' a' W'->wpOpsIn (FW rd) m P ops Q l2 a' W') ->
  RW P R.G rs' st (λe s=>e = .normal/\K s)->SR R st a W->wpOpsIn (FW rd) m P ops Q (l++l2) a W:=by
 intro l
 induction l with
 | nil =>
   intro rs' st K a W hok hl hK hr hs
   cases rs' with
   |nil=>exact hK st a W hr.2 hs
   |cons r rs'=>simp at hl
 | cons j l ih =>
   intro rs' st K a W hok hl hK hr hs
   cases rs' with
   |nil=>simp at hl
   | cons r rs' =>
     obtain ⟨j',o,hj,ho,hk⟩:=hok 0 r rfl;simp at hj;subst hj
     have go:∀ (st':St) (a':Act) (W':World),RW P R.G rs' st' (λe s=>e = .normal/\K s)->SR R st' a' W'->wpOpsIn (FW rd) m P ops Q (l++l2) a' W':=λst' a' W' h2 hs' =>
      ih rs' st' K a' W' (λi r hi=>by simpa using hok (i+1) r (by simpa using hi)) (by simpa using hl) hK h2 hs'
     rw[List.cons_append,wpOpsIn_cons];rcases Z22 hr with ⟨st',h1,h2⟩ | ⟨hw,g,args,hi,hc⟩
     . exact Z26 h1 ho hk hs λa' W' hs'=>go st' a' W' h2 hs'
     . obtain ⟨κ,hκ⟩:=hs;have hk0:=hk;simp only[Z1z,Bool.and_eq_true,decide_eq_true_eq]at hk;obtain ⟨⟨⟨hd,hdn⟩,-⟩,-⟩:=hk;have hdn':∀ n,r.d=some n->n<R.N:=λn e=>by rw[e]at hdn;simpa using hdn
       refine Z25 hi hw ho hk0 hκ λvs ha=>?_
       rcases hc with ⟨v,st1,hc,hn⟩ | ⟨ch,hc,hn⟩
       . obtain ⟨h1,h2⟩:=hc R a W κ vs rfl hκ ha;refine ⟨h1,h2.mono ?_⟩;rintro e W' ⟨u,κ1,rfl,h3,h4⟩;refine go _ _ _ hn ⟨κ1,?_⟩;rw[hd];exact h3.putd hdn' h4
       . exact absurd hn.1 (by simp)
end
def Zcy (M:Nat->Prop) (W:World) (N:Nat) (rd:Option Nat):Run :=
 { G:=λ_=>none,M:=M,X:=λ_=>False,W0:=W,N:=N,E0:={ M:=M,loc:=λ_=>none,row:=λ_=>none },rd:=rd,nm:=true }
def TT' (M:Nat->Prop) (W:World) (t:List (Nat×AV)) (a:Act):Prop:=∀ n x,lk t n=some x->PV M W x (a.tmps.getD n Go.undef)
theorem Zcz {M:Nat->Prop} {W:World} {N:Nat} {rd:Option Nat} {t:List (Nat×AV)} {a:Act} (hM:∀ b,M b->b<W.heap.size) (hd:a.defers=[]) (hN:a.tmps.size=N) (ht:TT' M W t a):SR (Zcy M W N rd) ⟨t,[]⟩ a W:=by
 have hGM:∀ b,b<W.heap.size->¬M b->¬((⟨t,[]⟩ : St).env M (λ_=>none)).M b/\W.heap[b]? = W.heap[b]?:=λb _ h1=>⟨(by rintro (h2 | ⟨k,s,h2⟩) <;> first|exact h1 h2|cases h2),rfl⟩
 refine ⟨λ_=>none,⟨[],by simp[hd,Zcy],.nil,by simp,λ_=>rfl⟩,hN,λn x hx=>.pv ((ht n x hx).mono hGM (Nat.le_refl _)),(λk o ho=>by simp[St.get,lk]at ho),(λk p hk=>by cases hk),(λk k' b s s' hk=>by cases hk),hM,λ_ _ h=>h,Kp.refl _ _,(λg cs hg=>by cases hg),⟨Nat.le_refl _,hGM,λk p hk=>(by cases hk),λk sz m hk=>(by cases hk)⟩,λ_ _=>⟨rfl,rfl⟩⟩
theorem ZcA {M:Nat->Prop} {W W':World} {N:Nat} {rd:Option Nat} {st:St} {a:Act} (h:SR (Zcy M W N rd) st a W') {t:List (Nat×AV)} (hw:Yn st ⟨t,[]⟩) (hp:∀ q∈t,q.2.pure=true) :
  a.defers=[]/\a.tmps.size=N/\TT' M W' t a/\Ext W W':=by
 obtain ⟨κ,hk⟩:=hw _ _ _ h;obtain ⟨cs,e,-,-,hz⟩:=hk.defers
 have hκ:∀ k,κ k=none:=λk=>by
  cases e:κ k with
  |none=>rfl
  |some p=>obtain ⟨o,ho⟩:=hk.dom k p e;simp[St.get,lk]at ho
 refine ⟨by rw[e,hz rfl];rfl,hk.size,λn x hx=>?_,⟨hk.kp.os,hk.kp.tape,hk.kp.output,hk.kp.size,λi hi=>hk.kp.block i hi (λh=>h)⟩⟩;refine ((hk.tm n x hx).toPV (hp (n,x) (Z4E hx))).mono (λb _ hb=>⟨λh=>hb (.inl h),rfl⟩) (Nat.le_refl _)
end Go.Proofs.YtjogcghofinemaaGreatDoor
