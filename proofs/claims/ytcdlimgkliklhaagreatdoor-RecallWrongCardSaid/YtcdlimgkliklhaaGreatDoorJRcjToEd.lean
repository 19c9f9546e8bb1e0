/-
  The abstract machine's code of functions of the program, as a program of ours printed it; that it is theirs is proved beside each.
-/
import Derived.Test.YtcdlimgkliklhaaGreatDoorJAmLToAmW
import Derived.Test.YtcdlimgkliklhaaGreatDoorProg
import Derived.IntWalk
set_option linter.all false
set_option maxHeartbeats 8000000
namespace Go.Proofs.YtcdlimgkliklhaaGreatDoor
open Tryz (prog)
open IntKind (i64)
open Go.RowKit
variable {G:Jg}
section
open Qq Tryz
def Z5t:RCode :=
 S [r 0 [w 4 (.alloc [O,O])],r 1 [m 5 0,m 6 1,w 7 (.build [O,O] [(0,1,.t 5),(1,1,.t 6)]),s 2 4 7],.ret]
def Z5u:List RRes:=[.c 4 true 2]
def Z5v:PCt prog 47 f47 Z5t Z5u:=pcT func47 rfl
def Z5w:RCode :=
 S [r 0 [b 7 3,w 8 (.alloc [O,O,O,O,O,O,.int .u8 0])],r 1 [m 9 0,m 10 1,m 11 2,L 12 2 7,w 13 (.build [O,O,O,O,O,O,.int .u8 0] [(0,1,.t 9),(1,1,.t 10),(2,1,.t 11),(3,2,.t 12),(5,1,.c (.int .i64 (-1)))]),s 7 8 13],.ret]
def Z5x:List RRes:=[.c 8 true 7]
def Z5y:PCt prog 48 f48 Z5w Z5x:=pcT func48 rfl
def Z5z:RCode :=
 S [r 0 [w 0 (.alloc [.nils,.nils])],r 1 [w 1 (.build [O,O] [(0,1,.c (.int .i64 20)),(1,1,.c (.int .i64 2))]),w 2 (.build [O,O] [(0,1,.c (.int .i64 30)),(1,1,.c I)]),w 3 (.bsl false 2 2 [O,O,O,O] [(0,.t 1),(1,.t 2)]),w 4 (.build [O,O,.int .u8 0,.nils,.nils] [(0,1,.c (.int .i64 10)),(1,1,.c I),(2,1,.c (.int .u8 1)),(3,1,.t 3)]),w 5 (.build [O,O] [(0,1,.c (.int .i64 20)),(1,1,.c I)]),w 6 (.build [O,O] [(0,1,.c (.int .i64 30)),(1,1,.c (.int .i64 2))]),w 7 (.build [O,O] [(0,1,.c (.int .i64 40)),(1,1,.c (.int .i64 2))]),w 8 (.bsl false 2 3 [O,O,O,O,O,O] [(0,.t 5),(1,.t 6),(2,.t 7)]),w 9 (.build [O,O,.int .u8 0,.nils,.nils] [(0,1,.c (.int .i64 10)),(1,1,.c (.int .i64 2)),(2,1,.c (.int .u8 1)),(3,1,.t 8)]),w 10 (.build [O,O] [(0,1,.c (.int .i64 30)),(1,1,.c (.int .i64 3))]),w 11 (.build [O,O] [(0,1,.c (.int .i64 50)),(1,1,.c I)]),w 12 (.bsl false 2 2 [O,O,O,O] [(0,.t 10),(1,.t 11)]),w 13 (.build [O,O,.int .u8 0,.nils,.nils] [(0,1,.c (.int .i64 20)),(1,1,.c I),(2,1,.c (.int .u8 1)),(3,1,.t 12)]),w 14 (.build [O,O,O] [(0,1,.c (.int .i64 150)),(1,1,.c (.int .i64 100)),(2,1,.c (.int .i64 200))]),w 15 (.bsl false 3 1 [O,O,O] [(0,.t 14)]),w 16 (.build [O,O,.int .u8 0,.nils,.nils] [(0,1,.c (.int .i64 30)),(1,1,.c I),(2,1,.c (.int .u8 2)),(4,1,.t 15)]),w 17 (.build [O,O,O] [(0,1,.c (.int .i64 150)),(1,1,.c (.int .i64 120)),(2,1,.c (.int .i64 200))]),w 18 (.bsl false 3 1 [O,O,O] [(0,.t 17)]),w 19 (.build [O,O,.int .u8 0,.nils,.nils] [(0,1,.c (.int .i64 30)),(1,1,.c (.int .i64 2)),(2,1,.c (.int .u8 2)),(4,1,.t 18)]),w 20 (.build [O,O,.int .u8 0,.nils,.nils] [(0,1,.c (.int .i64 40)),(1,1,.c I),(2,1,.c (.int .u8 2))]),w 21 (.build [O,O,.int .u8 0,.nils,.nils] [(0,1,.c (.int .i64 50)),(1,1,.c I),(2,1,.c (.int .u8 3))]),w 22 (.bsl false 5 7 [O,O,.int .u8 0,.nils,.nils,O,O,.int .u8 0,.nils,.nils,O,O,.int .u8 0,.nils,.nils,O,O,.int .u8 0,.nils,.nils,O,O,.int .u8 0,.nils,.nils,O,O,.int .u8 0,.nils,.nils,O,O,.int .u8 0,.nils,.nils] [(0,.t 4),(1,.t 9),(2,.t 13),(3,.t 16),(4,.t 19),(5,.t 20),(6,.t 21)]),w 23 (.build [.nils] [(0,1,.t 22)]),w 24 (.build [O,O,.int .u8 0,O,O,O,O,O,.bool false,.int .u8 0] [(0,1,.c (.int .i64 101)),(1,1,.c (.int .i64 100)),(2,1,.c (.int .u8 2)),(3,1,.c (.int .i64 30)),(4,1,.c (.int .i64 2)),(5,1,.c (.int .i64 5)),(6,1,.c (.int .i64 999))]),w 25 (.build [O,O,.int .u8 0,O,O,O,O,O,.bool false,.int .u8 0] [(0,1,.c (.int .i64 102)),(1,1,.c (.int .i64 200)),(2,1,.c (.int .u8 1)),(3,1,.c (.int .i64 10)),(4,1,.c (.int .i64 2)),(5,1,.c (.int .i64 8)),(6,1,.c (.int .i64 20))]),w 26 (.build [O,O,.int .u8 0,O,O,O,O,O,.bool false,.int .u8 0] [(0,1,.c (.int .i64 103)),(1,1,.c (.int .i64 300)),(2,1,.c (.int .u8 2)),(5,1,.c (.int .i64 10)),(6,1,.c (.int .i64 12)),(7,1,.c (.int .i64 101))]),w 27 (.build [O,O,.int .u8 0,O,O,O,O,O,.bool false,.int .u8 0] [(0,1,.c (.int .i64 104)),(1,1,.c (.int .i64 400)),(2,1,.c (.int .u8 2)),(3,1,.c (.int .i64 30)),(4,1,.c I),(5,1,.c (.int .i64 15)),(6,1,.c (.int .i64 15))]),w 28 (.bsl false 10 4 [O,O,.int .u8 0,O,O,O,O,O,.bool false,.int .u8 0,O,O,.int .u8 0,O,O,O,O,O,.bool false,.int .u8 0,O,O,.int .u8 0,O,O,O,O,O,.bool false,.int .u8 0,O,O,.int .u8 0,O,O,O,O,O,.bool false,.int .u8 0] [(0,.t 24),(1,.t 25),(2,.t 26),(3,.t 27)]),w 29 (.build [.nils,.nils] [(0,1,.t 23),(1,1,.t 28)]),s 2 0 29],.ret]
def Z5A:List RRes:=[.c 0 true 2]
def Z5B:PCt prog 110 f110 Z5z Z5A:=pcT func110 rfl
def Z5C:RCode :=
 S [r 0 [w 0 (.alloc [.nils,.nils,.nils,.nils])],r 1 [w 3 (.call 47 [.c (.int .i64 30),.c I]),w 4 (.call 48 [.c (.int .i64 4),.c (.int .i64 10),.c (.int .i64 3),.t 3]),w 5 (.call 47 [.c (.int .i64 10),.c I]),w 6 (.call 48 [.c (.int .i64 7),.c (.int .i64 10),.c I,.t 5]),w 1 (.alloc [O,O,O,O,O,O,.int .u8 0]),w 2 (.alloc [O,O,O,O,O,O,.int .u8 0]),s 7 1 4,s 7 2 6],r 2 [f 7 6 1,z (.store 1 (.t 7) (.c (.int .u8 1))),f 8 5 2,z (.store 1 (.t 8) (.c (.int .i64 205)))],R 3 [c 9 110 [],w 10 (.bsl false 1 2 [O,O] [(0,.c (.int .i64 10)),(1,.c (.int .i64 30))]),a [1] (w 11 (.build [O,O,O,.nils] [(0,1,.c I),(1,1,.c (.int .i64 6)),(2,1,.c (.int .i64 9)),(3,1,.t 10)])),w 12 (.bsl false 1 1 [O] [(0,.c (.int .i64 30))]),a [3] (w 13 (.build [O,O,O,.nils] [(0,1,.c (.int .i64 2)),(1,1,.c (.int .i64 16)),(2,1,.c (.int .i64 999)),(3,1,.t 12)])),w 14 (.bsl false 1 2 [O,O] [(0,.c (.int .i64 10)),(1,.c (.int .i64 30))]),a [5] (w 15 (.build [O,O,O,.nils] [(0,1,.c (.int .i64 3)),(1,1,.c (.int .i64 418)),(2,1,.c (.int .i64 418)),(3,1,.t 14)])),a [2,4,6] (w 16 (.bsl false 4 3 [O,O,O,.nils,O,O,O,.nils,O,O,O,.nils] [(0,.t 11),(1,.t 13),(2,.t 15)])),a [0] (w 17 (.call 47 [.c (.int .i64 30),.c I])),a [8,8] (w 18 (.call 48 [.c I,.c (.int .i64 10),.c I,.t 17])),a [9] (w 19 (.call 47 [.c (.int .i64 30),.c (.int .i64 2)])),a [10,10] (w 20 (.call 48 [.c (.int .i64 2),.c (.int .i64 120),.c I,.t 19])),a [11] (w 21 (.call 47 [.c (.int .i64 30),.c I])),a [12,12] (w 22 (.call 48 [.c (.int .i64 3),.c (.int .i64 10),.c (.int .i64 2),.t 21])),L 23 7 1,a [13] (w 24 (.call 47 [.c (.int .i64 10),.c I])),a [15,15] (w 25 (.call 48 [.c (.int .i64 5),.c (.int .i64 10),.c (.int .i64 3),.t 24])),a [16] (w 26 (.call 47 [.c (.int .i64 10),.c (.int .i64 2)])),a [17,17] (w 27 (.call 48 [.c (.int .i64 6),.c (.int .i64 210),.c I,.t 26])),L 28 7 2,a [9,11,13,14,16,18,19] (w 29 (.bsl false 7 7 [O,O,O,O,O,O,.int .u8 0,O,O,O,O,O,O,.int .u8 0,O,O,O,O,O,O,.int .u8 0,O,O,O,O,O,O,.int .u8 0,O,O,O,O,O,O,.int .u8 0,O,O,O,O,O,O,.int .u8 0,O,O,O,O,O,O,.int .u8 0] [(0,.t 18),(1,.t 20),(2,.t 22),(3,.t 23),(4,.t 25),(5,.t 27),(6,.t 28)])),a [0,7,20] (w 30 (.build [.nils,.nils,.nils,.nils] [(0,2,.t 9),(2,1,.t 16),(3,1,.t 29)])),a [21,18,0,1,2,3,4,5,6,7,8,9,10,11,12,13,14,15,16,17,18,19,20,21] (s 4 0 30)],.ret]
def Z5D:List RRes:=[.c 0 true 4]
def Z5E:PCt prog 45 f45 Z5C Z5D:=pcT func45 rfl
def Z5F:RCode :=
 S [r 0 [n 6 (.bool false)],r 1 [m 7 1,k 8 .eql 7 O,m 9 8,g 9 true (m 10 0),g 9 true (m 11 2),g 9 true (c 12 25 [10,11]),v 13 9 12,m 6 13],.ret]
def Z5G:List RRes:=[.t 6]
def Z5H:PCt prog 46 f46 Z5F Z5G:=pcT func46 rfl
def Z5I:RCode :=
 S [r 0 [n 8 (.bool false)],r 1 [c 12 45 [],m 13 0,m 14 1,m 15 2,w 16 (.call 31 [.t 12,.c (.int .i64 300),.t 13,.t 14,.t 15]),m 11 16,x 17 0 11,x 18 1 11,m 9 17,m 10 18],r 2 [m 19 10,k 20 .eql 19 O,m 21 20,g 21 true (m 22 9),g 21 true (m 23 3),g 21 true (o 24 .eql 22 23),v 25 21 24,m 8 25],.ret]
def Z5J:List RRes:=[.t 8]
def Z5K:PCt prog 109 f109 Z5I Z5J:=pcT func109 rfl
def Z5L:RCode :=
 S [r 0 [n 0 (.bool false)],r 1 [c 26 45 [],w 27 (.call 19 [.t 26,.c (.int .i64 300),.c (.int .i64 3)]),m 25 27,x 28 0 25,x 29 1 25,x 30 2 25,m 1 28,m 2 29,m 3 30],r 2 [c 32 45 [],w 33 (.call 21 [.t 32,.c (.int .i64 300),.c (.int .i64 3),.c (.int .i64 30)]),m 31 33,x 34 0 31,x 35 1 31,m 4 34,m 5 35],r 3 [c 37 45 [],w 38 (.call 27 [.t 37,.c I,.c (.int .i64 10)]),m 36 38,x 39 0 36,x 40 1 36,m 6 39,m 7 40],r 4 [c 42 45 [],w 43 (.call 29 [.t 42,.c (.int .i64 300),.c I]),m 41 43,x 44 0 41,x 45 1 41,m 8 44,m 9 45],r 5 [c 47 45 [],w 48 (.call 34 [.t 47,.c (.int .i64 300)]),m 46 48,x 49 0 46,x 50 1 46,m 10 49,m 11 50],r 6 [c 52 45 [],w 53 (.call 36 [.t 52,.c (.int .i64 300)]),m 51 53,x 54 0 51,x 55 1 51,x 56 2 51,m 12 54,m 13 55,m 14 56],r 7 [c 58 45 [],w 59 (.call 38 [.t 58,.c (.int .i64 300)]),m 57 59,x 60 0 57,x 61 1 57,m 15 60,m 16 61],r 8 [c 63 45 [],w 64 (.bsl false 1 1 [O] [(0,.c I)]),w 65 (.call 40 [.t 63,.c (.int .i64 300),.t 64,.c .nils]),m 62 65,x 66 0 62,x 67 1 62,w 17 (.alloc [.nils,.nils,.nils,.nils]),s 4 17 66,m 18 67],r 9 [L 69 4 17,w 70 (.call 34 [.t 69,.c (.int .i64 300)]),m 68 70,x 71 0 68,x 72 1 68,m 19 71,m 20 72],r 10 [c 74 45 [],w 75 (.call 47 [.c (.int .i64 10),.c I]),w 76 (.call 48 [.c (.int .i64 8),.c (.int .i64 300),.c I,.t 75]),c 77 42 [74,76],m 73 77,x 78 0 73,x 79 1 73,w 21 (.alloc [.nils,.nils,.nils,.nils]),s 4 21 78,m 22 79],r 11 [L 81 4 21,w 82 (.call 29 [.t 81,.c (.int .i64 300),.c I]),m 80 82,x 83 0 80,x 84 1 80,m 23 83,m 24 84],S [r 12 [m 85 1,m 86 3,w 87 (.bsl false 1 1 [O] [(0,.c (.int .i64 5))]),c 88 46 [85,86,87],t 89 88,m 90 89,g 90 false (m 91 2),g 90 false (m 92 3),g 90 false (w 93 (.bsl false 1 1 [O] [(0,.c (.int .i64 4))])),g 90 false (c 94 46 [91,92,93]),g 90 false (t 95 94),u 96 90 95,m 97 96,g 97 false (m 98 4),g 97 false (m 99 5),g 97 false (w 100 (.bsl false 1 2 [O,O] [(0,.c O),(1,.c I)])),g 97 false (c 101 46 [98,99,100]),g 97 false (t 102 101),u 103 97 102,m 104 103,g 104 false (m 105 6),g 104 false (m 106 7),g 104 false (w 107 (.bsl false 1 2 [O,O] [(0,.c I),(1,.c (.int .i64 2))])),g 104 false (c 108 46 [105,106,107]),g 104 false (t 109 108),u 110 104 109,m 111 110,g 111 false (m 112 9),g 111 false (k 113 .neq 112 O),u 114 111 113,m 115 114,g 115 false (m 116 8),g 115 false (w 117 (.call 47 [.c (.int .i64 10),.c I])),g 115 false (w 118 (.bsl false 2 1 [O,O] [(0,.t 117)])),g 115 false (c 119 33 [116,118]),g 115 false (t 120 119),u 121 115 120,m 122 121,g 122 false (m 123 10),g 122 false (m 124 11),g 122 false (w 125 (.bsl false 1 3 [O,O,O] [(0,.c I),(1,.c (.int .i64 3)),(2,.c (.int .i64 4))])),g 122 false (c 126 46 [123,124,125]),g 122 false (t 127 126),u 128 122 127,m 129 128,g 129 false (m 130 12),g 129 false (m 131 14),g 129 false (w 132 (.call 46 [.t 130,.t 131,.c .nils])),g 129 false (t 133 132),u 134 129 133,m 135 134,g 135 false (m 136 13),g 135 false (m 137 14),g 135 false (w 138 (.bsl false 1 1 [O] [(0,.c (.int .i64 30))])),g 135 false (c 139 46 [136,137,138]),g 135 false (t 140 139),u 141 135 140,m 142 141,g 142 false (m 143 15),g 142 false (m 144 16),g 142 false (w 145 (.bsl false 1 1 [O] [(0,.c I)])),g 142 false (c 146 46 [143,144,145]),g 142 false (t 147 146),u 148 142 147,m 149 148,g 149 false (m 150 18),g 149 false (k 151 .neq 150 O),u 152 149 151,m 153 152,g 153 false (m 154 19),g 153 false (m 155 20),g 153 false (w 156 (.bsl false 1 2 [O,O] [(0,.c (.int .i64 3)),(1,.c (.int .i64 4))])),g 153 false (c 157 46 [154,155,156]),g 153 false (t 158 157),u 159 153 158],K 159 13 [n 0 (.bool false)]],r 14 [m 160 22,k 161 .eql 160 O,m 162 161,g 162 true (m 163 24),g 162 true (k 164 .eql 163 O),v 165 162 164,m 166 165,g 166 true (m 167 23),g 166 true (e 168 167),g 166 true (k 169 .eql 168 O),v 170 166 169,m 171 170,g 171 true (w 172 (.call 109 [.c (.int .i64 2),.c (.int .i64 30),.c (.int .i64 418),.c (.int .u8 2)])),v 173 171 172,m 174 173,g 174 true (w 175 (.call 109 [.c I,.c (.int .i64 10),.c (.int .i64 9),.c (.int .u8 1)])),v 176 174 175,m 177 176,g 177 true (w 178 (.call 109 [.c I,.c (.int .i64 30),.c (.int .i64 6),.c (.int .u8 0)])),v 179 177 178,m 0 179],.ret]
def Z5M:List RRes:=[.t 0]
def Z5N:PCt prog 44 f44 Z5L Z5M:=pcT func44 rfl
end
section
open Qq Tryz
noncomputable def Z5O:RCode :=
 S [r 0 [b 1 0,n 2 .nilp,n 3 O],.scope (S [r 1 [L 16 1 1,w 17 (.build [.nils,.nils] [(0,1,.t 16)]),b 18 17,w 4 (.alloc [.nilp]),s 1 4 18],S [r 2 [f 19 0 1,l 20 19,e 21 20,w 22 (.bsl false 1 1 [O] [(0,.t 21)]),w 23 (.call 194 [.c I,.c (.int .i64 60),.t 22]),t 24 23],K 24 3 [n 2 .nilp,n 3 (.int .i64 20)]],(.label 0),S [r 4 [f 25 0 1,l 26 25,e 27 26,n 28 O],.block 0 (.loop (S [r 5 [o 29 .lss 28 27],.cond (.t 29) .skip (.exit 0),.block 1 (S [r 6 [m 30 28,i 31 5 26 28,L 32 5 31,w 6 (.alloc [O,O,.int .u8 0,.nils,.nils]),m 5 30,s 5 6 32],S [r 7 [w 33 (.load true 4 (.g 2)),n 34 O],.block 2 (.loop (S [r 8 [k 35 .lss 34 (.int .i64 4)],.cond (.t 35) .skip (.exit 2),.block 3 (S [r 9 [w 36 (.vop (.aidx true 4 1) [(.t 33),(.t 34)]),w 8 (.alloc [.nilf]),s 1 8 36],r 10 [f 37 0 8,l 38 37,L 39 5 6,w 40 (.callv (.t 38) [.t 39]),t 41 40],K 41 11 [n 2 .nilp,n 3 (.int .i64 20)]]),r 12 [k 42 .add 34 I,m 34 42]]))],S [r 13 [m 43 5,k 44 .gtr 43 O],.cond (.t 44) (S [r 14 [f 45 0 1,l 46 45,m 47 5,k 48 .sub 47 I,i 49 5 46 48,L 50 5 49,w 9 (.alloc [O,O,.int .u8 0,.nils,.nils]),s 5 9 50],r 15 [f 51 0 9,l 52 51,f 53 0 6,l 54 53,o 55 .eql 52 54],.cond (.t 55) (S [S [r 16 [f 56 1 9,l 57 56,k 58 .add 57 I,f 59 1 6,l 60 59,o 61 .neq 58 60,m 62 61,g 62 false (f 63 2 9),g 62 false (l 64 63),g 62 false (f 65 2 6),g 62 false (l 66 65),g 62 false (o 67 .neq 64 66),u 68 62 67],K 68 17 [n 2 .nilp,n 3 (.int .i64 20)]],.exit 1]) (S [r 18 [f 69 0 9,l 70 69,f 71 0 6,l 72 71,o 73 .gtr 70 72],K 73 19 [n 2 .nilp,n 3 (.int .i64 20)]])]) .skip],S [r 20 [f 74 1 6,l 75 74,k 76 .neq 75 I],K 76 21 [n 2 .nilp,n 3 (.int .i64 20)]],R 22 [l 77 4,l 78 4,a [1] (w 79 (.nilck (.t 78))),a [2] (f 80 1 79),a [3] (l 81 80),f 82 0 6,a [5] (l 83 82),a [6] (w 84 (.bsl false 1 1 [O] [(0,.t 83)])),a [4,7] (w 85 (.app 1 8 (.t 81) (.t 84))),a [0,0,1,2,3,4,5,6,7,8] (w 86 (.nilck (.t 77))),a [9,0,1,2,3,4,5,6,7,8] (f 87 1 86),a [10,8,8,0,1,2,3,4,5,6,7,8] (s 1 87 85)]]),r 23 [k 88 .add 28 I,m 28 88]]))],S [r 24 [l 89 4,w 90 (.nilck (.t 89)),f 91 1 90,l 92 91,e 93 92,k 94 .gtr 93 (.int .i64 20)],K 94 25 [n 2 .nilp,n 3 (.int .i64 20)]],S [r 26 [f 95 0 1,l 96 95,e 97 96,n 98 O],.block 4 (.loop (S [r 27 [o 99 .lss 98 97],.cond (.t 99) .skip (.exit 4),.block 5 (S [r 28 [i 100 5 96 98,L 101 5 100,w 11 (.alloc [O,O,.int .u8 0,.nils,.nils]),s 5 11 101],r 29 [f 102 3 11,l 103 102,w 104 (.mkf (.func 196) [] [.t 4]),c 105 195 [103,104]],K 105 30 [n 2 .nilp,n 3 (.int .i64 20)]]),r 31 [k 106 .add 98 I,m 98 106]]))],r 32 [l 108 4,c 109 198 [108],m 107 109,x 110 0 107,x 111 1 107,m 12 110,m 13 111],S [r 33 [m 112 13],K 112 34 [n 2 .nilp,n 3 (.int .i64 21)]],(.raw (opnR prog)),r 40 [l 121 4,m 2 121,n 3 O],.ret])]
def Z5P:List RRes:=[.t 2,.t 3]
def Z5Q:PCt prog 168 f168 Z5O Z5P:=pcT func168 rfl
end
section
open Qq Tryz
def Z5R:RCode :=
 S [r 0 [b 3 0,b 4 1,n 6 (.bool false)],r 1 [m 7 2,w 8 (.mkf (.func 269) [] [.t 3,.t 4]),c 9 85 [7,8],t 10 9,m 6 10],.ret]
def Z5S:List RRes:=[.t 6]
def Z5T:PCt prog 268 f268 Z5R Z5S:=pcT func268 rfl
def Z5U:RCode :=
 S [r 0 [n 4 (.bool false)],r 1 [m 5 0,l 6 1,o 7 .lss 5 6,m 8 7,g 8 false (m 9 0),g 8 false (l 10 2),g 8 false (o 11 .gtr 9 10),u 12 8 11,m 4 12],.ret]
def Z5V:List RRes:=[.t 4]
def Z5W:PCt prog 269 f269 Z5U Z5V:=pcT func269 rfl
def Z5X:RCode :=
 S [r 0 [n 4 (.bool false)],r 1 [m 5 0,m 6 1,c 7 142 [5,6],k 8 .geq 7 O,m 4 8],.ret]
def Z5Y:List RRes:=[.t 4]
def Z5Z:PCt prog 85 f85 Z5X Z5Y:=pcT func85 rfl
def Z60:RCode :=
 S [r 0 [n 4 O],S [r 1 [m 6 0,e 7 6,n 8 O],.block 0 (.loop (S [r 2 [o 9 .lss 8 7],.cond (.t 9) .skip (.exit 0),.block 1 (S [r 3 [m 10 8,m 5 10],r 4 [m 11 1,m 12 0,m 13 5,i 14 1 12 13,l 15 14,w 16 (.callv (.t 11) [.t 15])],K 16 5 [m 17 5,m 4 17]]),r 6 [k 18 .add 8 I,m 8 18]]))],r 7 [n 4 (.int .i64 (-1))],.ret]
def Z61:List RRes:=[.t 4]
def Z62:PCt prog 142 f142 Z60 Z61:=pcT func142 rfl
def Z63:RCode :=
 S [r 0 [b 1 0,n 2 O],S [r 1 [f 3 0 1,l 4 3,f 5 1 1,l 6 5,f 7 2 1,l 8 7,w 9 (.bsl false 1 3 [O,O,O] [(0,.t 4),(1,.t 6),(2,.t 8)]),w 10 (.call 268 [.c O,.c (.int .i64 1000000000),.t 9]),t 11 10,m 12 11,g 12 false (f 13 1 1),g 12 false (l 14 13),g 12 false (f 15 2 1),g 12 false (l 16 15),g 12 false (o 17 .gtr 14 16),u 18 12 17],K 18 2 [n 2 (.int .i64 10)]],r 3 [n 2 O],.ret]
def Z64:List RRes:=[.t 2]
def Z65:PCt prog 266 f266 Z63 Z64:=pcT func266 rfl
def Z66:RCode :=
 S [r 0 [b 3 0,b 4 1,n 6 (.bool false)],r 1 [m 7 2,w 8 (.mkf (.func 208) [] [.t 3,.t 4]),c 9 85 [7,8],t 10 9,m 6 10],.ret]
def Z67:List RRes:=[.t 6]
def Z68:PCt prog 194 f194 Z66 Z67:=pcT func194 rfl
def Z69:RCode :=
 S [r 0 [n 4 (.bool false)],r 1 [m 5 0,l 6 1,o 7 .lss 5 6,m 8 7,g 8 false (m 9 0),g 8 false (l 10 2),g 8 false (o 11 .gtr 9 10),u 12 8 11,m 4 12],.ret]
def Z6a:List RRes:=[.t 4]
def Z6b:PCt prog 208 f208 Z69 Z6a:=pcT func208 rfl
def Z6c:RCode :=
 S [r 0 [b 1 0,w 2 (.alloc [O,O])],r 1 [f 3 0 1,l 4 3,f 5 1 1,l 6 5,w 7 (.build [O,O] [(0,1,.t 4),(1,1,.t 6)]),s 2 2 7],.ret]
def Z6d:List RRes:=[.c 2 true 2]
def Z6e:PCt prog 251 f251 Z6c Z6d:=pcT func251 rfl
def Z6f:RCode :=
 S [r 0 [b 1 0,n 2 (.bool false)],r 1 [f 3 0 1,l 4 3,w 5 (.bsl false 1 1 [O] [(0,.t 4)]),w 6 (.call 194 [.c I,.c (.int .i64 9999),.t 5]),m 7 6,g 7 true (f 8 1 1),g 7 true (l 9 8),g 7 true (w 10 (.bsl false 1 1 [O] [(0,.t 9)])),g 7 true (w 11 (.call 194 [.c I,.c (.int .i64 8),.t 10])),v 12 7 11,m 2 12],.ret]
def Z6g:List RRes:=[.t 2]
def Z6h:PCt prog 260 f260 Z6f Z6g:=pcT func260 rfl
def Z6i:RCode :=
 S [r 0 [b 1 0,n 2 (.bool false)],S [r 1 [f 3 2 1,l 4 3,k 5 .eql 4 (.int .u8 1)],K 5 2 [f 6 3 1,l 7 6,e 8 7,w 9 (.bsl false 1 1 [O] [(0,.t 8)]),w 10 (.call 194 [.c I,.c (.int .i64 8),.t 9]),m 11 10,g 11 true (f 12 4 1),g 11 true (l 13 12),g 11 true (e 14 13),g 11 true (k 15 .eql 14 O),v 16 11 15,m 2 16]],r 3 [f 17 2 1,l 18 17,w 19 (.conv .i64 (.t 18)),w 20 (.bsl false 1 1 [O] [(0,.t 19)]),w 21 (.call 194 [.c (.int .i64 2),.c (.int .i64 3),.t 20]),m 22 21,g 22 true (f 23 4 1),g 22 true (l 24 23),g 22 true (e 25 24),g 22 true (k 26 .leq 25 (.int .i64 4)),v 27 22 26,m 28 27,g 28 true (f 29 3 1),g 28 true (l 30 29),g 28 true (e 31 30),g 28 true (k 32 .eql 31 O),v 33 28 32,m 2 33],.ret]
def Z6j:List RRes:=[.t 2]
def Z6k:PCt prog 261 f261 Z6i Z6j:=pcT func261 rfl
def Z6l:RCode :=
 S [r 0 [b 1 0,n 2 (.bool false)],S [r 1 [f 5 3 1,l 6 5,e 7 6,n 8 O],.block 0 (.loop (S [r 2 [o 9 .lss 8 7],.cond (.t 9) .skip (.exit 0),.block 1 (S [r 3 [m 10 8,i 11 2 6 8,L 12 2 11,w 4 (.alloc [O,O]),m 3 10,s 2 4 12],R 4 [f 13 0 4,a [0] (l 14 13),a [1] (w 15 (.bsl false 1 1 [O] [(0,.t 14)])),a [2] (w 16 (.call 194 [.c I,.c (.int .i64 9999),.t 15])),a [3] (t 17 16),a [4,3] (m 18 17),a [5] (g 18 false (f 19 1 4)),a [6,5] (g 18 false (l 20 19)),a [7,5] (g 18 false (w 21 (.bsl false 1 1 [O] [(0,.t 20)]))),a [8,5,5] (g 18 false (w 22 (.call 194 [.c I,.c (.int .i64 20),.t 21]))),a [9,5] (g 18 false (t 23 22)),a [5,10] (u 24 18 23),a [11,9] (m 25 24),a [12] (g 25 false (f 26 0 4)),a [13,12] (g 25 false (l 27 26)),a [12] (g 25 false (f 28 0 1)),a [15,12] (g 25 false (l 29 28)),a [14,16,12] (g 25 false (o 30 .eql 27 29)),a [12,17] (u 31 25 30),a [18,12] (m 32 31),a [19] (g 32 false (m 33 3)),a [20,19] (g 32 false (k 34 .gtr 33 O)),a [21,19,19] (g 32 false (m 35 34)),a [22] (g 35 true (f 36 3 1)),a [23,22] (g 35 true (l 37 36)),a [22] (g 35 true (m 38 3)),a [25,22] (g 35 true (k 39 .sub 38 I)),a [24,26,22] (g 35 true (i 40 2 37 39)),a [27,22] (g 35 true (f 41 0 40)),a [28,22] (g 35 true (l 42 41)),a [22] (g 35 true (f 43 0 4)),a [30,22] (g 35 true (l 44 43)),a [29,31,22] (g 35 true (o 45 .geq 42 44)),a [22,32,19] (g 32 false (v 46 35 45)),a [19,33] (u 47 32 46)],K 47 5 [n 2 (.bool false)]]),r 6 [k 48 .add 8 I,m 8 48]]))],r 7 [n 2 (.bool true)],.ret]
def Z6m:List RRes:=[.t 2]
def Z6n:PCt prog 262 f262 Z6l Z6m:=pcT func262 rfl
def Z6o:RCode :=
 S [r 0 [b 1 0,n 2 (.bool false)],r 1 [f 3 4 1,l 4 3,w 5 (.call 264 [.t 4,.c (.func (.func 265) [] [])]),t 6 5,m 2 6],.ret]
def Z6p:List RRes:=[.t 2]
def Z6q:PCt prog 263 f263 Z6o Z6p:=pcT func263 rfl
def Z6r:RCode :=
 S [r 0 [b 1 0,n 2 (.bool false)],r 1 [L 3 3 1,c 4 266 [3],k 5 .neq 4 O,m 2 5],.ret]
def Z6s:List RRes:=[.t 2]
def Z6t:PCt prog 265 f265 Z6r Z6s:=pcT func265 rfl
def Z6u:RCode :=
 S [r 0 [n 4 (.bool false)],r 1 [m 5 0,m 6 1,c 7 267 [5,6],k 8 .geq 7 O,m 4 8],.ret]
def Z6v:List RRes:=[.t 4]
def Z6w:PCt prog 264 f264 Z6u Z6v:=pcT func264 rfl
def Z6x:RCode :=
 S [r 0 [n 4 O],S [r 1 [m 6 0,e 7 6,n 8 O],.block 0 (.loop (S [r 2 [o 9 .lss 8 7],.cond (.t 9) .skip (.exit 0),.block 1 (S [r 3 [m 10 8,m 5 10],r 4 [m 11 1,m 12 0,m 13 5,i 14 3 12 13,L 15 3 14,w 16 (.callv (.t 11) [.t 15])],K 16 5 [m 17 5,m 4 17]]),r 6 [k 18 .add 8 I,m 8 18]]))],r 7 [n 4 (.int .i64 (-1))],.ret]
def Z6y:List RRes:=[.t 4]
def Z6z:PCt prog 267 f267 Z6x Z6y:=pcT func267 rfl
def Z6A:RCode :=
 S [r 0 [n 4 (.bool false)],r 1 [m 5 0,m 6 1,c 7 209 [5,6],k 8 .geq 7 O,m 4 8],.ret]
def Z6B:List RRes:=[.t 4]
def Z6C:PCt prog 195 f195 Z6A Z6B:=pcT func195 rfl
def Z6D:RCode :=
 S [r 0 [n 4 O],S [r 1 [m 6 0,e 7 6,n 8 O],.block 0 (.loop (S [r 2 [o 9 .lss 8 7],.cond (.t 9) .skip (.exit 0),.block 1 (S [r 3 [m 10 8,m 5 10],r 4 [m 11 1,m 12 0,m 13 5,i 14 2 12 13,L 15 2 14,w 16 (.callv (.t 11) [.t 15])],K 16 5 [m 17 5,m 4 17]]),r 6 [k 18 .add 8 I,m 8 18]]))],r 7 [n 4 (.int .i64 (-1))],.ret]
def Z6E:List RRes:=[.t 4]
def Z6F:PCt prog 209 f209 Z6D Z6E:=pcT func209 rfl
def Z6G:RCode :=
 S [r 0 [b 2 0,n 3 (.bool false)],r 1 [l 4 1,f 5 0 2,l 6 5,c 7 197 [4,6],t 8 7,m 3 8],.ret]
def Z6H:List RRes:=[.t 3]
def Z6I:PCt prog 196 f196 Z6G Z6H:=pcT func196 rfl
def Z6J:RCode :=
 S [r 0 [n 4 (.bool false)],r 1 [m 8 0,w 9 (.nilck (.t 8)),f 10 1 9,l 11 10,m 12 1,c 13 210 [11,12],m 7 13,x 14 0 7,x 15 1 7,m 5 14,m 6 15],r 2 [m 16 6,m 4 16],.ret]
def Z6K:List RRes:=[.t 4]
def Z6L:PCt prog 197 f197 Z6J Z6K:=pcT func197 rfl
def Z6M:RCode :=
 S [r 0 [n 4 O,n 5 (.bool false)],r 1 [m 10 0,e 11 10,m 6 11],r 2 [m 12 6,n 7 O,m 8 12],.block 0 (.loop (S [S [r 3 [m 13 7,m 14 8,o 15 .lss 13 14],.cond (.t 15) .skip (.exit 0)],.block 1 (S [r 4 [m 16 7,m 17 8,o 18 .add 16 17,w 19 (.conv .u64 (.t 18)),w 20 (.vop (.sh false) [(.t 19),(.c (.int .u64 1))]),w 21 (.conv .i64 (.t 20)),m 9 21],r 5 [m 22 0,m 23 9,i 24 1 22 23,l 25 24,m 26 1,c 27 189 [25,26]],.cond (.t 27) (r 6 [m 28 9,k 29 .add 28 I,m 7 29]) (r 7 [m 30 9,m 8 30])])])),r 8 [m 31 7,m 32 7,m 33 6,o 34 .lss 32 33,m 35 34,g 35 true (m 36 0),g 35 true (m 37 7),g 35 true (i 38 1 36 37),g 35 true (l 39 38),g 35 true (m 40 1),g 35 true (o 41 .eql 39 40),g 35 true (m 42 41),g 42 false (m 43 0),g 42 false (m 44 7),g 42 false (i 45 1 43 44),g 42 false (l 46 45),g 42 false (c 47 214 [46]),g 42 false (m 48 47),g 48 true (m 49 1),g 48 true (c 50 214 [49]),g 42 false (v 51 48 50),g 35 true (u 52 42 51),v 53 35 52,m 4 31,m 5 53],.ret]
def Z6N:List RRes:=[.t 4,.t 5]
def Z6O:PCt prog 210 f210 Z6M Z6N:=pcT func210 rfl
def Z6P:RCode :=
 S [r 0 [n 4 (.bool false)],r 1 [m 5 0,c 6 157 [5],m 7 6,g 7 true (m 8 1),g 7 true (c 9 157 [8]),g 7 true (t 10 9),v 11 7 10,m 12 11,g 12 false (m 13 0),g 12 false (m 14 1),g 12 false (o 15 .lss 13 14),u 16 12 15,m 4 16],.ret]
def Z6Q:List RRes:=[.t 4]
def Z6R:PCt prog 189 f189 Z6P Z6Q:=pcT func189 rfl
def Z6S:RCode :=
 S [r 0 [n 2 (.bool false)],r 1 [m 3 0,m 4 0,o 5 .neq 3 4,m 2 5],.ret]
def Z6T:List RRes:=[.t 2]
def Z6U:PCt prog 157 f157 Z6S Z6T:=pcT func157 rfl
def Z6V:RCode :=
 S [r 0 [n 2 (.bool false)],r 1 [m 3 0,m 4 0,o 5 .neq 3 4,m 2 5],.ret]
def Z6W:List RRes:=[.t 2]
def Z6X:PCt prog 214 f214 Z6V Z6W:=pcT func214 rfl
def Z6Y:RCode :=
 S [r 0 [n 4 O],r 1 [m 7 0,c 8 157 [7],m 5 8],r 2 [m 9 1,c 10 157 [9],m 6 10],S [r 3 [m 11 5],.cond (.t 11) (S [S [r 4 [m 12 6],K 12 5 [n 4 O]],r 6 [n 4 (.int .i64 (-1))],.ret]) .skip],S [r 7 [m 13 6],K 13 8 [n 4 I]],S [r 9 [m 14 0,m 15 1,o 16 .lss 14 15],K 16 10 [n 4 (.int .i64 (-1))]],S [r 11 [m 17 0,m 18 1,o 19 .gtr 17 18],K 19 12 [n 4 I]],r 13 [n 4 O],.ret]
def Z6Z:List RRes:=[.t 4]
def Z70:PCt prog 107 f107 Z6Y Z6Z:=pcT func107 rfl
def Z71:RCode :=
 S [r 0 [n 6 O,n 7 (.bool false)],r 1 [m 12 0,e 13 12,m 8 13],r 2 [m 14 8,n 9 O,m 10 14],.block 0 (.loop (S [S [r 3 [m 15 9,m 16 10,o 17 .lss 15 16],.cond (.t 17) .skip (.exit 0)],.block 1 (S [r 4 [m 18 9,m 19 10,o 20 .add 18 19,w 21 (.conv .u64 (.t 20)),w 22 (.vop (.sh false) [(.t 21),(.c (.int .u64 1))]),w 23 (.conv .i64 (.t 22)),m 11 23],r 5 [m 24 2,m 25 0,m 26 11,i 27 5 25 26,L 28 5 27,m 29 1,w 30 (.callv (.t 24) [.t 28,.t 29]),k 31 .lss 30 O],.cond (.t 31) (r 6 [m 32 11,k 33 .add 32 I,m 9 33]) (r 7 [m 34 11,m 10 34])])])),r 8 [m 35 9,m 36 9,m 37 8,o 38 .lss 36 37,m 39 38,g 39 true (m 40 2),g 39 true (m 41 0),g 39 true (m 42 9),g 39 true (i 43 5 41 42),g 39 true (L 44 5 43),g 39 true (m 45 1),g 39 true (w 46 (.callv (.t 40) [.t 44,.t 45])),g 39 true (k 47 .eql 46 O),v 48 39 47,m 6 35,m 7 48],.ret]
def Z72:List RRes:=[.t 6,.t 7]
def Z73:PCt prog 216 f216 Z71 Z72:=pcT func216 rfl
def Z74:RCode :=
 S [r 0 [b 2 0,b 3 1,n 4 .nilf],r 1 [w 5 (.mkf (.func 215) [] [.t 2,.t 3]),m 4 5],.ret]
def Z75:List RRes:=[.t 4]
def Z76:PCt prog 211 f211 Z74 Z75:=pcT func211 rfl
def Z77:RCode :=
 S [r 0 [b 2 0,n 4 O],r 1 [f 5 0 2,l 6 5,m 7 1,c 8 107 [6,7],m 4 8],.ret]
def Z78:List RRes:=[.t 4]
def Z79:PCt prog 217 f217 Z77 Z78:=pcT func217 rfl
def Z7a:RCode :=
 S [r 0 [b 3 1,w 4 (.alloc [O,O,.int .u8 0,.nils,.nils]),w 5 (.alloc [.bool false])],S [r 1 [m 7 0,f 8 0 3,l 9 8,c 10 211 [7,9]],.block 0 (.rngf (.t 10) [11] (r 2 [w 6 (.alloc [O,O,.int .u8 0,.nils,.nils]),s 5 6 11]) (.block 1 (S [R 3 [L 12 5 6,a [0] (c 13 251 [12]),L 14 2 3,a [1,2] (w 15 (.eqs false [.i,.i] (.t 13) (.t 14)))],K 15 4 [L 16 5 6,s 5 4 16,z (.store 1 (.t 5) (.c (.bool true)))]])))],r 5 [w 17 (.build [O,O,.int .u8 0,.nils,.nils] []),s 5 4 17,z (.store 1 (.t 5) (.c (.bool false)))],.ret]
def Z7b:List RRes:=[.c 4 true 5,.c 5 false 1]
def Z7c:PCt prog 249 f249 Z7a Z7b:=pcT func249 rfl
def Z7d:RCode :=
 S [r 0 [n 2 .nilm,n 3 (.bool false)],r 1 [w 15 (.mkmap),w 4 (.alloc [.nilm]),s 1 4 15],r 2 [w 16 (.mkmap),w 5 (.alloc [.nilm]),s 1 5 16],S [r 3 [m 17 0,w 18 (.nilck (.t 17)),f 19 1 18,l 20 19,e 21 20,n 22 O],.block 0 (.loop (S [r 4 [o 23 .lss 22 21],.cond (.t 23) .skip (.exit 0),.block 1 (S [r 5 [i 24 1 20 22,l 25 24,m 7 25],r 6 [l 26 5,m 27 7,z (.mupd (.i .i64) (.t 26) (.t 27) (.c (.bool true)))]]),r 7 [k 28 .add 22 I,m 22 28]]))],S [r 8 [m 29 0,w 30 (.nilck (.t 29)),f 31 1 30,l 32 31,e 33 32,n 34 O],.block 2 (.loop (S [r 9 [o 35 .lss 34 33],.cond (.t 35) .skip (.exit 2),.block 3 (S [r 10 [m 36 0,w 37 (.nilck (.t 36)),f 38 1 37,l 39 38,e 40 39,n 41 O],.block 4 (.loop (S [r 11 [o 42 .lss 41 40],.cond (.t 42) .skip (.exit 4),.block 5 (S [r 12 [i 43 1 39 41,l 44 43,m 9 44],R 13 [l 45 5,m 46 9,a [0,1] (w 47 (.look (.i .i64) (.bool false) false (.t 45) (.t 46))),w 10 (.alloc [O]),w 11 (.alloc [.bool false]),a [3,3,4] (z (.store 1 (.t 10) (.c O))),a [4,2,5,0,1,2,3,4,5] (s 1 11 47)],S [r 14 [m 48 0,m 49 9,c 50 211 [48,49]],.block 6 (.rngf (.t 50) [51] (r 15 [w 12 (.alloc [O,O,.int .u8 0,.nils,.nils]),s 5 12 51]) (.block 7 (S [r 16 [f 52 3 12,l 53 52,e 54 53,n 55 O],.block 8 (.loop (S [r 17 [o 56 .lss 55 54],.cond (.t 56) .skip (.exit 8),.block 9 (S [r 18 [i 57 2 53 55,L 58 2 57,w 14 (.alloc [O,O]),s 2 14 58],r 19 [l 59 11,m 60 59,g 60 true (l 61 5),g 60 true (f 62 0 14),g 60 true (l 63 62),g 60 true (w 64 (.look (.i .i64) (.bool false) false (.t 61) (.t 63))),g 60 true (t 65 64),v 66 60 65,s 1 11 66],r 20 [l 67 10,l 68 4,f 69 0 14,l 70 69,w 71 (.look (.i .i64) O false (.t 68) (.t 70)),w 72 (.mx true (.t 67) [.t 71]),s 1 10 72]]),r 21 [k 73 .add 55 I,m 55 73]]))])))],r 22 [l 74 11],.cond (.t 74) (S [r 23 [l 75 4,m 76 9,l 77 10,k 78 .add 77 I,z (.mupd (.i .i64) (.t 75) (.t 76) (.t 78))],r 24 [l 79 5,m 80 9,z (.mdel (.i .i64) (.t 79) (.t 80))]]) .skip]),r 25 [k 81 .add 41 I,m 41 81]]))]),r 26 [k 82 .add 34 I,m 34 82]]))],r 27 [l 83 4,l 84 5,w 85 (.mlen (.t 84)),k 86 .gtr 85 O,m 2 83,m 3 86],.ret]
def Z7e:List RRes:=[.t 2,.t 3]
def Z7f:PCt prog 198 f198 Z7d Z7e:=pcT func198 rfl
def Z7g:RCode :=
 S [r 0 [b 1 0,w 2 (.alloc [O,O,.int .u8 0,.nils,.nils])],R 1 [f 3 3 1,a [0] (l 4 3),a [1] (w 5 (.calln 121 [.t 4])),f 6 4 1,a [3] (l 7 6),a [4,2] (w 8 (.calln 122 [.t 7])),a [0,1,2,3,4] (f 9 3 1),a [6,2,5,0,1,2,3,4] (s 1 9 5),a [0,1,2,3,4,5,6,7] (f 10 4 1),a [8,5,7,0,1,2,3,4,5,6,7] (s 1 10 8)],r 2 [L 11 5 1,s 5 2 11],.ret]
def Z7h:List RRes:=[.c 2 true 5]
def Z7i:PCt prog 250 f250 Z7g Z7h:=pcT func250 rfl
def Z7j:RCode :=
 S [r 0 [n 2 .nils],S [r 1 [m 3 0,w 4 (.vop (.eqn false) [(.t 3),(.c .nils)])],K 4 2 [n 2 .nils]],r 3 [w 5 (.bsl true 2 0 [] []),m 6 0,w 7 (.app 2 16 (.t 5) (.t 6)),m 2 7],.ret]
def Z7k:List RRes:=[.t 2]
def Z7l:PCt prog 121 f121 Z7j Z7k:=pcT func121 rfl
def Z7m:RCode :=
 S [r 0 [n 2 .nils],S [r 1 [m 3 0,w 4 (.vop (.eqn false) [(.t 3),(.c .nils)])],K 4 2 [n 2 .nils]],r 3 [w 5 (.bsl true 3 0 [] []),m 6 0,w 7 (.app 3 24 (.t 5) (.t 6)),m 2 7],.ret]
def Z7n:List RRes:=[.t 2]
def Z7o:PCt prog 122 f122 Z7m Z7n:=pcT func122 rfl
def Z7p:RCode :=
 S [r 0 [b 1 0,n 2 .nils,n 3 O],r 1 [L 7 1 1,c 8 168 [7],m 6 8,x 9 0 6,x 10 1 6,m 4 9,m 5 10],S [r 2 [m 11 5,k 12 .neq 11 O],K 12 3 [m 13 5,n 2 .nils,m 3 13]],r 4 [m 14 4,w 15 (.nilck (.t 14)),f 16 1 15,l 17 16,m 2 17,n 3 O],.ret]
def Z7q:List RRes:=[.t 2,.t 3]
def Z7r:PCt prog 131 f131 Z7p Z7q:=pcT func131 rfl
def Z7s:RCode :=
 S [r 0 [b 2 0,b 3 1,w 4 (.alloc [O,O,.int .u8 0,.nils,.nils]),n 5 O],r 1 [L 11 1 2,c 12 168 [11],m 10 12,x 13 0 10,x 14 1 10,m 6 13,m 7 14],S [r 2 [m 15 7,k 16 .neq 15 O],K 16 3 [w 17 (.build [O,O,.int .u8 0,.nils,.nils] []),m 18 7,s 5 4 17,m 5 18]],r 4 [m 20 6,L 21 2 3,c 22 249 [20,21],m 19 22,x 23 0 19,x 24 1 19,w 8 (.alloc [O,O,.int .u8 0,.nils,.nils]),s 5 8 23,m 9 24],S [r 5 [m 25 9,t 26 25],K 26 6 [w 27 (.build [O,O,.int .u8 0,.nils,.nils] []),s 5 4 27,n 5 (.int .i64 6)]],r 7 [L 28 5 8,c 29 250 [28],s 5 4 29,n 5 O],.ret]
def Z7t:List RRes:=[.c 4 true 5,.t 5]
def Z7u:PCt prog 241 f241 Z7s Z7t:=pcT func241 rfl
end
section
open Qq Tryz
def Z7v:RCode :=
 S [r 0 [n 6 (.bool false)],r 1 [m 7 0,m 8 1,o 9 .geq 7 8,m 10 9,g 10 true (m 11 0),g 10 true (m 12 2),g 10 true (o 13 .leq 11 12),v 14 10 13,m 6 14],.ret]
def Z7w:List RRes:=[.t 6]
def Z7x:PCt prog 218 f218 Z7v Z7w:=pcT func218 rfl
def Z7y:RCode :=
 S [r 0 [b 1 0,n 2 (.bool false)],r 1 [f 3 0 1,l 4 3,w 5 (.call 218 [.t 4,.c O,.c (.int .i64 1000000000)]),m 6 5,g 6 true (f 7 2 1),g 6 true (l 8 7),g 6 true (w 9 (.call 218 [.t 8,.c O,.c (.int .i64 1000000000)])),v 10 6 9,m 11 10,g 11 true (f 12 1 1),g 11 true (l 13 12),g 11 true (f 14 2 1),g 11 true (l 15 14),g 11 true (w 16 (.call 218 [.t 13,.c O,.t 15])),v 17 11 16,m 2 17],.ret]
def Z7z:List RRes:=[.t 2]
def Z7A:PCt prog 212 f212 Z7y Z7z:=pcT func212 rfl
def Z7B:RCode :=
 S [r 0 [n 6 (.bool false)],r 1 [m 7 0,m 8 1,o 9 .geq 7 8,m 10 9,g 10 true (m 11 0),g 10 true (m 12 2),g 10 true (o 13 .leq 11 12),v 14 10 13,m 6 14],.ret]
def Z7C:List RRes:=[.t 6]
def Z7D:PCt prog 199 f199 Z7B Z7C:=pcT func199 rfl
def Z7E:RCode :=
 S [r 0 [b 1 0,n 2 (.bool false)],S [r 1 [f 6 0 1,l 7 6,w 8 (.call 199 [.t 7,.c I,.c (.int .i64 9999)]),t 9 8,m 10 9,g 10 false (f 11 1 1),g 10 false (l 12 11),g 10 false (w 13 (.call 199 [.t 12,.c I,.c (.int .i64 8)])),g 10 false (t 14 13),u 15 10 14,m 16 15,g 16 false (f 17 2 1),g 16 false (l 18 17),g 16 false (w 19 (.conv .i64 (.t 18))),g 16 false (w 20 (.call 199 [.t 19,.c I,.c (.int .i64 3)])),g 16 false (t 21 20),u 22 16 21,m 23 22,g 23 false (f 24 2 1),g 23 false (l 25 24),g 23 false (k 26 .eql 25 (.int .u8 1)),g 23 false (m 27 26),g 27 true (f 28 3 1),g 27 true (l 29 28),g 27 true (e 30 29),g 27 true (w 31 (.call 199 [.t 30,.c I,.c (.int .i64 8)])),g 27 true (t 32 31),g 27 true (m 33 32),g 33 false (f 34 4 1),g 33 false (l 35 34),g 33 false (e 36 35),g 33 false (k 37 .gtr 36 O),g 27 true (u 38 33 37),g 23 false (v 39 27 38),u 40 23 39,m 41 40,g 41 false (f 42 2 1),g 41 false (l 43 42),g 41 false (k 44 .gtr 43 (.int .u8 1)),g 41 false (m 45 44),g 45 true (f 46 4 1),g 45 true (l 47 46),g 45 true (e 48 47),g 45 true (k 49 .gtr 48 (.int .i64 4)),g 45 true (m 50 49),g 50 false (f 51 3 1),g 50 false (l 52 51),g 50 false (e 53 52),g 50 false (k 54 .gtr 53 O),g 45 true (u 55 50 54),g 41 false (v 56 45 55),u 57 41 56],K 57 2 [n 2 (.bool false)]],S [r 3 [n 3 O],.block 0 (.loop (S [S [r 4 [m 58 3,f 59 3 1,l 60 59,e 61 60,o 62 .lss 58 61],.cond (.t 62) .skip (.exit 0)],.block 1 (S [r 6 [f 65 3 1,l 66 65,m 67 3,i 68 2 66 67,L 69 2 68,w 4 (.alloc [O,O]),s 2 4 69],R 7 [f 70 0 4,a [0] (l 71 70),a [1] (w 72 (.call 199 [.t 71,.c I,.c (.int .i64 9999)])),a [2] (t 73 72),a [3,2] (m 74 73),a [4] (g 74 false (f 75 1 4)),a [5,4] (g 74 false (l 76 75)),a [6,4,4] (g 74 false (w 77 (.call 199 [.t 76,.c I,.c (.int .i64 20)]))),a [7,4] (g 74 false (t 78 77)),a [4,8] (u 79 74 78),a [9,7] (m 80 79),a [10] (g 80 false (f 81 0 4)),a [11,10] (g 80 false (l 82 81)),a [10] (g 80 false (f 83 0 1)),a [13,10] (g 80 false (l 84 83)),a [12,14,10] (g 80 false (o 85 .eql 82 84)),a [10,15] (u 86 80 85),a [16,10] (m 87 86),a [17] (g 87 false (m 88 3)),a [18,17] (g 87 false (k 89 .gtr 88 O)),a [19,17,17] (g 87 false (m 90 89)),a [20] (g 90 true (f 91 3 1)),a [21,20] (g 90 true (l 92 91)),a [20] (g 90 true (m 93 3)),a [23,20] (g 90 true (k 94 .sub 93 I)),a [22,24,20] (g 90 true (i 95 2 92 94)),a [25,20] (g 90 true (f 96 0 95)),a [26,20] (g 90 true (l 97 96)),a [20] (g 90 true (f 98 0 4)),a [28,20] (g 90 true (l 99 98)),a [27,29,20] (g 90 true (o 100 .geq 97 99)),a [20,30,17] (g 87 false (v 101 90 100)),a [17,31] (u 102 87 101)],K 102 8 [n 2 (.bool false)]]),r 5 [m 63 3,k 64 .add 63 I,m 3 64]]))],S [r 9 [n 5 O],.block 2 (.loop (S [S [r 10 [m 103 5,f 104 4 1,l 105 104,e 106 105,o 107 .lss 103 106],.cond (.t 107) .skip (.exit 2)],.block 3 (S [r 12 [f 110 4 1,l 111 110,m 112 5,i 113 3 111 112,L 114 3 113,c 115 212 [114],t 116 115],K 116 13 [n 2 (.bool false)]]),r 11 [m 108 5,k 109 .add 108 I,m 5 109]]))],r 14 [n 2 (.bool true)],.ret]
def Z7F:List RRes:=[.t 2]
def Z7G:PCt prog 200 f200 Z7E Z7F:=pcT func200 rfl
def Z7H:RCode :=
 S [r 0 [b 1 0,n 2 .nils],r 1 [n 3 .nils],S [r 2 [n 4 O],.block 0 (.loop (S [S [r 3 [m 6 4,f 7 0 1,l 8 7,e 9 8,o 10 .lss 6 9],.cond (.t 10) .skip (.exit 0)],.block 1 (S [r 5 [f 13 0 1,l 14 13,m 15 4,i 16 5 14 15,f 17 0 16,l 18 17,m 5 18],r 6 [m 19 4,k 20 .eql 19 O,m 21 20,g 21 false (f 22 0 1),g 21 false (l 23 22),g 21 false (m 24 4),g 21 false (k 25 .sub 24 I),g 21 false (i 26 5 23 25),g 21 false (f 27 0 26),g 21 false (l 28 27),g 21 false (m 29 5),g 21 false (o 30 .neq 28 29),u 31 21 30],.cond (.t 31) (r 7 [m 32 3,m 33 5,w 34 (.bsl false 1 1 [O] [(0,.t 33)]),w 35 (.app 1 8 (.t 32) (.t 34)),m 3 35]) .skip]),r 4 [m 11 4,k 12 .add 11 I,m 4 12]]))],r 8 [m 36 3,m 2 36],.ret]
def Z7I:List RRes:=[.t 2]
def Z7J:PCt prog 54 f54 Z7H Z7I:=pcT func54 rfl
def Z7K:RCode :=
 S [r 0 [n 4 O],S [r 1 [n 5 O],.block 0 (.loop (S [S [r 2 [m 6 5,m 7 0,e 8 7,o 9 .lss 6 8],.cond (.t 9) .skip (.exit 0)],.block 1 (S [r 4 [m 12 0,m 13 5,i 14 1 12 13,l 15 14,m 16 1,o 17 .eql 15 16],K 17 5 [m 18 5,m 4 18]]),r 3 [m 10 5,k 11 .add 10 I,m 5 11]]))],r 6 [n 4 (.int .i64 (-1))],.ret]
def Z7L:List RRes:=[.t 4]
def Z7M:PCt prog 64 f64 Z7K Z7L:=pcT func64 rfl
def Z7N:RCode :=
 S [r 0 [b 1 0,n 2 (.bool false)],S [r 1 [f 9 0 1,l 10 9,e 11 10,w 12 (.call 199 [.t 11,.c I,.c (.int .i64 60)]),t 13 12],K 13 2 [n 2 (.bool false)]],S [r 3 [n 3 O],.block 0 (.loop (S [S [r 4 [m 14 3,f 15 0 1,l 16 15,e 17 16,o 18 .lss 14 17],.cond (.t 18) .skip (.exit 0)],.block 1 (S [r 6 [f 21 0 1,l 22 21,m 23 3,i 24 5 22 23,L 25 5 24,w 4 (.alloc [O,O,.int .u8 0,.nils,.nils]),s 5 4 25],S [r 7 [L 26 5 4,c 27 200 [26],t 28 27],K 28 8 [n 2 (.bool false)]],r 9 [w 29 (.build [O,O,.int .u8 0,.nils,.nils] []),w 5 (.alloc [O,O,.int .u8 0,.nils,.nils]),s 5 5 29],S [r 10 [m 30 3,k 31 .gtr 30 O],.cond (.t 31) (r 11 [f 32 0 1,l 33 32,m 34 3,k 35 .sub 34 I,i 36 5 33 35,L 37 5 36,s 5 5 37]) .skip],.block 2 (S [r 12 [f 39 0 4,l 40 39,f 41 0 5,l 42 41,o 43 .lss 40 42,m 38 43],.cond (.t 38) (S [r 13 [n 2 (.bool false)],.ret]) (S [r 14 [f 45 0 4,l 46 45,f 47 0 5,l 48 47,o 49 .gtr 46 48,m 44 49],.cond (.t 44) (S [r 15 [f 50 1 4,l 51 50,k 52 .neq 51 I],K 52 16 [n 2 (.bool false)]]) (S [r 17 [f 54 1 4,l 55 54,f 56 1 5,l 57 56,k 58 .add 57 I,o 59 .neq 55 58,m 60 59,g 60 false (f 61 2 4),g 60 false (l 62 61),g 60 false (f 63 2 5),g 60 false (l 64 63),g 60 false (o 65 .neq 62 64),u 66 60 65,m 53 66],K 53 18 [n 2 (.bool false)]])])])]),r 5 [m 19 3,k 20 .add 19 I,m 3 20]]))],r 19 [L 67 1 1,c 68 54 [67],m 6 68],S [r 20 [n 7 O],.block 3 (.loop (S [S [r 21 [m 69 7,f 70 0 1,l 71 70,e 72 71,o 73 .lss 69 72],.cond (.t 73) .skip (.exit 3)],.block 4 (S [r 23 [n 8 O],.block 5 (.loop (S [S [r 24 [m 76 8,f 77 0 1,l 78 77,m 79 7,i 80 5 78 79,f 81 3 80,l 82 81,e 83 82,o 84 .lss 76 83],.cond (.t 84) .skip (.exit 5)],.block 6 (S [r 26 [m 87 6,f 88 0 1,l 89 88,m 90 7,i 91 5 89 90,f 92 3 91,l 93 92,m 94 8,i 95 2 93 94,f 96 0 95,l 97 96,c 98 64 [87,97],k 99 .lss 98 O],K 99 27 [n 2 (.bool false)]]),r 25 [m 85 8,k 86 .add 85 I,m 8 86]]))]),r 22 [m 74 7,k 75 .add 74 I,m 7 75]]))],r 28 [m 100 6,e 101 100,k 102 .leq 101 (.int .i64 20),m 2 102],.ret]
def Z7O:List RRes:=[.t 2]
def Z7P:PCt prog 169 f169 Z7N Z7O:=pcT func169 rfl
def Z7Q:RCode :=
 S [r 0 [b 1 0,n 2 .nils],r 1 [L 11 1 1,c 12 54 [11],m 3 12],r 2 [m 13 3,e 14 13,w 15 (.mksl 1 8 [O] (.t 14)),m 4 15],S [r 3 [n 5 O],.block 0 (.loop (S [S [r 4 [m 16 5,m 17 3,e 18 17,o 19 .leq 16 18],.cond (.t 19) .skip (.exit 0)],.block 1 (S [r 6 [m 22 3,e 23 22,w 24 (.mksl 1 8 [O] (.t 23)),m 6 24],S [r 7 [n 7 O],.block 2 (.loop (S [S [r 8 [m 25 7,f 26 0 1,l 27 26,e 28 27,o 29 .lss 25 28],.cond (.t 29) .skip (.exit 2)],.block 3 (S [r 10 [f 32 0 1,l 33 32,m 34 7,i 35 5 33 34,L 36 5 35,w 8 (.alloc [O,O,.int .u8 0,.nils,.nils]),s 5 8 36],r 11 [m 37 3,f 38 0 8,l 39 38,c 40 64 [37,39],m 9 40],r 12 [m 41 6,m 42 9,m 43 6,m 44 9,i 45 1 43 44,l 46 45,w 47 (.mx true (.t 46) [.c I]),i 48 1 41 42,s 1 48 47],r 13 [n 10 O],.block 4 (.loop (S [S [r 14 [m 49 10,f 50 3 8,l 51 50,e 52 51,o 53 .lss 49 52],.cond (.t 53) .skip (.exit 4)],.block 5 (R 16 [m 56 6,m 57 9,m 58 6,m 59 9,a [2,3] (i 60 1 58 59),a [4] (l 61 60),m 62 4,m 63 3,f 64 3 8,a [8] (l 65 64),m 66 10,a [9,10] (i 67 2 65 66),a [11] (f 68 0 67),a [12] (l 69 68),a [7,13] (c 70 64 [63,69]),a [6,14] (i 71 1 62 70),a [15] (l 72 71),a [16] (w 73 (.bin .add (.c I) (.t 72))),a [5,17] (w 74 (.mx true (.t 61) [.t 73])),a [0,1,0,1,2,3,4,5,6,7,8,9,10,11,12,13,14,15,16,17,18] (i 75 1 56 57),a [19,18,14,0,1,2,3,4,5,6,7,8,9,10,11,12,13,14,15,16,17,18] (s 1 75 74)]),r 15 [m 54 10,k 55 .add 54 I,m 10 55]]))]),r 9 [m 30 7,k 31 .add 30 I,m 7 31]]))],r 17 [m 76 6,m 4 76]]),r 5 [m 20 5,k 21 .add 20 I,m 5 21]]))],r 18 [m 77 4,m 2 77],.ret]
def Z7R:List RRes:=[.t 2]
def Z7S:PCt prog 170 f170 Z7Q Z7R:=pcT func170 rfl
def Z7T:RCode :=
 S [r 0 [b 1 0,n 2 O],S [r 1 [L 6 1 1,c 7 169 [6],t 8 7],K 8 2 [n 2 (.int .i64 20)]],r 3 [L 9 1 1,c 10 170 [9],m 3 10],r 4 [n 4 O],S [r 5 [n 5 O],.block 0 (.loop (S [S [r 6 [m 11 5,m 12 3,e 13 12,o 14 .lss 11 13],.cond (.t 14) .skip (.exit 0)],.block 1 (r 8 [m 17 4,m 18 3,m 19 5,i 20 1 18 19,l 21 20,w 22 (.mx true (.t 17) [.t 21]),m 4 22]),r 7 [m 15 5,k 16 .add 15 I,m 5 16]]))],.block 2 (S [r 9 [m 24 4,m 25 3,e 26 25,o 27 .gtr 24 26,m 23 27],.cond (.t 23) (S [r 10 [n 2 (.int .i64 21)],.ret]) (S [r 11 [m 29 4,k 30 .gtr 29 (.int .i64 6),m 28 30],K 28 12 [n 2 (.int .i64 20)]])]),r 13 [n 2 O],.ret]
def Z7U:List RRes:=[.t 2]
def Z7V:PCt prog 133 f133 Z7T Z7U:=pcT func133 rfl
def Z7W:RCode :=
 S [r 0 [b 2 0,b 3 1,w 4 (.alloc [O,O,.int .u8 0,.nils,.nils]),n 5 (.bool false)],S [r 1 [n 6 O],.block 0 (.loop (S [S [r 2 [m 8 6,f 9 0 2,l 10 9,e 11 10,o 12 .lss 8 11],.cond (.t 12) .skip (.exit 0)],.block 1 (S [r 4 [f 15 0 2,l 16 15,m 17 6,i 18 5 16 17,L 19 5 18,w 7 (.alloc [O,O,.int .u8 0,.nils,.nils]),s 5 7 19],r 5 [f 20 0 7,l 21 20,f 22 0 3,l 23 22,o 24 .eql 21 23,m 25 24,g 25 true (f 26 1 7),g 25 true (l 27 26),g 25 true (f 28 1 3),g 25 true (l 29 28),g 25 true (o 30 .eql 27 29),v 31 25 30],K 31 6 [L 32 5 7,s 5 4 32,n 5 (.bool true)]]),r 3 [m 13 6,k 14 .add 13 I,m 6 14]]))],r 7 [w 33 (.build [O,O,.int .u8 0,.nils,.nils] []),s 5 4 33,n 5 (.bool false)],.ret]
def Z7X:List RRes:=[.c 4 true 5,.t 5]
def Z7Y:PCt prog 172 f172 Z7W Z7X:=pcT func172 rfl
def Z7Z:RCode :=
 S [r 0 [n 4 (.bool false)],S [r 1 [m 6 0,e 7 6,m 8 1,e 9 8,o 10 .neq 7 9],K 10 2 [n 4 (.bool false)]],S [r 3 [n 5 O],.block 0 (.loop (S [S [r 4 [m 11 5,m 12 0,e 13 12,o 14 .lss 11 13],.cond (.t 14) .skip (.exit 0)],.block 1 (S [R 6 [m 17 0,m 18 5,a [0,1] (i 19 1 17 18),a [2] (l 20 19),m 21 1,m 22 5,a [4,5] (i 23 1 21 22),a [6] (l 24 23),a [3,7] (o 25 .neq 20 24)],K 25 7 [n 4 (.bool false)]]),r 5 [m 15 5,k 16 .add 15 I,m 5 16]]))],r 8 [n 4 (.bool true)],.ret]
def Z80:List RRes:=[.t 4]
def Z81:PCt prog 25 f25 Z7Z Z80:=pcT func25 rfl
def Z82:RCode :=
 S [r 0 [b 1 0,w 2 (.alloc [O,O,.int .u8 0,.nils,.nils])],R 1 [w 3 (.bsl true 2 0 [] []),f 4 3 1,a [1] (l 5 4),a [0,2] (w 6 (.app 2 16 (.t 3) (.t 5))),w 7 (.bsl true 3 0 [] []),f 8 4 1,a [5] (l 9 8),a [4,6,3] (w 10 (.app 3 24 (.t 7) (.t 9))),a [0,1,2,3,5,6] (f 11 3 1),a [8,3,7,0,1,2,3,5,6] (s 1 11 6),a [0,1,2,3,4,5,6,7,8,9] (f 12 4 1),a [10,7,9,0,1,2,3,4,5,6,7,8,9] (s 1 12 10)],r 2 [L 13 5 1,s 5 2 13],.ret]
def Z83:List RRes:=[.c 2 true 5]
def Z84:PCt prog 167 f167 Z82 Z83:=pcT func167 rfl
def Z85:RCode :=
 S [r 0 [b 1 0,w 2 (.alloc [.nils])],r 1 [w 3 (.alloc [.nils])],S [r 2 [n 4 O],.block 0 (.loop (S [S [r 3 [m 5 4,f 6 0 1,l 7 6,e 8 7,o 9 .lss 5 8],.cond (.t 9) .skip (.exit 0)],.block 1 (R 5 [f 12 0 3,a [0] (l 13 12),f 14 0 1,a [2] (l 15 14),m 16 4,a [3,4] (i 17 5 15 16),a [5] (L 18 5 17),a [6] (c 19 167 [18]),a [7] (w 20 (.bsl false 5 1 [O,O,.int .u8 0,.nils,.nils] [(0,.t 19)])),a [1,8,7] (w 21 (.app 5 72 (.t 13) (.t 20))),a [0,1,2,3,4,5,6,7,8,9] (f 22 0 3),a [10,9,9,0,1,2,3,4,5,6,7,8,9] (s 1 22 21)]),r 4 [m 10 4,k 11 .add 10 I,m 4 11]]))],r 6 [L 23 1 3,s 1 2 23],.ret]
def Z86:List RRes:=[.c 2 true 1]
def Z87:PCt prog 126 f126 Z85 Z86:=pcT func126 rfl
def Z88:RCode :=
 S [r 0 [b 1 0,n 2 (.bool false)],S [r 1 [f 4 0 1,l 5 4,e 6 5,k 7 .gtr 6 (.int .i64 80)],K 7 2 [n 2 (.bool true)]],S [r 3 [n 3 O],.block 0 (.loop (S [S [r 4 [m 8 3,f 9 0 1,l 10 9,e 11 10,o 12 .lss 8 11],.cond (.t 12) .skip (.exit 0)],.block 1 (S [r 6 [f 15 0 1,l 16 15,m 17 3,i 18 5 16 17,f 19 3 18,l 20 19,e 21 20,k 22 .gtr 21 (.int .i64 16),m 23 22,g 23 false (f 24 0 1),g 23 false (l 25 24),g 23 false (m 26 3),g 23 false (i 27 5 25 26),g 23 false (f 28 4 27),g 23 false (l 29 28),g 23 false (e 30 29),g 23 false (k 31 .gtr 30 (.int .i64 8)),u 32 23 31],K 32 7 [n 2 (.bool true)]]),r 5 [m 13 3,k 14 .add 13 I,m 3 14]]))],r 8 [n 2 (.bool false)],.ret]
def Z89:List RRes:=[.t 2]
def Z8a:PCt prog 125 f125 Z88 Z89:=pcT func125 rfl
end
def mixed:prog.follows .mixedOrders=true:=by kernel_rfl
def Qga {R:Run} {c:RCode} {F:Exit->St->Prop} {st:St} (h:GO prog R 1000 (.run c) [] F st):AR prog R c st F:=Yb mixed 1000 h
def Qgr {R:Run} {e:Exit} {ks:List KF} {F:Exit->St->Prop} {st:St} (h:GO prog R 1000 (.out e) ks F st):RetP prog R ks F e st:=Z2R mixed 1000 h
def inR (n lo hi:Int):Bool:=decide (lo<=n/\n<=hi)
def Yf {n:Int} (h0:-9223372036854775808<=n:=by omega) (h1:n<=9223372036854775807:=by omega):i64.wrap n=n:=IntWalk.i64_in _ ⟨h0,h1⟩
def RndF (S:Nat->St) (I:Nat->Prop) (i:Nat) (Φ:Exit->St->Prop):Exit->St->Prop
 |.normal,st=>Ym st (S (i+1))/\I (i+1)
 |e,st=>Φ e st
def RndE (Φ:Exit->St->Prop):Exit->St->Prop
 |.normal,_=>False
 |e,st=>Φ e st
section
variable {P:Program} {R:Run} {st:St} {Φ:Exit->St->Prop} {S:Nat->St} {I:Nat->Prop} {i:Nat}
def Z8b:RndF S I i Φ .normal st=(Ym st (S (i+1))/\I (i+1)):=rfl
def Z8c:RndF S I i Φ .ret st=Φ .ret st:=rfl
def Z8d {j:Nat}:RndF S I i Φ (.exit j) st=Φ (.exit j) st:=rfl
def Z8e:RndE Φ .ret st=Φ .ret st:=rfl
def Z8f {j:Nat}:RndE Φ (.exit j) st=Φ (.exit j) st:=rfl
attribute [simp] Z8b Z8c Z8d Z8e Z8f
def Z8g {c:RCode} (S:Nat->St) (I:Nat->Prop) (N:Nat) (h0:Ym st (S 0)) (hi:I 0) (hr:∀ i,i<N->I i->AR P R c (S i) (RndF S I i Φ)) (he:I N->AR P R c (S N) (RndE Φ)):AR P R (.loop c) st Φ:=by
 refine Z1Q S (λi=>i<=N/\I i) (λi=>N-i) 0 h0 ⟨W1f _,hi⟩ ?_;rintro i ⟨h1,h2⟩;by_cases h3:i<N
 . refine Z2I (hr i h3 h2) λe s hs=>?_
   cases e with
   |normal=>exact ⟨i+1,hs.1,⟨by omega,hs.2⟩,by show N-(i+1)<N-i;omega⟩
   |_=>exact hs
 . obtain rfl:i=N:=(by omega);refine Z2I (he h2) λe s hs=>?_
   cases e with
   |normal=>exact hs.elim
   |_=>exact hs
end
structure Iss where
 d:Int
 l:Int
 k:Int
 its:List (Int×Int)
 dms:List Dm
 deriving DecidableEq,Inhabited
def ia (n:Int):List AV:=[.int .i64 n]
def ita (p:Int×Int):List AV:=[.int .i64 p.1,.int .i64 p.2]
def dma (d:Dm):List AV:=[.int .i64 d.n,.int .i64 d.l,.int .i64 d.u]
def isa (x:Iss):List AV:=[.int .i64 x.d,.int .i64 x.l,.int .u8 x.k,.vsl (x.its.map ita),.vsl (x.dms.map dma)]
def rega (r:List Iss):AV:=.agg [.vsl (r.map isa)]
def Sml {α:Type} (l:List α):Prop:=l.length<=16777216
def Z8h (n lo hi:Int):PC prog G 218 [.int .i64 n,.int .i64 lo,.int .i64 hi] (.bool (inR n lo hi)):=by
 (refine Z7x rfl λR hG hrd=>Yb mixed 1000 ?_;subst hG)
 by_cases h1:lo<=n <;> simp -implicitDefEqProofs[Z7v,Z7w,h1,inR]
def Z8i (n l u:Int):PC prog G 212 [.agg [.int .i64 n,.int .i64 l,.int .i64 u]] (.bool (vd ⟨n,l,u⟩)):=by
 (refine Z7A rfl λR hG hrd=>Yb mixed 1000 ?_;subst hG)
 have e:vd ⟨n,l,u⟩=(inR n 0 1000000000&&(inR u 0 1000000000&&inR l 0 u)):=by
  unfold vd inR;rw[<- Bool.decide_and,<- Bool.decide_and];exact decide_eq_decide.2 (by simp only;omega)
 simp -implicitDefEqProofs[Z7y,Z7z,e];refine Qco (Z8h _ _ _) ?_
 cases h1:inR n 0 1000000000
 . simp -implicitDefEqProofs
 . simp -implicitDefEqProofs;refine Qco (Z8h _ _ _) ?_
   cases h2:inR u 0 1000000000
   . simp -implicitDefEqProofs
   . simp -implicitDefEqProofs;refine Qco (Z8h _ _ _) ?_;simp -implicitDefEqProofs
def Z8j (n lo hi:Int):PC prog G 199 [.int .i64 n,.int .i64 lo,.int .i64 hi] (.bool (inR n lo hi)):=by
 (refine Z7D rfl λR hG hrd=>Yb mixed 1000 ?_;subst hG)
 by_cases h1:lo<=n <;> simp -implicitDefEqProofs[Z7B,Z7C,h1,inR]
def idx (l:List Int) (n:Int):Int:=if n∈l then (l.idxOf n:Int) else -1
def Z8k {l:List Int} {n:Int} {i:Nat} (hi:i<l.length) (he:l[i]=n) (hb:∀ j (h:j<i),l[j]≠n):idx l n=i:=by
 have hm:n∈l:=(by rw[<- he];exact W0e hi);rw[idx,if_pos hm];have h1:l.idxOf n<l.length:=List.idxOf_lt_length_iff.2 hm;have h2:l[l.idxOf n]=n:=List.getElem_idxOf h1;have h3:¬l.idxOf n<i:=λh=>hb _ h h2
 have h4:¬i<l.idxOf n:=λh=>by
  have:=List.not_of_lt_findIdx (p:=(· == n)) h;simp[he]at this
 congr 1;omega
def Z8l {l:List Int} {n:Int} (hb:∀ j (h:j<l.length),l[j]≠n):idx l n = -1:=by
 rw[idx,if_neg];intro hm;obtain ⟨j,h1,h2⟩:=W0k hm;exact hb j h1 h2
def Z8m (l:List Int) (n:Int) (hl:Sml l):PC prog G 64 [.vsl (l.map ia),.int .i64 n] (.int .i64 (idx l n)):=by
 (refine Z7M rfl λR hG hrd=>Yb mixed 1000 ?_;subst hG)
 simp -implicitDefEqProofs[Z7K,Z7L];refine Z8g (λi=>⟨[(5,.int .i64 i),(0,.vsl (l.map ia)),(1,.int .i64 n)],[]⟩) (λi=>∀ j (h:j<l.length),j<i->l[j]≠n) l.length (by (first|exact Wka|exact Wkb)) (by simp) ?_ ?_
 . intro i hi he;refine Yb mixed 1000 ?_;unfold Sml at hl;have w1:i64.wrap ((i:Int)+1)=((i+1:Nat):Int):=Yf;by_cases h2:l[i]=n
   . simp -implicitDefEqProofs[hi,ia,h2];refine Z2R mixed 1000 ?_;simp -implicitDefEqProofs[Z8k hi h2 (λj h=>he j (by omega) h)]
   . simp -implicitDefEqProofs[hi,ia,h2,w1];refine ⟨(by (first|exact Wka|exact Wkb)),λj h1 h3=>?_⟩;by_cases e:j=i
     . subst e;exact h2
     . exact he j h1 (by omega)
 . intro he;refine Yb mixed 1000 ?_;simp -implicitDefEqProofs[];refine Z2R mixed 1000 ?_;simp -implicitDefEqProofs[Z8l (λj h=>he j h h)]
def Z8n (a b:List Int) (ha:Sml a):PC prog G 25 [.vsl (a.map ia),.vsl (b.map ia)] (.bool (decide (a=b))):=by
 (refine Z81 rfl λR hG hrd=>Yb mixed 1000 ?_;subst hG)
 by_cases hl:a.length=b.length
 . have hl':(a.length:Int)=b.length:=(by omega);simp -implicitDefEqProofs[Z7Z,Z80,hl'];refine Z8g (λi=>⟨[(5,.int .i64 i),(0,.vsl (a.map ia)),(1,.vsl (b.map ia))],[]⟩) (λi=>∀ j (h:j<a.length),j<i->a[j]=b[j]) a.length (by (first|exact Wka|exact Wkb)) (by simp) ?_ ?_
   . intro i hi he;refine Yb mixed 1000 ?_;unfold Sml at ha;have hi2:i<b.length:=(by omega);have w1:i64.wrap ((i:Int)+1)=((i+1:Nat):Int):=Yf;by_cases h2:a[i]=b[i]
     . simp -implicitDefEqProofs[hi,hi2,ia,h2,w1];refine ⟨rfl,(by (first|exact Wka|exact Wkb)),λj h1 h3=>?_⟩;by_cases e:j=i
       . subst e;exact h2
       . exact he j h1 (by omega)
     . have h3:¬a=b:=λe=>h2 (by subst e;rfl)
       simp -implicitDefEqProofs[hi,hi2,ia,h2];refine ⟨rfl,?_⟩;refine Z2R mixed 1000 ?_;simp -implicitDefEqProofs[h3]
   . intro he;refine Yb mixed 1000 ?_;have h3:a=b:=W1I hl λj h1 h2=>he j h1 h1
     simp -implicitDefEqProofs[];refine Z2R mixed 1000 ?_;simp -implicitDefEqProofs[h3]
 . have hl':¬(a.length:Int)=b.length:=(by omega);have h3:¬a=b:=λe=>hl (by rw[e])
   simp -implicitDefEqProofs[Z7Z,Z80,hl',h3]
abbrev Jr:=List Iss
def nz:AV->AV
 |.nils=>.vsl []
 |.agg xs=>.agg (xs.attach.map λ⟨x,_⟩=>nz x)
 |.tup xs=>.tup (xs.attach.map λ⟨x,_⟩=>nz x)
 |x=>x
def nz_at (xs:List AV):(xs.attach.map λ⟨x,_⟩=>nz x)=xs.map nz:=by
 have h:(xs.attach.map λ⟨x,_⟩=>nz x)=(xs.attach.map Subtype.val).map nz:=(by rw[W10];rfl);rw[h,List.attach_map_subtype_val]
def Z8o (xs:List AV):nz (.agg xs) = .agg (xs.map nz):=by rw[nz,nz_at]
def Z8p (xs:List AV):nz (.tup xs) = .tup (xs.map nz):=by rw[nz,nz_at]
def PV.nz {M:Nat->Prop} {W:World} {x:AV} {v:Value} (h:PV M W x v):PV M W (nz x) v:=by
 induction h with
 |nils=>simp only[Go.Proofs.YtcdlimgkliklhaaGreatDoor.nz];exact .vsl [] none 0 1 0 0 (λ_ _=>undef) (W0f _) (W1f _) (λh=>absurd rfl h) (λ_=>⟨rfl,rfl⟩) (by simp) (by simp) (by simp)
 | agg xs us h1 hx ih =>
   rw[Z8o];refine .agg _ us (by simpa using h1) λi x u hi hu=>?_
   rw[W09,W04]at hi;obtain ⟨y,hy,rfl⟩:=hi;exact ih i y u hy hu
 | tup xs us h1 hx ih =>
   rw[Z8p];refine .tup _ us (by simpa using h1) λi x u hi hu=>?_
   rw[W09,W04]at hi;obtain ⟨y,hy,rfl⟩:=hi;exact ih i y u hy hu
 |hole=>simp only[Go.Proofs.YtcdlimgkliklhaaGreatDoor.nz];exact .hole
 |int k n=>simp only[Go.Proofs.YtcdlimgkliklhaaGreatDoor.nz];exact .int k n
 |bool b=>simp only[Go.Proofs.YtcdlimgkliklhaaGreatDoor.nz];exact .bool b
 |abool b=>simp only[Go.Proofs.YtcdlimgkliklhaaGreatDoor.nz];exact .abool b
 |str s=>simp only[Go.Proofs.YtcdlimgkliklhaaGreatDoor.nz];exact .str s
 |nilp=>simp only[Go.Proofs.YtcdlimgkliklhaaGreatDoor.nz];exact .nilp
 |nilm=>simp only[Go.Proofs.YtcdlimgkliklhaaGreatDoor.nz];exact .nilm
 |nilf=>simp only[Go.Proofs.YtcdlimgkliklhaaGreatDoor.nz];exact .nilf
 |vptr cells off b o f hb hM hc hr ih=>simp only[Go.Proofs.YtcdlimgkliklhaaGreatDoor.nz];exact .vptr cells off b o f hb hM hc hr
 |vsl rows a cap sz b o f hcap hmax ha hn hs hc hr ih=>simp only[Go.Proofs.YtcdlimgkliklhaaGreatDoor.nz];exact .vsl rows a cap sz b o f hcap hmax ha hn hs hc hr
 |func fn xs ys us vs h1 h2 hx hy ihx ihy=>simp only[Go.Proofs.YtcdlimgkliklhaaGreatDoor.nz];exact .func fn xs ys us vs h1 h2 hx hy
 |vmap kvs b es clock hb hM ho hs hn hk' hv ihk ihv=>simp only[Go.Proofs.YtcdlimgkliklhaaGreatDoor.nz];exact .vmap kvs b es clock hb hM ho hs hn hk' hv
def PC.nzR {P:Program} {G:Jg} {f:FuncId} {args:List AV} {v v':AV} (h:PC P G f args v) (e:nz v=v'):PC P G f args v':=by
 subst e;refine ⟨h.1,λM W vs hM hG hs hv=>(h.2 M W vs hM hG hs hv).mono ?_⟩;rintro e W' ⟨u,h1,h2,h3⟩;exact ⟨u,h1,h2.nz,h3⟩
def Z8q {a b:Int×Int} (h:¬a=b):(!decide (a.1=b.1) || !decide (a.2=b.2))=true:=by
 cases h5:(!decide (a.1=b.1) || !decide (a.2=b.2))
 . simp only[W1T,Bool.not_eq_false',W0b]at h5;exact absurd (Prod.ext h5.1 h5.2) h
 . rfl
def SmlR (r:Jr):Prop:=Sml r/\∀ x∈r,Sml x.its/\Sml x.dms
def at' (r:Jr) (i:Nat):Iss:=r.getD i default
def at_eq {r:Jr} {i:Nat} (h:i<r.length):at' r i=r[i]:=by simp[at',List.getD,h]
def newB (r:Jr) (i:Nat):Bool:=i == 0 || !decide ((at' r (i-1)).d=(at' r i).d)
def numsN (r:Jr):Nat->List Int
 |0=>[]
 |i+1=>if newB r i=true then numsN r i++[(at' r i).d] else numsN r i
def nums (r:Jr):List Int:=numsN r r.length
def Z8r (r:Jr):∀ i,(numsN r i).length<=i
 |0=>by simp[numsN]
 | i+1=>by
   have:=Z8r r i;simp only[numsN]
   split
   . simp;omega
   . omega
def lastN (r:Jr) (n:Int):Nat->Int
 |0=>0
 |i+1=>if (at' r i).d=n then max (lastN r n i) (at' r i).l else lastN r n i
def lastV (r:Jr) (n:Int):Int:=lastN r n r.length
def findN (d l:Int):List Iss->Option Iss
 |[]=>none
 |x::r=>if x.d=d/\x.l=l then some x else findN d l r
def noIs:AV:=.agg [.int .i64 0,.int .i64 0,.int .u8 0,.nils,.nils]
def fndA:Option Iss->AV
 |some x=>.tup [.agg (isa x),.bool true]
 |none=>.tup [noIs,.bool false]
def Z8s (r:Jr):Bool:=decide (80<r.length)||r.any λx=>decide (16<x.its.length)||decide (8<x.dms.length)
def Z8t {d l:Int}:∀ {r:Jr} {i:Nat} (h:i<r.length),r[i].d=d->r[i].l=l->(∀ j (h:j<r.length),j<i->¬(r[j].d=d/\r[j].l=l))->findN d l r=some r[i]
 |x::r,0,h,h1,h2,_=>by simp only[findN];rw[if_pos ⟨h1,h2⟩];rfl
 | x::r,i+1,h,h1,h2,hb=>by
   simp only[findN];rw[if_neg (show ¬(x.d=d/\x.l=l) from hb 0 (by simp) (by omega))];exact Z8t (by simpa using h) h1 h2 λj hj hi=>hb (j+1) (by simpa using hj) (by omega)
def Z8u {d l:Int}:∀ {r:Jr},(∀ j (h:j<r.length),¬(r[j].d=d/\r[j].l=l))->findN d l r=none
 |[],_=>rfl
 | x::r,hb=>by
   simp only[findN];rw[if_neg (show ¬(x.d=d/\x.l=l) from hb 0 (by simp))];exact Z8u λj hj=>hb (j+1) (by simpa using hj)
def Z8v (x:Iss) (h1:Sml x.its) (h2:Sml x.dms):PC prog G 167 [.agg (isa x)] (.agg (isa x)):=by
 (refine Z84 rfl λR hG hrd=>Qga ?_;subst hG)
 unfold Sml at h1 h2;have b1:x.its.length*16<=70368744177664:=(by omega);have b2:x.dms.length*24<=70368744177664:=(by omega);have k1:(x.its.map ita).all (λr=>r.length == 2)=true:=(by simp[ita]);have k2:(x.its.map ita).all (λr=>r.all AV.one)=true:=(by simp[ita,AV.one]);have k3:(x.dms.map dma).all (λr=>r.length == 3)=true:=(by simp[dma]);have k4:(x.dms.map dma).all (λr=>r.all AV.one)=true:=(by simp[dma,AV.one]);have k5:(x.its.map ita).all (λr=>r.all AV.pure)=true:=(by simp[ita,AV.pure]);have k6:(x.dms.map dma).all (λr=>r.all AV.pure)=true:=(by simp[dma,AV.pure]);by_cases e1:x.its=[] <;> by_cases e2:x.dms=[]
 . simp -implicitDefEqProofs[Z82,Z83,isa,e1,e2]
   try rfl
 . simp -implicitDefEqProofs[Z82,Z83,isa,e1,e2,b2,k3,k4,k6]
   try rfl
 . simp -implicitDefEqProofs[Z82,Z83,isa,e1,e2,b1,k1,k2,k5]
   try rfl
 . simp -implicitDefEqProofs[Z82,Z83,isa,e1,e2,b1,b2,k1,k2,k3,k4,k5,k6]
   try rfl
def Z8w (r:Jr) (h:Sml r):PC prog G 125 [rega r] (.bool (Z8s r)):=by
 (refine Z8a rfl λR hG hrd=>Qga ?_;subst hG)
 unfold Sml at h;by_cases h1:80<r.length
 . have h1':(80:Int)<r.length:=(by omega);simp -implicitDefEqProofs[Z88,Z89,rega,h1',Z8s,h1]
 have h1':¬(80:Int)<r.length:=(by omega);simp -implicitDefEqProofs[Z88,Z89,rega,h1'];refine Z8g (λi=>⟨[(3,.int .i64 i),(1,.ptr 1 0)],[(1,.box [.vsl (r.map isa)])]⟩) (λi=>∀ j (h:j<r.length),j<i->r[j].its.length<=16/\r[j].dms.length<=8) r.length (by (first|exact Wka|exact Wkb)) (by simp) ?_ ?_
 . intro i hi he;refine Qga ?_;have w1:i64.wrap ((i:Int)+1)=((i+1:Nat):Int):=Yf
   have bad:(16<r[i].its.length∨8<r[i].dms.length)->Z8s r=true:=λhb=>by
    simp only[Z8s,W0T,W14,W0b];exact .inr ⟨r[i],W0e hi,hb⟩
   by_cases h2:16<r[i].its.length
   . have h2':(16:Int)<r[i].its.length:=(by omega);simp -implicitDefEqProofs[hi,isa,h2'];refine Qgr ?_;simp -implicitDefEqProofs[bad (.inl h2)]
   have h2':¬(16:Int)<r[i].its.length:=(by omega);by_cases h3:8<r[i].dms.length
   . have h3':(8:Int)<r[i].dms.length:=(by omega);simp -implicitDefEqProofs[hi,isa,h2',h3'];refine Qgr ?_;simp -implicitDefEqProofs[bad (.inr h3)]
   have h3':¬(8:Int)<r[i].dms.length:=(by omega);simp -implicitDefEqProofs[hi,isa,h2',h3',w1];refine ⟨(by (first|exact Wka|exact Wkb)),λj q1 q3=>?_⟩;by_cases e:j=i
   . subst e;exact ⟨by omega,by omega⟩
   . exact he j q1 (by omega)
 . intro he;refine Qga ?_
   have hg:Z8s r=false:=by
    simp only[Z8s,W1T,W1b,h1,not_false_eq_true,true_and,W26,Bool.not_eq_true,W0T,W0b];intro x hx;obtain ⟨j,hj,rfl⟩:=W0k hx;have:=he j hj hj;omega
   simp -implicitDefEqProofs[];refine Qgr ?_;simp -implicitDefEqProofs[hg]
def Z8x (r:Jr) (d l:Int) (h:Sml r):PC prog G 172 [rega r,.agg [.int .i64 d,.int .i64 l]] (fndA (findN d l r)):=by
 (refine Z7Y rfl λR hG hrd=>Qga ?_;subst hG)
 unfold Sml at h;simp -implicitDefEqProofs[Z7W,Z7X,rega];refine Z8g (λi=>⟨[(6,.int .i64 i),(2,.ptr 2 0),(3,.ptr 3 0),(4,.ptr 4 0)],[(2,.box [.vsl (r.map isa)]),(3,.box [.int .i64 d,.int .i64 l]),(4,.box [.int .i64 0,.int .i64 0,.int .u8 0,.nils,.nils])]⟩) (λi=>∀ j (h:j<r.length),j<i->¬(r[j].d=d/\r[j].l=l)) r.length (by (first|exact Wka|exact Wkb)) (by simp) ?_ ?_
 . intro i hi he;refine Qga ?_;have w1:i64.wrap ((i:Int)+1)=((i+1:Nat):Int):=Yf
   have go:¬(r[i].d=d/\r[i].l=l)->∀ j (h:j<r.length),j<i+1->¬(r[j].d=d/\r[j].l=l):=λhb j q1 q2=>by
    by_cases e:j=i
    . subst e;exact hb
    . exact he j q1 (by omega)
   by_cases h2:r[i].d=d
   . by_cases h3:r[i].l=l
     . simp -implicitDefEqProofs[hi,isa,h2,h3];refine Qgr ?_;simp -implicitDefEqProofs[Z8t hi h2 h3 he,fndA,isa,h2,h3]
     . simp -implicitDefEqProofs[hi,isa,h2,h3,w1];exact ⟨(by (first|exact Wka|exact Wkb)),λj q1 q2 q3 q4=>go (λe=>h3 e.2) j q1 q2 ⟨q3,q4⟩⟩
   . simp -implicitDefEqProofs[hi,isa,h2,w1];exact ⟨(by (first|exact Wka|exact Wkb)),λj q1 q2 q3 q4=>go (λe=>h2 e.1) j q1 q2 ⟨q3,q4⟩⟩
 . intro he;refine Qga ?_;simp -implicitDefEqProofs[];refine Qgr ?_;simp -implicitDefEqProofs[Z8u (λj hj=>he j hj hj),fndA,noIs]
def itAt (x:Iss) (i:Nat):Int×Int:=x.its.getD i (0,0)
def itOk (x:Iss) (i:Nat):Bool:=inR (itAt x i).1 1 9999&&inR (itAt x i).2 1 20 && !decide ((itAt x i).1=x.d)&&(i == 0||decide ((itAt x (i-1)).1<(itAt x i).1))
def headB (x:Iss):Bool:=inR x.d 1 9999&&inR x.l 1 8&&inR x.k 1 3&&(if x.k=1 then inR x.its.length 1 8&&decide (x.dms.length=0) else decide (x.dms.length<=4)&&decide (x.its.length=0))
def issB (x:Iss):Bool:=headB x&&(List.range x.its.length).all (itOk x)&&x.dms.all vd
def Z8y {n:Nat} {p:Nat->Bool}:(List.range n).all p=true↔∀ j,j<n->p j=true:=by simp[W03]
def nuS (r:Jr):Nat->St
 |0=>⟨[(4,.int .i64 0),(3,.nils),(1,.ptr 1 0)],[(1,.box [.vsl (r.map isa)])]⟩
 |i+1=>⟨[(4,.int .i64 (i+1:Nat)),(3,.osl 35 (numsN r (i+1)).length),(1,.ptr 1 0)],[(1,.box [.vsl (r.map isa)]),(35,.row 1 ((numsN r (i+1)).map ia))]⟩
def Z8z (r:Jr) (h:Sml r) (h0:r≠[]):PC prog G 54 [rega r] (.vsl ((nums r).map ia)):=by
 (refine Z7J rfl λR hG hrd=>Qga ?_;subst hG)
 unfold Sml at h;simp -implicitDefEqProofs[Z7H,Z7I,rega];refine Z8g (nuS r) (λ_=>True) r.length (by simp only[nuS];(first|exact Wka|exact Wkb)) trivial ?_ ?_
 . intro i hi he;refine Qga ?_;have e1:=at_eq hi
   cases i with
   | zero =>
     have hn:numsN r 1=[r[0].d]:=(by simp[numsN,newB,e1]);have w1:i64.wrap 1=1:=rfl;simp -implicitDefEqProofs[nuS,hi,isa,w1];exact Ym.sub (by simp[lk,Ya,AV.keys,hn]) (by simp[lk,Yc,Ya,AV.keys,hn,ia])
   | succ i =>
     have w1:i64.wrap ((i:Int)+1+1)=(i:Int)+1+1:=Yf;have w2:i64.wrap (i:Int)=(i:Int):=Yf;have k1:(i:Int)+1<r.length:=(by omega);have k2:((i:Int)+1).toNat=i+1:=(by omega);have k3:(0:Int)<=(i:Int)+1:=(by omega);have k4:¬(i:Int)+1=0:=(by omega);have hi2:i<r.length:=(by omega);have e2:=at_eq hi2;have b1:=Z8r r (i+1);have b2:((numsN r (i+1)).length+1)*8<=70368744177664:=(by omega);by_cases h2:r[i].d=r[i+1].d
     . have hn:numsN r (i+1+1)=numsN r (i+1):=(by rw[numsN];simp[newB,e1,e2,h2]);simp -implicitDefEqProofs[nuS,hi,hi2,k1,k2,k3,k4,isa,w1,w2,h2];exact Ym.sub (by simp[lk,Ya,AV.keys,hn]) (by simp[lk,Yc,Ya,AV.keys,hn,ia])
     . have hn:numsN r (i+1+1)=numsN r (i+1)++[r[i+1].d]:=(by rw[numsN];simp[newB,e1,e2,h2]);simp -implicitDefEqProofs[nuS,hi,hi2,k1,k2,k3,k4,isa,w1,w2,h2,b2];exact Ym.sub (by simp[lk,Ya,AV.keys,hn]) (by simp[lk,Yc,Ya,AV.keys,hn,ia])
 . intro he;refine Qga ?_
   obtain ⟨n,hn⟩ : ∃ n,r.length=n+1:=⟨r.length-1,by
    have:r.length≠0:=(by simpa using h0);omega⟩
   have e:numsN r (n+1)=nums r:=(by rw[nums,hn]);have pu:((nums r).map ia).all (λx=>x.all AV.pure)=true:=(by simp[ia,AV.pure]);rw[hn];have k1:¬(n:Int)+1<n+1:=(by omega);simp -implicitDefEqProofs[nuS,e,hn,k1];refine Qgr ?_;simp -implicitDefEqProofs[pu]
def Z8A (x:Iss) (h1:Sml x.its) (h2:Sml x.dms) (hk:0<=x.k/\x.k<=255):PC prog G 200 [.agg (isa x)] (.bool (issB x)):=by
 (refine Z7G rfl λR hG hrd=>Qga ?_;subst hG)
 unfold Sml at h1 h2;have wk:i64.wrap x.k=x.k:=Yf;have bad:headB x=false->issB x=false:=λe=>by simp[issB,e]
 simp -implicitDefEqProofs[Z7E,Z7F,isa];refine Qco (Z8j _ _ _) ?_
 cases q1:inR x.d 1 9999
 . simp -implicitDefEqProofs[bad (by simp[headB,q1])]
 simp -implicitDefEqProofs[];refine Qco (Z8j _ _ _) ?_
 cases q2:inR x.l 1 8
 . simp -implicitDefEqProofs[bad (by simp[headB,q2])]
 simp -implicitDefEqProofs[wk];refine Qco (Z8j _ _ _) ?_
 cases q3:inR x.k 1 3
 . simp -implicitDefEqProofs[bad (by simp[headB,q3])]
 have q3':1<=x.k/\x.k<=3:=W0X q3;by_cases c1:x.k=1
 . simp -implicitDefEqProofs [c1];refine Qco (Z8j _ _ _) ?_
   cases q4:inR x.its.length 1 8
   . simp -implicitDefEqProofs[bad (by simp[headB,q4,c1])]
   have n1:¬(1:Int)<1:=(by omega);by_cases q5:x.dms.length=0
   . have q5n : ¬0<x.dms.length:=(by omega);have hB:headB x=true:=(by simp[headB,q1,q2,c1,q4,q5];rfl);simp -implicitDefEqProofs[q5n,q5];refine Z8g (λi=>⟨[(3,.int .i64 i),(1,.ptr 1 0)],[(1,.box (isa x))]⟩) (λi=>∀ j,j<i->itOk x j=true) x.its.length (by (first|exact Ym.tm (by simp[lk,isa,c1])|exact Ym.sub (by simp[lk,Ya,AV.keys,isa,c1]) (by simp[lk,Yc,Ya,AV.keys,isa,c1]))) (by simp) ?_ ?_
     . intro i hi he;refine Qga ?_;have w1:i64.wrap ((i:Int)+1)=((i+1:Nat):Int):=Yf;have a1:itAt x i=x.its[i]:=by simp[itAt,List.getD,hi]
       have no:itOk x i=false->issB x=false:=λe=>by
        cases hI:issB x
        . rfl
        . simp only[issB,W01]at hI;rw[Z8y.1 hI.1.2 i hi]at e;cases e
       simp -implicitDefEqProofs[hi,isa,ita];refine Qco (Z8j _ _ _) ?_
       cases p1:inR x.its[i].1 1 9999
       . simp -implicitDefEqProofs[];refine ⟨rfl,?_⟩;refine Qgr ?_;simp -implicitDefEqProofs[no (by simp[itOk,a1,p1])]
       simp -implicitDefEqProofs[];refine Qco (Z8j _ _ _) ?_
       cases p2:inR x.its[i].2 1 20
       . simp -implicitDefEqProofs[];refine ⟨rfl,?_⟩;refine Qgr ?_;simp -implicitDefEqProofs[no (by simp[itOk,a1,p2])]
       by_cases p3:x.its[i].1=x.d
       . simp -implicitDefEqProofs[p3];refine ⟨rfl,?_⟩;refine Qgr ?_;simp -implicitDefEqProofs[no (by simp[itOk,a1,p3])]
       cases i with
       | zero =>
         have ok:itOk x 0=true:=(by simp[itOk,a1,p1,p2,p3]);have w0:i64.wrap 1=1:=rfl;simp -implicitDefEqProofs[p3,w0];exact ⟨rfl,(by (first|exact Ym.tm (by simp[lk,isa])|exact Ym.sub (by simp[lk,Ya,AV.keys,isa]) (by simp[lk,Yc,Ya,AV.keys,isa]))),ok⟩
       | succ i =>
         have w2:i64.wrap (i:Int)=(i:Int):=Yf;have w3:i64.wrap ((i:Int)+1+1)=(i:Int)+1+1:=Yf;have k3:(0:Int)<(i:Int)+1:=(by omega);have hi2:i<x.its.length:=(by omega);have a2:itAt x i=x.its[i]:=(by simp[itAt,List.getD,hi2]);by_cases p4:x.its[i+1].1<=x.its[i].1
         . simp -implicitDefEqProofs[p3,k3,w2,hi2,ita,p4];refine ⟨rfl,?_⟩;refine Qgr ?_;simp -implicitDefEqProofs[no (by simp[itOk,a1,a2,p4])]
         . have ok:itOk x (i+1)=true:=(by simp[itOk,a1,a2,p1,p2,p3];omega);simp -implicitDefEqProofs[p3,k3,w2,w3,hi2,ita,p4];refine ⟨rfl,(by (first|exact Ym.tm (by simp[lk,isa])|exact Ym.sub (by simp[lk,Ya,AV.keys,isa]) (by simp[lk,Yc,Ya,AV.keys,isa]))),λj hj=>?_⟩;by_cases e:j=i+1
           . subst e;exact ok
           . exact he j (by omega)
     . intro he;refine Qga ?_;have hI:(List.range x.its.length).all (itOk x)=true:=Z8y.2 he;simp -implicitDefEqProofs[isa];refine Qgr ?_;simp -implicitDefEqProofs[];refine Z8g (λi=>⟨[(5,.int .i64 i),(1,.ptr 1 0)],[(1,.box (isa x))]⟩) (λi=>∀ j (h:j<x.dms.length),j<i->vd x.dms[j]=true) x.dms.length (by (first|exact Ym.tm (by simp[lk,isa])|exact Ym.sub (by simp[lk,Ya,AV.keys,isa]) (by simp[lk,Yc,Ya,AV.keys,isa]))) (by simp) ?_ ?_
       . intro i hi he;refine Qga ?_;have w1:i64.wrap ((i:Int)+1)=((i+1:Nat):Int):=Yf;simp -implicitDefEqProofs[hi,isa,dma];refine Qco (Z8i _ _ _) ?_
         cases p1:vd x.dms[i]
         . have hn:issB x=false:=by
            cases hI2:issB x
            . rfl
            . simp only[issB,W01]at hI2;rw[W03.1 hI2.2 _ (W0e hi)]at p1;cases p1
           have p1':vd ⟨x.dms[i].n,x.dms[i].l,x.dms[i].u⟩=false:=p1;simp -implicitDefEqProofs[p1'];refine Qgr ?_;simp -implicitDefEqProofs[hn]
         . have p1':vd ⟨x.dms[i].n,x.dms[i].l,x.dms[i].u⟩=true:=p1;simp -implicitDefEqProofs[p1',w1];refine ⟨(by (first|exact Ym.tm (by simp[lk,isa])|exact Ym.sub (by simp[lk,Ya,AV.keys,isa]) (by simp[lk,Yc,Ya,AV.keys,isa]))),λj h1 hj=>?_⟩;by_cases e:j=i
           . subst e;exact p1
           . exact he j h1 (by omega)
       . intro hd;refine Qga ?_
         have hD:x.dms.all vd=true:=W03.2 λy hy=>by
          obtain ⟨j,hj,rfl⟩:=W0k hy;exact hd j hj hj
         have hT:issB x=true:=(by simp[issB,hB,hI,hD]);simp -implicitDefEqProofs[isa];refine Qgr ?_;simp -implicitDefEqProofs[hT]
   . have q5n:0<x.dms.length:=(by omega);simp -implicitDefEqProofs[q5n,bad (by simp[headB,q5,c1])]
 . have c2 : 1<x.k:=(by omega);by_cases q4:x.dms.length<=4
   case neg =>
    have q4n:4<x.dms.length:=(by omega);have q4i:(4:Int)<x.dms.length:=(by omega);simp -implicitDefEqProofs[c1,c2,q4n,q4i,bad (by simp[headB,q4,c1])]
   have q4n:¬4<x.dms.length:=(by omega);have q4i:¬(4:Int)<x.dms.length:=(by omega);by_cases q5:x.its.length=0
   . have q5n : ¬0<x.its.length:=(by omega);have hB:headB x=true:=(by simp[headB,q1,q2,q3,c1,q4,q5]);simp -implicitDefEqProofs[c1,c2,q4n,q4i,q5n,q5];refine Z8g (λi=>⟨[(3,.int .i64 i),(1,.ptr 1 0)],[(1,.box (isa x))]⟩) (λi=>∀ j,j<i->itOk x j=true) x.its.length (by (first|exact Ym.tm (by simp[lk,isa,c1])|exact Ym.sub (by simp[lk,Ya,AV.keys,isa,c1]) (by simp[lk,Yc,Ya,AV.keys,isa,c1]))) (by simp) ?_ ?_
     . intro i hi he;refine Qga ?_;have w1:i64.wrap ((i:Int)+1)=((i+1:Nat):Int):=Yf;have a1:itAt x i=x.its[i]:=by simp[itAt,List.getD,hi]
       have no:itOk x i=false->issB x=false:=λe=>by
        cases hI:issB x
        . rfl
        . simp only[issB,W01]at hI;rw[Z8y.1 hI.1.2 i hi]at e;cases e
       simp -implicitDefEqProofs[hi,isa,ita];refine Qco (Z8j _ _ _) ?_
       cases p1:inR x.its[i].1 1 9999
       . simp -implicitDefEqProofs[];refine ⟨rfl,?_⟩;refine Qgr ?_;simp -implicitDefEqProofs[no (by simp[itOk,a1,p1])]
       simp -implicitDefEqProofs[];refine Qco (Z8j _ _ _) ?_
       cases p2:inR x.its[i].2 1 20
       . simp -implicitDefEqProofs[];refine ⟨rfl,?_⟩;refine Qgr ?_;simp -implicitDefEqProofs[no (by simp[itOk,a1,p2])]
       by_cases p3:x.its[i].1=x.d
       . simp -implicitDefEqProofs[p3];refine ⟨rfl,?_⟩;refine Qgr ?_;simp -implicitDefEqProofs[no (by simp[itOk,a1,p3])]
       cases i with
       | zero =>
         have ok:itOk x 0=true:=(by simp[itOk,a1,p1,p2,p3]);have w0:i64.wrap 1=1:=rfl;simp -implicitDefEqProofs[p3,w0];exact ⟨rfl,(by (first|exact Ym.tm (by simp[lk,isa])|exact Ym.sub (by simp[lk,Ya,AV.keys,isa]) (by simp[lk,Yc,Ya,AV.keys,isa]))),ok⟩
       | succ i =>
         have w2:i64.wrap (i:Int)=(i:Int):=Yf;have w3:i64.wrap ((i:Int)+1+1)=(i:Int)+1+1:=Yf;have k3:(0:Int)<(i:Int)+1:=(by omega);have hi2:i<x.its.length:=(by omega);have a2:itAt x i=x.its[i]:=(by simp[itAt,List.getD,hi2]);by_cases p4:x.its[i+1].1<=x.its[i].1
         . simp -implicitDefEqProofs[p3,k3,w2,hi2,ita,p4];refine ⟨rfl,?_⟩;refine Qgr ?_;simp -implicitDefEqProofs[no (by simp[itOk,a1,a2,p4])]
         . have ok:itOk x (i+1)=true:=(by simp[itOk,a1,a2,p1,p2,p3];omega);simp -implicitDefEqProofs[p3,k3,w2,w3,hi2,ita,p4];refine ⟨rfl,(by (first|exact Ym.tm (by simp[lk,isa])|exact Ym.sub (by simp[lk,Ya,AV.keys,isa]) (by simp[lk,Yc,Ya,AV.keys,isa]))),λj hj=>?_⟩;by_cases e:j=i+1
           . subst e;exact ok
           . exact he j (by omega)
     . intro he;refine Qga ?_;have hI:(List.range x.its.length).all (itOk x)=true:=Z8y.2 he;simp -implicitDefEqProofs[isa];refine Qgr ?_;simp -implicitDefEqProofs[];refine Z8g (λi=>⟨[(5,.int .i64 i),(1,.ptr 1 0)],[(1,.box (isa x))]⟩) (λi=>∀ j (h:j<x.dms.length),j<i->vd x.dms[j]=true) x.dms.length (by (first|exact Ym.tm (by simp[lk,isa])|exact Ym.sub (by simp[lk,Ya,AV.keys,isa]) (by simp[lk,Yc,Ya,AV.keys,isa]))) (by simp) ?_ ?_
       . intro i hi he;refine Qga ?_;have w1:i64.wrap ((i:Int)+1)=((i+1:Nat):Int):=Yf;simp -implicitDefEqProofs[hi,isa,dma];refine Qco (Z8i _ _ _) ?_
         cases p1:vd x.dms[i]
         . have hn:issB x=false:=by
            cases hI2:issB x
            . rfl
            . simp only[issB,W01]at hI2;rw[W03.1 hI2.2 _ (W0e hi)]at p1;cases p1
           have p1':vd ⟨x.dms[i].n,x.dms[i].l,x.dms[i].u⟩=false:=p1;simp -implicitDefEqProofs[p1'];refine Qgr ?_;simp -implicitDefEqProofs[hn]
         . have p1':vd ⟨x.dms[i].n,x.dms[i].l,x.dms[i].u⟩=true:=p1;simp -implicitDefEqProofs[p1',w1];refine ⟨(by (first|exact Ym.tm (by simp[lk,isa])|exact Ym.sub (by simp[lk,Ya,AV.keys,isa]) (by simp[lk,Yc,Ya,AV.keys,isa]))),λj h1 hj=>?_⟩;by_cases e:j=i
           . subst e;exact p1
           . exact he j h1 (by omega)
       . intro hd;refine Qga ?_
         have hD:x.dms.all vd=true:=W03.2 λy hy=>by
          obtain ⟨j,hj,rfl⟩:=W0k hy;exact hd j hj hj
         have hT:issB x=true:=(by simp[issB,hB,hI,hD]);simp -implicitDefEqProofs[isa];refine Qgr ?_;simp -implicitDefEqProofs[hT]
   . have q5n:0<x.its.length:=(by omega);simp -implicitDefEqProofs[c1,c2,q4n,q4i,q5n,bad (by simp[headB,q5,c1])]
def Wf (r:Jr):Prop:=SmlR r/\∀ x∈r,0<=x.k/\x.k<=255
def ordB (r:Jr):Nat->Bool
 |0=>decide ((at' r 0).l=1)
 | i+1=>if (at' r (i+1)).d<(at' r i).d then false else if (at' r i).d<(at' r (i+1)).d then decide ((at' r (i+1)).l=1)
   else decide ((at' r (i+1)).l=(at' r i).l+1)&&decide ((at' r (i+1)).k=(at' r i).k)
def inB (r:Jr):Bool:=r.all λx=>x.its.all λy=>decide (y.1∈nums r)
def ItsIn (r:Jr) (x:Iss):Prop:=∀ y∈x.its,y.1∈nums r
def Z8B (r:Jr):Bool:=inR r.length 1 60&&r.all issB&&(List.range r.length).all (ordB r)&&inB r&&decide ((nums r).length<=20)
def Z8C {r:Jr} {i:Nat} (h:i<r.length) (e:issB r[i]=false):Z8B r=false:=by
 cases hI:Z8B r
 . rfl
 . simp only[Z8B,W01]at hI;rw[W03.1 hI.1.1.1.2 _ (W0e h)]at e;cases e
def Z8D {r:Jr} {i:Nat} (h:i<r.length) (e:ordB r i=false):Z8B r=false:=by
 cases hI:Z8B r
 . rfl
 . simp only[Z8B,W01]at hI;rw[Z8y.1 hI.1.1.2 i h]at e;cases e
def Z8E {r:Jr} {i k:Nat} (h:i<r.length) (hk:k<r[i].its.length) (e:r[i].its[k].1 ∉ nums r):Z8B r=false:=by
 cases hI:Z8B r
 . rfl
 . simp only[Z8B,W01,inB]at hI;have:=W03.1 (W03.1 hI.1.2 _ (W0e h)) _ (W0e hk);exact absurd (W0X this) e
def Z8F {l:List Int} {n:Int}:idx l n<0↔n ∉ l:=by
 unfold idx
 split
 . rename_i h;simp[h]
 . rename_i h;simp[h]
def Z8G {l:List Int} {n:Int} (h:n∈l):∃ i:Nat,idx l n=i/\i<l.length/\l[i]? = some n:=by
 refine ⟨l.idxOf n,by rw[idx,if_pos h],List.idxOf_lt_length_iff.2 h,?_⟩;have h1:l.idxOf n<l.length:=List.idxOf_lt_length_iff.2 h;rw[W07 h1,List.getElem_idxOf h1]
def Z8H (r:Jr):(nums r).length<=r.length:=Z8r r _
def Z8I (r:Jr) (h:Wf r):PC prog G 169 [rega r] (.bool (Z8B r)):=by
 (refine Z7P rfl λR hG hrd=>Qga ?_;subst hG)
 have hs:=h.1.1;unfold Sml at hs;simp -implicitDefEqProofs[Z7N,Z7O,rega];refine Qco (Z8j _ _ _) ?_
 cases q1:inR r.length 1 60
 . simp -implicitDefEqProofs[show Z8B r=false by simp[Z8B,q1]]
 have q1':1<=r.length/\r.length<=60:=by
  have:=W0X q1;omega
 have hne:r≠[]:=(by intro e;subst e;simp at q1');simp -implicitDefEqProofs[];refine Z8g (λi=>⟨[(3,.int .i64 i),(1,.ptr 1 0)],[(1,.box [.vsl (r.map isa)])]⟩) (λi=>∀ j (h:j<r.length),j<i->issB r[j]=true/\ordB r j=true) r.length (by (first|exact Wka|exact Wkb)) (by simp) ?_ ?_
 . intro i hi he;refine Qga ?_;have w1:i64.wrap ((i:Int)+1)=((i+1:Nat):Int):=Yf;have a1:=at_eq hi;have hx:=h.1.2 r[i] (W0e hi);have hk:=h.2 r[i] (W0e hi)
   have go:issB r[i]=true->ordB r i=true->∀ j (h:j<r.length),j<i+1->issB r[j]=true/\ordB r j=true:=λg1 g2 j q1 q2=>by
    by_cases e:j=i
    . subst e;exact ⟨g1,g2⟩
    . exact he j q1 (by omega)
   simp -implicitDefEqProofs[hi,isa];refine Qco (Z8A r[i] hx.1 hx.2 hk) ?_
   cases p1:issB r[i]
   . simp -implicitDefEqProofs[];refine Qgr ?_;simp -implicitDefEqProofs[Z8C hi p1]
   have hd:1<=r[i].d:=by
    have p2:=p1;simp only[issB,headB,W01,inR,W0b]at p2;exact p2.1.1.1.1.1.1
   cases i with
   | zero =>
     have n1:¬r[0].d<(0:Int):=(by omega);have n2:(0:Int)<r[0].d:=(by omega);by_cases p3:r[0].l=1
     . have ok:ordB r 0=true:=(by simp[ordB,a1,p3]);have w0:i64.wrap 1=1:=rfl;simp -implicitDefEqProofs[n1,n2,p3,w0];exact ⟨(by (first|exact Wka|exact Wkb)),λj q1 q2=>by subst q2;exact ⟨p1,ok⟩⟩
     . simp -implicitDefEqProofs[n1,n2,p3];refine Qgr ?_;simp -implicitDefEqProofs[Z8D hi (by simp[ordB,a1,p3])]
   | succ i =>
     have w2:i64.wrap (i:Int)=(i:Int):=Yf;have w3:i64.wrap ((i:Int)+1+1)=(i:Int)+1+1:=Yf;have k3:(0:Int)<(i:Int)+1:=(by omega);have hi2:i<r.length:=(by omega);have a2:=at_eq hi2;have bl:=(he i hi2 (by omega)).1;simp only[issB,headB,W01,inR,W0b]at bl;have w4:i64.wrap (r[i].l+1)=r[i].l+1:=Yf;by_cases p3:r[i+1].d<r[i].d
     . simp -implicitDefEqProofs[k3,w2,hi2,isa,p3];refine Qgr ?_;simp -implicitDefEqProofs[Z8D hi (by simp[ordB,a1,a2,p3])]
     by_cases p4:r[i].d<r[i+1].d
     . by_cases p5:r[i+1].l=1
       . have ok:ordB r (i+1)=true:=(by simp[ordB,a1,a2,p3,p4,p5]);simp -implicitDefEqProofs[k3,w2,w3,hi2,isa,p3,p4,p5];exact ⟨(by (first|exact Wka|exact Wkb)),go p1 ok⟩
       . simp -implicitDefEqProofs[k3,w2,hi2,isa,p3,p4,p5];refine Qgr ?_;simp -implicitDefEqProofs[Z8D hi (by simp[ordB,a1,a2,p3,p4,p5])]
     by_cases p5:r[i+1].l=r[i].l+1
     case neg =>
      simp -implicitDefEqProofs[k3,w2,w4,hi2,isa,p3,p4,p5];refine Qgr ?_;simp -implicitDefEqProofs[Z8D hi (by simp[ordB,a1,a2,p3,p4,p5])]
     by_cases p6:r[i+1].k=r[i].k
     . have ok:ordB r (i+1)=true:=(by simp[ordB,a1,a2,p3,p4,p5,p6]);simp -implicitDefEqProofs[k3,w2,w3,w4,hi2,isa,p3,p4,p5,p6];exact ⟨(by (first|exact Wka|exact Wkb)),go p1 ok⟩
     . simp -implicitDefEqProofs[k3,w2,w4,hi2,isa,p3,p4,p5,p6];refine Qgr ?_;simp -implicitDefEqProofs[Z8D hi (by simp[ordB,a1,a2,p3,p4,p5,p6])]
 . intro he;refine Qga ?_
   have g1:r.all issB=true:=W03.2 λx hx=>by
    obtain ⟨j,hj,rfl⟩:=W0k hx;exact (he j hj hj).1
   have g2:(List.range r.length).all (ordB r)=true:=Z8y.2 λj hj=>(he j hj hj).2
   have hns:Sml (nums r):=(by have:=Z8H r;unfold Sml;omega);simp -implicitDefEqProofs[];refine Qgr ?_;simp -implicitDefEqProofs[];refine Qco (Z8z r h.1.1 hne) ?_;simp -implicitDefEqProofs[];refine Z8g (λi=>⟨[(7,.int .i64 i),(6,.vsl ((nums r).map ia)),(1,.ptr 1 0)],[(1,.box [.vsl (r.map isa)])]⟩) (λi=>∀ j (h:j<r.length),j<i->ItsIn r r[j]) r.length (by (first|exact Wka|exact Wkb)) (by simp) ?_ ?_
   . intro i hi hb;refine Qga ?_;have w1:i64.wrap ((i:Int)+1)=((i+1:Nat):Int):=Yf;have hx:=(h.1.2 r[i] (W0e hi)).1;unfold Sml at hx;simp -implicitDefEqProofs[hi];refine Z8g (λk=>⟨[(8,.int .i64 k),(7,.int .i64 i),(6,.vsl ((nums r).map ia)),(1,.ptr 1 0)],[(1,.box [.vsl (r.map isa)])]⟩) (λk=>∀ j (h:j<r[i].its.length),j<k->r[i].its[j].1∈nums r) r[i].its.length (by (first|exact Wka|exact Wkb)) (by simp) ?_ ?_
     . intro k hk hc;refine Qga ?_;have w2:i64.wrap ((k:Int)+1)=((k+1:Nat):Int):=Yf;simp -implicitDefEqProofs[hi,isa,hk,ita];refine Qco (Z8m (nums r) _ hns) ?_;by_cases p1:r[i].its[k].1∈nums r
       . have n1:¬idx (nums r) r[i].its[k].1<0:=λe=>Z8F.1 e p1
         simp -implicitDefEqProofs[n1,w2];refine ⟨(by (first|exact Wka|exact Wkb)),λj q1 q2=>?_⟩;by_cases e:j=k
         . subst e;exact p1
         . exact hc j q1 (by omega)
       . have n1:idx (nums r) r[i].its[k].1<0:=Z8F.2 p1;simp -implicitDefEqProofs[n1];refine Qgr ?_;simp -implicitDefEqProofs[];refine Qgr ?_;simp -implicitDefEqProofs[Z8E hi hk p1]
     . intro hc;refine Qga ?_;simp -implicitDefEqProofs[hi,isa];refine Qgr ?_;simp -implicitDefEqProofs[w1];refine ⟨(by (first|exact Wka|exact Wkb)),λj q1 q2=>?_⟩;by_cases e:j=i
       . subst e;intro y hy;obtain ⟨n,hn,rfl⟩:=W0k hy;exact hc n hn hn
       . exact hb j q1 (by omega)
   . intro hb;refine Qga ?_
     have g3:inB r=true:=W03.2 λx hx=>W03.2 λy hy=>by
      obtain ⟨j,hj,rfl⟩:=W0k hx;exact W0M (hb j hj hj y hy)
     have g4:Z8B r=decide ((nums r).length<=20):=(by simp[Z8B,q1,g1,g2,g3]);simp -implicitDefEqProofs[];refine Qgr ?_;simp -implicitDefEqProofs[g4];omega
def Ord (r:Jr):Prop:=∀ i,i+1<r.length->(at' r i).d<=(at' r (i+1)).d
def Ord.mono {r:Jr} (h:Ord r):∀ {i j:Nat},i<=j->j<r.length->(at' r i).d<=(at' r j).d:=by
 intro i j hij hj
 induction j with
 | zero => obtain rfl:i=0:=by omega
           exact W1Y _
 | succ j ih =>
   by_cases e:i=j+1
   . subst e;exact W1Y _
   . exact Int.le_trans (ih (by omega) (by omega)) (h j hj)
def Z8J {r:Jr} (h:Z8B r=true):Ord r:=by
 intro i hi;simp only[Z8B,W01]at h;have:=Z8y.1 h.1.1.2 (i+1) hi;simp only[ordB]at this
 split at this
 . cases this
 . omega
def Z8K {r:Jr} (h:Ord r):∀ i,i<=r.length->(numsN r i).Pairwise (· < ·)/\(∀ y∈numsN r i,∃ j,j<i/\(at' r j).d=y)/\∀ j,j<i->(at' r j).d∈numsN r i:=by
 intro i
 induction i with
 |zero=>intro _;simp[numsN]
 | succ i ih =>
   intro hi;obtain ⟨h1,h2,h3⟩:=ih (by omega);simp only[numsN]
   split
   . rename_i hb;refine ⟨W28.2 ⟨h1,by simp,λa ha b hb'=>?_⟩,λy hy=>?_,λj hj=>?_⟩
     . simp only[W0B]at hb';subst hb';obtain ⟨j,hj,rfl⟩:=h2 a ha;simp only[newB,W0T,W0A,W1C,W1b]at hb;have m1:=h.mono (show j<=i-1 by omega) (by omega);have m2:=h.mono (show i-1<=i by omega) (by omega);rcases hb with hb|hb
       . omega
       . omega
     . rcases W0h.1 hy with hy|hy
       . obtain ⟨j,hj,e⟩:=h2 y hy;exact ⟨j,by omega,e⟩
       . exact ⟨i,by omega,(W0B.1 hy).symm⟩
     . by_cases e:j=i
       . subst e;simp
       . exact W0h.2 (.inl (h3 j (by omega)))
   . rename_i hb;refine ⟨h1,λy hy=>?_,λj hj=>?_⟩
     . obtain ⟨j,hj,e⟩:=h2 y hy;exact ⟨j,by omega,e⟩
     . by_cases e:j=i
       . subst e;simp only[newB,W0T,W0A,W1C,W1b,not_or,Decidable.not_not]at hb;rw[<- hb.2];exact h3 _ (by omega)
       . exact h3 j (by omega)
def Z8L {r:Jr} (h:Ord r):(nums r).Pairwise (· < ·):=(Z8K h _ (W0f _)).1
def Z8M {r:Jr} (h:Ord r):(nums r).Nodup:=(Z8L h).imp λh=>Int.ne_of_lt h
def Z8N {r:Jr} (h:Ord r) {n:Int} (hn:n∈nums r):∃ i,∃ hi:i<r.length,r[i].d=n:=by
 obtain ⟨i,hi,e⟩:=(Z8K h _ (W0f _)).2.1 n hn;exact ⟨i,hi,by rw[<- at_eq hi];exact e⟩
def Z8O {r:Jr} (h:Ord r) {i:Nat} (hi:i<r.length):r[i].d∈nums r:=by
 have:=(Z8K h _ (W0f _)).2.2 i hi
 rwa [at_eq hi]at this
def dvIt (f:Int->Int) (m:Int) (its:List (Int×Int)):Int:=its.foldl (λm y=>max m (1+f y.1)) m
def dvN (r:Jr) (f:Int->Int) (n:Int):Nat->Int
 |0=>0
 |i+1=>if (at' r i).d=n then dvIt f (max (dvN r f n i) 1) (at' r i).its else dvN r f n i
def Dv (r:Jr):Nat->Int->Int
 |0,_=>0
 |k+1,n=>dvN r (Dv r k) n r.length
def Z8P {f:Int->Int} {K:Int} (hf:∀ n,0<=f n/\f n<=K):∀ (its:List (Int×Int)) (m:Int),0<=m->m<=K+1->0<=dvIt f m its/\dvIt f m its<=K+1
 |[],m,h1,h2=>⟨h1,h2⟩
 | y::its,m,h1,h2=>by
   have:=hf y.1;exact Z8P hf its (max m (1+f y.1)) (by omega) (by omega)
def Z8Q (r:Jr) {f:Int->Int} {K:Int} (hK:0<=K) (hf:∀ n,0<=f n/\f n<=K) (n:Int):∀ i,0<=dvN r f n i/\dvN r f n i<=K+1
 |0=>by simp only[dvN];omega
 | i+1=>by
   have:=Z8Q r hK hf n i;simp only[dvN]
   split
   . exact Z8P hf _ _ (by omega) (by omega)
   . exact this
def Dv_bd (r:Jr):∀ k n,0<=Dv r k n/\Dv r k n<=k
 |0,n=>by simp[Dv]
 | k+1,n=>by
   have:=Z8Q r (K:=(k:Int)) (by omega) (Dv_bd r k) n r.length;simp only[Dv];omega
def rowF (l:List Int) (g:Int->Int):List (List AV):=l.map λn=>[.int .i64 (g n)]
def Z8R {l:List Int} (hn:l.Nodup) {g:Int->Int} {j:Nat} {d v:Int} (hj:l[j]? = some d):(rowF l g).set j [.int .i64 v]=rowF l λn=>if n=d then v else g n:=by
 apply List.ext_getElem?
 intro i;obtain ⟨hlt,he⟩:=W02.1 hj;simp only[rowF,W2p,W09,W0N];by_cases e:j=i
 . subst e;simp[hlt,he]
 . rw[if_neg e]
   cases hi:l[i]? with
   |none=>rfl
   | some x =>
     obtain ⟨hlt2,he2⟩:=W02.1 hi;have:x≠d:=λq=>e ((List.getElem_inj hn).1 (by rw[he,he2,q]))
     simp[this]
def Z8S {l:List Int} {g:Int->Int}:(rowF l g).length=l.length:=by simp[rowF]
def Z8T {l:List Int} {g:Int->Int}:(rowF l g).all (λr=>r.all AV.pure)=true:=by simp[rowF,AV.pure]
def Z8U {l:List Int} {g:Int->Int} {p:List AV->Bool}:(rowF l g).all p=l.all λn=>p [.int .i64 (g n)]:=by simp[rowF,List.all_map,W0y]
attribute [simp] Z8U
def Z8V {l:List Int} {g:Int->Int} {j:Nat} (h:j<(rowF l g).length):(rowF l g)[j]=[.int .i64 (g (l[j]'(by simpa [rowF] using h)))]:=by simp[rowF]
attribute [simp] Z8V Z8S
def Z8W {l:List Int}:List.replicate l.length [AV.int .i64 0]=rowF l λ_=>0:=by
 simp only[rowF];induction l with
 |nil=>rfl
 |cons x l ih=>simp[List.replicate_succ,ih]
def Z8X (f:Int->Int) (m:Int) (its:List (Int×Int)) (k:Nat) (h:k<its.length):dvIt f m (its.take (k+1))=max (dvIt f m (its.take k)) (1+f its[k].1):=by
 rw[W08 h,dvIt,W1q];rfl
def Z8Y {d:Int} {v v0:Int} {g:Int->Int}:(λn=>if n=d then v else if n=d then v0 else g n)=λn=>if n=d then v else g n:=by
 funext n;split <;> rfl
def Ym.trans {a b c:St} (h:Ym a b) (g:Ym b c):Ym a c:=λR x W s=>g R x W (h R x W s)
set_option maxRecDepth 8000 in
def Z8Z (r:Jr) (h:Wf r) (hL:Z8B r=true):PC prog G 170 [rega r] (.vsl (rowF (nums r) (Dv r ((nums r).length+1)))):=by
 (refine Z7S rfl λR hG hrd=>Qga ?_;subst hG)
 have hs:=h.1.1;unfold Sml at hs;have hO:=Z8J hL;have hl:=Z8H r;have hnd:=Z8M hO;have hL2:=hL;simp only[Z8B,W01,inB,W0b]at hL2;obtain ⟨⟨⟨⟨l1,l2⟩,l3⟩,l4⟩,l5⟩:=hL2;have l1':=W0X l1;have hne:r≠[]:=(by intro e;subst e;simp at l1');have hns:Sml (nums r):=(by unfold Sml;omega);simp -implicitDefEqProofs[Z7Q,Z7R,rega];refine Qco (Z8z r h.1.1 hne) ?_;have b1:((nums r).length:Int)<=16777216:=(by omega);simp -implicitDefEqProofs[b1,Z8W];refine Z8g (λk=>⟨[(5,.int .i64 k),(4,.vsl (rowF (nums r) (Dv r k))),(3,.vsl ((nums r).map ia)),(1,.ptr 1 0)],[(1,.box [.vsl (r.map isa)])]⟩) (λ_=>True) ((nums r).length+1) ?_ trivial ?_ ?_
 . refine Ym.trans (Ym.frz (λk=>k == 15) _) ?_;have e0:(λn=>Dv r 0 n)=λ_=>0:=rfl
   exact Ym.sub (by simp[lk,Ya,AV.keys,Yi,frzA,frzO,frz,Yh,St.get,Z8S,Z8T,Dv,Function.const]) (by simp[lk,Yc,Ya,AV.keys,Yi,frzA,frzO,frz]) (by simp[Yi,lk];try omega)
 . intro k hk _;refine Qga ?_;have k1:(k:Int)<=(nums r).length:=(by omega);simp -implicitDefEqProofs[k1,b1,Z8W];have bd:=Dv_bd r k;have hkb:(k:Int)<=61:=(by omega);refine Z8g (λi=>⟨[(7,.int .i64 i),(6,.osl 24 (nums r).length),(5,.int .i64 k),(4,.vsl (rowF (nums r) (Dv r k))),(3,.vsl ((nums r).map ia)),(1,.ptr 1 0)],[(1,.box [.vsl (r.map isa)]),(24,.row 1 (rowF (nums r) λn=>dvN r (Dv r k) n i))]⟩) (λ_=>True) r.length (by (first|exact Ym.tm (by simp[lk,dvN])|exact Ym.sub (by simp[lk,Ya,AV.keys,dvN]) (by simp[lk,Yc,Ya,AV.keys,dvN]))) trivial ?_ ?_
   . intro i hi _;refine Qga ?_;have w1:i64.wrap ((i:Int)+1)=((i+1:Nat):Int):=Yf;have a1:=at_eq hi;have hx:=(h.1.2 r[i] (W0e hi)).1;unfold Sml at hx
     have hits:∀ m (hm:m<r[i].its.length),r[i].its[m].1∈nums r:=λm hm =>
      W0X (W03.1 (W03.1 l4 _ (W0e hi)) _ (W0e hm))
     simp -implicitDefEqProofs[hi,isa];refine Qco (Z8m (nums r) _ hns) ?_;obtain ⟨j,hj,hlt,hget⟩:=Z8G (Z8O hO hi);rw[hj];have hset:=λg v=>Z8R (g:=g) (v:=v) hnd hget
     have hgt:(nums r)[j]=r[i].d:=(W02.1 hget).2;simp -implicitDefEqProofs[hlt,hgt,hset]
     refine Z8g (λm=>⟨[(10,.int .i64 m),(9,.int .i64 j),(8,.ptr 8 0),(7,.int .i64 i),(6,.osl 24 (nums r).length),(5,.int .i64 k),(4,.vsl (rowF (nums r) (Dv r k))),(3,.vsl ((nums r).map ia)),(1,.ptr 1 0)],
      [(1,.box [.vsl (r.map isa)]),(8,.box (isa r[i])),(24,.row 1 (rowF (nums r) λn=>if n=r[i].d then dvIt (Dv r k) (max (dvN r (Dv r k) r[i].d i) 1) (r[i].its.take m) else dvN r (Dv r k) n i))]⟩) (λ_=>True) r[i].its.length (by (first|exact Ym.tm (by simp[lk,dvIt,isa])|exact Ym.sub (by simp[lk,Ya,AV.keys,dvIt,isa]) (by simp[lk,Yc,Ya,AV.keys,dvIt,isa]))) trivial ?_ ?_
     . intro m hm _;refine Qga ?_;have w2:i64.wrap ((m:Int)+1)=((m+1:Nat):Int):=Yf;obtain ⟨j2,hj2,hlt2,hget2⟩:=Z8G (hits m hm);have hgt2:(nums r)[j2]=r[i].its[m].1:=(W02.1 hget2).2;have bd2:=bd r[i].its[m].1;have w3:i64.wrap (1+Dv r k r[i].its[m].1)=1+Dv r k r[i].its[m].1:=Yf;simp -implicitDefEqProofs[isa,hm,ita,hlt,hgt];refine Qco (Z8m (nums r) _ hns) ?_;rw[hj2];have tk:=Z8X (Dv r k) (max (dvN r (Dv r k) r[i].d i) 1) r[i].its m hm;simp -implicitDefEqProofs[hlt2,hgt2,w2,w3,hlt,hgt,hset,Z8Y];refine ⟨rfl,?_⟩;rw[<- tk]
       (first|exact Ym.tm (by simp[lk,isa])|exact Ym.sub (by simp[lk,Ya,AV.keys,isa]) (by simp[lk,Yc,Ya,AV.keys,isa]))
     . intro _;refine Qga ?_;simp -implicitDefEqProofs[isa];refine Qgr ?_;simp -implicitDefEqProofs[w1]
       have e:(λn=>if n=r[i].d then dvIt (Dv r k) (max (dvN r (Dv r k) r[i].d i) 1) r[i].its else dvN r (Dv r k) n i)=λn=>dvN r (Dv r k) n (i+1):=by
        funext n
        simp only[dvN,a1];by_cases q:r[i].d=n
        . subst q;simp
        . rw[if_neg q,if_neg (λe=>q e.symm)]
       rw[e]
       (first|exact Wka|exact Wkb)
   . intro _;refine Qga ?_;simp -implicitDefEqProofs[];refine Qgr ?_;have w1:i64.wrap ((k:Int)+1)=((k+1:Nat):Int):=Yf;simp -implicitDefEqProofs[w1];have e:(λn=>dvN r (Dv r k) n r.length)=Dv r (k+1):=rfl;rw[e];refine Ym.trans (Ym.frz (λk=>k == 24) _) ?_;exact Ym.sub (by simp[lk,Ya,AV.keys,Yi,frzA,frzO,frz,Yh,St.get,Z8T]) (by simp[lk,Yc,Ya,AV.keys,Yi,frzA,frzO,frz]) (by simp[Yi,lk];try omega)
 . intro _;refine Qga ?_;have k1:¬((nums r).length:Int)+1<=(nums r).length:=(by omega);simp -implicitDefEqProofs[k1];refine Qgr ?_;simp -implicitDefEqProofs[]
def Z90 (r:Jr):(rega r).pure=true:=by simp[rega,AV.pure]
attribute [simp] Z90
def mostV (l:List Int) (g:Int->Int):Int:=l.foldl (λm n=>max m (g n)) 0
def chkV (r:Jr):Int:=if Z8B r=true then
    if ((nums r).length:Int)<mostV (nums r) (Dv r ((nums r).length+1)) then 21 else if 6<mostV (nums r) (Dv r ((nums r).length+1)) then 20 else 0
 else 20
def zI:Iss:=⟨0,0,0,[],[]⟩
def Z91 {d l:Int}:∀ {r:Jr} {x:Iss},findN d l r=some x->x∈r/\x.d=d/\x.l=l
 |[],x,h=>by simp[findN]at h
 | y::r,x,h=>by
   simp only[findN]at h
   split at h
   . rename_i e;cases h;exact ⟨W0H ..,e⟩
   . obtain ⟨h1,h2⟩:=Z91 h;exact ⟨W0z _ h1,h2⟩
def Z92 (l:List Int) (g:Int->Int) (k:Nat) (h:k<l.length):mostV (l.take (k+1)) g=max (mostV (l.take k) g) (g l[k]):=by
 rw[W08 h,mostV,W1q];rfl
def Z93 (r:Jr) (h:Wf r):PC prog G 133 [rega r] (.int .i64 (chkV r)):=by
 (refine Z7V rfl λR hG hrd=>Qga ?_;subst hG)
 simp -implicitDefEqProofs[Z7T,Z7U,rega];refine Qco (Z8I r h) ?_
 cases hL:Z8B r
 . simp -implicitDefEqProofs[show chkV r=20 by simp[chkV,hL]]
 simp -implicitDefEqProofs[];refine Qco (Z8Z r h hL) ?_;have hs:=h.1.1;unfold Sml at hs;have hl:=Z8H r;simp -implicitDefEqProofs[];refine Z8g (λk=>⟨[(5,.int .i64 k),(4,.int .i64 (mostV ((nums r).take k) (Dv r ((nums r).length+1)))),(3,.vsl (rowF (nums r) (Dv r ((nums r).length+1)))),(1,.ptr 1 0)],[(1,.box [.vsl (r.map isa)])]⟩) (λ_=>True) (nums r).length (by (first|exact Ym.tm (by simp[lk,mostV])|exact Ym.sub (by simp[lk,Ya,AV.keys,mostV]) (by simp[lk,Yc,Ya,AV.keys,mostV]))) trivial ?_ ?_
 . intro k hk _;refine Qga ?_;have w1:i64.wrap ((k:Int)+1)=((k+1:Nat):Int):=Yf;have tk:=Z92 (nums r) (Dv r ((nums r).length+1)) k hk;simp -implicitDefEqProofs[hk,w1];rw[<- tk]
   (first|exact Wka|exact Wkb)
 . intro _;refine Qga ?_;simp -implicitDefEqProofs[];refine Qgr ?_;generalize hm:mostV (nums r) (Dv r ((nums r).length+1))=m;by_cases q1:((nums r).length:Int)<m
   . simp -implicitDefEqProofs[q1,show chkV r=21 by simp[chkV,hL,hm,q1]]
   by_cases q2:6<m
   . simp -implicitDefEqProofs[q1,q2,show chkV r=20 by simp[chkV,hL,hm,q1,q2]]
   . simp -implicitDefEqProofs[q1,q2,show chkV r=0 by simp[chkV,hL,hm,q1,q2]]
def fstOf {α:Type} (p:α->Bool) (l:List α):Int:=match l.findIdx? p with|some i=>(i:Int)|none=>-1
def Z94 {α:Type} {p:α->Bool} {l:List α} {i:Nat} (h:i<l.length) (hp:p l[i]=true) (hn:∀ j (h:j<l.length),j<i->p l[j]=false):fstOf p l=i:=by
 have:l.findIdx? p=some i:=by
  rw[W1A];refine ⟨h,hp,λj hj=>?_⟩;rw[hn j (by omega) hj];simp
 simp[fstOf,this]
def Z95 {α:Type} {p:α->Bool} {l:List α} (hn:∀ j (h:j<l.length),p l[j]=false):fstOf p l = -1:=by
 have:l.findIdx? p=none:=W1F.2 λx hx=>by
  obtain ⟨j,hj,rfl⟩:=W0k hx;exact hn j hj
 simp[fstOf,this]
def Z96 {α:Type} (p:α->Bool) (l:List α):decide (0<=fstOf p l)=l.any p:=by
 unfold fstOf
 cases h:l.findIdx? p with
 | none =>
   have h2:=W1F.1 h;have:l.any p=false:=(by rw[<- Bool.not_eq_true,W14];rintro ⟨x,hx,hp⟩;rw[h2 x hx]at hp;cases hp);simp[this]
 | some i =>
   obtain ⟨h1,h2,-⟩:=W1A.1 h;have:l.any p=true:=W14.2 ⟨l[i],W0e h1,h2⟩;simp[this]
def Z97 (g:Nat) (caps:List AV) (p:Int->Bool) (l:List Int) (hc:caps.all AV.pure=true) (hl:Sml l)
  (hg:∀ x∈l,PC prog G g (.int .i64 x::caps) (.bool (p x))) :
  PC prog G 142 [.vsl (l.map ia),.func (.func g) [] caps] (.int .i64 (fstOf p l)):=by
 (refine Z62 rfl λR hG hrd=>Qga ?_;subst hG)
 unfold Sml at hl;have hc2:∀ x∈caps,x.pure=true:=W03.1 hc;simp -implicitDefEqProofs[Z60,Z61];refine Z8g (λi=>⟨[(8,.int .i64 i),(7,.int .i64 l.length),(0,.vsl (l.map ia)),(1,.func (.func g) [] caps)],[]⟩) (λi=>∀ j (h:j<l.length),j<i->p l[j]=false) l.length (by (first|exact Wka|exact Wkb)) (by simp) ?_ ?_
 . intro i hi he;refine Qga ?_;have w1:i64.wrap ((i:Int)+1)=((i+1:Nat):Int):=Yf;simp -implicitDefEqProofs[hi,ia];refine Yd.of (hg _ (W0e hi)) (by simpa [AV.pure] using hc2) ?_
   cases h3:p l[i]
   . simp -implicitDefEqProofs[w1];refine ⟨(by (first|exact Wka|exact Wkb)),λj q1 q2=>?_⟩;by_cases e:j=i
     . subst e;exact h3
     . exact he j q1 (by omega)
   . simp -implicitDefEqProofs;refine Qgr ?_;simp -implicitDefEqProofs[Z94 hi h3 he]
 . intro he;refine Qga ?_;simp -implicitDefEqProofs[];refine Qgr ?_;simp -implicitDefEqProofs[Z95 (p:=p) (l:=l) (λj hj=>he j hj hj)]
def Z98 (g:Nat) (caps:List AV) (p:Int->Bool) (l:List Int) (hc:caps.all AV.pure=true) (hl:Sml l)
  (hg:∀ x∈l,PC prog G g (.int .i64 x::caps) (.bool (p x))) :
  PC prog G 85 [.vsl (l.map ia),.func (.func g) [] caps] (.bool (l.any p)):=by
 (refine Z5Z rfl λR hG hrd=>Qga ?_;subst hG)
 simp -implicitDefEqProofs[Z5X,Z5Y];have hc2:∀ x∈caps,x.pure=true:=W03.1 hc;refine Yd.of (Z97 g caps p l hc hl hg) (by simpa [AV.pure] using hc2) ?_;have e:=Z96 p l;simp -implicitDefEqProofs[e]
def Z99 (g:Nat) (caps:List AV) (p:(Int×Int)->Bool) (l:List (Int×Int)) (hc:caps.all AV.pure=true) (hl:Sml l)
  (hg:∀ x∈l,PC prog G g (.agg [.int .i64 x.1,.int .i64 x.2]::caps) (.bool (p x))) :
  PC prog G 209 [.vsl (l.map ita),.func (.func g) [] caps] (.int .i64 (fstOf p l)):=by
 (refine Z6F rfl λR hG hrd=>Qga ?_;subst hG)
 unfold Sml at hl;have hc2:∀ x∈caps,x.pure=true:=W03.1 hc;simp -implicitDefEqProofs[Z6D,Z6E];refine Z8g (λi=>⟨[(8,.int .i64 i),(7,.int .i64 l.length),(0,.vsl (l.map ita)),(1,.func (.func g) [] caps)],[]⟩) (λi=>∀ j (h:j<l.length),j<i->p l[j]=false) l.length (by (first|exact Wka|exact Wkb)) (by simp) ?_ ?_
 . intro i hi he;refine Qga ?_;have w1:i64.wrap ((i:Int)+1)=((i+1:Nat):Int):=Yf;simp -implicitDefEqProofs[hi,ita];refine Yd.of (hg _ (W0e hi)) (by simpa [AV.pure] using hc2) ?_
   cases h3:p l[i]
   . simp -implicitDefEqProofs[w1];refine ⟨(by (first|exact Wka|exact Wkb)),λj q1 q2=>?_⟩;by_cases e:j=i
     . subst e;exact h3
     . exact he j q1 (by omega)
   . simp -implicitDefEqProofs;refine Qgr ?_;simp -implicitDefEqProofs[Z94 hi h3 he]
 . intro he;refine Qga ?_;simp -implicitDefEqProofs[];refine Qgr ?_;simp -implicitDefEqProofs[Z95 (p:=p) (l:=l) (λj hj=>he j hj hj)]
def Z9a (g:Nat) (caps:List AV) (p:(Int×Int)->Bool) (l:List (Int×Int)) (hc:caps.all AV.pure=true) (hl:Sml l)
  (hg:∀ x∈l,PC prog G g (.agg [.int .i64 x.1,.int .i64 x.2]::caps) (.bool (p x))) :
  PC prog G 195 [.vsl (l.map ita),.func (.func g) [] caps] (.bool (l.any p)):=by
 (refine Z6C rfl λR hG hrd=>Qga ?_;subst hG)
 simp -implicitDefEqProofs[Z6A,Z6B];have hc2:∀ x∈caps,x.pure=true:=W03.1 hc;refine Yd.of (Z99 g caps p l hc hl hg) (by simpa [AV.pure] using hc2) ?_;have e:=Z96 p l;simp -implicitDefEqProofs[e]
def Z9b (g:Nat) (caps:List AV) (p:Dm->Bool) (l:List Dm) (hc:caps.all AV.pure=true) (hl:Sml l)
  (hg:∀ x∈l,PC prog G g (.agg [.int .i64 x.n,.int .i64 x.l,.int .i64 x.u]::caps) (.bool (p x))) :
  PC prog G 267 [.vsl (l.map dma),.func (.func g) [] caps] (.int .i64 (fstOf p l)):=by
 (refine Z6z rfl λR hG hrd=>Qga ?_;subst hG)
 unfold Sml at hl;have hc2:∀ x∈caps,x.pure=true:=W03.1 hc;simp -implicitDefEqProofs[Z6x,Z6y];refine Z8g (λi=>⟨[(8,.int .i64 i),(7,.int .i64 l.length),(0,.vsl (l.map dma)),(1,.func (.func g) [] caps)],[]⟩) (λi=>∀ j (h:j<l.length),j<i->p l[j]=false) l.length (by (first|exact Wka|exact Wkb)) (by simp) ?_ ?_
 . intro i hi he;refine Qga ?_;have w1:i64.wrap ((i:Int)+1)=((i+1:Nat):Int):=Yf;simp -implicitDefEqProofs[hi,dma];refine Yd.of (hg _ (W0e hi)) (by simpa [AV.pure] using hc2) ?_
   cases h3:p l[i]
   . simp -implicitDefEqProofs[w1];refine ⟨(by (first|exact Wka|exact Wkb)),λj q1 q2=>?_⟩;by_cases e:j=i
     . subst e;exact h3
     . exact he j q1 (by omega)
   . simp -implicitDefEqProofs;refine Qgr ?_;simp -implicitDefEqProofs[Z94 hi h3 he]
 . intro he;refine Qga ?_;simp -implicitDefEqProofs[];refine Qgr ?_;simp -implicitDefEqProofs[Z95 (p:=p) (l:=l) (λj hj=>he j hj hj)]
def Z9c (g:Nat) (caps:List AV) (p:Dm->Bool) (l:List Dm) (hc:caps.all AV.pure=true) (hl:Sml l)
  (hg:∀ x∈l,PC prog G g (.agg [.int .i64 x.n,.int .i64 x.l,.int .i64 x.u]::caps) (.bool (p x))) :
  PC prog G 264 [.vsl (l.map dma),.func (.func g) [] caps] (.bool (l.any p)):=by
 (refine Z6w rfl λR hG hrd=>Qga ?_;subst hG)
 simp -implicitDefEqProofs[Z6u,Z6v];have hc2:∀ x∈caps,x.pure=true:=W03.1 hc;refine Yd.of (Z9b g caps p l hc hl hg) (by simpa [AV.pure] using hc2) ?_;have e:=Z96 p l;simp -implicitDefEqProofs[e]
def Z9d (n lo hi:Int):PC prog G 269 [.int .i64 n,.vptr [.int .i64 lo] 0,.vptr [.int .i64 hi] 0] (.bool (!inR n lo hi)):=by
 (refine Z5W rfl λR hG hrd=>Qga ?_;subst hG)
 by_cases h1:n<lo
 . have h2:¬lo<=n:=(by omega);simp -implicitDefEqProofs[Z5U,Z5V,h1,h2,inR]
 . have h2:lo<=n:=(by omega);by_cases h3:hi<n
   . have h4:¬n<=hi:=(by omega);simp -implicitDefEqProofs[Z5U,Z5V,h1,h2,h3,h4,inR]
   . have h4:n<=hi:=(by omega);simp -implicitDefEqProofs[Z5U,Z5V,h1,h2,h3,h4,inR]
def Z9e (n lo hi:Int):PC prog G 208 [.int .i64 n,.vptr [.int .i64 lo] 0,.vptr [.int .i64 hi] 0] (.bool (!inR n lo hi)):=by
 (refine Z6b rfl λR hG hrd=>Qga ?_;subst hG)
 by_cases h1:n<lo
 . have h2:¬lo<=n:=(by omega);simp -implicitDefEqProofs[Z69,Z6a,h1,h2,inR]
 . have h2:lo<=n:=(by omega);by_cases h3:hi<n
   . have h4:¬n<=hi:=(by omega);simp -implicitDefEqProofs[Z69,Z6a,h1,h2,h3,h4,inR]
   . have h4:n<=hi:=(by omega);simp -implicitDefEqProofs[Z69,Z6a,h1,h2,h3,h4,inR]
def Z9f (lo hi:Int) (l:List Int) (hl:Sml l):PC prog G 268 [.int .i64 lo,.int .i64 hi,.vsl (l.map ia)] (.bool (l.all λn=>inR n lo hi)):=by
 (refine Z5T rfl λR hG hrd=>Qga ?_;subst hG)
 simp -implicitDefEqProofs[Z5R,Z5S]
 (first|refine Yd.flat (Z98 269 [.vptr [.int .i64 lo] 0,.vptr [.int .i64 hi] 0] (λn=>!inR n lo hi) l (by simp[AV.pure]) hl (λn _=>Z9d n lo hi)) (by simp[AV.flat]) (by simp) ?_|refine Ye.flat (Z98 269 [.vptr [.int .i64 lo] 0,.vptr [.int .i64 hi] 0] (λn=>!inR n lo hi) l (by simp[AV.pure]) hl (λn _=>Z9d n lo hi)) (by simp[AV.flat]) (by simp) ?_)
 have e:(!l.any λn=>!inR n lo hi)=l.all λn=>inR n lo hi:=by simp[W2l]
 simp -implicitDefEqProofs[e]
def Z9g (lo hi:Int) (n:Int):PC prog G 194 [.int .i64 lo,.int .i64 hi,.vsl [[.int .i64 n]]] (.bool (inR n lo hi)):=by
 (refine Z68 rfl λR hG hrd=>Qga ?_;subst hG)
 simp -implicitDefEqProofs[Z66,Z67];refine Yd.flat (Z98 208 [.vptr [.int .i64 lo] 0,.vptr [.int .i64 hi] 0] (λn=>!inR n lo hi) [n] (by simp[AV.pure]) (by simp[Sml]) (λn _=>Z9e n lo hi)) (by simp[AV.flat]) (by simp[ia]) ?_;simp -implicitDefEqProofs[]
def Z9h (d:Dm):PC prog G 266 [.agg [.int .i64 d.n,.int .i64 d.l,.int .i64 d.u]] (.int .i64 (if vd d=true then 0 else 10)):=by
 (refine Z65 rfl λR hG hrd=>Qga ?_;subst hG)
 simp -implicitDefEqProofs[Z63,Z64];refine Qco (Z9f 0 1000000000 [d.n,d.l,d.u] (by simp[Sml])) ?_
 cases h1:[d.n,d.l,d.u].all λn=>inR n 0 1000000000
 . have e:vd d=false:=by
    refine W0S λh=>?_
    have:([d.n,d.l,d.u].all λn=>inR n 0 1000000000)=true:=by
     simp[inR];omega
    rw[this]at h1;cases h1
   simp -implicitDefEqProofs[e]
 . have h2:(0<=d.n/\d.n<=1000000000)/\(0<=d.l/\d.l<=1000000000)/\0<=d.u/\d.u<=1000000000:=by
    simpa [inR] using h1
   by_cases h3:d.u<d.l
   . have e:vd d=false:=W0S (by omega);simp -implicitDefEqProofs[e,h3]
   . have e:vd d=true:=W0M (by omega);simp -implicitDefEqProofs[e,h3]
def Z9i (x:Iss):PC prog G 251 [.agg (isa x)] (.agg [.int .i64 x.d,.int .i64 x.l]):=by
 (refine Z6e rfl λR hG hrd=>Qga ?_;subst hG)
 simp -implicitDefEqProofs[Z6c,Z6d,isa]
def ck1 (x:Iss):Bool:=inR x.d 1 9999&&inR x.l 1 8
def ck2 (x:Iss):Bool:=if x.k=1 then inR x.its.length 1 8&&decide (x.dms.length=0) else inR x.k 2 3&&decide (x.dms.length<=4)&&decide (x.its.length=0)
def ck3 (x:Iss):Bool:=(List.range x.its.length).all (itOk x)
def ck4 (x:Iss):Bool:=x.dms.all vd
def Z9j (x:Iss):issB x=(ck1 x&&ck2 x&&ck3 x&&ck4 x):=by
 have e:headB x=(ck1 x&&ck2 x):=by
  unfold headB ck1 ck2;by_cases c1:x.k=1
  . have:inR x.k 1 3=true:=W0M (by omega);simp only[c1,if_true];rw[c1]at this;rw[this];simp
  . have:inR x.k 1 3=inR x.k 2 3:=decide_eq_decide.2 (by omega);simp only[c1,if_false,this,Bool.and_assoc]
 simp only[issB,e,ck3,ck4]
def Z9k (x:Iss):PC prog G 260 [.agg (isa x)] (.bool (ck1 x)):=by
 (refine Z6h rfl λR hG hrd=>Qga ?_;subst hG)
 simp -implicitDefEqProofs[Z6f,Z6g,isa];refine Qco (Z9g _ _ _) ?_
 cases q1:inR x.d 1 9999
 . simp -implicitDefEqProofs[ck1,q1]
 . simp -implicitDefEqProofs[];refine Qco (Z9g _ _ _) ?_;simp -implicitDefEqProofs[ck1,q1]
def Z9l (x:Iss) (hk:0<=x.k/\x.k<=255):PC prog G 261 [.agg (isa x)] (.bool (ck2 x)):=by
 (refine Z6k rfl λR hG hrd=>Qga ?_;subst hG)
 have wk:i64.wrap x.k=x.k:=Yf;by_cases c1:x.k=1
 . simp -implicitDefEqProofs[Z6i,Z6j,isa,c1];refine Qco (Z9g _ _ _) ?_
   cases q1:inR x.its.length 1 8
   . simp -implicitDefEqProofs[ck2,c1,q1]
   . by_cases q2:x.dms.length=0 <;> simp -implicitDefEqProofs[ck2,c1,q1,q2]
 . simp -implicitDefEqProofs[Z6i,Z6j,isa,c1,wk];refine Qco (Z9g _ _ _) ?_
   cases q1:inR x.k 2 3
   . simp -implicitDefEqProofs[ck2,c1,q1]
   by_cases q2:x.dms.length<=4
   . have q2i:(x.dms.length:Int)<=4:=(by omega);by_cases q3:x.its.length=0 <;> simp -implicitDefEqProofs[ck2,c1,q1,q2,q2i,q3]
   . have q2i:¬(x.dms.length:Int)<=4:=(by omega);simp -implicitDefEqProofs[ck2,c1,q1,q2,q2i]
def Z9m (x:Iss) (h1:Sml x.its):PC prog G 262 [.agg (isa x)] (.bool (ck3 x)):=by
 (refine Z6n rfl λR hG hrd=>Qga ?_;subst hG)
 unfold Sml at h1;simp -implicitDefEqProofs[Z6l,Z6m,isa];refine Z8g (λi=>⟨[(8,.int .i64 i),(7,.int .i64 x.its.length),(6,.vsl (x.its.map ita)),(1,.ptr 1 0)],[(1,.box (isa x))]⟩) (λi=>∀ j,j<i->itOk x j=true) x.its.length (by (first|exact Ym.tm (by simp[lk,isa])|exact Ym.sub (by simp[lk,Ya,AV.keys,isa]) (by simp[lk,Yc,Ya,AV.keys,isa]))) (by simp) ?_ ?_
 . intro i hi he;refine Qga ?_;have w1:i64.wrap ((i:Int)+1)=((i+1:Nat):Int):=Yf;have a1:itAt x i=x.its[i]:=by simp[itAt,List.getD,hi]
   have no:itOk x i=false->ck3 x=false:=λe=>by
    cases hI:ck3 x
    . rfl
    . rw[Z8y.1 hI i hi]at e;cases e
   simp -implicitDefEqProofs[hi,isa,ita];refine Qco (Z9g _ _ _) ?_
   cases p1:inR x.its[i].1 1 9999
   . simp -implicitDefEqProofs[];refine ⟨rfl,?_⟩;refine Qgr ?_;simp -implicitDefEqProofs[no (by simp[itOk,a1,p1])]
   simp -implicitDefEqProofs[];refine Qco (Z9g _ _ _) ?_
   cases p2:inR x.its[i].2 1 20
   . simp -implicitDefEqProofs[];refine ⟨rfl,?_⟩;refine Qgr ?_;simp -implicitDefEqProofs[no (by simp[itOk,a1,p2])]
   by_cases p3:x.its[i].1=x.d
   . simp -implicitDefEqProofs[p3];refine ⟨rfl,?_⟩;refine Qgr ?_;simp -implicitDefEqProofs[no (by simp[itOk,a1,p3])]
   cases i with
   | zero =>
     have ok:itOk x 0=true:=(by simp[itOk,a1,p1,p2,p3]);have w0:i64.wrap 1=1:=rfl;simp -implicitDefEqProofs[p3,w0];exact ⟨rfl,(by (first|exact Ym.tm (by simp[lk,isa])|exact Ym.sub (by simp[lk,Ya,AV.keys,isa]) (by simp[lk,Yc,Ya,AV.keys,isa]))),ok⟩
   | succ i =>
     have w2:i64.wrap (i:Int)=(i:Int):=Yf;have w3:i64.wrap ((i:Int)+1+1)=(i:Int)+1+1:=Yf;have k3:(0:Int)<(i:Int)+1:=(by omega);have hi2:i<x.its.length:=(by omega);have a2:itAt x i=x.its[i]:=(by simp[itAt,List.getD,hi2]);by_cases p4:x.its[i+1].1<=x.its[i].1
     . simp -implicitDefEqProofs[p3,k3,w2,hi2,ita,p4];refine ⟨rfl,?_⟩;refine Qgr ?_;simp -implicitDefEqProofs[no (by simp[itOk,a1,a2,p4])]
     . have ok:itOk x (i+1)=true:=(by simp[itOk,a1,a2,p1,p2,p3];omega);simp -implicitDefEqProofs[p3,k3,w2,w3,hi2,ita,p4];refine ⟨rfl,(by (first|exact Ym.tm (by simp[lk,isa])|exact Ym.sub (by simp[lk,Ya,AV.keys,isa]) (by simp[lk,Yc,Ya,AV.keys,isa]))),λj hj=>?_⟩;by_cases e:j=i+1
       . subst e;exact ok
       . exact he j (by omega)
 . intro he;refine Qga ?_;have hI:ck3 x=true:=Z8y.2 he;simp -implicitDefEqProofs[];refine Qgr ?_;simp -implicitDefEqProofs[hI]
def Z9n (d:Dm):PC prog G 265 [.agg [.int .i64 d.n,.int .i64 d.l,.int .i64 d.u]] (.bool (!vd d)):=by
 (refine Z6t rfl λR hG hrd=>Qga ?_;subst hG)
 simp -implicitDefEqProofs[Z6r,Z6s];refine Qco (Z9h d) ?_
 cases q:vd d <;> simp -implicitDefEqProofs[]
def Z9o (x:Iss) (h2:Sml x.dms):PC prog G 263 [.agg (isa x)] (.bool (ck4 x)):=by
 (refine Z6q rfl λR hG hrd=>Qga ?_;subst hG)
 simp -implicitDefEqProofs[Z6o,Z6p,isa];refine Qco (Z9c 265 [] (λd=>!vd d) x.dms rfl h2 (λd _=>Z9n d)) ?_;have e:(!x.dms.any λd=>!vd d)=ck4 x:=(by simp[ck4,W2l]);simp -implicitDefEqProofs[e]
def lowB (l:List Int) (n:Int):Nat:=l.countP (λx=>decide (x<n))
def Z9p (l:List Int) (n:Int):lowB l n<=l.length:=List.countP_le_length
def Z9q {l:List Int} (hs:l.Pairwise (· <= ·)) (n:Int):∀ (i:Nat) (hi:i<l.length),i<lowB l n↔l[i]<n:=by
 induction l with
 |nil=>intro i hi;simp at hi
 | cons x l ih =>
   obtain ⟨h1,h2⟩:=W1l.1 hs;intro i hi;by_cases hx:x<n
   . have e:lowB (x::l) n=lowB l n+1:=(by simp[lowB,W2b,hx]);rw[e]
     cases i with
     |zero=>simp[hx]
     | succ i =>
       have:=ih h2 i (by simpa using hi);simp only[List.getElem_cons_succ];rw[<- this];omega
   . have z:lowB l n=0:=by
      unfold lowB;rw[List.countP_eq_zero];intro y hy;have:=h1 y hy;simp;omega
     have e:lowB (x::l) n=0:=by
      have:lowB (x::l) n=lowB l n:=(by simp[lowB,W2b,hx]);omega
     rw[e]
     have hge:∀ (i:Nat) (hi:i<(x::l).length),x<=(x::l)[i]:=λi hi=>by
      cases i with
      |zero=>exact W1Y _
      |succ i=>exact h1 _ (W0e _)
     have:=hge i hi
     constructor
     . intro h;omega
     . intro h;omega
def Z9r {l:List Int} (hs:l.Pairwise (· < ·)):l.Pairwise (· <= ·):=hs.imp λh=>Int.le_of_lt h
def Z9s {l:List Int} (hs:l.Pairwise (· <= ·)) (n:Int):n∈l↔l[lowB l n]? = some n:=by
 constructor
 . intro hm;obtain ⟨j,hj,he⟩:=W0k hm;have h1:¬j<lowB l n:=λh=>by have:=(Z9q hs n j hj).1 h;omega
   have h2:lowB l n<l.length:=(by omega);rw[W07 h2];have h3:¬l[lowB l n]<n:=λh=>by have:=(Z9q hs n _ h2).2 h;omega
   have h4:l[lowB l n]<=l[j]:=by
    by_cases e:lowB l n=j
    . simp[e]
    . exact W0Y.1 hs _ _ h2 hj (by omega)
   congr 1;omega
 . intro h;exact W0d h
def Z9t {i j:Nat} (h:i+j<=33554432):i64.wrap ((IntKind.u64.wrap (i64.wrap ((i:Int)+j))).fdiv (2 ^ (min 1 IntKind.u64.bits)))=(((i+j) / 2:Nat):Int):=by
 show i64.wrap ((IntKind.u64.wrap (i64.wrap ((i:Int)+j))).fdiv (2 ^ (min 1 64)))=(((i+j) / 2:Nat):Int);have e1:i64.wrap ((i:Int)+j)=((i+j:Nat):Int):=by rw[Yf (by omega) (by omega)];omega
 have e2:IntKind.u64.wrap (((i+j:Nat):Int))=((i+j:Nat):Int):=by
  have:=IntWalk.u64_in (((i+j:Nat):Int)) ⟨by omega,by omega⟩;exact this
 rw[e1,e2]
 have e3:(((i+j:Nat):Int)).fdiv (2 ^ (min 1 64))=(((i+j) / 2:Nat):Int):=by
  rw[Int.fdiv_eq_ediv_of_nonneg _ (by decide)];simp
 rw[e3,Yf (by omega) (by omega)]
def Z9u (n:Int):PC prog G 157 [.int .i64 n] (.bool false):=by
 (refine Z6U rfl λR hG hrd=>Qga ?_;subst hG)
 simp -implicitDefEqProofs[Z6S,Z6T]
def Z9v (n:Int):PC prog G 214 [.int .i64 n] (.bool false):=by
 (refine Z6X rfl λR hG hrd=>Qga ?_;subst hG)
 simp -implicitDefEqProofs[Z6V,Z6W]
def Z9w (a b:Int):PC prog G 189 [.int .i64 a,.int .i64 b] (.bool (decide (a<b))):=by
 (refine Z6R rfl λR hG hrd=>Qga ?_;subst hG)
 by_cases h:a<b
 . simp -implicitDefEqProofs[Z6P,Z6Q,h]
   try refine Qco (Z9u a) ?_
   try simp -implicitDefEqProofs[h]
 . simp -implicitDefEqProofs[Z6P,Z6Q,h]
   try refine Qco (Z9u a) ?_
   try simp -implicitDefEqProofs[h]
def Z9x (l:List Int) (n:Int) (hs:l.Pairwise (· <= ·)) (hl:Sml l):PC prog G 210 [.vsl (l.map ia),.int .i64 n] (.tup [.int .i64 (lowB l n),.bool (decide (n∈l))]):=by
 (refine Z6O rfl λR hG hrd=>Qga ?_;subst hG)
 unfold Sml at hl;have hle:=Z9p l n;simp -implicitDefEqProofs[Z6M,Z6N];refine Z1Q (λp:Nat×Nat=>⟨[(8,.int .i64 p.2),(7,.int .i64 p.1),(6,.int .i64 l.length),(0,.vsl (l.map ia)),(1,.int .i64 n)],[]⟩) (λp=>p.1<=lowB l n/\lowB l n<=p.2/\p.2<=l.length) (λp=>p.2-p.1) (0,l.length) (by (first|exact Wka|exact Wkb)) ⟨by omega,hle,W0f _⟩ ?_;rintro ⟨lo,hi⟩ ⟨h1,h2,h3⟩;simp only at h1 h2 h3;refine Qga ?_;by_cases h4:lo<hi
 . obtain ⟨m,hm⟩:=Qex ((lo+hi) / 2);have hw:=Z9t (i:=lo) (j:=hi) (by omega);rw[<- hm]at hw;have m1:m<l.length:=(by omega);have w1:i64.wrap ((m:Int)+1)=((m+1:Nat):Int):=Yf;have hb:=Z9q hs n m m1;by_cases h5:l[m]<n
   . simp -implicitDefEqProofs[h4,hw,m1,ia];refine Qco (Z9w _ _) ?_;simp -implicitDefEqProofs[h5,w1];exact ⟨(m+1,hi),(by (first|exact Wka|exact Wkb)),⟨by have:=hb.2 h5;show m+1<=_;omega,h2,h3⟩,by show hi-(m+1)<hi-lo;omega⟩
   . simp -implicitDefEqProofs[h4,hw,m1,ia];refine Qco (Z9w _ _) ?_;simp -implicitDefEqProofs[h5];exact ⟨(lo,m),(by (first|exact Wka|exact Wkb)),⟨h1,by have:¬m<lowB l n:=λh=>h5 (hb.1 h);show lowB l n<=m;omega,by show m<=_;omega⟩,by show m-lo<hi-lo;omega⟩
 . obtain rfl:lo=lowB l n:=(by omega);have hmem:=Z9s hs n;by_cases h5:lowB l n<l.length
   . by_cases h6:l[lowB l n]=n
     . have e:n∈l:=hmem.2 (by rw[W07 h5,h6]);simp -implicitDefEqProofs[h4];refine Qgr ?_;simp -implicitDefEqProofs[h5,ia,h6,e]
     . have e:¬n∈l:=λh=>h6 (by have:=hmem.1 h;rw[W07 h5]at this;exact W1L this)
       simp -implicitDefEqProofs[h4];refine Qgr ?_;simp -implicitDefEqProofs[h5,ia,h6];refine Qco (Z9v _) ?_;simp -implicitDefEqProofs[e]
   . have e:¬n∈l:=λh=>by have:=hmem.1 h;rw[W25 (by omega)]at this;cases this
     simp -implicitDefEqProofs[h4];refine Qgr ?_;simp -implicitDefEqProofs[h5,e]
section
open Qq Tryz
def Z9y:RCode :=
 S [R 0 [l 9 1,a [0] (w 10 (.nilck (.t 9))),a [1] (f 11 0 10),a [2] (f 12 0 11),a [3] (l 13 12),l 14 2,a [4,5] (w 15 (.call 216 [.t 13,.t 14,.c (.func (.func 217) [] [])])),a [6] (m 8 15),a [7] (x 16 0 8),a [7] (x 17 1 8),a [8,6,0,1,2,3,4,5,6,7,8] (m 4 16),a [9,10,0,1,2,3,4,5,6,7,8,9,10] (m 5 17)],r 1 [l 18 1,w 19 (.nilck (.t 18)),f 20 0 19,f 21 0 20,l 22 21,m 23 4,w 24 (.slc 5 (.t 22) (some (.t 23)) none),e 25 24,n 26 O],.block 0 (.loop (S [r 2 [o 27 .lss 26 25],.cond (.t 27) .skip (.exit 0),.block 1 (S [r 3 [i 28 5 24 26,L 29 5 28,w 7 (.alloc [O,O,.int .u8 0,.nils,.nils]),s 5 7 29],r 4 [f 30 0 7,l 31 30,l 32 2,o 33 .neq 31 32,m 34 33,g 34 false (m 35 0),g 34 false (L 36 5 7),g 34 false (w 37 (.callv (.t 35) [.t 36])),g 34 false (t 38 37),u 39 34 38],.cond (.t 39) .ret .skip]),r 5 [k 40 .add 26 I,m 26 40]]))]
end
section
variable {P:Program} {N:Nat} {c:Code}
def Z9z {a b:RCode} (h:Z1A P N c (.seq a b)=true):∃ c1 c2,c = .seq c1 c2/\Z1A P N c1 a=true/\Z1A P N c2 b=true:=by
 cases c <;> simp only[Z1A,W05,W01]at h
 exact ⟨_,_,rfl,h.1,h.2⟩
def Z9A {id:Nat} {a:RCode} (h:Z1A P N c (.block id a)=true):∃ c1,c = .block id c1/\Z1A P N c1 a=true:=by
 cases c <;> simp only[Z1A,W05,W01,W0A]at h
 obtain ⟨rfl,h⟩:=h;exact ⟨_,rfl,h⟩
def Z9B {a:RCode} (h:Z1A P N c (.loop a)=true):∃ c1,c = .loop c1/\Z1A P N c1 a=true:=by
 cases c <;> simp only[Z1A,W05]at h
 exact ⟨_,rfl,h⟩
def Z9C {id:Nat} {rs:List ROper} (h:Z1A P N c (.reg id false rs)=true):∃ ops,c = .region id ops false/\allB2 (Z1z P N ops) ops.toList rs=true:=by
 cases c <;> simp only[Z1A,W05,W01,W0A]at h
 obtain ⟨⟨⟨rfl,rfl⟩,h⟩,-⟩:=h;exact ⟨_,rfl,h⟩
end
section
variable {P:Program} {R:Run} {rd:Option Nat} {m:Nat} {ops:Array Oper} {Q:Exit->Act->World->Prop}
def Z9D (l2:List Nat):∀ (l:List Nat) (rs':List ROper) (st:St) (K:St->Prop) (a:Act) (W:World),
  (∀ (i:Nat) (r:ROper),rs'[i]? = some r->∃ (j:Nat) (o:Oper),l[i]? = some j/\ops[j]? = some o/\Z1z P R.N ops o r=true)->l.length=rs'.length->(∀ st' a' W',K st'->SR R st' a' W'->wpOpsIn (FW rd) m P ops Q l2 a' W') ->
  RW P R.G rs' st (λe s=>e = .normal/\K s)->SR R st a W->wpOpsIn (FW rd) m P ops Q (l++l2) a W:=by
 intro l
 induction l with
 | nil =>
   intro rs' st K a W hok hl hK hr hs
   cases rs' with
   |nil=>exact hK st a W hr.2 hs
   |cons r rs'=>simp at hl
 | cons j l ih =>
   intro rs' st K a W hok hl hK hr hs
   cases rs' with
   |nil=>simp at hl
   | cons r rs' =>
     obtain ⟨j',o,hj,ho,hk⟩:=hok 0 r rfl;simp at hj;subst hj
     have go:∀ (st':St) (a':Act) (W':World),RW P R.G rs' st' (λe s=>e = .normal/\K s)->SR R st' a' W'->wpOpsIn (FW rd) m P ops Q (l++l2) a' W':=λst' a' W' h2 hs' =>
      ih rs' st' K a' W' (λi r hi=>by simpa using hok (i+1) r (by simpa using hi)) (by simpa using hl) hK h2 hs'
     rw[W1e,wpOpsIn_cons];rcases Z22 hr with ⟨st',h1,h2⟩ | ⟨hw,g,args,hi,hc⟩
     . exact Z26 h1 ho hk hs λa' W' hs'=>go st' a' W' h2 hs'
     . obtain ⟨κ,hκ⟩:=hs;have hk0:=hk;simp only[Z1z,W01,W0b]at hk;obtain ⟨⟨⟨hd,hdn⟩,-⟩,-⟩:=hk;have hdn':∀ n,r.d=some n->n<R.N:=λn e=>by rw[e]at hdn;simpa using hdn
       refine Z25 hi hw ho hk0 hκ λvs ha=>?_
       rcases hc with ⟨v,st1,hc,hn⟩ | ⟨ch,hc,hn⟩
       . obtain ⟨h1,h2⟩:=hc R a W κ vs rfl hκ ha;refine ⟨h1,h2.mono ?_⟩;rintro e W' ⟨u,κ1,rfl,h3,h4⟩;refine go _ _ _ hn ⟨κ1,?_⟩;rw[hd];exact h3.putd hdn' h4
       . exact absurd hn.1 (by simp)
end
def Z9E (M:Nat->Prop) (W:World) (N:Nat) (rd:Option Nat):Run :=
 { G:=λ_=>none,M:=M,X:=λ_=>False,W0:=W,N:=N,E0:={ M:=M,loc:=λ_=>none,row:=λ_=>none },rd:=rd,nm:=true }
def TT' (M:Nat->Prop) (W:World) (t:List (Nat×AV)) (a:Act):Prop:=∀ n x,lk t n=some x->PV M W x (a.tmps.getD n Go.undef)
def Z9F {M:Nat->Prop} {W:World} {N:Nat} {rd:Option Nat} {t:List (Nat×AV)} {a:Act} (hM:∀ b,M b->b<W.heap.size) (hd:a.defers=[]) (hN:a.tmps.size=N) (ht:TT' M W t a):SR (Z9E M W N rd) ⟨t,[]⟩ a W:=by
 have hGM:∀ b,b<W.heap.size->¬M b->¬((⟨t,[]⟩ : St).env M (λ_=>none)).M b/\W.heap[b]? = W.heap[b]?:=λb _ h1=>⟨(by rintro (h2 | ⟨k,s,h2⟩) <;> first|exact h1 h2|cases h2),rfl⟩
 refine ⟨λ_=>none,⟨[],by simp[hd,Z9E],.nil,by simp,λ_=>rfl⟩,hN,λn x hx=>.pv ((ht n x hx).mono hGM (W0f _)),(λk o ho=>by simp[St.get,lk]at ho),(λk p hk=>by cases hk),(λk k' b s s' hk=>by cases hk),hM,λ_ _ h=>h,Kp.refl _ _,(λg cs hg=>by cases hg),⟨W0f _,hGM,λk p hk=>(by cases hk),λk sz m hk=>(by cases hk)⟩,λ_ _=>⟨rfl,rfl⟩⟩
def Z9G {M:Nat->Prop} {W W':World} {N:Nat} {rd:Option Nat} {st:St} {a:Act} (h:SR (Z9E M W N rd) st a W') {t:List (Nat×AV)} (hw:Ym st ⟨t,[]⟩) (hp:∀ q∈t,q.2.pure=true) :
  a.defers=[]/\a.tmps.size=N/\TT' M W' t a/\Ext W W':=by
 obtain ⟨κ,hk⟩:=hw _ _ _ h;obtain ⟨cs,e,-,-,hz⟩:=hk.defers
 have hκ:∀ k,κ k=none:=λk=>by
  cases e:κ k with
  |none=>rfl
  |some p=>obtain ⟨o,ho⟩:=hk.dom k p e;simp[St.get,lk]at ho
 refine ⟨by rw[e,hz rfl];rfl,hk.size,λn x hx=>?_,⟨hk.kp.os,hk.kp.tape,hk.kp.output,hk.kp.size,λi hi=>hk.kp.block i hi (λh=>h)⟩⟩;refine ((hk.tm n x hx).toPV (hp (n,x) (Z4J hx))).mono (λb _ hb=>⟨λh=>hb (.inl h),rfl⟩) (W0f _)
def Z9H {P:Program} {R:Run} {st:St} {a:Act} {W:World} {κ:Nat->Option (Nat×Nat)} {rd:Option Nat} {m:Nat} {ops:Array Oper} {r:ROper} {j l:Nat} {o:Oper} {f y:RA} {K:Act->World->Prop} {Q:Exit->Act->World->Prop}
  (hr:r.op = .callv f [y]) (hf:evA R.G st f = .func (.yield l) [] []) (hw:wants st r.guard=some true) (ho:ops[j]? = some o) (hk:Z1z P R.N ops o r=true) (hκ:SK R st a W κ)
  (hc:∀ u,VR (st.env R.M κ) W (evA R.G st y) u->YieldAt (FW rd) (m-1) P l #[u] W fun
   |.returned v,W'=>K (a.put o.dst v) W'
   |.panicked ch,W'=>Q (.panic ch) a W'
   |.outgrown,_=>LetsOut Q):wpOpIn (FW rd) m P ops Q j K a W:=by
 simp only[Z1z,W01,W0b]at hk;obtain ⟨⟨⟨hd,hdn⟩,hop⟩,hg⟩:=hk;unfold wpOpIn;simp only[ho];rw[if_pos (Z20 hκ hg hw)];rw[hr]at hop;simp only[Z1y,if_true,Z1x]at hop
 split at hop <;> try (simp at hop;done)
 . simp_all
 . simp_all
 . rename_i r0 x xs ats y' ys e1 e2;simp only[W01]at hop;simp only[ROp.callv.injEq]at e2;obtain ⟨rfl,rfl⟩:=e2;have hx:=hκ.ev hop.1;rw[hf]at hx;obtain ⟨us,vs,hv1,hv2,hv3⟩:=hx.func_inv
   obtain rfl:us = #[]:=by
    have:=hv2.1;rw[<- W16];exact W0l.1 (by simpa using this)
   obtain rfl:vs = #[]:=by
    have:=hv3.1;rw[<- W16];exact W0l.1 (by simpa using this)
   cases xs with
   |nil=>simp[allB2]at hop
   | cons z xs =>
     cases xs with
     |cons _ _=>simp[allB2]at hop
     | nil =>
       have hz:=hκ.ev (show okA z y=true by simpa [allB2] using hop.2);obtain ⟨fn,tmps,assign,body,h1,h2⟩:=hc _ hz;refine ⟨λ_ _=>trivial,?_⟩;rw[Oper.semAt_eq _ _ _ (λc e=>by rw[e1]at e;cases e)]
       have:(execOp a.eval o).run P W = .ok (.round l fn tmps assign body) W:=by
        rw[<- h1];simp[execOp,e1,resolve,hv1,Deferred.ofValue,invoke,Sem.run_bind]
       rw[this];exact ⟨Z24,h2⟩
def elsOf (r:Jr) (n:Int):List AV:=(r.filter (λx=>decide (x.d=n))).map (λx=>.agg (isa x))
def Z9I {n:Int}:∀ (l:Jr),(l.map (·.d)).Pairwise (· <= ·)->(∀ x∈l,n<=x.d) ->
  (l.filter (λx=>decide (x.d=n))).length<=l.length/\(∀ i,i<(l.filter (λx=>decide (x.d=n))).length->(l.filter (λx=>decide (x.d=n)))[i]? = l[i]? /\ ∀ x,l[i]? = some x->x.d=n) /\
   ∀ x,l[(l.filter (λx=>decide (x.d=n))).length]? = some x->x.d≠n
 |[],_,_=>by simp
 | y :: l,hs,hg=>by
   simp only[W0F,W1l]at hs;obtain ⟨h1,h2,h3⟩:=Z9I l hs.2 λx hx=>hg x (W0z _ hx)
   by_cases hy:y.d=n
   . have e:(y::l).filter (λx=>decide (x.d=n))=y::l.filter (λx=>decide (x.d=n)):=(by simp[hy]);rw[e];refine ⟨by simpa using h1,λi hi=>?_,λx hx=>h3 x (by simpa using hx)⟩
     cases i with
     |zero=>exact ⟨rfl,λx hx=>by simp at hx;subst hx;exact hy⟩
     |succ i=>exact ⟨by simpa using (h2 i (by simpa using hi)).1,λx hx=>(h2 i (by simpa using hi)).2 x (by simpa using hx)⟩
   . have gt:n<y.d:=by have:=hg y (W0H ..);omega
     have e:(y::l).filter (λx=>decide (x.d=n))=[]:=by
      rw[W2n];intro x hx;rcases W0g.1 hx with rfl|hx
      . simpa using hy
      . have:=hs.1 x.d (W0i.2 ⟨x,hx,rfl⟩);simp;omega
     rw[e];refine ⟨by simp,by simp,λx hx=>?_⟩;simp at hx;subst hx;exact hy
def Z9J {r:Jr} {n:Int} (hs:(r.map (·.d)).Pairwise (· <= ·)):∃ cnt,cnt=(r.filter (λx=>decide (x.d=n))).length/\cnt<=(r.drop (lowB (r.map (·.d)) n)).length /\
  (∀ i,i<cnt->(r.filter (λx=>decide (x.d=n)))[i]? = (r.drop (lowB (r.map (·.d)) n))[i]? /\ ∀ x,(r.drop (lowB (r.map (·.d)) n))[i]? = some x->x.d=n)/\(∀ x,(r.drop (lowB (r.map (·.d)) n))[cnt]? = some x->x.d≠n):=by
 have e:r.filter (λx=>decide (x.d=n))=(r.drop (lowB (r.map (·.d)) n)).filter (λx=>decide (x.d=n)):=by
  conv=>lhs;rw[<- W11 (lowB (r.map (·.d)) n) r]
  rw[W1a]
  have:(r.take (lowB (r.map (·.d)) n)).filter (λx=>decide (x.d=n))=[]:=by
   rw[W2n];intro x hx;obtain ⟨i,hi,rfl⟩:=W0k hx;simp only[W15]at hi;have:=(Z9q hs n i (by simp;omega)).1 (by omega);simp only[W1w]at this;simp only[W1V];simp;omega
  rw[this,W18]
 refine ⟨_,rfl,?_⟩;rw[e];refine Z9I _ ?_ λx hx=>?_
 . rw[List.map_drop];exact hs.sublist (List.drop_sublist _ _)
 . obtain ⟨i,hi,rfl⟩:=W0k hx;simp only[List.length_drop]at hi;have q:=Z9q hs n (lowB (r.map (·.d)) n+i) (by simp;omega);simp only[W1w]at q;simp only[List.getElem_drop];by_cases h:r[lowB (r.map (·.d)) n+i].d<n
   . have:=q.2 h;omega
   . omega
def Z9K (a b:Int):PC prog G 107 [.int .i64 a,.int .i64 b] (.int .i64 (if a<b then -1 else if b<a then 1 else 0)):=by
 (refine Z70 rfl λR hG hrd=>Qga ?_;subst hG)
 by_cases h1:a<b
 . simp -implicitDefEqProofs[Z6Y,Z6Z];refine Qco (Z9u a) ?_;simp -implicitDefEqProofs[];refine Qco (Z9u b) ?_;simp -implicitDefEqProofs[h1]
 . by_cases h2:b<a
   . simp -implicitDefEqProofs[Z6Y,Z6Z];refine Qco (Z9u a) ?_;simp -implicitDefEqProofs[];refine Qco (Z9u b) ?_;simp -implicitDefEqProofs[h1,h2]
   . simp -implicitDefEqProofs[Z6Y,Z6Z];refine Qco (Z9u a) ?_;simp -implicitDefEqProofs[];refine Qco (Z9u b) ?_;simp -implicitDefEqProofs[h1,h2]
def Z9L (x:Iss) (n:Int):PC prog G 217 [.agg (isa x),.int .i64 n] (.int .i64 (if x.d<n then -1 else if n<x.d then 1 else 0)):=by
 (refine Z79 rfl λR hG hrd=>Qga ?_;subst hG)
 simp -implicitDefEqProofs[Z77,Z78,isa];refine Qco (Z9K _ _) ?_;simp -implicitDefEqProofs[]
def Z9M (r:Jr) (n:Int) (hs:(r.map (·.d)).Pairwise (· <= ·)) (hl:Sml r):∃ b,PC prog G 216 [.vsl (r.map isa),.int .i64 n,.func (.func 217) [] []] (.tup [.int .i64 (lowB (r.map (·.d)) n),.bool b]):=by
 have hle:=Z9p (r.map (·.d)) n;simp only[W0N]at hle;refine ⟨if h:lowB (r.map (·.d)) n<r.length then decide ((if r[lowB (r.map (·.d)) n].d<n then (-1:Int) else if n<r[lowB (r.map (·.d)) n].d then 1 else 0)=0) else false,?_⟩
 (refine Z73 rfl λR hG hrd=>Qga ?_;subst hG)
 unfold Sml at hl;simp -implicitDefEqProofs[Z71,Z72];refine Z1Q (λp:Nat×Nat=>⟨[(10,.int .i64 p.2),(9,.int .i64 p.1),(8,.int .i64 r.length),(0,.vsl (r.map isa)),(1,.int .i64 n),(2,.func (.func 217) [] [])],[]⟩) (λp=>p.1<=lowB (r.map (·.d)) n/\lowB (r.map (·.d)) n<=p.2/\p.2<=r.length) (λp=>p.2-p.1) (0,r.length) (by (first|exact Wka|exact Wkb)) ⟨by omega,hle,W0f _⟩ ?_;rintro ⟨lo,hi⟩ ⟨h1,h2,h3⟩;simp only at h1 h2 h3;refine Qga ?_;by_cases h4:lo<hi
 . obtain ⟨m,hm⟩:=Qex ((lo+hi) / 2);have hw:=Z9t (i:=lo) (j:=hi) (by omega);rw[<- hm]at hw;have m1:m<r.length:=(by omega);have w1:i64.wrap ((m:Int)+1)=((m+1:Nat):Int):=Yf;have hb:=Z9q hs n m (by simpa using m1);simp only[W1w]at hb;by_cases h5:r[m].d<n
   . have c1:(-1:Int)<0:=(by omega);simp -implicitDefEqProofs[h4,hw,m1,isa];refine Qco (Z9L r[m] n) ?_;simp -implicitDefEqProofs[h5,w1];exact ⟨(m+1,hi),(by (first|exact Wka|exact Wkb)),⟨by have:=hb.2 h5;show m+1<=_;omega,h2,h3⟩,by show hi-(m+1)<hi-lo;omega⟩
   . simp -implicitDefEqProofs[h4,hw,m1,isa];refine Qco (Z9L r[m] n) ?_;by_cases h6:n<r[m].d
     . simp -implicitDefEqProofs[h5,h6];exact ⟨(lo,m),(by (first|exact Wka|exact Wkb)),⟨h1,by have:¬m<lowB (r.map (·.d)) n:=λh=>h5 (hb.1 h);show _<=m;omega,by show m<=_;omega⟩,by show m-lo<hi-lo;omega⟩
     . simp -implicitDefEqProofs[h5,h6];exact ⟨(lo,m),(by (first|exact Wka|exact Wkb)),⟨h1,by have:¬m<lowB (r.map (·.d)) n:=λh=>h5 (hb.1 h);show _<=m;omega,by show m<=_;omega⟩,by show m-lo<hi-lo;omega⟩
 . obtain rfl:lo=lowB (r.map (·.d)) n:=(by omega);by_cases h5:lowB (r.map (·.d)) n<r.length
   . simp -implicitDefEqProofs[h4];refine Qgr ?_;simp -implicitDefEqProofs[h5,isa];refine Qco (Z9L r[lowB (r.map (·.d)) n] n) ?_;simp -implicitDefEqProofs[]
   . simp -implicitDefEqProofs[h4];refine Qgr ?_;simp -implicitDefEqProofs[h5]
def issA:RCode->RCode
 |.seq a _=>a
 |c=>c
def Z9N:RCode->RCode
 |.seq _ b=>b
 |c=>c
def issB1 (c:RCode):RCode:=issA (Z9N c)
def issB2 (c:RCode):RCode:=Z9N (Z9N c)
def issB3 (c:RCode):RCode:=match issB2 c with
 |.block _ b=>b
 |c=>c
def issL (c:RCode):RCode:=match issB3 c with
 |.loop b=>b
 |c=>c
def issBk:RCode->RCode
 |.block _ b=>b
 |c=>c
def Z9O:RCode->List ROper
 |.reg _ _ l=>l
 |_=>[]
def itS (seg:Jr) (bk:AV) (n:Int) (l i:Nat):List (Nat×AV) :=
 [(26,.int .i64 i),(25,.int .i64 seg.length),(24,.vsl (seg.map isa)),(2,.vptr [.int .i64 n] 0),(1,.vptr [bk] 0),(0,.func (.yield l) [] [])]
def Z9P (r:Jr) (n:Int) (ds:AV) (hs:(r.map (·.d)).Pairwise (· <= ·)) (hl:Sml r):IterP prog 215 [.vptr [.vptr [.vsl (r.map isa),ds] 0] 0,.vptr [.int .i64 n] 0] (elsOf r n):=by
 refine ⟨by kernel_rfl,?_⟩;intro n' l lb J K M W hn hJe hKe hJM hC hY h0;obtain ⟨cnt,hcnt,hc1,hc2,hc3⟩:=Z9J (n:=n) hs;generalize hseg:r.drop (lowB (r.map (·.d)) n)=seg at hc1 hc2 hc3;have hsl:seg.length<=16777216:=(by rw[<- hseg];simp;unfold Sml at hl;omega);have hle:=Z9p (r.map (·.d)) n;simp only[W0N]at hle;unfold Sml at hl;have hel:(elsOf r n).length=cnt:=(by rw[hcnt];simp[elsOf]);obtain ⟨c,hc,hok⟩ : ∃ c,Tryz.f215.body=some c/\Z1A prog Tryz.f215.ntmps c Z9y=true:=⟨_,rfl,by kernel_rfl⟩;obtain ⟨N,hN⟩:=Qex Tryz.f215.ntmps;have hN3:3<=N:=(by rw[hN];decide);rw[<- hN]at hok;refine callsIn_of_wp (F:=Fence.wide) Tryz.func215 hc trivial ?_ rfl
 have hres:∀ (tm:Array Value) (W':World),(results Tryz.f215 tm).run prog W' = .ok (.tuple #[]) W':=λtm W'=>by
  have e:Tryz.f215.results = #[]:=rfl;simp[results,e,Sem.run_bind]
 obtain ⟨Q,hQ⟩:=Qex (bodyPost prog Tryz.f215 (λe W'=>(∃ v,e = .returned v)/\((∃ M,J (elsOf r n).length M W')∨K W')))
 have hfin:∀ (a:Act) (W':World),a.defers=[]->((∃ M,J (elsOf r n).length M W')∨K W')->Q .ret a W'/\Q .normal a W':=λa W' hd h=>by
  rw[hQ];exact ⟨⟨hd,_,hres _ _,⟨_,rfl⟩,h⟩,⟨hd,_,hres _ _,⟨_,rfl⟩,h⟩⟩
 rw[<- hQ];have hwide:Fence.wide=FW none:=rfl;rw[hwide];obtain ⟨cA,c1,rfl,okA',ok1⟩:=Z9z (a:=issA Z9y) (b:=Z9N Z9y) hok;obtain ⟨cB,c2,rfl,okB',ok2⟩:=Z9z (a:=issB1 Z9y) (b:=issB2 Z9y) ok1;obtain ⟨c3,rfl,ok3⟩:=Z9A (id:=0) (a:=issB3 Z9y) ok2;obtain ⟨c4,rfl,ok4⟩:=Z9B (a:=issL Z9y) ok3
 have hbk:∃ v1 v2,lb = #[v1,v2]/\PV M W (.vptr [.vptr [.vsl (r.map isa),ds] 0] 0) v1/\PV M W (.vptr [.int .i64 n] 0) v2:=by
  obtain ⟨h1,h2⟩:=hC
  match lb,h1,h2 with
  | ⟨[v1,v2]⟩,_,h2=>exact ⟨v1,v2,rfl,h2 0 _ v1 rfl rfl,h2 1 _ v2 rfl rfl⟩
 obtain ⟨v1,v2,rfl,hv1,hv2⟩:=hbk;obtain ⟨bk,hbk⟩:=Qex (AV.vptr [.vsl (r.map isa),ds] 0);rw[<- hbk]at hv1
 have start:SR (Z9E M W N none) ⟨[(2,.vptr [.int .i64 n] 0),(1,.vptr [bk] 0),(0,.func (.yield l) [] [])],[]⟩ { tmps:=(#[.func (.yield l) #[] #[]] ++ #[v1,v2]:Array Value)++Array.replicate (N-3) Go.undef,defers:=[] } W:=by
  refine Z9F (hJM 0 M W h0) rfl (by simp;omega) λk x hx=>?_
  have g0:((#[.func (.yield l) #[] #[]] ++ #[v1,v2]:Array Value)++Array.replicate (N-3) Go.undef).getD 0 Go.undef = .func (.yield l) #[] #[]:=(by simp[Array.getD]);have g1:((#[.func (.yield l) #[] #[]] ++ #[v1,v2]:Array Value)++Array.replicate (N-3) Go.undef).getD 1 Go.undef=v1:=(by simp[Array.getD];omega);have g2:((#[.func (.yield l) #[] #[]] ++ #[v1,v2]:Array Value)++Array.replicate (N-3) Go.undef).getD 2 Go.undef=v2:=(by simp[Array.getD];omega);simp only[lk]at hx
  split at hx
  . rename_i e;subst e;cases hx;rw[g2];exact hv2
  . split at hx
    . rename_i e;subst e;cases hx;rw[g1];exact hv1
    . split at hx
      . rename_i e;subst e;cases hx;rw[g0];exact .func _ [] [] #[] #[] rfl rfl (by simp) (by simp)
      . cases hx
 have hact:({ tmps:=(#[.func (.yield l) #[] #[]] ++ #[v1,v2]:Array Value)++Array.replicate (Tryz.f215.ntmps-(#[.func (.yield l) #[] #[]] ++ #[v1,v2]:Array Value).size) Go.undef,defers:=[] }:Act)={ tmps:=(#[.func (.yield l) #[] #[]] ++ #[v1,v2]:Array Value)++Array.replicate (N-3) Go.undef,defers:=[] }:=(by rw[hN];rfl);rw[hact]
 have arA:AR prog (Z9E M W N none) (issA Z9y) ⟨[(2,.vptr [.int .i64 n] 0),(1,.vptr [bk] 0),(0,.func (.yield l) [] [])],[]⟩ (λe s=>e = .normal/\Ym s ⟨[(4,.int .i64 (lowB (r.map (·.d)) n)),(2,.vptr [.int .i64 n] 0),(1,.vptr [bk] 0),(0,.func (.yield l) [] [])],[]⟩):=by
  obtain ⟨b,hb⟩:=Z9M (G:=λ_=>none) r n hs hl;refine Qga ?_;simp -implicitDefEqProofs[issA,Z9y,hbk];refine Ye.of hb (by simp[AV.pure]) ?_;simp -implicitDefEqProofs[];exact ⟨rfl,(by (first|exact Wka|exact Wkb))⟩
 have hdr:List.drop (lowB (r.map (·.d)) n) (r.map isa)=seg.map isa:=(by rw[<- List.map_drop,hseg]);have hsg:seg.length=r.length-lowB (r.map (·.d)) n:=(by rw[<- hseg];simp);have htk:List.take r.length (r.map isa)=r.map isa:=W0J (by simp);have k5:(r.map isa).all (λr=>r.length == 5)=true:=by simp[isa]
 have arB:∀ R':Run,AR prog R' (issB1 Z9y) ⟨[(4,.int .i64 (lowB (r.map (·.d)) n)),(2,.vptr [.int .i64 n] 0),(1,.vptr [bk] 0),(0,.func (.yield l) [] [])],[]⟩ (λe s=>e = .normal/\Ym s ⟨itS seg bk n l 0,[]⟩):=λR'=>by
  refine Qga ?_;simp -implicitDefEqProofs[issA,issB1,Z9N,Z9y,hbk,hle,k5,hdr];exact (by (first|exact Ym.tm (by simp[lk,itS,hsg,htk,hdr])|exact Ym.sub (by simp[lk,Ya,AV.keys,itS,hsg,htk,hdr]) (by simp[lk,Yc,Ya,AV.keys,itS,hsg,htk,hdr])))
 refine wpIn_seq (wpIn_mono (arA cA okA' _ _ W start) ?_);rintro e a1 W1 ⟨s1,⟨rfl,hw1⟩,hs1⟩;refine wpIn_seq (wpIn_mono (arB _ cB okB' _ a1 W1 (hw1 _ _ _ hs1)) ?_);rintro e a2 W2 ⟨s2,⟨rfl,hw2⟩,hs2⟩;obtain ⟨d2,n2,t2,e2⟩:=Z9G hs2 hw2 (by simp[itS,AV.pure,hbk]);have hJ2:=hJe _ _ _ _ h0 e2;clear hs2 hw2 hs1 hw1 arA arB start hact;refine wpIn_block ?_;refine wpIn_loop_ghost (λm a A=>∃ i M,i<=cnt/\m=seg.length-i/\J i M A/\a.defers=[]/\a.tmps.size=N/\TT' M A (itS seg bk n l i) a) seg.length ⟨0,M,W1f _,by simp,hJ2,d2,n2,t2⟩ ?_;clear hJ2 d2 n2 t2 e2 h0 hv1 hv2 hC;rintro m a A ⟨i,M,hi,rfl,hJ,hd,hn2,ht⟩;have hfr:SR (Z9E M A N none) ⟨itS seg bk n l i,[]⟩ a A:=Z9F (hJM i M A hJ) hd hn2 ht;by_cases hlt:i<seg.length
 case neg =>
  have hic:i=cnt:=(by omega);subst hic
  have ar:∀ R':Run,AR prog R' (issL Z9y) ⟨itS seg bk n l i,[]⟩ (λe s=>e = .exit 0/\Ym s ⟨[],[]⟩):=λR'=>by
   refine Qga ?_;simp -implicitDefEqProofs[issL,issB3,issB2,Z9N,Z9y,itS,hlt];exact (by (first|exact Wka|exact Wkb))
  refine wpIn_mono (ar _ c4 ok4 _ a A hfr) ?_;rintro e a3 A3 ⟨s3,⟨rfl,hw3⟩,hs3⟩;obtain ⟨d3,-,-,e3⟩:=Z9G hs3 hw3 (by simp);refine (hfin a3 A3 d3 (.inl ⟨M,?_⟩)).2;rw[hel];exact hJe _ _ _ _ hJ e3
 by_cases hd2:seg[i].d=n
 case neg =>
  have hic:i=cnt:=by
   by_cases e:i<cnt
   . exact absurd ((hc2 i e).2 _ (W07 hlt)) hd2
   . omega
  subst hic
  have ar:∀ R':Run,AR prog R' (issL Z9y) ⟨itS seg bk n l i,[]⟩ (λe s=>e = .ret/\Ym s ⟨[],[]⟩):=λR'=>by
   refine Qga ?_;simp -implicitDefEqProofs[issL,issB3,issB2,Z9N,Z9y,itS,hlt,isa,hd2];exact (by (first|exact Wka|exact Wkb))
  refine wpIn_mono (ar _ c4 ok4 _ a A hfr) ?_;rintro e a3 A3 ⟨s3,⟨rfl,hw3⟩,hs3⟩;obtain ⟨d3,-,-,e3⟩:=Z9G hs3 hw3 (by simp);refine (hfin a3 A3 d3 (.inl ⟨M,?_⟩)).1;rw[hel];exact hJe _ _ _ _ hJ e3
 have hic:i<cnt:=by
  by_cases e:i<cnt
  . exact e
  . exact absurd hd2 (hc3 _ (by rw[show cnt=i by omega];exact W07 hlt))
 have helt:(elsOf r n)[i]? = some (.agg (isa seg[i])):=by
  simp only[elsOf,W09,(hc2 i hic).1,W07 hlt,W0m]
 obtain ⟨L,hL⟩:=Qex (issL Z9y);obtain ⟨r2,q1,rfl,okr2,okq1⟩:=Z9z (a:=issA (issL Z9y)) (b:=Z9N (issL Z9y)) ok4;obtain ⟨k1,q2,rfl,okk1,okq2⟩:=Z9z (a:=issA (Z9N (issL Z9y))) (b:=Z9N (Z9N (issL Z9y))) okq1;obtain ⟨q3,r5,rfl,okq3,okr5⟩:=Z9z (a:=issA (Z9N (Z9N (issL Z9y)))) (b:=Z9N (Z9N (Z9N (issL Z9y)))) okq2;obtain ⟨q4,rfl,okq4⟩:=Z9A (id:=1) (a:=issBk (issA (Z9N (Z9N (issL Z9y))))) okq3;obtain ⟨r3,q5,rfl,okr3,okq5⟩:=Z9z (a:=issA (issBk (issA (Z9N (Z9N (issL Z9y)))))) (b:=Z9N (issBk (issA (Z9N (Z9N (issL Z9y)))))) okq4;obtain ⟨r4,k2,rfl,okr4,okk2⟩:=Z9z (a:=issA (Z9N (issBk (issA (Z9N (Z9N (issL Z9y))))))) (b:=Z9N (Z9N (issBk (issA (Z9N (Z9N (issL Z9y))))))) okq5;obtain ⟨ops,rfl,hops⟩:=Z9C (id:=4) (rs:=Z9O (issA (Z9N (issBk (issA (Z9N (Z9N (issL Z9y)))))))) okr4;obtain ⟨hol,hoo⟩:=Zc hops;have hol:ops.size=10:=hol
 have ar2:AR prog (Z9E M A N none) (issA (issL Z9y)) ⟨itS seg bk n l i,[]⟩ (λe s=>e = .normal/\Ym s ⟨(27,.bool true)::itS seg bk n l i,[]⟩):=by
  refine Qga ?_;simp -implicitDefEqProofs[issL,issB3,issB2,issA,Z9N,Z9y,itS,hlt];exact (by (first|exact Wka|exact Wkb))
 refine wpIn_seq (wpIn_mono (ar2 r2 okr2 _ a A hfr) ?_);rintro e b1 B1 ⟨s1,⟨rfl,w1⟩,hs1⟩
 have ark:AR prog (Z9E M A N none) (issA (Z9N (issL Z9y))) ⟨(27,.bool true)::itS seg bk n l i,[]⟩ (λe s=>e = .normal/\Ym s ⟨itS seg bk n l i,[]⟩):=by
  refine Qga ?_;simp -implicitDefEqProofs[issL,issB3,issB2,issA,Z9N,Z9y,itS];exact (by (first|exact Wka|exact Wkb))
 refine wpIn_seq (wpIn_mono (ark k1 okk1 _ b1 B1 (w1 _ _ _ hs1)) ?_);rintro e b2 B2 ⟨s2,⟨rfl,w2⟩,hs2⟩;refine wpIn_seq (wpIn_block ?_)
 have ar3:AR prog (Z9E M A N none) (issA (issBk (issA (Z9N (Z9N (issL Z9y)))))) ⟨itS seg bk n l i,[]⟩ (λe s=>e = .normal/\Ym s ⟨(7,.ptr 7 0)::itS seg bk n l i,[(7,.box (isa seg[i]))]⟩):=by
  refine Qga ?_;simp -implicitDefEqProofs[issL,issB3,issB2,issA,Z9N,issBk,Z9y,itS,hlt,isa];exact (by (first|exact Wka|exact Wkb))
 refine wpIn_seq (wpIn_mono (ar3 r3 okr3 _ b2 B2 (w2 _ _ _ hs2)) ?_);rintro e b3 B3 ⟨s3,⟨rfl,w3⟩,hs3⟩;have hs3:=w3 _ _ _ hs3;clear hs1 hs2 w1 w2 w3 ar2 ark ar3;refine wpIn_seq (wpIn_region ?_);have hrg:List.range ops.size=[0,1,2,3,4,5,6]++[7,8,9]:=(by rw[hol];rfl);rw[hrg]
 have okAt:∀ (k:Nat) (r:ROper),(Z9O (issA (Z9N (issBk (issA (Z9N (Z9N (issL Z9y))))))))[k]? = some r->∃ o,ops[k]? = some o/\Z1z prog N ops o r=true:=λk r hk=>by
  have hlt:k<ops.size:=by
   have:=(W02.1 hk).1;rw[hol];exact this
  exact ⟨ops[k],by simp[hlt],hoo k _ r (by simp[hlt]) hk⟩
 refine Z9D (R:=Z9E M A N none) [7,8,9] _ ((Z9O (issA (Z9N (issBk (issA (Z9N (Z9N (issL Z9y)))))))).take 7) ⟨(7,.ptr 7 0)::itS seg bk n l i,[(7,.box (isa seg[i]))]⟩
  (λs=>Ym s ⟨(36,.agg (isa seg[i]))::(35,.func (.yield l) [] [])::(34,.bool false)::itS seg bk n l i,[]⟩) b3 B3 ?_ rfl ?_ ?_ hs3
 . intro k r hk;rw[W1m]at hk
   split at hk
   . rename_i h7;obtain ⟨o,h1,h2⟩:=okAt k r hk;refine ⟨k,o,?_,h1,h2⟩
     match k,h7 with
     |0,_|1,_|2,_|3,_|4,_|5,_|6,_=>rfl
   . cases hk
 . intro s4 b4 B4 w4 hs4;obtain ⟨κ4,hk4⟩:=w4 _ _ _ hs4;obtain ⟨d4,n4,t4,e4⟩:=Z9G hs4 w4 (by simp[itS,AV.pure,hbk,isa]);obtain ⟨o7,ho7,hk7⟩:=okAt 7 _ rfl;rw[wpOpsIn_cons];refine Z9H (R:=Z9E M A N none) (l:=l) (f:=.t 35) (y:=.t 36) rfl (by simp[evA,St.tmp,lk]) (by simp[wants,St.tmp,lk]) ho7 hk7 hk4 λu hu=>?_
   have hpu:PV M B4 (.agg (isa seg[i])) u:=by
    have h36:evA (Z9E M A N none).G ⟨(36,.agg (isa seg[i]))::(35,.func (.yield l) [] [])::(34,.bool false)::itS seg bk n l i,[]⟩ (.t 36) = .agg (isa seg[i]):=(by simp[evA,St.tmp,lk]);rw[h36]at hu;exact (hu.toPV (by simp[AV.pure,isa])).mono (λb _ hb=>⟨λh=>hb (.inl h),rfl⟩) (W0f _)
   have hdst:o7.dst=some 37:=by
    simp only[Z1z,W01,W0b]at hk7;exact hk7.1.1.1
   have h34:b4.tmps.getD 34 Go.undef = .bool false:=by
    have:=t4 34 (.bool false) (by simp[lk]);generalize b4.tmps.getD 34 Go.undef=v at this
    cases this;rfl
   have suffix:∀ (b:Bool) (T:List (Nat×AV)) (M':Nat->Prop) (A':World),(T=itS seg bk n l i∨T=[])->(∀ x,M' x->x<A'.heap.size)->TT' M' A' T b4->∀ (Qx:Exit->Act->World->Prop),
     (∀ a5 A5,SR (Z9E M' A' N none) ⟨(39,.bool (!b))::T,[]⟩ a5 A5->Qx .normal a5 A5)->wpOpsIn (FW none) n' prog ops Qx [8,9] (b4.put (some 37) (.bool b)) A':=by
    intro b T M' A' hTT hM' hT Qx hQx;have n37:37<N:=by rw[hN];decide
    have hsr:SR (Z9E M' A' N none) ⟨(37,.bool b)::(34,.bool false)::T,[]⟩ (b4.put (some 37) (.bool b)) A':=by
     refine Z9F hM' d4 (by simpa [Act.put] using n4) λk x hx=>?_
     show PV M' A' x ((b4.tmps.setIfInBounds 37 (.bool b)).getD k Go.undef);simp only[lk]at hx
     split at hx
     . rename_i e;subst e
       cases hx
       have:(b4.tmps.setIfInBounds 37 (.bool b)).getD 37 Go.undef = .bool b:=(by simp[Array.getD,n4,n37]);rw[this];exact .bool b
     . rename_i e
       have h3:(b4.tmps.setIfInBounds 37 (.bool b)).getD k Go.undef=b4.tmps.getD k Go.undef:=by
        simp only[W0a,W0p,if_neg e]
       rw[h3]
       split at hx
       . rename_i e2;subst e2;cases hx;rw[h34];exact .bool false
       . exact hT k x hx
    refine Z27 (R:=Z9E M' A' N none) [8,9] ((Z9O (issA (Z9N (issBk (issA (Z9N (Z9N (issL Z9y)))))))).drop 8) ⟨(37,.bool b)::(34,.bool false)::T,[]⟩
     (λe s=>e = .normal/\Ym s ⟨(39,.bool (!b))::T,[]⟩) Qx _ A' ?_ rfl ?_ ?_ hsr
    . intro k r hk;rw[W13]at hk;obtain ⟨o,h1,h2⟩:=okAt (8+k) r hk
      have h7:k<2:=by
       have:=(W02.1 hk).1;have e:(Z9O (issA (Z9N (issBk (issA (Z9N (Z9N (issL Z9y)))))))).length=10:=rfl;omega
      refine ⟨8+k,o,?_,h1,h2⟩
      match k,h7 with
      |0,_|1,_=>rfl
    . rintro e s5 a5 A5 ⟨rfl,w5⟩ hs5;exact hQx a5 A5 (w5 _ _ _ hs5)
    . rcases hTT with rfl|rfl <;> cases b
      all_goals
       simp -implicitDefEqProofs[issL,issB3,issB2,issA,Z9N,issBk,Z9O,Z9y,itS];exact (by (first|exact Wka|exact Wkb))
   obtain ⟨fn,tm,asg,bo,y1,y2⟩:=hY i _ u M B4 (hJe _ _ _ _ hJ e4) helt hpu;refine ⟨fn,tm,asg,bo,y1,y2.mono ?_⟩;rintro e A' (⟨rfl,M',hJ',hSi⟩ | ⟨rfl,hK'⟩)
   . show wpOpsIn (FW none) n' prog ops _ [8,9] (b4.put o7.dst (.bool true)) A';rw[hdst]
     have hT':TT' M' A' (itS seg bk n l i) b4:=λk x hx=>by
      refine (t4 k x ?_).mono hSi.2 hSi.1;simp only[lk];rw[if_neg (by rintro rfl;simp[itS,lk]at hx),if_neg (by rintro rfl;simp[itS,lk]at hx),if_neg (by rintro rfl;simp[itS,lk]at hx)];exact hx
     refine suffix true _ M' A' (.inl rfl) (hJM _ _ _ hJ') hT' _ λa5 A5 h5=>?_
     have ark2:AR prog (Z9E M' A' N none) (Z9N (Z9N (issBk (issA (Z9N (Z9N (issL Z9y))))))) ⟨(39,.bool (!true))::itS seg bk n l i,[]⟩ (λe s=>e = .normal/\Ym s ⟨itS seg bk n l i,[]⟩):=by
      refine Qga ?_;simp -implicitDefEqProofs[issL,issB3,issB2,issA,Z9N,issBk,Z9y,itS];exact (by (first|exact Wka|exact Wkb))
     refine wpIn_mono (ark2 k2 okk2 _ a5 A5 h5) ?_;rintro e b6 B6 ⟨s6,⟨rfl,w6⟩,hs6⟩
     have ar5:AR prog (Z9E M' A' N none) (Z9N (Z9N (Z9N (issL Z9y)))) ⟨itS seg bk n l i,[]⟩ (λe s=>e = .normal/\Ym s ⟨itS seg bk n l (i+1),[]⟩):=by
      have w1:i64.wrap ((i:Int)+1)=((i+1:Nat):Int):=Yf;refine Qga ?_;simp -implicitDefEqProofs[issL,issB3,issB2,issA,Z9N,issBk,Z9y,itS,w1];exact (by (first|exact Wka|exact Wkb))
     refine wpIn_mono (ar5 r5 okr5 _ b6 B6 (w6 _ _ _ hs6)) ?_;rintro e b7 B7 ⟨s7,⟨rfl,w7⟩,hs7⟩;obtain ⟨d7,n7,t7,e7⟩:=Z9G hs7 w7 (by simp[itS,AV.pure,hbk]);exact ⟨seg.length-(i+1),by omega,i+1,M',by omega,rfl,hJe _ _ _ _ hJ' e7,d7,n7,t7⟩
   . show wpOpsIn (FW none) n' prog ops _ [8,9] (b4.put o7.dst (.bool false)) A';rw[hdst];refine suffix false [] (λ_=>False) A' (.inr rfl) (λ_ h=>h.elim) (λk x hx=>by simp[lk]at hx) _ λa5 A5 h5=>?_
     have ark2:AR prog (Z9E (λ_=>False) A' N none) (Z9N (Z9N (issBk (issA (Z9N (Z9N (issL Z9y))))))) ⟨[(39,.bool (!false))],[]⟩ (λe s=>e = .ret/\Ym s ⟨[],[]⟩):=by
      refine Qga ?_;simp -implicitDefEqProofs[issL,issB3,issB2,issA,Z9N,issBk,Z9y];exact (by (first|exact Wka|exact Wkb))
     refine wpIn_mono (ark2 k2 okk2 _ a5 A5 h5) ?_;rintro e b6 B6 ⟨s6,⟨rfl,w6⟩,hs6⟩;obtain ⟨d6,-,-,e6⟩:=Z9G hs6 w6 (by simp);exact (hfin b6 B6 d6 (.inr (hKe _ _ hK' e6))).1
 . simp -implicitDefEqProofs[issL,issB3,issB2,issA,Z9N,issBk,Z9O,Z9y,itS,isa,hd2];exact (by (first|exact Wka|exact Wkb))
end Go.Proofs.YtcdlimgkliklhaaGreatDoor
