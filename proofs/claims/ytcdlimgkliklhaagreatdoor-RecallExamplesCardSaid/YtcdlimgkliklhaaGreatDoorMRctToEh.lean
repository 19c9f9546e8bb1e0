/-
  The abstract machine's code of functions of the program, as a program of ours printed it; that it is theirs is proved beside each.
-/
import Derived.Test.YtcdlimgkliklhaaGreatDoorMAmLToAmW
import Derived.Test.YtcdlimgkliklhaaGreatDoorProg
import Derived.IntWalk
set_option linter.all false
set_option maxHeartbeats 8000000
namespace Go.Proofs.YtcdlimgkliklhaaGreatDoor
open Tryz (prog)
open IntKind (i64)
open Go.RowKit
variable {G:Jg}
section
open Qq Tryz
def Z5t:RCode :=
 S [r 0 [n 0 (.bool false)],S [r 1 [n 24 (.bool false),g 24 false (c 25 44 []),g 24 false (t 26 25),u 27 24 26],K 27 2 [n 0 (.bool false)]],r 3 [c 29 45 [],w 30 (.call 19 [.t 29,.c (.int .i64 300),.c I]),m 28 30,x 31 0 28,x 32 1 28,x 33 2 28,m 1 31,m 2 32,m 3 33],r 4 [c 35 45 [],w 36 (.call 21 [.t 35,.c (.int .i64 300),.c I,.c (.int .i64 30)]),m 34 36,x 37 0 34,x 38 1 34,m 4 37,m 5 38],r 5 [c 40 45 [],w 41 (.call 27 [.t 40,.c I,.c (.int .i64 30)]),m 39 41,x 42 0 39,x 43 1 39,m 6 42,m 7 43],r 6 [c 45 45 [],w 46 (.call 29 [.t 45,.c (.int .i64 300),.c (.int .i64 2)]),m 44 46,x 47 0 44,x 48 1 44,m 8 47,m 9 48],r 7 [c 50 45 [],w 51 (.bsl false 1 1 [O] [(0,.c (.int .i64 30))]),w 52 (.call 40 [.t 50,.c (.int .i64 300),.c .nils,.t 51]),m 49 52,x 53 0 49,x 54 1 49,w 10 (.alloc [.nils,.nils,.nils,.nils]),s 4 10 53,m 11 54],r 8 [L 56 4 10,w 57 (.call 34 [.t 56,.c (.int .i64 300)]),m 55 57,x 58 0 55,x 59 1 55,m 12 58,m 13 59],S [r 9 [m 60 1,m 61 3,w 62 (.bsl false 1 3 [O,O,O] [(0,.c I),(1,.c (.int .i64 2)),(2,.c (.int .i64 6))]),c 63 46 [60,61,62],t 64 63,m 65 64,g 65 false (m 66 2),g 65 false (m 67 3),g 65 false (w 68 (.call 46 [.t 66,.t 67,.c .nils])),g 65 false (t 69 68),u 70 65 69,m 71 70,g 71 false (m 72 4),g 71 false (m 73 5),g 71 false (w 74 (.bsl false 1 1 [O] [(0,.c (.int .i64 2))])),g 71 false (c 75 46 [72,73,74]),g 71 false (t 76 75),u 77 71 76,m 78 77,g 78 false (m 79 6),g 78 false (m 80 7),g 78 false (w 81 (.bsl false 1 1 [O] [(0,.c (.int .i64 2))])),g 78 false (c 82 46 [79,80,81]),g 78 false (t 83 82),u 84 78 83,m 85 84,g 85 false (m 86 9),g 85 false (k 87 .neq 86 O),u 88 85 87,m 89 88,g 89 false (m 90 8),g 89 false (w 91 (.call 47 [.c (.int .i64 30),.c (.int .i64 2)])),g 89 false (w 92 (.bsl false 2 1 [O,O] [(0,.t 91)])),g 89 false (c 93 33 [90,92]),g 89 false (t 94 93),u 95 89 94,m 96 95,g 96 false (m 97 11),g 96 false (k 98 .neq 97 O),u 99 96 98,m 100 99,g 100 false (m 101 12),g 100 false (m 102 13),g 100 false (w 103 (.call 46 [.t 101,.t 102,.c .nils])),g 100 false (t 104 103),u 105 100 104],K 105 10 [n 0 (.bool false)]],r 11 [c 106 45 [],c 107 45 [],w 14 (.alloc [.nils,.nils,.nils,.nils]),w 15 (.alloc [.nils,.nils,.nils,.nils]),s 4 14 106,s 4 15 107],r 12 [f 108 3 14,l 109 108,w 110 (.iaddr 7 (.t 109) (.c (.int .i64 6))),f 111 6 110,z (.store 1 (.t 111) (.c (.int .u8 1)))],r 13 [f 112 0 15,f 113 1 112,l 114 113,w 115 (.iaddr 10 (.t 114) (.c O)),f 116 5 115,z (.store 1 (.t 116) (.c O))],r 14 [L 118 4 14,w 119 (.call 34 [.t 118,.c (.int .i64 (-1))]),m 117 119,x 120 0 117,x 121 1 117,m 3 121],r 15 [L 123 4 15,w 124 (.call 34 [.t 123,.c (.int .i64 (-1))]),m 122 124,x 125 0 122,x 126 1 122,m 5 126],r 16 [c 128 45 [],w 129 (.call 34 [.t 128,.c (.int .i64 14611)]),m 127 129,x 130 0 127,x 131 1 127,m 7 131],r 17 [c 133 45 [],w 134 (.call 27 [.t 133,.c (.int .i64 4),.c (.int .i64 30)]),m 132 134,x 135 0 132,x 136 1 132,m 9 136],r 18 [c 138 45 [],w 139 (.call 21 [.t 138,.c O,.c I,.c (.int .i64 60)]),m 137 139,x 140 0 137,x 141 1 137,m 11 141],r 19 [c 143 45 [],w 144 (.call 31 [.t 143,.c O,.c (.int .i64 4),.c (.int .i64 60),.c O]),m 142 144,x 145 0 142,x 146 1 142,m 13 146],r 20 [c 148 45 [],w 149 (.bsl false 1 1 [O] [(0,.c (.int .i64 4))]),w 150 (.call 40 [.t 148,.c O,.t 149,.c .nils]),m 147 150,x 151 0 147,x 152 1 147,w 16 (.alloc [.nils,.nils,.nils,.nils]),s 4 16 151,m 17 152],r 21 [c 154 45 [],w 155 (.bsl false 1 1 [O] [(0,.c (.int .i64 60))]),w 156 (.call 40 [.t 154,.c O,.c .nils,.t 155]),m 153 156,x 157 0 153,x 158 1 153,w 18 (.alloc [.nils,.nils,.nils,.nils]),s 4 18 157,m 19 158],r 22 [c 160 45 [],w 161 (.call 47 [.c (.int .i64 10),.c I]),w 162 (.call 48 [.c (.int .i64 6),.c O,.c I,.t 161]),c 163 42 [160,162],m 159 163,x 164 0 159,x 165 1 159,w 20 (.alloc [.nils,.nils,.nils,.nils]),s 4 20 164,m 21 165],r 23 [c 167 45 [],w 168 (.call 47 [.c (.int .i64 10),.c I]),w 169 (.call 48 [.c (.int .i64 9),.c O,.c (.int .i64 4),.t 168]),c 170 42 [167,169],m 166 170,x 171 0 166,x 172 1 166,w 22 (.alloc [.nils,.nils,.nils,.nils]),s 4 22 171,m 23 172],r 24 [m 173 3,k 174 .eql 173 (.int .i64 70),m 175 174,g 175 true (m 176 5),g 175 true (k 177 .eql 176 (.int .i64 30)),v 178 175 177,m 179 178,g 179 true (m 180 7),g 179 true (k 181 .eql 180 (.int .i64 2)),v 182 179 181,m 183 182,g 183 true (m 184 9),g 183 true (k 185 .eql 184 (.int .i64 6)),v 186 183 185,m 187 186,g 187 true (m 188 11),g 187 true (k 189 .eql 188 (.int .i64 6)),v 190 187 189,m 191 190,g 191 true (m 192 13),g 191 true (k 193 .eql 192 (.int .i64 2)),v 194 191 193,m 195 194,g 195 true (m 196 17),g 195 true (k 197 .eql 196 (.int .i64 6)),v 198 195 197,m 199 198,g 199 true (m 200 19),g 199 true (k 201 .eql 200 (.int .i64 6)),v 202 199 201,m 203 202,g 203 true (m 204 21),g 203 true (k 205 .eql 204 (.int .i64 70)),v 206 203 205,m 207 206,g 207 true (m 208 23),g 207 true (k 209 .eql 208 (.int .i64 70)),v 210 207 209,m 211 210,g 211 true (L 212 4 14),g 211 true (c 213 23 [212]),g 211 true (k 214 .eql 213 (.int .i64 70)),v 215 211 214,m 0 215],.ret]
def Z5u:List RRes:=[.t 0]
def Z5v:PCt prog 7 f7 Z5t Z5u:=pcT func7 rfl
def Z5w:RCode :=
 S [r 0 [w 0 (.alloc [.nils,.nils,.nils,.nils])],r 1 [w 3 (.call 47 [.c (.int .i64 30),.c I]),w 4 (.call 48 [.c (.int .i64 4),.c (.int .i64 10),.c (.int .i64 3),.t 3]),w 5 (.call 47 [.c (.int .i64 10),.c I]),w 6 (.call 48 [.c (.int .i64 7),.c (.int .i64 10),.c I,.t 5]),w 1 (.alloc [O,O,O,O,O,O,.int .u8 0]),w 2 (.alloc [O,O,O,O,O,O,.int .u8 0]),s 7 1 4,s 7 2 6],r 2 [f 7 6 1,z (.store 1 (.t 7) (.c (.int .u8 1))),f 8 5 2,z (.store 1 (.t 8) (.c (.int .i64 205)))],R 3 [c 9 110 [],w 10 (.bsl false 1 2 [O,O] [(0,.c (.int .i64 10)),(1,.c (.int .i64 30))]),a [1] (w 11 (.build [O,O,O,.nils] [(0,1,.c I),(1,1,.c (.int .i64 6)),(2,1,.c (.int .i64 9)),(3,1,.t 10)])),w 12 (.bsl false 1 1 [O] [(0,.c (.int .i64 30))]),a [3] (w 13 (.build [O,O,O,.nils] [(0,1,.c (.int .i64 2)),(1,1,.c (.int .i64 16)),(2,1,.c (.int .i64 999)),(3,1,.t 12)])),w 14 (.bsl false 1 2 [O,O] [(0,.c (.int .i64 10)),(1,.c (.int .i64 30))]),a [5] (w 15 (.build [O,O,O,.nils] [(0,1,.c (.int .i64 3)),(1,1,.c (.int .i64 418)),(2,1,.c (.int .i64 418)),(3,1,.t 14)])),a [2,4,6] (w 16 (.bsl false 4 3 [O,O,O,.nils,O,O,O,.nils,O,O,O,.nils] [(0,.t 11),(1,.t 13),(2,.t 15)])),a [0] (w 17 (.call 47 [.c (.int .i64 30),.c I])),a [8,8] (w 18 (.call 48 [.c I,.c (.int .i64 10),.c I,.t 17])),a [9] (w 19 (.call 47 [.c (.int .i64 30),.c (.int .i64 2)])),a [10,10] (w 20 (.call 48 [.c (.int .i64 2),.c (.int .i64 120),.c I,.t 19])),a [11] (w 21 (.call 47 [.c (.int .i64 30),.c I])),a [12,12] (w 22 (.call 48 [.c (.int .i64 3),.c (.int .i64 10),.c (.int .i64 2),.t 21])),L 23 7 1,a [13] (w 24 (.call 47 [.c (.int .i64 10),.c I])),a [15,15] (w 25 (.call 48 [.c (.int .i64 5),.c (.int .i64 10),.c (.int .i64 3),.t 24])),a [16] (w 26 (.call 47 [.c (.int .i64 10),.c (.int .i64 2)])),a [17,17] (w 27 (.call 48 [.c (.int .i64 6),.c (.int .i64 210),.c I,.t 26])),L 28 7 2,a [9,11,13,14,16,18,19] (w 29 (.bsl true 7 7 [O,O,O,O,O,O,.int .u8 0,O,O,O,O,O,O,.int .u8 0,O,O,O,O,O,O,.int .u8 0,O,O,O,O,O,O,.int .u8 0,O,O,O,O,O,O,.int .u8 0,O,O,O,O,O,O,.int .u8 0,O,O,O,O,O,O,.int .u8 0] [(0,.t 18),(1,.t 20),(2,.t 22),(3,.t 23),(4,.t 25),(5,.t 27),(6,.t 28)])),a [0,7,20] (w 30 (.build [.nils,.nils,.nils,.nils] [(0,2,.t 9),(2,1,.t 16),(3,1,.t 29)])),a [21,18,0,1,2,3,4,5,6,7,8,9,10,11,12,13,14,15,16,17,18,19,20,21] (s 4 0 30)],.ret]
def Z5x:List RRes:=[.c 0 true 4]
def Z5y:RCode :=
 S [r 0 [w 0 (.alloc [.nils,.nils])],r 1 [w 1 (.build [O,O] [(0,1,.c (.int .i64 20)),(1,1,.c (.int .i64 2))]),w 2 (.build [O,O] [(0,1,.c (.int .i64 30)),(1,1,.c I)]),w 3 (.bsl false 2 2 [O,O,O,O] [(0,.t 1),(1,.t 2)]),w 4 (.build [O,O,.int .u8 0,.nils,.nils] [(0,1,.c (.int .i64 10)),(1,1,.c I),(2,1,.c (.int .u8 1)),(3,1,.t 3)]),w 5 (.build [O,O] [(0,1,.c (.int .i64 20)),(1,1,.c I)]),w 6 (.build [O,O] [(0,1,.c (.int .i64 30)),(1,1,.c (.int .i64 2))]),w 7 (.build [O,O] [(0,1,.c (.int .i64 40)),(1,1,.c (.int .i64 2))]),w 8 (.bsl false 2 3 [O,O,O,O,O,O] [(0,.t 5),(1,.t 6),(2,.t 7)]),w 9 (.build [O,O,.int .u8 0,.nils,.nils] [(0,1,.c (.int .i64 10)),(1,1,.c (.int .i64 2)),(2,1,.c (.int .u8 1)),(3,1,.t 8)]),w 10 (.build [O,O] [(0,1,.c (.int .i64 30)),(1,1,.c (.int .i64 3))]),w 11 (.build [O,O] [(0,1,.c (.int .i64 50)),(1,1,.c I)]),w 12 (.bsl false 2 2 [O,O,O,O] [(0,.t 10),(1,.t 11)]),w 13 (.build [O,O,.int .u8 0,.nils,.nils] [(0,1,.c (.int .i64 20)),(1,1,.c I),(2,1,.c (.int .u8 1)),(3,1,.t 12)]),w 14 (.build [O,O,O] [(0,1,.c (.int .i64 150)),(1,1,.c (.int .i64 100)),(2,1,.c (.int .i64 200))]),w 15 (.bsl false 3 1 [O,O,O] [(0,.t 14)]),w 16 (.build [O,O,.int .u8 0,.nils,.nils] [(0,1,.c (.int .i64 30)),(1,1,.c I),(2,1,.c (.int .u8 2)),(4,1,.t 15)]),w 17 (.build [O,O,O] [(0,1,.c (.int .i64 150)),(1,1,.c (.int .i64 120)),(2,1,.c (.int .i64 200))]),w 18 (.bsl false 3 1 [O,O,O] [(0,.t 17)]),w 19 (.build [O,O,.int .u8 0,.nils,.nils] [(0,1,.c (.int .i64 30)),(1,1,.c (.int .i64 2)),(2,1,.c (.int .u8 2)),(4,1,.t 18)]),w 20 (.build [O,O,.int .u8 0,.nils,.nils] [(0,1,.c (.int .i64 40)),(1,1,.c I),(2,1,.c (.int .u8 2))]),w 21 (.build [O,O,.int .u8 0,.nils,.nils] [(0,1,.c (.int .i64 50)),(1,1,.c I),(2,1,.c (.int .u8 3))]),w 22 (.bsl false 5 7 [O,O,.int .u8 0,.nils,.nils,O,O,.int .u8 0,.nils,.nils,O,O,.int .u8 0,.nils,.nils,O,O,.int .u8 0,.nils,.nils,O,O,.int .u8 0,.nils,.nils,O,O,.int .u8 0,.nils,.nils,O,O,.int .u8 0,.nils,.nils] [(0,.t 4),(1,.t 9),(2,.t 13),(3,.t 16),(4,.t 19),(5,.t 20),(6,.t 21)]),w 23 (.build [.nils] [(0,1,.t 22)]),w 24 (.build [O,O,.int .u8 0,O,O,O,O,O,.bool false,.int .u8 0] [(0,1,.c (.int .i64 101)),(1,1,.c (.int .i64 100)),(2,1,.c (.int .u8 2)),(3,1,.c (.int .i64 30)),(4,1,.c (.int .i64 2)),(5,1,.c (.int .i64 5)),(6,1,.c (.int .i64 999))]),w 25 (.build [O,O,.int .u8 0,O,O,O,O,O,.bool false,.int .u8 0] [(0,1,.c (.int .i64 102)),(1,1,.c (.int .i64 200)),(2,1,.c (.int .u8 1)),(3,1,.c (.int .i64 10)),(4,1,.c (.int .i64 2)),(5,1,.c (.int .i64 8)),(6,1,.c (.int .i64 20))]),w 26 (.build [O,O,.int .u8 0,O,O,O,O,O,.bool false,.int .u8 0] [(0,1,.c (.int .i64 103)),(1,1,.c (.int .i64 300)),(2,1,.c (.int .u8 2)),(5,1,.c (.int .i64 10)),(6,1,.c (.int .i64 12)),(7,1,.c (.int .i64 101))]),w 27 (.build [O,O,.int .u8 0,O,O,O,O,O,.bool false,.int .u8 0] [(0,1,.c (.int .i64 104)),(1,1,.c (.int .i64 400)),(2,1,.c (.int .u8 2)),(3,1,.c (.int .i64 30)),(4,1,.c I),(5,1,.c (.int .i64 15)),(6,1,.c (.int .i64 15))]),w 28 (.bsl true 10 4 [O,O,.int .u8 0,O,O,O,O,O,.bool false,.int .u8 0,O,O,.int .u8 0,O,O,O,O,O,.bool false,.int .u8 0,O,O,.int .u8 0,O,O,O,O,O,.bool false,.int .u8 0,O,O,.int .u8 0,O,O,O,O,O,.bool false,.int .u8 0] [(0,.t 24),(1,.t 25),(2,.t 26),(3,.t 27)]),w 29 (.build [.nils,.nils] [(0,1,.t 23),(1,1,.t 28)]),s 2 0 29],.ret]
def Z5z:List RRes:=[.c 0 true 2]
end
section
open Qq Tryz
def Z5A:RCode :=
 S [r 0 [w 4 (.alloc [O,O])],r 1 [m 5 0,m 6 1,w 7 (.build [O,O] [(0,1,.t 5),(1,1,.t 6)]),s 2 4 7],.ret]
def Z5B:List RRes:=[.c 4 true 2]
def Z5C:PCt prog 47 f47 Z5A Z5B:=pcT func47 rfl
def Z5D:RCode :=
 S [r 0 [b 7 3,w 8 (.alloc [O,O,O,O,O,O,.int .u8 0])],r 1 [m 9 0,m 10 1,m 11 2,L 12 2 7,w 13 (.build [O,O,O,O,O,O,.int .u8 0] [(0,1,.t 9),(1,1,.t 10),(2,1,.t 11),(3,2,.t 12),(5,1,.c (.int .i64 (-1)))]),s 7 8 13],.ret]
def Z5E:List RRes:=[.c 8 true 7]
def Z5F:PCt prog 48 f48 Z5D Z5E:=pcT func48 rfl
def Z5G:RCode :=
 S [r 0 [w 0 (.alloc [.nils,.nils])],r 1 [w 1 (.build [O,O] [(0,1,.c (.int .i64 20)),(1,1,.c (.int .i64 2))]),w 2 (.build [O,O] [(0,1,.c (.int .i64 30)),(1,1,.c I)]),w 3 (.bsl false 2 2 [O,O,O,O] [(0,.t 1),(1,.t 2)]),w 4 (.build [O,O,.int .u8 0,.nils,.nils] [(0,1,.c (.int .i64 10)),(1,1,.c I),(2,1,.c (.int .u8 1)),(3,1,.t 3)]),w 5 (.build [O,O] [(0,1,.c (.int .i64 20)),(1,1,.c I)]),w 6 (.build [O,O] [(0,1,.c (.int .i64 30)),(1,1,.c (.int .i64 2))]),w 7 (.build [O,O] [(0,1,.c (.int .i64 40)),(1,1,.c (.int .i64 2))]),w 8 (.bsl false 2 3 [O,O,O,O,O,O] [(0,.t 5),(1,.t 6),(2,.t 7)]),w 9 (.build [O,O,.int .u8 0,.nils,.nils] [(0,1,.c (.int .i64 10)),(1,1,.c (.int .i64 2)),(2,1,.c (.int .u8 1)),(3,1,.t 8)]),w 10 (.build [O,O] [(0,1,.c (.int .i64 30)),(1,1,.c (.int .i64 3))]),w 11 (.build [O,O] [(0,1,.c (.int .i64 50)),(1,1,.c I)]),w 12 (.bsl false 2 2 [O,O,O,O] [(0,.t 10),(1,.t 11)]),w 13 (.build [O,O,.int .u8 0,.nils,.nils] [(0,1,.c (.int .i64 20)),(1,1,.c I),(2,1,.c (.int .u8 1)),(3,1,.t 12)]),w 14 (.build [O,O,O] [(0,1,.c (.int .i64 150)),(1,1,.c (.int .i64 100)),(2,1,.c (.int .i64 200))]),w 15 (.bsl false 3 1 [O,O,O] [(0,.t 14)]),w 16 (.build [O,O,.int .u8 0,.nils,.nils] [(0,1,.c (.int .i64 30)),(1,1,.c I),(2,1,.c (.int .u8 2)),(4,1,.t 15)]),w 17 (.build [O,O,O] [(0,1,.c (.int .i64 150)),(1,1,.c (.int .i64 120)),(2,1,.c (.int .i64 200))]),w 18 (.bsl false 3 1 [O,O,O] [(0,.t 17)]),w 19 (.build [O,O,.int .u8 0,.nils,.nils] [(0,1,.c (.int .i64 30)),(1,1,.c (.int .i64 2)),(2,1,.c (.int .u8 2)),(4,1,.t 18)]),w 20 (.build [O,O,.int .u8 0,.nils,.nils] [(0,1,.c (.int .i64 40)),(1,1,.c I),(2,1,.c (.int .u8 2))]),w 21 (.build [O,O,.int .u8 0,.nils,.nils] [(0,1,.c (.int .i64 50)),(1,1,.c I),(2,1,.c (.int .u8 3))]),w 22 (.bsl false 5 7 [O,O,.int .u8 0,.nils,.nils,O,O,.int .u8 0,.nils,.nils,O,O,.int .u8 0,.nils,.nils,O,O,.int .u8 0,.nils,.nils,O,O,.int .u8 0,.nils,.nils,O,O,.int .u8 0,.nils,.nils,O,O,.int .u8 0,.nils,.nils] [(0,.t 4),(1,.t 9),(2,.t 13),(3,.t 16),(4,.t 19),(5,.t 20),(6,.t 21)]),w 23 (.build [.nils] [(0,1,.t 22)]),w 24 (.build [O,O,.int .u8 0,O,O,O,O,O,.bool false,.int .u8 0] [(0,1,.c (.int .i64 101)),(1,1,.c (.int .i64 100)),(2,1,.c (.int .u8 2)),(3,1,.c (.int .i64 30)),(4,1,.c (.int .i64 2)),(5,1,.c (.int .i64 5)),(6,1,.c (.int .i64 999))]),w 25 (.build [O,O,.int .u8 0,O,O,O,O,O,.bool false,.int .u8 0] [(0,1,.c (.int .i64 102)),(1,1,.c (.int .i64 200)),(2,1,.c (.int .u8 1)),(3,1,.c (.int .i64 10)),(4,1,.c (.int .i64 2)),(5,1,.c (.int .i64 8)),(6,1,.c (.int .i64 20))]),w 26 (.build [O,O,.int .u8 0,O,O,O,O,O,.bool false,.int .u8 0] [(0,1,.c (.int .i64 103)),(1,1,.c (.int .i64 300)),(2,1,.c (.int .u8 2)),(5,1,.c (.int .i64 10)),(6,1,.c (.int .i64 12)),(7,1,.c (.int .i64 101))]),w 27 (.build [O,O,.int .u8 0,O,O,O,O,O,.bool false,.int .u8 0] [(0,1,.c (.int .i64 104)),(1,1,.c (.int .i64 400)),(2,1,.c (.int .u8 2)),(3,1,.c (.int .i64 30)),(4,1,.c I),(5,1,.c (.int .i64 15)),(6,1,.c (.int .i64 15))]),w 28 (.bsl false 10 4 [O,O,.int .u8 0,O,O,O,O,O,.bool false,.int .u8 0,O,O,.int .u8 0,O,O,O,O,O,.bool false,.int .u8 0,O,O,.int .u8 0,O,O,O,O,O,.bool false,.int .u8 0,O,O,.int .u8 0,O,O,O,O,O,.bool false,.int .u8 0] [(0,.t 24),(1,.t 25),(2,.t 26),(3,.t 27)]),w 29 (.build [.nils,.nils] [(0,1,.t 23),(1,1,.t 28)]),s 2 0 29],.ret]
def Z5H:List RRes:=[.c 0 true 2]
def Z5I:PCt prog 110 f110 Z5G Z5H:=pcT func110 rfl
def Z5J:RCode :=
 S [r 0 [w 0 (.alloc [.nils,.nils,.nils,.nils])],r 1 [w 3 (.call 47 [.c (.int .i64 30),.c I]),w 4 (.call 48 [.c (.int .i64 4),.c (.int .i64 10),.c (.int .i64 3),.t 3]),w 5 (.call 47 [.c (.int .i64 10),.c I]),w 6 (.call 48 [.c (.int .i64 7),.c (.int .i64 10),.c I,.t 5]),w 1 (.alloc [O,O,O,O,O,O,.int .u8 0]),w 2 (.alloc [O,O,O,O,O,O,.int .u8 0]),s 7 1 4,s 7 2 6],r 2 [f 7 6 1,z (.store 1 (.t 7) (.c (.int .u8 1))),f 8 5 2,z (.store 1 (.t 8) (.c (.int .i64 205)))],R 3 [c 9 110 [],w 10 (.bsl false 1 2 [O,O] [(0,.c (.int .i64 10)),(1,.c (.int .i64 30))]),a [1] (w 11 (.build [O,O,O,.nils] [(0,1,.c I),(1,1,.c (.int .i64 6)),(2,1,.c (.int .i64 9)),(3,1,.t 10)])),w 12 (.bsl false 1 1 [O] [(0,.c (.int .i64 30))]),a [3] (w 13 (.build [O,O,O,.nils] [(0,1,.c (.int .i64 2)),(1,1,.c (.int .i64 16)),(2,1,.c (.int .i64 999)),(3,1,.t 12)])),w 14 (.bsl false 1 2 [O,O] [(0,.c (.int .i64 10)),(1,.c (.int .i64 30))]),a [5] (w 15 (.build [O,O,O,.nils] [(0,1,.c (.int .i64 3)),(1,1,.c (.int .i64 418)),(2,1,.c (.int .i64 418)),(3,1,.t 14)])),a [2,4,6] (w 16 (.bsl false 4 3 [O,O,O,.nils,O,O,O,.nils,O,O,O,.nils] [(0,.t 11),(1,.t 13),(2,.t 15)])),a [0] (w 17 (.call 47 [.c (.int .i64 30),.c I])),a [8,8] (w 18 (.call 48 [.c I,.c (.int .i64 10),.c I,.t 17])),a [9] (w 19 (.call 47 [.c (.int .i64 30),.c (.int .i64 2)])),a [10,10] (w 20 (.call 48 [.c (.int .i64 2),.c (.int .i64 120),.c I,.t 19])),a [11] (w 21 (.call 47 [.c (.int .i64 30),.c I])),a [12,12] (w 22 (.call 48 [.c (.int .i64 3),.c (.int .i64 10),.c (.int .i64 2),.t 21])),L 23 7 1,a [13] (w 24 (.call 47 [.c (.int .i64 10),.c I])),a [15,15] (w 25 (.call 48 [.c (.int .i64 5),.c (.int .i64 10),.c (.int .i64 3),.t 24])),a [16] (w 26 (.call 47 [.c (.int .i64 10),.c (.int .i64 2)])),a [17,17] (w 27 (.call 48 [.c (.int .i64 6),.c (.int .i64 210),.c I,.t 26])),L 28 7 2,a [9,11,13,14,16,18,19] (w 29 (.bsl false 7 7 [O,O,O,O,O,O,.int .u8 0,O,O,O,O,O,O,.int .u8 0,O,O,O,O,O,O,.int .u8 0,O,O,O,O,O,O,.int .u8 0,O,O,O,O,O,O,.int .u8 0,O,O,O,O,O,O,.int .u8 0,O,O,O,O,O,O,.int .u8 0] [(0,.t 18),(1,.t 20),(2,.t 22),(3,.t 23),(4,.t 25),(5,.t 27),(6,.t 28)])),a [0,7,20] (w 30 (.build [.nils,.nils,.nils,.nils] [(0,2,.t 9),(2,1,.t 16),(3,1,.t 29)])),a [21,18,0,1,2,3,4,5,6,7,8,9,10,11,12,13,14,15,16,17,18,19,20,21] (s 4 0 30)],.ret]
def Z5K:List RRes:=[.c 0 true 4]
def Z5L:PCt prog 45 f45 Z5J Z5K:=pcT func45 rfl
def Z5M:RCode :=
 S [r 0 [n 6 (.bool false)],r 1 [m 7 1,k 8 .eql 7 O,m 9 8,g 9 true (m 10 0),g 9 true (m 11 2),g 9 true (c 12 25 [10,11]),v 13 9 12,m 6 13],.ret]
def Z5N:List RRes:=[.t 6]
def Z5O:PCt prog 46 f46 Z5M Z5N:=pcT func46 rfl
def Z5P:RCode :=
 S [r 0 [n 8 (.bool false)],r 1 [c 12 45 [],m 13 0,m 14 1,m 15 2,w 16 (.call 31 [.t 12,.c (.int .i64 300),.t 13,.t 14,.t 15]),m 11 16,x 17 0 11,x 18 1 11,m 9 17,m 10 18],r 2 [m 19 10,k 20 .eql 19 O,m 21 20,g 21 true (m 22 9),g 21 true (m 23 3),g 21 true (o 24 .eql 22 23),v 25 21 24,m 8 25],.ret]
def Z5Q:List RRes:=[.t 8]
def Z5R:PCt prog 109 f109 Z5P Z5Q:=pcT func109 rfl
def Z5S:RCode :=
 S [r 0 [n 0 (.bool false)],r 1 [c 26 45 [],w 27 (.call 19 [.t 26,.c (.int .i64 300),.c (.int .i64 3)]),m 25 27,x 28 0 25,x 29 1 25,x 30 2 25,m 1 28,m 2 29,m 3 30],r 2 [c 32 45 [],w 33 (.call 21 [.t 32,.c (.int .i64 300),.c (.int .i64 3),.c (.int .i64 30)]),m 31 33,x 34 0 31,x 35 1 31,m 4 34,m 5 35],r 3 [c 37 45 [],w 38 (.call 27 [.t 37,.c I,.c (.int .i64 10)]),m 36 38,x 39 0 36,x 40 1 36,m 6 39,m 7 40],r 4 [c 42 45 [],w 43 (.call 29 [.t 42,.c (.int .i64 300),.c I]),m 41 43,x 44 0 41,x 45 1 41,m 8 44,m 9 45],r 5 [c 47 45 [],w 48 (.call 34 [.t 47,.c (.int .i64 300)]),m 46 48,x 49 0 46,x 50 1 46,m 10 49,m 11 50],r 6 [c 52 45 [],w 53 (.call 36 [.t 52,.c (.int .i64 300)]),m 51 53,x 54 0 51,x 55 1 51,x 56 2 51,m 12 54,m 13 55,m 14 56],r 7 [c 58 45 [],w 59 (.call 38 [.t 58,.c (.int .i64 300)]),m 57 59,x 60 0 57,x 61 1 57,m 15 60,m 16 61],r 8 [c 63 45 [],w 64 (.bsl false 1 1 [O] [(0,.c I)]),w 65 (.call 40 [.t 63,.c (.int .i64 300),.t 64,.c .nils]),m 62 65,x 66 0 62,x 67 1 62,w 17 (.alloc [.nils,.nils,.nils,.nils]),s 4 17 66,m 18 67],r 9 [L 69 4 17,w 70 (.call 34 [.t 69,.c (.int .i64 300)]),m 68 70,x 71 0 68,x 72 1 68,m 19 71,m 20 72],r 10 [c 74 45 [],w 75 (.call 47 [.c (.int .i64 10),.c I]),w 76 (.call 48 [.c (.int .i64 8),.c (.int .i64 300),.c I,.t 75]),c 77 42 [74,76],m 73 77,x 78 0 73,x 79 1 73,w 21 (.alloc [.nils,.nils,.nils,.nils]),s 4 21 78,m 22 79],r 11 [L 81 4 21,w 82 (.call 29 [.t 81,.c (.int .i64 300),.c I]),m 80 82,x 83 0 80,x 84 1 80,m 23 83,m 24 84],S [r 12 [m 85 1,m 86 3,w 87 (.bsl false 1 1 [O] [(0,.c (.int .i64 5))]),c 88 46 [85,86,87],t 89 88,m 90 89,g 90 false (m 91 2),g 90 false (m 92 3),g 90 false (w 93 (.bsl false 1 1 [O] [(0,.c (.int .i64 4))])),g 90 false (c 94 46 [91,92,93]),g 90 false (t 95 94),u 96 90 95,m 97 96,g 97 false (m 98 4),g 97 false (m 99 5),g 97 false (w 100 (.bsl false 1 2 [O,O] [(0,.c O),(1,.c I)])),g 97 false (c 101 46 [98,99,100]),g 97 false (t 102 101),u 103 97 102,m 104 103,g 104 false (m 105 6),g 104 false (m 106 7),g 104 false (w 107 (.bsl false 1 2 [O,O] [(0,.c I),(1,.c (.int .i64 2))])),g 104 false (c 108 46 [105,106,107]),g 104 false (t 109 108),u 110 104 109,m 111 110,g 111 false (m 112 9),g 111 false (k 113 .neq 112 O),u 114 111 113,m 115 114,g 115 false (m 116 8),g 115 false (w 117 (.call 47 [.c (.int .i64 10),.c I])),g 115 false (w 118 (.bsl false 2 1 [O,O] [(0,.t 117)])),g 115 false (c 119 33 [116,118]),g 115 false (t 120 119),u 121 115 120,m 122 121,g 122 false (m 123 10),g 122 false (m 124 11),g 122 false (w 125 (.bsl false 1 3 [O,O,O] [(0,.c I),(1,.c (.int .i64 3)),(2,.c (.int .i64 4))])),g 122 false (c 126 46 [123,124,125]),g 122 false (t 127 126),u 128 122 127,m 129 128,g 129 false (m 130 12),g 129 false (m 131 14),g 129 false (w 132 (.call 46 [.t 130,.t 131,.c .nils])),g 129 false (t 133 132),u 134 129 133,m 135 134,g 135 false (m 136 13),g 135 false (m 137 14),g 135 false (w 138 (.bsl false 1 1 [O] [(0,.c (.int .i64 30))])),g 135 false (c 139 46 [136,137,138]),g 135 false (t 140 139),u 141 135 140,m 142 141,g 142 false (m 143 15),g 142 false (m 144 16),g 142 false (w 145 (.bsl false 1 1 [O] [(0,.c I)])),g 142 false (c 146 46 [143,144,145]),g 142 false (t 147 146),u 148 142 147,m 149 148,g 149 false (m 150 18),g 149 false (k 151 .neq 150 O),u 152 149 151,m 153 152,g 153 false (m 154 19),g 153 false (m 155 20),g 153 false (w 156 (.bsl false 1 2 [O,O] [(0,.c (.int .i64 3)),(1,.c (.int .i64 4))])),g 153 false (c 157 46 [154,155,156]),g 153 false (t 158 157),u 159 153 158],K 159 13 [n 0 (.bool false)]],r 14 [m 160 22,k 161 .eql 160 O,m 162 161,g 162 true (m 163 24),g 162 true (k 164 .eql 163 O),v 165 162 164,m 166 165,g 166 true (m 167 23),g 166 true (e 168 167),g 166 true (k 169 .eql 168 O),v 170 166 169,m 171 170,g 171 true (w 172 (.call 109 [.c (.int .i64 2),.c (.int .i64 30),.c (.int .i64 418),.c (.int .u8 2)])),v 173 171 172,m 174 173,g 174 true (w 175 (.call 109 [.c I,.c (.int .i64 10),.c (.int .i64 9),.c (.int .u8 1)])),v 176 174 175,m 177 176,g 177 true (w 178 (.call 109 [.c I,.c (.int .i64 30),.c (.int .i64 6),.c (.int .u8 0)])),v 179 177 178,m 0 179],.ret]
def Z5T:List RRes:=[.t 0]
def Z5U:PCt prog 44 f44 Z5S Z5T:=pcT func44 rfl
end
section
open Qq Tryz
noncomputable def Z5V:RCode :=
 S [r 0 [b 1 0,n 2 .nilp,n 3 O],.scope (S [r 1 [L 16 1 1,w 17 (.build [.nils,.nils] [(0,1,.t 16)]),b 18 17,w 4 (.alloc [.nilp]),s 1 4 18],S [r 2 [f 19 0 1,l 20 19,e 21 20,w 22 (.bsl false 1 1 [O] [(0,.t 21)]),w 23 (.call 194 [.c I,.c (.int .i64 60),.t 22]),t 24 23],K 24 3 [n 2 .nilp,n 3 (.int .i64 20)]],(.label 0),S [r 4 [f 25 0 1,l 26 25,e 27 26,n 28 O],.block 0 (.loop (S [r 5 [o 29 .lss 28 27],.cond (.t 29) .skip (.exit 0),.block 1 (S [r 6 [m 30 28,i 31 5 26 28,L 32 5 31,w 6 (.alloc [O,O,.int .u8 0,.nils,.nils]),m 5 30,s 5 6 32],S [r 7 [w 33 (.load true 4 (.g 2)),n 34 O],.block 2 (.loop (S [r 8 [k 35 .lss 34 (.int .i64 4)],.cond (.t 35) .skip (.exit 2),.block 3 (S [r 9 [w 36 (.vop (.aidx true 4 1) [(.t 33),(.t 34)]),w 8 (.alloc [.nilf]),s 1 8 36],r 10 [f 37 0 8,l 38 37,L 39 5 6,w 40 (.callv (.t 38) [.t 39]),t 41 40],K 41 11 [n 2 .nilp,n 3 (.int .i64 20)]]),r 12 [k 42 .add 34 I,m 34 42]]))],S [r 13 [m 43 5,k 44 .gtr 43 O],.cond (.t 44) (S [r 14 [f 45 0 1,l 46 45,m 47 5,k 48 .sub 47 I,i 49 5 46 48,L 50 5 49,w 9 (.alloc [O,O,.int .u8 0,.nils,.nils]),s 5 9 50],r 15 [f 51 0 9,l 52 51,f 53 0 6,l 54 53,o 55 .eql 52 54],.cond (.t 55) (S [S [r 16 [f 56 1 9,l 57 56,k 58 .add 57 I,f 59 1 6,l 60 59,o 61 .neq 58 60,m 62 61,g 62 false (f 63 2 9),g 62 false (l 64 63),g 62 false (f 65 2 6),g 62 false (l 66 65),g 62 false (o 67 .neq 64 66),u 68 62 67],K 68 17 [n 2 .nilp,n 3 (.int .i64 20)]],.exit 1]) (S [r 18 [f 69 0 9,l 70 69,f 71 0 6,l 72 71,o 73 .gtr 70 72],K 73 19 [n 2 .nilp,n 3 (.int .i64 20)]])]) .skip],S [r 20 [f 74 1 6,l 75 74,k 76 .neq 75 I],K 76 21 [n 2 .nilp,n 3 (.int .i64 20)]],R 22 [l 77 4,l 78 4,a [1] (w 79 (.nilck (.t 78))),a [2] (f 80 1 79),a [3] (l 81 80),f 82 0 6,a [5] (l 83 82),a [6] (w 84 (.bsl false 1 1 [O] [(0,.t 83)])),a [4,7] (w 85 (.app 1 8 (.t 81) (.t 84))),a [0,0,1,2,3,4,5,6,7,8] (w 86 (.nilck (.t 77))),a [9,0,1,2,3,4,5,6,7,8] (f 87 1 86),a [10,8,8,0,1,2,3,4,5,6,7,8] (s 1 87 85)]]),r 23 [k 88 .add 28 I,m 28 88]]))],S [r 24 [l 89 4,w 90 (.nilck (.t 89)),f 91 1 90,l 92 91,e 93 92,k 94 .gtr 93 (.int .i64 20)],K 94 25 [n 2 .nilp,n 3 (.int .i64 20)]],S [r 26 [f 95 0 1,l 96 95,e 97 96,n 98 O],.block 4 (.loop (S [r 27 [o 99 .lss 98 97],.cond (.t 99) .skip (.exit 4),.block 5 (S [r 28 [i 100 5 96 98,L 101 5 100,w 11 (.alloc [O,O,.int .u8 0,.nils,.nils]),s 5 11 101],r 29 [f 102 3 11,l 103 102,w 104 (.mkf (.func 196) [] [.t 4]),c 105 195 [103,104]],K 105 30 [n 2 .nilp,n 3 (.int .i64 20)]]),r 31 [k 106 .add 98 I,m 98 106]]))],r 32 [l 108 4,c 109 198 [108],m 107 109,x 110 0 107,x 111 1 107,m 12 110,m 13 111],S [r 33 [m 112 13],K 112 34 [n 2 .nilp,n 3 (.int .i64 21)]],(.raw (opnR prog)),r 40 [l 121 4,m 2 121,n 3 O],.ret])]
def Z5W:List RRes:=[.t 2,.t 3]
def Z5X:PCt prog 168 f168 Z5V Z5W:=pcT func168 rfl
end
section
open Qq Tryz
def Z5Y:RCode :=
 S [r 0 [b 3 0,b 4 1,n 6 (.bool false)],r 1 [m 7 2,w 8 (.mkf (.func 269) [] [.t 3,.t 4]),c 9 85 [7,8],t 10 9,m 6 10],.ret]
def Z5Z:List RRes:=[.t 6]
def Z60:PCt prog 268 f268 Z5Y Z5Z:=pcT func268 rfl
def Z61:RCode :=
 S [r 0 [n 4 (.bool false)],r 1 [m 5 0,l 6 1,o 7 .lss 5 6,m 8 7,g 8 false (m 9 0),g 8 false (l 10 2),g 8 false (o 11 .gtr 9 10),u 12 8 11,m 4 12],.ret]
def Z62:List RRes:=[.t 4]
def Z63:PCt prog 269 f269 Z61 Z62:=pcT func269 rfl
def Z64:RCode :=
 S [r 0 [n 4 (.bool false)],r 1 [m 5 0,m 6 1,c 7 142 [5,6],k 8 .geq 7 O,m 4 8],.ret]
def Z65:List RRes:=[.t 4]
def Z66:PCt prog 85 f85 Z64 Z65:=pcT func85 rfl
def Z67:RCode :=
 S [r 0 [n 4 O],S [r 1 [m 6 0,e 7 6,n 8 O],.block 0 (.loop (S [r 2 [o 9 .lss 8 7],.cond (.t 9) .skip (.exit 0),.block 1 (S [r 3 [m 10 8,m 5 10],r 4 [m 11 1,m 12 0,m 13 5,i 14 1 12 13,l 15 14,w 16 (.callv (.t 11) [.t 15])],K 16 5 [m 17 5,m 4 17]]),r 6 [k 18 .add 8 I,m 8 18]]))],r 7 [n 4 (.int .i64 (-1))],.ret]
def Z68:List RRes:=[.t 4]
def Z69:PCt prog 142 f142 Z67 Z68:=pcT func142 rfl
def Z6a:RCode :=
 S [r 0 [b 1 0,n 2 O],S [r 1 [f 3 0 1,l 4 3,f 5 1 1,l 6 5,f 7 2 1,l 8 7,w 9 (.bsl false 1 3 [O,O,O] [(0,.t 4),(1,.t 6),(2,.t 8)]),w 10 (.call 268 [.c O,.c (.int .i64 1000000000),.t 9]),t 11 10,m 12 11,g 12 false (f 13 1 1),g 12 false (l 14 13),g 12 false (f 15 2 1),g 12 false (l 16 15),g 12 false (o 17 .gtr 14 16),u 18 12 17],K 18 2 [n 2 (.int .i64 10)]],r 3 [n 2 O],.ret]
def Z6b:List RRes:=[.t 2]
def Z6c:PCt prog 266 f266 Z6a Z6b:=pcT func266 rfl
def Z6d:RCode :=
 S [r 0 [b 3 0,b 4 1,n 6 (.bool false)],r 1 [m 7 2,w 8 (.mkf (.func 208) [] [.t 3,.t 4]),c 9 85 [7,8],t 10 9,m 6 10],.ret]
def Z6e:List RRes:=[.t 6]
def Z6f:PCt prog 194 f194 Z6d Z6e:=pcT func194 rfl
def Z6g:RCode :=
 S [r 0 [n 4 (.bool false)],r 1 [m 5 0,l 6 1,o 7 .lss 5 6,m 8 7,g 8 false (m 9 0),g 8 false (l 10 2),g 8 false (o 11 .gtr 9 10),u 12 8 11,m 4 12],.ret]
def Z6h:List RRes:=[.t 4]
def Z6i:PCt prog 208 f208 Z6g Z6h:=pcT func208 rfl
def Z6j:RCode :=
 S [r 0 [b 1 0,w 2 (.alloc [O,O])],r 1 [f 3 0 1,l 4 3,f 5 1 1,l 6 5,w 7 (.build [O,O] [(0,1,.t 4),(1,1,.t 6)]),s 2 2 7],.ret]
def Z6k:List RRes:=[.c 2 true 2]
def Z6l:PCt prog 251 f251 Z6j Z6k:=pcT func251 rfl
def Z6m:RCode :=
 S [r 0 [b 1 0,n 2 (.bool false)],r 1 [f 3 0 1,l 4 3,w 5 (.bsl false 1 1 [O] [(0,.t 4)]),w 6 (.call 194 [.c I,.c (.int .i64 9999),.t 5]),m 7 6,g 7 true (f 8 1 1),g 7 true (l 9 8),g 7 true (w 10 (.bsl false 1 1 [O] [(0,.t 9)])),g 7 true (w 11 (.call 194 [.c I,.c (.int .i64 8),.t 10])),v 12 7 11,m 2 12],.ret]
def Z6n:List RRes:=[.t 2]
def Z6o:PCt prog 260 f260 Z6m Z6n:=pcT func260 rfl
def Z6p:RCode :=
 S [r 0 [b 1 0,n 2 (.bool false)],S [r 1 [f 3 2 1,l 4 3,k 5 .eql 4 (.int .u8 1)],K 5 2 [f 6 3 1,l 7 6,e 8 7,w 9 (.bsl false 1 1 [O] [(0,.t 8)]),w 10 (.call 194 [.c I,.c (.int .i64 8),.t 9]),m 11 10,g 11 true (f 12 4 1),g 11 true (l 13 12),g 11 true (e 14 13),g 11 true (k 15 .eql 14 O),v 16 11 15,m 2 16]],r 3 [f 17 2 1,l 18 17,w 19 (.conv .i64 (.t 18)),w 20 (.bsl false 1 1 [O] [(0,.t 19)]),w 21 (.call 194 [.c (.int .i64 2),.c (.int .i64 3),.t 20]),m 22 21,g 22 true (f 23 4 1),g 22 true (l 24 23),g 22 true (e 25 24),g 22 true (k 26 .leq 25 (.int .i64 4)),v 27 22 26,m 28 27,g 28 true (f 29 3 1),g 28 true (l 30 29),g 28 true (e 31 30),g 28 true (k 32 .eql 31 O),v 33 28 32,m 2 33],.ret]
def Z6q:List RRes:=[.t 2]
def Z6r:PCt prog 261 f261 Z6p Z6q:=pcT func261 rfl
def Z6s:RCode :=
 S [r 0 [b 1 0,n 2 (.bool false)],S [r 1 [f 5 3 1,l 6 5,e 7 6,n 8 O],.block 0 (.loop (S [r 2 [o 9 .lss 8 7],.cond (.t 9) .skip (.exit 0),.block 1 (S [r 3 [m 10 8,i 11 2 6 8,L 12 2 11,w 4 (.alloc [O,O]),m 3 10,s 2 4 12],R 4 [f 13 0 4,a [0] (l 14 13),a [1] (w 15 (.bsl false 1 1 [O] [(0,.t 14)])),a [2] (w 16 (.call 194 [.c I,.c (.int .i64 9999),.t 15])),a [3] (t 17 16),a [4,3] (m 18 17),a [5] (g 18 false (f 19 1 4)),a [6,5] (g 18 false (l 20 19)),a [7,5] (g 18 false (w 21 (.bsl false 1 1 [O] [(0,.t 20)]))),a [8,5,5] (g 18 false (w 22 (.call 194 [.c I,.c (.int .i64 20),.t 21]))),a [9,5] (g 18 false (t 23 22)),a [5,10] (u 24 18 23),a [11,9] (m 25 24),a [12] (g 25 false (f 26 0 4)),a [13,12] (g 25 false (l 27 26)),a [12] (g 25 false (f 28 0 1)),a [15,12] (g 25 false (l 29 28)),a [14,16,12] (g 25 false (o 30 .eql 27 29)),a [12,17] (u 31 25 30),a [18,12] (m 32 31),a [19] (g 32 false (m 33 3)),a [20,19] (g 32 false (k 34 .gtr 33 O)),a [21,19,19] (g 32 false (m 35 34)),a [22] (g 35 true (f 36 3 1)),a [23,22] (g 35 true (l 37 36)),a [22] (g 35 true (m 38 3)),a [25,22] (g 35 true (k 39 .sub 38 I)),a [24,26,22] (g 35 true (i 40 2 37 39)),a [27,22] (g 35 true (f 41 0 40)),a [28,22] (g 35 true (l 42 41)),a [22] (g 35 true (f 43 0 4)),a [30,22] (g 35 true (l 44 43)),a [29,31,22] (g 35 true (o 45 .geq 42 44)),a [22,32,19] (g 32 false (v 46 35 45)),a [19,33] (u 47 32 46)],K 47 5 [n 2 (.bool false)]]),r 6 [k 48 .add 8 I,m 8 48]]))],r 7 [n 2 (.bool true)],.ret]
def Z6t:List RRes:=[.t 2]
def Z6u:PCt prog 262 f262 Z6s Z6t:=pcT func262 rfl
def Z6v:RCode :=
 S [r 0 [b 1 0,n 2 (.bool false)],r 1 [f 3 4 1,l 4 3,w 5 (.call 264 [.t 4,.c (.func (.func 265) [] [])]),t 6 5,m 2 6],.ret]
def Z6w:List RRes:=[.t 2]
def Z6x:PCt prog 263 f263 Z6v Z6w:=pcT func263 rfl
def Z6y:RCode :=
 S [r 0 [b 1 0,n 2 (.bool false)],r 1 [L 3 3 1,c 4 266 [3],k 5 .neq 4 O,m 2 5],.ret]
def Z6z:List RRes:=[.t 2]
def Z6A:PCt prog 265 f265 Z6y Z6z:=pcT func265 rfl
def Z6B:RCode :=
 S [r 0 [n 4 (.bool false)],r 1 [m 5 0,m 6 1,c 7 267 [5,6],k 8 .geq 7 O,m 4 8],.ret]
def Z6C:List RRes:=[.t 4]
def Z6D:PCt prog 264 f264 Z6B Z6C:=pcT func264 rfl
def Z6E:RCode :=
 S [r 0 [n 4 O],S [r 1 [m 6 0,e 7 6,n 8 O],.block 0 (.loop (S [r 2 [o 9 .lss 8 7],.cond (.t 9) .skip (.exit 0),.block 1 (S [r 3 [m 10 8,m 5 10],r 4 [m 11 1,m 12 0,m 13 5,i 14 3 12 13,L 15 3 14,w 16 (.callv (.t 11) [.t 15])],K 16 5 [m 17 5,m 4 17]]),r 6 [k 18 .add 8 I,m 8 18]]))],r 7 [n 4 (.int .i64 (-1))],.ret]
def Z6F:List RRes:=[.t 4]
def Z6G:PCt prog 267 f267 Z6E Z6F:=pcT func267 rfl
def Z6H:RCode :=
 S [r 0 [n 4 (.bool false)],r 1 [m 5 0,m 6 1,c 7 209 [5,6],k 8 .geq 7 O,m 4 8],.ret]
def Z6I:List RRes:=[.t 4]
def Z6J:PCt prog 195 f195 Z6H Z6I:=pcT func195 rfl
def Z6K:RCode :=
 S [r 0 [n 4 O],S [r 1 [m 6 0,e 7 6,n 8 O],.block 0 (.loop (S [r 2 [o 9 .lss 8 7],.cond (.t 9) .skip (.exit 0),.block 1 (S [r 3 [m 10 8,m 5 10],r 4 [m 11 1,m 12 0,m 13 5,i 14 2 12 13,L 15 2 14,w 16 (.callv (.t 11) [.t 15])],K 16 5 [m 17 5,m 4 17]]),r 6 [k 18 .add 8 I,m 8 18]]))],r 7 [n 4 (.int .i64 (-1))],.ret]
def Z6L:List RRes:=[.t 4]
def Z6M:PCt prog 209 f209 Z6K Z6L:=pcT func209 rfl
def Z6N:RCode :=
 S [r 0 [b 2 0,n 3 (.bool false)],r 1 [l 4 1,f 5 0 2,l 6 5,c 7 197 [4,6],t 8 7,m 3 8],.ret]
def Z6O:List RRes:=[.t 3]
def Z6P:PCt prog 196 f196 Z6N Z6O:=pcT func196 rfl
def Z6Q:RCode :=
 S [r 0 [n 4 (.bool false)],r 1 [m 8 0,w 9 (.nilck (.t 8)),f 10 1 9,l 11 10,m 12 1,c 13 210 [11,12],m 7 13,x 14 0 7,x 15 1 7,m 5 14,m 6 15],r 2 [m 16 6,m 4 16],.ret]
def Z6R:List RRes:=[.t 4]
def Z6S:PCt prog 197 f197 Z6Q Z6R:=pcT func197 rfl
def Z6T:RCode :=
 S [r 0 [n 4 O,n 5 (.bool false)],r 1 [m 10 0,e 11 10,m 6 11],r 2 [m 12 6,n 7 O,m 8 12],.block 0 (.loop (S [S [r 3 [m 13 7,m 14 8,o 15 .lss 13 14],.cond (.t 15) .skip (.exit 0)],.block 1 (S [r 4 [m 16 7,m 17 8,o 18 .add 16 17,w 19 (.conv .u64 (.t 18)),w 20 (.vop (.sh false) [(.t 19),(.c (.int .u64 1))]),w 21 (.conv .i64 (.t 20)),m 9 21],r 5 [m 22 0,m 23 9,i 24 1 22 23,l 25 24,m 26 1,c 27 189 [25,26]],.cond (.t 27) (r 6 [m 28 9,k 29 .add 28 I,m 7 29]) (r 7 [m 30 9,m 8 30])])])),r 8 [m 31 7,m 32 7,m 33 6,o 34 .lss 32 33,m 35 34,g 35 true (m 36 0),g 35 true (m 37 7),g 35 true (i 38 1 36 37),g 35 true (l 39 38),g 35 true (m 40 1),g 35 true (o 41 .eql 39 40),g 35 true (m 42 41),g 42 false (m 43 0),g 42 false (m 44 7),g 42 false (i 45 1 43 44),g 42 false (l 46 45),g 42 false (c 47 214 [46]),g 42 false (m 48 47),g 48 true (m 49 1),g 48 true (c 50 214 [49]),g 42 false (v 51 48 50),g 35 true (u 52 42 51),v 53 35 52,m 4 31,m 5 53],.ret]
def Z6U:List RRes:=[.t 4,.t 5]
def Z6V:PCt prog 210 f210 Z6T Z6U:=pcT func210 rfl
def Z6W:RCode :=
 S [r 0 [n 4 (.bool false)],r 1 [m 5 0,c 6 157 [5],m 7 6,g 7 true (m 8 1),g 7 true (c 9 157 [8]),g 7 true (t 10 9),v 11 7 10,m 12 11,g 12 false (m 13 0),g 12 false (m 14 1),g 12 false (o 15 .lss 13 14),u 16 12 15,m 4 16],.ret]
def Z6X:List RRes:=[.t 4]
def Z6Y:PCt prog 189 f189 Z6W Z6X:=pcT func189 rfl
def Z6Z:RCode :=
 S [r 0 [n 2 (.bool false)],r 1 [m 3 0,m 4 0,o 5 .neq 3 4,m 2 5],.ret]
def Z70:List RRes:=[.t 2]
def Z71:PCt prog 157 f157 Z6Z Z70:=pcT func157 rfl
def Z72:RCode :=
 S [r 0 [n 2 (.bool false)],r 1 [m 3 0,m 4 0,o 5 .neq 3 4,m 2 5],.ret]
def Z73:List RRes:=[.t 2]
def Z74:PCt prog 214 f214 Z72 Z73:=pcT func214 rfl
def Z75:RCode :=
 S [r 0 [n 4 O],r 1 [m 7 0,c 8 157 [7],m 5 8],r 2 [m 9 1,c 10 157 [9],m 6 10],S [r 3 [m 11 5],.cond (.t 11) (S [S [r 4 [m 12 6],K 12 5 [n 4 O]],r 6 [n 4 (.int .i64 (-1))],.ret]) .skip],S [r 7 [m 13 6],K 13 8 [n 4 I]],S [r 9 [m 14 0,m 15 1,o 16 .lss 14 15],K 16 10 [n 4 (.int .i64 (-1))]],S [r 11 [m 17 0,m 18 1,o 19 .gtr 17 18],K 19 12 [n 4 I]],r 13 [n 4 O],.ret]
def Z76:List RRes:=[.t 4]
def Z77:PCt prog 107 f107 Z75 Z76:=pcT func107 rfl
def Z78:RCode :=
 S [r 0 [n 6 O,n 7 (.bool false)],r 1 [m 12 0,e 13 12,m 8 13],r 2 [m 14 8,n 9 O,m 10 14],.block 0 (.loop (S [S [r 3 [m 15 9,m 16 10,o 17 .lss 15 16],.cond (.t 17) .skip (.exit 0)],.block 1 (S [r 4 [m 18 9,m 19 10,o 20 .add 18 19,w 21 (.conv .u64 (.t 20)),w 22 (.vop (.sh false) [(.t 21),(.c (.int .u64 1))]),w 23 (.conv .i64 (.t 22)),m 11 23],r 5 [m 24 2,m 25 0,m 26 11,i 27 5 25 26,L 28 5 27,m 29 1,w 30 (.callv (.t 24) [.t 28,.t 29]),k 31 .lss 30 O],.cond (.t 31) (r 6 [m 32 11,k 33 .add 32 I,m 9 33]) (r 7 [m 34 11,m 10 34])])])),r 8 [m 35 9,m 36 9,m 37 8,o 38 .lss 36 37,m 39 38,g 39 true (m 40 2),g 39 true (m 41 0),g 39 true (m 42 9),g 39 true (i 43 5 41 42),g 39 true (L 44 5 43),g 39 true (m 45 1),g 39 true (w 46 (.callv (.t 40) [.t 44,.t 45])),g 39 true (k 47 .eql 46 O),v 48 39 47,m 6 35,m 7 48],.ret]
def Z79:List RRes:=[.t 6,.t 7]
def Z7a:PCt prog 216 f216 Z78 Z79:=pcT func216 rfl
def Z7b:RCode :=
 S [r 0 [b 2 0,b 3 1,n 4 .nilf],r 1 [w 5 (.mkf (.func 215) [] [.t 2,.t 3]),m 4 5],.ret]
def Z7c:List RRes:=[.t 4]
def Z7d:PCt prog 211 f211 Z7b Z7c:=pcT func211 rfl
def Z7e:RCode :=
 S [r 0 [b 2 0,n 4 O],r 1 [f 5 0 2,l 6 5,m 7 1,c 8 107 [6,7],m 4 8],.ret]
def Z7f:List RRes:=[.t 4]
def Z7g:PCt prog 217 f217 Z7e Z7f:=pcT func217 rfl
def Z7h:RCode :=
 S [r 0 [b 3 1,w 4 (.alloc [O,O,.int .u8 0,.nils,.nils]),w 5 (.alloc [.bool false])],S [r 1 [m 7 0,f 8 0 3,l 9 8,c 10 211 [7,9]],.block 0 (.rngf (.t 10) [11] (r 2 [w 6 (.alloc [O,O,.int .u8 0,.nils,.nils]),s 5 6 11]) (.block 1 (S [R 3 [L 12 5 6,a [0] (c 13 251 [12]),L 14 2 3,a [1,2] (w 15 (.eqs false [.i,.i] (.t 13) (.t 14)))],K 15 4 [L 16 5 6,s 5 4 16,z (.store 1 (.t 5) (.c (.bool true)))]])))],r 5 [w 17 (.build [O,O,.int .u8 0,.nils,.nils] []),s 5 4 17,z (.store 1 (.t 5) (.c (.bool false)))],.ret]
def Z7i:List RRes:=[.c 4 true 5,.c 5 false 1]
def Z7j:PCt prog 249 f249 Z7h Z7i:=pcT func249 rfl
def Z7k:RCode :=
 S [r 0 [n 2 .nilm,n 3 (.bool false)],r 1 [w 15 (.mkmap),w 4 (.alloc [.nilm]),s 1 4 15],r 2 [w 16 (.mkmap),w 5 (.alloc [.nilm]),s 1 5 16],S [r 3 [m 17 0,w 18 (.nilck (.t 17)),f 19 1 18,l 20 19,e 21 20,n 22 O],.block 0 (.loop (S [r 4 [o 23 .lss 22 21],.cond (.t 23) .skip (.exit 0),.block 1 (S [r 5 [i 24 1 20 22,l 25 24,m 7 25],r 6 [l 26 5,m 27 7,z (.mupd (.i .i64) (.t 26) (.t 27) (.c (.bool true)))]]),r 7 [k 28 .add 22 I,m 22 28]]))],S [r 8 [m 29 0,w 30 (.nilck (.t 29)),f 31 1 30,l 32 31,e 33 32,n 34 O],.block 2 (.loop (S [r 9 [o 35 .lss 34 33],.cond (.t 35) .skip (.exit 2),.block 3 (S [r 10 [m 36 0,w 37 (.nilck (.t 36)),f 38 1 37,l 39 38,e 40 39,n 41 O],.block 4 (.loop (S [r 11 [o 42 .lss 41 40],.cond (.t 42) .skip (.exit 4),.block 5 (S [r 12 [i 43 1 39 41,l 44 43,m 9 44],R 13 [l 45 5,m 46 9,a [0,1] (w 47 (.look (.i .i64) (.bool false) false (.t 45) (.t 46))),w 10 (.alloc [O]),w 11 (.alloc [.bool false]),a [3,3,4] (z (.store 1 (.t 10) (.c O))),a [4,2,5,0,1,2,3,4,5] (s 1 11 47)],S [r 14 [m 48 0,m 49 9,c 50 211 [48,49]],.block 6 (.rngf (.t 50) [51] (r 15 [w 12 (.alloc [O,O,.int .u8 0,.nils,.nils]),s 5 12 51]) (.block 7 (S [r 16 [f 52 3 12,l 53 52,e 54 53,n 55 O],.block 8 (.loop (S [r 17 [o 56 .lss 55 54],.cond (.t 56) .skip (.exit 8),.block 9 (S [r 18 [i 57 2 53 55,L 58 2 57,w 14 (.alloc [O,O]),s 2 14 58],r 19 [l 59 11,m 60 59,g 60 true (l 61 5),g 60 true (f 62 0 14),g 60 true (l 63 62),g 60 true (w 64 (.look (.i .i64) (.bool false) false (.t 61) (.t 63))),g 60 true (t 65 64),v 66 60 65,s 1 11 66],r 20 [l 67 10,l 68 4,f 69 0 14,l 70 69,w 71 (.look (.i .i64) O false (.t 68) (.t 70)),w 72 (.mx true (.t 67) [.t 71]),s 1 10 72]]),r 21 [k 73 .add 55 I,m 55 73]]))])))],r 22 [l 74 11],.cond (.t 74) (S [r 23 [l 75 4,m 76 9,l 77 10,k 78 .add 77 I,z (.mupd (.i .i64) (.t 75) (.t 76) (.t 78))],r 24 [l 79 5,m 80 9,z (.mdel (.i .i64) (.t 79) (.t 80))]]) .skip]),r 25 [k 81 .add 41 I,m 41 81]]))]),r 26 [k 82 .add 34 I,m 34 82]]))],r 27 [l 83 4,l 84 5,w 85 (.mlen (.t 84)),k 86 .gtr 85 O,m 2 83,m 3 86],.ret]
def Z7l:List RRes:=[.t 2,.t 3]
def Z7m:PCt prog 198 f198 Z7k Z7l:=pcT func198 rfl
def Z7n:RCode :=
 S [r 0 [b 1 0,w 2 (.alloc [O,O,.int .u8 0,.nils,.nils])],R 1 [f 3 3 1,a [0] (l 4 3),a [1] (w 5 (.calln 121 [.t 4])),f 6 4 1,a [3] (l 7 6),a [4,2] (w 8 (.calln 122 [.t 7])),a [0,1,2,3,4] (f 9 3 1),a [6,2,5,0,1,2,3,4] (s 1 9 5),a [0,1,2,3,4,5,6,7] (f 10 4 1),a [8,5,7,0,1,2,3,4,5,6,7] (s 1 10 8)],r 2 [L 11 5 1,s 5 2 11],.ret]
def Z7o:List RRes:=[.c 2 true 5]
def Z7p:PCt prog 250 f250 Z7n Z7o:=pcT func250 rfl
def Z7q:RCode :=
 S [r 0 [n 2 .nils],S [r 1 [m 3 0,w 4 (.vop (.eqn false) [(.t 3),(.c .nils)])],K 4 2 [n 2 .nils]],r 3 [w 5 (.bsl true 2 0 [] []),m 6 0,w 7 (.app 2 16 (.t 5) (.t 6)),m 2 7],.ret]
def Z7r:List RRes:=[.t 2]
def Z7s:PCt prog 121 f121 Z7q Z7r:=pcT func121 rfl
def Z7t:RCode :=
 S [r 0 [n 2 .nils],S [r 1 [m 3 0,w 4 (.vop (.eqn false) [(.t 3),(.c .nils)])],K 4 2 [n 2 .nils]],r 3 [w 5 (.bsl true 3 0 [] []),m 6 0,w 7 (.app 3 24 (.t 5) (.t 6)),m 2 7],.ret]
def Z7u:List RRes:=[.t 2]
def Z7v:PCt prog 122 f122 Z7t Z7u:=pcT func122 rfl
def Z7w:RCode :=
 S [r 0 [b 1 0,n 2 .nils,n 3 O],r 1 [L 7 1 1,c 8 168 [7],m 6 8,x 9 0 6,x 10 1 6,m 4 9,m 5 10],S [r 2 [m 11 5,k 12 .neq 11 O],K 12 3 [m 13 5,n 2 .nils,m 3 13]],r 4 [m 14 4,w 15 (.nilck (.t 14)),f 16 1 15,l 17 16,m 2 17,n 3 O],.ret]
def Z7x:List RRes:=[.t 2,.t 3]
def Z7y:PCt prog 131 f131 Z7w Z7x:=pcT func131 rfl
def Z7z:RCode :=
 S [r 0 [b 2 0,b 3 1,w 4 (.alloc [O,O,.int .u8 0,.nils,.nils]),n 5 O],r 1 [L 11 1 2,c 12 168 [11],m 10 12,x 13 0 10,x 14 1 10,m 6 13,m 7 14],S [r 2 [m 15 7,k 16 .neq 15 O],K 16 3 [w 17 (.build [O,O,.int .u8 0,.nils,.nils] []),m 18 7,s 5 4 17,m 5 18]],r 4 [m 20 6,L 21 2 3,c 22 249 [20,21],m 19 22,x 23 0 19,x 24 1 19,w 8 (.alloc [O,O,.int .u8 0,.nils,.nils]),s 5 8 23,m 9 24],S [r 5 [m 25 9,t 26 25],K 26 6 [w 27 (.build [O,O,.int .u8 0,.nils,.nils] []),s 5 4 27,n 5 (.int .i64 6)]],r 7 [L 28 5 8,c 29 250 [28],s 5 4 29,n 5 O],.ret]
def Z7A:List RRes:=[.c 4 true 5,.t 5]
def Z7B:PCt prog 241 f241 Z7z Z7A:=pcT func241 rfl
end
section
open Qq Tryz
def Z7C:RCode :=
 S [r 0 [n 4 (.bool false)],S [r 1 [m 6 0,e 7 6,m 8 1,e 9 8,o 10 .neq 7 9],K 10 2 [n 4 (.bool false)]],S [r 3 [n 5 O],.block 0 (.loop (S [S [r 4 [m 11 5,m 12 0,e 13 12,o 14 .lss 11 13],.cond (.t 14) .skip (.exit 0)],.block 1 (S [R 6 [m 17 0,m 18 5,a [0,1] (i 19 1 17 18),a [2] (l 20 19),m 21 1,m 22 5,a [4,5] (i 23 1 21 22),a [6] (l 24 23),a [3,7] (o 25 .neq 20 24)],K 25 7 [n 4 (.bool false)]]),r 5 [m 15 5,k 16 .add 15 I,m 5 16]]))],r 8 [n 4 (.bool true)],.ret]
def Z7D:List RRes:=[.t 4]
def Z7E:PCt prog 25 f25 Z7C Z7D:=pcT func25 rfl
end
def mixed:prog.follows .mixedOrders=true:=by kernel_rfl
def Qga {R:Run} {c:RCode} {F:Exit->St->Prop} {st:St} (h:GO prog R 1000 (.run c) [] F st):AR prog R c st F:=Yb mixed 1000 h
def Qgr {R:Run} {e:Exit} {ks:List KF} {F:Exit->St->Prop} {st:St} (h:GO prog R 1000 (.out e) ks F st):RetP prog R ks F e st:=Z2R mixed 1000 h
def inR (n lo hi:Int):Bool:=decide (lo<=n/\n<=hi)
def Yf {n:Int} (h0:-9223372036854775808<=n:=by omega) (h1:n<=9223372036854775807:=by omega):i64.wrap n=n:=IntWalk.i64_in _ ⟨h0,h1⟩
def RndF (S:Nat->St) (I:Nat->Prop) (i:Nat) (Φ:Exit->St->Prop):Exit->St->Prop
 |.normal,st=>Ym st (S (i+1))/\I (i+1)
 |e,st=>Φ e st
def RndE (Φ:Exit->St->Prop):Exit->St->Prop
 |.normal,_=>False
 |e,st=>Φ e st
section
variable {P:Program} {R:Run} {st:St} {Φ:Exit->St->Prop} {S:Nat->St} {I:Nat->Prop} {i:Nat}
def Z7F:RndF S I i Φ .normal st=(Ym st (S (i+1))/\I (i+1)):=rfl
def Z7G:RndF S I i Φ .ret st=Φ .ret st:=rfl
def Z7H {j:Nat}:RndF S I i Φ (.exit j) st=Φ (.exit j) st:=rfl
def Z7I:RndE Φ .ret st=Φ .ret st:=rfl
def Z7J {j:Nat}:RndE Φ (.exit j) st=Φ (.exit j) st:=rfl
attribute [simp] Z7F Z7G Z7H Z7I Z7J
def Z7K {c:RCode} (S:Nat->St) (I:Nat->Prop) (N:Nat) (h0:Ym st (S 0)) (hi:I 0) (hr:∀ i,i<N->I i->AR P R c (S i) (RndF S I i Φ)) (he:I N->AR P R c (S N) (RndE Φ)):AR P R (.loop c) st Φ:=by
 refine Z1Q S (λi=>i<=N/\I i) (λi=>N-i) 0 h0 ⟨W1f _,hi⟩ ?_;rintro i ⟨h1,h2⟩;by_cases h3:i<N
 . refine Z2I (hr i h3 h2) λe s hs=>?_
   cases e with
   |normal=>exact ⟨i+1,hs.1,⟨by omega,hs.2⟩,by show N-(i+1)<N-i;omega⟩
   |_=>exact hs
 . obtain rfl:i=N:=(by omega);refine Z2I (he h2) λe s hs=>?_
   cases e with
   |normal=>exact hs.elim
   |_=>exact hs
end
structure Iss where
 d:Int
 l:Int
 k:Int
 its:List (Int×Int)
 dms:List Dm
 deriving DecidableEq,Inhabited
def ia (n:Int):List AV:=[.int .i64 n]
def ita (p:Int×Int):List AV:=[.int .i64 p.1,.int .i64 p.2]
def dma (d:Dm):List AV:=[.int .i64 d.n,.int .i64 d.l,.int .i64 d.u]
def isa (x:Iss):List AV:=[.int .i64 x.d,.int .i64 x.l,.int .u8 x.k,.vsl (x.its.map ita),.vsl (x.dms.map dma)]
def rega (r:List Iss):AV:=.agg [.vsl (r.map isa)]
def Sml {α:Type} (l:List α):Prop:=l.length<=16777216
def idx (l:List Int) (n:Int):Int:=if n∈l then (l.idxOf n:Int) else -1
def Z7L (a b:List Int) (ha:Sml a):PC prog G 25 [.vsl (a.map ia),.vsl (b.map ia)] (.bool (decide (a=b))):=by
 (refine Z7E rfl λR hG hrd=>Yb mixed 1000 ?_;subst hG)
 by_cases hl:a.length=b.length
 . have hl':(a.length:Int)=b.length:=(by omega);simp -implicitDefEqProofs[Z7C,Z7D,hl'];refine Z7K (λi=>⟨[(5,.int .i64 i),(0,.vsl (a.map ia)),(1,.vsl (b.map ia))],[]⟩) (λi=>∀ j (h:j<a.length),j<i->a[j]=b[j]) a.length (by (first|exact Wka|exact Wkb)) (by simp) ?_ ?_
   . intro i hi he;refine Yb mixed 1000 ?_;unfold Sml at ha;have hi2:i<b.length:=(by omega);have w1:i64.wrap ((i:Int)+1)=((i+1:Nat):Int):=Yf;by_cases h2:a[i]=b[i]
     . simp -implicitDefEqProofs[hi,hi2,ia,h2,w1];refine ⟨rfl,(by (first|exact Wka|exact Wkb)),λj h1 h3=>?_⟩;by_cases e:j=i
       . subst e;exact h2
       . exact he j h1 (by omega)
     . have h3:¬a=b:=λe=>h2 (by subst e;rfl)
       simp -implicitDefEqProofs[hi,hi2,ia,h2];refine ⟨rfl,?_⟩;refine Z2R mixed 1000 ?_;simp -implicitDefEqProofs[h3]
   . intro he;refine Yb mixed 1000 ?_;have h3:a=b:=W1I hl λj h1 h2=>he j h1 h1
     simp -implicitDefEqProofs;refine Z2R mixed 1000 ?_;simp -implicitDefEqProofs[h3]
 . have hl':¬(a.length:Int)=b.length:=(by omega);have h3:¬a=b:=λe=>hl (by rw[e])
   simp -implicitDefEqProofs[Z7C,Z7D,hl',h3]
abbrev Jr:=List Iss
def nz:AV->AV
 |.nils=>.vsl []
 |.agg xs=>.agg (xs.attach.map λ⟨x,_⟩=>nz x)
 |.tup xs=>.tup (xs.attach.map λ⟨x,_⟩=>nz x)
 |x=>x
def nz_at (xs:List AV):(xs.attach.map λ⟨x,_⟩=>nz x)=xs.map nz:=by
 have h:(xs.attach.map λ⟨x,_⟩=>nz x)=(xs.attach.map Subtype.val).map nz:=(by rw[W10];rfl);rw[h,List.attach_map_subtype_val]
def Z7M (xs:List AV):nz (.agg xs) = .agg (xs.map nz):=by rw[nz,nz_at]
def Z7N (xs:List AV):nz (.tup xs) = .tup (xs.map nz):=by rw[nz,nz_at]
def PV.nz {M:Nat->Prop} {W:World} {x:AV} {v:Value} (h:PV M W x v):PV M W (nz x) v:=by
 induction h with
 |nils=>simp only[Go.Proofs.YtcdlimgkliklhaaGreatDoor.nz];exact .vsl [] none 0 1 0 0 (λ_ _=>undef) (W0f _) (W1f _) (λh=>absurd rfl h) (λ_=>⟨rfl,rfl⟩) (by simp) (by simp) (by simp)
 | agg xs us h1 hx ih =>
   rw[Z7M];refine .agg _ us (by simpa using h1) λi x u hi hu=>?_
   rw[W09,W04]at hi;obtain ⟨y,hy,rfl⟩:=hi;exact ih i y u hy hu
 | tup xs us h1 hx ih =>
   rw[Z7N];refine .tup _ us (by simpa using h1) λi x u hi hu=>?_
   rw[W09,W04]at hi;obtain ⟨y,hy,rfl⟩:=hi;exact ih i y u hy hu
 |hole=>simp only[Go.Proofs.YtcdlimgkliklhaaGreatDoor.nz];exact .hole
 |int k n=>simp only[Go.Proofs.YtcdlimgkliklhaaGreatDoor.nz];exact .int k n
 |bool b=>simp only[Go.Proofs.YtcdlimgkliklhaaGreatDoor.nz];exact .bool b
 |abool b=>simp only[Go.Proofs.YtcdlimgkliklhaaGreatDoor.nz];exact .abool b
 |str s=>simp only[Go.Proofs.YtcdlimgkliklhaaGreatDoor.nz];exact .str s
 |nilp=>simp only[Go.Proofs.YtcdlimgkliklhaaGreatDoor.nz];exact .nilp
 |nilm=>simp only[Go.Proofs.YtcdlimgkliklhaaGreatDoor.nz];exact .nilm
 |nilf=>simp only[Go.Proofs.YtcdlimgkliklhaaGreatDoor.nz];exact .nilf
 |vptr cells off b o f hb hM hc hr ih=>simp only[Go.Proofs.YtcdlimgkliklhaaGreatDoor.nz];exact .vptr cells off b o f hb hM hc hr
 |vsl rows a cap sz b o f hcap hmax ha hn hs hc hr ih=>simp only[Go.Proofs.YtcdlimgkliklhaaGreatDoor.nz];exact .vsl rows a cap sz b o f hcap hmax ha hn hs hc hr
 |func fn xs ys us vs h1 h2 hx hy ihx ihy=>simp only[Go.Proofs.YtcdlimgkliklhaaGreatDoor.nz];exact .func fn xs ys us vs h1 h2 hx hy
 |vmap kvs b es clock hb hM ho hs hn hk' hv ihk ihv=>simp only[Go.Proofs.YtcdlimgkliklhaaGreatDoor.nz];exact .vmap kvs b es clock hb hM ho hs hn hk' hv
def PC.nzR {P:Program} {G:Jg} {f:FuncId} {args:List AV} {v v':AV} (h:PC P G f args v) (e:nz v=v'):PC P G f args v':=by
 subst e;refine ⟨h.1,λM W vs hM hG hs hv=>(h.2 M W vs hM hG hs hv).mono ?_⟩;rintro e W' ⟨u,h1,h2,h3⟩;exact ⟨u,h1,h2.nz,h3⟩
def Z7O {a b:Int×Int} (h:¬a=b):(!decide (a.1=b.1) || !decide (a.2=b.2))=true:=by
 cases h5:(!decide (a.1=b.1) || !decide (a.2=b.2))
 . simp only[W1T,Bool.not_eq_false',W0b]at h5;exact absurd (Prod.ext h5.1 h5.2) h
 . rfl
def SmlR (r:Jr):Prop:=Sml r/\∀ x∈r,Sml x.its/\Sml x.dms
def at' (r:Jr) (i:Nat):Iss:=r.getD i default
def at_eq {r:Jr} {i:Nat} (h:i<r.length):at' r i=r[i]:=by simp[at',List.getD,h]
def newB (r:Jr) (i:Nat):Bool:=i == 0 || !decide ((at' r (i-1)).d=(at' r i).d)
def numsN (r:Jr):Nat->List Int
 |0=>[]
 |i+1=>if newB r i=true then numsN r i++[(at' r i).d] else numsN r i
def nums (r:Jr):List Int:=numsN r r.length
def Z7P (r:Jr):∀ i,(numsN r i).length<=i
 |0=>by simp[numsN]
 | i+1=>by
   have:=Z7P r i;simp only[numsN]
   split
   . simp;omega
   . omega
def lastN (r:Jr) (n:Int):Nat->Int
 |0=>0
 |i+1=>if (at' r i).d=n then max (lastN r n i) (at' r i).l else lastN r n i
def lastV (r:Jr) (n:Int):Int:=lastN r n r.length
def findN (d l:Int):List Iss->Option Iss
 |[]=>none
 |x::r=>if x.d=d/\x.l=l then some x else findN d l r
def noIs:AV:=.agg [.int .i64 0,.int .i64 0,.int .u8 0,.nils,.nils]
def fndA:Option Iss->AV
 |some x=>.tup [.agg (isa x),.bool true]
 |none=>.tup [noIs,.bool false]
def Z7Q {d l:Int}:∀ {r:Jr} {i:Nat} (h:i<r.length),r[i].d=d->r[i].l=l->(∀ j (h:j<r.length),j<i->¬(r[j].d=d/\r[j].l=l))->findN d l r=some r[i]
 |x::r,0,h,h1,h2,_=>by simp only[findN];rw[if_pos ⟨h1,h2⟩];rfl
 | x::r,i+1,h,h1,h2,hb=>by
   simp only[findN];rw[if_neg (show ¬(x.d=d/\x.l=l) from hb 0 (by simp) (by omega))];exact Z7Q (by simpa using h) h1 h2 λj hj hi=>hb (j+1) (by simpa using hj) (by omega)
def itAt (x:Iss) (i:Nat):Int×Int:=x.its.getD i (0,0)
def itOk (x:Iss) (i:Nat):Bool:=inR (itAt x i).1 1 9999&&inR (itAt x i).2 1 20 && !decide ((itAt x i).1=x.d)&&(i == 0||decide ((itAt x (i-1)).1<(itAt x i).1))
def headB (x:Iss):Bool:=inR x.d 1 9999&&inR x.l 1 8&&inR x.k 1 3&&(if x.k=1 then inR x.its.length 1 8&&decide (x.dms.length=0) else decide (x.dms.length<=4)&&decide (x.its.length=0))
def issB (x:Iss):Bool:=headB x&&(List.range x.its.length).all (itOk x)&&x.dms.all vd
def Z7R {n:Nat} {p:Nat->Bool}:(List.range n).all p=true↔∀ j,j<n->p j=true:=by simp[W03]
def Wf (r:Jr):Prop:=SmlR r/\∀ x∈r,0<=x.k/\x.k<=255
def ordB (r:Jr):Nat->Bool
 |0=>decide ((at' r 0).l=1)
 | i+1=>if (at' r (i+1)).d<(at' r i).d then false else if (at' r i).d<(at' r (i+1)).d then decide ((at' r (i+1)).l=1)
   else decide ((at' r (i+1)).l=(at' r i).l+1)&&decide ((at' r (i+1)).k=(at' r i).k)
def inB (r:Jr):Bool:=r.all λx=>x.its.all λy=>decide (y.1∈nums r)
def ItsIn (r:Jr) (x:Iss):Prop:=∀ y∈x.its,y.1∈nums r
def Z7S (r:Jr):Bool:=inR r.length 1 60&&r.all issB&&(List.range r.length).all (ordB r)&&inB r&&decide ((nums r).length<=20)
def Z7T {r:Jr} {i:Nat} (h:i<r.length) (e:issB r[i]=false):Z7S r=false:=by
 cases hI:Z7S r
 . rfl
 . simp only[Z7S,W01]at hI;rw[W03.1 hI.1.1.1.2 _ (W0e h)]at e;cases e
def Z7U {r:Jr} {i:Nat} (h:i<r.length) (e:ordB r i=false):Z7S r=false:=by
 cases hI:Z7S r
 . rfl
 . simp only[Z7S,W01]at hI;rw[Z7R.1 hI.1.1.2 i h]at e;cases e
def Z7V {r:Jr} {i k:Nat} (h:i<r.length) (hk:k<r[i].its.length) (e:r[i].its[k].1 ∉ nums r):Z7S r=false:=by
 cases hI:Z7S r
 . rfl
 . simp only[Z7S,W01,inB]at hI;have:=W03.1 (W03.1 hI.1.2 _ (W0e h)) _ (W0e hk);exact absurd (W0X this) e
def Z7W {l:List Int} {n:Int}:idx l n<0↔n ∉ l:=by
 unfold idx
 split
 . rename_i h;simp[h]
 . rename_i h;simp[h]
def Z7X (r:Jr):(nums r).length<=r.length:=Z7P r _
def Ord (r:Jr):Prop:=∀ i,i+1<r.length->(at' r i).d<=(at' r (i+1)).d
def Ord.mono {r:Jr} (h:Ord r):∀ {i j:Nat},i<=j->j<r.length->(at' r i).d<=(at' r j).d:=by
 intro i j hij hj
 induction j with
 | zero => obtain rfl:i=0:=by omega
           exact W1Y _
 | succ j ih =>
   by_cases e:i=j+1
   . subst e;exact W1Y _
   . exact Int.le_trans (ih (by omega) (by omega)) (h j hj)
def Z7Y {r:Jr} (h:Z7S r=true):Ord r:=by
 intro i hi;simp only[Z7S,W01]at h;have:=Z7R.1 h.1.1.2 (i+1) hi;simp only[ordB]at this
 split at this
 . cases this
 . omega
def Z7Z {r:Jr} (h:Ord r):∀ i,i<=r.length->(numsN r i).Pairwise (· < ·)/\(∀ y∈numsN r i,∃ j,j<i/\(at' r j).d=y)/\∀ j,j<i->(at' r j).d∈numsN r i:=by
 intro i
 induction i with
 |zero=>intro _;simp[numsN]
 | succ i ih =>
   intro hi;obtain ⟨h1,h2,h3⟩:=ih (by omega);simp only[numsN]
   split
   . rename_i hb;refine ⟨W28.2 ⟨h1,by simp,λa ha b hb'=>?_⟩,λy hy=>?_,λj hj=>?_⟩
     . simp only[W0B]at hb';subst hb';obtain ⟨j,hj,rfl⟩:=h2 a ha;simp only[newB,W0T,W0A,W1C,W1b]at hb;have m1:=h.mono (show j<=i-1 by omega) (by omega);have m2:=h.mono (show i-1<=i by omega) (by omega);rcases hb with hb|hb
       . omega
       . omega
     . rcases W0h.1 hy with hy|hy
       . obtain ⟨j,hj,e⟩:=h2 y hy;exact ⟨j,by omega,e⟩
       . exact ⟨i,by omega,(W0B.1 hy).symm⟩
     . by_cases e:j=i
       . subst e;simp
       . exact W0h.2 (.inl (h3 j (by omega)))
   . rename_i hb;refine ⟨h1,λy hy=>?_,λj hj=>?_⟩
     . obtain ⟨j,hj,e⟩:=h2 y hy;exact ⟨j,by omega,e⟩
     . by_cases e:j=i
       . subst e;simp only[newB,W0T,W0A,W1C,W1b,not_or,Decidable.not_not]at hb;rw[<- hb.2];exact h3 _ (by omega)
       . exact h3 j (by omega)
def Z80 {r:Jr} (h:Ord r):(nums r).Pairwise (· < ·):=(Z7Z h _ (W0f _)).1
def Z81 {r:Jr} (h:Ord r):(nums r).Nodup:=(Z80 h).imp λh=>Int.ne_of_lt h
def Z82 {r:Jr} (h:Ord r) {n:Int} (hn:n∈nums r):∃ i,∃ hi:i<r.length,r[i].d=n:=by
 obtain ⟨i,hi,e⟩:=(Z7Z h _ (W0f _)).2.1 n hn;exact ⟨i,hi,by rw[<- at_eq hi];exact e⟩
def Z83 {r:Jr} (h:Ord r) {i:Nat} (hi:i<r.length):r[i].d∈nums r:=by
 have:=(Z7Z h _ (W0f _)).2.2 i hi
 rwa [at_eq hi]at this
def dvIt (f:Int->Int) (m:Int) (its:List (Int×Int)):Int:=its.foldl (λm y=>max m (1+f y.1)) m
def dvN (r:Jr) (f:Int->Int) (n:Int):Nat->Int
 |0=>0
 |i+1=>if (at' r i).d=n then dvIt f (max (dvN r f n i) 1) (at' r i).its else dvN r f n i
def Dv (r:Jr):Nat->Int->Int
 |0,_=>0
 |k+1,n=>dvN r (Dv r k) n r.length
def rowF (l:List Int) (g:Int->Int):List (List AV):=l.map λn=>[.int .i64 (g n)]
def Z84 {l:List Int} {g:Int->Int}:(rowF l g).length=l.length:=by simp[rowF]
def Z85 {l:List Int} {g:Int->Int} {p:List AV->Bool}:(rowF l g).all p=l.all λn=>p [.int .i64 (g n)]:=by simp[rowF,List.all_map,W0y]
attribute [simp] Z85
def Z86 {l:List Int} {g:Int->Int} {j:Nat} (h:j<(rowF l g).length):(rowF l g)[j]=[.int .i64 (g (l[j]'(by simpa [rowF] using h)))]:=by simp[rowF]
attribute [simp] Z86 Z84
def Ym.trans {a b c:St} (h:Ym a b) (g:Ym b c):Ym a c:=λR x W s=>g R x W (h R x W s)
def Z87 (r:Jr):(rega r).pure=true:=by simp[rega,AV.pure]
attribute [simp] Z87
def zI:Iss:=⟨0,0,0,[],[]⟩
def Z88 {d l:Int}:∀ {r:Jr} {x:Iss},findN d l r=some x->x∈r/\x.d=d/\x.l=l
 |[],x,h=>by simp[findN]at h
 | y::r,x,h=>by
   simp only[findN]at h
   split at h
   . rename_i e;cases h;exact ⟨W0H ..,e⟩
   . obtain ⟨h1,h2⟩:=Z88 h;exact ⟨W0z _ h1,h2⟩
def fstOf {α:Type} (p:α->Bool) (l:List α):Int:=match l.findIdx? p with|some i=>(i:Int)|none=>-1
def Z89 {α:Type} {p:α->Bool} {l:List α} {i:Nat} (h:i<l.length) (hp:p l[i]=true) (hn:∀ j (h:j<l.length),j<i->p l[j]=false):fstOf p l=i:=by
 have:l.findIdx? p=some i:=by
  rw[W1A];refine ⟨h,hp,λj hj=>?_⟩;rw[hn j (by omega) hj];simp
 simp[fstOf,this]
def Z8a {α:Type} {p:α->Bool} {l:List α} (hn:∀ j (h:j<l.length),p l[j]=false):fstOf p l = -1:=by
 have:l.findIdx? p=none:=W1F.2 λx hx=>by
  obtain ⟨j,hj,rfl⟩:=W0k hx;exact hn j hj
 simp[fstOf,this]
def Z8b {α:Type} (p:α->Bool) (l:List α):decide (0<=fstOf p l)=l.any p:=by
 unfold fstOf
 cases h:l.findIdx? p with
 | none =>
   have h2:=W1F.1 h;have:l.any p=false:=(by rw[<- Bool.not_eq_true,W14];rintro ⟨x,hx,hp⟩;rw[h2 x hx]at hp;cases hp);simp[this]
 | some i =>
   obtain ⟨h1,h2,-⟩:=W1A.1 h;have:l.any p=true:=W14.2 ⟨l[i],W0e h1,h2⟩;simp[this]
def Z8c (g:Nat) (caps:List AV) (p:Int->Bool) (l:List Int) (hc:caps.all AV.pure=true) (hl:Sml l)
  (hg:∀ x∈l,PC prog G g (.int .i64 x::caps) (.bool (p x))) :
  PC prog G 142 [.vsl (l.map ia),.func (.func g) [] caps] (.int .i64 (fstOf p l)):=by
 (refine Z69 rfl λR hG hrd=>Qga ?_;subst hG)
 unfold Sml at hl;have hc2:∀ x∈caps,x.pure=true:=W03.1 hc;simp -implicitDefEqProofs[Z67,Z68];refine Z7K (λi=>⟨[(8,.int .i64 i),(7,.int .i64 l.length),(0,.vsl (l.map ia)),(1,.func (.func g) [] caps)],[]⟩) (λi=>∀ j (h:j<l.length),j<i->p l[j]=false) l.length (by (first|exact Wka|exact Wkb)) (by simp) ?_ ?_
 . intro i hi he;refine Qga ?_;have w1:i64.wrap ((i:Int)+1)=((i+1:Nat):Int):=Yf;simp -implicitDefEqProofs[hi,ia];refine Yd.of (hg _ (W0e hi)) (by simpa [AV.pure] using hc2) ?_
   cases h3:p l[i]
   . simp -implicitDefEqProofs[w1];refine ⟨(by (first|exact Wka|exact Wkb)),λj q1 q2=>?_⟩;by_cases e:j=i
     . subst e;exact h3
     . exact he j q1 (by omega)
   . simp -implicitDefEqProofs;refine Qgr ?_;simp -implicitDefEqProofs[Z89 hi h3 he]
 . intro he;refine Qga ?_;simp -implicitDefEqProofs;refine Qgr ?_;simp -implicitDefEqProofs[Z8a (p:=p) (l:=l) (λj hj=>he j hj hj)]
def Z8d (g:Nat) (caps:List AV) (p:Int->Bool) (l:List Int) (hc:caps.all AV.pure=true) (hl:Sml l)
  (hg:∀ x∈l,PC prog G g (.int .i64 x::caps) (.bool (p x))) :
  PC prog G 85 [.vsl (l.map ia),.func (.func g) [] caps] (.bool (l.any p)):=by
 (refine Z66 rfl λR hG hrd=>Qga ?_;subst hG)
 simp -implicitDefEqProofs[Z64,Z65];have hc2:∀ x∈caps,x.pure=true:=W03.1 hc;refine Yd.of (Z8c g caps p l hc hl hg) (by simpa [AV.pure] using hc2) ?_;have e:=Z8b p l;simp -implicitDefEqProofs[e]
def Z8e (g:Nat) (caps:List AV) (p:(Int×Int)->Bool) (l:List (Int×Int)) (hc:caps.all AV.pure=true) (hl:Sml l)
  (hg:∀ x∈l,PC prog G g (.agg [.int .i64 x.1,.int .i64 x.2]::caps) (.bool (p x))) :
  PC prog G 209 [.vsl (l.map ita),.func (.func g) [] caps] (.int .i64 (fstOf p l)):=by
 (refine Z6M rfl λR hG hrd=>Qga ?_;subst hG)
 unfold Sml at hl;have hc2:∀ x∈caps,x.pure=true:=W03.1 hc;simp -implicitDefEqProofs[Z6K,Z6L];refine Z7K (λi=>⟨[(8,.int .i64 i),(7,.int .i64 l.length),(0,.vsl (l.map ita)),(1,.func (.func g) [] caps)],[]⟩) (λi=>∀ j (h:j<l.length),j<i->p l[j]=false) l.length (by (first|exact Wka|exact Wkb)) (by simp) ?_ ?_
 . intro i hi he;refine Qga ?_;have w1:i64.wrap ((i:Int)+1)=((i+1:Nat):Int):=Yf;simp -implicitDefEqProofs[hi,ita];refine Yd.of (hg _ (W0e hi)) (by simpa [AV.pure] using hc2) ?_
   cases h3:p l[i]
   . simp -implicitDefEqProofs[w1];refine ⟨(by (first|exact Wka|exact Wkb)),λj q1 q2=>?_⟩;by_cases e:j=i
     . subst e;exact h3
     . exact he j q1 (by omega)
   . simp -implicitDefEqProofs;refine Qgr ?_;simp -implicitDefEqProofs[Z89 hi h3 he]
 . intro he;refine Qga ?_;simp -implicitDefEqProofs;refine Qgr ?_;simp -implicitDefEqProofs[Z8a (p:=p) (l:=l) (λj hj=>he j hj hj)]
def Z8f (g:Nat) (caps:List AV) (p:(Int×Int)->Bool) (l:List (Int×Int)) (hc:caps.all AV.pure=true) (hl:Sml l)
  (hg:∀ x∈l,PC prog G g (.agg [.int .i64 x.1,.int .i64 x.2]::caps) (.bool (p x))) :
  PC prog G 195 [.vsl (l.map ita),.func (.func g) [] caps] (.bool (l.any p)):=by
 (refine Z6J rfl λR hG hrd=>Qga ?_;subst hG)
 simp -implicitDefEqProofs[Z6H,Z6I];have hc2:∀ x∈caps,x.pure=true:=W03.1 hc;refine Yd.of (Z8e g caps p l hc hl hg) (by simpa [AV.pure] using hc2) ?_;have e:=Z8b p l;simp -implicitDefEqProofs[e]
def Z8g (g:Nat) (caps:List AV) (p:Dm->Bool) (l:List Dm) (hc:caps.all AV.pure=true) (hl:Sml l)
  (hg:∀ x∈l,PC prog G g (.agg [.int .i64 x.n,.int .i64 x.l,.int .i64 x.u]::caps) (.bool (p x))) :
  PC prog G 267 [.vsl (l.map dma),.func (.func g) [] caps] (.int .i64 (fstOf p l)):=by
 (refine Z6G rfl λR hG hrd=>Qga ?_;subst hG)
 unfold Sml at hl;have hc2:∀ x∈caps,x.pure=true:=W03.1 hc;simp -implicitDefEqProofs[Z6E,Z6F];refine Z7K (λi=>⟨[(8,.int .i64 i),(7,.int .i64 l.length),(0,.vsl (l.map dma)),(1,.func (.func g) [] caps)],[]⟩) (λi=>∀ j (h:j<l.length),j<i->p l[j]=false) l.length (by (first|exact Wka|exact Wkb)) (by simp) ?_ ?_
 . intro i hi he;refine Qga ?_;have w1:i64.wrap ((i:Int)+1)=((i+1:Nat):Int):=Yf;simp -implicitDefEqProofs[hi,dma];refine Yd.of (hg _ (W0e hi)) (by simpa [AV.pure] using hc2) ?_
   cases h3:p l[i]
   . simp -implicitDefEqProofs[w1];refine ⟨(by (first|exact Wka|exact Wkb)),λj q1 q2=>?_⟩;by_cases e:j=i
     . subst e;exact h3
     . exact he j q1 (by omega)
   . simp -implicitDefEqProofs;refine Qgr ?_;simp -implicitDefEqProofs[Z89 hi h3 he]
 . intro he;refine Qga ?_;simp -implicitDefEqProofs;refine Qgr ?_;simp -implicitDefEqProofs[Z8a (p:=p) (l:=l) (λj hj=>he j hj hj)]
def Z8h (g:Nat) (caps:List AV) (p:Dm->Bool) (l:List Dm) (hc:caps.all AV.pure=true) (hl:Sml l)
  (hg:∀ x∈l,PC prog G g (.agg [.int .i64 x.n,.int .i64 x.l,.int .i64 x.u]::caps) (.bool (p x))) :
  PC prog G 264 [.vsl (l.map dma),.func (.func g) [] caps] (.bool (l.any p)):=by
 (refine Z6D rfl λR hG hrd=>Qga ?_;subst hG)
 simp -implicitDefEqProofs[Z6B,Z6C];have hc2:∀ x∈caps,x.pure=true:=W03.1 hc;refine Yd.of (Z8g g caps p l hc hl hg) (by simpa [AV.pure] using hc2) ?_;have e:=Z8b p l;simp -implicitDefEqProofs[e]
def Z8i (n lo hi:Int):PC prog G 269 [.int .i64 n,.vptr [.int .i64 lo] 0,.vptr [.int .i64 hi] 0] (.bool (!inR n lo hi)):=by
 (refine Z63 rfl λR hG hrd=>Qga ?_;subst hG)
 by_cases h1:n<lo
 . have h2:¬lo<=n:=(by omega);simp -implicitDefEqProofs[Z61,Z62,h1,h2,inR]
 . have h2:lo<=n:=(by omega);by_cases h3:hi<n
   . have h4:¬n<=hi:=(by omega);simp -implicitDefEqProofs[Z61,Z62,h1,h2,h3,h4,inR]
   . have h4:n<=hi:=(by omega);simp -implicitDefEqProofs[Z61,Z62,h1,h2,h3,h4,inR]
def Z8j (n lo hi:Int):PC prog G 208 [.int .i64 n,.vptr [.int .i64 lo] 0,.vptr [.int .i64 hi] 0] (.bool (!inR n lo hi)):=by
 (refine Z6i rfl λR hG hrd=>Qga ?_;subst hG)
 by_cases h1:n<lo
 . have h2:¬lo<=n:=(by omega);simp -implicitDefEqProofs[Z6g,Z6h,h1,h2,inR]
 . have h2:lo<=n:=(by omega);by_cases h3:hi<n
   . have h4:¬n<=hi:=(by omega);simp -implicitDefEqProofs[Z6g,Z6h,h1,h2,h3,h4,inR]
   . have h4:n<=hi:=(by omega);simp -implicitDefEqProofs[Z6g,Z6h,h1,h2,h3,h4,inR]
def Z8k (lo hi:Int) (l:List Int) (hl:Sml l):PC prog G 268 [.int .i64 lo,.int .i64 hi,.vsl (l.map ia)] (.bool (l.all λn=>inR n lo hi)):=by
 (refine Z60 rfl λR hG hrd=>Qga ?_;subst hG)
 simp -implicitDefEqProofs[Z5Y,Z5Z]
 (first|refine Yd.flat (Z8d 269 [.vptr [.int .i64 lo] 0,.vptr [.int .i64 hi] 0] (λn=>!inR n lo hi) l (by simp[AV.pure]) hl (λn _=>Z8i n lo hi)) (by simp[AV.flat]) (by simp) ?_|refine Ye.flat (Z8d 269 [.vptr [.int .i64 lo] 0,.vptr [.int .i64 hi] 0] (λn=>!inR n lo hi) l (by simp[AV.pure]) hl (λn _=>Z8i n lo hi)) (by simp[AV.flat]) (by simp) ?_)
 have e:(!l.any λn=>!inR n lo hi)=l.all λn=>inR n lo hi:=by simp[W2k]
 simp -implicitDefEqProofs[e]
def Z8l (lo hi:Int) (n:Int):PC prog G 194 [.int .i64 lo,.int .i64 hi,.vsl [[.int .i64 n]]] (.bool (inR n lo hi)):=by
 (refine Z6f rfl λR hG hrd=>Qga ?_;subst hG)
 simp -implicitDefEqProofs[Z6d,Z6e];refine Yd.flat (Z8d 208 [.vptr [.int .i64 lo] 0,.vptr [.int .i64 hi] 0] (λn=>!inR n lo hi) [n] (by simp[AV.pure]) (by simp[Sml]) (λn _=>Z8j n lo hi)) (by simp[AV.flat]) (by simp[ia]) ?_;simp -implicitDefEqProofs
def Z8m (d:Dm):PC prog G 266 [.agg [.int .i64 d.n,.int .i64 d.l,.int .i64 d.u]] (.int .i64 (if vd d=true then 0 else 10)):=by
 (refine Z6c rfl λR hG hrd=>Qga ?_;subst hG)
 simp -implicitDefEqProofs[Z6a,Z6b];refine Qco (Z8k 0 1000000000 [d.n,d.l,d.u] (by simp[Sml])) ?_
 cases h1:[d.n,d.l,d.u].all λn=>inR n 0 1000000000
 . have e:vd d=false:=by
    refine W0S λh=>?_
    have:([d.n,d.l,d.u].all λn=>inR n 0 1000000000)=true:=by
     simp[inR];omega
    rw[this]at h1;cases h1
   simp -implicitDefEqProofs[e]
 . have h2:(0<=d.n/\d.n<=1000000000)/\(0<=d.l/\d.l<=1000000000)/\0<=d.u/\d.u<=1000000000:=by
    simpa [inR] using h1
   by_cases h3:d.u<d.l
   . have e:vd d=false:=W0S (by omega);simp -implicitDefEqProofs[e,h3]
   . have e:vd d=true:=W0M (by omega);simp -implicitDefEqProofs[e,h3]
def Z8n (x:Iss):PC prog G 251 [.agg (isa x)] (.agg [.int .i64 x.d,.int .i64 x.l]):=by
 (refine Z6l rfl λR hG hrd=>Qga ?_;subst hG)
 simp -implicitDefEqProofs[Z6j,Z6k,isa]
def ck1 (x:Iss):Bool:=inR x.d 1 9999&&inR x.l 1 8
def ck2 (x:Iss):Bool:=if x.k=1 then inR x.its.length 1 8&&decide (x.dms.length=0) else inR x.k 2 3&&decide (x.dms.length<=4)&&decide (x.its.length=0)
def ck3 (x:Iss):Bool:=(List.range x.its.length).all (itOk x)
def ck4 (x:Iss):Bool:=x.dms.all vd
def Z8o (x:Iss):issB x=(ck1 x&&ck2 x&&ck3 x&&ck4 x):=by
 have e:headB x=(ck1 x&&ck2 x):=by
  unfold headB ck1 ck2;by_cases c1:x.k=1
  . have:inR x.k 1 3=true:=W0M (by omega);simp only[c1,if_true];rw[c1]at this;rw[this];simp
  . have:inR x.k 1 3=inR x.k 2 3:=decide_eq_decide.2 (by omega);simp only[c1,if_false,this,Bool.and_assoc]
 simp only[issB,e,ck3,ck4]
def Z8p (x:Iss):PC prog G 260 [.agg (isa x)] (.bool (ck1 x)):=by
 (refine Z6o rfl λR hG hrd=>Qga ?_;subst hG)
 simp -implicitDefEqProofs[Z6m,Z6n,isa];refine Qco (Z8l _ _ _) ?_
 cases q1:inR x.d 1 9999
 . simp -implicitDefEqProofs[ck1,q1]
 . simp -implicitDefEqProofs;refine Qco (Z8l _ _ _) ?_;simp -implicitDefEqProofs[ck1,q1]
def Z8q (x:Iss) (hk:0<=x.k/\x.k<=255):PC prog G 261 [.agg (isa x)] (.bool (ck2 x)):=by
 (refine Z6r rfl λR hG hrd=>Qga ?_;subst hG)
 have wk:i64.wrap x.k=x.k:=Yf;by_cases c1:x.k=1
 . simp -implicitDefEqProofs[Z6p,Z6q,isa,c1];refine Qco (Z8l _ _ _) ?_
   cases q1:inR x.its.length 1 8
   . simp -implicitDefEqProofs[ck2,c1,q1]
   . by_cases q2:x.dms.length=0 <;> simp -implicitDefEqProofs[ck2,c1,q1,q2]
 . simp -implicitDefEqProofs[Z6p,Z6q,isa,c1,wk];refine Qco (Z8l _ _ _) ?_
   cases q1:inR x.k 2 3
   . simp -implicitDefEqProofs[ck2,c1,q1]
   by_cases q2:x.dms.length<=4
   . have q2i:(x.dms.length:Int)<=4:=(by omega);by_cases q3:x.its.length=0 <;> simp -implicitDefEqProofs[ck2,c1,q1,q2,q2i,q3]
   . have q2i:¬(x.dms.length:Int)<=4:=(by omega);simp -implicitDefEqProofs[ck2,c1,q1,q2,q2i]
def Z8r (x:Iss) (h1:Sml x.its):PC prog G 262 [.agg (isa x)] (.bool (ck3 x)):=by
 (refine Z6u rfl λR hG hrd=>Qga ?_;subst hG)
 unfold Sml at h1;simp -implicitDefEqProofs[Z6s,Z6t,isa];refine Z7K (λi=>⟨[(8,.int .i64 i),(7,.int .i64 x.its.length),(6,.vsl (x.its.map ita)),(1,.ptr 1 0)],[(1,.box (isa x))]⟩) (λi=>∀ j,j<i->itOk x j=true) x.its.length (by (first|exact Ym.tm (by simp[lk,isa])|exact Ym.sub (by simp[lk,Ya,AV.keys,isa]) (by simp[lk,Yc,Ya,AV.keys,isa]))) (by simp) ?_ ?_
 . intro i hi he;refine Qga ?_;have w1:i64.wrap ((i:Int)+1)=((i+1:Nat):Int):=Yf;have a1:itAt x i=x.its[i]:=by simp[itAt,List.getD,hi]
   have no:itOk x i=false->ck3 x=false:=λe=>by
    cases hI:ck3 x
    . rfl
    . rw[Z7R.1 hI i hi]at e;cases e
   simp -implicitDefEqProofs[hi,isa,ita];refine Qco (Z8l _ _ _) ?_
   cases p1:inR x.its[i].1 1 9999
   . simp -implicitDefEqProofs;refine ⟨rfl,?_⟩;refine Qgr ?_;simp -implicitDefEqProofs[no (by simp[itOk,a1,p1])]
   simp -implicitDefEqProofs;refine Qco (Z8l _ _ _) ?_
   cases p2:inR x.its[i].2 1 20
   . simp -implicitDefEqProofs;refine ⟨rfl,?_⟩;refine Qgr ?_;simp -implicitDefEqProofs[no (by simp[itOk,a1,p2])]
   by_cases p3:x.its[i].1=x.d
   . simp -implicitDefEqProofs[p3];refine ⟨rfl,?_⟩;refine Qgr ?_;simp -implicitDefEqProofs[no (by simp[itOk,a1,p3])]
   cases i with
   | zero =>
     have ok:itOk x 0=true:=(by simp[itOk,a1,p1,p2,p3]);have w0:i64.wrap 1=1:=rfl;simp -implicitDefEqProofs[p3,w0];exact ⟨rfl,(by (first|exact Ym.tm (by simp[lk,isa])|exact Ym.sub (by simp[lk,Ya,AV.keys,isa]) (by simp[lk,Yc,Ya,AV.keys,isa]))),ok⟩
   | succ i =>
     have w2:i64.wrap (i:Int)=(i:Int):=Yf;have w3:i64.wrap ((i:Int)+1+1)=(i:Int)+1+1:=Yf;have k3:(0:Int)<(i:Int)+1:=(by omega);have hi2:i<x.its.length:=(by omega);have a2:itAt x i=x.its[i]:=(by simp[itAt,List.getD,hi2]);by_cases p4:x.its[i+1].1<=x.its[i].1
     . simp -implicitDefEqProofs[p3,k3,w2,hi2,ita,p4];refine ⟨rfl,?_⟩;refine Qgr ?_;simp -implicitDefEqProofs[no (by simp[itOk,a1,a2,p4])]
     . have ok:itOk x (i+1)=true:=(by simp[itOk,a1,a2,p1,p2,p3];omega);simp -implicitDefEqProofs[p3,k3,w2,w3,hi2,ita,p4];refine ⟨rfl,(by (first|exact Ym.tm (by simp[lk,isa])|exact Ym.sub (by simp[lk,Ya,AV.keys,isa]) (by simp[lk,Yc,Ya,AV.keys,isa]))),λj hj=>?_⟩;by_cases e:j=i+1
       . subst e;exact ok
       . exact he j (by omega)
 . intro he;refine Qga ?_;have hI:ck3 x=true:=Z7R.2 he;simp -implicitDefEqProofs;refine Qgr ?_;simp -implicitDefEqProofs[hI]
def Z8s (d:Dm):PC prog G 265 [.agg [.int .i64 d.n,.int .i64 d.l,.int .i64 d.u]] (.bool (!vd d)):=by
 (refine Z6A rfl λR hG hrd=>Qga ?_;subst hG)
 simp -implicitDefEqProofs[Z6y,Z6z];refine Qco (Z8m d) ?_
 cases q:vd d <;> simp -implicitDefEqProofs
def Z8t (x:Iss) (h2:Sml x.dms):PC prog G 263 [.agg (isa x)] (.bool (ck4 x)):=by
 (refine Z6x rfl λR hG hrd=>Qga ?_;subst hG)
 simp -implicitDefEqProofs[Z6v,Z6w,isa];refine Qco (Z8h 265 [] (λd=>!vd d) x.dms rfl h2 (λd _=>Z8s d)) ?_;have e:(!x.dms.any λd=>!vd d)=ck4 x:=(by simp[ck4,W2k]);simp -implicitDefEqProofs[e]
def lowB (l:List Int) (n:Int):Nat:=l.countP (λx=>decide (x<n))
def Z8u (l:List Int) (n:Int):lowB l n<=l.length:=List.countP_le_length
def Z8v {l:List Int} (hs:l.Pairwise (· <= ·)) (n:Int):∀ (i:Nat) (hi:i<l.length),i<lowB l n↔l[i]<n:=by
 induction l with
 |nil=>intro i hi;simp at hi
 | cons x l ih =>
   obtain ⟨h1,h2⟩:=W1l.1 hs;intro i hi;by_cases hx:x<n
   . have e:lowB (x::l) n=lowB l n+1:=(by simp[lowB,W2b,hx]);rw[e]
     cases i with
     |zero=>simp[hx]
     | succ i =>
       have:=ih h2 i (by simpa using hi);simp only[List.getElem_cons_succ];rw[<- this];omega
   . have z:lowB l n=0:=by
      unfold lowB;rw[List.countP_eq_zero];intro y hy;have:=h1 y hy;simp;omega
     have e:lowB (x::l) n=0:=by
      have:lowB (x::l) n=lowB l n:=(by simp[lowB,W2b,hx]);omega
     rw[e]
     have hge:∀ (i:Nat) (hi:i<(x::l).length),x<=(x::l)[i]:=λi hi=>by
      cases i with
      |zero=>exact W1Y _
      |succ i=>exact h1 _ (W0e _)
     have:=hge i hi
     constructor
     . intro h;omega
     . intro h;omega
def Z8w {l:List Int} (hs:l.Pairwise (· < ·)):l.Pairwise (· <= ·):=hs.imp λh=>Int.le_of_lt h
def Z8x {l:List Int} (hs:l.Pairwise (· <= ·)) (n:Int):n∈l↔l[lowB l n]? = some n:=by
 constructor
 . intro hm;obtain ⟨j,hj,he⟩:=W0k hm;have h1:¬j<lowB l n:=λh=>by have:=(Z8v hs n j hj).1 h;omega
   have h2:lowB l n<l.length:=(by omega);rw[W07 h2];have h3:¬l[lowB l n]<n:=λh=>by have:=(Z8v hs n _ h2).2 h;omega
   have h4:l[lowB l n]<=l[j]:=by
    by_cases e:lowB l n=j
    . simp[e]
    . exact W0Y.1 hs _ _ h2 hj (by omega)
   congr 1;omega
 . intro h;exact W0d h
def Z8y {i j:Nat} (h:i+j<=33554432):i64.wrap ((IntKind.u64.wrap (i64.wrap ((i:Int)+j))).fdiv (2 ^ (min 1 IntKind.u64.bits)))=(((i+j) / 2:Nat):Int):=by
 show i64.wrap ((IntKind.u64.wrap (i64.wrap ((i:Int)+j))).fdiv (2 ^ (min 1 64)))=(((i+j) / 2:Nat):Int);have e1:i64.wrap ((i:Int)+j)=((i+j:Nat):Int):=by rw[Yf (by omega) (by omega)];omega
 have e2:IntKind.u64.wrap (((i+j:Nat):Int))=((i+j:Nat):Int):=by
  have:=IntWalk.u64_in (((i+j:Nat):Int)) ⟨by omega,by omega⟩;exact this
 rw[e1,e2]
 have e3:(((i+j:Nat):Int)).fdiv (2 ^ (min 1 64))=(((i+j) / 2:Nat):Int):=by
  rw[Int.fdiv_eq_ediv_of_nonneg _ (by decide)];simp
 rw[e3,Yf (by omega) (by omega)]
def Z8z (n:Int):PC prog G 157 [.int .i64 n] (.bool false):=by
 (refine Z71 rfl λR hG hrd=>Qga ?_;subst hG)
 simp -implicitDefEqProofs[Z6Z,Z70]
def Z8A (n:Int):PC prog G 214 [.int .i64 n] (.bool false):=by
 (refine Z74 rfl λR hG hrd=>Qga ?_;subst hG)
 simp -implicitDefEqProofs[Z72,Z73]
def Z8B (a b:Int):PC prog G 189 [.int .i64 a,.int .i64 b] (.bool (decide (a<b))):=by
 (refine Z6Y rfl λR hG hrd=>Qga ?_;subst hG)
 by_cases h:a<b
 . simp -implicitDefEqProofs[Z6W,Z6X,h]
   try refine Qco (Z8z a) ?_
   try simp -implicitDefEqProofs[h]
 . simp -implicitDefEqProofs[Z6W,Z6X,h]
   try refine Qco (Z8z a) ?_
   try simp -implicitDefEqProofs[h]
def Z8C (l:List Int) (n:Int) (hs:l.Pairwise (· <= ·)) (hl:Sml l):PC prog G 210 [.vsl (l.map ia),.int .i64 n] (.tup [.int .i64 (lowB l n),.bool (decide (n∈l))]):=by
 (refine Z6V rfl λR hG hrd=>Qga ?_;subst hG)
 unfold Sml at hl;have hle:=Z8u l n;simp -implicitDefEqProofs[Z6T,Z6U];refine Z1Q (λp:Nat×Nat=>⟨[(8,.int .i64 p.2),(7,.int .i64 p.1),(6,.int .i64 l.length),(0,.vsl (l.map ia)),(1,.int .i64 n)],[]⟩) (λp=>p.1<=lowB l n/\lowB l n<=p.2/\p.2<=l.length) (λp=>p.2-p.1) (0,l.length) (by (first|exact Wka|exact Wkb)) ⟨by omega,hle,W0f _⟩ ?_;rintro ⟨lo,hi⟩ ⟨h1,h2,h3⟩;simp only at h1 h2 h3;refine Qga ?_;by_cases h4:lo<hi
 . obtain ⟨m,hm⟩:=Qex ((lo+hi) / 2);have hw:=Z8y (i:=lo) (j:=hi) (by omega);rw[<- hm]at hw;have m1:m<l.length:=(by omega);have w1:i64.wrap ((m:Int)+1)=((m+1:Nat):Int):=Yf;have hb:=Z8v hs n m m1;by_cases h5:l[m]<n
   . simp -implicitDefEqProofs[h4,hw,m1,ia];refine Qco (Z8B _ _) ?_;simp -implicitDefEqProofs[h5,w1];exact ⟨(m+1,hi),(by (first|exact Wka|exact Wkb)),⟨by have:=hb.2 h5;show m+1<=_;omega,h2,h3⟩,by show hi-(m+1)<hi-lo;omega⟩
   . simp -implicitDefEqProofs[h4,hw,m1,ia];refine Qco (Z8B _ _) ?_;simp -implicitDefEqProofs[h5];exact ⟨(lo,m),(by (first|exact Wka|exact Wkb)),⟨h1,by have:¬m<lowB l n:=λh=>h5 (hb.1 h);show lowB l n<=m;omega,by show m<=_;omega⟩,by show m-lo<hi-lo;omega⟩
 . obtain rfl:lo=lowB l n:=(by omega);have hmem:=Z8x hs n;by_cases h5:lowB l n<l.length
   . by_cases h6:l[lowB l n]=n
     . have e:n∈l:=hmem.2 (by rw[W07 h5,h6]);simp -implicitDefEqProofs[h4];refine Qgr ?_;simp -implicitDefEqProofs[h5,ia,h6,e]
     . have e:¬n∈l:=λh=>h6 (by have:=hmem.1 h;rw[W07 h5]at this;exact W1L this)
       simp -implicitDefEqProofs[h4];refine Qgr ?_;simp -implicitDefEqProofs[h5,ia,h6];refine Qco (Z8A _) ?_;simp -implicitDefEqProofs[e]
   . have e:¬n∈l:=λh=>by have:=hmem.1 h;rw[W25 (by omega)]at this;cases this
     simp -implicitDefEqProofs[h4];refine Qgr ?_;simp -implicitDefEqProofs[h5,e]
section
open Qq Tryz
def Z8D:RCode :=
 S [R 0 [l 9 1,a [0] (w 10 (.nilck (.t 9))),a [1] (f 11 0 10),a [2] (f 12 0 11),a [3] (l 13 12),l 14 2,a [4,5] (w 15 (.call 216 [.t 13,.t 14,.c (.func (.func 217) [] [])])),a [6] (m 8 15),a [7] (x 16 0 8),a [7] (x 17 1 8),a [8,6,0,1,2,3,4,5,6,7,8] (m 4 16),a [9,10,0,1,2,3,4,5,6,7,8,9,10] (m 5 17)],r 1 [l 18 1,w 19 (.nilck (.t 18)),f 20 0 19,f 21 0 20,l 22 21,m 23 4,w 24 (.slc 5 (.t 22) (some (.t 23)) none),e 25 24,n 26 O],.block 0 (.loop (S [r 2 [o 27 .lss 26 25],.cond (.t 27) .skip (.exit 0),.block 1 (S [r 3 [i 28 5 24 26,L 29 5 28,w 7 (.alloc [O,O,.int .u8 0,.nils,.nils]),s 5 7 29],r 4 [f 30 0 7,l 31 30,l 32 2,o 33 .neq 31 32,m 34 33,g 34 false (m 35 0),g 34 false (L 36 5 7),g 34 false (w 37 (.callv (.t 35) [.t 36])),g 34 false (t 38 37),u 39 34 38],.cond (.t 39) .ret .skip]),r 5 [k 40 .add 26 I,m 26 40]]))]
end
section
variable {P:Program} {N:Nat} {c:Code}
def Z8E {a b:RCode} (h:Z1A P N c (.seq a b)=true):∃ c1 c2,c = .seq c1 c2/\Z1A P N c1 a=true/\Z1A P N c2 b=true:=by
 cases c <;> simp only[Z1A,W05,W01]at h
 exact ⟨_,_,rfl,h.1,h.2⟩
def Z8F {id:Nat} {a:RCode} (h:Z1A P N c (.block id a)=true):∃ c1,c = .block id c1/\Z1A P N c1 a=true:=by
 cases c <;> simp only[Z1A,W05,W01,W0A]at h
 obtain ⟨rfl,h⟩:=h;exact ⟨_,rfl,h⟩
def Z8G {a:RCode} (h:Z1A P N c (.loop a)=true):∃ c1,c = .loop c1/\Z1A P N c1 a=true:=by
 cases c <;> simp only[Z1A,W05]at h
 exact ⟨_,rfl,h⟩
def Z8H {id:Nat} {rs:List ROper} (h:Z1A P N c (.reg id false rs)=true):∃ ops,c = .region id ops false/\allB2 (Z1z P N ops) ops.toList rs=true:=by
 cases c <;> simp only[Z1A,W05,W01,W0A]at h
 obtain ⟨⟨⟨rfl,rfl⟩,h⟩,-⟩:=h;exact ⟨_,rfl,h⟩
end
section
variable {P:Program} {R:Run} {rd:Option Nat} {m:Nat} {ops:Array Oper} {Q:Exit->Act->World->Prop}
def Z8I (l2:List Nat):∀ (l:List Nat) (rs':List ROper) (st:St) (K:St->Prop) (a:Act) (W:World),
  (∀ (i:Nat) (r:ROper),rs'[i]? = some r->∃ (j:Nat) (o:Oper),l[i]? = some j/\ops[j]? = some o/\Z1z P R.N ops o r=true)->l.length=rs'.length->(∀ st' a' W',K st'->SR R st' a' W'->wpOpsIn (FW rd) m P ops Q l2 a' W') ->
  RW P R.G rs' st (λe s=>e = .normal/\K s)->SR R st a W->wpOpsIn (FW rd) m P ops Q (l++l2) a W:=by
 intro l
 induction l with
 | nil =>
   intro rs' st K a W hok hl hK hr hs
   cases rs' with
   |nil=>exact hK st a W hr.2 hs
   |cons r rs'=>simp at hl
 | cons j l ih =>
   intro rs' st K a W hok hl hK hr hs
   cases rs' with
   |nil=>simp at hl
   | cons r rs' =>
     obtain ⟨j',o,hj,ho,hk⟩:=hok 0 r rfl;simp at hj;subst hj
     have go:∀ (st':St) (a':Act) (W':World),RW P R.G rs' st' (λe s=>e = .normal/\K s)->SR R st' a' W'->wpOpsIn (FW rd) m P ops Q (l++l2) a' W':=λst' a' W' h2 hs' =>
      ih rs' st' K a' W' (λi r hi=>by simpa using hok (i+1) r (by simpa using hi)) (by simpa using hl) hK h2 hs'
     rw[W1e,wpOpsIn_cons];rcases Z22 hr with ⟨st',h1,h2⟩ | ⟨hw,g,args,hi,hc⟩
     . exact Z26 h1 ho hk hs λa' W' hs'=>go st' a' W' h2 hs'
     . obtain ⟨κ,hκ⟩:=hs;have hk0:=hk;simp only[Z1z,W01,W0b]at hk;obtain ⟨⟨⟨hd,hdn⟩,-⟩,-⟩:=hk;have hdn':∀ n,r.d=some n->n<R.N:=λn e=>by rw[e]at hdn;simpa using hdn
       refine Z25 hi hw ho hk0 hκ λvs ha=>?_
       rcases hc with ⟨v,st1,hc,hn⟩ | ⟨ch,hc,hn⟩
       . obtain ⟨h1,h2⟩:=hc R a W κ vs rfl hκ ha;refine ⟨h1,h2.mono ?_⟩;rintro e W' ⟨u,κ1,rfl,h3,h4⟩;refine go _ _ _ hn ⟨κ1,?_⟩;rw[hd];exact h3.putd hdn' h4
       . exact absurd hn.1 (by simp)
end
def Z8J (M:Nat->Prop) (W:World) (N:Nat) (rd:Option Nat):Run :=
 { G:=λ_=>none,M:=M,X:=λ_=>False,W0:=W,N:=N,E0:={ M:=M,loc:=λ_=>none,row:=λ_=>none },rd:=rd,nm:=true }
def TT' (M:Nat->Prop) (W:World) (t:List (Nat×AV)) (a:Act):Prop:=∀ n x,lk t n=some x->PV M W x (a.tmps.getD n Go.undef)
def Z8K {M:Nat->Prop} {W:World} {N:Nat} {rd:Option Nat} {t:List (Nat×AV)} {a:Act} (hM:∀ b,M b->b<W.heap.size) (hd:a.defers=[]) (hN:a.tmps.size=N) (ht:TT' M W t a):SR (Z8J M W N rd) ⟨t,[]⟩ a W:=by
 have hGM:∀ b,b<W.heap.size->¬M b->¬((⟨t,[]⟩ : St).env M (λ_=>none)).M b/\W.heap[b]? = W.heap[b]?:=λb _ h1=>⟨(by rintro (h2 | ⟨k,s,h2⟩) <;> first|exact h1 h2|cases h2),rfl⟩
 refine ⟨λ_=>none,⟨[],by simp[hd,Z8J],.nil,by simp,λ_=>rfl⟩,hN,λn x hx=>.pv ((ht n x hx).mono hGM (W0f _)),(λk o ho=>by simp[St.get,lk]at ho),(λk p hk=>by cases hk),(λk k' b s s' hk=>by cases hk),hM,λ_ _ h=>h,Kp.refl _ _,(λg cs hg=>by cases hg),⟨W0f _,hGM,λk p hk=>(by cases hk),λk sz m hk=>(by cases hk)⟩,λ_ _=>⟨rfl,rfl⟩⟩
def Z8L {M:Nat->Prop} {W W':World} {N:Nat} {rd:Option Nat} {st:St} {a:Act} (h:SR (Z8J M W N rd) st a W') {t:List (Nat×AV)} (hw:Ym st ⟨t,[]⟩) (hp:∀ q∈t,q.2.pure=true) :
  a.defers=[]/\a.tmps.size=N/\TT' M W' t a/\Ext W W':=by
 obtain ⟨κ,hk⟩:=hw _ _ _ h;obtain ⟨cs,e,-,-,hz⟩:=hk.defers
 have hκ:∀ k,κ k=none:=λk=>by
  cases e:κ k with
  |none=>rfl
  |some p=>obtain ⟨o,ho⟩:=hk.dom k p e;simp[St.get,lk]at ho
 refine ⟨by rw[e,hz rfl];rfl,hk.size,λn x hx=>?_,⟨hk.kp.os,hk.kp.tape,hk.kp.output,hk.kp.size,λi hi=>hk.kp.block i hi (λh=>h)⟩⟩;refine ((hk.tm n x hx).toPV (hp (n,x) (Z4J hx))).mono (λb _ hb=>⟨λh=>hb (.inl h),rfl⟩) (W0f _)
def Z8M {P:Program} {R:Run} {st:St} {a:Act} {W:World} {κ:Nat->Option (Nat×Nat)} {rd:Option Nat} {m:Nat} {ops:Array Oper} {r:ROper} {j l:Nat} {o:Oper} {f y:RA} {K:Act->World->Prop} {Q:Exit->Act->World->Prop}
  (hr:r.op = .callv f [y]) (hf:evA R.G st f = .func (.yield l) [] []) (hw:wants st r.guard=some true) (ho:ops[j]? = some o) (hk:Z1z P R.N ops o r=true) (hκ:SK R st a W κ)
  (hc:∀ u,VR (st.env R.M κ) W (evA R.G st y) u->YieldAt (FW rd) (m-1) P l #[u] W fun
   |.returned v,W'=>K (a.put o.dst v) W'
   |.panicked ch,W'=>Q (.panic ch) a W'
   |.outgrown,_=>LetsOut Q):wpOpIn (FW rd) m P ops Q j K a W:=by
 simp only[Z1z,W01,W0b]at hk;obtain ⟨⟨⟨hd,hdn⟩,hop⟩,hg⟩:=hk;unfold wpOpIn;simp only[ho];rw[if_pos (Z20 hκ hg hw)];rw[hr]at hop;simp only[Z1y,if_true,Z1x]at hop
 split at hop <;> try (simp at hop;done)
 . simp_all
 . simp_all
 . rename_i r0 x xs ats y' ys e1 e2;simp only[W01]at hop;simp only[ROp.callv.injEq]at e2;obtain ⟨rfl,rfl⟩:=e2;have hx:=hκ.ev hop.1;rw[hf]at hx;obtain ⟨us,vs,hv1,hv2,hv3⟩:=hx.func_inv
   obtain rfl:us = #[]:=by
    have:=hv2.1;rw[<- W16];exact W0l.1 (by simpa using this)
   obtain rfl:vs = #[]:=by
    have:=hv3.1;rw[<- W16];exact W0l.1 (by simpa using this)
   cases xs with
   |nil=>simp[allB2]at hop
   | cons z xs =>
     cases xs with
     |cons _ _=>simp[allB2]at hop
     | nil =>
       have hz:=hκ.ev (show okA z y=true by simpa [allB2] using hop.2);obtain ⟨fn,tmps,assign,body,h1,h2⟩:=hc _ hz;refine ⟨λ_ _=>trivial,?_⟩;rw[Oper.semAt_eq _ _ _ (λc e=>by rw[e1]at e;cases e)]
       have:(execOp a.eval o).run P W = .ok (.round l fn tmps assign body) W:=by
        rw[<- h1];simp[execOp,e1,resolve,hv1,Deferred.ofValue,invoke,Sem.run_bind]
       rw[this];exact ⟨Z24,h2⟩
def elsOf (r:Jr) (n:Int):List AV:=(r.filter (λx=>decide (x.d=n))).map (λx=>.agg (isa x))
def Z8N {n:Int}:∀ (l:Jr),(l.map (·.d)).Pairwise (· <= ·)->(∀ x∈l,n<=x.d) ->
  (l.filter (λx=>decide (x.d=n))).length<=l.length/\(∀ i,i<(l.filter (λx=>decide (x.d=n))).length->(l.filter (λx=>decide (x.d=n)))[i]? = l[i]? /\ ∀ x,l[i]? = some x->x.d=n) /\
   ∀ x,l[(l.filter (λx=>decide (x.d=n))).length]? = some x->x.d≠n
 |[],_,_=>by simp
 | y :: l,hs,hg=>by
   simp only[W0F,W1l]at hs;obtain ⟨h1,h2,h3⟩:=Z8N l hs.2 λx hx=>hg x (W0z _ hx)
   by_cases hy:y.d=n
   . have e:(y::l).filter (λx=>decide (x.d=n))=y::l.filter (λx=>decide (x.d=n)):=(by simp[hy]);rw[e];refine ⟨by simpa using h1,λi hi=>?_,λx hx=>h3 x (by simpa using hx)⟩
     cases i with
     |zero=>exact ⟨rfl,λx hx=>by simp at hx;subst hx;exact hy⟩
     |succ i=>exact ⟨by simpa using (h2 i (by simpa using hi)).1,λx hx=>(h2 i (by simpa using hi)).2 x (by simpa using hx)⟩
   . have gt:n<y.d:=by have:=hg y (W0H ..);omega
     have e:(y::l).filter (λx=>decide (x.d=n))=[]:=by
      rw[W2m];intro x hx;rcases W0g.1 hx with rfl|hx
      . simpa using hy
      . have:=hs.1 x.d (W0i.2 ⟨x,hx,rfl⟩);simp;omega
     rw[e];refine ⟨by simp,by simp,λx hx=>?_⟩;simp at hx;subst hx;exact hy
def Z8O {r:Jr} {n:Int} (hs:(r.map (·.d)).Pairwise (· <= ·)):∃ cnt,cnt=(r.filter (λx=>decide (x.d=n))).length/\cnt<=(r.drop (lowB (r.map (·.d)) n)).length /\
  (∀ i,i<cnt->(r.filter (λx=>decide (x.d=n)))[i]? = (r.drop (lowB (r.map (·.d)) n))[i]? /\ ∀ x,(r.drop (lowB (r.map (·.d)) n))[i]? = some x->x.d=n)/\(∀ x,(r.drop (lowB (r.map (·.d)) n))[cnt]? = some x->x.d≠n):=by
 have e:r.filter (λx=>decide (x.d=n))=(r.drop (lowB (r.map (·.d)) n)).filter (λx=>decide (x.d=n)):=by
  conv=>lhs;rw[<- W11 (lowB (r.map (·.d)) n) r]
  rw[W1a]
  have:(r.take (lowB (r.map (·.d)) n)).filter (λx=>decide (x.d=n))=[]:=by
   rw[W2m];intro x hx;obtain ⟨i,hi,rfl⟩:=W0k hx;simp only[W15]at hi;have:=(Z8v hs n i (by simp;omega)).1 (by omega);simp only[W1w]at this;simp only[W1V];simp;omega
  rw[this,W18]
 refine ⟨_,rfl,?_⟩;rw[e];refine Z8N _ ?_ λx hx=>?_
 . rw[List.map_drop];exact hs.sublist (List.drop_sublist _ _)
 . obtain ⟨i,hi,rfl⟩:=W0k hx;simp only[List.length_drop]at hi;have q:=Z8v hs n (lowB (r.map (·.d)) n+i) (by simp;omega);simp only[W1w]at q;simp only[List.getElem_drop];by_cases h:r[lowB (r.map (·.d)) n+i].d<n
   . have:=q.2 h;omega
   . omega
def Z8P (a b:Int):PC prog G 107 [.int .i64 a,.int .i64 b] (.int .i64 (if a<b then -1 else if b<a then 1 else 0)):=by
 (refine Z77 rfl λR hG hrd=>Qga ?_;subst hG)
 by_cases h1:a<b
 . simp -implicitDefEqProofs[Z75,Z76];refine Qco (Z8z a) ?_;simp -implicitDefEqProofs;refine Qco (Z8z b) ?_;simp -implicitDefEqProofs[h1]
 . by_cases h2:b<a
   . simp -implicitDefEqProofs[Z75,Z76];refine Qco (Z8z a) ?_;simp -implicitDefEqProofs;refine Qco (Z8z b) ?_;simp -implicitDefEqProofs[h1,h2]
   . simp -implicitDefEqProofs[Z75,Z76];refine Qco (Z8z a) ?_;simp -implicitDefEqProofs;refine Qco (Z8z b) ?_;simp -implicitDefEqProofs[h1,h2]
def Z8Q (x:Iss) (n:Int):PC prog G 217 [.agg (isa x),.int .i64 n] (.int .i64 (if x.d<n then -1 else if n<x.d then 1 else 0)):=by
 (refine Z7g rfl λR hG hrd=>Qga ?_;subst hG)
 simp -implicitDefEqProofs[Z7e,Z7f,isa];refine Qco (Z8P _ _) ?_;simp -implicitDefEqProofs
def Z8R (r:Jr) (n:Int) (hs:(r.map (·.d)).Pairwise (· <= ·)) (hl:Sml r):∃ b,PC prog G 216 [.vsl (r.map isa),.int .i64 n,.func (.func 217) [] []] (.tup [.int .i64 (lowB (r.map (·.d)) n),.bool b]):=by
 have hle:=Z8u (r.map (·.d)) n;simp only[W0N]at hle;refine ⟨if h:lowB (r.map (·.d)) n<r.length then decide ((if r[lowB (r.map (·.d)) n].d<n then (-1:Int) else if n<r[lowB (r.map (·.d)) n].d then 1 else 0)=0) else false,?_⟩
 (refine Z7a rfl λR hG hrd=>Qga ?_;subst hG)
 unfold Sml at hl;simp -implicitDefEqProofs[Z78,Z79];refine Z1Q (λp:Nat×Nat=>⟨[(10,.int .i64 p.2),(9,.int .i64 p.1),(8,.int .i64 r.length),(0,.vsl (r.map isa)),(1,.int .i64 n),(2,.func (.func 217) [] [])],[]⟩) (λp=>p.1<=lowB (r.map (·.d)) n/\lowB (r.map (·.d)) n<=p.2/\p.2<=r.length) (λp=>p.2-p.1) (0,r.length) (by (first|exact Wka|exact Wkb)) ⟨by omega,hle,W0f _⟩ ?_;rintro ⟨lo,hi⟩ ⟨h1,h2,h3⟩;simp only at h1 h2 h3;refine Qga ?_;by_cases h4:lo<hi
 . obtain ⟨m,hm⟩:=Qex ((lo+hi) / 2);have hw:=Z8y (i:=lo) (j:=hi) (by omega);rw[<- hm]at hw;have m1:m<r.length:=(by omega);have w1:i64.wrap ((m:Int)+1)=((m+1:Nat):Int):=Yf;have hb:=Z8v hs n m (by simpa using m1);simp only[W1w]at hb;by_cases h5:r[m].d<n
   . have c1:(-1:Int)<0:=(by omega);simp -implicitDefEqProofs[h4,hw,m1,isa];refine Qco (Z8Q r[m] n) ?_;simp -implicitDefEqProofs[h5,w1];exact ⟨(m+1,hi),(by (first|exact Wka|exact Wkb)),⟨by have:=hb.2 h5;show m+1<=_;omega,h2,h3⟩,by show hi-(m+1)<hi-lo;omega⟩
   . simp -implicitDefEqProofs[h4,hw,m1,isa];refine Qco (Z8Q r[m] n) ?_;by_cases h6:n<r[m].d
     . simp -implicitDefEqProofs[h5,h6];exact ⟨(lo,m),(by (first|exact Wka|exact Wkb)),⟨h1,by have:¬m<lowB (r.map (·.d)) n:=λh=>h5 (hb.1 h);show _<=m;omega,by show m<=_;omega⟩,by show m-lo<hi-lo;omega⟩
     . simp -implicitDefEqProofs[h5,h6];exact ⟨(lo,m),(by (first|exact Wka|exact Wkb)),⟨h1,by have:¬m<lowB (r.map (·.d)) n:=λh=>h5 (hb.1 h);show _<=m;omega,by show m<=_;omega⟩,by show m-lo<hi-lo;omega⟩
 . obtain rfl:lo=lowB (r.map (·.d)) n:=(by omega);by_cases h5:lowB (r.map (·.d)) n<r.length
   . simp -implicitDefEqProofs[h4];refine Qgr ?_;simp -implicitDefEqProofs[h5,isa];refine Qco (Z8Q r[lowB (r.map (·.d)) n] n) ?_;simp -implicitDefEqProofs
   . simp -implicitDefEqProofs[h4];refine Qgr ?_;simp -implicitDefEqProofs[h5]
def issA:RCode->RCode
 |.seq a _=>a
 |c=>c
def Z8S:RCode->RCode
 |.seq _ b=>b
 |c=>c
def issB1 (c:RCode):RCode:=issA (Z8S c)
def issB2 (c:RCode):RCode:=Z8S (Z8S c)
def issB3 (c:RCode):RCode:=match issB2 c with
 |.block _ b=>b
 |c=>c
def issL (c:RCode):RCode:=match issB3 c with
 |.loop b=>b
 |c=>c
def issBk:RCode->RCode
 |.block _ b=>b
 |c=>c
def Z8T:RCode->List ROper
 |.reg _ _ l=>l
 |_=>[]
def itS (seg:Jr) (bk:AV) (n:Int) (l i:Nat):List (Nat×AV) :=
 [(26,.int .i64 i),(25,.int .i64 seg.length),(24,.vsl (seg.map isa)),(2,.vptr [.int .i64 n] 0),(1,.vptr [bk] 0),(0,.func (.yield l) [] [])]
def Z8U (r:Jr) (n:Int) (ds:AV) (hs:(r.map (·.d)).Pairwise (· <= ·)) (hl:Sml r):IterP prog 215 [.vptr [.vptr [.vsl (r.map isa),ds] 0] 0,.vptr [.int .i64 n] 0] (elsOf r n):=by
 refine ⟨by kernel_rfl,?_⟩;intro n' l lb J K M W hn hJe hKe hJM hC hY h0;obtain ⟨cnt,hcnt,hc1,hc2,hc3⟩:=Z8O (n:=n) hs;generalize hseg:r.drop (lowB (r.map (·.d)) n)=seg at hc1 hc2 hc3;have hsl:seg.length<=16777216:=(by rw[<- hseg];simp;unfold Sml at hl;omega);have hle:=Z8u (r.map (·.d)) n;simp only[W0N]at hle;unfold Sml at hl;have hel:(elsOf r n).length=cnt:=(by rw[hcnt];simp[elsOf]);obtain ⟨c,hc,hok⟩ : ∃ c,Tryz.f215.body=some c/\Z1A prog Tryz.f215.ntmps c Z8D=true:=⟨_,rfl,by kernel_rfl⟩;obtain ⟨N,hN⟩:=Qex Tryz.f215.ntmps;have hN3:3<=N:=(by rw[hN];decide);rw[<- hN]at hok;refine callsIn_of_wp (F:=Fence.wide) Tryz.func215 hc trivial ?_ rfl
 have hres:∀ (tm:Array Value) (W':World),(results Tryz.f215 tm).run prog W' = .ok (.tuple #[]) W':=λtm W'=>by
  have e:Tryz.f215.results = #[]:=rfl;simp[results,e,Sem.run_bind]
 obtain ⟨Q,hQ⟩:=Qex (bodyPost prog Tryz.f215 (λe W'=>(∃ v,e = .returned v)/\((∃ M,J (elsOf r n).length M W')∨K W')))
 have hfin:∀ (a:Act) (W':World),a.defers=[]->((∃ M,J (elsOf r n).length M W')∨K W')->Q .ret a W'/\Q .normal a W':=λa W' hd h=>by
  rw[hQ];exact ⟨⟨hd,_,hres _ _,⟨_,rfl⟩,h⟩,⟨hd,_,hres _ _,⟨_,rfl⟩,h⟩⟩
 rw[<- hQ];have hwide:Fence.wide=FW none:=rfl;rw[hwide];obtain ⟨cA,c1,rfl,okA',ok1⟩:=Z8E (a:=issA Z8D) (b:=Z8S Z8D) hok;obtain ⟨cB,c2,rfl,okB',ok2⟩:=Z8E (a:=issB1 Z8D) (b:=issB2 Z8D) ok1;obtain ⟨c3,rfl,ok3⟩:=Z8F (id:=0) (a:=issB3 Z8D) ok2;obtain ⟨c4,rfl,ok4⟩:=Z8G (a:=issL Z8D) ok3
 have hbk:∃ v1 v2,lb = #[v1,v2]/\PV M W (.vptr [.vptr [.vsl (r.map isa),ds] 0] 0) v1/\PV M W (.vptr [.int .i64 n] 0) v2:=by
  obtain ⟨h1,h2⟩:=hC
  match lb,h1,h2 with
  | ⟨[v1,v2]⟩,_,h2=>exact ⟨v1,v2,rfl,h2 0 _ v1 rfl rfl,h2 1 _ v2 rfl rfl⟩
 obtain ⟨v1,v2,rfl,hv1,hv2⟩:=hbk;obtain ⟨bk,hbk⟩:=Qex (AV.vptr [.vsl (r.map isa),ds] 0);rw[<- hbk]at hv1
 have start:SR (Z8J M W N none) ⟨[(2,.vptr [.int .i64 n] 0),(1,.vptr [bk] 0),(0,.func (.yield l) [] [])],[]⟩ { tmps:=(#[.func (.yield l) #[] #[]] ++ #[v1,v2]:Array Value)++Array.replicate (N-3) Go.undef,defers:=[] } W:=by
  refine Z8K (hJM 0 M W h0) rfl (by simp;omega) λk x hx=>?_
  have g0:((#[.func (.yield l) #[] #[]] ++ #[v1,v2]:Array Value)++Array.replicate (N-3) Go.undef).getD 0 Go.undef = .func (.yield l) #[] #[]:=(by simp[Array.getD]);have g1:((#[.func (.yield l) #[] #[]] ++ #[v1,v2]:Array Value)++Array.replicate (N-3) Go.undef).getD 1 Go.undef=v1:=(by simp[Array.getD];omega);have g2:((#[.func (.yield l) #[] #[]] ++ #[v1,v2]:Array Value)++Array.replicate (N-3) Go.undef).getD 2 Go.undef=v2:=(by simp[Array.getD];omega);simp only[lk]at hx
  split at hx
  . rename_i e;subst e;cases hx;rw[g2];exact hv2
  . split at hx
    . rename_i e;subst e;cases hx;rw[g1];exact hv1
    . split at hx
      . rename_i e;subst e;cases hx;rw[g0];exact .func _ [] [] #[] #[] rfl rfl (by simp) (by simp)
      . cases hx
 have hact:({ tmps:=(#[.func (.yield l) #[] #[]] ++ #[v1,v2]:Array Value)++Array.replicate (Tryz.f215.ntmps-(#[.func (.yield l) #[] #[]] ++ #[v1,v2]:Array Value).size) Go.undef,defers:=[] }:Act)={ tmps:=(#[.func (.yield l) #[] #[]] ++ #[v1,v2]:Array Value)++Array.replicate (N-3) Go.undef,defers:=[] }:=(by rw[hN];rfl);rw[hact]
 have arA:AR prog (Z8J M W N none) (issA Z8D) ⟨[(2,.vptr [.int .i64 n] 0),(1,.vptr [bk] 0),(0,.func (.yield l) [] [])],[]⟩ (λe s=>e = .normal/\Ym s ⟨[(4,.int .i64 (lowB (r.map (·.d)) n)),(2,.vptr [.int .i64 n] 0),(1,.vptr [bk] 0),(0,.func (.yield l) [] [])],[]⟩):=by
  obtain ⟨b,hb⟩:=Z8R (G:=λ_=>none) r n hs hl;refine Qga ?_;simp -implicitDefEqProofs[issA,Z8D,hbk];refine Ye.of hb (by simp[AV.pure]) ?_;simp -implicitDefEqProofs;exact ⟨rfl,(by (first|exact Wka|exact Wkb))⟩
 have hdr:List.drop (lowB (r.map (·.d)) n) (r.map isa)=seg.map isa:=(by rw[<- List.map_drop,hseg]);have hsg:seg.length=r.length-lowB (r.map (·.d)) n:=(by rw[<- hseg];simp);have htk:List.take r.length (r.map isa)=r.map isa:=W0J (by simp);have k5:(r.map isa).all (λr=>r.length == 5)=true:=by simp[isa]
 have arB:∀ R':Run,AR prog R' (issB1 Z8D) ⟨[(4,.int .i64 (lowB (r.map (·.d)) n)),(2,.vptr [.int .i64 n] 0),(1,.vptr [bk] 0),(0,.func (.yield l) [] [])],[]⟩ (λe s=>e = .normal/\Ym s ⟨itS seg bk n l 0,[]⟩):=λR'=>by
  refine Qga ?_;simp -implicitDefEqProofs[issA,issB1,Z8S,Z8D,hbk,hle,k5,hdr];exact (by (first|exact Ym.tm (by simp[lk,itS,hsg,htk,hdr])|exact Ym.sub (by simp[lk,Ya,AV.keys,itS,hsg,htk,hdr]) (by simp[lk,Yc,Ya,AV.keys,itS,hsg,htk,hdr])))
 refine wpIn_seq (wpIn_mono (arA cA okA' _ _ W start) ?_);rintro e a1 W1 ⟨s1,⟨rfl,hw1⟩,hs1⟩;refine wpIn_seq (wpIn_mono (arB _ cB okB' _ a1 W1 (hw1 _ _ _ hs1)) ?_);rintro e a2 W2 ⟨s2,⟨rfl,hw2⟩,hs2⟩;obtain ⟨d2,n2,t2,e2⟩:=Z8L hs2 hw2 (by simp[itS,AV.pure,hbk]);have hJ2:=hJe _ _ _ _ h0 e2;clear hs2 hw2 hs1 hw1 arA arB start hact;refine wpIn_block ?_;refine wpIn_loop_ghost (λm a A=>∃ i M,i<=cnt/\m=seg.length-i/\J i M A/\a.defers=[]/\a.tmps.size=N/\TT' M A (itS seg bk n l i) a) seg.length ⟨0,M,W1f _,by simp,hJ2,d2,n2,t2⟩ ?_;clear hJ2 d2 n2 t2 e2 h0 hv1 hv2 hC;rintro m a A ⟨i,M,hi,rfl,hJ,hd,hn2,ht⟩;have hfr:SR (Z8J M A N none) ⟨itS seg bk n l i,[]⟩ a A:=Z8K (hJM i M A hJ) hd hn2 ht;by_cases hlt:i<seg.length
 case neg =>
  have hic:i=cnt:=(by omega);subst hic
  have ar:∀ R':Run,AR prog R' (issL Z8D) ⟨itS seg bk n l i,[]⟩ (λe s=>e = .exit 0/\Ym s ⟨[],[]⟩):=λR'=>by
   refine Qga ?_;simp -implicitDefEqProofs[issL,issB3,issB2,Z8S,Z8D,itS,hlt];exact (by (first|exact Wka|exact Wkb))
  refine wpIn_mono (ar _ c4 ok4 _ a A hfr) ?_;rintro e a3 A3 ⟨s3,⟨rfl,hw3⟩,hs3⟩;obtain ⟨d3,-,-,e3⟩:=Z8L hs3 hw3 (by simp);refine (hfin a3 A3 d3 (.inl ⟨M,?_⟩)).2;rw[hel];exact hJe _ _ _ _ hJ e3
 by_cases hd2:seg[i].d=n
 case neg =>
  have hic:i=cnt:=by
   by_cases e:i<cnt
   . exact absurd ((hc2 i e).2 _ (W07 hlt)) hd2
   . omega
  subst hic
  have ar:∀ R':Run,AR prog R' (issL Z8D) ⟨itS seg bk n l i,[]⟩ (λe s=>e = .ret/\Ym s ⟨[],[]⟩):=λR'=>by
   refine Qga ?_;simp -implicitDefEqProofs[issL,issB3,issB2,Z8S,Z8D,itS,hlt,isa,hd2];exact (by (first|exact Wka|exact Wkb))
  refine wpIn_mono (ar _ c4 ok4 _ a A hfr) ?_;rintro e a3 A3 ⟨s3,⟨rfl,hw3⟩,hs3⟩;obtain ⟨d3,-,-,e3⟩:=Z8L hs3 hw3 (by simp);refine (hfin a3 A3 d3 (.inl ⟨M,?_⟩)).1;rw[hel];exact hJe _ _ _ _ hJ e3
 have hic:i<cnt:=by
  by_cases e:i<cnt
  . exact e
  . exact absurd hd2 (hc3 _ (by rw[show cnt=i by omega];exact W07 hlt))
 have helt:(elsOf r n)[i]? = some (.agg (isa seg[i])):=by
  simp only[elsOf,W09,(hc2 i hic).1,W07 hlt,W0m]
 obtain ⟨L,hL⟩:=Qex (issL Z8D);obtain ⟨r2,q1,rfl,okr2,okq1⟩:=Z8E (a:=issA (issL Z8D)) (b:=Z8S (issL Z8D)) ok4;obtain ⟨k1,q2,rfl,okk1,okq2⟩:=Z8E (a:=issA (Z8S (issL Z8D))) (b:=Z8S (Z8S (issL Z8D))) okq1;obtain ⟨q3,r5,rfl,okq3,okr5⟩:=Z8E (a:=issA (Z8S (Z8S (issL Z8D)))) (b:=Z8S (Z8S (Z8S (issL Z8D)))) okq2;obtain ⟨q4,rfl,okq4⟩:=Z8F (id:=1) (a:=issBk (issA (Z8S (Z8S (issL Z8D))))) okq3;obtain ⟨r3,q5,rfl,okr3,okq5⟩:=Z8E (a:=issA (issBk (issA (Z8S (Z8S (issL Z8D)))))) (b:=Z8S (issBk (issA (Z8S (Z8S (issL Z8D)))))) okq4;obtain ⟨r4,k2,rfl,okr4,okk2⟩:=Z8E (a:=issA (Z8S (issBk (issA (Z8S (Z8S (issL Z8D))))))) (b:=Z8S (Z8S (issBk (issA (Z8S (Z8S (issL Z8D))))))) okq5;obtain ⟨ops,rfl,hops⟩:=Z8H (id:=4) (rs:=Z8T (issA (Z8S (issBk (issA (Z8S (Z8S (issL Z8D)))))))) okr4;obtain ⟨hol,hoo⟩:=Zc hops;have hol:ops.size=10:=hol
 have ar2:AR prog (Z8J M A N none) (issA (issL Z8D)) ⟨itS seg bk n l i,[]⟩ (λe s=>e = .normal/\Ym s ⟨(27,.bool true)::itS seg bk n l i,[]⟩):=by
  refine Qga ?_;simp -implicitDefEqProofs[issL,issB3,issB2,issA,Z8S,Z8D,itS,hlt];exact (by (first|exact Wka|exact Wkb))
 refine wpIn_seq (wpIn_mono (ar2 r2 okr2 _ a A hfr) ?_);rintro e b1 B1 ⟨s1,⟨rfl,w1⟩,hs1⟩
 have ark:AR prog (Z8J M A N none) (issA (Z8S (issL Z8D))) ⟨(27,.bool true)::itS seg bk n l i,[]⟩ (λe s=>e = .normal/\Ym s ⟨itS seg bk n l i,[]⟩):=by
  refine Qga ?_;simp -implicitDefEqProofs[issL,issB3,issB2,issA,Z8S,Z8D,itS];exact (by (first|exact Wka|exact Wkb))
 refine wpIn_seq (wpIn_mono (ark k1 okk1 _ b1 B1 (w1 _ _ _ hs1)) ?_);rintro e b2 B2 ⟨s2,⟨rfl,w2⟩,hs2⟩;refine wpIn_seq (wpIn_block ?_)
 have ar3:AR prog (Z8J M A N none) (issA (issBk (issA (Z8S (Z8S (issL Z8D)))))) ⟨itS seg bk n l i,[]⟩ (λe s=>e = .normal/\Ym s ⟨(7,.ptr 7 0)::itS seg bk n l i,[(7,.box (isa seg[i]))]⟩):=by
  refine Qga ?_;simp -implicitDefEqProofs[issL,issB3,issB2,issA,Z8S,issBk,Z8D,itS,hlt,isa];exact (by (first|exact Wka|exact Wkb))
 refine wpIn_seq (wpIn_mono (ar3 r3 okr3 _ b2 B2 (w2 _ _ _ hs2)) ?_);rintro e b3 B3 ⟨s3,⟨rfl,w3⟩,hs3⟩;have hs3:=w3 _ _ _ hs3;clear hs1 hs2 w1 w2 w3 ar2 ark ar3;refine wpIn_seq (wpIn_region ?_);have hrg:List.range ops.size=[0,1,2,3,4,5,6]++[7,8,9]:=(by rw[hol];rfl);rw[hrg]
 have okAt:∀ (k:Nat) (r:ROper),(Z8T (issA (Z8S (issBk (issA (Z8S (Z8S (issL Z8D))))))))[k]? = some r->∃ o,ops[k]? = some o/\Z1z prog N ops o r=true:=λk r hk=>by
  have hlt:k<ops.size:=by
   have:=(W02.1 hk).1;rw[hol];exact this
  exact ⟨ops[k],by simp[hlt],hoo k _ r (by simp[hlt]) hk⟩
 refine Z8I (R:=Z8J M A N none) [7,8,9] _ ((Z8T (issA (Z8S (issBk (issA (Z8S (Z8S (issL Z8D)))))))).take 7) ⟨(7,.ptr 7 0)::itS seg bk n l i,[(7,.box (isa seg[i]))]⟩
  (λs=>Ym s ⟨(36,.agg (isa seg[i]))::(35,.func (.yield l) [] [])::(34,.bool false)::itS seg bk n l i,[]⟩) b3 B3 ?_ rfl ?_ ?_ hs3
 . intro k r hk;rw[W1m]at hk
   split at hk
   . rename_i h7;obtain ⟨o,h1,h2⟩:=okAt k r hk;refine ⟨k,o,?_,h1,h2⟩
     match k,h7 with
     |0,_|1,_|2,_|3,_|4,_|5,_|6,_=>rfl
   . cases hk
 . intro s4 b4 B4 w4 hs4;obtain ⟨κ4,hk4⟩:=w4 _ _ _ hs4;obtain ⟨d4,n4,t4,e4⟩:=Z8L hs4 w4 (by simp[itS,AV.pure,hbk,isa]);obtain ⟨o7,ho7,hk7⟩:=okAt 7 _ rfl;rw[wpOpsIn_cons];refine Z8M (R:=Z8J M A N none) (l:=l) (f:=.t 35) (y:=.t 36) rfl (by simp[evA,St.tmp,lk]) (by simp[wants,St.tmp,lk]) ho7 hk7 hk4 λu hu=>?_
   have hpu:PV M B4 (.agg (isa seg[i])) u:=by
    have h36:evA (Z8J M A N none).G ⟨(36,.agg (isa seg[i]))::(35,.func (.yield l) [] [])::(34,.bool false)::itS seg bk n l i,[]⟩ (.t 36) = .agg (isa seg[i]):=(by simp[evA,St.tmp,lk]);rw[h36]at hu;exact (hu.toPV (by simp[AV.pure,isa])).mono (λb _ hb=>⟨λh=>hb (.inl h),rfl⟩) (W0f _)
   have hdst:o7.dst=some 37:=by
    simp only[Z1z,W01,W0b]at hk7;exact hk7.1.1.1
   have h34:b4.tmps.getD 34 Go.undef = .bool false:=by
    have:=t4 34 (.bool false) (by simp[lk]);generalize b4.tmps.getD 34 Go.undef=v at this
    cases this;rfl
   have suffix:∀ (b:Bool) (T:List (Nat×AV)) (M':Nat->Prop) (A':World),(T=itS seg bk n l i∨T=[])->(∀ x,M' x->x<A'.heap.size)->TT' M' A' T b4->∀ (Qx:Exit->Act->World->Prop),
     (∀ a5 A5,SR (Z8J M' A' N none) ⟨(39,.bool (!b))::T,[]⟩ a5 A5->Qx .normal a5 A5)->wpOpsIn (FW none) n' prog ops Qx [8,9] (b4.put (some 37) (.bool b)) A':=by
    intro b T M' A' hTT hM' hT Qx hQx;have n37:37<N:=by rw[hN];decide
    have hsr:SR (Z8J M' A' N none) ⟨(37,.bool b)::(34,.bool false)::T,[]⟩ (b4.put (some 37) (.bool b)) A':=by
     refine Z8K hM' d4 (by simpa [Act.put] using n4) λk x hx=>?_
     show PV M' A' x ((b4.tmps.setIfInBounds 37 (.bool b)).getD k Go.undef);simp only[lk]at hx
     split at hx
     . rename_i e;subst e
       cases hx
       have:(b4.tmps.setIfInBounds 37 (.bool b)).getD 37 Go.undef = .bool b:=(by simp[Array.getD,n4,n37]);rw[this];exact .bool b
     . rename_i e
       have h3:(b4.tmps.setIfInBounds 37 (.bool b)).getD k Go.undef=b4.tmps.getD k Go.undef:=by
        simp only[W0a,W0p,if_neg e]
       rw[h3]
       split at hx
       . rename_i e2;subst e2;cases hx;rw[h34];exact .bool false
       . exact hT k x hx
    refine Z27 (R:=Z8J M' A' N none) [8,9] ((Z8T (issA (Z8S (issBk (issA (Z8S (Z8S (issL Z8D)))))))).drop 8) ⟨(37,.bool b)::(34,.bool false)::T,[]⟩
     (λe s=>e = .normal/\Ym s ⟨(39,.bool (!b))::T,[]⟩) Qx _ A' ?_ rfl ?_ ?_ hsr
    . intro k r hk;rw[W13]at hk;obtain ⟨o,h1,h2⟩:=okAt (8+k) r hk
      have h7:k<2:=by
       have:=(W02.1 hk).1;have e:(Z8T (issA (Z8S (issBk (issA (Z8S (Z8S (issL Z8D)))))))).length=10:=rfl;omega
      refine ⟨8+k,o,?_,h1,h2⟩
      match k,h7 with
      |0,_|1,_=>rfl
    . rintro e s5 a5 A5 ⟨rfl,w5⟩ hs5;exact hQx a5 A5 (w5 _ _ _ hs5)
    . rcases hTT with rfl|rfl <;> cases b
      all_goals
       simp -implicitDefEqProofs[issL,issB3,issB2,issA,Z8S,issBk,Z8T,Z8D,itS];exact (by (first|exact Wka|exact Wkb))
   obtain ⟨fn,tm,asg,bo,y1,y2⟩:=hY i _ u M B4 (hJe _ _ _ _ hJ e4) helt hpu;refine ⟨fn,tm,asg,bo,y1,y2.mono ?_⟩;rintro e A' (⟨rfl,M',hJ',hSi⟩ | ⟨rfl,hK'⟩)
   . show wpOpsIn (FW none) n' prog ops _ [8,9] (b4.put o7.dst (.bool true)) A';rw[hdst]
     have hT':TT' M' A' (itS seg bk n l i) b4:=λk x hx=>by
      refine (t4 k x ?_).mono hSi.2 hSi.1;simp only[lk];rw[if_neg (by rintro rfl;simp[itS,lk]at hx),if_neg (by rintro rfl;simp[itS,lk]at hx),if_neg (by rintro rfl;simp[itS,lk]at hx)];exact hx
     refine suffix true _ M' A' (.inl rfl) (hJM _ _ _ hJ') hT' _ λa5 A5 h5=>?_
     have ark2:AR prog (Z8J M' A' N none) (Z8S (Z8S (issBk (issA (Z8S (Z8S (issL Z8D))))))) ⟨(39,.bool (!true))::itS seg bk n l i,[]⟩ (λe s=>e = .normal/\Ym s ⟨itS seg bk n l i,[]⟩):=by
      refine Qga ?_;simp -implicitDefEqProofs[issL,issB3,issB2,issA,Z8S,issBk,Z8D,itS];exact (by (first|exact Wka|exact Wkb))
     refine wpIn_mono (ark2 k2 okk2 _ a5 A5 h5) ?_;rintro e b6 B6 ⟨s6,⟨rfl,w6⟩,hs6⟩
     have ar5:AR prog (Z8J M' A' N none) (Z8S (Z8S (Z8S (issL Z8D)))) ⟨itS seg bk n l i,[]⟩ (λe s=>e = .normal/\Ym s ⟨itS seg bk n l (i+1),[]⟩):=by
      have w1:i64.wrap ((i:Int)+1)=((i+1:Nat):Int):=Yf;refine Qga ?_;simp -implicitDefEqProofs[issL,issB3,issB2,issA,Z8S,issBk,Z8D,itS,w1];exact (by (first|exact Wka|exact Wkb))
     refine wpIn_mono (ar5 r5 okr5 _ b6 B6 (w6 _ _ _ hs6)) ?_;rintro e b7 B7 ⟨s7,⟨rfl,w7⟩,hs7⟩;obtain ⟨d7,n7,t7,e7⟩:=Z8L hs7 w7 (by simp[itS,AV.pure,hbk]);exact ⟨seg.length-(i+1),by omega,i+1,M',by omega,rfl,hJe _ _ _ _ hJ' e7,d7,n7,t7⟩
   . show wpOpsIn (FW none) n' prog ops _ [8,9] (b4.put o7.dst (.bool false)) A';rw[hdst];refine suffix false [] (λ_=>False) A' (.inr rfl) (λ_ h=>h.elim) (λk x hx=>by simp[lk]at hx) _ λa5 A5 h5=>?_
     have ark2:AR prog (Z8J (λ_=>False) A' N none) (Z8S (Z8S (issBk (issA (Z8S (Z8S (issL Z8D))))))) ⟨[(39,.bool (!false))],[]⟩ (λe s=>e = .ret/\Ym s ⟨[],[]⟩):=by
      refine Qga ?_;simp -implicitDefEqProofs[issL,issB3,issB2,issA,Z8S,issBk,Z8D];exact (by (first|exact Wka|exact Wkb))
     refine wpIn_mono (ark2 k2 okk2 _ a5 A5 h5) ?_;rintro e b6 B6 ⟨s6,⟨rfl,w6⟩,hs6⟩;obtain ⟨d6,-,-,e6⟩:=Z8L hs6 w6 (by simp);exact (hfin b6 B6 d6 (.inr (hKe _ _ hK' e6))).1
 . simp -implicitDefEqProofs[issL,issB3,issB2,issA,Z8S,issBk,Z8T,Z8D,itS,isa,hd2];exact (by (first|exact Wka|exact Wkb))
def bkA (r:Jr) (ds:List Int):AV:=.vptr [.vsl (r.map isa),.vsl (ds.map ia)] 0
def Z8V (r:Jr) (ds:List Int):(bkA r ds).pure=true:=by simp[bkA,AV.pure]
attribute [simp] Z8V
def Z8W (r:Jr) (ds:List Int) (n:Int) (hs:ds.Pairwise (· <= ·)) (hl:Sml ds):PC prog G 197 [bkA r ds,.int .i64 n] (.bool (decide (n∈ds))):=by
 (refine Z6S rfl λR hG hrd=>Qga ?_;subst hG)
 simp -implicitDefEqProofs[Z6Q,Z6R,bkA];refine Qco (Z8C ds n hs hl) ?_;simp -implicitDefEqProofs
def Z8X (r:Jr) (ds:List Int) (y:Int×Int) (hs:ds.Pairwise (· <= ·)) (hl:Sml ds):PC prog G 196 [.agg [.int .i64 y.1,.int .i64 y.2],.vptr [bkA r ds] 0] (.bool (!decide (y.1∈ds))):=by
 (refine Z6P rfl λR hG hrd=>Qga ?_;subst hG)
 simp -implicitDefEqProofs[Z6N,Z6O];refine Qco (Z8W r ds y.1 hs hl) ?_;simp -implicitDefEqProofs
def Z8Y (r:Jr) (ds:List Int) (n:Int):PC prog G 211 [bkA r ds,.int .i64 n] (.func (.func 215) [] [.vptr [bkA r ds] 0,.vptr [.int .i64 n] 0]):=by
 (refine Z7d rfl λR hG hrd=>Qga ?_;subst hG)
 simp -implicitDefEqProofs[Z7b,Z7c,bkA]
def cntV (r:Jr) (n:Int):Int:=((r.filter (λx=>decide (x.d=n))).length:Nat)
def Z8Z (r:Jr) (ds:List Int) (d l:Int) (hs:(r.map (·.d)).Pairwise (· <= ·)) (hl:Sml r) (hu:∀ y∈r,findN y.d y.l r=some y):PC prog G 249 [bkA r ds,.agg [.int .i64 d,.int .i64 l]] (fndA (findN d l r)):=by
 (refine Z7j rfl λR hG hrd=>Qga ?_;subst hG)
 simp -implicitDefEqProofs[Z7h,Z7i];refine Qco (Z8Y r ds d) ?_;simp -implicitDefEqProofs
 refine Z59 hrd (Z8U r d (.vsl (ds.map ia)) hs hl) (by simp[evA,St.tmp,lk,bkA]) (by simp[AV.pure]) (λk=>k-1000) [(3,.ptr 1003 0),(4,.ptr 1004 0),(5,.ptr 1005 0)] (λ_=>[(1003,.box [.int .i64 d,.int .i64 l]),(1004,.box [.int .i64 0,.int .i64 0,.int .u8 0,.nils,.nils]),(1005,.box [.bool false])])
  [1003,1004,1005] (λk=>∀ j,j<k->∀ y,(r.filter (λx=>decide (x.d=d)))[j]? = some y->y.l≠l) (by simp) (λ_=>rfl) (by simp) (by simp) (by simp[Yl,St.set,putO,AObj.ren,AV.ren]) (by simp[Yc,Ya,AV.keys]) (by simp[lk,AV.ren,AV.keys]) ?_ ?_
 . intro k x hx hI R' hG hN
   obtain ⟨y,hy,rfl⟩ : ∃ y,(r.filter (λx=>decide (x.d=d)))[k]? = some y/\x = .agg (isa y):=by
    simp only[elsOf,W09,W04]at hx;obtain ⟨y,h1,h2⟩:=hx;exact ⟨y,h1,h2.symm⟩
   have hym:=W0G.1 (W0d hy);have hyd:y.d=d:=W0X hym.2;refine Qga ?_;simp -implicitDefEqProofs[isa];intro R'' hG'' hN'';refine Qga ?_;simp -implicitDefEqProofs;refine Qco (Z8n y) ?_;simp -implicitDefEqProofs;refine ⟨rfl,?_⟩;by_cases e:y.l=l
   . simp -implicitDefEqProofs[hyd,e,RndB,Yi,newK,frzO,frzA,frz,AV.keys,Yl,AObj.ren,AV.ren];refine Qgr ?_
     have hf:findN d l r=some y:=by
      have:=hu y hym.1;rw[hyd,e]at this;exact this
     simp -implicitDefEqProofs[hf,fndA,isa,hyd,e]
   . simp -implicitDefEqProofs[hyd,e,RndB,Yi,newK,frzO,frzA,frz,AV.keys];intro j hj z hz;by_cases e2:j=k
     . subst e2;rw[hy]at hz;cases hz;exact e
     . exact hI j (by omega) z hz
 . intro hI
   have hn:findN d l r=none:=by
    cases hf:findN d l r with
    |none=>rfl
    | some y =>
      obtain ⟨h1,h2,h3⟩:=Z88 hf;obtain ⟨j,hj,he⟩:=W0k (show y∈r.filter (λx=>decide (x.d=d)) from W0G.2 ⟨h1,W0M h2⟩);exact absurd h3 (hI j (by simp[elsOf];exact hj) y (by rw[W07 hj,he]))
   simp -implicitDefEqProofs[Yl,AObj.ren,AV.ren];refine Qgr ?_;simp -implicitDefEqProofs[hn,fndA,noIs]
def dpA (dp:List (Int×Int)):List (AV×AV):=dp.map λp=>(.int .i64 p.1,.int .i64 p.2)
def lfA (lf:List Int):List (AV×AV):=lf.map λn=>(.int .i64 n,.bool true)
def dpLk (n:Int):List (Int×Int)->Option Int
 |[]=>none
 |p::r=>if n=p.1 then some p.2 else dpLk n r
def dpG (dp:List (Int×Int)) (n:Int):Int:=(dpLk n dp).getD 0
def Z90 (n:Int):∀ dp:List (Int×Int),∃ o:Option Nat,(KK.i .i64).find (.int .i64 n) (dpA dp)=some o/\match o with
  |some j=>∃ v,dp[j]? = some (n,v)/\dpLk n dp=some v
  |none=>dpLk n dp=none/\∀ p∈dp,p.1≠n
 |[]=>⟨none,rfl,rfl,by simp⟩
 | p :: r=>by
   obtain ⟨o,h1,h2⟩:=Z90 n r;by_cases e:n=p.1
   . refine ⟨some 0,by simp[dpA,KK.find,KK.eq,e],p.2,by simp[e],by simp[dpLk,e]⟩
   . refine ⟨o.map (· + 1),?_,?_⟩
     . simp only[dpA,W0F,KK.find,KK.eq,and_self,if_true,e,W1x];rw[show r.map (λp=>(AV.int .i64 p.1,AV.int .i64 p.2))=dpA r from rfl,h1];rfl
     . cases o with
       |none=>exact ⟨by simp only[dpLk,e,if_false];exact h2.1,λq hq=>by
        rcases W0g.1 hq with rfl|hq
        . exact λh=>e h.symm
        . exact h2.2 q hq⟩
       | some j =>
         obtain ⟨v,h3,h4⟩:=h2;exact ⟨v,by simpa using h3,by simp only[dpLk,e,if_false];exact h4⟩
def Z91 (n:Int) (dp:List (Int×Int)):(KK.i .i64).get (.int .i64 n) (dpA dp)=some ((dpLk n dp).map λv=>.int .i64 v):=by
 obtain ⟨o,h1,h2⟩:=Z90 n dp;have hi:(KK.i .i64).is (.int .i64 n)=true:=(by simp[KK.is]);unfold KK.get;rw[if_pos hi,h1]
 cases o with
 |none=>simp[h2.1]
 |some j=>obtain ⟨v,h3,h4⟩:=h2;simp[dpA,h3,h4]
def Z92 {n:Int} (v:Int) {dp:List (Int×Int)} (h:n ∉ dp.map (·.1)):(KK.i .i64).put (.int .i64 n) (.int .i64 v) (dpA dp)=some (dpA (dp++[(n,v)])):=by
 obtain ⟨o,h1,h2⟩:=Z90 n dp;have hi:(KK.i .i64).is (.int .i64 n)=true:=(by simp[KK.is]);unfold KK.put;rw[if_pos hi,h1]
 cases o with
 |none=>simp[dpA]
 | some j =>
   obtain ⟨w,h3,h4⟩:=h2;exact absurd (W0i.2 ⟨_,W0d h3,rfl⟩) h
def Z93 (n:Int):∀ lf:List Int,∃ o:Option Nat,(KK.i .i64).find (.int .i64 n) (lfA lf)=some o/\match o with
  |some j=>lf[j]? = some n/\n∈lf/\lf.eraseIdx j=lf.erase n
  |none=>n ∉ lf
 |[]=>⟨none,rfl,by simp⟩
 | x :: r=>by
   obtain ⟨o,h1,h2⟩:=Z93 n r;by_cases e:n=x
   . subst e;exact ⟨some 0,by simp[lfA,KK.find,KK.eq],by simp⟩
   . refine ⟨o.map (· + 1),?_,?_⟩
     . simp only[lfA,W0F,KK.find,KK.eq,and_self,if_true,e,W1x];rw[show r.map (λn=>(AV.int .i64 n,AV.bool true))=lfA r from rfl,h1];rfl
     . cases o with
       |none=>simp only[Option.map_none,W0g,not_or];exact ⟨e,h2⟩
       | some j =>
         obtain ⟨h3,h4,h5⟩:=h2;refine ⟨by simpa using h3,W0z _ h4,?_⟩;simp only[List.eraseIdx_cons_succ,h5];rw[List.erase_cons_tail];simpa using λq=>e q.symm
def Z94 (n:Int) (lf:List Int):(KK.i .i64).get (.int .i64 n) (lfA lf)=some (if n∈lf then some (.bool true) else none):=by
 obtain ⟨o,h1,h2⟩:=Z93 n lf;have hi:(KK.i .i64).is (.int .i64 n)=true:=(by simp[KK.is]);unfold KK.get;rw[if_pos hi,h1]
 cases o with
 | none => have h2:n ∉ lf:=h2
           simp[h2]
 |some j=>obtain ⟨h3,h4,h5⟩:=h2;simp[lfA,h3,h4]
def Z95 {n:Int} {lf:List Int} (h:n ∉ lf):(KK.i .i64).put (.int .i64 n) (.bool true) (lfA lf)=some (lfA (lf++[n])):=by
 obtain ⟨o,h1,h2⟩:=Z93 n lf;have hi:(KK.i .i64).is (.int .i64 n)=true:=(by simp[KK.is]);unfold KK.put;rw[if_pos hi,h1]
 cases o with
 |none=>simp[lfA]
 |some j=>exact absurd h2.2.1 h
def Z96 {α β:Type} (f:α->β):∀ (l:List α) (j:Nat),(l.map f).eraseIdx j=(l.eraseIdx j).map f
 |[],_=>by simp
 |x::l,0=>by simp
 |x::l,j+1=>by simp[Z96 f l j]
def Z97 {n:Int} {lf:List Int} (h:n∈lf):(KK.i .i64).del (.int .i64 n) (lfA lf)=some (lfA (lf.erase n)):=by
 obtain ⟨o,h1,h2⟩:=Z93 n lf;have hi:(KK.i .i64).is (.int .i64 n)=true:=(by simp[KK.is]);unfold KK.del;rw[if_pos hi,h1]
 cases o with
 |none=>exact absurd h h2
 | some j =>
   obtain ⟨h3,h4,h5⟩:=h2;simp only[lfA,<- h5];rw[Z96]
def rdIt (lf:List Int) (b:Bool) (its:List (Int×Int)):Bool:=its.foldl (λb y=>b && !decide (y.1∈lf)) b
def msIt (dp:List (Int×Int)) (m:Int) (its:List (Int×Int)):Int:=its.foldl (λm y=>max m (dpG dp y.1)) m
def rdN (lf:List Int) (b:Bool) (l:Jr):Bool:=l.foldl (λb x=>rdIt lf b x.its) b
def msN (dp:List (Int×Int)) (m:Int) (l:Jr):Int:=l.foldl (λm x=>msIt dp m x.its) m
def issOf (r:Jr) (n:Int):List Iss:=r.filter (λx=>decide (x.d=n))
def dStep (r:Jr) (s:List (Int×Int)×List Int) (n:Int):List (Int×Int)×List Int :=
 if rdN s.2 (decide (n∈s.2)) (issOf r n)=true then (s.1++[(n,msN s.1 0 (issOf r n)+1)],s.2.erase n) else s
def dPass (r:Jr) (s:List (Int×Int)×List Int):List (Int×Int)×List Int:=(nums r).foldl (dStep r) s
def dRun (r:Jr):Nat->List (Int×Int)×List Int
 |0=>([],nums r)
 |k+1=>dPass r (dRun r k)
def Z98 (lf:List Int) (b:Bool) (its:List (Int×Int)) (k:Nat) (h:k<its.length):rdIt lf b (its.take (k+1))=(rdIt lf b (its.take k) && !decide (its[k].1∈lf)):=by
 rw[W08 h,rdIt,W1q];rfl
def Z99 (dp:List (Int×Int)) (m:Int) (its:List (Int×Int)) (k:Nat) (h:k<its.length):msIt dp m (its.take (k+1))=max (msIt dp m (its.take k)) (dpG dp its[k].1):=by
 rw[W08 h,msIt,W1q];rfl
def Z9a (lf:List Int) (b:Bool) (l:Jr) (k:Nat) (h:k<l.length):rdN lf b (l.take (k+1))=rdIt lf (rdN lf b (l.take k)) l[k].its:=by
 rw[W08 h,rdN,W1q];rfl
def Z9b (dp:List (Int×Int)) (m:Int) (l:Jr) (k:Nat) (h:k<l.length):msN dp m (l.take (k+1))=msIt dp (msN dp m (l.take k)) l[k].its:=by
 rw[W08 h,msN,W1q];rfl
def Z9c (lf:List Int):∀ its:List (Int×Int),rdIt lf false its=false
 |[]=>rfl
 |y::its=>by simp only[rdIt,W2e,W1K];exact Z9c lf its
def Z9d (lf:List Int):∀ l:List Iss,rdN lf false l=false
 |[]=>rfl
 |x::l=>by simp only[rdN,W2e,Z9c];exact Z9d lf l
def Z9e {lf:List Int} {n:Int} {l:Jr} (h:rdN lf (decide (n∈lf)) l=true):n∈lf:=by
 by_cases e:n∈lf
 . exact e
 . rw[W0S e,Z9d]at h;cases h
structure DInv (r:Jr) (s:List (Int×Int)×List Int):Prop where
 perm:(s.1.map (·.1)++s.2).Perm (nums r)
 bd:∀ p∈s.1,1<=p.2/\p.2<=(s.1.length:Nat)
def Z9f {n v:Int}:∀ {dp:List (Int×Int)},dpLk n dp=some v->(n,v)∈dp
 | p::r,h=>by
   simp only[dpLk]at h
   split at h
   . rename_i e;cases h;rw[e];exact W0H ..
   . exact W0z _ (Z9f h)
def Z9g {r:Jr} {s:List (Int×Int)×List Int} (h:DInv r s) (n:Int):0<=dpG s.1 n/\dpG s.1 n<=(s.1.length:Nat):=by
 unfold dpG
 cases e:dpLk n s.1 with
 |none=>simp
 |some v=>have:=h.bd _ (Z9f e);simp only[W0P];omega
def Z9h {r:Jr} {s:List (Int×Int)×List Int} (h:DInv r s):∀ (its:List (Int×Int)) (m:Int),0<=m->m<=(s.1.length:Nat)->0<=msIt s.1 m its/\msIt s.1 m its<=(s.1.length:Nat)
 |[],m,h1,h2=>⟨h1,h2⟩
 | y::its,m,h1,h2=>by
   have:=Z9g h y.1;exact Z9h h its (max m (dpG s.1 y.1)) (by omega) (by omega)
def Z9i {r:Jr} {s:List (Int×Int)×List Int} (h:DInv r s):∀ (l:Jr) (m:Int),0<=m->m<=(s.1.length:Nat)->0<=msN s.1 m l/\msN s.1 m l<=(s.1.length:Nat)
 |[],m,h1,h2=>⟨h1,h2⟩
 | x::l,m,h1,h2=>by
   have:=Z9h h x.its m h1 h2;exact Z9i h l (msIt s.1 m x.its) this.1 this.2
def DInv.len {r:Jr} {s:List (Int×Int)×List Int} (h:DInv r s):s.1.length+s.2.length=(nums r).length:=by
 have:=h.perm.length_eq;simpa using this
def DInv.step {r:Jr} {s:List (Int×Int)×List Int} (h:DInv r s) (n:Int):DInv r (dStep r s n):=by
 unfold dStep
 split
 . rename_i hb;have hm:=Z9e hb;have hbd:=Z9i h (issOf r n) 0 (W1Y _) (by omega);refine ⟨?_,λp hp=>?_⟩
   . refine List.Perm.trans ?_ h.perm;simp only[W0r,W0F,W1d,W0U,W1e,W18];exact (List.perm_cons_erase hm).symm.append_left _
   . simp only[W0s,W1p,W1U];rcases W0h.1 hp with hp|hp
     . have:=h.bd p hp;omega
     . simp only[W0B]at hp;subst hp;simp only;omega
 . exact h
def DInv.fold {r:Jr}:∀ (l:List Int) {s:List (Int×Int)×List Int},DInv r s->DInv r (l.foldl (dStep r) s)
 |[],s,h=>h
 |n::l,s,h=>DInv.fold l (h.step n)
def DInv.run (r:Jr):∀ k,DInv r (dRun r k)
 |0=>⟨by simp[dRun],by simp[dRun]⟩
 |k+1=>(DInv.run r k).fold (nums r)
def Z9j {α β:Type} (f:β->α->β) (s:β) (l:List α) (k:Nat) (h:k<l.length):(l.take (k+1)).foldl f s=f ((l.take k).foldl f s) l[k]:=by
 rw[W08 h,W1q];rfl
set_option maxRecDepth 8000 in
def Z9k (r:Jr) (hw:Wf r) (hO:Ord r) (hn:(nums r).length<=20):PC prog G 198 [bkA r (nums r)] (.tup [.vmap (dpA (dRun r (nums r).length).1),.bool (decide (0<(dRun r (nums r).length).2.length))]):=by
 (refine Z7m rfl λR hG hrd=>Qga ?_;subst hG)
 have hs:(r.map (·.d)).Pairwise (· <= ·):=by
  rw[W2n,W0Y];intro i j hi hj hij;have:=hO.mono (Nat.le_of_lt hij) hj
  rwa [at_eq hi,at_eq hj]at this
 have hl:=hw.1.1;have hnd:=Z81 hO;simp -implicitDefEqProofs[Z7k,Z7l,bkA];refine Z7K (λi=>⟨[(22,.int .i64 i),(21,.int .i64 (nums r).length),(20,.vsl ((nums r).map ia)),(5,.ptr 5 0),(4,.ptr 4 0),(0,bkA r (nums r))],[(15,.mp []),(4,.box [.mp 15]),(16,.mp (lfA ((nums r).take i))),(5,.box [.mp 16])]⟩) (λ_=>True) (nums r).length (by (first|exact Ym.tm (by simp[lk,lfA,bkA])|exact Ym.sub (by simp[lk,Ya,AV.keys,lfA,bkA]) (by simp[lk,Yc,Ya,AV.keys,lfA,bkA]))) trivial ?_ ?_
 . intro i hi _;refine Qga ?_;have w1:i64.wrap ((i:Int)+1)=((i+1:Nat):Int):=Yf
   have hni:(nums r)[i] ∉ (nums r).take i:=by
    intro hm;obtain ⟨j,hj,e⟩:=W0k hm;simp only[W15]at hj;simp only[W1V]at e;have:=(List.getElem_inj hnd).1 e;omega
   have hp:=Z95 hni;rw[<- W08 hi]at hp;simp -implicitDefEqProofs[hi,w1,ia,hp];exact (by (first|exact Ym.tm (by simp[lk,bkA])|exact Ym.sub (by simp[lk,Ya,AV.keys,bkA]) (by simp[lk,Yc,Ya,AV.keys,bkA])))
 . intro _;refine Qga ?_;simp -implicitDefEqProofs;refine Qgr ?_;simp -implicitDefEqProofs[bkA];refine Z7K (λk=>⟨[(34,.int .i64 k),(33,.int .i64 (nums r).length),(5,.ptr 5 0),(4,.ptr 4 0),(0,bkA r (nums r))],[(15,.mp (dpA (dRun r k).1)),(4,.box [.mp 15]),(16,.mp (lfA (dRun r k).2)),(5,.box [.mp 16])]⟩) (λ_=>True) (nums r).length (by (first|exact Ym.tm (by simp[lk,dRun,dpA,bkA])|exact Ym.sub (by simp[lk,Ya,AV.keys,dRun,dpA,bkA]) (by simp[lk,Yc,Ya,AV.keys,dRun,dpA,bkA]))) trivial ?_ ?_
   . intro k hk _;refine Qga ?_;have w1:i64.wrap ((k:Int)+1)=((k+1:Nat):Int):=Yf;simp -implicitDefEqProofs[hk,bkA]
     refine Z7K (λi=>⟨[(41,.int .i64 i),(40,.int .i64 (nums r).length),(39,.vsl ((nums r).map ia)),(34,.int .i64 k),(33,.int .i64 (nums r).length),(5,.ptr 5 0),(4,.ptr 4 0),(0,bkA r (nums r))],
      [(15,.mp (dpA (((nums r).take i).foldl (dStep r) (dRun r k)).1)),(4,.box [.mp 15]),(16,.mp (lfA (((nums r).take i).foldl (dStep r) (dRun r k)).2)),(5,.box [.mp 16])]⟩) (λ_=>True) (nums r).length (by (first|exact Ym.tm (by simp[lk,bkA])|exact Ym.sub (by simp[lk,Ya,AV.keys,bkA]) (by simp[lk,Yc,Ya,AV.keys,bkA]))) trivial ?_ ?_
     . intro i hi _;refine Qga ?_;have w2:i64.wrap ((i:Int)+1)=((i+1:Nat):Int):=Yf;obtain ⟨s,hsd⟩:=Qex (((nums r).take i).foldl (dStep r) (dRun r k));have hI:DInv r s:=(by rw[hsd];exact (DInv.run r k).fold _);have hst:=Z9j (dStep r) (dRun r k) (nums r) i hi;rw[<- hsd]at hst ⊢;obtain ⟨n,hne⟩:=Qex ((nums r)[i]);rw[<- hne]at hst;have hgl:=Z94 n s.2
       cases hm:decide (n∈s.2)
       . have hm':¬n∈s.2:=of_decide_eq_false hm;rw[if_neg hm']at hgl;simp -implicitDefEqProofs[hi,ia,<- hne,hgl];refine ⟨rfl,?_⟩;refine Qco (Z8Y r (nums r) n) ?_;simp -implicitDefEqProofs
         refine Z59 hrd (Z8U r n (.vsl ((nums r).map ia)) hs hl) (by simp[evA,St.tmp,lk,bkA]) (by simp[AV.pure]) (λk=>k-1000) [(4,.ptr 1004 0),(5,.ptr 1005 0),(10,.ptr 1010 0),(11,.ptr 1011 0)]
          (λq=>[(1015,.mp (dpA s.1)),(1004,.box [.mp 1015]),(1016,.mp (lfA s.2)),(1005,.box [.mp 1016]),(1010,.box [.int .i64 (msN s.1 0 ((issOf r n).take q))]),(1011,.box [.bool (rdN s.2 false ((issOf r n).take q))])])
          [1015,1004,1016,1005,1010,1011] (λ_=>True) trivial (λ_=>rfl) (by simp) (by simp) (by simp[Yl,St.set,putO,AObj.ren,AV.ren,dpA,lfA,msN,rdN,W0y]) (by simp[Yc,Ya,AV.keys,dpA,lfA,lk]) (by simp[lk,AV.ren,AV.keys]) ?_ ?_
         . intro q x hx _ R' hG hN
           obtain ⟨y,hq,hy,rfl⟩ : ∃ y,∃ hq:q<(issOf r n).length,(issOf r n)[q]=y/\x = .agg (isa y):=by
            simp only[elsOf,W09,W04]at hx;obtain ⟨y,h1,h2⟩:=hx;obtain ⟨h3,h4⟩:=W02.1 h1;exact ⟨y,h3,h4,h2.symm⟩
           have hyr:y∈r:=(by rw[<- hy];exact (W0G.1 (W0e hq)).1);have hyl:=(hw.1.2 y hyr).1;unfold Sml at hyl;have tm:=Z9b s.1 0 (issOf r n) q hq;have tr:=Z9a s.2 false (issOf r n) q hq;rw[hy]at tm tr;generalize msN s.1 0 ((issOf r n).take q)=m0 at tm ⊢;generalize rdN s.2 false ((issOf r n).take q)=b0 at tr ⊢;refine Qga ?_;simp -implicitDefEqProofs[isa];intro R'' hG'' hN'';refine Qga ?_;simp -implicitDefEqProofs
           refine Z7K (λm=>⟨[(55,.int .i64 m),(54,.int .i64 y.its.length),(53,.vsl (y.its.map ita)),(12,.ptr 12 0),(4,.ptr 1004 0),(5,.ptr 1005 0),(10,.ptr 1010 0),(11,.ptr 1011 0)],
            [(1015,.mp (dpA s.1)),(1004,.box [.mp 1015]),(1016,.mp (lfA s.2)),(1005,.box [.mp 1016]),(1010,.box [.int .i64 (msIt s.1 m0 (y.its.take m))]),(1011,.box [.bool (rdIt s.2 b0 (y.its.take m))]),(12,.box (isa y))]⟩) (λ_=>True) y.its.length (by (first|exact Ym.tm (by simp[lk,isa,dpA,lfA,msIt,rdIt])|exact Ym.sub (by simp[lk,Ya,AV.keys,isa,dpA,lfA,msIt,rdIt]) (by simp[lk,Yc,Ya,AV.keys,isa,dpA,lfA,msIt,rdIt]))) trivial ?_ ?_
           . intro m hm _;refine Qga ?_;have w3:i64.wrap ((m:Int)+1)=((m+1:Nat):Int):=Yf;have um:=Z99 s.1 m0 y.its m hm;have ur:=Z98 s.2 b0 y.its m hm;generalize msIt s.1 m0 (y.its.take m)=m1 at um ⊢;generalize rdIt s.2 b0 (y.its.take m)=b1 at ur ⊢;have gd:=Z91 y.its[m].1 s.1;have gl:=Z94 y.its[m].1 s.2;have wkE:∀ c1 c2:Prop,c1->c2->c1/\c2:=λ_ _ a b=>⟨a,b⟩
             cases b1
             . simp only[W1K]at ur
               cases hk1:dpLk y.its[m].1 s.1 with
               | none =>
                 rw[hk1]at gd;simp only[dpG,hk1,W21]at um;simp -implicitDefEqProofs[hm,ita,w3,gd];exact Ym.sub (by simp[lk,Ya,AV.keys]) (by simp[lk,Yc,Ya,AV.keys,dpA,lfA,um,ur,isa])
               | some v =>
                 rw[hk1]at gd;simp only[dpG,hk1,W0P]at um;simp -implicitDefEqProofs[hm,ita,w3,gd];exact Ym.sub (by simp[lk,Ya,AV.keys]) (by simp[lk,Yc,Ya,AV.keys,dpA,lfA,um,ur,isa])
             . by_cases hin:y.its[m].1∈s.2
               . rw[if_pos hin]at gl;simp only[hin,W1i,W17,W2a]at ur
                 cases hk1:dpLk y.its[m].1 s.1 with
                 | none =>
                   rw[hk1]at gd;simp only[dpG,hk1,W21]at um;simp -implicitDefEqProofs[hm,ita,w3,gd,gl];exact Ym.sub (by simp[lk,Ya,AV.keys]) (by simp[lk,Yc,Ya,AV.keys,dpA,lfA,um,ur,isa])
                 | some v =>
                   rw[hk1]at gd;simp only[dpG,hk1,W0P]at um;simp -implicitDefEqProofs[hm,ita,w3,gd,gl];exact Ym.sub (by simp[lk,Ya,AV.keys]) (by simp[lk,Yc,Ya,AV.keys,dpA,lfA,um,ur,isa])
               . rw[if_neg hin]at gl;simp only[hin,W1x,W1E,W2c]at ur
                 cases hk1:dpLk y.its[m].1 s.1 with
                 | none =>
                   rw[hk1]at gd;simp only[dpG,hk1,W21]at um;simp -implicitDefEqProofs[hm,ita,w3,gd,gl];exact Ym.sub (by simp[lk,Ya,AV.keys]) (by simp[lk,Yc,Ya,AV.keys,dpA,lfA,um,ur,isa])
                 | some v =>
                   rw[hk1]at gd;simp only[dpG,hk1,W0P]at um;simp -implicitDefEqProofs[hm,ita,w3,gd,gl];exact Ym.sub (by simp[lk,Ya,AV.keys]) (by simp[lk,Yc,Ya,AV.keys,dpA,lfA,um,ur,isa])
           . intro _;refine Qga ?_;simp -implicitDefEqProofs;refine Qgr ?_;simp -implicitDefEqProofs[RndB,Yi,newK,frzO,frzA,frz,AV.keys,tm,tr,dpA,lfA,W0y]
             try trivial
         . intro _;have hel:(elsOf r n).length=(issOf r n).length:=(by simp[elsOf,issOf]);have etk:(issOf r n).take (issOf r n).length=issOf r n:=W0J (W0f _);have hbd:=Z9i hI (issOf r n) 0 (W1Y _) (by omega);have hlen:=hI.len;have w4:i64.wrap (msN s.1 0 (issOf r n)+1)=msN s.1 0 (issOf r n)+1:=Yf;have rdpA:∀ dp,AObj.ren (λk=>k-1000) (.mp (dpA dp)) = .mp (dpA dp):=λdp=>by simp[AObj.ren,dpA,AV.ren,W0y]
           have rlfA:∀ lf,AObj.ren (λk=>k-1000) (.mp (lfA lf)) = .mp (lfA lf):=λlf=>by simp[AObj.ren,lfA,AV.ren,W0y]
           have rbx:∀ cs,AObj.ren (λk=>k-1000) (.box cs) = .box (cs.map (AV.ren λk=>k-1000)):=λ_=>rfl
           cases hrd2:rdN s.2 false (issOf r n)
           . have hst2:dStep r s n=s:=(by simp[dStep,hm,hrd2]);rw[hst2]at hst;simp -implicitDefEqProofs[Yl,rdpA,rlfA,rbx,AV.ren,hel,etk,hrd2];refine Qgr ?_;simp -implicitDefEqProofs[w2];rw[hst];exact Ym.sub (by simp[lk,Ya,AV.keys,bkA]) (by simp[lk,Yc,Ya,AV.keys,dpA,lfA])
           . have hmem:n∈s.2:=Z9e (by rw[hm];exact hrd2);have hst2:dStep r s n=(s.1++[(n,msN s.1 0 (issOf r n)+1)],s.2.erase n):=(by simp[dStep,hm,hrd2]);rw[hst2]at hst
             have hnk:n ∉ s.1.map (·.1):=λhin=>by
              have:=(List.nodup_append.1 (hI.perm.nodup_iff.2 hnd)).2.2 n hin n hmem;exact this rfl
             have pd:=Z92 (msN s.1 0 (issOf r n)+1) hnk;have dl:=Z97 hmem;simp -implicitDefEqProofs[Yl,rdpA,rlfA,rbx,AV.ren,hel,etk,hrd2];refine Qgr ?_;simp -implicitDefEqProofs[w2,w4,pd,dl];rw[hst];exact Ym.sub (by simp[lk,Ya,AV.keys,bkA]) (by simp[lk,Yc,Ya,AV.keys,dpA,lfA])
       . have hm':n∈s.2:=W0X hm;rw[if_pos hm']at hgl;simp -implicitDefEqProofs[hi,ia,<- hne,hgl];refine ⟨rfl,?_⟩;refine Qco (Z8Y r (nums r) n) ?_;simp -implicitDefEqProofs
         refine Z59 hrd (Z8U r n (.vsl ((nums r).map ia)) hs hl) (by simp[evA,St.tmp,lk,bkA]) (by simp[AV.pure]) (λk=>k-1000) [(4,.ptr 1004 0),(5,.ptr 1005 0),(10,.ptr 1010 0),(11,.ptr 1011 0)]
          (λq=>[(1015,.mp (dpA s.1)),(1004,.box [.mp 1015]),(1016,.mp (lfA s.2)),(1005,.box [.mp 1016]),(1010,.box [.int .i64 (msN s.1 0 ((issOf r n).take q))]),(1011,.box [.bool (rdN s.2 true ((issOf r n).take q))])])
          [1015,1004,1016,1005,1010,1011] (λ_=>True) trivial (λ_=>rfl) (by simp) (by simp) (by simp[Yl,St.set,putO,AObj.ren,AV.ren,dpA,lfA,msN,rdN,W0y]) (by simp[Yc,Ya,AV.keys,dpA,lfA,lk]) (by simp[lk,AV.ren,AV.keys]) ?_ ?_
         . intro q x hx _ R' hG hN
           obtain ⟨y,hq,hy,rfl⟩ : ∃ y,∃ hq:q<(issOf r n).length,(issOf r n)[q]=y/\x = .agg (isa y):=by
            simp only[elsOf,W09,W04]at hx;obtain ⟨y,h1,h2⟩:=hx;obtain ⟨h3,h4⟩:=W02.1 h1;exact ⟨y,h3,h4,h2.symm⟩
           have hyr:y∈r:=(by rw[<- hy];exact (W0G.1 (W0e hq)).1);have hyl:=(hw.1.2 y hyr).1;unfold Sml at hyl;have tm:=Z9b s.1 0 (issOf r n) q hq;have tr:=Z9a s.2 true (issOf r n) q hq;rw[hy]at tm tr;generalize msN s.1 0 ((issOf r n).take q)=m0 at tm ⊢;generalize rdN s.2 true ((issOf r n).take q)=b0 at tr ⊢;refine Qga ?_;simp -implicitDefEqProofs[isa];intro R'' hG'' hN'';refine Qga ?_;simp -implicitDefEqProofs
           refine Z7K (λm=>⟨[(55,.int .i64 m),(54,.int .i64 y.its.length),(53,.vsl (y.its.map ita)),(12,.ptr 12 0),(4,.ptr 1004 0),(5,.ptr 1005 0),(10,.ptr 1010 0),(11,.ptr 1011 0)],
            [(1015,.mp (dpA s.1)),(1004,.box [.mp 1015]),(1016,.mp (lfA s.2)),(1005,.box [.mp 1016]),(1010,.box [.int .i64 (msIt s.1 m0 (y.its.take m))]),(1011,.box [.bool (rdIt s.2 b0 (y.its.take m))]),(12,.box (isa y))]⟩) (λ_=>True) y.its.length (by (first|exact Ym.tm (by simp[lk,isa,dpA,lfA,msIt,rdIt])|exact Ym.sub (by simp[lk,Ya,AV.keys,isa,dpA,lfA,msIt,rdIt]) (by simp[lk,Yc,Ya,AV.keys,isa,dpA,lfA,msIt,rdIt]))) trivial ?_ ?_
           . intro m hm _;refine Qga ?_;have w3:i64.wrap ((m:Int)+1)=((m+1:Nat):Int):=Yf;have um:=Z99 s.1 m0 y.its m hm;have ur:=Z98 s.2 b0 y.its m hm;generalize msIt s.1 m0 (y.its.take m)=m1 at um ⊢;generalize rdIt s.2 b0 (y.its.take m)=b1 at ur ⊢;have gd:=Z91 y.its[m].1 s.1;have gl:=Z94 y.its[m].1 s.2;have wkE:∀ c1 c2:Prop,c1->c2->c1/\c2:=λ_ _ a b=>⟨a,b⟩
             cases b1
             . simp only[W1K]at ur
               cases hk1:dpLk y.its[m].1 s.1 with
               | none =>
                 rw[hk1]at gd;simp only[dpG,hk1,W21]at um;simp -implicitDefEqProofs[hm,ita,w3,gd];exact Ym.sub (by simp[lk,Ya,AV.keys]) (by simp[lk,Yc,Ya,AV.keys,dpA,lfA,um,ur,isa])
               | some v =>
                 rw[hk1]at gd;simp only[dpG,hk1,W0P]at um;simp -implicitDefEqProofs[hm,ita,w3,gd];exact Ym.sub (by simp[lk,Ya,AV.keys]) (by simp[lk,Yc,Ya,AV.keys,dpA,lfA,um,ur,isa])
             . by_cases hin:y.its[m].1∈s.2
               . rw[if_pos hin]at gl;simp only[hin,W1i,W17,W2a]at ur
                 cases hk1:dpLk y.its[m].1 s.1 with
                 | none =>
                   rw[hk1]at gd;simp only[dpG,hk1,W21]at um;simp -implicitDefEqProofs[hm,ita,w3,gd,gl];exact Ym.sub (by simp[lk,Ya,AV.keys]) (by simp[lk,Yc,Ya,AV.keys,dpA,lfA,um,ur,isa])
                 | some v =>
                   rw[hk1]at gd;simp only[dpG,hk1,W0P]at um;simp -implicitDefEqProofs[hm,ita,w3,gd,gl];exact Ym.sub (by simp[lk,Ya,AV.keys]) (by simp[lk,Yc,Ya,AV.keys,dpA,lfA,um,ur,isa])
               . rw[if_neg hin]at gl;simp only[hin,W1x,W1E,W2c]at ur
                 cases hk1:dpLk y.its[m].1 s.1 with
                 | none =>
                   rw[hk1]at gd;simp only[dpG,hk1,W21]at um;simp -implicitDefEqProofs[hm,ita,w3,gd,gl];exact Ym.sub (by simp[lk,Ya,AV.keys]) (by simp[lk,Yc,Ya,AV.keys,dpA,lfA,um,ur,isa])
                 | some v =>
                   rw[hk1]at gd;simp only[dpG,hk1,W0P]at um;simp -implicitDefEqProofs[hm,ita,w3,gd,gl];exact Ym.sub (by simp[lk,Ya,AV.keys]) (by simp[lk,Yc,Ya,AV.keys,dpA,lfA,um,ur,isa])
           . intro _;refine Qga ?_;simp -implicitDefEqProofs;refine Qgr ?_;simp -implicitDefEqProofs[RndB,Yi,newK,frzO,frzA,frz,AV.keys,tm,tr,dpA,lfA,W0y]
             try trivial
         . intro _;have hel:(elsOf r n).length=(issOf r n).length:=(by simp[elsOf,issOf]);have etk:(issOf r n).take (issOf r n).length=issOf r n:=W0J (W0f _);have hbd:=Z9i hI (issOf r n) 0 (W1Y _) (by omega);have hlen:=hI.len;have w4:i64.wrap (msN s.1 0 (issOf r n)+1)=msN s.1 0 (issOf r n)+1:=Yf;have rdpA:∀ dp,AObj.ren (λk=>k-1000) (.mp (dpA dp)) = .mp (dpA dp):=λdp=>by simp[AObj.ren,dpA,AV.ren,W0y]
           have rlfA:∀ lf,AObj.ren (λk=>k-1000) (.mp (lfA lf)) = .mp (lfA lf):=λlf=>by simp[AObj.ren,lfA,AV.ren,W0y]
           have rbx:∀ cs,AObj.ren (λk=>k-1000) (.box cs) = .box (cs.map (AV.ren λk=>k-1000)):=λ_=>rfl
           cases hrd2:rdN s.2 true (issOf r n)
           . have hst2:dStep r s n=s:=(by simp[dStep,hm,hrd2]);rw[hst2]at hst;simp -implicitDefEqProofs[Yl,rdpA,rlfA,rbx,AV.ren,hel,etk,hrd2];refine Qgr ?_;simp -implicitDefEqProofs[w2];rw[hst];exact Ym.sub (by simp[lk,Ya,AV.keys,bkA]) (by simp[lk,Yc,Ya,AV.keys,dpA,lfA])
           . have hmem:n∈s.2:=Z9e (by rw[hm];exact hrd2);have hst2:dStep r s n=(s.1++[(n,msN s.1 0 (issOf r n)+1)],s.2.erase n):=(by simp[dStep,hm,hrd2]);rw[hst2]at hst
             have hnk:n ∉ s.1.map (·.1):=λhin=>by
              have:=(List.nodup_append.1 (hI.perm.nodup_iff.2 hnd)).2.2 n hin n hmem;exact this rfl
             have pd:=Z92 (msN s.1 0 (issOf r n)+1) hnk;have dl:=Z97 hmem;simp -implicitDefEqProofs[Yl,rdpA,rlfA,rbx,AV.ren,hel,etk,hrd2];refine Qgr ?_;simp -implicitDefEqProofs[w2,w4,pd,dl];rw[hst];exact Ym.sub (by simp[lk,Ya,AV.keys,bkA]) (by simp[lk,Yc,Ya,AV.keys,dpA,lfA])
     . intro _;refine Qga ?_;have etk:(nums r).take (nums r).length=nums r:=W0J (W0f _);simp -implicitDefEqProofs;refine Qgr ?_;have e:(nums r).foldl (dStep r) (dRun r k)=dRun r (k+1):=rfl;simp -implicitDefEqProofs[w1,e];exact Ym.sub (by simp[lk,Ya,AV.keys,bkA]) (by simp[lk,Yc,Ya,AV.keys,dpA,lfA])
   . intro _;refine Qga ?_;simp -implicitDefEqProofs;refine Qgr ?_;have hla:(lfA (dRun r (nums r).length).2).length=(dRun r (nums r).length).2.length:=(by simp[lfA]);have hpu:(dpA (dRun r (nums r).length).1).all (λp=>p.1.pure&&p.2.pure)=true:=(by simp[dpA,AV.pure]);simp -implicitDefEqProofs[hla,hpu]
def FinZ (rs:List RRes) (v:AV):Exit->St->Prop
 |.normal,st | .ret,st=>∃ xs ys,Z29 st rs=some xs/\Yj (snap st) xs=some ys/\v=nz (tupV ys)
 |_,_=>False
def Z9l {P:Program} {G:Jg} {f:FuncId} {fn:Func} {c:Code} {rc:RCode} {rs:List RRes} {args:List AV} {v:AV} (hf:P.funcs[f]? = some fn) (hb:fn.body=some c) (he:entB P f=true)
  (hc:Z1A P fn.ntmps c rc=true) (hrs:allB2 (okRes P) fn.results.toList rs=true) (hn:args.length<=fn.ntmps)
  (h:∀ R:Run,R.N=fn.ntmps->R.G=G->R.Top->AR P R rc (Z2a args) (FinZ rs v)):PC P G f args v:=by
 refine ⟨he,λM W vs hM hG hsz hvs=>?_⟩;refine callsIn_wide.1 (callsIn_of_wp_marks (F:=FW none) (n:=1) hf hb trivial ?_)
 let R:Run:={ G:=G,M:=M,X:=λ_=>False,W0:=W,N:=fn.ntmps,E0:={ M:=M,loc:=λ_=>none,row:=λ_=>none } }
 have h0:SK R (Z2a args) { tmps:=vs++Array.replicate (fn.ntmps-vs.size) Go.undef,defers:=[] } W (λ_=>none):=by
  have hGM:∀ b,b<W.heap.size->¬M b->¬((Z2a args).env M (λ_=>none)).M b/\W.heap[b]? = W.heap[b]?:=λb _ h1=>⟨(by rintro (h2 | ⟨k,s,h2⟩) <;> first|exact h1 h2|cases h2),rfl⟩
  refine ⟨.nil _ _ _ _,by show (vs++_).size=fn.ntmps;simp;omega,λn x hx=>?_,(λk o ho=>by simp[Z2a,St.get,lk]at ho),(λk p hk=>by cases hk),(λk k' b s s' hk=>by cases hk),hM,λ_ _ h=>h,Kp.refl _ _,hG.mono hGM (W0f _),⟨W0f _,hGM,λk p hk=>(by cases hk),λk sz m hk=>(by cases hk)⟩,λ_ _=>⟨rfl,rfl⟩⟩;simp only[Z2a,St.tmp,Z2b,W1f,if_true,W1W]at hx;show VR _ W x ((vs++Array.replicate (fn.ntmps-vs.size) Go.undef).getD n Go.undef);rw[W0a,W0W];have c1:n<args.length:=(W02.1 hx).1;rw[if_pos (by omega)];have:vs[n]? = some vs[n]:=(by simp);rw[this];exact .pv ((hvs n x _ hx this).mono hGM (W0f _))
 refine wpIn_mono (h R rfl rfl ⟨rfl,rfl⟩ c hc 1 _ W ⟨_,h0⟩) ?_
 have key:∀ (a':Act) (W':World) (st':St),(∃ xs ys,Z29 st' rs=some xs/\Yj (snap st') xs=some ys/\v=nz (tupV ys))->SR R st' a' W' ->
   ∃ u,(results fn a'.tmps).run P W' = .ok u W'/\∃ u',Ending.returned u = .returned u'/\PV M W' v u'/\Ext W W':=by
  rintro a' W' st' ⟨xs,ys,h1,h2,rfl⟩ ⟨κ,hk⟩;obtain ⟨us,h3,h4⟩:=Z2d (P:=P) hk hrs h1;obtain ⟨h5,h6⟩:=Z1R h2;have hE:Ext W W':=⟨hk.kp.os,hk.kp.tape,hk.kp.output,hk.kp.size,λi hi=>hk.kp.block i hi (λh=>h)⟩
  have hp:∀ (i:Nat) (y:AV) (u:Value),ys[i]? = some y->us[i]? = some u->PV M W' y u:=λi y u hy hu=>by
   obtain ⟨x,h7,h8⟩:=h6 i y hy;exact Z1T hk (h4.2 i x u h7 hu) h8
  have hl:us.length=ys.length:=(by have:=h4.1;omega);refine ⟨(if h:us.toArray.size=1 then us.toArray[0] else .tuple us.toArray),?_,_,rfl,PV.nz ?_,hE⟩
  . unfold results;rw[Sem.run_bind]
    have:(fn.results.mapM λrv=>(match rv with
     |.tmp t=>pure (a'.tmps.getD t Go.undef)
     |.cell p t=>do loadVar t (<- asAddr (a'.tmps.getD p Go.undef)):Sem Value)).run P W' = .ok us.toArray W':=by
     rw[W1R,Sem.run_map];exact congrArg (λz=>Result.andThen z (λa w'=>Result.ok a.toArray w')) h3
    erw [this]
    rfl
  . match ys,us,hl,hp with
    |[],[],_,_=>exact .tup [] _ rfl (by simp)
    |[y],[u],_,hp=>exact hp 0 y u rfl rfl
    | y::y2::ys,u::u2::us,hl,hp =>
      rw[dif_neg (by simp)];exact .tup _ _ (by simpa using hl) (λi x w hx hw=>hp i x w hx (by simpa using hw))
 rintro e a' W' ⟨st',h1,κ,h2⟩
 cases e <;> try (exact h1.elim)
 all_goals
  refine h2.leave (by simp) rfl λa2 W2 ht hs2=>?_
  have:=key a2 W2 st' h1 ⟨κ,hs2⟩;rw[ht]at this;exact this
def Z9m (l:List (Int×Int)):∀ r∈l.map ita,∀ x∈r,x.flat=true:=by
 intro r hr x hx;obtain ⟨p,-,rfl⟩:=W0i.1 hr;simp only[ita,W0g,W0Q,or_false]at hx;rcases hx with rfl|rfl <;> simp[AV.flat]
def Z9n (l:List (Int×Int)):∀ r∈l.map ita,∀ x∈r,x.pure=true:=by
 intro r hr x hx;obtain ⟨p,-,rfl⟩:=W0i.1 hr;simp only[ita,W0g,W0Q,or_false]at hx;rcases hx with rfl|rfl <;> simp[AV.pure]
def Z9o (l:List Dm):∀ r∈l.map dma,∀ x∈r,x.flat=true:=by
 intro r hr x hx;obtain ⟨p,-,rfl⟩:=W0i.1 hr;simp only[dma,W0g,W0Q,or_false]at hx;rcases hx with rfl|rfl|rfl <;> simp[AV.flat]
def Z9p (l:List Dm):∀ r∈l.map dma,∀ x∈r,x.pure=true:=by
 intro r hr x hx;obtain ⟨p,-,rfl⟩:=W0i.1 hr;simp only[dma,W0g,W0Q,or_false]at hx;rcases hx with rfl|rfl|rfl <;> simp[AV.pure]
def Z9q (l:List (Int×Int)) (hne:l≠[]) (hl:Sml l):PN prog G 121 [.vsl (l.map ita)] 2 (l.map ita):=by
 refine PN_of (Z9m l) (Z9n l) Tryz.func121 rfl (by kernel_rfl) (rc:=Z7q) (by kernel_rfl) (rs:=Z7r) (by kernel_rfl) (W0C rfl) λR _ hG hrd=>Qga ?_
 unfold Sml at hl;have b1:l.length*16<=70368744177664:=(by omega);have h0:¬l.length=0:=λe=>hne (W0l.1 e)
 have k1:(l.map ita).all (λr=>r.length == 2)=true:=(by simp[ita]);have k2:(l.map ita).all (λr=>r.all AV.one)=true:=(by simp[ita,AV.one]);have k5:(l.map ita).all (λr=>r.all AV.pure)=true:=(by simp[ita,AV.pure]);simp -implicitDefEqProofs[Z7q,Z7r,h0,hne,b1,k1,k2,k5,FinN]
def Z9r (l:List Dm) (hne:l≠[]) (hl:Sml l):PN prog G 122 [.vsl (l.map dma)] 3 (l.map dma):=by
 refine PN_of (Z9o l) (Z9p l) Tryz.func122 rfl (by kernel_rfl) (rc:=Z7t) (by kernel_rfl) (rs:=Z7u) (by kernel_rfl) (W0C rfl) λR _ hG hrd=>Qga ?_
 unfold Sml at hl;have b1:l.length*24<=70368744177664:=(by omega);have h0:¬l.length=0:=λe=>hne (W0l.1 e)
 have k1:(l.map dma).all (λr=>r.length == 3)=true:=(by simp[dma]);have k2:(l.map dma).all (λr=>r.all AV.one)=true:=(by simp[dma,AV.one]);have k5:(l.map dma).all (λr=>r.all AV.pure)=true:=(by simp[dma,AV.pure]);simp -implicitDefEqProofs[Z7t,Z7u,h0,hne,b1,k1,k2,k5,FinN]
def Z9s:PC prog G 121 [.vsl []] (.vsl []):=by
 refine Z9l Tryz.func121 rfl (by kernel_rfl) (rc:=Z7q) (by kernel_rfl) (rs:=Z7r) (by kernel_rfl) (W0C rfl) λR _ hG hrd=>Qga ?_
 simp -implicitDefEqProofs[Z7q,Z7r,FinZ,nz]
def Z9t:PC prog G 122 [.vsl []] (.vsl []):=by
 refine Z9l Tryz.func122 rfl (by kernel_rfl) (rc:=Z7t) (by kernel_rfl) (rs:=Z7u) (by kernel_rfl) (W0C rfl) λR _ hG hrd=>Qga ?_
 simp -implicitDefEqProofs[Z7t,Z7u,FinZ,nz]
end Go.Proofs.YtcdlimgkliklhaaGreatDoor
