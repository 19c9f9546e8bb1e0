/-
  The abstract machine's code of functions of the program, as a program of ours printed it; that it is theirs is proved beside each.
-/
import Derived.Test.YthlcppdbldkldaaDoorLAmLToAmR
import Derived.Test.YthlcppdbldkldaaDoorProg
import Derived.IntWalk
set_option linter.all false
set_option maxHeartbeats 8000000
namespace Go.Proofs.YthlcppdbldkldaaDoor
open Tryd (prog)
open IntKind (i64)
open Go.RowKit
variable {G:Jg}
section
open Qq Tryd
def Z5l:RCode :=
 S [r 0 [n 0 (.bool false)],S [r 1 [n 30 (.bool false),g 30 false (c 31 14 []),g 30 false (t 32 31),u 33 30 32],K 33 2 [n 0 (.bool false)]],r 3 [c 35 19 [],c 36 20 [],w 37 (.call 18 [.t 35,.t 36,.c (.int .i64 10)]),m 34 37,x 38 0 34,x 39 1 34,m 1 38,m 2 39],r 4 [c 41 19 [],w 42 (.call 21 [.t 41,.c (.int .i64 30)]),m 40 42,x 43 0 40,x 44 1 40,m 3 43,m 4 44],r 5 [c 46 19 [],c 47 23 [],w 48 (.call 22 [.t 46,.t 47,.c (.int .i64 40)]),m 45 48,x 49 0 45,x 50 1 45,m 5 49,m 6 50],r 6 [c 52 19 [],w 53 (.call 24 [.t 52,.c (.int .i64 30),.c I,.c (.int .i64 2)]),m 51 53,x 54 0 51,x 55 1 51,x 56 2 51,m 7 54,m 8 55,m 9 56],S [r 7 [m 57 2,k 58 .neq 57 O,m 59 58,g 59 false (m 60 1),g 59 false (w 61 (.call 26 [.c (.int .i64 30),.c (.int .i64 5)])),g 59 false (w 62 (.call 26 [.c (.int .i64 40),.c (.int .i64 2)])),g 59 false (w 63 (.call 26 [.c (.int .i64 50),.c I])),g 59 false (w 64 (.bsl false 2 3 [O,O,O,O,O,O] [(0,.t 61),(1,.t 62),(2,.t 63)])),g 59 false (c 65 25 [60,64]),g 59 false (t 66 65),u 67 59 66,m 68 67,g 68 false (m 69 4),g 68 false (k 70 .neq 69 O),u 71 68 70,m 72 71,g 72 false (m 73 3),g 72 false (k 74 .neq 73 I),u 75 72 74,m 76 75,g 76 false (m 77 6),g 76 false (k 78 .neq 77 O),u 79 76 78,m 80 79,g 80 false (m 81 5),g 80 false (e 82 81),g 80 false (k 83 .neq 82 O),u 84 80 83,m 85 84,g 85 false (m 86 9),g 85 false (k 87 .neq 86 O),u 88 85 87,m 89 88,g 89 false (m 90 7),g 89 false (e 91 90),g 89 false (k 92 .neq 91 O),u 93 89 92,m 94 93,g 94 false (m 95 8),g 94 false (w 96 (.bsl false 1 1 [O] [(0,.c O)])),g 94 false (c 97 27 [95,96]),g 94 false (t 98 97),u 99 94 98],K 99 8 [n 0 (.bool false)]],r 9 [c 100 19 [],c 101 19 [],c 102 19 [],w 10 (.alloc [.nils]),w 11 (.alloc [.nils]),w 12 (.alloc [.nils]),s 1 10 100,s 1 11 101,s 1 12 102],R 10 [f 103 0 10,a [0] (l 104 103),w 105 (.call 26 [.c (.int .i64 10),.c I]),a [2] (w 106 (.bsl true 2 1 [O,O] [(0,.t 105)])),f 107 0 10,a [4] (l 108 107),a [5] (w 109 (.iaddr 5 (.t 108) (.c (.int .i64 2)))),a [6] (f 110 3 109),a [7] (l 111 110),a [3,8,2] (w 112 (.app 2 16 (.t 106) (.t 111))),a [1,0,1,2,3,4,5,6,7,8,9] (w 113 (.iaddr 5 (.t 104) (.c (.int .i64 2)))),a [10,0,1,2,3,4,5,6,7,8,9] (f 114 3 113),a [11,9,9,0,1,2,3,4,5,6,7,8,9] (s 1 114 112)],r 11 [f 115 0 11,l 116 115,w 117 (.iaddr 5 (.t 116) (.c (.int .i64 2))),f 118 3 117,l 119 118,w 120 (.iaddr 2 (.t 119) (.c I)),f 121 0 120,z (.store 1 (.t 121) (.c (.int .i64 60)))],r 12 [f 122 0 12,l 123 122,w 124 (.build [O,O,O] [(0,1,.c (.int .i64 150)),(1,1,.c (.int .i64 100)),(2,1,.c (.int .i64 200))]),w 125 (.bsl false 3 1 [O,O,O] [(0,.t 124)]),w 126 (.iaddr 5 (.t 123) (.c (.int .i64 6))),f 127 4 126,s 1 127 125],R 13 [c 129 19 [],L 130 1 12,a [0,1,0] (c 131 8 [129,130]),a [2] (m 128 131),a [3] (x 132 0 128),a [3] (x 133 1 128),a [4,2,0,1,2,3,4] (m 13 132),a [5,6,0,1,2,3,4,5,6] (m 14 133)],R 14 [c 135 19 [],L 136 1 12,a [0,1,0] (c 137 10 [135,136]),a [2] (m 134 137),a [3] (x 138 0 134),a [3] (x 139 1 134),w 15 (.alloc [.nils]),a [6,4,2,0,1,2,3,4,6] (s 1 15 138),a [5,7,0,1,2,3,4,5,6,7] (m 16 139)],r 15 [c 141 19 [],w 142 (.call 28 [.t 141,.c (.int .i64 60)]),m 140 142,x 143 0 140,x 144 1 140,m 17 143,m 18 144],r 16 [c 146 19 [],w 147 (.build [O,O] [(0,1,.c (.int .i64 10)),(1,1,.c (.int .i64 3))]),c 148 29 [146,147],m 145 148,x 149 0 145,x 150 1 145,w 19 (.alloc [O,O,.int .u8 0,.nils,.nils]),s 5 19 149,m 20 150],r 17 [c 152 19 [],c 153 23 [],w 154 (.slc 1 (.t 153) none (some (.c (.int .i64 4)))),w 155 (.call 18 [.t 152,.t 154,.c (.int .i64 60)]),m 151 155,x 156 0 151,x 157 1 151,m 21 156,m 22 157],r 18 [c 159 19 [],c 160 23 [],w 161 (.call 30 [.t 159,.t 160,.c (.int .i64 60)]),m 158 161,x 162 0 158,x 163 1 158,m 23 162,m 24 163],r 19 [c 165 19 [],w 166 (.call 24 [.t 165,.c (.int .i64 10),.c I,.c (.int .i64 3)]),m 164 166,x 167 0 164,x 168 1 164,x 169 2 164,m 25 167,m 26 168,m 27 169],r 20 [L 171 1 11,w 172 (.call 31 [.t 171,.c (.int .i64 10)]),m 170 172,x 173 0 170,x 174 1 170,m 28 173,m 29 174],r 21 [L 175 1 10,c 176 17 [175],k 177 .eql 176 (.int .i64 21),m 178 177,g 178 true (L 179 1 11),g 178 true (c 180 17 [179]),g 178 true (k 181 .eql 180 (.int .i64 20)),v 182 178 181,m 183 182,g 183 true (m 184 14),g 183 true (k 185 .eql 184 O),v 186 183 185,m 187 186,g 187 true (m 188 13),g 187 true (w 189 (.build [O,O] [(0,1,.c (.int .i64 50)),(1,1,.c I)])),g 187 true (w 190 (.bsl false 2 1 [O,O] [(0,.t 189)])),g 187 true (c 191 12 [188,190]),v 192 187 191,m 193 192,g 193 true (m 194 16),g 193 true (k 195 .eql 194 (.int .i64 23)),v 196 193 195,m 197 196,g 197 true (m 198 18),g 197 true (k 199 .eql 198 (.int .i64 6)),v 200 197 199,m 201 200,g 201 true (m 202 20),g 201 true (k 203 .eql 202 (.int .i64 6)),v 204 201 203,m 205 204,g 205 true (m 206 22),g 205 true (k 207 .eql 206 (.int .i64 22)),v 208 205 207,m 209 208,g 209 true (m 210 24),g 209 true (k 211 .eql 210 (.int .i64 6)),v 212 209 211,m 213 212,g 213 true (m 214 27),g 213 true (k 215 .eql 214 (.int .i64 6)),v 216 213 215,m 217 216,g 217 true (m 218 29),g 217 true (k 219 .eql 218 (.int .i64 20)),v 220 217 219,m 0 220],.ret]
def Z5m:List RRes:=[.t 0]
def Z5n:PCt prog 5 f5 Z5l Z5m:=pcT func5 rfl
def Z5o:RCode :=
 S [r 0 [w 0 (.alloc [.nils])],r 1 [w 1 (.call 26 [.c (.int .i64 20),.c (.int .i64 2)]),w 2 (.call 26 [.c (.int .i64 30),.c I]),w 3 (.bsl false 2 2 [O,O,O,O] [(0,.t 1),(1,.t 2)]),w 4 (.call 56 [.c (.int .i64 10),.c I,.t 3]),w 5 (.call 26 [.c (.int .i64 20),.c I]),w 6 (.call 26 [.c (.int .i64 30),.c (.int .i64 2)]),w 7 (.call 26 [.c (.int .i64 40),.c (.int .i64 2)]),w 8 (.bsl false 2 3 [O,O,O,O,O,O] [(0,.t 5),(1,.t 6),(2,.t 7)]),w 9 (.call 56 [.c (.int .i64 10),.c (.int .i64 2),.t 8]),w 10 (.call 26 [.c (.int .i64 30),.c (.int .i64 3)]),w 11 (.call 26 [.c (.int .i64 50),.c I]),w 12 (.bsl true 2 2 [O,O,O,O] [(0,.t 10),(1,.t 11)]),w 13 (.call 56 [.c (.int .i64 20),.c I,.t 12]),w 14 (.build [O,O,O] [(0,1,.c (.int .i64 150)),(1,1,.c (.int .i64 100)),(2,1,.c (.int .i64 200))]),w 15 (.bsl false 3 1 [O,O,O] [(0,.t 14)]),w 16 (.call 57 [.c (.int .i64 30),.c I,.c (.int .u8 2),.t 15]),w 17 (.build [O,O,O] [(0,1,.c (.int .i64 150)),(1,1,.c (.int .i64 120)),(2,1,.c (.int .i64 200))]),w 18 (.bsl false 3 1 [O,O,O] [(0,.t 17)]),w 19 (.call 57 [.c (.int .i64 30),.c (.int .i64 2),.c (.int .u8 2),.t 18]),w 20 (.call 57 [.c (.int .i64 40),.c I,.c (.int .u8 2),.c .nils]),w 21 (.call 57 [.c (.int .i64 50),.c I,.c (.int .u8 3),.c .nils]),w 22 (.bsl true 5 7 [O,O,.int .u8 0,.nils,.nils,O,O,.int .u8 0,.nils,.nils,O,O,.int .u8 0,.nils,.nils,O,O,.int .u8 0,.nils,.nils,O,O,.int .u8 0,.nils,.nils,O,O,.int .u8 0,.nils,.nils,O,O,.int .u8 0,.nils,.nils] [(0,.t 4),(1,.t 9),(2,.t 13),(3,.t 16),(4,.t 19),(5,.t 20),(6,.t 21)]),w 23 (.build [.nils] [(0,1,.t 22)]),s 1 0 23],.ret]
def Z5p:List RRes:=[.c 0 true 1]
end
section
open Qq Tryd
def Z5q:RCode :=
 S [r 0 [n 4 (.bool false)],S [r 1 [m 6 0,e 7 6,m 8 1,e 9 8,o 10 .neq 7 9],K 10 2 [n 4 (.bool false)]],S [r 3 [n 5 O],.block 0 (.loop (S [S [r 4 [m 11 5,m 12 0,e 13 12,o 14 .lss 11 13],.cond (.t 14) .skip (.exit 0)],.block 1 (S [R 6 [m 17 0,m 18 5,a [0,1] (i 19 2 17 18),a [2] (L 20 2 19),m 21 1,m 22 5,a [4,5] (i 23 2 21 22),a [6] (L 24 2 23),a [3,7] (w 25 (.eqs true [.i,.i] (.t 20) (.t 24)))],K 25 7 [n 4 (.bool false)]]),r 5 [m 15 5,k 16 .add 15 I,m 5 16]]))],r 8 [n 4 (.bool true)],.ret]
def Z5r:List RRes:=[.t 4]
def Z5s:PCt prog 12 f12 Z5q Z5r:=pcT func12 rfl
def Z5t:RCode :=
 S [r 0 [n 4 (.bool false)],S [r 1 [m 6 0,e 7 6,m 8 1,e 9 8,o 10 .neq 7 9],K 10 2 [n 4 (.bool false)]],S [r 3 [n 5 O],.block 0 (.loop (S [S [r 4 [m 11 5,m 12 0,e 13 12,o 14 .lss 11 13],.cond (.t 14) .skip (.exit 0)],.block 1 (S [R 6 [m 17 0,m 18 5,a [0,1] (i 19 3 17 18),a [2] (L 20 3 19),m 21 1,m 22 5,a [4,5] (i 23 3 21 22),a [6] (L 24 3 23),a [3,7] (w 25 (.eqs true [.i,.i,.i] (.t 20) (.t 24)))],K 25 7 [n 4 (.bool false)]]),r 5 [m 15 5,k 16 .add 15 I,m 5 16]]))],r 8 [n 4 (.bool true)],.ret]
def Z5u:List RRes:=[.t 4]
def Z5v:PCt prog 51 f51 Z5t Z5u:=pcT func51 rfl
def Z5w:RCode :=
 S [r 0 [b 2 0,b 3 1,n 4 (.bool false)],r 1 [f 5 3 2,l 6 5,w 7 (.mkf (.func 79) [] [.t 3]),c 8 75 [6,7],m 4 8],.ret]
def Z5x:List RRes:=[.t 4]
def Z5y:PCt prog 61 f61 Z5w Z5x:=pcT func61 rfl
def Z5z:RCode :=
 S [r 0 [b 2 0,n 3 (.bool false)],r 1 [f 4 0 2,l 5 4,l 6 1,o 7 .eql 5 6,m 3 7],.ret]
def Z5A:List RRes:=[.t 3]
def Z5B:PCt prog 79 f79 Z5z Z5A:=pcT func79 rfl
def Z5C:RCode :=
 S [r 0 [b 2 0,n 4 .nils,n 5 O],r 1 [L 12 1 2,m 13 1,c 14 58 [12,13],m 11 14,x 15 0 11,x 16 1 11,m 6 15,m 7 16],S [r 2 [m 17 7,k 18 .neq 17 O],K 18 3 [m 19 7,n 4 .nils,m 5 19]],r 4 [n 8 .nils],S [r 5 [m 20 6,w 21 (.nilck (.t 20)),f 22 0 21,f 23 0 22,l 24 23,e 25 24,n 26 O],.block 0 (.loop (S [r 6 [o 27 .lss 26 25],.cond (.t 27) .skip (.exit 0),.block 1 (S [r 7 [i 28 5 24 26,L 29 5 28,w 10 (.alloc [O,O,.int .u8 0,.nils,.nils]),s 5 10 29],r 8 [L 30 5 10,m 31 1,c 32 61 [30,31]],.cond (.t 32) (r 9 [m 33 8,L 34 5 10,c 35 43 [34],w 36 (.bsl false 2 1 [O,O] [(0,.t 35)]),w 37 (.app 2 16 (.t 33) (.t 36)),m 8 37]) .skip]),r 10 [k 38 .add 26 I,m 26 38]]))],r 11 [m 39 8,m 4 39,n 5 O],.ret]
def Z5D:List RRes:=[.t 4,.t 5]
def Z5E:PCt prog 31 f31 Z5C Z5D:=pcT func31 rfl
def Z5F:RCode :=
 S [r 0 [b 3 0,n 6 .nils,n 7 O],r 1 [L 17 1 3,m 18 1,m 19 2,c 20 54 [17,18,19],m 16 20,x 21 0 16,x 22 1 16,x 23 2 16,w 8 (.alloc [.nilp]),w 9 (.alloc [.nilm]),s 1 8 21,s 1 9 22,m 10 23],S [r 2 [m 24 10,k 25 .neq 24 O],K 25 3 [m 26 10,n 6 .nils,m 7 26]],r 4 [w 27 (.mkmap),w 11 (.alloc [.nilm]),s 1 11 27],r 5 [w 12 (.alloc [.nilf])],r 6 [w 28 (.mkf (.func 60) [] [.t 8,.t 11,.t 9,.t 12]),s 1 12 28],r 7 [l 29 12,m 30 2,w 31 (.callv (.t 29) [.t 30])],r 8 [n 13 .nils],S [r 9 [l 32 8,w 33 (.nilck (.t 32)),f 34 1 33,l 35 34,e 36 35,n 37 O],.block 0 (.loop (S [r 10 [o 38 .lss 37 36],.cond (.t 38) .skip (.exit 0),.block 1 (S [r 11 [i 39 1 35 37,l 40 39,m 15 40],r 12 [l 41 11,m 42 15,w 43 (.look (.i .i64) (.bool false) false (.t 41) (.t 42))],.cond (.t 43) (r 13 [m 44 13,m 45 15,w 46 (.bsl false 1 1 [O] [(0,.t 45)]),w 47 (.app 1 8 (.t 44) (.t 46)),m 13 47]) .skip]),r 14 [k 48 .add 37 I,m 37 48]]))],r 15 [m 49 13,m 6 49,n 7 O],.ret]
def Z5G:List RRes:=[.t 6,.t 7]
def Z5H:PCt prog 22 f22 Z5F Z5G:=pcT func22 rfl
def Z5I:RCode :=
 S [r 0 [l 8 1,w 9 (.nilck (.t 8)),f 10 1 9,l 11 10,e 12 11,n 13 O],.block 0 (.loop (S [r 1 [o 14 .lss 13 12],.cond (.t 14) .skip (.exit 0),.block 1 (S [r 2 [i 15 1 11 13,l 16 15,m 7 16],r 3 [l 17 2,m 18 7,w 19 (.look (.i .i64) (.bool false) false (.t 17) (.t 18)),t 20 19,m 21 20,g 21 true (l 22 3),g 21 true (m 23 7),g 21 true (w 24 (.look (.i .i64) (.agg [O,O,.int .u8 0,.nils,.nils]) false (.t 22) (.t 23))),g 21 true (m 25 0),g 21 true (c 26 61 [24,25]),v 27 21 26],.cond (.t 27) (S [r 4 [l 28 2,m 29 7,z (.mupd (.i .i64) (.t 28) (.t 29) (.c (.bool true)))],r 5 [l 30 4,m 31 7,w 32 (.callv (.t 30) [.t 31])]]) .skip]),r 6 [k 33 .add 13 I,m 13 33]]))]
def Z5J:List RRes:=[]
def Z5K {G:Jg} {objs objs':List (Nat×AObj)} {args:List AV} {v:AV} (hn:args.length<=f60.ntmps) (h:∀ R:Run,R.G=G->R.Top->AR prog R Z5I ⟨iniT 0 args,objs⟩ (FinB Z5J v objs')):PB prog G 60 objs args v objs' :=
 PB_of func60 rfl (by kernel_rfl) (rc:=Z5I) (by kernel_rfl) (rs:=Z5J) (by kernel_rfl) hn (λR _ hG hr=>h R hG hr)
def Z5L:RCode :=
 S [r 0 [b 4 0,n 8 .nils,n 9 .nils,n 10 O],r 1 [L 26 1 4,c 27 53 [26],m 25 27,x 28 0 25,x 29 1 25,m 11 28,m 10 29],S [r 2 [m 30 10,k 31 .neq 30 O],K 31 3 [m 32 10,n 8 .nils,n 9 .nils,m 10 32]],r 4 [m 34 11,m 35 1,m 36 2,w 37 (.build [O,O] [(0,1,.t 35),(1,1,.t 36)]),c 38 62 [34,37],m 33 38,x 39 0 33,x 40 1 33,w 12 (.alloc [O,O,.int .u8 0,.nils,.nils]),s 5 12 39,m 13 40],r 5 [m 42 11,m 43 1,m 44 3,w 45 (.build [O,O] [(0,1,.t 43),(1,1,.t 44)]),c 46 62 [42,45],m 41 46,x 47 0 41,x 48 1 41,w 14 (.alloc [O,O,.int .u8 0,.nils,.nils]),s 5 14 47,m 15 48],S [r 6 [m 49 13,t 50 49,m 51 50,g 51 false (m 52 15),g 51 false (t 53 52),u 54 51 53],K 54 7 [n 8 .nils,n 9 .nils,n 10 (.int .i64 6)]],r 8 [w 55 (.mkmap),m 16 55],S [r 9 [f 56 3 12,l 57 56,e 58 57,n 59 O],.block 0 (.loop (S [r 10 [o 60 .lss 59 58],.cond (.t 60) .skip (.exit 0),.block 1 (S [r 11 [i 61 2 57 59,L 62 2 61,w 18 (.alloc [O,O]),s 2 18 62],r 12 [m 63 16,f 64 0 18,l 65 64,f 66 0 18,l 67 66,f 68 1 18,l 69 68,w 70 (.build [O,O,O] [(0,1,.t 67),(1,1,.t 69)]),z (.mupd (.i .i64) (.t 63) (.t 65) (.t 70))]]),r 13 [k 71 .add 59 I,m 59 71]]))],S [r 14 [f 72 3 14,l 73 72,e 74 73,n 75 O],.block 2 (.loop (S [r 15 [o 76 .lss 75 74],.cond (.t 76) .skip (.exit 2),.block 3 (S [r 16 [i 77 2 73 75,L 78 2 77,w 20 (.alloc [O,O]),s 2 20 78],r 17 [m 79 16,f 80 0 20,l 81 80,f 82 0 20,l 83 82,m 84 16,f 85 0 20,l 86 85,w 87 (.look (.i .i64) (.agg [O,O,O]) false (.t 84) (.t 86)),w 88 (.field false 1 1 (.t 87)),f 89 1 20,l 90 89,w 91 (.build [O,O,O] [(0,1,.t 83),(1,1,.t 88),(2,1,.t 90)]),z (.mupd (.i .i64) (.t 79) (.t 81) (.t 91))]]),r 18 [k 92 .add 75 I,m 75 92]]))],S [r 19 [m 93 11,w 94 (.nilck (.t 93)),f 95 1 94,l 96 95,e 97 96,n 98 O],.block 4 (.loop (S [r 20 [o 99 .lss 98 97],.cond (.t 99) .skip (.exit 4),.block 5 (S [r 21 [i 100 1 96 98,l 101 100,m 22 101],r 22 [m 102 16,m 103 22,w 104 (.look (.i .i64) (.agg [O,O,O]) false (.t 102) (.t 103)),w 23 (.alloc [O,O,O]),s 3 23 104],r 23 [f 105 1 23,l 106 105,f 107 2 23,l 108 107,o 109 .neq 106 108],.cond (.t 109) (r 24 [m 110 8,L 111 3 23,w 112 (.bsl false 3 1 [O,O,O] [(0,.t 111)]),w 113 (.app 3 24 (.t 110) (.t 112)),m 8 113]) .skip]),r 25 [k 114 .add 98 I,m 98 114]]))],S [r 26 [f 115 4 12,l 116 115,e 117 116,f 118 4 14,l 119 118,e 120 119,w 121 (.mx true (.t 117) [.t 120]),n 122 O],.block 6 (.loop (S [r 27 [o 123 .lss 122 121],.cond (.t 123) .skip (.exit 6),.block 7 (S [r 28 [m 124 122,m 24 124],R 29 [m 125 24,f 126 4 12,a [1] (l 127 126),a [2] (e 128 127),f 129 4 14,a [4] (l 130 129),a [5] (e 131 130),a [3,6] (w 132 (.mx false (.t 128) [.t 131])),a [0,7] (o 133 .geq 125 132),a [8] (m 134 133),a [9] (g 134 false (f 135 4 12)),a [10,9] (g 134 false (l 136 135)),a [9] (g 134 false (m 137 24)),a [11,12,9] (g 134 false (i 138 3 136 137)),a [13,9] (g 134 false (L 139 3 138)),a [9] (g 134 false (f 140 4 14)),a [15,9] (g 134 false (l 141 140)),a [9] (g 134 false (m 142 24)),a [16,17,9] (g 134 false (i 143 3 141 142)),a [18,9] (g 134 false (L 144 3 143)),a [14,19,9] (g 134 false (w 145 (.eqs true [.i,.i,.i] (.t 139) (.t 144)))),a [9,20] (u 146 134 145)],.cond (.t 146) (r 30 [m 147 9,m 148 24,w 149 (.bsl false 1 1 [O] [(0,.t 148)]),w 150 (.app 1 8 (.t 147) (.t 149)),m 9 150]) .skip]),r 31 [k 151 .add 122 I,m 122 151]]))],r 32 [m 152 8,m 153 9,m 8 152,m 9 153,n 10 O],.ret]
def Z5M:List RRes:=[.t 8,.t 9,.t 10]
def Z5N:PCt prog 24 f24 Z5L Z5M:=pcT func24 rfl
end
section
open Qq Tryd
def Z5O:RCode :=
 S [r 0 [b 3 0,n 6 .nilp,n 7 .nilm,n 8 O],r 1 [L 16 1 3,c 17 53 [16],m 15 17,x 18 0 15,x 19 1 15,m 9 18,m 10 19],S [r 2 [m 20 10,k 21 .neq 20 O],K 21 3 [m 22 10,n 6 .nilp,n 7 .nilm,m 8 22]],S [r 4 [m 23 1,e 24 23,m 25 9,w 26 (.nilck (.t 25)),f 27 1 26,l 28 27,e 29 28,o 30 .neq 24 29],K 30 5 [n 6 .nilp,n 7 .nilm,n 8 (.int .i64 22)]],r 6 [w 31 (.mkmap),m 11 31],S [r 7 [m 32 1,e 33 32,n 34 O],.block 0 (.loop (S [r 8 [o 35 .lss 34 33],.cond (.t 35) .skip (.exit 0),.block 1 (S [r 9 [m 36 34,m 12 36],R 10 [m 38 9,m 39 9,a [1] (w 40 (.nilck (.t 39))),a [2] (f 41 1 40),a [3] (l 42 41),m 43 12,a [4,5] (i 44 1 42 43),a [6] (l 45 44),m 46 1,m 47 12,a [8,9] (i 48 1 46 47),a [10] (l 49 48),a [7,11] (w 50 (.build [O,O] [(0,1,.t 45),(1,1,.t 49)])),a [0,12] (c 51 62 [38,50]),a [13] (m 37 51),a [14] (x 52 0 37),a [14] (x 53 1 37),w 13 (.alloc [O,O,.int .u8 0,.nils,.nils]),a [17,15,13,0,1,2,3,4,5,6,7,8,9,10,11,12,13,14,15,17] (s 5 13 52),a [16,18,0,1,2,3,4,5,6,7,8,9,10,11,12,13,14,15,16,17,18] (m 14 53)],S [r 11 [m 54 14,t 55 54],K 55 12 [n 6 .nilp,n 7 .nilm,n 8 (.int .i64 22)]],r 13 [m 56 11,f 57 0 13,l 58 57,L 59 5 13,z (.mupd (.i .i64) (.t 56) (.t 58) (.t 59))]]),r 14 [k 60 .add 34 I,m 34 60]]))],S [r 15 [m 61 9,m 62 2,c 63 77 [61,62],t 64 63],K 64 16 [n 6 .nilp,n 7 .nilm,n 8 (.int .i64 6)]],r 17 [m 65 9,m 66 11,m 6 65,m 7 66,n 8 O],.ret]
def Z5P:List RRes:=[.t 6,.t 7,.t 8]
def Z5Q:PCt prog 54 f54 Z5O Z5P:=pcT func54 rfl
def Z5R:RCode :=
 S [r 0 [b 3 0,n 6 .nils,n 7 O],r 1 [L 17 1 3,m 18 1,m 19 2,c 20 54 [17,18,19],m 16 20,x 21 0 16,x 22 1 16,x 23 2 16,w 9 (.alloc [.nilm]),m 8 21,s 1 9 22,m 10 23],S [r 2 [m 24 10,k 25 .neq 24 O],K 25 3 [m 26 10,n 6 .nils,m 7 26]],r 4 [w 27 (.mkmap),w 11 (.alloc [.nilm]),s 1 11 27],r 5 [w 12 (.alloc [.nilf])],r 6 [w 28 (.mkf (.func 55) [] [.t 9,.t 11,.t 12]),s 1 12 28],r 7 [l 29 12,m 30 2,w 31 (.callv (.t 29) [.t 30,.c I])],r 8 [n 13 .nils],S [r 9 [m 32 8,w 33 (.nilck (.t 32)),f 34 1 33,l 35 34,e 36 35,n 37 O],.block 0 (.loop (S [r 10 [o 38 .lss 37 36],.cond (.t 38) .skip (.exit 0),.block 1 (S [r 11 [i 39 1 35 37,l 40 39,m 15 40],r 12 [l 41 11,m 42 15,w 43 (.look (.i .i64) O false (.t 41) (.t 42)),k 44 .gtr 43 O],.cond (.t 44) (r 13 [m 45 13,m 46 15,l 47 11,m 48 15,w 49 (.look (.i .i64) O false (.t 47) (.t 48)),w 50 (.build [O,O] [(0,1,.t 46),(1,1,.t 49)]),w 51 (.bsl false 2 1 [O,O] [(0,.t 50)]),w 52 (.app 2 16 (.t 45) (.t 51)),m 13 52]) .skip]),r 14 [k 53 .add 37 I,m 37 53]]))],r 15 [m 54 13,m 6 54,n 7 O],.ret]
def Z5S:List RRes:=[.t 6,.t 7]
def Z5T:PCt prog 18 f18 Z5R Z5S:=pcT func18 rfl
def Z5U:RCode :=
 S [r 0 [l 10 2,m 11 0,w 12 (.look (.i .i64) (.agg [O,O,.int .u8 0,.nils,.nils]) false (.t 10) (.t 11)),w 7 (.alloc [O,O,.int .u8 0,.nils,.nils]),s 5 7 12],S [r 1 [f 13 2 7,l 14 13,k 15 .neq 14 (.int .u8 1)],.cond (.t 15) (r 2 [l 16 3,m 17 0,w 18 (.look (.i .i64) O false (.t 16) (.t 17)),m 19 1,o 20 .add 18 19,z (.mupd (.i .i64) (.t 16) (.t 17) (.t 20))]) .skip],r 3 [f 21 3 7,l 22 21,e 23 22,n 24 O],.block 0 (.loop (S [r 4 [o 25 .lss 24 23],.cond (.t 25) .skip (.exit 0),.block 1 (S [r 5 [i 26 2 22 24,L 27 2 26,w 9 (.alloc [O,O]),s 2 9 27],r 6 [l 28 4,f 29 0 9,l 30 29,m 31 1,f 32 1 9,l 33 32,o 34 .mul 31 33,w 35 (.callv (.t 28) [.t 30,.t 34])]]),r 7 [k 36 .add 24 I,m 24 36]]))]
def Z5V:List RRes:=[]
def Z5W {G:Jg} {objs objs':List (Nat×AObj)} {args:List AV} {v:AV} (hn:args.length<=f55.ntmps) (h:∀ R:Run,R.G=G->R.Top->AR prog R Z5U ⟨iniT 0 args,objs⟩ (FinB Z5V v objs')):PB prog G 55 objs args v objs' :=
 PB_of func55 rfl (by kernel_rfl) (rc:=Z5U) (by kernel_rfl) (rs:=Z5V) (by kernel_rfl) hn (λR _ hG hr=>h R hG hr)
def Z5X:RCode :=
 S [r 0 [b 3 0,n 6 .nils,n 7 O],r 1 [L 14 1 3,m 15 1,m 16 2,c 17 54 [14,15,16],m 13 17,x 18 0 13,x 19 1 13,x 20 2 13,w 9 (.alloc [.nilm]),m 8 18,s 1 9 19,m 10 20],S [r 2 [m 21 10,k 22 .neq 21 O],K 22 3 [m 23 10,n 6 .nils,m 7 23]],r 4 [w 11 (.alloc [.nils])],r 5 [w 12 (.alloc [.nilf])],r 6 [w 24 (.mkf (.func 64) [] [.t 11,.t 9,.t 12]),s 1 12 24],r 7 [l 25 12,m 26 2,w 27 (.build [O,O] [(0,1,.t 26),(1,1,.c I)]),w 28 (.callv (.t 25) [.c O,.t 27])],S [r 8 [l 29 11,e 30 29,k 31 .gtr 30 (.int .i64 500)],K 31 9 [n 6 .nils,n 7 (.int .i64 4)]],r 10 [l 32 11,m 6 32,n 7 O],.ret]
def Z5Y:List RRes:=[.t 6,.t 7]
def Z5Z:PCt prog 30 f30 Z5X Z5Y:=pcT func30 rfl
def Z60:RCode :=
 S [r 0 [b 6 1],S [r 1 [l 10 2,e 11 10,k 12 .gtr 11 (.int .i64 500)],.cond (.t 12) .ret .skip],r 2 [l 13 3,f 14 0 6,l 15 14,w 16 (.look (.i .i64) (.agg [O,O,.int .u8 0,.nils,.nils]) false (.t 13) (.t 15)),w 7 (.alloc [O,O,.int .u8 0,.nils,.nils]),s 5 7 16],r 3 [l 17 2,m 18 0,f 19 0 7,l 20 19,f 21 1 7,l 22 21,f 23 1 6,l 24 23,w 25 (.build [O,O,O,O] [(0,1,.t 18),(1,1,.t 20),(2,1,.t 22),(3,1,.t 24)]),w 26 (.bsl false 4 1 [O,O,O,O] [(0,.t 25)]),w 27 (.app 4 32 (.t 17) (.t 26)),s 1 2 27],r 4 [f 28 3 7,l 29 28,e 30 29,n 31 O],.block 0 (.loop (S [r 5 [o 32 .lss 31 30],.cond (.t 32) .skip (.exit 0),.block 1 (S [r 6 [i 33 2 29 31,L 34 2 33,w 9 (.alloc [O,O]),s 2 9 34],r 7 [l 35 4,m 36 0,k 37 .add 36 I,L 38 2 9,w 39 (.callv (.t 35) [.t 37,.t 38])]]),r 8 [k 40 .add 31 I,m 31 40]]))]
def Z61:List RRes:=[]
def Z62 {G:Jg} {objs objs':List (Nat×AObj)} {args:List AV} {v:AV} (hn:args.length<=f64.ntmps) (h:∀ R:Run,R.G=G->R.Top->AR prog R Z60 ⟨iniT 0 args,objs⟩ (FinB Z61 v objs')):PB prog G 64 objs args v objs' :=
 PB_of func64 rfl (by kernel_rfl) (rc:=Z60) (by kernel_rfl) (rs:=Z61) (by kernel_rfl) hn (λR _ hG hr=>h R hG hr)
end
section
open Qq Tryd
def Z63:RCode :=
 S [r 0 [n 4 (.bool false)],S [r 1 [m 6 0,e 7 6,m 8 1,e 9 8,o 10 .neq 7 9],K 10 2 [n 4 (.bool false)]],S [r 3 [n 5 O],.block 0 (.loop (S [S [r 4 [m 11 5,m 12 0,e 13 12,o 14 .lss 11 13],.cond (.t 14) .skip (.exit 0)],.block 1 (S [R 6 [m 17 0,m 18 5,a [0,1] (i 19 4 17 18),a [2] (L 20 4 19),m 21 1,m 22 5,a [4,5] (i 23 4 21 22),a [6] (L 24 4 23),a [3,7] (w 25 (.eqs true [.i,.i,.i,.i] (.t 20) (.t 24)))],K 25 7 [n 4 (.bool false)]]),r 5 [m 15 5,k 16 .add 15 I,m 5 16]]))],r 8 [n 4 (.bool true)],.ret]
def Z64:List RRes:=[.t 4]
def Z65:PCt prog 50 f50 Z63 Z64:=pcT func50 rfl
end
section
open Qq Tryd
noncomputable def Z66:RCode :=
 S [r 0 [b 1 0,n 2 .nilp,n 3 O],.scope (S [r 1 [L 16 1 1,w 17 (.build [.nils,.nils] [(0,1,.t 16)]),b 18 17,w 4 (.alloc [.nilp]),s 1 4 18],S [r 2 [f 19 0 1,l 20 19,e 21 20,w 22 (.bsl false 1 1 [O] [(0,.t 21)]),w 23 (.call 74 [.c I,.c (.int .i64 60),.t 22]),t 24 23],K 24 3 [n 2 .nilp,n 3 (.int .i64 20)]],(.label 0),S [r 4 [f 25 0 1,l 26 25,e 27 26,n 28 O],.block 0 (.loop (S [r 5 [o 29 .lss 28 27],.cond (.t 29) .skip (.exit 0),.block 1 (S [r 6 [m 30 28,i 31 5 26 28,L 32 5 31,w 6 (.alloc [O,O,.int .u8 0,.nils,.nils]),m 5 30,s 5 6 32],S [r 7 [w 33 (.load true 4 (.g 0)),n 34 O],.block 2 (.loop (S [r 8 [k 35 .lss 34 (.int .i64 4)],.cond (.t 35) .skip (.exit 2),.block 3 (S [r 9 [w 36 (.vop (.aidx true 4 1) [(.t 33),(.t 34)]),w 8 (.alloc [.nilf]),s 1 8 36],r 10 [f 37 0 8,l 38 37,L 39 5 6,w 40 (.callv (.t 38) [.t 39]),t 41 40],K 41 11 [n 2 .nilp,n 3 (.int .i64 20)]]),r 12 [k 42 .add 34 I,m 34 42]]))],S [r 13 [m 43 5,k 44 .gtr 43 O],.cond (.t 44) (S [r 14 [f 45 0 1,l 46 45,m 47 5,k 48 .sub 47 I,i 49 5 46 48,L 50 5 49,w 9 (.alloc [O,O,.int .u8 0,.nils,.nils]),s 5 9 50],r 15 [f 51 0 9,l 52 51,f 53 0 6,l 54 53,o 55 .eql 52 54],.cond (.t 55) (S [S [r 16 [f 56 1 9,l 57 56,k 58 .add 57 I,f 59 1 6,l 60 59,o 61 .neq 58 60,m 62 61,g 62 false (f 63 2 9),g 62 false (l 64 63),g 62 false (f 65 2 6),g 62 false (l 66 65),g 62 false (o 67 .neq 64 66),u 68 62 67],K 68 17 [n 2 .nilp,n 3 (.int .i64 20)]],.exit 1]) (S [r 18 [f 69 0 9,l 70 69,f 71 0 6,l 72 71,o 73 .gtr 70 72],K 73 19 [n 2 .nilp,n 3 (.int .i64 20)]])]) .skip],S [r 20 [f 74 1 6,l 75 74,k 76 .neq 75 I],K 76 21 [n 2 .nilp,n 3 (.int .i64 20)]],R 22 [l 77 4,l 78 4,a [1] (w 79 (.nilck (.t 78))),a [2] (f 80 1 79),a [3] (l 81 80),f 82 0 6,a [5] (l 83 82),a [6] (w 84 (.bsl false 1 1 [O] [(0,.t 83)])),a [4,7] (w 85 (.app 1 8 (.t 81) (.t 84))),a [0,0,1,2,3,4,5,6,7,8] (w 86 (.nilck (.t 77))),a [9,0,1,2,3,4,5,6,7,8] (f 87 1 86),a [10,8,8,0,1,2,3,4,5,6,7,8] (s 1 87 85)]]),r 23 [k 88 .add 28 I,m 28 88]]))],S [r 24 [l 89 4,w 90 (.nilck (.t 89)),f 91 1 90,l 92 91,e 93 92,k 94 .gtr 93 (.int .i64 20)],K 94 25 [n 2 .nilp,n 3 (.int .i64 20)]],S [r 26 [f 95 0 1,l 96 95,e 97 96,n 98 O],.block 4 (.loop (S [r 27 [o 99 .lss 98 97],.cond (.t 99) .skip (.exit 4),.block 5 (S [r 28 [i 100 5 96 98,L 101 5 100,w 11 (.alloc [O,O,.int .u8 0,.nils,.nils]),s 5 11 101],r 29 [f 102 3 11,l 103 102,w 104 (.mkf (.func 76) [] [.t 4]),c 105 75 [103,104]],K 105 30 [n 2 .nilp,n 3 (.int .i64 20)]]),r 31 [k 106 .add 98 I,m 98 106]]))],r 32 [l 108 4,c 109 59 [108],m 107 109,x 110 0 107,x 111 1 107,m 12 110,m 13 111],S [r 33 [m 112 13],K 112 34 [n 2 .nilp,n 3 (.int .i64 21)]],(.raw (opnR prog)),r 40 [l 121 4,m 2 121,n 3 O],.ret])]
def Z67:List RRes:=[.t 2,.t 3]
def Z68:PCt prog 53 f53 Z66 Z67:=pcT func53 rfl
end
section
open Qq Tryd
def Z69:RCode :=
 S [r 0 [b 3 0,b 4 1,n 6 (.bool false)],r 1 [m 7 2,w 8 (.mkf (.func 73) [] [.t 3,.t 4]),c 9 72 [7,8],t 10 9,m 6 10],.ret]
def Z6a:List RRes:=[.t 6]
def Z6b:PCt prog 52 f52 Z69 Z6a:=pcT func52 rfl
def Z6c:RCode :=
 S [r 0 [n 4 (.bool false)],r 1 [m 5 0,l 6 1,o 7 .lss 5 6,m 8 7,g 8 false (m 9 0),g 8 false (l 10 2),g 8 false (o 11 .gtr 9 10),u 12 8 11,m 4 12],.ret]
def Z6d:List RRes:=[.t 4]
def Z6e:PCt prog 73 f73 Z6c Z6d:=pcT func73 rfl
def Z6f:RCode :=
 S [r 0 [n 4 (.bool false)],r 1 [m 5 0,m 6 1,c 7 89 [5,6],k 8 .geq 7 O,m 4 8],.ret]
def Z6g:List RRes:=[.t 4]
def Z6h:PCt prog 72 f72 Z6f Z6g:=pcT func72 rfl
def Z6i:RCode :=
 S [r 0 [n 4 O],S [r 1 [m 6 0,e 7 6,n 8 O],.block 0 (.loop (S [r 2 [o 9 .lss 8 7],.cond (.t 9) .skip (.exit 0),.block 1 (S [r 3 [m 10 8,m 5 10],r 4 [m 11 1,m 12 0,m 13 5,i 14 1 12 13,l 15 14,w 16 (.callv (.t 11) [.t 15])],K 16 5 [m 17 5,m 4 17]]),r 6 [k 18 .add 8 I,m 8 18]]))],r 7 [n 4 (.int .i64 (-1))],.ret]
def Z6j:List RRes:=[.t 4]
def Z6k:PCt prog 89 f89 Z6i Z6j:=pcT func89 rfl
def Z6l:RCode :=
 S [r 0 [b 1 0,n 2 O],S [r 1 [f 3 0 1,l 4 3,f 5 1 1,l 6 5,f 7 2 1,l 8 7,w 9 (.bsl false 1 3 [O,O,O] [(0,.t 4),(1,.t 6),(2,.t 8)]),w 10 (.call 52 [.c O,.c (.int .i64 1000000000),.t 9]),t 11 10,m 12 11,g 12 false (f 13 1 1),g 12 false (l 14 13),g 12 false (f 15 2 1),g 12 false (l 16 15),g 12 false (o 17 .gtr 14 16),u 18 12 17],K 18 2 [n 2 (.int .i64 10)]],r 3 [n 2 O],.ret]
def Z6m:List RRes:=[.t 2]
def Z6n:PCt prog 16 f16 Z6l Z6m:=pcT func16 rfl
def Z6o:RCode :=
 S [r 0 [b 3 0,b 4 1,n 6 (.bool false)],r 1 [m 7 2,w 8 (.mkf (.func 90) [] [.t 3,.t 4]),c 9 72 [7,8],t 10 9,m 6 10],.ret]
def Z6p:List RRes:=[.t 6]
def Z6q:PCt prog 74 f74 Z6o Z6p:=pcT func74 rfl
def Z6r:RCode :=
 S [r 0 [n 4 (.bool false)],r 1 [m 5 0,l 6 1,o 7 .lss 5 6,m 8 7,g 8 false (m 9 0),g 8 false (l 10 2),g 8 false (o 11 .gtr 9 10),u 12 8 11,m 4 12],.ret]
def Z6s:List RRes:=[.t 4]
def Z6t:PCt prog 90 f90 Z6r Z6s:=pcT func90 rfl
def Z6u:RCode :=
 S [r 0 [b 1 0,w 2 (.alloc [O,O])],r 1 [f 3 0 1,l 4 3,f 5 1 1,l 6 5,w 7 (.build [O,O] [(0,1,.t 4),(1,1,.t 6)]),s 2 2 7],.ret]
def Z6v:List RRes:=[.c 2 true 2]
def Z6w:PCt prog 43 f43 Z6u Z6v:=pcT func43 rfl
def Z6x:RCode :=
 S [r 0 [b 1 0,n 2 (.bool false)],r 1 [f 3 0 1,l 4 3,w 5 (.bsl false 1 1 [O] [(0,.t 4)]),w 6 (.call 74 [.c I,.c (.int .i64 9999),.t 5]),m 7 6,g 7 true (f 8 1 1),g 7 true (l 9 8),g 7 true (w 10 (.bsl false 1 1 [O] [(0,.t 9)])),g 7 true (w 11 (.call 74 [.c I,.c (.int .i64 8),.t 10])),v 12 7 11,m 2 12],.ret]
def Z6y:List RRes:=[.t 2]
def Z6z:PCt prog 122 f122 Z6x Z6y:=pcT func122 rfl
def Z6A:RCode :=
 S [r 0 [b 1 0,n 2 (.bool false)],S [r 1 [f 3 2 1,l 4 3,k 5 .eql 4 (.int .u8 1)],K 5 2 [f 6 3 1,l 7 6,e 8 7,w 9 (.bsl false 1 1 [O] [(0,.t 8)]),w 10 (.call 74 [.c I,.c (.int .i64 8),.t 9]),m 11 10,g 11 true (f 12 4 1),g 11 true (l 13 12),g 11 true (e 14 13),g 11 true (k 15 .eql 14 O),v 16 11 15,m 2 16]],r 3 [f 17 2 1,l 18 17,w 19 (.conv .i64 (.t 18)),w 20 (.bsl false 1 1 [O] [(0,.t 19)]),w 21 (.call 74 [.c (.int .i64 2),.c (.int .i64 3),.t 20]),m 22 21,g 22 true (f 23 4 1),g 22 true (l 24 23),g 22 true (e 25 24),g 22 true (k 26 .leq 25 (.int .i64 4)),v 27 22 26,m 28 27,g 28 true (f 29 3 1),g 28 true (l 30 29),g 28 true (e 31 30),g 28 true (k 32 .eql 31 O),v 33 28 32,m 2 33],.ret]
def Z6B:List RRes:=[.t 2]
def Z6C:PCt prog 123 f123 Z6A Z6B:=pcT func123 rfl
def Z6D:RCode :=
 S [r 0 [b 1 0,n 2 (.bool false)],S [r 1 [f 5 3 1,l 6 5,e 7 6,n 8 O],.block 0 (.loop (S [r 2 [o 9 .lss 8 7],.cond (.t 9) .skip (.exit 0),.block 1 (S [r 3 [m 10 8,i 11 2 6 8,L 12 2 11,w 4 (.alloc [O,O]),m 3 10,s 2 4 12],R 4 [f 13 0 4,a [0] (l 14 13),a [1] (w 15 (.bsl false 1 1 [O] [(0,.t 14)])),a [2] (w 16 (.call 74 [.c I,.c (.int .i64 9999),.t 15])),a [3] (t 17 16),a [4,3] (m 18 17),a [5] (g 18 false (f 19 1 4)),a [6,5] (g 18 false (l 20 19)),a [7,5] (g 18 false (w 21 (.bsl false 1 1 [O] [(0,.t 20)]))),a [8,5,5] (g 18 false (w 22 (.call 74 [.c I,.c (.int .i64 20),.t 21]))),a [9,5] (g 18 false (t 23 22)),a [5,10] (u 24 18 23),a [11,9] (m 25 24),a [12] (g 25 false (f 26 0 4)),a [13,12] (g 25 false (l 27 26)),a [12] (g 25 false (f 28 0 1)),a [15,12] (g 25 false (l 29 28)),a [14,16,12] (g 25 false (o 30 .eql 27 29)),a [12,17] (u 31 25 30),a [18,12] (m 32 31),a [19] (g 32 false (m 33 3)),a [20,19] (g 32 false (k 34 .gtr 33 O)),a [21,19,19] (g 32 false (m 35 34)),a [22] (g 35 true (f 36 3 1)),a [23,22] (g 35 true (l 37 36)),a [22] (g 35 true (m 38 3)),a [25,22] (g 35 true (k 39 .sub 38 I)),a [24,26,22] (g 35 true (i 40 2 37 39)),a [27,22] (g 35 true (f 41 0 40)),a [28,22] (g 35 true (l 42 41)),a [22] (g 35 true (f 43 0 4)),a [30,22] (g 35 true (l 44 43)),a [29,31,22] (g 35 true (o 45 .geq 42 44)),a [22,32,19] (g 32 false (v 46 35 45)),a [19,33] (u 47 32 46)],K 47 5 [n 2 (.bool false)]]),r 6 [k 48 .add 8 I,m 8 48]]))],r 7 [n 2 (.bool true)],.ret]
def Z6E:List RRes:=[.t 2]
def Z6F:PCt prog 124 f124 Z6D Z6E:=pcT func124 rfl
def Z6G:RCode :=
 S [r 0 [b 1 0,n 2 (.bool false)],r 1 [f 3 4 1,l 4 3,w 5 (.call 126 [.t 4,.c (.func (.func 127) [] [])]),t 6 5,m 2 6],.ret]
def Z6H:List RRes:=[.t 2]
def Z6I:PCt prog 125 f125 Z6G Z6H:=pcT func125 rfl
def Z6J:RCode :=
 S [r 0 [b 1 0,n 2 (.bool false)],r 1 [L 3 3 1,c 4 16 [3],k 5 .neq 4 O,m 2 5],.ret]
def Z6K:List RRes:=[.t 2]
def Z6L:PCt prog 127 f127 Z6J Z6K:=pcT func127 rfl
def Z6M:RCode :=
 S [r 0 [n 4 (.bool false)],r 1 [m 5 0,m 6 1,c 7 128 [5,6],k 8 .geq 7 O,m 4 8],.ret]
def Z6N:List RRes:=[.t 4]
def Z6O:PCt prog 126 f126 Z6M Z6N:=pcT func126 rfl
def Z6P:RCode :=
 S [r 0 [n 4 O],S [r 1 [m 6 0,e 7 6,n 8 O],.block 0 (.loop (S [r 2 [o 9 .lss 8 7],.cond (.t 9) .skip (.exit 0),.block 1 (S [r 3 [m 10 8,m 5 10],r 4 [m 11 1,m 12 0,m 13 5,i 14 3 12 13,L 15 3 14,w 16 (.callv (.t 11) [.t 15])],K 16 5 [m 17 5,m 4 17]]),r 6 [k 18 .add 8 I,m 8 18]]))],r 7 [n 4 (.int .i64 (-1))],.ret]
def Z6Q:List RRes:=[.t 4]
def Z6R:PCt prog 128 f128 Z6P Z6Q:=pcT func128 rfl
def Z6S:RCode :=
 S [r 0 [n 4 (.bool false)],r 1 [m 5 0,m 6 1,c 7 91 [5,6],k 8 .geq 7 O,m 4 8],.ret]
def Z6T:List RRes:=[.t 4]
def Z6U:PCt prog 75 f75 Z6S Z6T:=pcT func75 rfl
def Z6V:RCode :=
 S [r 0 [n 4 O],S [r 1 [m 6 0,e 7 6,n 8 O],.block 0 (.loop (S [r 2 [o 9 .lss 8 7],.cond (.t 9) .skip (.exit 0),.block 1 (S [r 3 [m 10 8,m 5 10],r 4 [m 11 1,m 12 0,m 13 5,i 14 2 12 13,L 15 2 14,w 16 (.callv (.t 11) [.t 15])],K 16 5 [m 17 5,m 4 17]]),r 6 [k 18 .add 8 I,m 8 18]]))],r 7 [n 4 (.int .i64 (-1))],.ret]
def Z6W:List RRes:=[.t 4]
def Z6X:PCt prog 91 f91 Z6V Z6W:=pcT func91 rfl
def Z6Y:RCode :=
 S [r 0 [b 2 0,n 3 (.bool false)],r 1 [l 4 1,f 5 0 2,l 6 5,c 7 77 [4,6],t 8 7,m 3 8],.ret]
def Z6Z:List RRes:=[.t 3]
def Z70:PCt prog 76 f76 Z6Y Z6Z:=pcT func76 rfl
def Z71:RCode :=
 S [r 0 [n 4 (.bool false)],r 1 [m 8 0,w 9 (.nilck (.t 8)),f 10 1 9,l 11 10,m 12 1,c 13 92 [11,12],m 7 13,x 14 0 7,x 15 1 7,m 5 14,m 6 15],r 2 [m 16 6,m 4 16],.ret]
def Z72:List RRes:=[.t 4]
def Z73:PCt prog 77 f77 Z71 Z72:=pcT func77 rfl
def Z74:RCode :=
 S [r 0 [n 4 O,n 5 (.bool false)],r 1 [m 10 0,e 11 10,m 6 11],r 2 [m 12 6,n 7 O,m 8 12],.block 0 (.loop (S [S [r 3 [m 13 7,m 14 8,o 15 .lss 13 14],.cond (.t 15) .skip (.exit 0)],.block 1 (S [r 4 [m 16 7,m 17 8,o 18 .add 16 17,w 19 (.conv .u64 (.t 18)),w 20 (.vop (.sh false) [(.t 19),(.c (.int .u64 1))]),w 21 (.conv .i64 (.t 20)),m 9 21],r 5 [m 22 0,m 23 9,i 24 1 22 23,l 25 24,m 26 1,c 27 100 [25,26]],.cond (.t 27) (r 6 [m 28 9,k 29 .add 28 I,m 7 29]) (r 7 [m 30 9,m 8 30])])])),r 8 [m 31 7,m 32 7,m 33 6,o 34 .lss 32 33,m 35 34,g 35 true (m 36 0),g 35 true (m 37 7),g 35 true (i 38 1 36 37),g 35 true (l 39 38),g 35 true (m 40 1),g 35 true (o 41 .eql 39 40),g 35 true (m 42 41),g 42 false (m 43 0),g 42 false (m 44 7),g 42 false (i 45 1 43 44),g 42 false (l 46 45),g 42 false (c 47 101 [46]),g 42 false (m 48 47),g 48 true (m 49 1),g 48 true (c 50 101 [49]),g 42 false (v 51 48 50),g 35 true (u 52 42 51),v 53 35 52,m 4 31,m 5 53],.ret]
def Z75:List RRes:=[.t 4,.t 5]
def Z76:PCt prog 92 f92 Z74 Z75:=pcT func92 rfl
def Z77:RCode :=
 S [r 0 [n 4 (.bool false)],r 1 [m 5 0,c 6 102 [5],m 7 6,g 7 true (m 8 1),g 7 true (c 9 102 [8]),g 7 true (t 10 9),v 11 7 10,m 12 11,g 12 false (m 13 0),g 12 false (m 14 1),g 12 false (o 15 .lss 13 14),u 16 12 15,m 4 16],.ret]
def Z78:List RRes:=[.t 4]
def Z79:PCt prog 100 f100 Z77 Z78:=pcT func100 rfl
def Z7a:RCode :=
 S [r 0 [n 2 (.bool false)],r 1 [m 3 0,m 4 0,o 5 .neq 3 4,m 2 5],.ret]
def Z7b:List RRes:=[.t 2]
def Z7c:PCt prog 102 f102 Z7a Z7b:=pcT func102 rfl
def Z7d:RCode :=
 S [r 0 [n 2 (.bool false)],r 1 [m 3 0,m 4 0,o 5 .neq 3 4,m 2 5],.ret]
def Z7e:List RRes:=[.t 2]
def Z7f:PCt prog 101 f101 Z7d Z7e:=pcT func101 rfl
def Z7g:RCode :=
 S [r 0 [n 4 O],r 1 [m 7 0,c 8 102 [7],m 5 8],r 2 [m 9 1,c 10 102 [9],m 6 10],S [r 3 [m 11 5],.cond (.t 11) (S [S [r 4 [m 12 6],K 12 5 [n 4 O]],r 6 [n 4 (.int .i64 (-1))],.ret]) .skip],S [r 7 [m 13 6],K 13 8 [n 4 I]],S [r 9 [m 14 0,m 15 1,o 16 .lss 14 15],K 16 10 [n 4 (.int .i64 (-1))]],S [r 11 [m 17 0,m 18 1,o 19 .gtr 17 18],K 19 12 [n 4 I]],r 13 [n 4 O],.ret]
def Z7h:List RRes:=[.t 4]
def Z7i:PCt prog 96 f96 Z7g Z7h:=pcT func96 rfl
def Z7j:RCode :=
 S [r 0 [n 6 O,n 7 (.bool false)],r 1 [m 12 0,e 13 12,m 8 13],r 2 [m 14 8,n 9 O,m 10 14],.block 0 (.loop (S [S [r 3 [m 15 9,m 16 10,o 17 .lss 15 16],.cond (.t 17) .skip (.exit 0)],.block 1 (S [r 4 [m 18 9,m 19 10,o 20 .add 18 19,w 21 (.conv .u64 (.t 20)),w 22 (.vop (.sh false) [(.t 21),(.c (.int .u64 1))]),w 23 (.conv .i64 (.t 22)),m 11 23],r 5 [m 24 2,m 25 0,m 26 11,i 27 5 25 26,L 28 5 27,m 29 1,w 30 (.callv (.t 24) [.t 28,.t 29]),k 31 .lss 30 O],.cond (.t 31) (r 6 [m 32 11,k 33 .add 32 I,m 9 33]) (r 7 [m 34 11,m 10 34])])])),r 8 [m 35 9,m 36 9,m 37 8,o 38 .lss 36 37,m 39 38,g 39 true (m 40 2),g 39 true (m 41 0),g 39 true (m 42 9),g 39 true (i 43 5 41 42),g 39 true (L 44 5 43),g 39 true (m 45 1),g 39 true (w 46 (.callv (.t 40) [.t 44,.t 45])),g 39 true (k 47 .eql 46 O),v 48 39 47,m 6 35,m 7 48],.ret]
def Z7k:List RRes:=[.t 6,.t 7]
def Z7l:PCt prog 94 f94 Z7j Z7k:=pcT func94 rfl
def Z7m:RCode :=
 S [r 0 [b 2 0,b 3 1,n 4 .nilf],r 1 [w 5 (.mkf (.func 93) [] [.t 2,.t 3]),m 4 5],.ret]
def Z7n:List RRes:=[.t 4]
def Z7o:PCt prog 78 f78 Z7m Z7n:=pcT func78 rfl
def Z7p:RCode :=
 S [r 0 [b 2 0,n 4 O],r 1 [f 5 0 2,l 6 5,m 7 1,c 8 96 [6,7],m 4 8],.ret]
def Z7q:List RRes:=[.t 4]
def Z7r:PCt prog 95 f95 Z7p Z7q:=pcT func95 rfl
def Z7s:RCode :=
 S [r 0 [n 4 O],r 1 [w 5 (.alloc [O]),z (.store 1 (.t 5) (.c O))],S [r 2 [m 6 0,m 7 1,c 8 78 [6,7]],.block 0 (.rngf (.t 8) [9] .skip (.block 1 (r 3 [l 10 5,k 11 .add 10 I,s 1 5 11])))],r 4 [l 12 5,m 4 12],.ret]
def Z7t:List RRes:=[.t 4]
def Z7u:PCt prog 63 f63 Z7s Z7t:=pcT func63 rfl
def Z7v:RCode :=
 S [r 0 [b 3 1,w 4 (.alloc [O,O,.int .u8 0,.nils,.nils]),w 5 (.alloc [.bool false])],S [r 1 [m 7 0,f 8 0 3,l 9 8,c 10 78 [7,9]],.block 0 (.rngf (.t 10) [11] (r 2 [w 6 (.alloc [O,O,.int .u8 0,.nils,.nils]),s 5 6 11]) (.block 1 (S [R 3 [L 12 5 6,a [0] (c 13 43 [12]),L 14 2 3,a [1,2] (w 15 (.eqs false [.i,.i] (.t 13) (.t 14)))],K 15 4 [L 16 5 6,s 5 4 16,z (.store 1 (.t 5) (.c (.bool true)))]])))],r 5 [w 17 (.build [O,O,.int .u8 0,.nils,.nils] []),s 5 4 17,z (.store 1 (.t 5) (.c (.bool false)))],.ret]
def Z7w:List RRes:=[.c 4 true 5,.c 5 false 1]
def Z7x:PCt prog 62 f62 Z7v Z7w:=pcT func62 rfl
def Z7y:RCode :=
 S [r 0 [n 2 .nilm,n 3 (.bool false)],r 1 [w 15 (.mkmap),w 4 (.alloc [.nilm]),s 1 4 15],r 2 [w 16 (.mkmap),w 5 (.alloc [.nilm]),s 1 5 16],S [r 3 [m 17 0,w 18 (.nilck (.t 17)),f 19 1 18,l 20 19,e 21 20,n 22 O],.block 0 (.loop (S [r 4 [o 23 .lss 22 21],.cond (.t 23) .skip (.exit 0),.block 1 (S [r 5 [i 24 1 20 22,l 25 24,m 7 25],r 6 [l 26 5,m 27 7,z (.mupd (.i .i64) (.t 26) (.t 27) (.c (.bool true)))]]),r 7 [k 28 .add 22 I,m 22 28]]))],S [r 8 [m 29 0,w 30 (.nilck (.t 29)),f 31 1 30,l 32 31,e 33 32,n 34 O],.block 2 (.loop (S [r 9 [o 35 .lss 34 33],.cond (.t 35) .skip (.exit 2),.block 3 (S [r 10 [m 36 0,w 37 (.nilck (.t 36)),f 38 1 37,l 39 38,e 40 39,n 41 O],.block 4 (.loop (S [r 11 [o 42 .lss 41 40],.cond (.t 42) .skip (.exit 4),.block 5 (S [r 12 [i 43 1 39 41,l 44 43,m 9 44],R 13 [l 45 5,m 46 9,a [0,1] (w 47 (.look (.i .i64) (.bool false) false (.t 45) (.t 46))),w 10 (.alloc [O]),w 11 (.alloc [.bool false]),a [3,3,4] (z (.store 1 (.t 10) (.c O))),a [4,2,5,0,1,2,3,4,5] (s 1 11 47)],S [r 14 [m 48 0,m 49 9,c 50 78 [48,49]],.block 6 (.rngf (.t 50) [51] (r 15 [w 12 (.alloc [O,O,.int .u8 0,.nils,.nils]),s 5 12 51]) (.block 7 (S [r 16 [f 52 3 12,l 53 52,e 54 53,n 55 O],.block 8 (.loop (S [r 17 [o 56 .lss 55 54],.cond (.t 56) .skip (.exit 8),.block 9 (S [r 18 [i 57 2 53 55,L 58 2 57,w 14 (.alloc [O,O]),s 2 14 58],r 19 [l 59 11,m 60 59,g 60 true (l 61 5),g 60 true (f 62 0 14),g 60 true (l 63 62),g 60 true (w 64 (.look (.i .i64) (.bool false) false (.t 61) (.t 63))),g 60 true (t 65 64),v 66 60 65,s 1 11 66],r 20 [l 67 10,l 68 4,f 69 0 14,l 70 69,w 71 (.look (.i .i64) O false (.t 68) (.t 70)),w 72 (.mx true (.t 67) [.t 71]),s 1 10 72]]),r 21 [k 73 .add 55 I,m 55 73]]))])))],r 22 [l 74 11],.cond (.t 74) (S [r 23 [l 75 4,m 76 9,l 77 10,k 78 .add 77 I,z (.mupd (.i .i64) (.t 75) (.t 76) (.t 78))],r 24 [l 79 5,m 80 9,z (.mdel (.i .i64) (.t 79) (.t 80))]]) .skip]),r 25 [k 81 .add 41 I,m 41 81]]))]),r 26 [k 82 .add 34 I,m 34 82]]))],r 27 [l 83 4,l 84 5,w 85 (.mlen (.t 84)),k 86 .gtr 85 O,m 2 83,m 3 86],.ret]
def Z7z:List RRes:=[.t 2,.t 3]
def Z7A:PCt prog 59 f59 Z7y Z7z:=pcT func59 rfl
def Z7B:RCode :=
 S [r 0 [b 1 0,w 2 (.alloc [O,O,.int .u8 0,.nils,.nils])],R 1 [f 3 3 1,a [0] (l 4 3),a [1] (w 5 (.calln 67 [.t 4])),f 6 4 1,a [3] (l 7 6),a [4,2] (w 8 (.calln 68 [.t 7])),a [0,1,2,3,4] (f 9 3 1),a [6,2,5,0,1,2,3,4] (s 1 9 5),a [0,1,2,3,4,5,6,7] (f 10 4 1),a [8,5,7,0,1,2,3,4,5,6,7] (s 1 10 8)],r 2 [L 11 5 1,s 5 2 11],.ret]
def Z7C:List RRes:=[.c 2 true 5]
def Z7D:PCt prog 37 f37 Z7B Z7C:=pcT func37 rfl
def Z7E:RCode :=
 S [r 0 [n 2 .nils],S [r 1 [m 3 0,w 4 (.vop (.eqn false) [(.t 3),(.c .nils)])],K 4 2 [n 2 .nils]],r 3 [w 5 (.bsl true 2 0 [] []),m 6 0,w 7 (.app 2 16 (.t 5) (.t 6)),m 2 7],.ret]
def Z7F:List RRes:=[.t 2]
def Z7G:RCode :=
 S [r 0 [n 2 .nils],S [r 1 [m 3 0,w 4 (.vop (.eqn false) [(.t 3),(.c .nils)])],K 4 2 [n 2 .nils]],r 3 [w 5 (.bsl true 3 0 [] []),m 6 0,w 7 (.app 3 24 (.t 5) (.t 6)),m 2 7],.ret]
def Z7H:List RRes:=[.t 2]
def Z7I:RCode :=
 S [r 0 [b 2 0,n 4 .nilp,n 5 O],r 1 [L 9 1 2,c 10 53 [9],m 8 10,x 11 0 8,x 12 1 8,m 6 11,m 7 12],S [r 2 [m 13 7,k 14 .neq 13 O],K 14 3 [m 15 7,n 4 .nilp,m 5 15]],S [r 4 [m 16 6,m 17 1,c 18 77 [16,17],t 19 18],K 19 5 [n 4 .nilp,n 5 (.int .i64 6)]],r 6 [m 20 6,m 4 20,n 5 O],.ret]
def Z7J:List RRes:=[.t 4,.t 5]
def Z7K:PCt prog 58 f58 Z7I Z7J:=pcT func58 rfl
def Z7L:RCode :=
 S [r 0 [b 1 0,n 2 O],r 1 [L 6 1 1,c 7 53 [6],m 5 7,x 8 0 5,x 9 1 5,m 3 8,m 4 9],r 2 [m 10 4,m 2 10],.ret]
def Z7M:List RRes:=[.t 2]
def Z7N:PCt prog 17 f17 Z7L Z7M:=pcT func17 rfl
def Z7O:RCode :=
 S [r 0 [b 1 0,n 2 .nils,n 3 O],r 1 [L 7 1 1,c 8 53 [7],m 6 8,x 9 0 6,x 10 1 6,m 4 9,m 5 10],S [r 2 [m 11 5,k 12 .neq 11 O],K 12 3 [m 13 5,n 2 .nils,m 3 13]],r 4 [m 14 4,w 15 (.nilck (.t 14)),f 16 1 15,l 17 16,m 2 17,n 3 O],.ret]
def Z7P:List RRes:=[.t 2,.t 3]
def Z7Q:PCt prog 49 f49 Z7O Z7P:=pcT func49 rfl
def Z7R:RCode :=
 S [r 0 [b 2 0,n 4 O,n 5 O],r 1 [L 9 1 2,m 10 1,c 11 58 [9,10],m 8 11,x 12 0 8,x 13 1 8,m 6 12,m 7 13],S [r 2 [m 14 7,k 15 .neq 14 O],K 15 3 [m 16 7,n 4 O,m 5 16]],r 4 [m 17 6,m 18 1,c 19 63 [17,18],m 4 19,n 5 O],.ret]
def Z7S:List RRes:=[.t 4,.t 5]
def Z7T:PCt prog 28 f28 Z7R Z7S:=pcT func28 rfl
def Z7U:RCode :=
 S [r 0 [b 2 0,b 3 1,w 4 (.alloc [O,O,.int .u8 0,.nils,.nils]),n 5 O],r 1 [L 11 1 2,c 12 53 [11],m 10 12,x 13 0 10,x 14 1 10,m 6 13,m 7 14],S [r 2 [m 15 7,k 16 .neq 15 O],K 16 3 [w 17 (.build [O,O,.int .u8 0,.nils,.nils] []),m 18 7,s 5 4 17,m 5 18]],r 4 [m 20 6,L 21 2 3,c 22 62 [20,21],m 19 22,x 23 0 19,x 24 1 19,w 8 (.alloc [O,O,.int .u8 0,.nils,.nils]),s 5 8 23,m 9 24],S [r 5 [m 25 9,t 26 25],K 26 6 [w 27 (.build [O,O,.int .u8 0,.nils,.nils] []),s 5 4 27,n 5 (.int .i64 6)]],r 7 [L 28 5 8,c 29 37 [28],s 5 4 29,n 5 O],.ret]
def Z7V:List RRes:=[.c 4 true 5,.t 5]
def Z7W:PCt prog 29 f29 Z7U Z7V:=pcT func29 rfl
def Z7X:RCode :=
 S [r 0 [b 2 0,n 4 O,n 5 O],r 1 [L 11 1 2,m 12 1,c 13 58 [11,12],m 10 13,x 14 0 10,x 15 1 10,m 6 14,m 7 15],S [r 2 [m 16 7,k 17 .neq 16 O],K 17 3 [m 18 7,n 4 O,m 5 18]],r 4 [m 20 6,c 21 59 [20],m 19 21,x 22 0 19,x 23 1 19,m 8 22,m 9 23],r 5 [m 24 8,m 25 1,w 26 (.look (.i .i64) O false (.t 24) (.t 25)),m 4 26,n 5 O],.ret]
def Z7Y:List RRes:=[.t 4,.t 5]
def Z7Z:PCt prog 21 f21 Z7X Z7Y:=pcT func21 rfl
end
section
open Qq Tryd
def Z80:RCode :=
 S [r 0 [n 4 (.bool false)],S [r 1 [m 6 0,e 7 6,m 8 1,e 9 8,o 10 .neq 7 9],K 10 2 [n 4 (.bool false)]],S [r 3 [n 5 O],.block 0 (.loop (S [S [r 4 [m 11 5,m 12 0,e 13 12,o 14 .lss 11 13],.cond (.t 14) .skip (.exit 0)],.block 1 (S [R 6 [m 17 0,m 18 5,a [0,1] (i 19 1 17 18),a [2] (l 20 19),m 21 1,m 22 5,a [4,5] (i 23 1 21 22),a [6] (l 24 23),a [3,7] (o 25 .neq 20 24)],K 25 7 [n 4 (.bool false)]]),r 5 [m 15 5,k 16 .add 15 I,m 5 16]]))],r 8 [n 4 (.bool true)],.ret]
def Z81:List RRes:=[.t 4]
def Z82:PCt prog 27 f27 Z80 Z81:=pcT func27 rfl
def Z83:RCode :=
 S [r 0 [n 4 (.bool false)],S [r 1 [m 6 0,e 7 6,m 8 1,e 9 8,o 10 .neq 7 9],K 10 2 [n 4 (.bool false)]],S [r 3 [n 5 O],.block 0 (.loop (S [S [r 4 [m 11 5,m 12 0,e 13 12,o 14 .lss 11 13],.cond (.t 14) .skip (.exit 0)],.block 1 (S [R 6 [m 17 0,m 18 5,a [0,1] (i 19 2 17 18),a [2] (L 20 2 19),m 21 1,m 22 5,a [4,5] (i 23 2 21 22),a [6] (L 24 2 23),a [3,7] (w 25 (.eqs true [.i,.i] (.t 20) (.t 24)))],K 25 7 [n 4 (.bool false)]]),r 5 [m 15 5,k 16 .add 15 I,m 5 16]]))],r 8 [n 4 (.bool true)],.ret]
def Z84:List RRes:=[.t 4]
def Z85:PCt prog 25 f25 Z83 Z84:=pcT func25 rfl
def Z86:RCode :=
 S [r 0 [b 2 0,b 3 1,n 4 (.bool false)],S [r 1 [f 6 0 2,l 7 6,f 8 0 3,l 9 8,o 10 .neq 7 9,m 11 10,g 11 false (f 12 1 2),g 11 false (l 13 12),g 11 false (f 14 1 3),g 11 false (l 15 14),g 11 false (o 16 .neq 13 15),u 17 11 16,m 18 17,g 18 false (f 19 2 2),g 18 false (l 20 19),g 18 false (f 21 2 3),g 18 false (l 22 21),g 18 false (o 23 .neq 20 22),u 24 18 23,m 25 24,g 25 false (f 26 3 2),g 25 false (l 27 26),g 25 false (f 28 3 3),g 25 false (l 29 28),g 25 false (c 30 25 [27,29]),g 25 false (t 31 30),u 32 25 31,m 33 32,g 33 false (f 34 4 2),g 33 false (l 35 34),g 33 false (e 36 35),g 33 false (f 37 4 3),g 33 false (l 38 37),g 33 false (e 39 38),g 33 false (o 40 .neq 36 39),u 41 33 40],K 41 2 [n 4 (.bool false)]],S [r 3 [n 5 O],.block 0 (.loop (S [S [r 4 [m 42 5,f 43 4 2,l 44 43,e 45 44,o 46 .lss 42 45],.cond (.t 46) .skip (.exit 0)],.block 1 (S [R 6 [f 49 4 2,a [0] (l 50 49),m 51 5,a [1,2] (i 52 3 50 51),a [3] (L 53 3 52),f 54 4 3,a [5] (l 55 54),m 56 5,a [6,7] (i 57 3 55 56),a [8] (L 58 3 57),a [4,9] (w 59 (.eqs true [.i,.i,.i] (.t 53) (.t 58)))],K 59 7 [n 4 (.bool false)]]),r 5 [m 47 5,k 48 .add 47 I,m 5 48]]))],r 8 [n 4 (.bool true)],.ret]
def Z87:List RRes:=[.t 4]
def Z88:PCt prog 48 f48 Z86 Z87:=pcT func48 rfl
def Z89:RCode :=
 S [r 0 [b 2 0,b 3 1,n 4 (.bool false)],S [r 1 [f 6 0 2,l 7 6,e 8 7,f 9 0 3,l 10 9,e 11 10,o 12 .neq 8 11],K 12 2 [n 4 (.bool false)]],S [r 3 [n 5 O],.block 0 (.loop (S [S [r 4 [m 13 5,f 14 0 2,l 15 14,e 16 15,o 17 .lss 13 16],.cond (.t 17) .skip (.exit 0)],.block 1 (S [R 6 [f 20 0 2,a [0] (l 21 20),m 22 5,a [1,2] (i 23 5 21 22),a [3] (L 24 5 23),f 25 0 3,a [5] (l 26 25),m 27 5,a [6,7] (i 28 5 26 27),a [8] (L 29 5 28),a [4,9] (c 30 48 [24,29]),a [10] (t 31 30)],K 31 7 [n 4 (.bool false)]]),r 5 [m 18 5,k 19 .add 18 I,m 5 19]]))],r 8 [n 4 (.bool true)],.ret]
def Z8a:List RRes:=[.t 4]
def Z8b:PCt prog 13 f13 Z89 Z8a:=pcT func13 rfl
end
def mixed:prog.follows .mixedOrders=true:=by kernel_rfl
def Qga {R:Run} {c:RCode} {F:Exit->St->Prop} {st:St} (h:GO prog R 1000 (.run c) [] F st):AR prog R c st F:=Yb mixed 1000 h
def Qgr {R:Run} {e:Exit} {ks:List KF} {F:Exit->St->Prop} {st:St} (h:GO prog R 1000 (.out e) ks F st):RetP prog R ks F e st:=Z2R mixed 1000 h
def inR (n lo hi:Int):Bool:=decide (lo<=n/\n<=hi)
def Yf {n:Int} (h0:-9223372036854775808<=n:=by omega) (h1:n<=9223372036854775807:=by omega):i64.wrap n=n:=IntWalk.i64_in _ ⟨h0,h1⟩
def RndF (S:Nat->St) (I:Nat->Prop) (i:Nat) (Φ:Exit->St->Prop):Exit->St->Prop
 |.normal,st=>Ym st (S (i+1))/\I (i+1)
 |e,st=>Φ e st
def RndE (Φ:Exit->St->Prop):Exit->St->Prop
 |.normal,_=>False
 |e,st=>Φ e st
section
variable {P:Program} {R:Run} {st:St} {Φ:Exit->St->Prop} {S:Nat->St} {I:Nat->Prop} {i:Nat}
def Z8c:RndF S I i Φ .normal st=(Ym st (S (i+1))/\I (i+1)):=rfl
def Z8d:RndF S I i Φ .ret st=Φ .ret st:=rfl
def Z8e {j:Nat}:RndF S I i Φ (.exit j) st=Φ (.exit j) st:=rfl
def Z8f:RndE Φ .ret st=Φ .ret st:=rfl
def Z8g {j:Nat}:RndE Φ (.exit j) st=Φ (.exit j) st:=rfl
attribute [simp] Z8c Z8d Z8e Z8f Z8g
def Z8h {c:RCode} (S:Nat->St) (I:Nat->Prop) (N:Nat) (h0:Ym st (S 0)) (hi:I 0) (hr:∀ i,i<N->I i->AR P R c (S i) (RndF S I i Φ)) (he:I N->AR P R c (S N) (RndE Φ)):AR P R (.loop c) st Φ:=by
 refine Z1Q S (λi=>i<=N/\I i) (λi=>N-i) 0 h0 ⟨W1e _,hi⟩ ?_;rintro i ⟨h1,h2⟩;by_cases h3:i<N
 . refine Z2I (hr i h3 h2) λe s hs=>?_
   cases e with
   |normal=>exact ⟨i+1,hs.1,⟨by omega,hs.2⟩,by show N-(i+1)<N-i;omega⟩
   |_=>exact hs
 . obtain rfl:i=N:=(by omega);refine Z2I (he h2) λe s hs=>?_
   cases e with
   |normal=>exact hs.elim
   |_=>exact hs
end
structure Iss where
 d:Int
 l:Int
 k:Int
 its:List (Int×Int)
 dms:List Dm
 deriving DecidableEq,Inhabited
def ia (n:Int):List AV:=[.int .i64 n]
def ita (p:Int×Int):List AV:=[.int .i64 p.1,.int .i64 p.2]
def dma (d:Dm):List AV:=[.int .i64 d.n,.int .i64 d.l,.int .i64 d.u]
def isa (x:Iss):List AV:=[.int .i64 x.d,.int .i64 x.l,.int .u8 x.k,.vsl (x.its.map ita),.vsl (x.dms.map dma)]
def rega (r:List Iss):AV:=.agg [.vsl (r.map isa)]
def Sml {α:Type} (l:List α):Prop:=l.length<=16777216
def Z8i (a b:List Int) (ha:Sml a):PC prog G 27 [.vsl (a.map ia),.vsl (b.map ia)] (.bool (decide (a=b))):=by
 (refine Z82 rfl λR hG hrd=>Yb mixed 1000 ?_;subst hG)
 by_cases hl:a.length=b.length
 . have hl':(a.length:Int)=b.length:=(by omega);simp -implicitDefEqProofs[Z80,Z81,hl'];refine Z8h (λi=>⟨[(5,.int .i64 i),(0,.vsl (a.map ia)),(1,.vsl (b.map ia))],[]⟩) (λi=>∀ j (h:j<a.length),j<i->a[j]=b[j]) a.length (by (first|exact Wka|exact Wkb)) (by simp) ?_ ?_
   . intro i hi he;refine Yb mixed 1000 ?_;unfold Sml at ha;have hi2:i<b.length:=(by omega);have w1:i64.wrap ((i:Int)+1)=((i+1:Nat):Int):=Yf;by_cases h2:a[i]=b[i]
     . simp -implicitDefEqProofs[hi,hi2,ia,h2,w1];refine ⟨rfl,(by (first|exact Wka|exact Wkb)),λj h1 h3=>?_⟩;by_cases e:j=i
       . subst e;exact h2
       . exact he j h1 (by omega)
     . have h3:¬a=b:=λe=>h2 (by subst e;rfl)
       simp -implicitDefEqProofs[hi,hi2,ia,h2];refine ⟨rfl,?_⟩;refine Z2R mixed 1000 ?_;simp -implicitDefEqProofs[h3]
   . intro he;refine Yb mixed 1000 ?_;have h3:a=b:=W1D hl λj h1 h2=>he j h1 h1
     simp -implicitDefEqProofs;refine Z2R mixed 1000 ?_;simp -implicitDefEqProofs[h3]
 . have hl':¬(a.length:Int)=b.length:=(by omega);have h3:¬a=b:=λe=>hl (by rw[e])
   simp -implicitDefEqProofs[Z80,Z81,hl',h3]
abbrev Jr:=List Iss
def nz:AV->AV
 |.nils=>.vsl []
 |.agg xs=>.agg (xs.attach.map λ⟨x,_⟩=>nz x)
 |.tup xs=>.tup (xs.attach.map λ⟨x,_⟩=>nz x)
 |x=>x
def nz_at (xs:List AV):(xs.attach.map λ⟨x,_⟩=>nz x)=xs.map nz:=by
 have h:(xs.attach.map λ⟨x,_⟩=>nz x)=(xs.attach.map Subtype.val).map nz:=(by rw[W10];rfl);rw[h,List.attach_map_subtype_val]
def Z8j (xs:List AV):nz (.agg xs) = .agg (xs.map nz):=by rw[nz,nz_at]
def Z8k (xs:List AV):nz (.tup xs) = .tup (xs.map nz):=by rw[nz,nz_at]
def PV.nz {M:Nat->Prop} {W:World} {x:AV} {v:Value} (h:PV M W x v):PV M W (nz x) v:=by
 induction h with
 |nils=>simp only[Go.Proofs.YthlcppdbldkldaaDoor.nz];exact .vsl [] none 0 1 0 0 (λ_ _=>undef) (W0f _) (W1e _) (λh=>absurd rfl h) (λ_=>⟨rfl,rfl⟩) (by simp) (by simp) (by simp)
 | agg xs us h1 hx ih =>
   rw[Z8j];refine .agg _ us (by simpa using h1) λi x u hi hu=>?_
   rw[W09,W04]at hi;obtain ⟨y,hy,rfl⟩:=hi;exact ih i y u hy hu
 | tup xs us h1 hx ih =>
   rw[Z8k];refine .tup _ us (by simpa using h1) λi x u hi hu=>?_
   rw[W09,W04]at hi;obtain ⟨y,hy,rfl⟩:=hi;exact ih i y u hy hu
 |hole=>simp only[Go.Proofs.YthlcppdbldkldaaDoor.nz];exact .hole
 |int k n=>simp only[Go.Proofs.YthlcppdbldkldaaDoor.nz];exact .int k n
 |bool b=>simp only[Go.Proofs.YthlcppdbldkldaaDoor.nz];exact .bool b
 |abool b=>simp only[Go.Proofs.YthlcppdbldkldaaDoor.nz];exact .abool b
 |str s=>simp only[Go.Proofs.YthlcppdbldkldaaDoor.nz];exact .str s
 |nilp=>simp only[Go.Proofs.YthlcppdbldkldaaDoor.nz];exact .nilp
 |nilm=>simp only[Go.Proofs.YthlcppdbldkldaaDoor.nz];exact .nilm
 |nilf=>simp only[Go.Proofs.YthlcppdbldkldaaDoor.nz];exact .nilf
 |nes a c h=>simp only[Go.Proofs.YthlcppdbldkldaaDoor.nz];exact .nes a c h
 |vptr cells off b o f hb hM hc hr ih=>simp only[Go.Proofs.YthlcppdbldkldaaDoor.nz];exact .vptr cells off b o f hb hM hc hr
 |vsl rows a cap sz b o f hcap hmax ha hn hs hc hr ih=>simp only[Go.Proofs.YthlcppdbldkldaaDoor.nz];exact .vsl rows a cap sz b o f hcap hmax ha hn hs hc hr
 |func fn xs ys us vs h1 h2 hx hy ihx ihy=>simp only[Go.Proofs.YthlcppdbldkldaaDoor.nz];exact .func fn xs ys us vs h1 h2 hx hy
 |vmap kvs b es clock hb hM ho hs hn hk' hv ihk ihv=>simp only[Go.Proofs.YthlcppdbldkldaaDoor.nz];exact .vmap kvs b es clock hb hM ho hs hn hk' hv
def PC.nzR {P:Program} {G:Jg} {f:FuncId} {args:List AV} {v v':AV} (h:PC P G f args v) (e:nz v=v'):PC P G f args v':=by
 subst e;refine ⟨h.1,λM W vs hM hG hs hv=>(h.2 M W vs hM hG hs hv).mono ?_⟩;rintro e W' ⟨u,h1,h2,h3⟩;exact ⟨u,h1,h2.nz,h3⟩
def Z8l {a b:Int×Int} (h:¬a=b):(!decide (a.1=b.1) || !decide (a.2=b.2))=true:=by
 cases h5:(!decide (a.1=b.1) || !decide (a.2=b.2))
 . simp only[W1M,Bool.not_eq_false',W0b]at h5;exact absurd (Prod.ext h5.1 h5.2) h
 . rfl
def dm_ne {a b:Dm} (h:¬a=b):(!decide (a.n=b.n)||(!decide (a.l=b.l) || !decide (a.u=b.u)))=true:=by
 cases h5:(!decide (a.n=b.n)||(!decide (a.l=b.l) || !decide (a.u=b.u)))
 . simp only[W1M,Bool.not_eq_false',W0b]at h5
   cases a;cases b;simp_all
 . rfl
def Z8m (a b:List (Int×Int)) (ha:Sml a):PC prog G 25 [.vsl (a.map ita),.vsl (b.map ita)] (.bool (decide (a=b))):=by
 (refine Z85 rfl λR hG hrd=>Qga ?_;subst hG)
 by_cases hl:a.length=b.length
 . have hl':(a.length:Int)=b.length:=(by omega);simp -implicitDefEqProofs[Z83,Z84,hl'];refine Z8h (λi=>⟨[(5,.int .i64 i),(0,.vsl (a.map ita)),(1,.vsl (b.map ita))],[]⟩) (λi=>∀ j (h:j<a.length),j<i->a[j]=b[j]) a.length (by (first|exact Wka|exact Wkb)) (by simp) ?_ ?_
   . intro i hi he;refine Qga ?_;unfold Sml at ha;have hi2:i<b.length:=(by omega);have w1:i64.wrap ((i:Int)+1)=((i+1:Nat):Int):=Yf;simp -implicitDefEqProofs[hi,hi2,ita];refine ⟨rfl,?_⟩;by_cases h2:a[i]=b[i]
     . simp -implicitDefEqProofs[h2,w1];refine ⟨(by (first|exact Wka|exact Wkb)),λj h1 h3=>?_⟩;by_cases e:j=i
       . subst e;exact h2
       . exact he j h1 (by omega)
     . have h3:¬a=b:=λe=>h2 (by subst e;rfl)
       rw[Z8l h2];simp -implicitDefEqProofs;refine Qgr ?_;simp -implicitDefEqProofs[h3]
   . intro he;refine Qga ?_;have h3:a=b:=W1D hl λj h1 h2=>he j h1 h1
     simp -implicitDefEqProofs;refine Qgr ?_;simp -implicitDefEqProofs[h3]
 . have hl':¬(a.length:Int)=b.length:=(by omega);have h3:¬a=b:=λe=>hl (by rw[e])
   simp -implicitDefEqProofs[Z83,Z84,hl',h3]
def Z8n (a b:Iss) (h1:Sml a.its) (h2:Sml a.dms):PC prog G 48 [.agg (isa a),.agg (isa b)] (.bool (decide (a=b))):=by
 (refine Z88 rfl λR hG hrd=>Qga ?_;subst hG)
 by_cases e1:a.d=b.d
 case neg =>
  have e:¬a=b:=λe=>e1 (by rw[e])
  simp -implicitDefEqProofs[Z86,Z87,isa,e1,e]
 by_cases e2:a.l=b.l
 case neg =>
  have e:¬a=b:=λe=>e2 (by rw[e])
  simp -implicitDefEqProofs[Z86,Z87,isa,e1,e2,e]
 by_cases e3:a.k=b.k
 case neg =>
  have e:¬a=b:=λe=>e3 (by rw[e])
  simp -implicitDefEqProofs[Z86,Z87,isa,e1,e2,e3,e]
 simp -implicitDefEqProofs[Z86,Z87,isa,e1,e2,e3];refine Qco (Z8m a.its b.its h1) ?_;by_cases e4:a.its=b.its
 case neg =>
  have e:¬a=b:=λe=>e4 (by rw[e])
  simp -implicitDefEqProofs[e4,e]
 by_cases e5:a.dms.length=b.dms.length
 case neg =>
  have e5':¬(a.dms.length:Int)=b.dms.length:=(by omega);have e:¬a=b:=λe=>e5 (by rw[e])
  simp -implicitDefEqProofs[e4,e5',e]
 have e5':(a.dms.length:Int)=b.dms.length:=(by omega);simp -implicitDefEqProofs[e4,e5'];refine Z8h (λi=>⟨[(5,.int .i64 i),(2,.ptr 2 0),(3,.ptr 3 0)],[(2,.box (isa a)),(3,.box (isa b))]⟩) (λi=>∀ j (h:j<a.dms.length),j<i->a.dms[j]=b.dms[j]) a.dms.length (by (first|exact Ym.tm (by simp[lk,isa,e1,e2,e3,e4])|exact Ym.sub (by simp[lk,Ya,AV.keys,isa,e1,e2,e3,e4]) (by simp[lk,Yc,Ya,AV.keys,isa,e1,e2,e3,e4]))) (by simp) ?_ ?_
 . intro i hi he;refine Qga ?_;unfold Sml at h2;have hi2:i<b.dms.length:=(by omega);have w1:i64.wrap ((i:Int)+1)=((i+1:Nat):Int):=Yf;simp -implicitDefEqProofs[hi,hi2,isa,dma];refine ⟨rfl,?_⟩;by_cases h2:a.dms[i]=b.dms[i]
   . simp -implicitDefEqProofs[h2,w1];refine ⟨(by (first|exact Ym.tm (by simp[lk,isa,dma])|exact Ym.sub (by simp[lk,Ya,AV.keys,isa,dma]) (by simp[lk,Yc,Ya,AV.keys,isa,dma]))),λj h1 h3=>?_⟩;by_cases e:j=i
     . subst e;exact h2
     . exact he j h1 (by omega)
   . have h3:¬a=b:=λe=>h2 (by subst e;rfl)
     rw[dm_ne h2];simp -implicitDefEqProofs;refine Qgr ?_;simp -implicitDefEqProofs[h3]
 . intro he;refine Qga ?_;have h3:a.dms=b.dms:=W1D e5 λj h1 h2=>he j h1 h1
   have h4:a=b:=(by cases a;cases b;simp_all);simp -implicitDefEqProofs[isa];refine Qgr ?_;simp -implicitDefEqProofs[h4]
def SmlR (r:Jr):Prop:=Sml r/\∀ x∈r,Sml x.its/\Sml x.dms
def Z8o (a b:Jr) (ha:SmlR a):PC prog G 13 [rega a,rega b] (.bool (decide (a=b))):=by
 (refine Z8b rfl λR hG hrd=>Qga ?_;subst hG)
 by_cases hl:a.length=b.length
 . have hl':(a.length:Int)=b.length:=(by omega);simp -implicitDefEqProofs[Z89,Z8a,hl',rega];refine Z8h (λi=>⟨[(5,.int .i64 i),(2,.ptr 2 0),(3,.ptr 3 0)],[(2,.box [.vsl (a.map isa)]),(3,.box [.vsl (b.map isa)])]⟩) (λi=>∀ j (h:j<a.length),j<i->a[j]=b[j]) a.length (by (first|exact Wka|exact Wkb)) (by simp) ?_ ?_
   . intro i hi he;refine Qga ?_;have hs:=ha.1;unfold Sml at hs;have hi2:i<b.length:=(by omega);have w1:i64.wrap ((i:Int)+1)=((i+1:Nat):Int):=Yf;have hx:=ha.2 a[i] (W0e hi);simp -implicitDefEqProofs[hi,hi2,isa];refine Qco (Z8n a[i] b[i] hx.1 hx.2) ?_;simp -implicitDefEqProofs;refine ⟨rfl,?_⟩;by_cases h2:a[i]=b[i]
     . simp -implicitDefEqProofs[h2,w1];refine ⟨(by (first|exact Wka|exact Wkb)),λj h1 h3=>?_⟩;by_cases e:j=i
       . subst e;exact h2
       . exact he j h1 (by omega)
     . have h3:¬a=b:=λe=>h2 (by subst e;rfl)
       simp -implicitDefEqProofs[h2];refine Qgr ?_;simp -implicitDefEqProofs[h3]
   . intro he;refine Qga ?_;have h3:a=b:=W1D hl λj h1 h2=>he j h1 h1
     simp -implicitDefEqProofs;refine Qgr ?_;simp -implicitDefEqProofs[h3]
 . have hl':¬(a.length:Int)=b.length:=(by omega);have h3:¬a=b:=λe=>hl (by rw[e])
   simp -implicitDefEqProofs[Z89,Z8a,hl',h3,rega]
def at' (r:Jr) (i:Nat):Iss:=r.getD i default
def at_eq {r:Jr} {i:Nat} (h:i<r.length):at' r i=r[i]:=by simp[at',List.getD,h]
def newB (r:Jr) (i:Nat):Bool:=i == 0 || !decide ((at' r (i-1)).d=(at' r i).d)
def numsN (r:Jr):Nat->List Int
 |0=>[]
 |i+1=>if newB r i=true then numsN r i++[(at' r i).d] else numsN r i
def nums (r:Jr):List Int:=numsN r r.length
def Z8p (r:Jr):∀ i,(numsN r i).length<=i
 |0=>by simp[numsN]
 | i+1=>by
   have:=Z8p r i;simp only[numsN]
   split
   . simp;omega
   . omega
def lastN (r:Jr) (n:Int):Nat->Int
 |0=>0
 |i+1=>if (at' r i).d=n then max (lastN r n i) (at' r i).l else lastN r n i
def lastV (r:Jr) (n:Int):Int:=lastN r n r.length
def findN (d l:Int):List Iss->Option Iss
 |[]=>none
 |x::r=>if x.d=d/\x.l=l then some x else findN d l r
def noIs:AV:=.agg [.int .i64 0,.int .i64 0,.int .u8 0,.nils,.nils]
def fndA:Option Iss->AV
 |some x=>.tup [.agg (isa x),.bool true]
 |none=>.tup [noIs,.bool false]
def Z8q {d l:Int}:∀ {r:Jr} {i:Nat} (h:i<r.length),r[i].d=d->r[i].l=l->(∀ j (h:j<r.length),j<i->¬(r[j].d=d/\r[j].l=l))->findN d l r=some r[i]
 |x::r,0,h,h1,h2,_=>by simp only[findN];rw[if_pos ⟨h1,h2⟩];rfl
 | x::r,i+1,h,h1,h2,hb=>by
   simp only[findN];rw[if_neg (show ¬(x.d=d/\x.l=l) from hb 0 (by simp) (by omega))];exact Z8q (by simpa using h) h1 h2 λj hj hi=>hb (j+1) (by simpa using hj) (by omega)
def itAt (x:Iss) (i:Nat):Int×Int:=x.its.getD i (0,0)
def itOk (x:Iss) (i:Nat):Bool:=inR (itAt x i).1 1 9999&&inR (itAt x i).2 1 20 && !decide ((itAt x i).1=x.d)&&(i == 0||decide ((itAt x (i-1)).1<(itAt x i).1))
def headB (x:Iss):Bool:=inR x.d 1 9999&&inR x.l 1 8&&inR x.k 1 3&&(if x.k=1 then inR x.its.length 1 8&&decide (x.dms.length=0) else decide (x.dms.length<=4)&&decide (x.its.length=0))
def issB (x:Iss):Bool:=headB x&&(List.range x.its.length).all (itOk x)&&x.dms.all vd
def Z8r {n:Nat} {p:Nat->Bool}:(List.range n).all p=true↔∀ j,j<n->p j=true:=by simp[W03]
def Wf (r:Jr):Prop:=SmlR r/\∀ x∈r,0<=x.k/\x.k<=255
def ordB (r:Jr):Nat->Bool
 |0=>decide ((at' r 0).l=1)
 | i+1=>if (at' r (i+1)).d<(at' r i).d then false else if (at' r i).d<(at' r (i+1)).d then decide ((at' r (i+1)).l=1)
   else decide ((at' r (i+1)).l=(at' r i).l+1)&&decide ((at' r (i+1)).k=(at' r i).k)
def inB (r:Jr):Bool:=r.all λx=>x.its.all λy=>decide (y.1∈nums r)
def ItsIn (r:Jr) (x:Iss):Prop:=∀ y∈x.its,y.1∈nums r
def Z8s (r:Jr):Bool:=inR r.length 1 60&&r.all issB&&(List.range r.length).all (ordB r)&&inB r&&decide ((nums r).length<=20)
def Z8t {r:Jr} {i:Nat} (h:i<r.length) (e:issB r[i]=false):Z8s r=false:=by
 cases hI:Z8s r
 . rfl
 . simp only[Z8s,W01]at hI;rw[W03.1 hI.1.1.1.2 _ (W0e h)]at e;cases e
def Z8u {r:Jr} {i:Nat} (h:i<r.length) (e:ordB r i=false):Z8s r=false:=by
 cases hI:Z8s r
 . rfl
 . simp only[Z8s,W01]at hI;rw[Z8r.1 hI.1.1.2 i h]at e;cases e
def Z8v {r:Jr} {i k:Nat} (h:i<r.length) (hk:k<r[i].its.length) (e:r[i].its[k].1 ∉ nums r):Z8s r=false:=by
 cases hI:Z8s r
 . rfl
 . simp only[Z8s,W01,inB]at hI;have:=W03.1 (W03.1 hI.1.2 _ (W0e h)) _ (W0e hk);exact absurd (W0X this) e
def Z8w (r:Jr):(nums r).length<=r.length:=Z8p r _
def Ord (r:Jr):Prop:=∀ i,i+1<r.length->(at' r i).d<=(at' r (i+1)).d
def Ord.mono {r:Jr} (h:Ord r):∀ {i j:Nat},i<=j->j<r.length->(at' r i).d<=(at' r j).d:=by
 intro i j hij hj
 induction j with
 | zero => obtain rfl:i=0:=by omega
           exact W1R _
 | succ j ih =>
   by_cases e:i=j+1
   . subst e;exact W1R _
   . exact Int.le_trans (ih (by omega) (by omega)) (h j hj)
def Z8x {r:Jr} (h:Z8s r=true):Ord r:=by
 intro i hi;simp only[Z8s,W01]at h;have:=Z8r.1 h.1.1.2 (i+1) hi;simp only[ordB]at this
 split at this
 . cases this
 . omega
def Z8y {r:Jr} (h:Ord r):∀ i,i<=r.length->(numsN r i).Pairwise (· < ·)/\(∀ y∈numsN r i,∃ j,j<i/\(at' r j).d=y)/\∀ j,j<i->(at' r j).d∈numsN r i:=by
 intro i
 induction i with
 |zero=>intro _;simp[numsN]
 | succ i ih =>
   intro hi;obtain ⟨h1,h2,h3⟩:=ih (by omega);simp only[numsN]
   split
   . rename_i hb;refine ⟨W1W.2 ⟨h1,by simp,λa ha b hb'=>?_⟩,λy hy=>?_,λj hj=>?_⟩
     . simp only[W0B]at hb';subst hb';obtain ⟨j,hj,rfl⟩:=h2 a ha;simp only[newB,W0T,W0A,W1y,W1a]at hb;have m1:=h.mono (show j<=i-1 by omega) (by omega);have m2:=h.mono (show i-1<=i by omega) (by omega);rcases hb with hb|hb
       . omega
       . omega
     . rcases W0h.1 hy with hy|hy
       . obtain ⟨j,hj,e⟩:=h2 y hy;exact ⟨j,by omega,e⟩
       . exact ⟨i,by omega,(W0B.1 hy).symm⟩
     . by_cases e:j=i
       . subst e;simp
       . exact W0h.2 (.inl (h3 j (by omega)))
   . rename_i hb;refine ⟨h1,λy hy=>?_,λj hj=>?_⟩
     . obtain ⟨j,hj,e⟩:=h2 y hy;exact ⟨j,by omega,e⟩
     . by_cases e:j=i
       . subst e;simp only[newB,W0T,W0A,W1y,W1a,not_or,Decidable.not_not]at hb;rw[<- hb.2];exact h3 _ (by omega)
       . exact h3 j (by omega)
def Z8z {r:Jr} (h:Ord r):(nums r).Pairwise (· < ·):=(Z8y h _ (W0f _)).1
def Z8A {r:Jr} (h:Ord r):(nums r).Nodup:=(Z8z h).imp λh=>Int.ne_of_lt h
def Z8B {r:Jr} (h:Ord r) {n:Int} (hn:n∈nums r):∃ i,∃ hi:i<r.length,r[i].d=n:=by
 obtain ⟨i,hi,e⟩:=(Z8y h _ (W0f _)).2.1 n hn;exact ⟨i,hi,by rw[<- at_eq hi];exact e⟩
def dvIt (f:Int->Int) (m:Int) (its:List (Int×Int)):Int:=its.foldl (λm y=>max m (1+f y.1)) m
def dvN (r:Jr) (f:Int->Int) (n:Int):Nat->Int
 |0=>0
 |i+1=>if (at' r i).d=n then dvIt f (max (dvN r f n i) 1) (at' r i).its else dvN r f n i
def Dv (r:Jr):Nat->Int->Int
 |0,_=>0
 |k+1,n=>dvN r (Dv r k) n r.length
def Z8C {f:Int->Int} {K:Int} (hf:∀ n,0<=f n/\f n<=K):∀ (its:List (Int×Int)) (m:Int),0<=m->m<=K+1->0<=dvIt f m its/\dvIt f m its<=K+1
 |[],m,h1,h2=>⟨h1,h2⟩
 | y::its,m,h1,h2=>by
   have:=hf y.1;exact Z8C hf its (max m (1+f y.1)) (by omega) (by omega)
def Z8D (r:Jr) {f:Int->Int} {K:Int} (hK:0<=K) (hf:∀ n,0<=f n/\f n<=K) (n:Int):∀ i,0<=dvN r f n i/\dvN r f n i<=K+1
 |0=>by simp only[dvN];omega
 | i+1=>by
   have:=Z8D r hK hf n i;simp only[dvN]
   split
   . exact Z8C hf _ _ (by omega) (by omega)
   . exact this
def Dv_bd (r:Jr):∀ k n,0<=Dv r k n/\Dv r k n<=k
 |0,n=>by simp[Dv]
 | k+1,n=>by
   have:=Z8D r (K:=(k:Int)) (by omega) (Dv_bd r k) n r.length;simp only[Dv];omega
def rowF (l:List Int) (g:Int->Int):List (List AV):=l.map λn=>[.int .i64 (g n)]
def Z8E {l:List Int} {g:Int->Int}:(rowF l g).length=l.length:=by simp[rowF]
def Z8F {l:List Int} {g:Int->Int} {p:List AV->Bool}:(rowF l g).all p=l.all λn=>p [.int .i64 (g n)]:=by simp[rowF,List.all_map,W0y]
attribute [simp] Z8F
def Z8G {l:List Int} {g:Int->Int} {j:Nat} (h:j<(rowF l g).length):(rowF l g)[j]=[.int .i64 (g (l[j]'(by simpa [rowF] using h)))]:=by simp[rowF]
attribute [simp] Z8G Z8E
def Ym.trans {a b c:St} (h:Ym a b) (g:Ym b c):Ym a c:=λR x W s=>g R x W (h R x W s)
def Z8H (r:Jr):(rega r).pure=true:=by simp[rega,AV.pure]
attribute [simp] Z8H
def zI:Iss:=⟨0,0,0,[],[]⟩
def Z8I {d l:Int}:∀ {r:Jr} {x:Iss},findN d l r=some x->x∈r/\x.d=d/\x.l=l
 |[],x,h=>by simp[findN]at h
 | y::r,x,h=>by
   simp only[findN]at h
   split at h
   . rename_i e;cases h;exact ⟨W0H ..,e⟩
   . obtain ⟨h1,h2⟩:=Z8I h;exact ⟨W0z _ h1,h2⟩
def fstOf {α:Type} (p:α->Bool) (l:List α):Int:=match l.findIdx? p with|some i=>(i:Int)|none=>-1
def Z8J {α:Type} {p:α->Bool} {l:List α} {i:Nat} (h:i<l.length) (hp:p l[i]=true) (hn:∀ j (h:j<l.length),j<i->p l[j]=false):fstOf p l=i:=by
 have:l.findIdx? p=some i:=by
  rw[W1w];refine ⟨h,hp,λj hj=>?_⟩;rw[hn j (by omega) hj];simp
 simp[fstOf,this]
def Z8K {α:Type} {p:α->Bool} {l:List α} (hn:∀ j (h:j<l.length),p l[j]=false):fstOf p l = -1:=by
 have:l.findIdx? p=none:=W1A.2 λx hx=>by
  obtain ⟨j,hj,rfl⟩:=W0k hx;exact hn j hj
 simp[fstOf,this]
def Z8L {α:Type} (p:α->Bool) (l:List α):decide (0<=fstOf p l)=l.any p:=by
 unfold fstOf
 cases h:l.findIdx? p with
 | none =>
   have h2:=W1A.1 h;have:l.any p=false:=(by rw[<- Bool.not_eq_true,W14];rintro ⟨x,hx,hp⟩;rw[h2 x hx]at hp;cases hp);simp[this]
 | some i =>
   obtain ⟨h1,h2,-⟩:=W1w.1 h;have:l.any p=true:=W14.2 ⟨l[i],W0e h1,h2⟩;simp[this]
def Z8M (g:Nat) (caps:List AV) (p:Int->Bool) (l:List Int) (hc:caps.all AV.pure=true) (hl:Sml l)
  (hg:∀ x∈l,PC prog G g (.int .i64 x::caps) (.bool (p x))) :
  PC prog G 89 [.vsl (l.map ia),.func (.func g) [] caps] (.int .i64 (fstOf p l)):=by
 (refine Z6k rfl λR hG hrd=>Qga ?_;subst hG)
 unfold Sml at hl;have hc2:∀ x∈caps,x.pure=true:=W03.1 hc;simp -implicitDefEqProofs[Z6i,Z6j];refine Z8h (λi=>⟨[(8,.int .i64 i),(7,.int .i64 l.length),(0,.vsl (l.map ia)),(1,.func (.func g) [] caps)],[]⟩) (λi=>∀ j (h:j<l.length),j<i->p l[j]=false) l.length (by (first|exact Wka|exact Wkb)) (by simp) ?_ ?_
 . intro i hi he;refine Qga ?_;have w1:i64.wrap ((i:Int)+1)=((i+1:Nat):Int):=Yf;simp -implicitDefEqProofs[hi,ia];refine Yd.of (hg _ (W0e hi)) (by simpa [AV.pure] using hc2) ?_
   cases h3:p l[i]
   . simp -implicitDefEqProofs[w1];refine ⟨(by (first|exact Wka|exact Wkb)),λj q1 q2=>?_⟩;by_cases e:j=i
     . subst e;exact h3
     . exact he j q1 (by omega)
   . simp -implicitDefEqProofs;refine Qgr ?_;simp -implicitDefEqProofs[Z8J hi h3 he]
 . intro he;refine Qga ?_;simp -implicitDefEqProofs;refine Qgr ?_;simp -implicitDefEqProofs[Z8K (p:=p) (l:=l) (λj hj=>he j hj hj)]
def Z8N (g:Nat) (caps:List AV) (p:Int->Bool) (l:List Int) (hc:caps.all AV.pure=true) (hl:Sml l)
  (hg:∀ x∈l,PC prog G g (.int .i64 x::caps) (.bool (p x))) :
  PC prog G 72 [.vsl (l.map ia),.func (.func g) [] caps] (.bool (l.any p)):=by
 (refine Z6h rfl λR hG hrd=>Qga ?_;subst hG)
 simp -implicitDefEqProofs[Z6f,Z6g];have hc2:∀ x∈caps,x.pure=true:=W03.1 hc;refine Yd.of (Z8M g caps p l hc hl hg) (by simpa [AV.pure] using hc2) ?_;have e:=Z8L p l;simp -implicitDefEqProofs[e]
def Z8O (g:Nat) (caps:List AV) (p:(Int×Int)->Bool) (l:List (Int×Int)) (hc:caps.all AV.pure=true) (hl:Sml l)
  (hg:∀ x∈l,PC prog G g (.agg [.int .i64 x.1,.int .i64 x.2]::caps) (.bool (p x))) :
  PC prog G 91 [.vsl (l.map ita),.func (.func g) [] caps] (.int .i64 (fstOf p l)):=by
 (refine Z6X rfl λR hG hrd=>Qga ?_;subst hG)
 unfold Sml at hl;have hc2:∀ x∈caps,x.pure=true:=W03.1 hc;simp -implicitDefEqProofs[Z6V,Z6W];refine Z8h (λi=>⟨[(8,.int .i64 i),(7,.int .i64 l.length),(0,.vsl (l.map ita)),(1,.func (.func g) [] caps)],[]⟩) (λi=>∀ j (h:j<l.length),j<i->p l[j]=false) l.length (by (first|exact Wka|exact Wkb)) (by simp) ?_ ?_
 . intro i hi he;refine Qga ?_;have w1:i64.wrap ((i:Int)+1)=((i+1:Nat):Int):=Yf;simp -implicitDefEqProofs[hi,ita];refine Yd.of (hg _ (W0e hi)) (by simpa [AV.pure] using hc2) ?_
   cases h3:p l[i]
   . simp -implicitDefEqProofs[w1];refine ⟨(by (first|exact Wka|exact Wkb)),λj q1 q2=>?_⟩;by_cases e:j=i
     . subst e;exact h3
     . exact he j q1 (by omega)
   . simp -implicitDefEqProofs;refine Qgr ?_;simp -implicitDefEqProofs[Z8J hi h3 he]
 . intro he;refine Qga ?_;simp -implicitDefEqProofs;refine Qgr ?_;simp -implicitDefEqProofs[Z8K (p:=p) (l:=l) (λj hj=>he j hj hj)]
def Z8P (g:Nat) (caps:List AV) (p:(Int×Int)->Bool) (l:List (Int×Int)) (hc:caps.all AV.pure=true) (hl:Sml l)
  (hg:∀ x∈l,PC prog G g (.agg [.int .i64 x.1,.int .i64 x.2]::caps) (.bool (p x))) :
  PC prog G 75 [.vsl (l.map ita),.func (.func g) [] caps] (.bool (l.any p)):=by
 (refine Z6U rfl λR hG hrd=>Qga ?_;subst hG)
 simp -implicitDefEqProofs[Z6S,Z6T];have hc2:∀ x∈caps,x.pure=true:=W03.1 hc;refine Yd.of (Z8O g caps p l hc hl hg) (by simpa [AV.pure] using hc2) ?_;have e:=Z8L p l;simp -implicitDefEqProofs[e]
def Z8Q (g:Nat) (caps:List AV) (p:Dm->Bool) (l:List Dm) (hc:caps.all AV.pure=true) (hl:Sml l)
  (hg:∀ x∈l,PC prog G g (.agg [.int .i64 x.n,.int .i64 x.l,.int .i64 x.u]::caps) (.bool (p x))) :
  PC prog G 128 [.vsl (l.map dma),.func (.func g) [] caps] (.int .i64 (fstOf p l)):=by
 (refine Z6R rfl λR hG hrd=>Qga ?_;subst hG)
 unfold Sml at hl;have hc2:∀ x∈caps,x.pure=true:=W03.1 hc;simp -implicitDefEqProofs[Z6P,Z6Q];refine Z8h (λi=>⟨[(8,.int .i64 i),(7,.int .i64 l.length),(0,.vsl (l.map dma)),(1,.func (.func g) [] caps)],[]⟩) (λi=>∀ j (h:j<l.length),j<i->p l[j]=false) l.length (by (first|exact Wka|exact Wkb)) (by simp) ?_ ?_
 . intro i hi he;refine Qga ?_;have w1:i64.wrap ((i:Int)+1)=((i+1:Nat):Int):=Yf;simp -implicitDefEqProofs[hi,dma];refine Yd.of (hg _ (W0e hi)) (by simpa [AV.pure] using hc2) ?_
   cases h3:p l[i]
   . simp -implicitDefEqProofs[w1];refine ⟨(by (first|exact Wka|exact Wkb)),λj q1 q2=>?_⟩;by_cases e:j=i
     . subst e;exact h3
     . exact he j q1 (by omega)
   . simp -implicitDefEqProofs;refine Qgr ?_;simp -implicitDefEqProofs[Z8J hi h3 he]
 . intro he;refine Qga ?_;simp -implicitDefEqProofs;refine Qgr ?_;simp -implicitDefEqProofs[Z8K (p:=p) (l:=l) (λj hj=>he j hj hj)]
def Z8R (g:Nat) (caps:List AV) (p:Dm->Bool) (l:List Dm) (hc:caps.all AV.pure=true) (hl:Sml l)
  (hg:∀ x∈l,PC prog G g (.agg [.int .i64 x.n,.int .i64 x.l,.int .i64 x.u]::caps) (.bool (p x))) :
  PC prog G 126 [.vsl (l.map dma),.func (.func g) [] caps] (.bool (l.any p)):=by
 (refine Z6O rfl λR hG hrd=>Qga ?_;subst hG)
 simp -implicitDefEqProofs[Z6M,Z6N];have hc2:∀ x∈caps,x.pure=true:=W03.1 hc;refine Yd.of (Z8Q g caps p l hc hl hg) (by simpa [AV.pure] using hc2) ?_;have e:=Z8L p l;simp -implicitDefEqProofs[e]
def Z8S (n lo hi:Int):PC prog G 73 [.int .i64 n,.vptr [.int .i64 lo] 0,.vptr [.int .i64 hi] 0] (.bool (!inR n lo hi)):=by
 (refine Z6e rfl λR hG hrd=>Qga ?_;subst hG)
 by_cases h1:n<lo
 . have h2:¬lo<=n:=(by omega);simp -implicitDefEqProofs[Z6c,Z6d,h1,h2,inR]
 . have h2:lo<=n:=(by omega);by_cases h3:hi<n
   . have h4:¬n<=hi:=(by omega);simp -implicitDefEqProofs[Z6c,Z6d,h1,h2,h3,h4,inR]
   . have h4:n<=hi:=(by omega);simp -implicitDefEqProofs[Z6c,Z6d,h1,h2,h3,h4,inR]
def Z8T (n lo hi:Int):PC prog G 90 [.int .i64 n,.vptr [.int .i64 lo] 0,.vptr [.int .i64 hi] 0] (.bool (!inR n lo hi)):=by
 (refine Z6t rfl λR hG hrd=>Qga ?_;subst hG)
 by_cases h1:n<lo
 . have h2:¬lo<=n:=(by omega);simp -implicitDefEqProofs[Z6r,Z6s,h1,h2,inR]
 . have h2:lo<=n:=(by omega);by_cases h3:hi<n
   . have h4:¬n<=hi:=(by omega);simp -implicitDefEqProofs[Z6r,Z6s,h1,h2,h3,h4,inR]
   . have h4:n<=hi:=(by omega);simp -implicitDefEqProofs[Z6r,Z6s,h1,h2,h3,h4,inR]
def Z8U (lo hi:Int) (l:List Int) (hl:Sml l):PC prog G 52 [.int .i64 lo,.int .i64 hi,.vsl (l.map ia)] (.bool (l.all λn=>inR n lo hi)):=by
 (refine Z6b rfl λR hG hrd=>Qga ?_;subst hG)
 simp -implicitDefEqProofs[Z69,Z6a]
 (first|refine Yd.flat (Z8N 73 [.vptr [.int .i64 lo] 0,.vptr [.int .i64 hi] 0] (λn=>!inR n lo hi) l (by simp[AV.pure]) hl (λn _=>Z8S n lo hi)) (by simp[AV.flat]) (by simp) ?_|refine Ye.flat (Z8N 73 [.vptr [.int .i64 lo] 0,.vptr [.int .i64 hi] 0] (λn=>!inR n lo hi) l (by simp[AV.pure]) hl (λn _=>Z8S n lo hi)) (by simp[AV.flat]) (by simp) ?_)
 have e:(!l.any λn=>!inR n lo hi)=l.all λn=>inR n lo hi:=by simp[W26]
 simp -implicitDefEqProofs[e]
def Z8V (lo hi:Int) (n:Int):PC prog G 74 [.int .i64 lo,.int .i64 hi,.vsl [[.int .i64 n]]] (.bool (inR n lo hi)):=by
 (refine Z6q rfl λR hG hrd=>Qga ?_;subst hG)
 simp -implicitDefEqProofs[Z6o,Z6p];refine Yd.flat (Z8N 90 [.vptr [.int .i64 lo] 0,.vptr [.int .i64 hi] 0] (λn=>!inR n lo hi) [n] (by simp[AV.pure]) (by simp[Sml]) (λn _=>Z8T n lo hi)) (by simp[AV.flat]) (by simp[ia]) ?_;simp -implicitDefEqProofs
def Z8W (d:Dm):PC prog G 16 [.agg [.int .i64 d.n,.int .i64 d.l,.int .i64 d.u]] (.int .i64 (if vd d=true then 0 else 10)):=by
 (refine Z6n rfl λR hG hrd=>Qga ?_;subst hG)
 simp -implicitDefEqProofs[Z6l,Z6m];refine Qco (Z8U 0 1000000000 [d.n,d.l,d.u] (by simp[Sml])) ?_
 cases h1:[d.n,d.l,d.u].all λn=>inR n 0 1000000000
 . have e:vd d=false:=by
    refine W0S λh=>?_
    have:([d.n,d.l,d.u].all λn=>inR n 0 1000000000)=true:=by
     simp[inR];omega
    rw[this]at h1;cases h1
   simp -implicitDefEqProofs[e]
 . have h2:(0<=d.n/\d.n<=1000000000)/\(0<=d.l/\d.l<=1000000000)/\0<=d.u/\d.u<=1000000000:=by
    simpa [inR] using h1
   by_cases h3:d.u<d.l
   . have e:vd d=false:=W0S (by omega);simp -implicitDefEqProofs[e,h3]
   . have e:vd d=true:=W0M (by omega);simp -implicitDefEqProofs[e,h3]
def Z8X (x:Iss):PC prog G 43 [.agg (isa x)] (.agg [.int .i64 x.d,.int .i64 x.l]):=by
 (refine Z6w rfl λR hG hrd=>Qga ?_;subst hG)
 simp -implicitDefEqProofs[Z6u,Z6v,isa]
def ck1 (x:Iss):Bool:=inR x.d 1 9999&&inR x.l 1 8
def ck2 (x:Iss):Bool:=if x.k=1 then inR x.its.length 1 8&&decide (x.dms.length=0) else inR x.k 2 3&&decide (x.dms.length<=4)&&decide (x.its.length=0)
def ck3 (x:Iss):Bool:=(List.range x.its.length).all (itOk x)
def ck4 (x:Iss):Bool:=x.dms.all vd
def Z8Y (x:Iss):issB x=(ck1 x&&ck2 x&&ck3 x&&ck4 x):=by
 have e:headB x=(ck1 x&&ck2 x):=by
  unfold headB ck1 ck2;by_cases c1:x.k=1
  . have:inR x.k 1 3=true:=W0M (by omega);simp only[c1,if_true];rw[c1]at this;rw[this];simp
  . have:inR x.k 1 3=inR x.k 2 3:=decide_eq_decide.2 (by omega);simp only[c1,if_false,this,Bool.and_assoc]
 simp only[issB,e,ck3,ck4]
def Z8Z (x:Iss):PC prog G 122 [.agg (isa x)] (.bool (ck1 x)):=by
 (refine Z6z rfl λR hG hrd=>Qga ?_;subst hG)
 simp -implicitDefEqProofs[Z6x,Z6y,isa];refine Qco (Z8V _ _ _) ?_
 cases q1:inR x.d 1 9999
 . simp -implicitDefEqProofs[ck1,q1]
 . simp -implicitDefEqProofs;refine Qco (Z8V _ _ _) ?_;simp -implicitDefEqProofs[ck1,q1]
def Z90 (x:Iss) (hk:0<=x.k/\x.k<=255):PC prog G 123 [.agg (isa x)] (.bool (ck2 x)):=by
 (refine Z6C rfl λR hG hrd=>Qga ?_;subst hG)
 have wk:i64.wrap x.k=x.k:=Yf;by_cases c1:x.k=1
 . simp -implicitDefEqProofs[Z6A,Z6B,isa,c1];refine Qco (Z8V _ _ _) ?_
   cases q1:inR x.its.length 1 8
   . simp -implicitDefEqProofs[ck2,c1,q1]
   . by_cases q2:x.dms.length=0 <;> simp -implicitDefEqProofs[ck2,c1,q1,q2]
 . simp -implicitDefEqProofs[Z6A,Z6B,isa,c1,wk];refine Qco (Z8V _ _ _) ?_
   cases q1:inR x.k 2 3
   . simp -implicitDefEqProofs[ck2,c1,q1]
   by_cases q2:x.dms.length<=4
   . have q2i:(x.dms.length:Int)<=4:=(by omega);by_cases q3:x.its.length=0 <;> simp -implicitDefEqProofs[ck2,c1,q1,q2,q2i,q3]
   . have q2i:¬(x.dms.length:Int)<=4:=(by omega);simp -implicitDefEqProofs[ck2,c1,q1,q2,q2i]
def Z91 (x:Iss) (h1:Sml x.its):PC prog G 124 [.agg (isa x)] (.bool (ck3 x)):=by
 (refine Z6F rfl λR hG hrd=>Qga ?_;subst hG)
 unfold Sml at h1;simp -implicitDefEqProofs[Z6D,Z6E,isa];refine Z8h (λi=>⟨[(8,.int .i64 i),(7,.int .i64 x.its.length),(6,.vsl (x.its.map ita)),(1,.ptr 1 0)],[(1,.box (isa x))]⟩) (λi=>∀ j,j<i->itOk x j=true) x.its.length (by (first|exact Ym.tm (by simp[lk,isa])|exact Ym.sub (by simp[lk,Ya,AV.keys,isa]) (by simp[lk,Yc,Ya,AV.keys,isa]))) (by simp) ?_ ?_
 . intro i hi he;refine Qga ?_;have w1:i64.wrap ((i:Int)+1)=((i+1:Nat):Int):=Yf;have a1:itAt x i=x.its[i]:=by simp[itAt,List.getD,hi]
   have no:itOk x i=false->ck3 x=false:=λe=>by
    cases hI:ck3 x
    . rfl
    . rw[Z8r.1 hI i hi]at e;cases e
   simp -implicitDefEqProofs[hi,isa,ita];refine Qco (Z8V _ _ _) ?_
   cases p1:inR x.its[i].1 1 9999
   . simp -implicitDefEqProofs;refine ⟨rfl,?_⟩;refine Qgr ?_;simp -implicitDefEqProofs[no (by simp[itOk,a1,p1])]
   simp -implicitDefEqProofs;refine Qco (Z8V _ _ _) ?_
   cases p2:inR x.its[i].2 1 20
   . simp -implicitDefEqProofs;refine ⟨rfl,?_⟩;refine Qgr ?_;simp -implicitDefEqProofs[no (by simp[itOk,a1,p2])]
   by_cases p3:x.its[i].1=x.d
   . simp -implicitDefEqProofs[p3];refine ⟨rfl,?_⟩;refine Qgr ?_;simp -implicitDefEqProofs[no (by simp[itOk,a1,p3])]
   cases i with
   | zero =>
     have ok:itOk x 0=true:=(by simp[itOk,a1,p1,p2,p3]);have w0:i64.wrap 1=1:=rfl;simp -implicitDefEqProofs[p3,w0];exact ⟨rfl,(by (first|exact Ym.tm (by simp[lk,isa])|exact Ym.sub (by simp[lk,Ya,AV.keys,isa]) (by simp[lk,Yc,Ya,AV.keys,isa]))),ok⟩
   | succ i =>
     have w2:i64.wrap (i:Int)=(i:Int):=Yf;have w3:i64.wrap ((i:Int)+1+1)=(i:Int)+1+1:=Yf;have k3:(0:Int)<(i:Int)+1:=(by omega);have hi2:i<x.its.length:=(by omega);have a2:itAt x i=x.its[i]:=(by simp[itAt,List.getD,hi2]);by_cases p4:x.its[i+1].1<=x.its[i].1
     . simp -implicitDefEqProofs[p3,k3,w2,hi2,ita,p4];refine ⟨rfl,?_⟩;refine Qgr ?_;simp -implicitDefEqProofs[no (by simp[itOk,a1,a2,p4])]
     . have ok:itOk x (i+1)=true:=(by simp[itOk,a1,a2,p1,p2,p3];omega);simp -implicitDefEqProofs[p3,k3,w2,w3,hi2,ita,p4];refine ⟨rfl,(by (first|exact Ym.tm (by simp[lk,isa])|exact Ym.sub (by simp[lk,Ya,AV.keys,isa]) (by simp[lk,Yc,Ya,AV.keys,isa]))),λj hj=>?_⟩;by_cases e:j=i+1
       . subst e;exact ok
       . exact he j (by omega)
 . intro he;refine Qga ?_;have hI:ck3 x=true:=Z8r.2 he;simp -implicitDefEqProofs;refine Qgr ?_;simp -implicitDefEqProofs[hI]
def Z92 (d:Dm):PC prog G 127 [.agg [.int .i64 d.n,.int .i64 d.l,.int .i64 d.u]] (.bool (!vd d)):=by
 (refine Z6L rfl λR hG hrd=>Qga ?_;subst hG)
 simp -implicitDefEqProofs[Z6J,Z6K];refine Qco (Z8W d) ?_
 cases q:vd d <;> simp -implicitDefEqProofs
def Z93 (x:Iss) (h2:Sml x.dms):PC prog G 125 [.agg (isa x)] (.bool (ck4 x)):=by
 (refine Z6I rfl λR hG hrd=>Qga ?_;subst hG)
 simp -implicitDefEqProofs[Z6G,Z6H,isa];refine Qco (Z8R 127 [] (λd=>!vd d) x.dms rfl h2 (λd _=>Z92 d)) ?_;have e:(!x.dms.any λd=>!vd d)=ck4 x:=(by simp[ck4,W26]);simp -implicitDefEqProofs[e]
def lowB (l:List Int) (n:Int):Nat:=l.countP (λx=>decide (x<n))
def Z94 (l:List Int) (n:Int):lowB l n<=l.length:=List.countP_le_length
def Z95 {l:List Int} (hs:l.Pairwise (· <= ·)) (n:Int):∀ (i:Nat) (hi:i<l.length),i<lowB l n↔l[i]<n:=by
 induction l with
 |nil=>intro i hi;simp at hi
 | cons x l ih =>
   obtain ⟨h1,h2⟩:=W1k.1 hs;intro i hi;by_cases hx:x<n
   . have e:lowB (x::l) n=lowB l n+1:=(by simp[lowB,W1Y,hx]);rw[e]
     cases i with
     |zero=>simp[hx]
     | succ i =>
       have:=ih h2 i (by simpa using hi);simp only[List.getElem_cons_succ];rw[<- this];omega
   . have z:lowB l n=0:=by
      unfold lowB;rw[List.countP_eq_zero];intro y hy;have:=h1 y hy;simp;omega
     have e:lowB (x::l) n=0:=by
      have:lowB (x::l) n=lowB l n:=(by simp[lowB,W1Y,hx]);omega
     rw[e]
     have hge:∀ (i:Nat) (hi:i<(x::l).length),x<=(x::l)[i]:=λi hi=>by
      cases i with
      |zero=>exact W1R _
      |succ i=>exact h1 _ (W0e _)
     have:=hge i hi
     constructor
     . intro h;omega
     . intro h;omega
def Z96 {l:List Int} (hs:l.Pairwise (· < ·)):l.Pairwise (· <= ·):=hs.imp λh=>Int.le_of_lt h
def Z97 {l:List Int} (hs:l.Pairwise (· <= ·)) (n:Int):n∈l↔l[lowB l n]? = some n:=by
 constructor
 . intro hm;obtain ⟨j,hj,he⟩:=W0k hm;have h1:¬j<lowB l n:=λh=>by have:=(Z95 hs n j hj).1 h;omega
   have h2:lowB l n<l.length:=(by omega);rw[W07 h2];have h3:¬l[lowB l n]<n:=λh=>by have:=(Z95 hs n _ h2).2 h;omega
   have h4:l[lowB l n]<=l[j]:=by
    by_cases e:lowB l n=j
    . simp[e]
    . exact W0Y.1 hs _ _ h2 hj (by omega)
   congr 1;omega
 . intro h;exact W0d h
def Z98 {i j:Nat} (h:i+j<=33554432):i64.wrap ((IntKind.u64.wrap (i64.wrap ((i:Int)+j))).fdiv (2 ^ (min 1 IntKind.u64.bits)))=(((i+j) / 2:Nat):Int):=by
 show i64.wrap ((IntKind.u64.wrap (i64.wrap ((i:Int)+j))).fdiv (2 ^ (min 1 64)))=(((i+j) / 2:Nat):Int);have e1:i64.wrap ((i:Int)+j)=((i+j:Nat):Int):=by rw[Yf (by omega) (by omega)];omega
 have e2:IntKind.u64.wrap (((i+j:Nat):Int))=((i+j:Nat):Int):=by
  have:=IntWalk.u64_in (((i+j:Nat):Int)) ⟨by omega,by omega⟩;exact this
 rw[e1,e2]
 have e3:(((i+j:Nat):Int)).fdiv (2 ^ (min 1 64))=(((i+j) / 2:Nat):Int):=by
  rw[Int.fdiv_eq_ediv_of_nonneg _ (by decide)];simp
 rw[e3,Yf (by omega) (by omega)]
def Z99 (n:Int):PC prog G 102 [.int .i64 n] (.bool false):=by
 (refine Z7c rfl λR hG hrd=>Qga ?_;subst hG)
 simp -implicitDefEqProofs[Z7a,Z7b]
def Z9a (n:Int):PC prog G 101 [.int .i64 n] (.bool false):=by
 (refine Z7f rfl λR hG hrd=>Qga ?_;subst hG)
 simp -implicitDefEqProofs[Z7d,Z7e]
def Z9b (a b:Int):PC prog G 100 [.int .i64 a,.int .i64 b] (.bool (decide (a<b))):=by
 (refine Z79 rfl λR hG hrd=>Qga ?_;subst hG)
 by_cases h:a<b
 . simp -implicitDefEqProofs[Z77,Z78,h]
   try refine Qco (Z99 a) ?_
   try simp -implicitDefEqProofs[h]
 . simp -implicitDefEqProofs[Z77,Z78,h]
   try refine Qco (Z99 a) ?_
   try simp -implicitDefEqProofs[h]
def Z9c (l:List Int) (n:Int) (hs:l.Pairwise (· <= ·)) (hl:Sml l):PC prog G 92 [.vsl (l.map ia),.int .i64 n] (.tup [.int .i64 (lowB l n),.bool (decide (n∈l))]):=by
 (refine Z76 rfl λR hG hrd=>Qga ?_;subst hG)
 unfold Sml at hl;have hle:=Z94 l n;simp -implicitDefEqProofs[Z74,Z75];refine Z1Q (λp:Nat×Nat=>⟨[(8,.int .i64 p.2),(7,.int .i64 p.1),(6,.int .i64 l.length),(0,.vsl (l.map ia)),(1,.int .i64 n)],[]⟩) (λp=>p.1<=lowB l n/\lowB l n<=p.2/\p.2<=l.length) (λp=>p.2-p.1) (0,l.length) (by (first|exact Wka|exact Wkb)) ⟨by omega,hle,W0f _⟩ ?_;rintro ⟨lo,hi⟩ ⟨h1,h2,h3⟩;simp only at h1 h2 h3;refine Qga ?_;by_cases h4:lo<hi
 . obtain ⟨m,hm⟩:=Qex ((lo+hi) / 2);have hw:=Z98 (i:=lo) (j:=hi) (by omega);rw[<- hm]at hw;have m1:m<l.length:=(by omega);have w1:i64.wrap ((m:Int)+1)=((m+1:Nat):Int):=Yf;have hb:=Z95 hs n m m1;by_cases h5:l[m]<n
   . simp -implicitDefEqProofs[h4,hw,m1,ia];refine Qco (Z9b _ _) ?_;simp -implicitDefEqProofs[h5,w1];exact ⟨(m+1,hi),(by (first|exact Wka|exact Wkb)),⟨by have:=hb.2 h5;show m+1<=_;omega,h2,h3⟩,by show hi-(m+1)<hi-lo;omega⟩
   . simp -implicitDefEqProofs[h4,hw,m1,ia];refine Qco (Z9b _ _) ?_;simp -implicitDefEqProofs[h5];exact ⟨(lo,m),(by (first|exact Wka|exact Wkb)),⟨h1,by have:¬m<lowB l n:=λh=>h5 (hb.1 h);show lowB l n<=m;omega,by show m<=_;omega⟩,by show m-lo<hi-lo;omega⟩
 . obtain rfl:lo=lowB l n:=(by omega);have hmem:=Z97 hs n;by_cases h5:lowB l n<l.length
   . by_cases h6:l[lowB l n]=n
     . have e:n∈l:=hmem.2 (by rw[W07 h5,h6]);simp -implicitDefEqProofs[h4];refine Qgr ?_;simp -implicitDefEqProofs[h5,ia,h6,e]
     . have e:¬n∈l:=λh=>h6 (by have:=hmem.1 h;rw[W07 h5]at this;exact W1G this)
       simp -implicitDefEqProofs[h4];refine Qgr ?_;simp -implicitDefEqProofs[h5,ia,h6];refine Qco (Z9a _) ?_;simp -implicitDefEqProofs[e]
   . have e:¬n∈l:=λh=>by have:=hmem.1 h;rw[List.getElem?_eq_none (by omega)]at this;cases this
     simp -implicitDefEqProofs[h4];refine Qgr ?_;simp -implicitDefEqProofs[h5,e]
section
open Qq Tryd
def Z9d:RCode :=
 S [R 0 [l 9 1,a [0] (w 10 (.nilck (.t 9))),a [1] (f 11 0 10),a [2] (f 12 0 11),a [3] (l 13 12),l 14 2,a [4,5] (w 15 (.call 94 [.t 13,.t 14,.c (.func (.func 95) [] [])])),a [6] (m 8 15),a [7] (x 16 0 8),a [7] (x 17 1 8),a [8,6,0,1,2,3,4,5,6,7,8] (m 4 16),a [9,10,0,1,2,3,4,5,6,7,8,9,10] (m 5 17)],r 1 [l 18 1,w 19 (.nilck (.t 18)),f 20 0 19,f 21 0 20,l 22 21,m 23 4,w 24 (.slc 5 (.t 22) (some (.t 23)) none),e 25 24,n 26 O],.block 0 (.loop (S [r 2 [o 27 .lss 26 25],.cond (.t 27) .skip (.exit 0),.block 1 (S [r 3 [i 28 5 24 26,L 29 5 28,w 7 (.alloc [O,O,.int .u8 0,.nils,.nils]),s 5 7 29],r 4 [f 30 0 7,l 31 30,l 32 2,o 33 .neq 31 32,m 34 33,g 34 false (m 35 0),g 34 false (L 36 5 7),g 34 false (w 37 (.callv (.t 35) [.t 36])),g 34 false (t 38 37),u 39 34 38],.cond (.t 39) .ret .skip]),r 5 [k 40 .add 26 I,m 26 40]]))]
end
section
variable {P:Program} {N:Nat} {c:Code}
def Z9e {a b:RCode} (h:Z1A P N c (.seq a b)=true):∃ c1 c2,c = .seq c1 c2/\Z1A P N c1 a=true/\Z1A P N c2 b=true:=by
 cases c <;> simp only[Z1A,W05,W01]at h
 exact ⟨_,_,rfl,h.1,h.2⟩
def Z9f {id:Nat} {a:RCode} (h:Z1A P N c (.block id a)=true):∃ c1,c = .block id c1/\Z1A P N c1 a=true:=by
 cases c <;> simp only[Z1A,W05,W01,W0A]at h
 obtain ⟨rfl,h⟩:=h;exact ⟨_,rfl,h⟩
def Z9g {a:RCode} (h:Z1A P N c (.loop a)=true):∃ c1,c = .loop c1/\Z1A P N c1 a=true:=by
 cases c <;> simp only[Z1A,W05]at h
 exact ⟨_,rfl,h⟩
def Z9h {id:Nat} {rs:List ROper} (h:Z1A P N c (.reg id false rs)=true):∃ ops,c = .region id ops false/\allB2 (Z1z P N ops) ops.toList rs=true:=by
 cases c <;> simp only[Z1A,W05,W01,W0A]at h
 obtain ⟨⟨⟨rfl,rfl⟩,h⟩,-⟩:=h;exact ⟨_,rfl,h⟩
end
section
variable {P:Program} {R:Run} {rd:Option Nat} {m:Nat} {ops:Array Oper} {Q:Exit->Act->World->Prop}
def Z9i (l2:List Nat):∀ (l:List Nat) (rs':List ROper) (st:St) (K:St->Prop) (a:Act) (W:World),
  (∀ (i:Nat) (r:ROper),rs'[i]? = some r->∃ (j:Nat) (o:Oper),l[i]? = some j/\ops[j]? = some o/\Z1z P R.N ops o r=true)->l.length=rs'.length->(∀ st' a' W',K st'->SR R st' a' W'->wpOpsIn (FW rd) m P ops Q l2 a' W') ->
  RW P R.G rs' st (λe s=>e = .normal/\K s)->SR R st a W->wpOpsIn (FW rd) m P ops Q (l++l2) a W:=by
 intro l
 induction l with
 | nil =>
   intro rs' st K a W hok hl hK hr hs
   cases rs' with
   |nil=>exact hK st a W hr.2 hs
   |cons r rs'=>simp at hl
 | cons j l ih =>
   intro rs' st K a W hok hl hK hr hs
   cases rs' with
   |nil=>simp at hl
   | cons r rs' =>
     obtain ⟨j',o,hj,ho,hk⟩:=hok 0 r rfl;simp at hj;subst hj
     have go:∀ (st':St) (a':Act) (W':World),RW P R.G rs' st' (λe s=>e = .normal/\K s)->SR R st' a' W'->wpOpsIn (FW rd) m P ops Q (l++l2) a' W':=λst' a' W' h2 hs' =>
      ih rs' st' K a' W' (λi r hi=>by simpa using hok (i+1) r (by simpa using hi)) (by simpa using hl) hK h2 hs'
     rw[W1d,wpOpsIn_cons];rcases Z22 hr with ⟨st',h1,h2⟩ | ⟨hw,g,args,hi,hc⟩
     . exact Z26 h1 ho hk hs λa' W' hs'=>go st' a' W' h2 hs'
     . obtain ⟨κ,hκ⟩:=hs;have hk0:=hk;simp only[Z1z,W01,W0b]at hk;obtain ⟨⟨⟨hd,hdn⟩,-⟩,-⟩:=hk;have hdn':∀ n,r.d=some n->n<R.N:=λn e=>by rw[e]at hdn;simpa using hdn
       refine Z25 hi hw ho hk0 hκ λvs ha=>?_
       rcases hc with ⟨v,st1,hc,hn⟩ | ⟨ch,hc,hn⟩
       . obtain ⟨h1,h2⟩:=hc R a W κ vs rfl hκ ha;refine ⟨h1,h2.mono ?_⟩;rintro e W' ⟨u,κ1,rfl,h3,h4⟩;refine go _ _ _ hn ⟨κ1,?_⟩;rw[hd];exact h3.putd hdn' h4
       . exact absurd hn.1 (by simp)
end
def Z9j (M:Nat->Prop) (W:World) (N:Nat) (rd:Option Nat):Run :=
 { G:=λ_=>none,M:=M,X:=λ_=>False,W0:=W,N:=N,E0:={ M:=M,loc:=λ_=>none,row:=λ_=>none },rd:=rd,nm:=true }
def TT' (M:Nat->Prop) (W:World) (t:List (Nat×AV)) (a:Act):Prop:=∀ n x,lk t n=some x->PV M W x (a.tmps.getD n Go.undef)
def Z9k {M:Nat->Prop} {W:World} {N:Nat} {rd:Option Nat} {t:List (Nat×AV)} {a:Act} (hM:∀ b,M b->b<W.heap.size) (hd:a.defers=[]) (hN:a.tmps.size=N) (ht:TT' M W t a):SR (Z9j M W N rd) ⟨t,[]⟩ a W:=by
 have hGM:∀ b,b<W.heap.size->¬M b->¬((⟨t,[]⟩ : St).env M (λ_=>none)).M b/\W.heap[b]? = W.heap[b]?:=λb _ h1=>⟨(by rintro (h2 | ⟨k,s,h2⟩) <;> first|exact h1 h2|cases h2),rfl⟩
 refine ⟨λ_=>none,⟨[],by simp[hd,Z9j],.nil,by simp,λ_=>rfl⟩,hN,λn x hx=>.pv ((ht n x hx).mono hGM (W0f _)),(λk o ho=>by simp[St.get,lk]at ho),(λk p hk=>by cases hk),(λk k' b s s' hk=>by cases hk),hM,λ_ _ h=>h,Kp.refl _ _,(λg cs hg=>by cases hg),⟨W0f _,hGM,λk p hk=>(by cases hk),λk sz m hk=>(by cases hk)⟩,λ_ _=>⟨rfl,rfl⟩⟩
def Z9l {M:Nat->Prop} {W W':World} {N:Nat} {rd:Option Nat} {st:St} {a:Act} (h:SR (Z9j M W N rd) st a W') {t:List (Nat×AV)} (hw:Ym st ⟨t,[]⟩) (hp:∀ q∈t,q.2.pure=true) :
  a.defers=[]/\a.tmps.size=N/\TT' M W' t a/\Ext W W':=by
 obtain ⟨κ,hk⟩:=hw _ _ _ h;obtain ⟨cs,e,-,-,hz⟩:=hk.defers
 have hκ:∀ k,κ k=none:=λk=>by
  cases e:κ k with
  |none=>rfl
  |some p=>obtain ⟨o,ho⟩:=hk.dom k p e;simp[St.get,lk]at ho
 refine ⟨by rw[e,hz rfl];rfl,hk.size,λn x hx=>?_,⟨hk.kp.os,hk.kp.tape,hk.kp.output,hk.kp.size,λi hi=>hk.kp.block i hi (λh=>h)⟩⟩;refine ((hk.tm n x hx).toPV (hp (n,x) (Z4J hx))).mono (λb _ hb=>⟨λh=>hb (.inl h),rfl⟩) (W0f _)
def Z9m {P:Program} {R:Run} {st:St} {a:Act} {W:World} {κ:Nat->Option (Nat×Nat)} {rd:Option Nat} {m:Nat} {ops:Array Oper} {r:ROper} {j l:Nat} {o:Oper} {f y:RA} {K:Act->World->Prop} {Q:Exit->Act->World->Prop}
  (hr:r.op = .callv f [y]) (hf:evA R.G st f = .func (.yield l) [] []) (hw:wants st r.guard=some true) (ho:ops[j]? = some o) (hk:Z1z P R.N ops o r=true) (hκ:SK R st a W κ)
  (hc:∀ u,VR (st.env R.M κ) W (evA R.G st y) u->YieldAt (FW rd) (m-1) P l #[u] W fun
   |.returned v,W'=>K (a.put o.dst v) W'
   |.panicked ch,W'=>Q (.panic ch) a W'
   |.outgrown,_=>LetsOut Q):wpOpIn (FW rd) m P ops Q j K a W:=by
 simp only[Z1z,W01,W0b]at hk;obtain ⟨⟨⟨hd,hdn⟩,hop⟩,hg⟩:=hk;unfold wpOpIn;simp only[ho];rw[if_pos (Z20 hκ hg hw)];rw[hr]at hop;simp only[Z1y,if_true,Z1x]at hop
 split at hop <;> try (simp at hop;done)
 . simp_all
 . simp_all
 . rename_i r0 x xs ats y' ys e1 e2;simp only[W01]at hop;simp only[ROp.callv.injEq]at e2;obtain ⟨rfl,rfl⟩:=e2;have hx:=hκ.ev hop.1;rw[hf]at hx;obtain ⟨us,vs,hv1,hv2,hv3⟩:=hx.func_inv
   obtain rfl:us = #[]:=by
    have:=hv2.1;rw[<- W16];exact W0l.1 (by simpa using this)
   obtain rfl:vs = #[]:=by
    have:=hv3.1;rw[<- W16];exact W0l.1 (by simpa using this)
   cases xs with
   |nil=>simp[allB2]at hop
   | cons z xs =>
     cases xs with
     |cons _ _=>simp[allB2]at hop
     | nil =>
       have hz:=hκ.ev (show okA z y=true by simpa [allB2] using hop.2);obtain ⟨fn,tmps,assign,body,h1,h2⟩:=hc _ hz;refine ⟨λ_ _=>trivial,?_⟩;rw[Oper.semAt_eq _ _ _ (λc e=>by rw[e1]at e;cases e)]
       have:(execOp a.eval o).run P W = .ok (.round l fn tmps assign body) W:=by
        rw[<- h1];simp[execOp,e1,resolve,hv1,Deferred.ofValue,invoke,Sem.run_bind]
       rw[this];exact ⟨Z24,h2⟩
def elsOf (r:Jr) (n:Int):List AV:=(r.filter (λx=>decide (x.d=n))).map (λx=>.agg (isa x))
def Z9n {n:Int}:∀ (l:Jr),(l.map (·.d)).Pairwise (· <= ·)->(∀ x∈l,n<=x.d) ->
  (l.filter (λx=>decide (x.d=n))).length<=l.length/\(∀ i,i<(l.filter (λx=>decide (x.d=n))).length->(l.filter (λx=>decide (x.d=n)))[i]? = l[i]? /\ ∀ x,l[i]? = some x->x.d=n) /\
   ∀ x,l[(l.filter (λx=>decide (x.d=n))).length]? = some x->x.d≠n
 |[],_,_=>by simp
 | y :: l,hs,hg=>by
   simp only[W0F,W1k]at hs;obtain ⟨h1,h2,h3⟩:=Z9n l hs.2 λx hx=>hg x (W0z _ hx)
   by_cases hy:y.d=n
   . have e:(y::l).filter (λx=>decide (x.d=n))=y::l.filter (λx=>decide (x.d=n)):=(by simp[hy]);rw[e];refine ⟨by simpa using h1,λi hi=>?_,λx hx=>h3 x (by simpa using hx)⟩
     cases i with
     |zero=>exact ⟨rfl,λx hx=>by simp at hx;subst hx;exact hy⟩
     |succ i=>exact ⟨by simpa using (h2 i (by simpa using hi)).1,λx hx=>(h2 i (by simpa using hi)).2 x (by simpa using hx)⟩
   . have gt:n<y.d:=by have:=hg y (W0H ..);omega
     have e:(y::l).filter (λx=>decide (x.d=n))=[]:=by
      rw[W27];intro x hx;rcases W0g.1 hx with rfl|hx
      . simpa using hy
      . have:=hs.1 x.d (W0i.2 ⟨x,hx,rfl⟩);simp;omega
     rw[e];refine ⟨by simp,by simp,λx hx=>?_⟩;simp at hx;subst hx;exact hy
def Z9o {r:Jr} {n:Int} (hs:(r.map (·.d)).Pairwise (· <= ·)):∃ cnt,cnt=(r.filter (λx=>decide (x.d=n))).length/\cnt<=(r.drop (lowB (r.map (·.d)) n)).length /\
  (∀ i,i<cnt->(r.filter (λx=>decide (x.d=n)))[i]? = (r.drop (lowB (r.map (·.d)) n))[i]? /\ ∀ x,(r.drop (lowB (r.map (·.d)) n))[i]? = some x->x.d=n)/\(∀ x,(r.drop (lowB (r.map (·.d)) n))[cnt]? = some x->x.d≠n):=by
 have e:r.filter (λx=>decide (x.d=n))=(r.drop (lowB (r.map (·.d)) n)).filter (λx=>decide (x.d=n)):=by
  conv=>lhs;rw[<- W11 (lowB (r.map (·.d)) n) r]
  rw[W19]
  have:(r.take (lowB (r.map (·.d)) n)).filter (λx=>decide (x.d=n))=[]:=by
   rw[W27];intro x hx;obtain ⟨i,hi,rfl⟩:=W0k hx;simp only[W15]at hi;have:=(Z95 hs n i (by simp;omega)).1 (by omega);simp only[W1t]at this;simp only[W1O];simp;omega
  rw[this,W18]
 refine ⟨_,rfl,?_⟩;rw[e];refine Z9n _ ?_ λx hx=>?_
 . rw[List.map_drop];exact hs.sublist (List.drop_sublist _ _)
 . obtain ⟨i,hi,rfl⟩:=W0k hx;simp only[List.length_drop]at hi;have q:=Z95 hs n (lowB (r.map (·.d)) n+i) (by simp;omega);simp only[W1t]at q;simp only[List.getElem_drop];by_cases h:r[lowB (r.map (·.d)) n+i].d<n
   . have:=q.2 h;omega
   . omega
def Z9p (a b:Int):PC prog G 96 [.int .i64 a,.int .i64 b] (.int .i64 (if a<b then -1 else if b<a then 1 else 0)):=by
 (refine Z7i rfl λR hG hrd=>Qga ?_;subst hG)
 by_cases h1:a<b
 . simp -implicitDefEqProofs[Z7g,Z7h];refine Qco (Z99 a) ?_;simp -implicitDefEqProofs;refine Qco (Z99 b) ?_;simp -implicitDefEqProofs[h1]
 . by_cases h2:b<a
   . simp -implicitDefEqProofs[Z7g,Z7h];refine Qco (Z99 a) ?_;simp -implicitDefEqProofs;refine Qco (Z99 b) ?_;simp -implicitDefEqProofs[h1,h2]
   . simp -implicitDefEqProofs[Z7g,Z7h];refine Qco (Z99 a) ?_;simp -implicitDefEqProofs;refine Qco (Z99 b) ?_;simp -implicitDefEqProofs[h1,h2]
def Z9q (x:Iss) (n:Int):PC prog G 95 [.agg (isa x),.int .i64 n] (.int .i64 (if x.d<n then -1 else if n<x.d then 1 else 0)):=by
 (refine Z7r rfl λR hG hrd=>Qga ?_;subst hG)
 simp -implicitDefEqProofs[Z7p,Z7q,isa];refine Qco (Z9p _ _) ?_;simp -implicitDefEqProofs
def Z9r (r:Jr) (n:Int) (hs:(r.map (·.d)).Pairwise (· <= ·)) (hl:Sml r):∃ b,PC prog G 94 [.vsl (r.map isa),.int .i64 n,.func (.func 95) [] []] (.tup [.int .i64 (lowB (r.map (·.d)) n),.bool b]):=by
 have hle:=Z94 (r.map (·.d)) n;simp only[W0N]at hle;refine ⟨if h:lowB (r.map (·.d)) n<r.length then decide ((if r[lowB (r.map (·.d)) n].d<n then (-1:Int) else if n<r[lowB (r.map (·.d)) n].d then 1 else 0)=0) else false,?_⟩
 (refine Z7l rfl λR hG hrd=>Qga ?_;subst hG)
 unfold Sml at hl;simp -implicitDefEqProofs[Z7j,Z7k];refine Z1Q (λp:Nat×Nat=>⟨[(10,.int .i64 p.2),(9,.int .i64 p.1),(8,.int .i64 r.length),(0,.vsl (r.map isa)),(1,.int .i64 n),(2,.func (.func 95) [] [])],[]⟩) (λp=>p.1<=lowB (r.map (·.d)) n/\lowB (r.map (·.d)) n<=p.2/\p.2<=r.length) (λp=>p.2-p.1) (0,r.length) (by (first|exact Wka|exact Wkb)) ⟨by omega,hle,W0f _⟩ ?_;rintro ⟨lo,hi⟩ ⟨h1,h2,h3⟩;simp only at h1 h2 h3;refine Qga ?_;by_cases h4:lo<hi
 . obtain ⟨m,hm⟩:=Qex ((lo+hi) / 2);have hw:=Z98 (i:=lo) (j:=hi) (by omega);rw[<- hm]at hw;have m1:m<r.length:=(by omega);have w1:i64.wrap ((m:Int)+1)=((m+1:Nat):Int):=Yf;have hb:=Z95 hs n m (by simpa using m1);simp only[W1t]at hb;by_cases h5:r[m].d<n
   . have c1:(-1:Int)<0:=(by omega);simp -implicitDefEqProofs[h4,hw,m1,isa];refine Qco (Z9q r[m] n) ?_;simp -implicitDefEqProofs[h5,w1];exact ⟨(m+1,hi),(by (first|exact Wka|exact Wkb)),⟨by have:=hb.2 h5;show m+1<=_;omega,h2,h3⟩,by show hi-(m+1)<hi-lo;omega⟩
   . simp -implicitDefEqProofs[h4,hw,m1,isa];refine Qco (Z9q r[m] n) ?_;by_cases h6:n<r[m].d
     . simp -implicitDefEqProofs[h5,h6];exact ⟨(lo,m),(by (first|exact Wka|exact Wkb)),⟨h1,by have:¬m<lowB (r.map (·.d)) n:=λh=>h5 (hb.1 h);show _<=m;omega,by show m<=_;omega⟩,by show m-lo<hi-lo;omega⟩
     . simp -implicitDefEqProofs[h5,h6];exact ⟨(lo,m),(by (first|exact Wka|exact Wkb)),⟨h1,by have:¬m<lowB (r.map (·.d)) n:=λh=>h5 (hb.1 h);show _<=m;omega,by show m<=_;omega⟩,by show m-lo<hi-lo;omega⟩
 . obtain rfl:lo=lowB (r.map (·.d)) n:=(by omega);by_cases h5:lowB (r.map (·.d)) n<r.length
   . simp -implicitDefEqProofs[h4];refine Qgr ?_;simp -implicitDefEqProofs[h5,isa];refine Qco (Z9q r[lowB (r.map (·.d)) n] n) ?_;simp -implicitDefEqProofs
   . simp -implicitDefEqProofs[h4];refine Qgr ?_;simp -implicitDefEqProofs[h5]
def issA:RCode->RCode
 |.seq a _=>a
 |c=>c
def Z9s:RCode->RCode
 |.seq _ b=>b
 |c=>c
def issB1 (c:RCode):RCode:=issA (Z9s c)
def issB2 (c:RCode):RCode:=Z9s (Z9s c)
def issB3 (c:RCode):RCode:=match issB2 c with
 |.block _ b=>b
 |c=>c
def issL (c:RCode):RCode:=match issB3 c with
 |.loop b=>b
 |c=>c
def issBk:RCode->RCode
 |.block _ b=>b
 |c=>c
def Z9t:RCode->List ROper
 |.reg _ _ l=>l
 |_=>[]
def itS (seg:Jr) (bk:AV) (n:Int) (l i:Nat):List (Nat×AV) :=
 [(26,.int .i64 i),(25,.int .i64 seg.length),(24,.vsl (seg.map isa)),(2,.vptr [.int .i64 n] 0),(1,.vptr [bk] 0),(0,.func (.yield l) [] [])]
def Z9u (r:Jr) (n:Int) (ds:AV) (hs:(r.map (·.d)).Pairwise (· <= ·)) (hl:Sml r):IterP prog 93 [.vptr [.vptr [.vsl (r.map isa),ds] 0] 0,.vptr [.int .i64 n] 0] (elsOf r n):=by
 refine ⟨by kernel_rfl,?_⟩;intro n' l lb J K M W hn hJe hKe hJM hC hY h0;obtain ⟨cnt,hcnt,hc1,hc2,hc3⟩:=Z9o (n:=n) hs;generalize hseg:r.drop (lowB (r.map (·.d)) n)=seg at hc1 hc2 hc3;have hsl:seg.length<=16777216:=(by rw[<- hseg];simp;unfold Sml at hl;omega);have hle:=Z94 (r.map (·.d)) n;simp only[W0N]at hle;unfold Sml at hl;have hel:(elsOf r n).length=cnt:=(by rw[hcnt];simp[elsOf]);obtain ⟨c,hc,hok⟩ : ∃ c,Tryd.f93.body=some c/\Z1A prog Tryd.f93.ntmps c Z9d=true:=⟨_,rfl,by kernel_rfl⟩;obtain ⟨N,hN⟩:=Qex Tryd.f93.ntmps;have hN3:3<=N:=(by rw[hN];decide);rw[<- hN]at hok;refine callsIn_of_wp (F:=Fence.wide) Tryd.func93 hc trivial ?_ rfl
 have hres:∀ (tm:Array Value) (W':World),(results Tryd.f93 tm).run prog W' = .ok (.tuple #[]) W':=λtm W'=>by
  have e:Tryd.f93.results = #[]:=rfl;simp[results,e,Sem.run_bind]
 obtain ⟨Q,hQ⟩:=Qex (bodyPost prog Tryd.f93 (λe W'=>(∃ v,e = .returned v)/\((∃ M,J (elsOf r n).length M W')∨K W')))
 have hfin:∀ (a:Act) (W':World),a.defers=[]->((∃ M,J (elsOf r n).length M W')∨K W')->Q .ret a W'/\Q .normal a W':=λa W' hd h=>by
  rw[hQ];exact ⟨⟨hd,_,hres _ _,⟨_,rfl⟩,h⟩,⟨hd,_,hres _ _,⟨_,rfl⟩,h⟩⟩
 rw[<- hQ];have hwide:Fence.wide=FW none:=rfl;rw[hwide];obtain ⟨cA,c1,rfl,okA',ok1⟩:=Z9e (a:=issA Z9d) (b:=Z9s Z9d) hok;obtain ⟨cB,c2,rfl,okB',ok2⟩:=Z9e (a:=issB1 Z9d) (b:=issB2 Z9d) ok1;obtain ⟨c3,rfl,ok3⟩:=Z9f (id:=0) (a:=issB3 Z9d) ok2;obtain ⟨c4,rfl,ok4⟩:=Z9g (a:=issL Z9d) ok3
 have hbk:∃ v1 v2,lb = #[v1,v2]/\PV M W (.vptr [.vptr [.vsl (r.map isa),ds] 0] 0) v1/\PV M W (.vptr [.int .i64 n] 0) v2:=by
  obtain ⟨h1,h2⟩:=hC
  match lb,h1,h2 with
  | ⟨[v1,v2]⟩,_,h2=>exact ⟨v1,v2,rfl,h2 0 _ v1 rfl rfl,h2 1 _ v2 rfl rfl⟩
 obtain ⟨v1,v2,rfl,hv1,hv2⟩:=hbk;obtain ⟨bk,hbk⟩:=Qex (AV.vptr [.vsl (r.map isa),ds] 0);rw[<- hbk]at hv1
 have start:SR (Z9j M W N none) ⟨[(2,.vptr [.int .i64 n] 0),(1,.vptr [bk] 0),(0,.func (.yield l) [] [])],[]⟩ { tmps:=(#[.func (.yield l) #[] #[]] ++ #[v1,v2]:Array Value)++Array.replicate (N-3) Go.undef,defers:=[] } W:=by
  refine Z9k (hJM 0 M W h0) rfl (by simp;omega) λk x hx=>?_
  have g0:((#[.func (.yield l) #[] #[]] ++ #[v1,v2]:Array Value)++Array.replicate (N-3) Go.undef).getD 0 Go.undef = .func (.yield l) #[] #[]:=(by simp[Array.getD]);have g1:((#[.func (.yield l) #[] #[]] ++ #[v1,v2]:Array Value)++Array.replicate (N-3) Go.undef).getD 1 Go.undef=v1:=(by simp[Array.getD];omega);have g2:((#[.func (.yield l) #[] #[]] ++ #[v1,v2]:Array Value)++Array.replicate (N-3) Go.undef).getD 2 Go.undef=v2:=(by simp[Array.getD];omega);simp only[lk]at hx
  split at hx
  . rename_i e;subst e;cases hx;rw[g2];exact hv2
  . split at hx
    . rename_i e;subst e;cases hx;rw[g1];exact hv1
    . split at hx
      . rename_i e;subst e;cases hx;rw[g0];exact .func _ [] [] #[] #[] rfl rfl (by simp) (by simp)
      . cases hx
 have hact:({ tmps:=(#[.func (.yield l) #[] #[]] ++ #[v1,v2]:Array Value)++Array.replicate (Tryd.f93.ntmps-(#[.func (.yield l) #[] #[]] ++ #[v1,v2]:Array Value).size) Go.undef,defers:=[] }:Act)={ tmps:=(#[.func (.yield l) #[] #[]] ++ #[v1,v2]:Array Value)++Array.replicate (N-3) Go.undef,defers:=[] }:=(by rw[hN];rfl);rw[hact]
 have arA:AR prog (Z9j M W N none) (issA Z9d) ⟨[(2,.vptr [.int .i64 n] 0),(1,.vptr [bk] 0),(0,.func (.yield l) [] [])],[]⟩ (λe s=>e = .normal/\Ym s ⟨[(4,.int .i64 (lowB (r.map (·.d)) n)),(2,.vptr [.int .i64 n] 0),(1,.vptr [bk] 0),(0,.func (.yield l) [] [])],[]⟩):=by
  obtain ⟨b,hb⟩:=Z9r (G:=λ_=>none) r n hs hl;refine Qga ?_;simp -implicitDefEqProofs[issA,Z9d,hbk];refine Ye.of hb (by simp[AV.pure]) ?_;simp -implicitDefEqProofs;exact ⟨rfl,(by (first|exact Wka|exact Wkb))⟩
 have hdr:List.drop (lowB (r.map (·.d)) n) (r.map isa)=seg.map isa:=(by rw[<- List.map_drop,hseg]);have hsg:seg.length=r.length-lowB (r.map (·.d)) n:=(by rw[<- hseg];simp);have htk:List.take r.length (r.map isa)=r.map isa:=W0J (by simp);have k5:(r.map isa).all (λr=>r.length == 5)=true:=by simp[isa]
 have arB:∀ R':Run,AR prog R' (issB1 Z9d) ⟨[(4,.int .i64 (lowB (r.map (·.d)) n)),(2,.vptr [.int .i64 n] 0),(1,.vptr [bk] 0),(0,.func (.yield l) [] [])],[]⟩ (λe s=>e = .normal/\Ym s ⟨itS seg bk n l 0,[]⟩):=λR'=>by
  refine Qga ?_;simp -implicitDefEqProofs[issA,issB1,Z9s,Z9d,hbk,hle,k5,hdr];exact (by (first|exact Ym.tm (by simp[lk,itS,hsg,htk,hdr])|exact Ym.sub (by simp[lk,Ya,AV.keys,itS,hsg,htk,hdr]) (by simp[lk,Yc,Ya,AV.keys,itS,hsg,htk,hdr])))
 refine wpIn_seq (wpIn_mono (arA cA okA' _ _ W start) ?_);rintro e a1 W1 ⟨s1,⟨rfl,hw1⟩,hs1⟩;refine wpIn_seq (wpIn_mono (arB _ cB okB' _ a1 W1 (hw1 _ _ _ hs1)) ?_);rintro e a2 W2 ⟨s2,⟨rfl,hw2⟩,hs2⟩;obtain ⟨d2,n2,t2,e2⟩:=Z9l hs2 hw2 (by simp[itS,AV.pure,hbk]);have hJ2:=hJe _ _ _ _ h0 e2;clear hs2 hw2 hs1 hw1 arA arB start hact;refine wpIn_block ?_;refine wpIn_loop_ghost (λm a A=>∃ i M,i<=cnt/\m=seg.length-i/\J i M A/\a.defers=[]/\a.tmps.size=N/\TT' M A (itS seg bk n l i) a) seg.length ⟨0,M,W1e _,by simp,hJ2,d2,n2,t2⟩ ?_;clear hJ2 d2 n2 t2 e2 h0 hv1 hv2 hC;rintro m a A ⟨i,M,hi,rfl,hJ,hd,hn2,ht⟩;have hfr:SR (Z9j M A N none) ⟨itS seg bk n l i,[]⟩ a A:=Z9k (hJM i M A hJ) hd hn2 ht;by_cases hlt:i<seg.length
 case neg =>
  have hic:i=cnt:=(by omega);subst hic
  have ar:∀ R':Run,AR prog R' (issL Z9d) ⟨itS seg bk n l i,[]⟩ (λe s=>e = .exit 0/\Ym s ⟨[],[]⟩):=λR'=>by
   refine Qga ?_;simp -implicitDefEqProofs[issL,issB3,issB2,Z9s,Z9d,itS,hlt];exact (by (first|exact Wka|exact Wkb))
  refine wpIn_mono (ar _ c4 ok4 _ a A hfr) ?_;rintro e a3 A3 ⟨s3,⟨rfl,hw3⟩,hs3⟩;obtain ⟨d3,-,-,e3⟩:=Z9l hs3 hw3 (by simp);refine (hfin a3 A3 d3 (.inl ⟨M,?_⟩)).2;rw[hel];exact hJe _ _ _ _ hJ e3
 by_cases hd2:seg[i].d=n
 case neg =>
  have hic:i=cnt:=by
   by_cases e:i<cnt
   . exact absurd ((hc2 i e).2 _ (W07 hlt)) hd2
   . omega
  subst hic
  have ar:∀ R':Run,AR prog R' (issL Z9d) ⟨itS seg bk n l i,[]⟩ (λe s=>e = .ret/\Ym s ⟨[],[]⟩):=λR'=>by
   refine Qga ?_;simp -implicitDefEqProofs[issL,issB3,issB2,Z9s,Z9d,itS,hlt,isa,hd2];exact (by (first|exact Wka|exact Wkb))
  refine wpIn_mono (ar _ c4 ok4 _ a A hfr) ?_;rintro e a3 A3 ⟨s3,⟨rfl,hw3⟩,hs3⟩;obtain ⟨d3,-,-,e3⟩:=Z9l hs3 hw3 (by simp);refine (hfin a3 A3 d3 (.inl ⟨M,?_⟩)).1;rw[hel];exact hJe _ _ _ _ hJ e3
 have hic:i<cnt:=by
  by_cases e:i<cnt
  . exact e
  . exact absurd hd2 (hc3 _ (by rw[show cnt=i by omega];exact W07 hlt))
 have helt:(elsOf r n)[i]? = some (.agg (isa seg[i])):=by
  simp only[elsOf,W09,(hc2 i hic).1,W07 hlt,W0m]
 obtain ⟨L,hL⟩:=Qex (issL Z9d);obtain ⟨r2,q1,rfl,okr2,okq1⟩:=Z9e (a:=issA (issL Z9d)) (b:=Z9s (issL Z9d)) ok4;obtain ⟨k1,q2,rfl,okk1,okq2⟩:=Z9e (a:=issA (Z9s (issL Z9d))) (b:=Z9s (Z9s (issL Z9d))) okq1;obtain ⟨q3,r5,rfl,okq3,okr5⟩:=Z9e (a:=issA (Z9s (Z9s (issL Z9d)))) (b:=Z9s (Z9s (Z9s (issL Z9d)))) okq2;obtain ⟨q4,rfl,okq4⟩:=Z9f (id:=1) (a:=issBk (issA (Z9s (Z9s (issL Z9d))))) okq3;obtain ⟨r3,q5,rfl,okr3,okq5⟩:=Z9e (a:=issA (issBk (issA (Z9s (Z9s (issL Z9d)))))) (b:=Z9s (issBk (issA (Z9s (Z9s (issL Z9d)))))) okq4;obtain ⟨r4,k2,rfl,okr4,okk2⟩:=Z9e (a:=issA (Z9s (issBk (issA (Z9s (Z9s (issL Z9d))))))) (b:=Z9s (Z9s (issBk (issA (Z9s (Z9s (issL Z9d))))))) okq5;obtain ⟨ops,rfl,hops⟩:=Z9h (id:=4) (rs:=Z9t (issA (Z9s (issBk (issA (Z9s (Z9s (issL Z9d)))))))) okr4;obtain ⟨hol,hoo⟩:=Zc hops;have hol:ops.size=10:=hol
 have ar2:AR prog (Z9j M A N none) (issA (issL Z9d)) ⟨itS seg bk n l i,[]⟩ (λe s=>e = .normal/\Ym s ⟨(27,.bool true)::itS seg bk n l i,[]⟩):=by
  refine Qga ?_;simp -implicitDefEqProofs[issL,issB3,issB2,issA,Z9s,Z9d,itS,hlt];exact (by (first|exact Wka|exact Wkb))
 refine wpIn_seq (wpIn_mono (ar2 r2 okr2 _ a A hfr) ?_);rintro e b1 B1 ⟨s1,⟨rfl,w1⟩,hs1⟩
 have ark:AR prog (Z9j M A N none) (issA (Z9s (issL Z9d))) ⟨(27,.bool true)::itS seg bk n l i,[]⟩ (λe s=>e = .normal/\Ym s ⟨itS seg bk n l i,[]⟩):=by
  refine Qga ?_;simp -implicitDefEqProofs[issL,issB3,issB2,issA,Z9s,Z9d,itS];exact (by (first|exact Wka|exact Wkb))
 refine wpIn_seq (wpIn_mono (ark k1 okk1 _ b1 B1 (w1 _ _ _ hs1)) ?_);rintro e b2 B2 ⟨s2,⟨rfl,w2⟩,hs2⟩;refine wpIn_seq (wpIn_block ?_)
 have ar3:AR prog (Z9j M A N none) (issA (issBk (issA (Z9s (Z9s (issL Z9d)))))) ⟨itS seg bk n l i,[]⟩ (λe s=>e = .normal/\Ym s ⟨(7,.ptr 7 0)::itS seg bk n l i,[(7,.box (isa seg[i]))]⟩):=by
  refine Qga ?_;simp -implicitDefEqProofs[issL,issB3,issB2,issA,Z9s,issBk,Z9d,itS,hlt,isa];exact (by (first|exact Wka|exact Wkb))
 refine wpIn_seq (wpIn_mono (ar3 r3 okr3 _ b2 B2 (w2 _ _ _ hs2)) ?_);rintro e b3 B3 ⟨s3,⟨rfl,w3⟩,hs3⟩;have hs3:=w3 _ _ _ hs3;clear hs1 hs2 w1 w2 w3 ar2 ark ar3;refine wpIn_seq (wpIn_region ?_);have hrg:List.range ops.size=[0,1,2,3,4,5,6]++[7,8,9]:=(by rw[hol];rfl);rw[hrg]
 have okAt:∀ (k:Nat) (r:ROper),(Z9t (issA (Z9s (issBk (issA (Z9s (Z9s (issL Z9d))))))))[k]? = some r->∃ o,ops[k]? = some o/\Z1z prog N ops o r=true:=λk r hk=>by
  have hlt:k<ops.size:=by
   have:=(W02.1 hk).1;rw[hol];exact this
  exact ⟨ops[k],by simp[hlt],hoo k _ r (by simp[hlt]) hk⟩
 refine Z9i (R:=Z9j M A N none) [7,8,9] _ ((Z9t (issA (Z9s (issBk (issA (Z9s (Z9s (issL Z9d)))))))).take 7) ⟨(7,.ptr 7 0)::itS seg bk n l i,[(7,.box (isa seg[i]))]⟩
  (λs=>Ym s ⟨(36,.agg (isa seg[i]))::(35,.func (.yield l) [] [])::(34,.bool false)::itS seg bk n l i,[]⟩) b3 B3 ?_ rfl ?_ ?_ hs3
 . intro k r hk;rw[W1l]at hk
   split at hk
   . rename_i h7;obtain ⟨o,h1,h2⟩:=okAt k r hk;refine ⟨k,o,?_,h1,h2⟩
     match k,h7 with
     |0,_|1,_|2,_|3,_|4,_|5,_|6,_=>rfl
   . cases hk
 . intro s4 b4 B4 w4 hs4;obtain ⟨κ4,hk4⟩:=w4 _ _ _ hs4;obtain ⟨d4,n4,t4,e4⟩:=Z9l hs4 w4 (by simp[itS,AV.pure,hbk,isa]);obtain ⟨o7,ho7,hk7⟩:=okAt 7 _ rfl;rw[wpOpsIn_cons];refine Z9m (R:=Z9j M A N none) (l:=l) (f:=.t 35) (y:=.t 36) rfl (by simp[evA,St.tmp,lk]) (by simp[wants,St.tmp,lk]) ho7 hk7 hk4 λu hu=>?_
   have hpu:PV M B4 (.agg (isa seg[i])) u:=by
    have h36:evA (Z9j M A N none).G ⟨(36,.agg (isa seg[i]))::(35,.func (.yield l) [] [])::(34,.bool false)::itS seg bk n l i,[]⟩ (.t 36) = .agg (isa seg[i]):=(by simp[evA,St.tmp,lk]);rw[h36]at hu;exact (hu.toPV (by simp[AV.pure,isa])).mono (λb _ hb=>⟨λh=>hb (.inl h),rfl⟩) (W0f _)
   have hdst:o7.dst=some 37:=by
    simp only[Z1z,W01,W0b]at hk7;exact hk7.1.1.1
   have h34:b4.tmps.getD 34 Go.undef = .bool false:=by
    have:=t4 34 (.bool false) (by simp[lk]);generalize b4.tmps.getD 34 Go.undef=v at this
    cases this;rfl
   have suffix:∀ (b:Bool) (T:List (Nat×AV)) (M':Nat->Prop) (A':World),(T=itS seg bk n l i∨T=[])->(∀ x,M' x->x<A'.heap.size)->TT' M' A' T b4->∀ (Qx:Exit->Act->World->Prop),
     (∀ a5 A5,SR (Z9j M' A' N none) ⟨(39,.bool (!b))::T,[]⟩ a5 A5->Qx .normal a5 A5)->wpOpsIn (FW none) n' prog ops Qx [8,9] (b4.put (some 37) (.bool b)) A':=by
    intro b T M' A' hTT hM' hT Qx hQx;have n37:37<N:=by rw[hN];decide
    have hsr:SR (Z9j M' A' N none) ⟨(37,.bool b)::(34,.bool false)::T,[]⟩ (b4.put (some 37) (.bool b)) A':=by
     refine Z9k hM' d4 (by simpa [Act.put] using n4) λk x hx=>?_
     show PV M' A' x ((b4.tmps.setIfInBounds 37 (.bool b)).getD k Go.undef);simp only[lk]at hx
     split at hx
     . rename_i e;subst e
       cases hx
       have:(b4.tmps.setIfInBounds 37 (.bool b)).getD 37 Go.undef = .bool b:=(by simp[Array.getD,n4,n37]);rw[this];exact .bool b
     . rename_i e
       have h3:(b4.tmps.setIfInBounds 37 (.bool b)).getD k Go.undef=b4.tmps.getD k Go.undef:=by
        simp only[W0a,W0p,if_neg e]
       rw[h3]
       split at hx
       . rename_i e2;subst e2;cases hx;rw[h34];exact .bool false
       . exact hT k x hx
    refine Z27 (R:=Z9j M' A' N none) [8,9] ((Z9t (issA (Z9s (issBk (issA (Z9s (Z9s (issL Z9d)))))))).drop 8) ⟨(37,.bool b)::(34,.bool false)::T,[]⟩
     (λe s=>e = .normal/\Ym s ⟨(39,.bool (!b))::T,[]⟩) Qx _ A' ?_ rfl ?_ ?_ hsr
    . intro k r hk;rw[W13]at hk;obtain ⟨o,h1,h2⟩:=okAt (8+k) r hk
      have h7:k<2:=by
       have:=(W02.1 hk).1;have e:(Z9t (issA (Z9s (issBk (issA (Z9s (Z9s (issL Z9d)))))))).length=10:=rfl;omega
      refine ⟨8+k,o,?_,h1,h2⟩
      match k,h7 with
      |0,_|1,_=>rfl
    . rintro e s5 a5 A5 ⟨rfl,w5⟩ hs5;exact hQx a5 A5 (w5 _ _ _ hs5)
    . rcases hTT with rfl|rfl <;> cases b
      all_goals
       simp -implicitDefEqProofs[issL,issB3,issB2,issA,Z9s,issBk,Z9t,Z9d,itS];exact (by (first|exact Wka|exact Wkb))
   obtain ⟨fn,tm,asg,bo,y1,y2⟩:=hY i _ u M B4 (hJe _ _ _ _ hJ e4) helt hpu;refine ⟨fn,tm,asg,bo,y1,y2.mono ?_⟩;rintro e A' (⟨rfl,M',hJ',hSi⟩ | ⟨rfl,hK'⟩)
   . show wpOpsIn (FW none) n' prog ops _ [8,9] (b4.put o7.dst (.bool true)) A';rw[hdst]
     have hT':TT' M' A' (itS seg bk n l i) b4:=λk x hx=>by
      refine (t4 k x ?_).mono hSi.2 hSi.1;simp only[lk];rw[if_neg (by rintro rfl;simp[itS,lk]at hx),if_neg (by rintro rfl;simp[itS,lk]at hx),if_neg (by rintro rfl;simp[itS,lk]at hx)];exact hx
     refine suffix true _ M' A' (.inl rfl) (hJM _ _ _ hJ') hT' _ λa5 A5 h5=>?_
     have ark2:AR prog (Z9j M' A' N none) (Z9s (Z9s (issBk (issA (Z9s (Z9s (issL Z9d))))))) ⟨(39,.bool (!true))::itS seg bk n l i,[]⟩ (λe s=>e = .normal/\Ym s ⟨itS seg bk n l i,[]⟩):=by
      refine Qga ?_;simp -implicitDefEqProofs[issL,issB3,issB2,issA,Z9s,issBk,Z9d,itS];exact (by (first|exact Wka|exact Wkb))
     refine wpIn_mono (ark2 k2 okk2 _ a5 A5 h5) ?_;rintro e b6 B6 ⟨s6,⟨rfl,w6⟩,hs6⟩
     have ar5:AR prog (Z9j M' A' N none) (Z9s (Z9s (Z9s (issL Z9d)))) ⟨itS seg bk n l i,[]⟩ (λe s=>e = .normal/\Ym s ⟨itS seg bk n l (i+1),[]⟩):=by
      have w1:i64.wrap ((i:Int)+1)=((i+1:Nat):Int):=Yf;refine Qga ?_;simp -implicitDefEqProofs[issL,issB3,issB2,issA,Z9s,issBk,Z9d,itS,w1];exact (by (first|exact Wka|exact Wkb))
     refine wpIn_mono (ar5 r5 okr5 _ b6 B6 (w6 _ _ _ hs6)) ?_;rintro e b7 B7 ⟨s7,⟨rfl,w7⟩,hs7⟩;obtain ⟨d7,n7,t7,e7⟩:=Z9l hs7 w7 (by simp[itS,AV.pure,hbk]);exact ⟨seg.length-(i+1),by omega,i+1,M',by omega,rfl,hJe _ _ _ _ hJ' e7,d7,n7,t7⟩
   . show wpOpsIn (FW none) n' prog ops _ [8,9] (b4.put o7.dst (.bool false)) A';rw[hdst];refine suffix false [] (λ_=>False) A' (.inr rfl) (λ_ h=>h.elim) (λk x hx=>by simp[lk]at hx) _ λa5 A5 h5=>?_
     have ark2:AR prog (Z9j (λ_=>False) A' N none) (Z9s (Z9s (issBk (issA (Z9s (Z9s (issL Z9d))))))) ⟨[(39,.bool (!false))],[]⟩ (λe s=>e = .ret/\Ym s ⟨[],[]⟩):=by
      refine Qga ?_;simp -implicitDefEqProofs[issL,issB3,issB2,issA,Z9s,issBk,Z9d];exact (by (first|exact Wka|exact Wkb))
     refine wpIn_mono (ark2 k2 okk2 _ a5 A5 h5) ?_;rintro e b6 B6 ⟨s6,⟨rfl,w6⟩,hs6⟩;obtain ⟨d6,-,-,e6⟩:=Z9l hs6 w6 (by simp);exact (hfin b6 B6 d6 (.inr (hKe _ _ hK' e6))).1
 . simp -implicitDefEqProofs[issL,issB3,issB2,issA,Z9s,issBk,Z9t,Z9d,itS,isa,hd2];exact (by (first|exact Wka|exact Wkb))
def bkA (r:Jr) (ds:List Int):AV:=.vptr [.vsl (r.map isa),.vsl (ds.map ia)] 0
def Z9v (r:Jr) (ds:List Int):(bkA r ds).pure=true:=by simp[bkA,AV.pure]
attribute [simp] Z9v
def Z9w (r:Jr) (ds:List Int) (n:Int) (hs:ds.Pairwise (· <= ·)) (hl:Sml ds):PC prog G 77 [bkA r ds,.int .i64 n] (.bool (decide (n∈ds))):=by
 (refine Z73 rfl λR hG hrd=>Qga ?_;subst hG)
 simp -implicitDefEqProofs[Z71,Z72,bkA];refine Qco (Z9c ds n hs hl) ?_;simp -implicitDefEqProofs
def Z9x (r:Jr) (ds:List Int) (y:Int×Int) (hs:ds.Pairwise (· <= ·)) (hl:Sml ds):PC prog G 76 [.agg [.int .i64 y.1,.int .i64 y.2],.vptr [bkA r ds] 0] (.bool (!decide (y.1∈ds))):=by
 (refine Z70 rfl λR hG hrd=>Qga ?_;subst hG)
 simp -implicitDefEqProofs[Z6Y,Z6Z];refine Qco (Z9w r ds y.1 hs hl) ?_;simp -implicitDefEqProofs
def Z9y (r:Jr) (ds:List Int) (n:Int):PC prog G 78 [bkA r ds,.int .i64 n] (.func (.func 93) [] [.vptr [bkA r ds] 0,.vptr [.int .i64 n] 0]):=by
 (refine Z7o rfl λR hG hrd=>Qga ?_;subst hG)
 simp -implicitDefEqProofs[Z7m,Z7n,bkA]
def cntV (r:Jr) (n:Int):Int:=((r.filter (λx=>decide (x.d=n))).length:Nat)
def Z9z (r:Jr) (ds:List Int) (n:Int) (hs:(r.map (·.d)).Pairwise (· <= ·)) (hl:Sml r):PC prog G 63 [bkA r ds,.int .i64 n] (.int .i64 (cntV r n)):=by
 (refine Z7u rfl λR hG hrd=>Qga ?_;subst hG)
 simp -implicitDefEqProofs[Z7s,Z7t];refine Qco (Z9y r ds n) ?_;simp -implicitDefEqProofs;have hel:(elsOf r n).length=(r.filter (λx=>decide (x.d=n))).length:=(by simp[elsOf]);have hle:(r.filter (λx=>decide (x.d=n))).length<=16777216:=W0O (W0D _ _) hl;refine Z59 hrd (Z9u r n (.vsl (ds.map ia)) hs hl) (by simp[evA,St.tmp,lk,bkA]) (by simp[AV.pure]) (λk=>if k=1000 then 5 else k) [(5,.ptr 1000 0)] (λk=>[(1000,.box [.int .i64 k])]) [1000] (λ_=>True) trivial (λ_=>rfl) (by simp) (by simp) (by simp[Yl,St.set,putO,AObj.ren,AV.ren]) (by simp[Yc,Ya,AV.keys]) (by simp[lk,AV.ren,AV.keys]) ?_ ?_
 . intro k x hx _ R' hG hN;refine Qga ?_;simp -implicitDefEqProofs;intro R'' hG'' hN'';refine Qga ?_;have hk:k<(elsOf r n).length:=(W02.1 hx).1;have w1:i64.wrap ((k:Int)+1)=((k+1:Nat):Int):=Yf;simp -implicitDefEqProofs[w1,RndB,Yi,newK,frzO,frzA,frz,AV.keys]
 . intro _;simp -implicitDefEqProofs[Yl,AObj.ren,AV.ren];refine Qgr ?_;simp -implicitDefEqProofs[hel,cntV]
def Z9A (r:Jr) (ds:List Int) (d l:Int) (hs:(r.map (·.d)).Pairwise (· <= ·)) (hl:Sml r) (hu:∀ y∈r,findN y.d y.l r=some y):PC prog G 62 [bkA r ds,.agg [.int .i64 d,.int .i64 l]] (fndA (findN d l r)):=by
 (refine Z7x rfl λR hG hrd=>Qga ?_;subst hG)
 simp -implicitDefEqProofs[Z7v,Z7w];refine Qco (Z9y r ds d) ?_;simp -implicitDefEqProofs
 refine Z59 hrd (Z9u r d (.vsl (ds.map ia)) hs hl) (by simp[evA,St.tmp,lk,bkA]) (by simp[AV.pure]) (λk=>k-1000) [(3,.ptr 1003 0),(4,.ptr 1004 0),(5,.ptr 1005 0)] (λ_=>[(1003,.box [.int .i64 d,.int .i64 l]),(1004,.box [.int .i64 0,.int .i64 0,.int .u8 0,.nils,.nils]),(1005,.box [.bool false])])
  [1003,1004,1005] (λk=>∀ j,j<k->∀ y,(r.filter (λx=>decide (x.d=d)))[j]? = some y->y.l≠l) (by simp) (λ_=>rfl) (by simp) (by simp) (by simp[Yl,St.set,putO,AObj.ren,AV.ren]) (by simp[Yc,Ya,AV.keys]) (by simp[lk,AV.ren,AV.keys]) ?_ ?_
 . intro k x hx hI R' hG hN
   obtain ⟨y,hy,rfl⟩ : ∃ y,(r.filter (λx=>decide (x.d=d)))[k]? = some y/\x = .agg (isa y):=by
    simp only[elsOf,W09,W04]at hx;obtain ⟨y,h1,h2⟩:=hx;exact ⟨y,h1,h2.symm⟩
   have hym:=W0G.1 (W0d hy);have hyd:y.d=d:=W0X hym.2;refine Qga ?_;simp -implicitDefEqProofs[isa];intro R'' hG'' hN'';refine Qga ?_;simp -implicitDefEqProofs;refine Qco (Z8X y) ?_;simp -implicitDefEqProofs;refine ⟨rfl,?_⟩;by_cases e:y.l=l
   . simp -implicitDefEqProofs[hyd,e,RndB,Yi,newK,frzO,frzA,frz,AV.keys,Yl,AObj.ren,AV.ren];refine Qgr ?_
     have hf:findN d l r=some y:=by
      have:=hu y hym.1;rw[hyd,e]at this;exact this
     simp -implicitDefEqProofs[hf,fndA,isa,hyd,e]
   . simp -implicitDefEqProofs[hyd,e,RndB,Yi,newK,frzO,frzA,frz,AV.keys];intro j hj z hz;by_cases e2:j=k
     . subst e2;rw[hy]at hz;cases hz;exact e
     . exact hI j (by omega) z hz
 . intro hI
   have hn:findN d l r=none:=by
    cases hf:findN d l r with
    |none=>rfl
    | some y =>
      obtain ⟨h1,h2,h3⟩:=Z8I hf;obtain ⟨j,hj,he⟩:=W0k (show y∈r.filter (λx=>decide (x.d=d)) from W0G.2 ⟨h1,W0M h2⟩);exact absurd h3 (hI j (by simp[elsOf];exact hj) y (by rw[W07 hj,he]))
   simp -implicitDefEqProofs[Yl,AObj.ren,AV.ren];refine Qgr ?_;simp -implicitDefEqProofs[hn,fndA,noIs]
def dpA (dp:List (Int×Int)):List (AV×AV):=dp.map λp=>(.int .i64 p.1,.int .i64 p.2)
def lfA (lf:List Int):List (AV×AV):=lf.map λn=>(.int .i64 n,.bool true)
def dpLk (n:Int):List (Int×Int)->Option Int
 |[]=>none
 |p::r=>if n=p.1 then some p.2 else dpLk n r
def dpG (dp:List (Int×Int)) (n:Int):Int:=(dpLk n dp).getD 0
def Z9B (n:Int):∀ dp:List (Int×Int),∃ o:Option Nat,(KK.i .i64).find (.int .i64 n) (dpA dp)=some o/\match o with
  |some j=>∃ v,dp[j]? = some (n,v)/\dpLk n dp=some v
  |none=>dpLk n dp=none/\∀ p∈dp,p.1≠n
 |[]=>⟨none,rfl,rfl,by simp⟩
 | p :: r=>by
   obtain ⟨o,h1,h2⟩:=Z9B n r;by_cases e:n=p.1
   . refine ⟨some 0,by simp[dpA,KK.find,KK.eq,e],p.2,by simp[e],by simp[dpLk,e]⟩
   . refine ⟨o.map (· + 1),?_,?_⟩
     . simp only[dpA,W0F,KK.find,KK.eq,and_self,if_true,e,W1u];rw[show r.map (λp=>(AV.int .i64 p.1,AV.int .i64 p.2))=dpA r from rfl,h1];rfl
     . cases o with
       |none=>exact ⟨by simp only[dpLk,e,if_false];exact h2.1,λq hq=>by
        rcases W0g.1 hq with rfl|hq
        . exact λh=>e h.symm
        . exact h2.2 q hq⟩
       | some j =>
         obtain ⟨v,h3,h4⟩:=h2;exact ⟨v,by simpa using h3,by simp only[dpLk,e,if_false];exact h4⟩
def Z9C (n:Int) (dp:List (Int×Int)):(KK.i .i64).get (.int .i64 n) (dpA dp)=some ((dpLk n dp).map λv=>.int .i64 v):=by
 obtain ⟨o,h1,h2⟩:=Z9B n dp;have hi:(KK.i .i64).is (.int .i64 n)=true:=(by simp[KK.is]);unfold KK.get;rw[if_pos hi,h1]
 cases o with
 |none=>simp[h2.1]
 |some j=>obtain ⟨v,h3,h4⟩:=h2;simp[dpA,h3,h4]
def Z9D {n:Int} (v:Int) {dp:List (Int×Int)} (h:n ∉ dp.map (·.1)):(KK.i .i64).put (.int .i64 n) (.int .i64 v) (dpA dp)=some (dpA (dp++[(n,v)])):=by
 obtain ⟨o,h1,h2⟩:=Z9B n dp;have hi:(KK.i .i64).is (.int .i64 n)=true:=(by simp[KK.is]);unfold KK.put;rw[if_pos hi,h1]
 cases o with
 |none=>simp[dpA]
 | some j =>
   obtain ⟨w,h3,h4⟩:=h2;exact absurd (W0i.2 ⟨_,W0d h3,rfl⟩) h
def Z9E (n:Int):∀ lf:List Int,∃ o:Option Nat,(KK.i .i64).find (.int .i64 n) (lfA lf)=some o/\match o with
  |some j=>lf[j]? = some n/\n∈lf/\lf.eraseIdx j=lf.erase n
  |none=>n ∉ lf
 |[]=>⟨none,rfl,by simp⟩
 | x :: r=>by
   obtain ⟨o,h1,h2⟩:=Z9E n r;by_cases e:n=x
   . subst e;exact ⟨some 0,by simp[lfA,KK.find,KK.eq],by simp⟩
   . refine ⟨o.map (· + 1),?_,?_⟩
     . simp only[lfA,W0F,KK.find,KK.eq,and_self,if_true,e,W1u];rw[show r.map (λn=>(AV.int .i64 n,AV.bool true))=lfA r from rfl,h1];rfl
     . cases o with
       |none=>simp only[Option.map_none,W0g,not_or];exact ⟨e,h2⟩
       | some j =>
         obtain ⟨h3,h4,h5⟩:=h2;refine ⟨by simpa using h3,W0z _ h4,?_⟩;simp only[List.eraseIdx_cons_succ,h5];rw[List.erase_cons_tail];simpa using λq=>e q.symm
def Z9F (n:Int) (lf:List Int):(KK.i .i64).get (.int .i64 n) (lfA lf)=some (if n∈lf then some (.bool true) else none):=by
 obtain ⟨o,h1,h2⟩:=Z9E n lf;have hi:(KK.i .i64).is (.int .i64 n)=true:=(by simp[KK.is]);unfold KK.get;rw[if_pos hi,h1]
 cases o with
 | none => have h2:n ∉ lf:=h2
           simp[h2]
 |some j=>obtain ⟨h3,h4,h5⟩:=h2;simp[lfA,h3,h4]
def Z9G {n:Int} {lf:List Int} (h:n ∉ lf):(KK.i .i64).put (.int .i64 n) (.bool true) (lfA lf)=some (lfA (lf++[n])):=by
 obtain ⟨o,h1,h2⟩:=Z9E n lf;have hi:(KK.i .i64).is (.int .i64 n)=true:=(by simp[KK.is]);unfold KK.put;rw[if_pos hi,h1]
 cases o with
 |none=>simp[lfA]
 |some j=>exact absurd h2.2.1 h
def Z9H {α β:Type} (f:α->β):∀ (l:List α) (j:Nat),(l.map f).eraseIdx j=(l.eraseIdx j).map f
 |[],_=>by simp
 |x::l,0=>by simp
 |x::l,j+1=>by simp[Z9H f l j]
def Z9I {n:Int} {lf:List Int} (h:n∈lf):(KK.i .i64).del (.int .i64 n) (lfA lf)=some (lfA (lf.erase n)):=by
 obtain ⟨o,h1,h2⟩:=Z9E n lf;have hi:(KK.i .i64).is (.int .i64 n)=true:=(by simp[KK.is]);unfold KK.del;rw[if_pos hi,h1]
 cases o with
 |none=>exact absurd h h2
 | some j =>
   obtain ⟨h3,h4,h5⟩:=h2;simp only[lfA,<- h5];rw[Z9H]
def rdIt (lf:List Int) (b:Bool) (its:List (Int×Int)):Bool:=its.foldl (λb y=>b && !decide (y.1∈lf)) b
def msIt (dp:List (Int×Int)) (m:Int) (its:List (Int×Int)):Int:=its.foldl (λm y=>max m (dpG dp y.1)) m
def rdN (lf:List Int) (b:Bool) (l:Jr):Bool:=l.foldl (λb x=>rdIt lf b x.its) b
def msN (dp:List (Int×Int)) (m:Int) (l:Jr):Int:=l.foldl (λm x=>msIt dp m x.its) m
def issOf (r:Jr) (n:Int):List Iss:=r.filter (λx=>decide (x.d=n))
def dStep (r:Jr) (s:List (Int×Int)×List Int) (n:Int):List (Int×Int)×List Int :=
 if rdN s.2 (decide (n∈s.2)) (issOf r n)=true then (s.1++[(n,msN s.1 0 (issOf r n)+1)],s.2.erase n) else s
def dPass (r:Jr) (s:List (Int×Int)×List Int):List (Int×Int)×List Int:=(nums r).foldl (dStep r) s
def dRun (r:Jr):Nat->List (Int×Int)×List Int
 |0=>([],nums r)
 |k+1=>dPass r (dRun r k)
def Z9J (lf:List Int) (b:Bool) (its:List (Int×Int)) (k:Nat) (h:k<its.length):rdIt lf b (its.take (k+1))=(rdIt lf b (its.take k) && !decide (its[k].1∈lf)):=by
 rw[W08 h,rdIt,W1p];rfl
def Z9K (dp:List (Int×Int)) (m:Int) (its:List (Int×Int)) (k:Nat) (h:k<its.length):msIt dp m (its.take (k+1))=max (msIt dp m (its.take k)) (dpG dp its[k].1):=by
 rw[W08 h,msIt,W1p];rfl
def Z9L (lf:List Int) (b:Bool) (l:Jr) (k:Nat) (h:k<l.length):rdN lf b (l.take (k+1))=rdIt lf (rdN lf b (l.take k)) l[k].its:=by
 rw[W08 h,rdN,W1p];rfl
def Z9M (dp:List (Int×Int)) (m:Int) (l:Jr) (k:Nat) (h:k<l.length):msN dp m (l.take (k+1))=msIt dp (msN dp m (l.take k)) l[k].its:=by
 rw[W08 h,msN,W1p];rfl
def Z9N (lf:List Int):∀ its:List (Int×Int),rdIt lf false its=false
 |[]=>rfl
 |y::its=>by simp only[rdIt,W21,W1F];exact Z9N lf its
def Z9O (lf:List Int):∀ l:List Iss,rdN lf false l=false
 |[]=>rfl
 |x::l=>by simp only[rdN,W21,Z9N];exact Z9O lf l
def Z9P {lf:List Int} {n:Int} {l:Jr} (h:rdN lf (decide (n∈lf)) l=true):n∈lf:=by
 by_cases e:n∈lf
 . exact e
 . rw[W0S e,Z9O]at h;cases h
structure DInv (r:Jr) (s:List (Int×Int)×List Int):Prop where
 perm:(s.1.map (·.1)++s.2).Perm (nums r)
 bd:∀ p∈s.1,1<=p.2/\p.2<=(s.1.length:Nat)
def Z9Q {n v:Int}:∀ {dp:List (Int×Int)},dpLk n dp=some v->(n,v)∈dp
 | p::r,h=>by
   simp only[dpLk]at h
   split at h
   . rename_i e;cases h;rw[e];exact W0H ..
   . exact W0z _ (Z9Q h)
def Z9R {r:Jr} {s:List (Int×Int)×List Int} (h:DInv r s) (n:Int):0<=dpG s.1 n/\dpG s.1 n<=(s.1.length:Nat):=by
 unfold dpG
 cases e:dpLk n s.1 with
 |none=>simp
 |some v=>have:=h.bd _ (Z9Q e);simp only[W0P];omega
def Z9S {r:Jr} {s:List (Int×Int)×List Int} (h:DInv r s):∀ (its:List (Int×Int)) (m:Int),0<=m->m<=(s.1.length:Nat)->0<=msIt s.1 m its/\msIt s.1 m its<=(s.1.length:Nat)
 |[],m,h1,h2=>⟨h1,h2⟩
 | y::its,m,h1,h2=>by
   have:=Z9R h y.1;exact Z9S h its (max m (dpG s.1 y.1)) (by omega) (by omega)
def Z9T {r:Jr} {s:List (Int×Int)×List Int} (h:DInv r s):∀ (l:Jr) (m:Int),0<=m->m<=(s.1.length:Nat)->0<=msN s.1 m l/\msN s.1 m l<=(s.1.length:Nat)
 |[],m,h1,h2=>⟨h1,h2⟩
 | x::l,m,h1,h2=>by
   have:=Z9S h x.its m h1 h2;exact Z9T h l (msIt s.1 m x.its) this.1 this.2
def DInv.len {r:Jr} {s:List (Int×Int)×List Int} (h:DInv r s):s.1.length+s.2.length=(nums r).length:=by
 have:=h.perm.length_eq;simpa using this
def DInv.step {r:Jr} {s:List (Int×Int)×List Int} (h:DInv r s) (n:Int):DInv r (dStep r s n):=by
 unfold dStep
 split
 . rename_i hb;have hm:=Z9P hb;have hbd:=Z9T h (issOf r n) 0 (W1R _) (by omega);refine ⟨?_,λp hp=>?_⟩
   . refine List.Perm.trans ?_ h.perm;simp only[W0r,W0F,W1c,W0U,W1d,W18];exact (List.perm_cons_erase hm).symm.append_left _
   . simp only[W0s,W1o,W1N];rcases W0h.1 hp with hp|hp
     . have:=h.bd p hp;omega
     . simp only[W0B]at hp;subst hp;simp only;omega
 . exact h
def DInv.fold {r:Jr}:∀ (l:List Int) {s:List (Int×Int)×List Int},DInv r s->DInv r (l.foldl (dStep r) s)
 |[],s,h=>h
 |n::l,s,h=>DInv.fold l (h.step n)
def DInv.run (r:Jr):∀ k,DInv r (dRun r k)
 |0=>⟨by simp[dRun],by simp[dRun]⟩
 |k+1=>(DInv.run r k).fold (nums r)
def Z9U {α β:Type} (f:β->α->β) (s:β) (l:List α) (k:Nat) (h:k<l.length):(l.take (k+1)).foldl f s=f ((l.take k).foldl f s) l[k]:=by
 rw[W08 h,W1p];rfl
end Go.Proofs.YthlcppdbldkldaaDoor
