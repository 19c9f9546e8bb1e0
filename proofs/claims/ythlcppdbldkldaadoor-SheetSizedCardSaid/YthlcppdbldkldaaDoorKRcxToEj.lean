/-
  The abstract machine's code of functions of the program, as a program of ours printed it; that it is theirs is proved beside each.
-/
import Derived.Test.YthlcppdbldkldaaDoorKAmLToAmR
import Derived.Test.YthlcppdbldkldaaDoorProg
import Derived.IntWalk
set_option linter.all false
set_option maxHeartbeats 8000000
namespace Go.Proofs.YthlcppdbldkldaaDoor
open Tryd (prog)
open IntKind (i64)
open Go.RowKit
variable {G:Jg}
section
open Qq Tryd
def Z5B:RCode :=
 S [r 0 [b 3 0,b 5 2,n 6 (.bool false)],r 1 [c 16 14 [],m 7 16],S [r 2 [L 17 1 3,c 18 15 [17],t 19 18,m 20 19,g 20 false (m 21 7),g 20 false (t 22 21),u 23 20 22],K 23 3 [m 24 7,m 6 24]],S [r 4 [f 25 0 3,l 26 25,e 27 26,n 28 O],.block 0 (.loop (S [r 5 [o 29 .lss 28 27],.cond (.t 29) .skip (.exit 0),.block 1 (S [r 6 [i 30 5 26 28,L 31 5 30,w 9 (.alloc [O,O,.int .u8 0,.nils,.nils]),s 5 9 31],r 7 [f 32 4 9,l 33 32,e 34 33,n 35 O],.block 2 (.loop (S [r 8 [o 36 .lss 35 34],.cond (.t 36) .skip (.exit 2),.block 3 (S [r 9 [i 37 3 33 35,L 38 3 37,w 11 (.alloc [O,O,O]),s 3 11 38],r 10 [L 39 3 11,c 40 16 [39],k 41 .neq 40 O,m 42 41,g 42 false (f 43 2 9),g 42 false (l 44 43),g 42 false (k 45 .eql 44 (.int .u8 1)),u 46 42 45],K 46 11 [n 6 (.bool false)]]),r 12 [k 47 .add 35 I,m 35 47]]))]),r 13 [k 48 .add 28 I,m 28 48]]))],r 14 [L 49 1 3,c 50 7 [49],w 12 (.alloc [.nils]),s 1 12 50],R 15 [f 51 0 12,a [0] (l 52 51),m 53 1,a [2] (w 54 (.conv .i64 (.t 53))),f 55 0 12,a [4] (l 56 55),a [5] (e 57 56),a [3,6] (o 58 .rem 54 57),a [1,7] (i 59 5 52 58),a [8,0,1,2,3,4,5,6,7,8] (m 13 59)],R 16 [m 60 13,m 61 13,a [1] (w 62 (.nilck (.t 61))),a [2] (f 63 4 62),a [3] (l 64 63),L 65 3 5,a [5] (w 66 (.bsl false 3 1 [O,O,O] [(0,.t 65)])),a [4,6] (w 67 (.app 3 24 (.t 64) (.t 66))),a [0,0,1,2,3,4,5,6,7] (w 68 (.nilck (.t 60))),a [8,0,1,2,3,4,5,6,7] (f 69 4 68),a [9,7,7,0,1,2,3,4,5,6,7] (s 1 69 67)],r 17 [L 70 3 5,c 71 16 [70],k 72 .eql 71 O,m 73 72,g 73 true (m 74 13),g 73 true (w 75 (.nilck (.t 74))),g 73 true (f 76 2 75),g 73 true (l 77 76),g 73 true (k 78 .neq 77 (.int .u8 1)),v 79 73 78,m 80 79,g 80 true (m 81 13),g 80 true (w 82 (.nilck (.t 81))),g 80 true (f 83 4 82),g 80 true (l 84 83),g 80 true (e 85 84),g 80 true (k 86 .leq 85 (.int .i64 4)),v 87 80 86,m 14 87],r 18 [n 15 O],S [r 19 [m 88 14,t 89 88],.cond (.t 89) (r 20 [n 15 (.int .i64 20)]) .skip],r 21 [m 90 7,m 91 90,g 91 true (L 92 1 12),g 91 true (c 93 17 [92]),g 91 true (m 94 15),g 91 true (o 95 .eql 93 94),v 96 91 95,m 6 96],.ret]
def Z5C:List RRes:=[.t 6]
def Z5D:PCt prog 4 f4 Z5B Z5C:=pcT func4 rfl
end
section
open Qq Tryd
noncomputable def Z5E:RCode :=
 S [r 0 [b 1 0,n 2 .nilp,n 3 O],.scope (S [r 1 [L 16 1 1,w 17 (.build [.nils,.nils] [(0,1,.t 16)]),b 18 17,w 4 (.alloc [.nilp]),s 1 4 18],S [r 2 [f 19 0 1,l 20 19,e 21 20,w 22 (.bsl false 1 1 [O] [(0,.t 21)]),w 23 (.call 74 [.c I,.c (.int .i64 60),.t 22]),t 24 23],K 24 3 [n 2 .nilp,n 3 (.int .i64 20)]],(.label 0),S [r 4 [f 25 0 1,l 26 25,e 27 26,n 28 O],.block 0 (.loop (S [r 5 [o 29 .lss 28 27],.cond (.t 29) .skip (.exit 0),.block 1 (S [r 6 [m 30 28,i 31 5 26 28,L 32 5 31,w 6 (.alloc [O,O,.int .u8 0,.nils,.nils]),m 5 30,s 5 6 32],S [r 7 [w 33 (.load true 4 (.g 0)),n 34 O],.block 2 (.loop (S [r 8 [k 35 .lss 34 (.int .i64 4)],.cond (.t 35) .skip (.exit 2),.block 3 (S [r 9 [w 36 (.vop (.aidx true 4 1) [(.t 33),(.t 34)]),w 8 (.alloc [.nilf]),s 1 8 36],r 10 [f 37 0 8,l 38 37,L 39 5 6,w 40 (.callv (.t 38) [.t 39]),t 41 40],K 41 11 [n 2 .nilp,n 3 (.int .i64 20)]]),r 12 [k 42 .add 34 I,m 34 42]]))],S [r 13 [m 43 5,k 44 .gtr 43 O],.cond (.t 44) (S [r 14 [f 45 0 1,l 46 45,m 47 5,k 48 .sub 47 I,i 49 5 46 48,L 50 5 49,w 9 (.alloc [O,O,.int .u8 0,.nils,.nils]),s 5 9 50],r 15 [f 51 0 9,l 52 51,f 53 0 6,l 54 53,o 55 .eql 52 54],.cond (.t 55) (S [S [r 16 [f 56 1 9,l 57 56,k 58 .add 57 I,f 59 1 6,l 60 59,o 61 .neq 58 60,m 62 61,g 62 false (f 63 2 9),g 62 false (l 64 63),g 62 false (f 65 2 6),g 62 false (l 66 65),g 62 false (o 67 .neq 64 66),u 68 62 67],K 68 17 [n 2 .nilp,n 3 (.int .i64 20)]],.exit 1]) (S [r 18 [f 69 0 9,l 70 69,f 71 0 6,l 72 71,o 73 .gtr 70 72],K 73 19 [n 2 .nilp,n 3 (.int .i64 20)]])]) .skip],S [r 20 [f 74 1 6,l 75 74,k 76 .neq 75 I],K 76 21 [n 2 .nilp,n 3 (.int .i64 20)]],R 22 [l 77 4,l 78 4,a [1] (w 79 (.nilck (.t 78))),a [2] (f 80 1 79),a [3] (l 81 80),f 82 0 6,a [5] (l 83 82),a [6] (w 84 (.bsl false 1 1 [O] [(0,.t 83)])),a [4,7] (w 85 (.app 1 8 (.t 81) (.t 84))),a [0,0,1,2,3,4,5,6,7,8] (w 86 (.nilck (.t 77))),a [9,0,1,2,3,4,5,6,7,8] (f 87 1 86),a [10,8,8,0,1,2,3,4,5,6,7,8] (s 1 87 85)]]),r 23 [k 88 .add 28 I,m 28 88]]))],S [r 24 [l 89 4,w 90 (.nilck (.t 89)),f 91 1 90,l 92 91,e 93 92,k 94 .gtr 93 (.int .i64 20)],K 94 25 [n 2 .nilp,n 3 (.int .i64 20)]],S [r 26 [f 95 0 1,l 96 95,e 97 96,n 98 O],.block 4 (.loop (S [r 27 [o 99 .lss 98 97],.cond (.t 99) .skip (.exit 4),.block 5 (S [r 28 [i 100 5 96 98,L 101 5 100,w 11 (.alloc [O,O,.int .u8 0,.nils,.nils]),s 5 11 101],r 29 [f 102 3 11,l 103 102,w 104 (.mkf (.func 76) [] [.t 4]),c 105 75 [103,104]],K 105 30 [n 2 .nilp,n 3 (.int .i64 20)]]),r 31 [k 106 .add 98 I,m 98 106]]))],r 32 [l 108 4,c 109 59 [108],m 107 109,x 110 0 107,x 111 1 107,m 12 110,m 13 111],S [r 33 [m 112 13],K 112 34 [n 2 .nilp,n 3 (.int .i64 21)]],(.raw (opnR prog)),r 40 [l 121 4,m 2 121,n 3 O],.ret])]
def Z5F:List RRes:=[.t 2,.t 3]
def Z5G:PCt prog 53 f53 Z5E Z5F:=pcT func53 rfl
end
section
open Qq Tryd
def Z5H:RCode :=
 S [r 0 [b 3 0,b 4 1,n 6 (.bool false)],r 1 [m 7 2,w 8 (.mkf (.func 73) [] [.t 3,.t 4]),c 9 72 [7,8],t 10 9,m 6 10],.ret]
def Z5I:List RRes:=[.t 6]
def Z5J:PCt prog 52 f52 Z5H Z5I:=pcT func52 rfl
def Z5K:RCode :=
 S [r 0 [n 4 (.bool false)],r 1 [m 5 0,l 6 1,o 7 .lss 5 6,m 8 7,g 8 false (m 9 0),g 8 false (l 10 2),g 8 false (o 11 .gtr 9 10),u 12 8 11,m 4 12],.ret]
def Z5L:List RRes:=[.t 4]
def Z5M:PCt prog 73 f73 Z5K Z5L:=pcT func73 rfl
def Z5N:RCode :=
 S [r 0 [n 4 (.bool false)],r 1 [m 5 0,m 6 1,c 7 89 [5,6],k 8 .geq 7 O,m 4 8],.ret]
def Z5O:List RRes:=[.t 4]
def Z5P:PCt prog 72 f72 Z5N Z5O:=pcT func72 rfl
def Z5Q:RCode :=
 S [r 0 [n 4 O],S [r 1 [m 6 0,e 7 6,n 8 O],.block 0 (.loop (S [r 2 [o 9 .lss 8 7],.cond (.t 9) .skip (.exit 0),.block 1 (S [r 3 [m 10 8,m 5 10],r 4 [m 11 1,m 12 0,m 13 5,i 14 1 12 13,l 15 14,w 16 (.callv (.t 11) [.t 15])],K 16 5 [m 17 5,m 4 17]]),r 6 [k 18 .add 8 I,m 8 18]]))],r 7 [n 4 (.int .i64 (-1))],.ret]
def Z5R:List RRes:=[.t 4]
def Z5S:PCt prog 89 f89 Z5Q Z5R:=pcT func89 rfl
def Z5T:RCode :=
 S [r 0 [b 1 0,n 2 O],S [r 1 [f 3 0 1,l 4 3,f 5 1 1,l 6 5,f 7 2 1,l 8 7,w 9 (.bsl false 1 3 [O,O,O] [(0,.t 4),(1,.t 6),(2,.t 8)]),w 10 (.call 52 [.c O,.c (.int .i64 1000000000),.t 9]),t 11 10,m 12 11,g 12 false (f 13 1 1),g 12 false (l 14 13),g 12 false (f 15 2 1),g 12 false (l 16 15),g 12 false (o 17 .gtr 14 16),u 18 12 17],K 18 2 [n 2 (.int .i64 10)]],r 3 [n 2 O],.ret]
def Z5U:List RRes:=[.t 2]
def Z5V:PCt prog 16 f16 Z5T Z5U:=pcT func16 rfl
def Z5W:RCode :=
 S [r 0 [b 3 0,b 4 1,n 6 (.bool false)],r 1 [m 7 2,w 8 (.mkf (.func 90) [] [.t 3,.t 4]),c 9 72 [7,8],t 10 9,m 6 10],.ret]
def Z5X:List RRes:=[.t 6]
def Z5Y:PCt prog 74 f74 Z5W Z5X:=pcT func74 rfl
def Z5Z:RCode :=
 S [r 0 [n 4 (.bool false)],r 1 [m 5 0,l 6 1,o 7 .lss 5 6,m 8 7,g 8 false (m 9 0),g 8 false (l 10 2),g 8 false (o 11 .gtr 9 10),u 12 8 11,m 4 12],.ret]
def Z60:List RRes:=[.t 4]
def Z61:PCt prog 90 f90 Z5Z Z60:=pcT func90 rfl
def Z62:RCode :=
 S [r 0 [b 1 0,w 2 (.alloc [O,O])],r 1 [f 3 0 1,l 4 3,f 5 1 1,l 6 5,w 7 (.build [O,O] [(0,1,.t 4),(1,1,.t 6)]),s 2 2 7],.ret]
def Z63:List RRes:=[.c 2 true 2]
def Z64:PCt prog 43 f43 Z62 Z63:=pcT func43 rfl
def Z65:RCode :=
 S [r 0 [b 1 0,n 2 (.bool false)],r 1 [f 3 0 1,l 4 3,w 5 (.bsl false 1 1 [O] [(0,.t 4)]),w 6 (.call 74 [.c I,.c (.int .i64 9999),.t 5]),m 7 6,g 7 true (f 8 1 1),g 7 true (l 9 8),g 7 true (w 10 (.bsl false 1 1 [O] [(0,.t 9)])),g 7 true (w 11 (.call 74 [.c I,.c (.int .i64 8),.t 10])),v 12 7 11,m 2 12],.ret]
def Z66:List RRes:=[.t 2]
def Z67:PCt prog 122 f122 Z65 Z66:=pcT func122 rfl
def Z68:RCode :=
 S [r 0 [b 1 0,n 2 (.bool false)],S [r 1 [f 3 2 1,l 4 3,k 5 .eql 4 (.int .u8 1)],K 5 2 [f 6 3 1,l 7 6,e 8 7,w 9 (.bsl false 1 1 [O] [(0,.t 8)]),w 10 (.call 74 [.c I,.c (.int .i64 8),.t 9]),m 11 10,g 11 true (f 12 4 1),g 11 true (l 13 12),g 11 true (e 14 13),g 11 true (k 15 .eql 14 O),v 16 11 15,m 2 16]],r 3 [f 17 2 1,l 18 17,w 19 (.conv .i64 (.t 18)),w 20 (.bsl false 1 1 [O] [(0,.t 19)]),w 21 (.call 74 [.c (.int .i64 2),.c (.int .i64 3),.t 20]),m 22 21,g 22 true (f 23 4 1),g 22 true (l 24 23),g 22 true (e 25 24),g 22 true (k 26 .leq 25 (.int .i64 4)),v 27 22 26,m 28 27,g 28 true (f 29 3 1),g 28 true (l 30 29),g 28 true (e 31 30),g 28 true (k 32 .eql 31 O),v 33 28 32,m 2 33],.ret]
def Z69:List RRes:=[.t 2]
def Z6a:PCt prog 123 f123 Z68 Z69:=pcT func123 rfl
def Z6b:RCode :=
 S [r 0 [b 1 0,n 2 (.bool false)],S [r 1 [f 5 3 1,l 6 5,e 7 6,n 8 O],.block 0 (.loop (S [r 2 [o 9 .lss 8 7],.cond (.t 9) .skip (.exit 0),.block 1 (S [r 3 [m 10 8,i 11 2 6 8,L 12 2 11,w 4 (.alloc [O,O]),m 3 10,s 2 4 12],R 4 [f 13 0 4,a [0] (l 14 13),a [1] (w 15 (.bsl false 1 1 [O] [(0,.t 14)])),a [2] (w 16 (.call 74 [.c I,.c (.int .i64 9999),.t 15])),a [3] (t 17 16),a [4,3] (m 18 17),a [5] (g 18 false (f 19 1 4)),a [6,5] (g 18 false (l 20 19)),a [7,5] (g 18 false (w 21 (.bsl false 1 1 [O] [(0,.t 20)]))),a [8,5,5] (g 18 false (w 22 (.call 74 [.c I,.c (.int .i64 20),.t 21]))),a [9,5] (g 18 false (t 23 22)),a [5,10] (u 24 18 23),a [11,9] (m 25 24),a [12] (g 25 false (f 26 0 4)),a [13,12] (g 25 false (l 27 26)),a [12] (g 25 false (f 28 0 1)),a [15,12] (g 25 false (l 29 28)),a [14,16,12] (g 25 false (o 30 .eql 27 29)),a [12,17] (u 31 25 30),a [18,12] (m 32 31),a [19] (g 32 false (m 33 3)),a [20,19] (g 32 false (k 34 .gtr 33 O)),a [21,19,19] (g 32 false (m 35 34)),a [22] (g 35 true (f 36 3 1)),a [23,22] (g 35 true (l 37 36)),a [22] (g 35 true (m 38 3)),a [25,22] (g 35 true (k 39 .sub 38 I)),a [24,26,22] (g 35 true (i 40 2 37 39)),a [27,22] (g 35 true (f 41 0 40)),a [28,22] (g 35 true (l 42 41)),a [22] (g 35 true (f 43 0 4)),a [30,22] (g 35 true (l 44 43)),a [29,31,22] (g 35 true (o 45 .geq 42 44)),a [22,32,19] (g 32 false (v 46 35 45)),a [19,33] (u 47 32 46)],K 47 5 [n 2 (.bool false)]]),r 6 [k 48 .add 8 I,m 8 48]]))],r 7 [n 2 (.bool true)],.ret]
def Z6c:List RRes:=[.t 2]
def Z6d:PCt prog 124 f124 Z6b Z6c:=pcT func124 rfl
def Z6e:RCode :=
 S [r 0 [b 1 0,n 2 (.bool false)],r 1 [f 3 4 1,l 4 3,w 5 (.call 126 [.t 4,.c (.func (.func 127) [] [])]),t 6 5,m 2 6],.ret]
def Z6f:List RRes:=[.t 2]
def Z6g:PCt prog 125 f125 Z6e Z6f:=pcT func125 rfl
def Z6h:RCode :=
 S [r 0 [b 1 0,n 2 (.bool false)],r 1 [L 3 3 1,c 4 16 [3],k 5 .neq 4 O,m 2 5],.ret]
def Z6i:List RRes:=[.t 2]
def Z6j:PCt prog 127 f127 Z6h Z6i:=pcT func127 rfl
def Z6k:RCode :=
 S [r 0 [n 4 (.bool false)],r 1 [m 5 0,m 6 1,c 7 128 [5,6],k 8 .geq 7 O,m 4 8],.ret]
def Z6l:List RRes:=[.t 4]
def Z6m:PCt prog 126 f126 Z6k Z6l:=pcT func126 rfl
def Z6n:RCode :=
 S [r 0 [n 4 O],S [r 1 [m 6 0,e 7 6,n 8 O],.block 0 (.loop (S [r 2 [o 9 .lss 8 7],.cond (.t 9) .skip (.exit 0),.block 1 (S [r 3 [m 10 8,m 5 10],r 4 [m 11 1,m 12 0,m 13 5,i 14 3 12 13,L 15 3 14,w 16 (.callv (.t 11) [.t 15])],K 16 5 [m 17 5,m 4 17]]),r 6 [k 18 .add 8 I,m 8 18]]))],r 7 [n 4 (.int .i64 (-1))],.ret]
def Z6o:List RRes:=[.t 4]
def Z6p:PCt prog 128 f128 Z6n Z6o:=pcT func128 rfl
def Z6q:RCode :=
 S [r 0 [n 4 (.bool false)],r 1 [m 5 0,m 6 1,c 7 91 [5,6],k 8 .geq 7 O,m 4 8],.ret]
def Z6r:List RRes:=[.t 4]
def Z6s:PCt prog 75 f75 Z6q Z6r:=pcT func75 rfl
def Z6t:RCode :=
 S [r 0 [n 4 O],S [r 1 [m 6 0,e 7 6,n 8 O],.block 0 (.loop (S [r 2 [o 9 .lss 8 7],.cond (.t 9) .skip (.exit 0),.block 1 (S [r 3 [m 10 8,m 5 10],r 4 [m 11 1,m 12 0,m 13 5,i 14 2 12 13,L 15 2 14,w 16 (.callv (.t 11) [.t 15])],K 16 5 [m 17 5,m 4 17]]),r 6 [k 18 .add 8 I,m 8 18]]))],r 7 [n 4 (.int .i64 (-1))],.ret]
def Z6u:List RRes:=[.t 4]
def Z6v:PCt prog 91 f91 Z6t Z6u:=pcT func91 rfl
def Z6w:RCode :=
 S [r 0 [b 2 0,n 3 (.bool false)],r 1 [l 4 1,f 5 0 2,l 6 5,c 7 77 [4,6],t 8 7,m 3 8],.ret]
def Z6x:List RRes:=[.t 3]
def Z6y:PCt prog 76 f76 Z6w Z6x:=pcT func76 rfl
def Z6z:RCode :=
 S [r 0 [n 4 (.bool false)],r 1 [m 8 0,w 9 (.nilck (.t 8)),f 10 1 9,l 11 10,m 12 1,c 13 92 [11,12],m 7 13,x 14 0 7,x 15 1 7,m 5 14,m 6 15],r 2 [m 16 6,m 4 16],.ret]
def Z6A:List RRes:=[.t 4]
def Z6B:PCt prog 77 f77 Z6z Z6A:=pcT func77 rfl
def Z6C:RCode :=
 S [r 0 [n 4 O,n 5 (.bool false)],r 1 [m 10 0,e 11 10,m 6 11],r 2 [m 12 6,n 7 O,m 8 12],.block 0 (.loop (S [S [r 3 [m 13 7,m 14 8,o 15 .lss 13 14],.cond (.t 15) .skip (.exit 0)],.block 1 (S [r 4 [m 16 7,m 17 8,o 18 .add 16 17,w 19 (.conv .u64 (.t 18)),w 20 (.vop (.sh false) [(.t 19),(.c (.int .u64 1))]),w 21 (.conv .i64 (.t 20)),m 9 21],r 5 [m 22 0,m 23 9,i 24 1 22 23,l 25 24,m 26 1,c 27 100 [25,26]],.cond (.t 27) (r 6 [m 28 9,k 29 .add 28 I,m 7 29]) (r 7 [m 30 9,m 8 30])])])),r 8 [m 31 7,m 32 7,m 33 6,o 34 .lss 32 33,m 35 34,g 35 true (m 36 0),g 35 true (m 37 7),g 35 true (i 38 1 36 37),g 35 true (l 39 38),g 35 true (m 40 1),g 35 true (o 41 .eql 39 40),g 35 true (m 42 41),g 42 false (m 43 0),g 42 false (m 44 7),g 42 false (i 45 1 43 44),g 42 false (l 46 45),g 42 false (c 47 101 [46]),g 42 false (m 48 47),g 48 true (m 49 1),g 48 true (c 50 101 [49]),g 42 false (v 51 48 50),g 35 true (u 52 42 51),v 53 35 52,m 4 31,m 5 53],.ret]
def Z6D:List RRes:=[.t 4,.t 5]
def Z6E:PCt prog 92 f92 Z6C Z6D:=pcT func92 rfl
def Z6F:RCode :=
 S [r 0 [n 4 (.bool false)],r 1 [m 5 0,c 6 102 [5],m 7 6,g 7 true (m 8 1),g 7 true (c 9 102 [8]),g 7 true (t 10 9),v 11 7 10,m 12 11,g 12 false (m 13 0),g 12 false (m 14 1),g 12 false (o 15 .lss 13 14),u 16 12 15,m 4 16],.ret]
def Z6G:List RRes:=[.t 4]
def Z6H:PCt prog 100 f100 Z6F Z6G:=pcT func100 rfl
def Z6I:RCode :=
 S [r 0 [n 2 (.bool false)],r 1 [m 3 0,m 4 0,o 5 .neq 3 4,m 2 5],.ret]
def Z6J:List RRes:=[.t 2]
def Z6K:PCt prog 102 f102 Z6I Z6J:=pcT func102 rfl
def Z6L:RCode :=
 S [r 0 [n 2 (.bool false)],r 1 [m 3 0,m 4 0,o 5 .neq 3 4,m 2 5],.ret]
def Z6M:List RRes:=[.t 2]
def Z6N:PCt prog 101 f101 Z6L Z6M:=pcT func101 rfl
def Z6O:RCode :=
 S [r 0 [n 4 O],r 1 [m 7 0,c 8 102 [7],m 5 8],r 2 [m 9 1,c 10 102 [9],m 6 10],S [r 3 [m 11 5],.cond (.t 11) (S [S [r 4 [m 12 6],K 12 5 [n 4 O]],r 6 [n 4 (.int .i64 (-1))],.ret]) .skip],S [r 7 [m 13 6],K 13 8 [n 4 I]],S [r 9 [m 14 0,m 15 1,o 16 .lss 14 15],K 16 10 [n 4 (.int .i64 (-1))]],S [r 11 [m 17 0,m 18 1,o 19 .gtr 17 18],K 19 12 [n 4 I]],r 13 [n 4 O],.ret]
def Z6P:List RRes:=[.t 4]
def Z6Q:PCt prog 96 f96 Z6O Z6P:=pcT func96 rfl
def Z6R:RCode :=
 S [r 0 [n 6 O,n 7 (.bool false)],r 1 [m 12 0,e 13 12,m 8 13],r 2 [m 14 8,n 9 O,m 10 14],.block 0 (.loop (S [S [r 3 [m 15 9,m 16 10,o 17 .lss 15 16],.cond (.t 17) .skip (.exit 0)],.block 1 (S [r 4 [m 18 9,m 19 10,o 20 .add 18 19,w 21 (.conv .u64 (.t 20)),w 22 (.vop (.sh false) [(.t 21),(.c (.int .u64 1))]),w 23 (.conv .i64 (.t 22)),m 11 23],r 5 [m 24 2,m 25 0,m 26 11,i 27 5 25 26,L 28 5 27,m 29 1,w 30 (.callv (.t 24) [.t 28,.t 29]),k 31 .lss 30 O],.cond (.t 31) (r 6 [m 32 11,k 33 .add 32 I,m 9 33]) (r 7 [m 34 11,m 10 34])])])),r 8 [m 35 9,m 36 9,m 37 8,o 38 .lss 36 37,m 39 38,g 39 true (m 40 2),g 39 true (m 41 0),g 39 true (m 42 9),g 39 true (i 43 5 41 42),g 39 true (L 44 5 43),g 39 true (m 45 1),g 39 true (w 46 (.callv (.t 40) [.t 44,.t 45])),g 39 true (k 47 .eql 46 O),v 48 39 47,m 6 35,m 7 48],.ret]
def Z6S:List RRes:=[.t 6,.t 7]
def Z6T:PCt prog 94 f94 Z6R Z6S:=pcT func94 rfl
def Z6U:RCode :=
 S [r 0 [b 2 0,b 3 1,n 4 .nilf],r 1 [w 5 (.mkf (.func 93) [] [.t 2,.t 3]),m 4 5],.ret]
def Z6V:List RRes:=[.t 4]
def Z6W:PCt prog 78 f78 Z6U Z6V:=pcT func78 rfl
def Z6X:RCode :=
 S [r 0 [b 2 0,n 4 O],r 1 [f 5 0 2,l 6 5,m 7 1,c 8 96 [6,7],m 4 8],.ret]
def Z6Y:List RRes:=[.t 4]
def Z6Z:PCt prog 95 f95 Z6X Z6Y:=pcT func95 rfl
def Z70:RCode :=
 S [r 0 [n 4 O],r 1 [w 5 (.alloc [O]),z (.store 1 (.t 5) (.c O))],S [r 2 [m 6 0,m 7 1,c 8 78 [6,7]],.block 0 (.rngf (.t 8) [9] .skip (.block 1 (r 3 [l 10 5,k 11 .add 10 I,s 1 5 11])))],r 4 [l 12 5,m 4 12],.ret]
def Z71:List RRes:=[.t 4]
def Z72:PCt prog 63 f63 Z70 Z71:=pcT func63 rfl
def Z73:RCode :=
 S [r 0 [b 3 1,w 4 (.alloc [O,O,.int .u8 0,.nils,.nils]),w 5 (.alloc [.bool false])],S [r 1 [m 7 0,f 8 0 3,l 9 8,c 10 78 [7,9]],.block 0 (.rngf (.t 10) [11] (r 2 [w 6 (.alloc [O,O,.int .u8 0,.nils,.nils]),s 5 6 11]) (.block 1 (S [R 3 [L 12 5 6,a [0] (c 13 43 [12]),L 14 2 3,a [1,2] (w 15 (.eqs false [.i,.i] (.t 13) (.t 14)))],K 15 4 [L 16 5 6,s 5 4 16,z (.store 1 (.t 5) (.c (.bool true)))]])))],r 5 [w 17 (.build [O,O,.int .u8 0,.nils,.nils] []),s 5 4 17,z (.store 1 (.t 5) (.c (.bool false)))],.ret]
def Z74:List RRes:=[.c 4 true 5,.c 5 false 1]
def Z75:PCt prog 62 f62 Z73 Z74:=pcT func62 rfl
def Z76:RCode :=
 S [r 0 [n 2 .nilm,n 3 (.bool false)],r 1 [w 15 (.mkmap),w 4 (.alloc [.nilm]),s 1 4 15],r 2 [w 16 (.mkmap),w 5 (.alloc [.nilm]),s 1 5 16],S [r 3 [m 17 0,w 18 (.nilck (.t 17)),f 19 1 18,l 20 19,e 21 20,n 22 O],.block 0 (.loop (S [r 4 [o 23 .lss 22 21],.cond (.t 23) .skip (.exit 0),.block 1 (S [r 5 [i 24 1 20 22,l 25 24,m 7 25],r 6 [l 26 5,m 27 7,z (.mupd (.i .i64) (.t 26) (.t 27) (.c (.bool true)))]]),r 7 [k 28 .add 22 I,m 22 28]]))],S [r 8 [m 29 0,w 30 (.nilck (.t 29)),f 31 1 30,l 32 31,e 33 32,n 34 O],.block 2 (.loop (S [r 9 [o 35 .lss 34 33],.cond (.t 35) .skip (.exit 2),.block 3 (S [r 10 [m 36 0,w 37 (.nilck (.t 36)),f 38 1 37,l 39 38,e 40 39,n 41 O],.block 4 (.loop (S [r 11 [o 42 .lss 41 40],.cond (.t 42) .skip (.exit 4),.block 5 (S [r 12 [i 43 1 39 41,l 44 43,m 9 44],R 13 [l 45 5,m 46 9,a [0,1] (w 47 (.look (.i .i64) (.bool false) false (.t 45) (.t 46))),w 10 (.alloc [O]),w 11 (.alloc [.bool false]),a [3,3,4] (z (.store 1 (.t 10) (.c O))),a [4,2,5,0,1,2,3,4,5] (s 1 11 47)],S [r 14 [m 48 0,m 49 9,c 50 78 [48,49]],.block 6 (.rngf (.t 50) [51] (r 15 [w 12 (.alloc [O,O,.int .u8 0,.nils,.nils]),s 5 12 51]) (.block 7 (S [r 16 [f 52 3 12,l 53 52,e 54 53,n 55 O],.block 8 (.loop (S [r 17 [o 56 .lss 55 54],.cond (.t 56) .skip (.exit 8),.block 9 (S [r 18 [i 57 2 53 55,L 58 2 57,w 14 (.alloc [O,O]),s 2 14 58],r 19 [l 59 11,m 60 59,g 60 true (l 61 5),g 60 true (f 62 0 14),g 60 true (l 63 62),g 60 true (w 64 (.look (.i .i64) (.bool false) false (.t 61) (.t 63))),g 60 true (t 65 64),v 66 60 65,s 1 11 66],r 20 [l 67 10,l 68 4,f 69 0 14,l 70 69,w 71 (.look (.i .i64) O false (.t 68) (.t 70)),w 72 (.mx true (.t 67) [.t 71]),s 1 10 72]]),r 21 [k 73 .add 55 I,m 55 73]]))])))],r 22 [l 74 11],.cond (.t 74) (S [r 23 [l 75 4,m 76 9,l 77 10,k 78 .add 77 I,z (.mupd (.i .i64) (.t 75) (.t 76) (.t 78))],r 24 [l 79 5,m 80 9,z (.mdel (.i .i64) (.t 79) (.t 80))]]) .skip]),r 25 [k 81 .add 41 I,m 41 81]]))]),r 26 [k 82 .add 34 I,m 34 82]]))],r 27 [l 83 4,l 84 5,w 85 (.mlen (.t 84)),k 86 .gtr 85 O,m 2 83,m 3 86],.ret]
def Z77:List RRes:=[.t 2,.t 3]
def Z78:PCt prog 59 f59 Z76 Z77:=pcT func59 rfl
def Z79:RCode :=
 S [r 0 [b 1 0,w 2 (.alloc [O,O,.int .u8 0,.nils,.nils])],R 1 [f 3 3 1,a [0] (l 4 3),a [1] (w 5 (.calln 67 [.t 4])),f 6 4 1,a [3] (l 7 6),a [4,2] (w 8 (.calln 68 [.t 7])),a [0,1,2,3,4] (f 9 3 1),a [6,2,5,0,1,2,3,4] (s 1 9 5),a [0,1,2,3,4,5,6,7] (f 10 4 1),a [8,5,7,0,1,2,3,4,5,6,7] (s 1 10 8)],r 2 [L 11 5 1,s 5 2 11],.ret]
def Z7a:List RRes:=[.c 2 true 5]
def Z7b:PCt prog 37 f37 Z79 Z7a:=pcT func37 rfl
def Z7c:RCode :=
 S [r 0 [n 2 .nils],S [r 1 [m 3 0,w 4 (.vop (.eqn false) [(.t 3),(.c .nils)])],K 4 2 [n 2 .nils]],r 3 [w 5 (.bsl true 2 0 [] []),m 6 0,w 7 (.app 2 16 (.t 5) (.t 6)),m 2 7],.ret]
def Z7d:List RRes:=[.t 2]
def Z7e:RCode :=
 S [r 0 [n 2 .nils],S [r 1 [m 3 0,w 4 (.vop (.eqn false) [(.t 3),(.c .nils)])],K 4 2 [n 2 .nils]],r 3 [w 5 (.bsl true 3 0 [] []),m 6 0,w 7 (.app 3 24 (.t 5) (.t 6)),m 2 7],.ret]
def Z7f:List RRes:=[.t 2]
def Z7g:RCode :=
 S [r 0 [b 2 0,n 4 .nilp,n 5 O],r 1 [L 9 1 2,c 10 53 [9],m 8 10,x 11 0 8,x 12 1 8,m 6 11,m 7 12],S [r 2 [m 13 7,k 14 .neq 13 O],K 14 3 [m 15 7,n 4 .nilp,m 5 15]],S [r 4 [m 16 6,m 17 1,c 18 77 [16,17],t 19 18],K 19 5 [n 4 .nilp,n 5 (.int .i64 6)]],r 6 [m 20 6,m 4 20,n 5 O],.ret]
def Z7h:List RRes:=[.t 4,.t 5]
def Z7i:PCt prog 58 f58 Z7g Z7h:=pcT func58 rfl
def Z7j:RCode :=
 S [r 0 [b 1 0,n 2 O],r 1 [L 6 1 1,c 7 53 [6],m 5 7,x 8 0 5,x 9 1 5,m 3 8,m 4 9],r 2 [m 10 4,m 2 10],.ret]
def Z7k:List RRes:=[.t 2]
def Z7l:PCt prog 17 f17 Z7j Z7k:=pcT func17 rfl
def Z7m:RCode :=
 S [r 0 [b 1 0,n 2 .nils,n 3 O],r 1 [L 7 1 1,c 8 53 [7],m 6 8,x 9 0 6,x 10 1 6,m 4 9,m 5 10],S [r 2 [m 11 5,k 12 .neq 11 O],K 12 3 [m 13 5,n 2 .nils,m 3 13]],r 4 [m 14 4,w 15 (.nilck (.t 14)),f 16 1 15,l 17 16,m 2 17,n 3 O],.ret]
def Z7n:List RRes:=[.t 2,.t 3]
def Z7o:PCt prog 49 f49 Z7m Z7n:=pcT func49 rfl
def Z7p:RCode :=
 S [r 0 [b 2 0,n 4 O,n 5 O],r 1 [L 9 1 2,m 10 1,c 11 58 [9,10],m 8 11,x 12 0 8,x 13 1 8,m 6 12,m 7 13],S [r 2 [m 14 7,k 15 .neq 14 O],K 15 3 [m 16 7,n 4 O,m 5 16]],r 4 [m 17 6,m 18 1,c 19 63 [17,18],m 4 19,n 5 O],.ret]
def Z7q:List RRes:=[.t 4,.t 5]
def Z7r:PCt prog 28 f28 Z7p Z7q:=pcT func28 rfl
def Z7s:RCode :=
 S [r 0 [b 2 0,b 3 1,w 4 (.alloc [O,O,.int .u8 0,.nils,.nils]),n 5 O],r 1 [L 11 1 2,c 12 53 [11],m 10 12,x 13 0 10,x 14 1 10,m 6 13,m 7 14],S [r 2 [m 15 7,k 16 .neq 15 O],K 16 3 [w 17 (.build [O,O,.int .u8 0,.nils,.nils] []),m 18 7,s 5 4 17,m 5 18]],r 4 [m 20 6,L 21 2 3,c 22 62 [20,21],m 19 22,x 23 0 19,x 24 1 19,w 8 (.alloc [O,O,.int .u8 0,.nils,.nils]),s 5 8 23,m 9 24],S [r 5 [m 25 9,t 26 25],K 26 6 [w 27 (.build [O,O,.int .u8 0,.nils,.nils] []),s 5 4 27,n 5 (.int .i64 6)]],r 7 [L 28 5 8,c 29 37 [28],s 5 4 29,n 5 O],.ret]
def Z7t:List RRes:=[.c 4 true 5,.t 5]
def Z7u:PCt prog 29 f29 Z7s Z7t:=pcT func29 rfl
def Z7v:RCode :=
 S [r 0 [b 2 0,n 4 O,n 5 O],r 1 [L 11 1 2,m 12 1,c 13 58 [11,12],m 10 13,x 14 0 10,x 15 1 10,m 6 14,m 7 15],S [r 2 [m 16 7,k 17 .neq 16 O],K 17 3 [m 18 7,n 4 O,m 5 18]],r 4 [m 20 6,c 21 59 [20],m 19 21,x 22 0 19,x 23 1 19,m 8 22,m 9 23],r 5 [m 24 8,m 25 1,w 26 (.look (.i .i64) O false (.t 24) (.t 25)),m 4 26,n 5 O],.ret]
def Z7w:List RRes:=[.t 4,.t 5]
def Z7x:PCt prog 21 f21 Z7v Z7w:=pcT func21 rfl
end
section
open Qq Tryd
def Z7y:RCode :=
 S [r 0 [n 6 (.bool false)],r 1 [m 7 0,m 8 1,o 9 .geq 7 8,m 10 9,g 10 true (m 11 0),g 10 true (m 12 2),g 10 true (o 13 .leq 11 12),v 14 10 13,m 6 14],.ret]
def Z7z:List RRes:=[.t 6]
def Z7A:PCt prog 104 f104 Z7y Z7z:=pcT func104 rfl
def Z7B:RCode :=
 S [r 0 [b 1 0,n 2 (.bool false)],r 1 [f 3 0 1,l 4 3,w 5 (.call 104 [.t 4,.c O,.c (.int .i64 1000000000)]),m 6 5,g 6 true (f 7 2 1),g 6 true (l 8 7),g 6 true (w 9 (.call 104 [.t 8,.c O,.c (.int .i64 1000000000)])),v 10 6 9,m 11 10,g 11 true (f 12 1 1),g 11 true (l 13 12),g 11 true (f 14 2 1),g 11 true (l 15 14),g 11 true (w 16 (.call 104 [.t 13,.c O,.t 15])),v 17 11 16,m 2 17],.ret]
def Z7C:List RRes:=[.t 2]
def Z7D:PCt prog 99 f99 Z7B Z7C:=pcT func99 rfl
def Z7E:RCode :=
 S [r 0 [n 6 (.bool false)],r 1 [m 7 0,m 8 1,o 9 .geq 7 8,m 10 9,g 10 true (m 11 0),g 10 true (m 12 2),g 10 true (o 13 .leq 11 12),v 14 10 13,m 6 14],.ret]
def Z7F:List RRes:=[.t 6]
def Z7G:PCt prog 85 f85 Z7E Z7F:=pcT func85 rfl
def Z7H:RCode :=
 S [r 0 [b 1 0,n 2 (.bool false)],S [r 1 [f 6 0 1,l 7 6,w 8 (.call 85 [.t 7,.c I,.c (.int .i64 9999)]),t 9 8,m 10 9,g 10 false (f 11 1 1),g 10 false (l 12 11),g 10 false (w 13 (.call 85 [.t 12,.c I,.c (.int .i64 8)])),g 10 false (t 14 13),u 15 10 14,m 16 15,g 16 false (f 17 2 1),g 16 false (l 18 17),g 16 false (w 19 (.conv .i64 (.t 18))),g 16 false (w 20 (.call 85 [.t 19,.c I,.c (.int .i64 3)])),g 16 false (t 21 20),u 22 16 21,m 23 22,g 23 false (f 24 2 1),g 23 false (l 25 24),g 23 false (k 26 .eql 25 (.int .u8 1)),g 23 false (m 27 26),g 27 true (f 28 3 1),g 27 true (l 29 28),g 27 true (e 30 29),g 27 true (w 31 (.call 85 [.t 30,.c I,.c (.int .i64 8)])),g 27 true (t 32 31),g 27 true (m 33 32),g 33 false (f 34 4 1),g 33 false (l 35 34),g 33 false (e 36 35),g 33 false (k 37 .gtr 36 O),g 27 true (u 38 33 37),g 23 false (v 39 27 38),u 40 23 39,m 41 40,g 41 false (f 42 2 1),g 41 false (l 43 42),g 41 false (k 44 .gtr 43 (.int .u8 1)),g 41 false (m 45 44),g 45 true (f 46 4 1),g 45 true (l 47 46),g 45 true (e 48 47),g 45 true (k 49 .gtr 48 (.int .i64 4)),g 45 true (m 50 49),g 50 false (f 51 3 1),g 50 false (l 52 51),g 50 false (e 53 52),g 50 false (k 54 .gtr 53 O),g 45 true (u 55 50 54),g 41 false (v 56 45 55),u 57 41 56],K 57 2 [n 2 (.bool false)]],S [r 3 [n 3 O],.block 0 (.loop (S [S [r 4 [m 58 3,f 59 3 1,l 60 59,e 61 60,o 62 .lss 58 61],.cond (.t 62) .skip (.exit 0)],.block 1 (S [r 6 [f 65 3 1,l 66 65,m 67 3,i 68 2 66 67,L 69 2 68,w 4 (.alloc [O,O]),s 2 4 69],R 7 [f 70 0 4,a [0] (l 71 70),a [1] (w 72 (.call 85 [.t 71,.c I,.c (.int .i64 9999)])),a [2] (t 73 72),a [3,2] (m 74 73),a [4] (g 74 false (f 75 1 4)),a [5,4] (g 74 false (l 76 75)),a [6,4,4] (g 74 false (w 77 (.call 85 [.t 76,.c I,.c (.int .i64 20)]))),a [7,4] (g 74 false (t 78 77)),a [4,8] (u 79 74 78),a [9,7] (m 80 79),a [10] (g 80 false (f 81 0 4)),a [11,10] (g 80 false (l 82 81)),a [10] (g 80 false (f 83 0 1)),a [13,10] (g 80 false (l 84 83)),a [12,14,10] (g 80 false (o 85 .eql 82 84)),a [10,15] (u 86 80 85),a [16,10] (m 87 86),a [17] (g 87 false (m 88 3)),a [18,17] (g 87 false (k 89 .gtr 88 O)),a [19,17,17] (g 87 false (m 90 89)),a [20] (g 90 true (f 91 3 1)),a [21,20] (g 90 true (l 92 91)),a [20] (g 90 true (m 93 3)),a [23,20] (g 90 true (k 94 .sub 93 I)),a [22,24,20] (g 90 true (i 95 2 92 94)),a [25,20] (g 90 true (f 96 0 95)),a [26,20] (g 90 true (l 97 96)),a [20] (g 90 true (f 98 0 4)),a [28,20] (g 90 true (l 99 98)),a [27,29,20] (g 90 true (o 100 .geq 97 99)),a [20,30,17] (g 87 false (v 101 90 100)),a [17,31] (u 102 87 101)],K 102 8 [n 2 (.bool false)]]),r 5 [m 63 3,k 64 .add 63 I,m 3 64]]))],S [r 9 [n 5 O],.block 2 (.loop (S [S [r 10 [m 103 5,f 104 4 1,l 105 104,e 106 105,o 107 .lss 103 106],.cond (.t 107) .skip (.exit 2)],.block 3 (S [r 12 [f 110 4 1,l 111 110,m 112 5,i 113 3 111 112,L 114 3 113,c 115 99 [114],t 116 115],K 116 13 [n 2 (.bool false)]]),r 11 [m 108 5,k 109 .add 108 I,m 5 109]]))],r 14 [n 2 (.bool true)],.ret]
def Z7I:List RRes:=[.t 2]
def Z7J:PCt prog 86 f86 Z7H Z7I:=pcT func86 rfl
def Z7K:RCode :=
 S [r 0 [b 1 0,n 2 .nils],r 1 [n 3 .nils],S [r 2 [n 4 O],.block 0 (.loop (S [S [r 3 [m 6 4,f 7 0 1,l 8 7,e 9 8,o 10 .lss 6 9],.cond (.t 10) .skip (.exit 0)],.block 1 (S [r 5 [f 13 0 1,l 14 13,m 15 4,i 16 5 14 15,f 17 0 16,l 18 17,m 5 18],r 6 [m 19 4,k 20 .eql 19 O,m 21 20,g 21 false (f 22 0 1),g 21 false (l 23 22),g 21 false (m 24 4),g 21 false (k 25 .sub 24 I),g 21 false (i 26 5 23 25),g 21 false (f 27 0 26),g 21 false (l 28 27),g 21 false (m 29 5),g 21 false (o 30 .neq 28 29),u 31 21 30],.cond (.t 31) (r 7 [m 32 3,m 33 5,w 34 (.bsl false 1 1 [O] [(0,.t 33)]),w 35 (.app 1 8 (.t 32) (.t 34)),m 3 35]) .skip]),r 4 [m 11 4,k 12 .add 11 I,m 4 12]]))],r 8 [m 36 3,m 2 36],.ret]
def Z7L:List RRes:=[.t 2]
def Z7M:PCt prog 87 f87 Z7K Z7L:=pcT func87 rfl
def Z7N:RCode :=
 S [r 0 [n 4 O],S [r 1 [n 5 O],.block 0 (.loop (S [S [r 2 [m 6 5,m 7 0,e 8 7,o 9 .lss 6 8],.cond (.t 9) .skip (.exit 0)],.block 1 (S [r 4 [m 12 0,m 13 5,i 14 1 12 13,l 15 14,m 16 1,o 17 .eql 15 16],K 17 5 [m 18 5,m 4 18]]),r 3 [m 10 5,k 11 .add 10 I,m 5 11]]))],r 6 [n 4 (.int .i64 (-1))],.ret]
def Z7O:List RRes:=[.t 4]
def Z7P:PCt prog 88 f88 Z7N Z7O:=pcT func88 rfl
def Z7Q:RCode :=
 S [r 0 [b 1 0,n 2 (.bool false)],S [r 1 [f 9 0 1,l 10 9,e 11 10,w 12 (.call 85 [.t 11,.c I,.c (.int .i64 60)]),t 13 12],K 13 2 [n 2 (.bool false)]],S [r 3 [n 3 O],.block 0 (.loop (S [S [r 4 [m 14 3,f 15 0 1,l 16 15,e 17 16,o 18 .lss 14 17],.cond (.t 18) .skip (.exit 0)],.block 1 (S [r 6 [f 21 0 1,l 22 21,m 23 3,i 24 5 22 23,L 25 5 24,w 4 (.alloc [O,O,.int .u8 0,.nils,.nils]),s 5 4 25],S [r 7 [L 26 5 4,c 27 86 [26],t 28 27],K 28 8 [n 2 (.bool false)]],r 9 [w 29 (.build [O,O,.int .u8 0,.nils,.nils] []),w 5 (.alloc [O,O,.int .u8 0,.nils,.nils]),s 5 5 29],S [r 10 [m 30 3,k 31 .gtr 30 O],.cond (.t 31) (r 11 [f 32 0 1,l 33 32,m 34 3,k 35 .sub 34 I,i 36 5 33 35,L 37 5 36,s 5 5 37]) .skip],.block 2 (S [r 12 [f 39 0 4,l 40 39,f 41 0 5,l 42 41,o 43 .lss 40 42,m 38 43],.cond (.t 38) (S [r 13 [n 2 (.bool false)],.ret]) (S [r 14 [f 45 0 4,l 46 45,f 47 0 5,l 48 47,o 49 .gtr 46 48,m 44 49],.cond (.t 44) (S [r 15 [f 50 1 4,l 51 50,k 52 .neq 51 I],K 52 16 [n 2 (.bool false)]]) (S [r 17 [f 54 1 4,l 55 54,f 56 1 5,l 57 56,k 58 .add 57 I,o 59 .neq 55 58,m 60 59,g 60 false (f 61 2 4),g 60 false (l 62 61),g 60 false (f 63 2 5),g 60 false (l 64 63),g 60 false (o 65 .neq 62 64),u 66 60 65,m 53 66],K 53 18 [n 2 (.bool false)]])])])]),r 5 [m 19 3,k 20 .add 19 I,m 3 20]]))],r 19 [L 67 1 1,c 68 87 [67],m 6 68],S [r 20 [n 7 O],.block 3 (.loop (S [S [r 21 [m 69 7,f 70 0 1,l 71 70,e 72 71,o 73 .lss 69 72],.cond (.t 73) .skip (.exit 3)],.block 4 (S [r 23 [n 8 O],.block 5 (.loop (S [S [r 24 [m 76 8,f 77 0 1,l 78 77,m 79 7,i 80 5 78 79,f 81 3 80,l 82 81,e 83 82,o 84 .lss 76 83],.cond (.t 84) .skip (.exit 5)],.block 6 (S [r 26 [m 87 6,f 88 0 1,l 89 88,m 90 7,i 91 5 89 90,f 92 3 91,l 93 92,m 94 8,i 95 2 93 94,f 96 0 95,l 97 96,c 98 88 [87,97],k 99 .lss 98 O],K 99 27 [n 2 (.bool false)]]),r 25 [m 85 8,k 86 .add 85 I,m 8 86]]))]),r 22 [m 74 7,k 75 .add 74 I,m 7 75]]))],r 28 [m 100 6,e 101 100,k 102 .leq 101 (.int .i64 20),m 2 102],.ret]
def Z7R:List RRes:=[.t 2]
def Z7S:PCt prog 70 f70 Z7Q Z7R:=pcT func70 rfl
def Z7T:RCode :=
 S [r 0 [b 1 0,n 2 .nils],r 1 [L 11 1 1,c 12 87 [11],m 3 12],r 2 [m 13 3,e 14 13,w 15 (.mksl 1 8 [O] (.t 14)),m 4 15],S [r 3 [n 5 O],.block 0 (.loop (S [S [r 4 [m 16 5,m 17 3,e 18 17,o 19 .leq 16 18],.cond (.t 19) .skip (.exit 0)],.block 1 (S [r 6 [m 22 3,e 23 22,w 24 (.mksl 1 8 [O] (.t 23)),m 6 24],S [r 7 [n 7 O],.block 2 (.loop (S [S [r 8 [m 25 7,f 26 0 1,l 27 26,e 28 27,o 29 .lss 25 28],.cond (.t 29) .skip (.exit 2)],.block 3 (S [r 10 [f 32 0 1,l 33 32,m 34 7,i 35 5 33 34,L 36 5 35,w 8 (.alloc [O,O,.int .u8 0,.nils,.nils]),s 5 8 36],r 11 [m 37 3,f 38 0 8,l 39 38,c 40 88 [37,39],m 9 40],r 12 [m 41 6,m 42 9,m 43 6,m 44 9,i 45 1 43 44,l 46 45,w 47 (.mx true (.t 46) [.c I]),i 48 1 41 42,s 1 48 47],r 13 [n 10 O],.block 4 (.loop (S [S [r 14 [m 49 10,f 50 3 8,l 51 50,e 52 51,o 53 .lss 49 52],.cond (.t 53) .skip (.exit 4)],.block 5 (R 16 [m 56 6,m 57 9,m 58 6,m 59 9,a [2,3] (i 60 1 58 59),a [4] (l 61 60),m 62 4,m 63 3,f 64 3 8,a [8] (l 65 64),m 66 10,a [9,10] (i 67 2 65 66),a [11] (f 68 0 67),a [12] (l 69 68),a [7,13] (c 70 88 [63,69]),a [6,14] (i 71 1 62 70),a [15] (l 72 71),a [16] (w 73 (.bin .add (.c I) (.t 72))),a [5,17] (w 74 (.mx true (.t 61) [.t 73])),a [0,1,0,1,2,3,4,5,6,7,8,9,10,11,12,13,14,15,16,17,18] (i 75 1 56 57),a [19,18,14,0,1,2,3,4,5,6,7,8,9,10,11,12,13,14,15,16,17,18] (s 1 75 74)]),r 15 [m 54 10,k 55 .add 54 I,m 10 55]]))]),r 9 [m 30 7,k 31 .add 30 I,m 7 31]]))],r 17 [m 76 6,m 4 76]]),r 5 [m 20 5,k 21 .add 20 I,m 5 21]]))],r 18 [m 77 4,m 2 77],.ret]
def Z7U:List RRes:=[.t 2]
def Z7V:PCt prog 71 f71 Z7T Z7U:=pcT func71 rfl
def Z7W:RCode :=
 S [r 0 [b 1 0,n 2 O],S [r 1 [L 6 1 1,c 7 70 [6],t 8 7],K 8 2 [n 2 (.int .i64 20)]],r 3 [L 9 1 1,c 10 71 [9],m 3 10],r 4 [n 4 O],S [r 5 [n 5 O],.block 0 (.loop (S [S [r 6 [m 11 5,m 12 3,e 13 12,o 14 .lss 11 13],.cond (.t 14) .skip (.exit 0)],.block 1 (r 8 [m 17 4,m 18 3,m 19 5,i 20 1 18 19,l 21 20,w 22 (.mx true (.t 17) [.t 21]),m 4 22]),r 7 [m 15 5,k 16 .add 15 I,m 5 16]]))],.block 2 (S [r 9 [m 24 4,m 25 3,e 26 25,o 27 .gtr 24 26,m 23 27],.cond (.t 23) (S [r 10 [n 2 (.int .i64 21)],.ret]) (S [r 11 [m 29 4,k 30 .gtr 29 (.int .i64 6),m 28 30],K 28 12 [n 2 (.int .i64 20)]])]),r 13 [n 2 O],.ret]
def Z7X:List RRes:=[.t 2]
def Z7Y:PCt prog 47 f47 Z7W Z7X:=pcT func47 rfl
def Z7Z:RCode :=
 S [r 0 [n 4 (.bool false)],S [r 1 [m 6 0,e 7 6,m 8 1,e 9 8,o 10 .neq 7 9],K 10 2 [n 4 (.bool false)]],S [r 3 [n 5 O],.block 0 (.loop (S [S [r 4 [m 11 5,m 12 0,e 13 12,o 14 .lss 11 13],.cond (.t 14) .skip (.exit 0)],.block 1 (S [R 6 [m 17 0,m 18 5,a [0,1] (i 19 1 17 18),a [2] (l 20 19),m 21 1,m 22 5,a [4,5] (i 23 1 21 22),a [6] (l 24 23),a [3,7] (o 25 .neq 20 24)],K 25 7 [n 4 (.bool false)]]),r 5 [m 15 5,k 16 .add 15 I,m 5 16]]))],r 8 [n 4 (.bool true)],.ret]
def Z80:List RRes:=[.t 4]
def Z81:PCt prog 27 f27 Z7Z Z80:=pcT func27 rfl
def Z82:RCode :=
 S [r 0 [n 4 (.bool false)],S [r 1 [m 6 0,e 7 6,m 8 1,e 9 8,o 10 .neq 7 9],K 10 2 [n 4 (.bool false)]],S [r 3 [n 5 O],.block 0 (.loop (S [S [r 4 [m 11 5,m 12 0,e 13 12,o 14 .lss 11 13],.cond (.t 14) .skip (.exit 0)],.block 1 (S [R 6 [m 17 0,m 18 5,a [0,1] (i 19 2 17 18),a [2] (L 20 2 19),m 21 1,m 22 5,a [4,5] (i 23 2 21 22),a [6] (L 24 2 23),a [3,7] (w 25 (.eqs true [.i,.i] (.t 20) (.t 24)))],K 25 7 [n 4 (.bool false)]]),r 5 [m 15 5,k 16 .add 15 I,m 5 16]]))],r 8 [n 4 (.bool true)],.ret]
def Z83:List RRes:=[.t 4]
def Z84:PCt prog 25 f25 Z82 Z83:=pcT func25 rfl
def Z85:RCode :=
 S [r 0 [b 2 0,b 3 1,n 4 (.bool false)],S [r 1 [f 6 0 2,l 7 6,f 8 0 3,l 9 8,o 10 .neq 7 9,m 11 10,g 11 false (f 12 1 2),g 11 false (l 13 12),g 11 false (f 14 1 3),g 11 false (l 15 14),g 11 false (o 16 .neq 13 15),u 17 11 16,m 18 17,g 18 false (f 19 2 2),g 18 false (l 20 19),g 18 false (f 21 2 3),g 18 false (l 22 21),g 18 false (o 23 .neq 20 22),u 24 18 23,m 25 24,g 25 false (f 26 3 2),g 25 false (l 27 26),g 25 false (f 28 3 3),g 25 false (l 29 28),g 25 false (c 30 25 [27,29]),g 25 false (t 31 30),u 32 25 31,m 33 32,g 33 false (f 34 4 2),g 33 false (l 35 34),g 33 false (e 36 35),g 33 false (f 37 4 3),g 33 false (l 38 37),g 33 false (e 39 38),g 33 false (o 40 .neq 36 39),u 41 33 40],K 41 2 [n 4 (.bool false)]],S [r 3 [n 5 O],.block 0 (.loop (S [S [r 4 [m 42 5,f 43 4 2,l 44 43,e 45 44,o 46 .lss 42 45],.cond (.t 46) .skip (.exit 0)],.block 1 (S [R 6 [f 49 4 2,a [0] (l 50 49),m 51 5,a [1,2] (i 52 3 50 51),a [3] (L 53 3 52),f 54 4 3,a [5] (l 55 54),m 56 5,a [6,7] (i 57 3 55 56),a [8] (L 58 3 57),a [4,9] (w 59 (.eqs true [.i,.i,.i] (.t 53) (.t 58)))],K 59 7 [n 4 (.bool false)]]),r 5 [m 47 5,k 48 .add 47 I,m 5 48]]))],r 8 [n 4 (.bool true)],.ret]
def Z86:List RRes:=[.t 4]
def Z87:PCt prog 48 f48 Z85 Z86:=pcT func48 rfl
def Z88:RCode :=
 S [r 0 [b 2 0,b 3 1,n 4 (.bool false)],S [r 1 [f 6 0 2,l 7 6,e 8 7,f 9 0 3,l 10 9,e 11 10,o 12 .neq 8 11],K 12 2 [n 4 (.bool false)]],S [r 3 [n 5 O],.block 0 (.loop (S [S [r 4 [m 13 5,f 14 0 2,l 15 14,e 16 15,o 17 .lss 13 16],.cond (.t 17) .skip (.exit 0)],.block 1 (S [R 6 [f 20 0 2,a [0] (l 21 20),m 22 5,a [1,2] (i 23 5 21 22),a [3] (L 24 5 23),f 25 0 3,a [5] (l 26 25),m 27 5,a [6,7] (i 28 5 26 27),a [8] (L 29 5 28),a [4,9] (c 30 48 [24,29]),a [10] (t 31 30)],K 31 7 [n 4 (.bool false)]]),r 5 [m 18 5,k 19 .add 18 I,m 5 19]]))],r 8 [n 4 (.bool true)],.ret]
def Z89:List RRes:=[.t 4]
def Z8a:PCt prog 13 f13 Z88 Z89:=pcT func13 rfl
def Z8b:RCode :=
 S [r 0 [b 1 0,w 2 (.alloc [O,O,.int .u8 0,.nils,.nils])],R 1 [w 3 (.bsl true 2 0 [] []),f 4 3 1,a [1] (l 5 4),a [0,2] (w 6 (.app 2 16 (.t 3) (.t 5))),w 7 (.bsl true 3 0 [] []),f 8 4 1,a [5] (l 9 8),a [4,6,3] (w 10 (.app 3 24 (.t 7) (.t 9))),a [0,1,2,3,5,6] (f 11 3 1),a [8,3,7,0,1,2,3,5,6] (s 1 11 6),a [0,1,2,3,4,5,6,7,8,9] (f 12 4 1),a [10,7,9,0,1,2,3,4,5,6,7,8,9] (s 1 12 10)],r 2 [L 13 5 1,s 5 2 13],.ret]
def Z8c:List RRes:=[.c 2 true 5]
def Z8d:PCt prog 32 f32 Z8b Z8c:=pcT func32 rfl
def Z8e:RCode :=
 S [r 0 [b 1 0,n 2 (.bool false)],S [r 1 [f 4 0 1,l 5 4,e 6 5,k 7 .gtr 6 (.int .i64 80)],K 7 2 [n 2 (.bool true)]],S [r 3 [n 3 O],.block 0 (.loop (S [S [r 4 [m 8 3,f 9 0 1,l 10 9,e 11 10,o 12 .lss 8 11],.cond (.t 12) .skip (.exit 0)],.block 1 (S [r 6 [f 15 0 1,l 16 15,m 17 3,i 18 5 16 17,f 19 3 18,l 20 19,e 21 20,k 22 .gtr 21 (.int .i64 16),m 23 22,g 23 false (f 24 0 1),g 23 false (l 25 24),g 23 false (m 26 3),g 23 false (i 27 5 25 26),g 23 false (f 28 4 27),g 23 false (l 29 28),g 23 false (e 30 29),g 23 false (k 31 .gtr 30 (.int .i64 8)),u 32 23 31],K 32 7 [n 2 (.bool true)]]),r 5 [m 13 3,k 14 .add 13 I,m 3 14]]))],r 8 [n 2 (.bool false)],.ret]
def Z8f:List RRes:=[.t 2]
def Z8g:PCt prog 6 f6 Z8e Z8f:=pcT func6 rfl
end
def mixed:prog.follows .mixedOrders=true:=by kernel_rfl
def Qga {R:Run} {c:RCode} {F:Exit->St->Prop} {st:St} (h:GO prog R 1000 (.run c) [] F st):AR prog R c st F:=Yb mixed 1000 h
def Qgr {R:Run} {e:Exit} {ks:List KF} {F:Exit->St->Prop} {st:St} (h:GO prog R 1000 (.out e) ks F st):RetP prog R ks F e st:=Z2Q mixed 1000 h
def inR (n lo hi:Int):Bool:=decide (lo<=n/\n<=hi)
def Yf {n:Int} (h0:-9223372036854775808<=n:=by omega) (h1:n<=9223372036854775807:=by omega):i64.wrap n=n:=IntWalk.i64_in _ ⟨h0,h1⟩
def RndF (S:Nat->St) (I:Nat->Prop) (i:Nat) (Φ:Exit->St->Prop):Exit->St->Prop
 |.normal,st=>Ym st (S (i+1))/\I (i+1)
 |e,st=>Φ e st
def RndE (Φ:Exit->St->Prop):Exit->St->Prop
 |.normal,_=>False
 |e,st=>Φ e st
section
variable {P:Program} {R:Run} {st:St} {Φ:Exit->St->Prop} {S:Nat->St} {I:Nat->Prop} {i:Nat}
def Z8h:RndF S I i Φ .normal st=(Ym st (S (i+1))/\I (i+1)):=rfl
def Z8i:RndF S I i Φ .ret st=Φ .ret st:=rfl
def Z8j {j:Nat}:RndF S I i Φ (.exit j) st=Φ (.exit j) st:=rfl
def Z8k:RndE Φ .ret st=Φ .ret st:=rfl
def Z8l {j:Nat}:RndE Φ (.exit j) st=Φ (.exit j) st:=rfl
attribute [simp] Z8h Z8i Z8j Z8k Z8l
def Z8m {c:RCode} (S:Nat->St) (I:Nat->Prop) (N:Nat) (h0:Ym st (S 0)) (hi:I 0) (hr:∀ i,i<N->I i->AR P R c (S i) (RndF S I i Φ)) (he:I N->AR P R c (S N) (RndE Φ)):AR P R (.loop c) st Φ:=by
 refine Z1Q S (λi=>i<=N/\I i) (λi=>N-i) 0 h0 ⟨W1e _,hi⟩ ?_;rintro i ⟨h1,h2⟩;by_cases h3:i<N
 . refine Z2I (hr i h3 h2) λe s hs=>?_
   cases e with
   |normal=>exact ⟨i+1,hs.1,⟨by omega,hs.2⟩,by show N-(i+1)<N-i;omega⟩
   |_=>exact hs
 . obtain rfl:i=N:=(by omega);refine Z2I (he h2) λe s hs=>?_
   cases e with
   |normal=>exact hs.elim
   |_=>exact hs
end
structure Iss where
 d:Int
 l:Int
 k:Int
 its:List (Int×Int)
 dms:List Dm
 deriving DecidableEq,Inhabited
def ia (n:Int):List AV:=[.int .i64 n]
def ita (p:Int×Int):List AV:=[.int .i64 p.1,.int .i64 p.2]
def dma (d:Dm):List AV:=[.int .i64 d.n,.int .i64 d.l,.int .i64 d.u]
def isa (x:Iss):List AV:=[.int .i64 x.d,.int .i64 x.l,.int .u8 x.k,.vsl (x.its.map ita),.vsl (x.dms.map dma)]
def rega (r:List Iss):AV:=.agg [.vsl (r.map isa)]
def Sml {α:Type} (l:List α):Prop:=l.length<=16777216
def Z8n (n lo hi:Int):PC prog G 104 [.int .i64 n,.int .i64 lo,.int .i64 hi] (.bool (inR n lo hi)):=by
 (refine Z7A rfl λR hG hrd=>Yb mixed 1000 ?_;subst hG)
 by_cases h1:lo<=n <;> simp -implicitDefEqProofs[Z7y,Z7z,h1,inR]
def Z8o (n l u:Int):PC prog G 99 [.agg [.int .i64 n,.int .i64 l,.int .i64 u]] (.bool (vd ⟨n,l,u⟩)):=by
 (refine Z7D rfl λR hG hrd=>Yb mixed 1000 ?_;subst hG)
 have e:vd ⟨n,l,u⟩=(inR n 0 1000000000&&(inR u 0 1000000000&&inR l 0 u)):=by
  unfold vd inR;rw[<- Bool.decide_and,<- Bool.decide_and];exact decide_eq_decide.2 (by simp only;omega)
 simp -implicitDefEqProofs[Z7B,Z7C,e];refine Qco (Z8n _ _ _) ?_
 cases h1:inR n 0 1000000000
 . simp -implicitDefEqProofs
 . simp -implicitDefEqProofs;refine Qco (Z8n _ _ _) ?_
   cases h2:inR u 0 1000000000
   . simp -implicitDefEqProofs
   . simp -implicitDefEqProofs;refine Qco (Z8n _ _ _) ?_;simp -implicitDefEqProofs
def Z8p (n lo hi:Int):PC prog G 85 [.int .i64 n,.int .i64 lo,.int .i64 hi] (.bool (inR n lo hi)):=by
 (refine Z7G rfl λR hG hrd=>Yb mixed 1000 ?_;subst hG)
 by_cases h1:lo<=n <;> simp -implicitDefEqProofs[Z7E,Z7F,h1,inR]
def idx (l:List Int) (n:Int):Int:=if n∈l then (l.idxOf n:Int) else -1
def Z8q {l:List Int} {n:Int} {i:Nat} (hi:i<l.length) (he:l[i]=n) (hb:∀ j (h:j<i),l[j]≠n):idx l n=i:=by
 have hm:n∈l:=(by rw[<- he];exact W0e hi);rw[idx,if_pos hm];have h1:l.idxOf n<l.length:=List.idxOf_lt_length_iff.2 hm;have h2:l[l.idxOf n]=n:=List.getElem_idxOf h1;have h3:¬l.idxOf n<i:=λh=>hb _ h h2
 have h4:¬i<l.idxOf n:=λh=>by
  have:=List.not_of_lt_findIdx (p:=(· == n)) h;simp[he]at this
 congr 1;omega
def Z8r {l:List Int} {n:Int} (hb:∀ j (h:j<l.length),l[j]≠n):idx l n = -1:=by
 rw[idx,if_neg];intro hm;obtain ⟨j,h1,h2⟩:=W0k hm;exact hb j h1 h2
def Z8s (l:List Int) (n:Int) (hl:Sml l):PC prog G 88 [.vsl (l.map ia),.int .i64 n] (.int .i64 (idx l n)):=by
 (refine Z7P rfl λR hG hrd=>Yb mixed 1000 ?_;subst hG)
 simp -implicitDefEqProofs[Z7N,Z7O];refine Z8m (λi=>⟨[(5,.int .i64 i),(0,.vsl (l.map ia)),(1,.int .i64 n)],[]⟩) (λi=>∀ j (h:j<l.length),j<i->l[j]≠n) l.length (by (first|exact Wka|exact Wkb)) (by simp) ?_ ?_
 . intro i hi he;refine Yb mixed 1000 ?_;unfold Sml at hl;have w1:i64.wrap ((i:Int)+1)=((i+1:Nat):Int):=Yf;by_cases h2:l[i]=n
   . simp -implicitDefEqProofs[hi,ia,h2];refine Z2Q mixed 1000 ?_;simp -implicitDefEqProofs[Z8q hi h2 (λj h=>he j (by omega) h)]
   . simp -implicitDefEqProofs[hi,ia,h2,w1];refine ⟨(by (first|exact Wka|exact Wkb)),λj h1 h3=>?_⟩;by_cases e:j=i
     . subst e;exact h2
     . exact he j h1 (by omega)
 . intro he;refine Yb mixed 1000 ?_;simp -implicitDefEqProofs;refine Z2Q mixed 1000 ?_;simp -implicitDefEqProofs[Z8r (λj h=>he j h h)]
def Z8t (a b:List Int) (ha:Sml a):PC prog G 27 [.vsl (a.map ia),.vsl (b.map ia)] (.bool (decide (a=b))):=by
 (refine Z81 rfl λR hG hrd=>Yb mixed 1000 ?_;subst hG)
 by_cases hl:a.length=b.length
 . have hl':(a.length:Int)=b.length:=(by omega);simp -implicitDefEqProofs[Z7Z,Z80,hl'];refine Z8m (λi=>⟨[(5,.int .i64 i),(0,.vsl (a.map ia)),(1,.vsl (b.map ia))],[]⟩) (λi=>∀ j (h:j<a.length),j<i->a[j]=b[j]) a.length (by (first|exact Wka|exact Wkb)) (by simp) ?_ ?_
   . intro i hi he;refine Yb mixed 1000 ?_;unfold Sml at ha;have hi2:i<b.length:=(by omega);have w1:i64.wrap ((i:Int)+1)=((i+1:Nat):Int):=Yf;by_cases h2:a[i]=b[i]
     . simp -implicitDefEqProofs[hi,hi2,ia,h2,w1];refine ⟨rfl,(by (first|exact Wka|exact Wkb)),λj h1 h3=>?_⟩;by_cases e:j=i
       . subst e;exact h2
       . exact he j h1 (by omega)
     . have h3:¬a=b:=λe=>h2 (by subst e;rfl)
       simp -implicitDefEqProofs[hi,hi2,ia,h2];refine ⟨rfl,?_⟩;refine Z2Q mixed 1000 ?_;simp -implicitDefEqProofs[h3]
   . intro he;refine Yb mixed 1000 ?_;have h3:a=b:=W1E hl λj h1 h2=>he j h1 h1
     simp -implicitDefEqProofs;refine Z2Q mixed 1000 ?_;simp -implicitDefEqProofs[h3]
 . have hl':¬(a.length:Int)=b.length:=(by omega);have h3:¬a=b:=λe=>hl (by rw[e])
   simp -implicitDefEqProofs[Z7Z,Z80,hl',h3]
abbrev Jr:=List Iss
def nz:AV->AV
 |.nils=>.vsl []
 |.agg xs=>.agg (xs.attach.map λ⟨x,_⟩=>nz x)
 |.tup xs=>.tup (xs.attach.map λ⟨x,_⟩=>nz x)
 |x=>x
def nz_at (xs:List AV):(xs.attach.map λ⟨x,_⟩=>nz x)=xs.map nz:=by
 have h:(xs.attach.map λ⟨x,_⟩=>nz x)=(xs.attach.map Subtype.val).map nz:=(by rw[W10];rfl);rw[h,List.attach_map_subtype_val]
def Z8u (xs:List AV):nz (.agg xs) = .agg (xs.map nz):=by rw[nz,nz_at]
def Z8v (xs:List AV):nz (.tup xs) = .tup (xs.map nz):=by rw[nz,nz_at]
def PV.nz {M:Nat->Prop} {W:World} {x:AV} {v:Value} (h:PV M W x v):PV M W (nz x) v:=by
 induction h with
 |nils=>simp only[Go.Proofs.YthlcppdbldkldaaDoor.nz];exact .vsl [] none 0 1 0 0 (λ_ _=>undef) (W0f _) (W1e _) (λh=>absurd rfl h) (λ_=>⟨rfl,rfl⟩) (by simp) (by simp) (by simp)
 | agg xs us h1 hx ih =>
   rw[Z8u];refine .agg _ us (by simpa using h1) λi x u hi hu=>?_
   rw[W09,W04]at hi;obtain ⟨y,hy,rfl⟩:=hi;exact ih i y u hy hu
 | tup xs us h1 hx ih =>
   rw[Z8v];refine .tup _ us (by simpa using h1) λi x u hi hu=>?_
   rw[W09,W04]at hi;obtain ⟨y,hy,rfl⟩:=hi;exact ih i y u hy hu
 |hole=>simp only[Go.Proofs.YthlcppdbldkldaaDoor.nz];exact .hole
 |int k n=>simp only[Go.Proofs.YthlcppdbldkldaaDoor.nz];exact .int k n
 |bool b=>simp only[Go.Proofs.YthlcppdbldkldaaDoor.nz];exact .bool b
 |abool b=>simp only[Go.Proofs.YthlcppdbldkldaaDoor.nz];exact .abool b
 |str s=>simp only[Go.Proofs.YthlcppdbldkldaaDoor.nz];exact .str s
 |nilp=>simp only[Go.Proofs.YthlcppdbldkldaaDoor.nz];exact .nilp
 |nilm=>simp only[Go.Proofs.YthlcppdbldkldaaDoor.nz];exact .nilm
 |nilf=>simp only[Go.Proofs.YthlcppdbldkldaaDoor.nz];exact .nilf
 |nes a c h=>simp only[Go.Proofs.YthlcppdbldkldaaDoor.nz];exact .nes a c h
 |vptr cells off b o f hb hM hc hr ih=>simp only[Go.Proofs.YthlcppdbldkldaaDoor.nz];exact .vptr cells off b o f hb hM hc hr
 |vsl rows a cap sz b o f hcap hmax ha hn hs hc hr ih=>simp only[Go.Proofs.YthlcppdbldkldaaDoor.nz];exact .vsl rows a cap sz b o f hcap hmax ha hn hs hc hr
 |func fn xs ys us vs h1 h2 hx hy ihx ihy=>simp only[Go.Proofs.YthlcppdbldkldaaDoor.nz];exact .func fn xs ys us vs h1 h2 hx hy
 |vmap kvs b es clock hb hM ho hs hn hk' hv ihk ihv=>simp only[Go.Proofs.YthlcppdbldkldaaDoor.nz];exact .vmap kvs b es clock hb hM ho hs hn hk' hv
def PC.nzR {P:Program} {G:Jg} {f:FuncId} {args:List AV} {v v':AV} (h:PC P G f args v) (e:nz v=v'):PC P G f args v':=by
 subst e;refine ⟨h.1,λM W vs hM hG hs hv=>(h.2 M W vs hM hG hs hv).mono ?_⟩;rintro e W' ⟨u,h1,h2,h3⟩;exact ⟨u,h1,h2.nz,h3⟩
def Z8w {a b:Int×Int} (h:¬a=b):(!decide (a.1=b.1) || !decide (a.2=b.2))=true:=by
 cases h5:(!decide (a.1=b.1) || !decide (a.2=b.2))
 . simp only[W1N,Bool.not_eq_false',W0b]at h5;exact absurd (Prod.ext h5.1 h5.2) h
 . rfl
def dm_ne {a b:Dm} (h:¬a=b):(!decide (a.n=b.n)||(!decide (a.l=b.l) || !decide (a.u=b.u)))=true:=by
 cases h5:(!decide (a.n=b.n)||(!decide (a.l=b.l) || !decide (a.u=b.u)))
 . simp only[W1N,Bool.not_eq_false',W0b]at h5
   cases a;cases b;simp_all
 . rfl
def Z8x (a b:List (Int×Int)) (ha:Sml a):PC prog G 25 [.vsl (a.map ita),.vsl (b.map ita)] (.bool (decide (a=b))):=by
 (refine Z84 rfl λR hG hrd=>Qga ?_;subst hG)
 by_cases hl:a.length=b.length
 . have hl':(a.length:Int)=b.length:=(by omega);simp -implicitDefEqProofs[Z82,Z83,hl'];refine Z8m (λi=>⟨[(5,.int .i64 i),(0,.vsl (a.map ita)),(1,.vsl (b.map ita))],[]⟩) (λi=>∀ j (h:j<a.length),j<i->a[j]=b[j]) a.length (by (first|exact Wka|exact Wkb)) (by simp) ?_ ?_
   . intro i hi he;refine Qga ?_;unfold Sml at ha;have hi2:i<b.length:=(by omega);have w1:i64.wrap ((i:Int)+1)=((i+1:Nat):Int):=Yf;simp -implicitDefEqProofs[hi,hi2,ita];refine ⟨rfl,?_⟩;by_cases h2:a[i]=b[i]
     . simp -implicitDefEqProofs[h2,w1];refine ⟨(by (first|exact Wka|exact Wkb)),λj h1 h3=>?_⟩;by_cases e:j=i
       . subst e;exact h2
       . exact he j h1 (by omega)
     . have h3:¬a=b:=λe=>h2 (by subst e;rfl)
       rw[Z8w h2];simp -implicitDefEqProofs;refine Qgr ?_;simp -implicitDefEqProofs[h3]
   . intro he;refine Qga ?_;have h3:a=b:=W1E hl λj h1 h2=>he j h1 h1
     simp -implicitDefEqProofs;refine Qgr ?_;simp -implicitDefEqProofs[h3]
 . have hl':¬(a.length:Int)=b.length:=(by omega);have h3:¬a=b:=λe=>hl (by rw[e])
   simp -implicitDefEqProofs[Z82,Z83,hl',h3]
def Z8y (a b:Iss) (h1:Sml a.its) (h2:Sml a.dms):PC prog G 48 [.agg (isa a),.agg (isa b)] (.bool (decide (a=b))):=by
 (refine Z87 rfl λR hG hrd=>Qga ?_;subst hG)
 by_cases e1:a.d=b.d
 case neg =>
  have e:¬a=b:=λe=>e1 (by rw[e])
  simp -implicitDefEqProofs[Z85,Z86,isa,e1,e]
 by_cases e2:a.l=b.l
 case neg =>
  have e:¬a=b:=λe=>e2 (by rw[e])
  simp -implicitDefEqProofs[Z85,Z86,isa,e1,e2,e]
 by_cases e3:a.k=b.k
 case neg =>
  have e:¬a=b:=λe=>e3 (by rw[e])
  simp -implicitDefEqProofs[Z85,Z86,isa,e1,e2,e3,e]
 simp -implicitDefEqProofs[Z85,Z86,isa,e1,e2,e3];refine Qco (Z8x a.its b.its h1) ?_;by_cases e4:a.its=b.its
 case neg =>
  have e:¬a=b:=λe=>e4 (by rw[e])
  simp -implicitDefEqProofs[e4,e]
 by_cases e5:a.dms.length=b.dms.length
 case neg =>
  have e5':¬(a.dms.length:Int)=b.dms.length:=(by omega);have e:¬a=b:=λe=>e5 (by rw[e])
  simp -implicitDefEqProofs[e4,e5',e]
 have e5':(a.dms.length:Int)=b.dms.length:=(by omega);simp -implicitDefEqProofs[e4,e5'];refine Z8m (λi=>⟨[(5,.int .i64 i),(2,.ptr 2 0),(3,.ptr 3 0)],[(2,.box (isa a)),(3,.box (isa b))]⟩) (λi=>∀ j (h:j<a.dms.length),j<i->a.dms[j]=b.dms[j]) a.dms.length (by (first|exact Ym.tm (by simp[lk,isa,e1,e2,e3,e4])|exact Ym.sub (by simp[lk,Ya,AV.keys,isa,e1,e2,e3,e4]) (by simp[lk,Yc,Ya,AV.keys,isa,e1,e2,e3,e4]))) (by simp) ?_ ?_
 . intro i hi he;refine Qga ?_;unfold Sml at h2;have hi2:i<b.dms.length:=(by omega);have w1:i64.wrap ((i:Int)+1)=((i+1:Nat):Int):=Yf;simp -implicitDefEqProofs[hi,hi2,isa,dma];refine ⟨rfl,?_⟩;by_cases h2:a.dms[i]=b.dms[i]
   . simp -implicitDefEqProofs[h2,w1];refine ⟨(by (first|exact Ym.tm (by simp[lk,isa,dma])|exact Ym.sub (by simp[lk,Ya,AV.keys,isa,dma]) (by simp[lk,Yc,Ya,AV.keys,isa,dma]))),λj h1 h3=>?_⟩;by_cases e:j=i
     . subst e;exact h2
     . exact he j h1 (by omega)
   . have h3:¬a=b:=λe=>h2 (by subst e;rfl)
     rw[dm_ne h2];simp -implicitDefEqProofs;refine Qgr ?_;simp -implicitDefEqProofs[h3]
 . intro he;refine Qga ?_;have h3:a.dms=b.dms:=W1E e5 λj h1 h2=>he j h1 h1
   have h4:a=b:=(by cases a;cases b;simp_all);simp -implicitDefEqProofs[isa];refine Qgr ?_;simp -implicitDefEqProofs[h4]
def SmlR (r:Jr):Prop:=Sml r/\∀ x∈r,Sml x.its/\Sml x.dms
def Z8z (a b:Jr) (ha:SmlR a):PC prog G 13 [rega a,rega b] (.bool (decide (a=b))):=by
 (refine Z8a rfl λR hG hrd=>Qga ?_;subst hG)
 by_cases hl:a.length=b.length
 . have hl':(a.length:Int)=b.length:=(by omega);simp -implicitDefEqProofs[Z88,Z89,hl',rega];refine Z8m (λi=>⟨[(5,.int .i64 i),(2,.ptr 2 0),(3,.ptr 3 0)],[(2,.box [.vsl (a.map isa)]),(3,.box [.vsl (b.map isa)])]⟩) (λi=>∀ j (h:j<a.length),j<i->a[j]=b[j]) a.length (by (first|exact Wka|exact Wkb)) (by simp) ?_ ?_
   . intro i hi he;refine Qga ?_;have hs:=ha.1;unfold Sml at hs;have hi2:i<b.length:=(by omega);have w1:i64.wrap ((i:Int)+1)=((i+1:Nat):Int):=Yf;have hx:=ha.2 a[i] (W0e hi);simp -implicitDefEqProofs[hi,hi2,isa];refine Qco (Z8y a[i] b[i] hx.1 hx.2) ?_;simp -implicitDefEqProofs;refine ⟨rfl,?_⟩;by_cases h2:a[i]=b[i]
     . simp -implicitDefEqProofs[h2,w1];refine ⟨(by (first|exact Wka|exact Wkb)),λj h1 h3=>?_⟩;by_cases e:j=i
       . subst e;exact h2
       . exact he j h1 (by omega)
     . have h3:¬a=b:=λe=>h2 (by subst e;rfl)
       simp -implicitDefEqProofs[h2];refine Qgr ?_;simp -implicitDefEqProofs[h3]
   . intro he;refine Qga ?_;have h3:a=b:=W1E hl λj h1 h2=>he j h1 h1
     simp -implicitDefEqProofs;refine Qgr ?_;simp -implicitDefEqProofs[h3]
 . have hl':¬(a.length:Int)=b.length:=(by omega);have h3:¬a=b:=λe=>hl (by rw[e])
   simp -implicitDefEqProofs[Z88,Z89,hl',h3,rega]
def at' (r:Jr) (i:Nat):Iss:=r.getD i default
def at_eq {r:Jr} {i:Nat} (h:i<r.length):at' r i=r[i]:=by simp[at',List.getD,h]
def newB (r:Jr) (i:Nat):Bool:=i == 0 || !decide ((at' r (i-1)).d=(at' r i).d)
def numsN (r:Jr):Nat->List Int
 |0=>[]
 |i+1=>if newB r i=true then numsN r i++[(at' r i).d] else numsN r i
def nums (r:Jr):List Int:=numsN r r.length
def Z8A (r:Jr):∀ i,(numsN r i).length<=i
 |0=>by simp[numsN]
 | i+1=>by
   have:=Z8A r i;simp only[numsN]
   split
   . simp;omega
   . omega
def lastN (r:Jr) (n:Int):Nat->Int
 |0=>0
 |i+1=>if (at' r i).d=n then max (lastN r n i) (at' r i).l else lastN r n i
def lastV (r:Jr) (n:Int):Int:=lastN r n r.length
def findN (d l:Int):List Iss->Option Iss
 |[]=>none
 |x::r=>if x.d=d/\x.l=l then some x else findN d l r
def noIs:AV:=.agg [.int .i64 0,.int .i64 0,.int .u8 0,.nils,.nils]
def fndA:Option Iss->AV
 |some x=>.tup [.agg (isa x),.bool true]
 |none=>.tup [noIs,.bool false]
def Z8B (r:Jr):Bool:=decide (80<r.length)||r.any λx=>decide (16<x.its.length)||decide (8<x.dms.length)
def Z8C {d l:Int}:∀ {r:Jr} {i:Nat} (h:i<r.length),r[i].d=d->r[i].l=l->(∀ j (h:j<r.length),j<i->¬(r[j].d=d/\r[j].l=l))->findN d l r=some r[i]
 |x::r,0,h,h1,h2,_=>by simp only[findN];rw[if_pos ⟨h1,h2⟩];rfl
 | x::r,i+1,h,h1,h2,hb=>by
   simp only[findN];rw[if_neg (show ¬(x.d=d/\x.l=l) from hb 0 (by simp) (by omega))];exact Z8C (by simpa using h) h1 h2 λj hj hi=>hb (j+1) (by simpa using hj) (by omega)
def Z8D (x:Iss) (h1:Sml x.its) (h2:Sml x.dms):PC prog G 32 [.agg (isa x)] (.agg (isa x)):=by
 (refine Z8d rfl λR hG hrd=>Qga ?_;subst hG)
 unfold Sml at h1 h2;have b1:x.its.length*16<=70368744177664:=(by omega);have b2:x.dms.length*24<=70368744177664:=(by omega);have k1:(x.its.map ita).all (λr=>r.length == 2)=true:=(by simp[ita]);have k2:(x.its.map ita).all (λr=>r.all AV.one)=true:=(by simp[ita,AV.one]);have k3:(x.dms.map dma).all (λr=>r.length == 3)=true:=(by simp[dma]);have k4:(x.dms.map dma).all (λr=>r.all AV.one)=true:=(by simp[dma,AV.one]);have k5:(x.its.map ita).all (λr=>r.all AV.pure)=true:=(by simp[ita,AV.pure]);have k6:(x.dms.map dma).all (λr=>r.all AV.pure)=true:=(by simp[dma,AV.pure]);by_cases e1:x.its=[] <;> by_cases e2:x.dms=[]
 . simp -implicitDefEqProofs[Z8b,Z8c,isa,e1,e2]
   try rfl
 . simp -implicitDefEqProofs[Z8b,Z8c,isa,e1,e2,b2,k3,k4,k6]
   try rfl
 . simp -implicitDefEqProofs[Z8b,Z8c,isa,e1,e2,b1,k1,k2,k5]
   try rfl
 . simp -implicitDefEqProofs[Z8b,Z8c,isa,e1,e2,b1,b2,k1,k2,k3,k4,k5,k6]
   try rfl
def Z8E (r:Jr) (h:Sml r):PC prog G 6 [rega r] (.bool (Z8B r)):=by
 (refine Z8g rfl λR hG hrd=>Qga ?_;subst hG)
 unfold Sml at h;by_cases h1:80<r.length
 . have h1':(80:Int)<r.length:=(by omega);simp -implicitDefEqProofs[Z8e,Z8f,rega,h1',Z8B,h1]
 have h1':¬(80:Int)<r.length:=(by omega);simp -implicitDefEqProofs[Z8e,Z8f,rega,h1'];refine Z8m (λi=>⟨[(3,.int .i64 i),(1,.ptr 1 0)],[(1,.box [.vsl (r.map isa)])]⟩) (λi=>∀ j (h:j<r.length),j<i->r[j].its.length<=16/\r[j].dms.length<=8) r.length (by (first|exact Wka|exact Wkb)) (by simp) ?_ ?_
 . intro i hi he;refine Qga ?_;have w1:i64.wrap ((i:Int)+1)=((i+1:Nat):Int):=Yf
   have bad:(16<r[i].its.length∨8<r[i].dms.length)->Z8B r=true:=λhb=>by
    simp only[Z8B,W0T,W14,W0b];exact .inr ⟨r[i],W0e hi,hb⟩
   by_cases h2:16<r[i].its.length
   . have h2':(16:Int)<r[i].its.length:=(by omega);simp -implicitDefEqProofs[hi,isa,h2'];refine Qgr ?_;simp -implicitDefEqProofs[bad (.inl h2)]
   have h2':¬(16:Int)<r[i].its.length:=(by omega);by_cases h3:8<r[i].dms.length
   . have h3':(8:Int)<r[i].dms.length:=(by omega);simp -implicitDefEqProofs[hi,isa,h2',h3'];refine Qgr ?_;simp -implicitDefEqProofs[bad (.inr h3)]
   have h3':¬(8:Int)<r[i].dms.length:=(by omega);simp -implicitDefEqProofs[hi,isa,h2',h3',w1];refine ⟨(by (first|exact Wka|exact Wkb)),λj q1 q3=>?_⟩;by_cases e:j=i
   . subst e;exact ⟨by omega,by omega⟩
   . exact he j q1 (by omega)
 . intro he;refine Qga ?_
   have hg:Z8B r=false:=by
    simp only[Z8B,W1N,W1a,h1,not_false_eq_true,true_and,W1Y,Bool.not_eq_true,W0T,W0b];intro x hx;obtain ⟨j,hj,rfl⟩:=W0k hx;have:=he j hj hj;omega
   simp -implicitDefEqProofs;refine Qgr ?_;simp -implicitDefEqProofs[hg]
def itAt (x:Iss) (i:Nat):Int×Int:=x.its.getD i (0,0)
def itOk (x:Iss) (i:Nat):Bool:=inR (itAt x i).1 1 9999&&inR (itAt x i).2 1 20 && !decide ((itAt x i).1=x.d)&&(i == 0||decide ((itAt x (i-1)).1<(itAt x i).1))
def headB (x:Iss):Bool:=inR x.d 1 9999&&inR x.l 1 8&&inR x.k 1 3&&(if x.k=1 then inR x.its.length 1 8&&decide (x.dms.length=0) else decide (x.dms.length<=4)&&decide (x.its.length=0))
def issB (x:Iss):Bool:=headB x&&(List.range x.its.length).all (itOk x)&&x.dms.all vd
def Z8F {n:Nat} {p:Nat->Bool}:(List.range n).all p=true↔∀ j,j<n->p j=true:=by simp[W03]
def nuS (r:Jr):Nat->St
 |0=>⟨[(4,.int .i64 0),(3,.nils),(1,.ptr 1 0)],[(1,.box [.vsl (r.map isa)])]⟩
 |i+1=>⟨[(4,.int .i64 (i+1:Nat)),(3,.osl 35 (numsN r (i+1)).length),(1,.ptr 1 0)],[(1,.box [.vsl (r.map isa)]),(35,.row 1 ((numsN r (i+1)).map ia))]⟩
def Z8G (r:Jr) (h:Sml r) (h0:r≠[]):PC prog G 87 [rega r] (.vsl ((nums r).map ia)):=by
 (refine Z7M rfl λR hG hrd=>Qga ?_;subst hG)
 unfold Sml at h;simp -implicitDefEqProofs[Z7K,Z7L,rega];refine Z8m (nuS r) (λ_=>True) r.length (by simp only[nuS];(first|exact Wka|exact Wkb)) trivial ?_ ?_
 . intro i hi he;refine Qga ?_;have e1:=at_eq hi
   cases i with
   | zero =>
     have hn:numsN r 1=[r[0].d]:=(by simp[numsN,newB,e1]);have w1:i64.wrap 1=1:=rfl;simp -implicitDefEqProofs[nuS,hi,isa,w1];exact Ym.sub (by simp[lk,Ya,AV.keys,hn]) (by simp[lk,Yc,Ya,AV.keys,hn,ia])
   | succ i =>
     have w1:i64.wrap ((i:Int)+1+1)=(i:Int)+1+1:=Yf;have w2:i64.wrap (i:Int)=(i:Int):=Yf;have k1:(i:Int)+1<r.length:=(by omega);have k2:((i:Int)+1).toNat=i+1:=(by omega);have k3:(0:Int)<=(i:Int)+1:=(by omega);have k4:¬(i:Int)+1=0:=(by omega);have hi2:i<r.length:=(by omega);have e2:=at_eq hi2;have b1:=Z8A r (i+1);have b2:((numsN r (i+1)).length+1)*8<=70368744177664:=(by omega);by_cases h2:r[i].d=r[i+1].d
     . have hn:numsN r (i+1+1)=numsN r (i+1):=(by rw[numsN];simp[newB,e1,e2,h2]);simp -implicitDefEqProofs[nuS,hi,hi2,k1,k2,k3,k4,isa,w1,w2,h2];exact Ym.sub (by simp[lk,Ya,AV.keys,hn]) (by simp[lk,Yc,Ya,AV.keys,hn,ia])
     . have hn:numsN r (i+1+1)=numsN r (i+1)++[r[i+1].d]:=(by rw[numsN];simp[newB,e1,e2,h2]);simp -implicitDefEqProofs[nuS,hi,hi2,k1,k2,k3,k4,isa,w1,w2,h2,b2];exact Ym.sub (by simp[lk,Ya,AV.keys,hn]) (by simp[lk,Yc,Ya,AV.keys,hn,ia])
 . intro he;refine Qga ?_
   obtain ⟨n,hn⟩ : ∃ n,r.length=n+1:=⟨r.length-1,by
    have:r.length≠0:=(by simpa using h0);omega⟩
   have e:numsN r (n+1)=nums r:=(by rw[nums,hn]);have pu:((nums r).map ia).all (λx=>x.all AV.pure)=true:=(by simp[ia,AV.pure]);rw[hn];have k1:¬(n:Int)+1<n+1:=(by omega);simp -implicitDefEqProofs[nuS,e,hn,k1];refine Qgr ?_;simp -implicitDefEqProofs[pu]
def Z8H (x:Iss) (h1:Sml x.its) (h2:Sml x.dms) (hk:0<=x.k/\x.k<=255):PC prog G 86 [.agg (isa x)] (.bool (issB x)):=by
 (refine Z7J rfl λR hG hrd=>Qga ?_;subst hG)
 unfold Sml at h1 h2;have wk:i64.wrap x.k=x.k:=Yf;have bad:headB x=false->issB x=false:=λe=>by simp[issB,e]
 simp -implicitDefEqProofs[Z7H,Z7I,isa];refine Qco (Z8p _ _ _) ?_
 cases q1:inR x.d 1 9999
 . simp -implicitDefEqProofs[bad (by simp[headB,q1])]
 simp -implicitDefEqProofs;refine Qco (Z8p _ _ _) ?_
 cases q2:inR x.l 1 8
 . simp -implicitDefEqProofs[bad (by simp[headB,q2])]
 simp -implicitDefEqProofs[wk];refine Qco (Z8p _ _ _) ?_
 cases q3:inR x.k 1 3
 . simp -implicitDefEqProofs[bad (by simp[headB,q3])]
 have q3':1<=x.k/\x.k<=3:=W0X q3;by_cases c1:x.k=1
 . simp -implicitDefEqProofs [c1];refine Qco (Z8p _ _ _) ?_
   cases q4:inR x.its.length 1 8
   . simp -implicitDefEqProofs[bad (by simp[headB,q4,c1])]
   have n1:¬(1:Int)<1:=(by omega);by_cases q5:x.dms.length=0
   . have q5n : ¬0<x.dms.length:=(by omega);have hB:headB x=true:=(by simp[headB,q1,q2,c1,q4,q5];rfl);simp -implicitDefEqProofs[q5n,q5];refine Z8m (λi=>⟨[(3,.int .i64 i),(1,.ptr 1 0)],[(1,.box (isa x))]⟩) (λi=>∀ j,j<i->itOk x j=true) x.its.length (by (first|exact Ym.tm (by simp[lk,isa,c1])|exact Ym.sub (by simp[lk,Ya,AV.keys,isa,c1]) (by simp[lk,Yc,Ya,AV.keys,isa,c1]))) (by simp) ?_ ?_
     . intro i hi he;refine Qga ?_;have w1:i64.wrap ((i:Int)+1)=((i+1:Nat):Int):=Yf;have a1:itAt x i=x.its[i]:=by simp[itAt,List.getD,hi]
       have no:itOk x i=false->issB x=false:=λe=>by
        cases hI:issB x
        . rfl
        . simp only[issB,W01]at hI;rw[Z8F.1 hI.1.2 i hi]at e;cases e
       simp -implicitDefEqProofs[hi,isa,ita];refine Qco (Z8p _ _ _) ?_
       cases p1:inR x.its[i].1 1 9999
       . simp -implicitDefEqProofs;refine ⟨rfl,?_⟩;refine Qgr ?_;simp -implicitDefEqProofs[no (by simp[itOk,a1,p1])]
       simp -implicitDefEqProofs;refine Qco (Z8p _ _ _) ?_
       cases p2:inR x.its[i].2 1 20
       . simp -implicitDefEqProofs;refine ⟨rfl,?_⟩;refine Qgr ?_;simp -implicitDefEqProofs[no (by simp[itOk,a1,p2])]
       by_cases p3:x.its[i].1=x.d
       . simp -implicitDefEqProofs[p3];refine ⟨rfl,?_⟩;refine Qgr ?_;simp -implicitDefEqProofs[no (by simp[itOk,a1,p3])]
       cases i with
       | zero =>
         have ok:itOk x 0=true:=(by simp[itOk,a1,p1,p2,p3]);have w0:i64.wrap 1=1:=rfl;simp -implicitDefEqProofs[p3,w0];exact ⟨rfl,(by (first|exact Ym.tm (by simp[lk,isa])|exact Ym.sub (by simp[lk,Ya,AV.keys,isa]) (by simp[lk,Yc,Ya,AV.keys,isa]))),ok⟩
       | succ i =>
         have w2:i64.wrap (i:Int)=(i:Int):=Yf;have w3:i64.wrap ((i:Int)+1+1)=(i:Int)+1+1:=Yf;have k3:(0:Int)<(i:Int)+1:=(by omega);have hi2:i<x.its.length:=(by omega);have a2:itAt x i=x.its[i]:=(by simp[itAt,List.getD,hi2]);by_cases p4:x.its[i+1].1<=x.its[i].1
         . simp -implicitDefEqProofs[p3,k3,w2,hi2,ita,p4];refine ⟨rfl,?_⟩;refine Qgr ?_;simp -implicitDefEqProofs[no (by simp[itOk,a1,a2,p4])]
         . have ok:itOk x (i+1)=true:=(by simp[itOk,a1,a2,p1,p2,p3];omega);simp -implicitDefEqProofs[p3,k3,w2,w3,hi2,ita,p4];refine ⟨rfl,(by (first|exact Ym.tm (by simp[lk,isa])|exact Ym.sub (by simp[lk,Ya,AV.keys,isa]) (by simp[lk,Yc,Ya,AV.keys,isa]))),λj hj=>?_⟩;by_cases e:j=i+1
           . subst e;exact ok
           . exact he j (by omega)
     . intro he;refine Qga ?_;have hI:(List.range x.its.length).all (itOk x)=true:=Z8F.2 he;simp -implicitDefEqProofs[isa];refine Qgr ?_;simp -implicitDefEqProofs;refine Z8m (λi=>⟨[(5,.int .i64 i),(1,.ptr 1 0)],[(1,.box (isa x))]⟩) (λi=>∀ j (h:j<x.dms.length),j<i->vd x.dms[j]=true) x.dms.length (by (first|exact Ym.tm (by simp[lk,isa])|exact Ym.sub (by simp[lk,Ya,AV.keys,isa]) (by simp[lk,Yc,Ya,AV.keys,isa]))) (by simp) ?_ ?_
       . intro i hi he;refine Qga ?_;have w1:i64.wrap ((i:Int)+1)=((i+1:Nat):Int):=Yf;simp -implicitDefEqProofs[hi,isa,dma];refine Qco (Z8o _ _ _) ?_
         cases p1:vd x.dms[i]
         . have hn:issB x=false:=by
            cases hI2:issB x
            . rfl
            . simp only[issB,W01]at hI2;rw[W03.1 hI2.2 _ (W0e hi)]at p1;cases p1
           have p1':vd ⟨x.dms[i].n,x.dms[i].l,x.dms[i].u⟩=false:=p1;simp -implicitDefEqProofs[p1'];refine Qgr ?_;simp -implicitDefEqProofs[hn]
         . have p1':vd ⟨x.dms[i].n,x.dms[i].l,x.dms[i].u⟩=true:=p1;simp -implicitDefEqProofs[p1',w1];refine ⟨(by (first|exact Ym.tm (by simp[lk,isa])|exact Ym.sub (by simp[lk,Ya,AV.keys,isa]) (by simp[lk,Yc,Ya,AV.keys,isa]))),λj h1 hj=>?_⟩;by_cases e:j=i
           . subst e;exact p1
           . exact he j h1 (by omega)
       . intro hd;refine Qga ?_
         have hD:x.dms.all vd=true:=W03.2 λy hy=>by
          obtain ⟨j,hj,rfl⟩:=W0k hy;exact hd j hj hj
         have hT:issB x=true:=(by simp[issB,hB,hI,hD]);simp -implicitDefEqProofs[isa];refine Qgr ?_;simp -implicitDefEqProofs[hT]
   . have q5n:0<x.dms.length:=(by omega);simp -implicitDefEqProofs[q5n,bad (by simp[headB,q5,c1])]
 . have c2 : 1<x.k:=(by omega);by_cases q4:x.dms.length<=4
   case neg =>
    have q4n:4<x.dms.length:=(by omega);have q4i:(4:Int)<x.dms.length:=(by omega);simp -implicitDefEqProofs[c1,c2,q4n,q4i,bad (by simp[headB,q4,c1])]
   have q4n:¬4<x.dms.length:=(by omega);have q4i:¬(4:Int)<x.dms.length:=(by omega);by_cases q5:x.its.length=0
   . have q5n : ¬0<x.its.length:=(by omega);have hB:headB x=true:=(by simp[headB,q1,q2,q3,c1,q4,q5]);simp -implicitDefEqProofs[c1,c2,q4n,q4i,q5n,q5];refine Z8m (λi=>⟨[(3,.int .i64 i),(1,.ptr 1 0)],[(1,.box (isa x))]⟩) (λi=>∀ j,j<i->itOk x j=true) x.its.length (by (first|exact Ym.tm (by simp[lk,isa,c1])|exact Ym.sub (by simp[lk,Ya,AV.keys,isa,c1]) (by simp[lk,Yc,Ya,AV.keys,isa,c1]))) (by simp) ?_ ?_
     . intro i hi he;refine Qga ?_;have w1:i64.wrap ((i:Int)+1)=((i+1:Nat):Int):=Yf;have a1:itAt x i=x.its[i]:=by simp[itAt,List.getD,hi]
       have no:itOk x i=false->issB x=false:=λe=>by
        cases hI:issB x
        . rfl
        . simp only[issB,W01]at hI;rw[Z8F.1 hI.1.2 i hi]at e;cases e
       simp -implicitDefEqProofs[hi,isa,ita];refine Qco (Z8p _ _ _) ?_
       cases p1:inR x.its[i].1 1 9999
       . simp -implicitDefEqProofs;refine ⟨rfl,?_⟩;refine Qgr ?_;simp -implicitDefEqProofs[no (by simp[itOk,a1,p1])]
       simp -implicitDefEqProofs;refine Qco (Z8p _ _ _) ?_
       cases p2:inR x.its[i].2 1 20
       . simp -implicitDefEqProofs;refine ⟨rfl,?_⟩;refine Qgr ?_;simp -implicitDefEqProofs[no (by simp[itOk,a1,p2])]
       by_cases p3:x.its[i].1=x.d
       . simp -implicitDefEqProofs[p3];refine ⟨rfl,?_⟩;refine Qgr ?_;simp -implicitDefEqProofs[no (by simp[itOk,a1,p3])]
       cases i with
       | zero =>
         have ok:itOk x 0=true:=(by simp[itOk,a1,p1,p2,p3]);have w0:i64.wrap 1=1:=rfl;simp -implicitDefEqProofs[p3,w0];exact ⟨rfl,(by (first|exact Ym.tm (by simp[lk,isa])|exact Ym.sub (by simp[lk,Ya,AV.keys,isa]) (by simp[lk,Yc,Ya,AV.keys,isa]))),ok⟩
       | succ i =>
         have w2:i64.wrap (i:Int)=(i:Int):=Yf;have w3:i64.wrap ((i:Int)+1+1)=(i:Int)+1+1:=Yf;have k3:(0:Int)<(i:Int)+1:=(by omega);have hi2:i<x.its.length:=(by omega);have a2:itAt x i=x.its[i]:=(by simp[itAt,List.getD,hi2]);by_cases p4:x.its[i+1].1<=x.its[i].1
         . simp -implicitDefEqProofs[p3,k3,w2,hi2,ita,p4];refine ⟨rfl,?_⟩;refine Qgr ?_;simp -implicitDefEqProofs[no (by simp[itOk,a1,a2,p4])]
         . have ok:itOk x (i+1)=true:=(by simp[itOk,a1,a2,p1,p2,p3];omega);simp -implicitDefEqProofs[p3,k3,w2,w3,hi2,ita,p4];refine ⟨rfl,(by (first|exact Ym.tm (by simp[lk,isa])|exact Ym.sub (by simp[lk,Ya,AV.keys,isa]) (by simp[lk,Yc,Ya,AV.keys,isa]))),λj hj=>?_⟩;by_cases e:j=i+1
           . subst e;exact ok
           . exact he j (by omega)
     . intro he;refine Qga ?_;have hI:(List.range x.its.length).all (itOk x)=true:=Z8F.2 he;simp -implicitDefEqProofs[isa];refine Qgr ?_;simp -implicitDefEqProofs;refine Z8m (λi=>⟨[(5,.int .i64 i),(1,.ptr 1 0)],[(1,.box (isa x))]⟩) (λi=>∀ j (h:j<x.dms.length),j<i->vd x.dms[j]=true) x.dms.length (by (first|exact Ym.tm (by simp[lk,isa])|exact Ym.sub (by simp[lk,Ya,AV.keys,isa]) (by simp[lk,Yc,Ya,AV.keys,isa]))) (by simp) ?_ ?_
       . intro i hi he;refine Qga ?_;have w1:i64.wrap ((i:Int)+1)=((i+1:Nat):Int):=Yf;simp -implicitDefEqProofs[hi,isa,dma];refine Qco (Z8o _ _ _) ?_
         cases p1:vd x.dms[i]
         . have hn:issB x=false:=by
            cases hI2:issB x
            . rfl
            . simp only[issB,W01]at hI2;rw[W03.1 hI2.2 _ (W0e hi)]at p1;cases p1
           have p1':vd ⟨x.dms[i].n,x.dms[i].l,x.dms[i].u⟩=false:=p1;simp -implicitDefEqProofs[p1'];refine Qgr ?_;simp -implicitDefEqProofs[hn]
         . have p1':vd ⟨x.dms[i].n,x.dms[i].l,x.dms[i].u⟩=true:=p1;simp -implicitDefEqProofs[p1',w1];refine ⟨(by (first|exact Ym.tm (by simp[lk,isa])|exact Ym.sub (by simp[lk,Ya,AV.keys,isa]) (by simp[lk,Yc,Ya,AV.keys,isa]))),λj h1 hj=>?_⟩;by_cases e:j=i
           . subst e;exact p1
           . exact he j h1 (by omega)
       . intro hd;refine Qga ?_
         have hD:x.dms.all vd=true:=W03.2 λy hy=>by
          obtain ⟨j,hj,rfl⟩:=W0k hy;exact hd j hj hj
         have hT:issB x=true:=(by simp[issB,hB,hI,hD]);simp -implicitDefEqProofs[isa];refine Qgr ?_;simp -implicitDefEqProofs[hT]
   . have q5n:0<x.its.length:=(by omega);simp -implicitDefEqProofs[c1,c2,q4n,q4i,q5n,bad (by simp[headB,q5,c1])]
def Wf (r:Jr):Prop:=SmlR r/\∀ x∈r,0<=x.k/\x.k<=255
def ordB (r:Jr):Nat->Bool
 |0=>decide ((at' r 0).l=1)
 | i+1=>if (at' r (i+1)).d<(at' r i).d then false else if (at' r i).d<(at' r (i+1)).d then decide ((at' r (i+1)).l=1)
   else decide ((at' r (i+1)).l=(at' r i).l+1)&&decide ((at' r (i+1)).k=(at' r i).k)
def inB (r:Jr):Bool:=r.all λx=>x.its.all λy=>decide (y.1∈nums r)
def ItsIn (r:Jr) (x:Iss):Prop:=∀ y∈x.its,y.1∈nums r
def Z8I (r:Jr):Bool:=inR r.length 1 60&&r.all issB&&(List.range r.length).all (ordB r)&&inB r&&decide ((nums r).length<=20)
def Z8J {r:Jr} {i:Nat} (h:i<r.length) (e:issB r[i]=false):Z8I r=false:=by
 cases hI:Z8I r
 . rfl
 . simp only[Z8I,W01]at hI;rw[W03.1 hI.1.1.1.2 _ (W0e h)]at e;cases e
def Z8K {r:Jr} {i:Nat} (h:i<r.length) (e:ordB r i=false):Z8I r=false:=by
 cases hI:Z8I r
 . rfl
 . simp only[Z8I,W01]at hI;rw[Z8F.1 hI.1.1.2 i h]at e;cases e
def Z8L {r:Jr} {i k:Nat} (h:i<r.length) (hk:k<r[i].its.length) (e:r[i].its[k].1 ∉ nums r):Z8I r=false:=by
 cases hI:Z8I r
 . rfl
 . simp only[Z8I,W01,inB]at hI;have:=W03.1 (W03.1 hI.1.2 _ (W0e h)) _ (W0e hk);exact absurd (W0X this) e
def Z8M {l:List Int} {n:Int}:idx l n<0↔n ∉ l:=by
 unfold idx
 split
 . rename_i h;simp[h]
 . rename_i h;simp[h]
def Z8N {l:List Int} {n:Int} (h:n∈l):∃ i:Nat,idx l n=i/\i<l.length/\l[i]? = some n:=by
 refine ⟨l.idxOf n,by rw[idx,if_pos h],List.idxOf_lt_length_iff.2 h,?_⟩;have h1:l.idxOf n<l.length:=List.idxOf_lt_length_iff.2 h;rw[W07 h1,List.getElem_idxOf h1]
def Z8O (r:Jr):(nums r).length<=r.length:=Z8A r _
def Z8P (r:Jr) (h:Wf r):PC prog G 70 [rega r] (.bool (Z8I r)):=by
 (refine Z7S rfl λR hG hrd=>Qga ?_;subst hG)
 have hs:=h.1.1;unfold Sml at hs;simp -implicitDefEqProofs[Z7Q,Z7R,rega];refine Qco (Z8p _ _ _) ?_
 cases q1:inR r.length 1 60
 . simp -implicitDefEqProofs[show Z8I r=false by simp[Z8I,q1]]
 have q1':1<=r.length/\r.length<=60:=by
  have:=W0X q1;omega
 have hne:r≠[]:=(by intro e;subst e;simp at q1');simp -implicitDefEqProofs;refine Z8m (λi=>⟨[(3,.int .i64 i),(1,.ptr 1 0)],[(1,.box [.vsl (r.map isa)])]⟩) (λi=>∀ j (h:j<r.length),j<i->issB r[j]=true/\ordB r j=true) r.length (by (first|exact Wka|exact Wkb)) (by simp) ?_ ?_
 . intro i hi he;refine Qga ?_;have w1:i64.wrap ((i:Int)+1)=((i+1:Nat):Int):=Yf;have a1:=at_eq hi;have hx:=h.1.2 r[i] (W0e hi);have hk:=h.2 r[i] (W0e hi)
   have go:issB r[i]=true->ordB r i=true->∀ j (h:j<r.length),j<i+1->issB r[j]=true/\ordB r j=true:=λg1 g2 j q1 q2=>by
    by_cases e:j=i
    . subst e;exact ⟨g1,g2⟩
    . exact he j q1 (by omega)
   simp -implicitDefEqProofs[hi,isa];refine Qco (Z8H r[i] hx.1 hx.2 hk) ?_
   cases p1:issB r[i]
   . simp -implicitDefEqProofs;refine Qgr ?_;simp -implicitDefEqProofs[Z8J hi p1]
   have hd:1<=r[i].d:=by
    have p2:=p1;simp only[issB,headB,W01,inR,W0b]at p2;exact p2.1.1.1.1.1.1
   cases i with
   | zero =>
     have n1:¬r[0].d<(0:Int):=(by omega);have n2:(0:Int)<r[0].d:=(by omega);by_cases p3:r[0].l=1
     . have ok:ordB r 0=true:=(by simp[ordB,a1,p3]);have w0:i64.wrap 1=1:=rfl;simp -implicitDefEqProofs[n1,n2,p3,w0];exact ⟨(by (first|exact Wka|exact Wkb)),λj q1 q2=>by subst q2;exact ⟨p1,ok⟩⟩
     . simp -implicitDefEqProofs[n1,n2,p3];refine Qgr ?_;simp -implicitDefEqProofs[Z8K hi (by simp[ordB,a1,p3])]
   | succ i =>
     have w2:i64.wrap (i:Int)=(i:Int):=Yf;have w3:i64.wrap ((i:Int)+1+1)=(i:Int)+1+1:=Yf;have k3:(0:Int)<(i:Int)+1:=(by omega);have hi2:i<r.length:=(by omega);have a2:=at_eq hi2;have bl:=(he i hi2 (by omega)).1;simp only[issB,headB,W01,inR,W0b]at bl;have w4:i64.wrap (r[i].l+1)=r[i].l+1:=Yf;by_cases p3:r[i+1].d<r[i].d
     . simp -implicitDefEqProofs[k3,w2,hi2,isa,p3];refine Qgr ?_;simp -implicitDefEqProofs[Z8K hi (by simp[ordB,a1,a2,p3])]
     by_cases p4:r[i].d<r[i+1].d
     . by_cases p5:r[i+1].l=1
       . have ok:ordB r (i+1)=true:=(by simp[ordB,a1,a2,p3,p4,p5]);simp -implicitDefEqProofs[k3,w2,w3,hi2,isa,p3,p4,p5];exact ⟨(by (first|exact Wka|exact Wkb)),go p1 ok⟩
       . simp -implicitDefEqProofs[k3,w2,hi2,isa,p3,p4,p5];refine Qgr ?_;simp -implicitDefEqProofs[Z8K hi (by simp[ordB,a1,a2,p3,p4,p5])]
     by_cases p5:r[i+1].l=r[i].l+1
     case neg =>
      simp -implicitDefEqProofs[k3,w2,w4,hi2,isa,p3,p4,p5];refine Qgr ?_;simp -implicitDefEqProofs[Z8K hi (by simp[ordB,a1,a2,p3,p4,p5])]
     by_cases p6:r[i+1].k=r[i].k
     . have ok:ordB r (i+1)=true:=(by simp[ordB,a1,a2,p3,p4,p5,p6]);simp -implicitDefEqProofs[k3,w2,w3,w4,hi2,isa,p3,p4,p5,p6];exact ⟨(by (first|exact Wka|exact Wkb)),go p1 ok⟩
     . simp -implicitDefEqProofs[k3,w2,w4,hi2,isa,p3,p4,p5,p6];refine Qgr ?_;simp -implicitDefEqProofs[Z8K hi (by simp[ordB,a1,a2,p3,p4,p5,p6])]
 . intro he;refine Qga ?_
   have g1:r.all issB=true:=W03.2 λx hx=>by
    obtain ⟨j,hj,rfl⟩:=W0k hx;exact (he j hj hj).1
   have g2:(List.range r.length).all (ordB r)=true:=Z8F.2 λj hj=>(he j hj hj).2
   have hns:Sml (nums r):=(by have:=Z8O r;unfold Sml;omega);simp -implicitDefEqProofs;refine Qgr ?_;simp -implicitDefEqProofs;refine Qco (Z8G r h.1.1 hne) ?_;simp -implicitDefEqProofs;refine Z8m (λi=>⟨[(7,.int .i64 i),(6,.vsl ((nums r).map ia)),(1,.ptr 1 0)],[(1,.box [.vsl (r.map isa)])]⟩) (λi=>∀ j (h:j<r.length),j<i->ItsIn r r[j]) r.length (by (first|exact Wka|exact Wkb)) (by simp) ?_ ?_
   . intro i hi hb;refine Qga ?_;have w1:i64.wrap ((i:Int)+1)=((i+1:Nat):Int):=Yf;have hx:=(h.1.2 r[i] (W0e hi)).1;unfold Sml at hx;simp -implicitDefEqProofs[hi];refine Z8m (λk=>⟨[(8,.int .i64 k),(7,.int .i64 i),(6,.vsl ((nums r).map ia)),(1,.ptr 1 0)],[(1,.box [.vsl (r.map isa)])]⟩) (λk=>∀ j (h:j<r[i].its.length),j<k->r[i].its[j].1∈nums r) r[i].its.length (by (first|exact Wka|exact Wkb)) (by simp) ?_ ?_
     . intro k hk hc;refine Qga ?_;have w2:i64.wrap ((k:Int)+1)=((k+1:Nat):Int):=Yf;simp -implicitDefEqProofs[hi,isa,hk,ita];refine Qco (Z8s (nums r) _ hns) ?_;by_cases p1:r[i].its[k].1∈nums r
       . have n1:¬idx (nums r) r[i].its[k].1<0:=λe=>Z8M.1 e p1
         simp -implicitDefEqProofs[n1,w2];refine ⟨(by (first|exact Wka|exact Wkb)),λj q1 q2=>?_⟩;by_cases e:j=k
         . subst e;exact p1
         . exact hc j q1 (by omega)
       . have n1:idx (nums r) r[i].its[k].1<0:=Z8M.2 p1;simp -implicitDefEqProofs[n1];refine Qgr ?_;simp -implicitDefEqProofs;refine Qgr ?_;simp -implicitDefEqProofs[Z8L hi hk p1]
     . intro hc;refine Qga ?_;simp -implicitDefEqProofs[hi,isa];refine Qgr ?_;simp -implicitDefEqProofs[w1];refine ⟨(by (first|exact Wka|exact Wkb)),λj q1 q2=>?_⟩;by_cases e:j=i
       . subst e;intro y hy;obtain ⟨n,hn,rfl⟩:=W0k hy;exact hc n hn hn
       . exact hb j q1 (by omega)
   . intro hb;refine Qga ?_
     have g3:inB r=true:=W03.2 λx hx=>W03.2 λy hy=>by
      obtain ⟨j,hj,rfl⟩:=W0k hx;exact W0M (hb j hj hj y hy)
     have g4:Z8I r=decide ((nums r).length<=20):=(by simp[Z8I,q1,g1,g2,g3]);simp -implicitDefEqProofs;refine Qgr ?_;simp -implicitDefEqProofs[g4];omega
def Ord (r:Jr):Prop:=∀ i,i+1<r.length->(at' r i).d<=(at' r (i+1)).d
def Ord.mono {r:Jr} (h:Ord r):∀ {i j:Nat},i<=j->j<r.length->(at' r i).d<=(at' r j).d:=by
 intro i j hij hj
 induction j with
 | zero => obtain rfl:i=0:=by omega
           exact W1S _
 | succ j ih =>
   by_cases e:i=j+1
   . subst e;exact W1S _
   . exact Int.le_trans (ih (by omega) (by omega)) (h j hj)
def Z8Q {r:Jr} (h:Z8I r=true):Ord r:=by
 intro i hi;simp only[Z8I,W01]at h;have:=Z8F.1 h.1.1.2 (i+1) hi;simp only[ordB]at this
 split at this
 . cases this
 . omega
def Z8R {r:Jr} (h:Ord r):∀ i,i<=r.length->(numsN r i).Pairwise (· < ·)/\(∀ y∈numsN r i,∃ j,j<i/\(at' r j).d=y)/\∀ j,j<i->(at' r j).d∈numsN r i:=by
 intro i
 induction i with
 |zero=>intro _;simp[numsN]
 | succ i ih =>
   intro hi;obtain ⟨h1,h2,h3⟩:=ih (by omega);simp only[numsN]
   split
   . rename_i hb;refine ⟨W1Z.2 ⟨h1,by simp,λa ha b hb'=>?_⟩,λy hy=>?_,λj hj=>?_⟩
     . simp only[W0B]at hb';subst hb';obtain ⟨j,hj,rfl⟩:=h2 a ha;simp only[newB,W0T,W0A,W1z,W1a]at hb;have m1:=h.mono (show j<=i-1 by omega) (by omega);have m2:=h.mono (show i-1<=i by omega) (by omega);rcases hb with hb|hb
       . omega
       . omega
     . rcases W0h.1 hy with hy|hy
       . obtain ⟨j,hj,e⟩:=h2 y hy;exact ⟨j,by omega,e⟩
       . exact ⟨i,by omega,(W0B.1 hy).symm⟩
     . by_cases e:j=i
       . subst e;simp
       . exact W0h.2 (.inl (h3 j (by omega)))
   . rename_i hb;refine ⟨h1,λy hy=>?_,λj hj=>?_⟩
     . obtain ⟨j,hj,e⟩:=h2 y hy;exact ⟨j,by omega,e⟩
     . by_cases e:j=i
       . subst e;simp only[newB,W0T,W0A,W1z,W1a,not_or,Decidable.not_not]at hb;rw[<- hb.2];exact h3 _ (by omega)
       . exact h3 j (by omega)
def Z8S {r:Jr} (h:Ord r):(nums r).Pairwise (· < ·):=(Z8R h _ (W0f _)).1
def Z8T {r:Jr} (h:Ord r):(nums r).Nodup:=(Z8S h).imp λh=>Int.ne_of_lt h
def Z8U {r:Jr} (h:Ord r) {n:Int} (hn:n∈nums r):∃ i,∃ hi:i<r.length,r[i].d=n:=by
 obtain ⟨i,hi,e⟩:=(Z8R h _ (W0f _)).2.1 n hn;exact ⟨i,hi,by rw[<- at_eq hi];exact e⟩
def Z8V {r:Jr} (h:Ord r) {i:Nat} (hi:i<r.length):r[i].d∈nums r:=by
 have:=(Z8R h _ (W0f _)).2.2 i hi
 rwa [at_eq hi]at this
def dvIt (f:Int->Int) (m:Int) (its:List (Int×Int)):Int:=its.foldl (λm y=>max m (1+f y.1)) m
def dvN (r:Jr) (f:Int->Int) (n:Int):Nat->Int
 |0=>0
 |i+1=>if (at' r i).d=n then dvIt f (max (dvN r f n i) 1) (at' r i).its else dvN r f n i
def Dv (r:Jr):Nat->Int->Int
 |0,_=>0
 |k+1,n=>dvN r (Dv r k) n r.length
def Z8W {f:Int->Int} {K:Int} (hf:∀ n,0<=f n/\f n<=K):∀ (its:List (Int×Int)) (m:Int),0<=m->m<=K+1->0<=dvIt f m its/\dvIt f m its<=K+1
 |[],m,h1,h2=>⟨h1,h2⟩
 | y::its,m,h1,h2=>by
   have:=hf y.1;exact Z8W hf its (max m (1+f y.1)) (by omega) (by omega)
def Z8X (r:Jr) {f:Int->Int} {K:Int} (hK:0<=K) (hf:∀ n,0<=f n/\f n<=K) (n:Int):∀ i,0<=dvN r f n i/\dvN r f n i<=K+1
 |0=>by simp only[dvN];omega
 | i+1=>by
   have:=Z8X r hK hf n i;simp only[dvN]
   split
   . exact Z8W hf _ _ (by omega) (by omega)
   . exact this
def Dv_bd (r:Jr):∀ k n,0<=Dv r k n/\Dv r k n<=k
 |0,n=>by simp[Dv]
 | k+1,n=>by
   have:=Z8X r (K:=(k:Int)) (by omega) (Dv_bd r k) n r.length;simp only[Dv];omega
def rowF (l:List Int) (g:Int->Int):List (List AV):=l.map λn=>[.int .i64 (g n)]
def Z8Y {l:List Int} (hn:l.Nodup) {g:Int->Int} {j:Nat} {d v:Int} (hj:l[j]? = some d):(rowF l g).set j [.int .i64 v]=rowF l λn=>if n=d then v else g n:=by
 apply List.ext_getElem?
 intro i;obtain ⟨hlt,he⟩:=W02.1 hj;simp only[rowF,W2d,W09,W0N];by_cases e:j=i
 . subst e;simp[hlt,he]
 . rw[if_neg e]
   cases hi:l[i]? with
   |none=>rfl
   | some x =>
     obtain ⟨hlt2,he2⟩:=W02.1 hi;have:x≠d:=λq=>e ((List.getElem_inj hn).1 (by rw[he,he2,q]))
     simp[this]
def Z8Z {l:List Int} {g:Int->Int}:(rowF l g).length=l.length:=by simp[rowF]
def Z90 {l:List Int} {g:Int->Int}:(rowF l g).all (λr=>r.all AV.pure)=true:=by simp[rowF,AV.pure]
def Z91 {l:List Int} {g:Int->Int} {p:List AV->Bool}:(rowF l g).all p=l.all λn=>p [.int .i64 (g n)]:=by simp[rowF,List.all_map,W0y]
attribute [simp] Z91
def Z92 {l:List Int} {g:Int->Int} {j:Nat} (h:j<(rowF l g).length):(rowF l g)[j]=[.int .i64 (g (l[j]'(by simpa [rowF] using h)))]:=by simp[rowF]
attribute [simp] Z92 Z8Z
def Z93 {l:List Int}:List.replicate l.length [AV.int .i64 0]=rowF l λ_=>0:=by
 simp only[rowF];induction l with
 |nil=>rfl
 |cons x l ih=>simp[List.replicate_succ,ih]
def Z94 (f:Int->Int) (m:Int) (its:List (Int×Int)) (k:Nat) (h:k<its.length):dvIt f m (its.take (k+1))=max (dvIt f m (its.take k)) (1+f its[k].1):=by
 rw[W08 h,dvIt,W1p];rfl
def Z95 {d:Int} {v v0:Int} {g:Int->Int}:(λn=>if n=d then v else if n=d then v0 else g n)=λn=>if n=d then v else g n:=by
 funext n;split <;> rfl
def Ym.trans {a b c:St} (h:Ym a b) (g:Ym b c):Ym a c:=λR x W s=>g R x W (h R x W s)
set_option maxRecDepth 8000 in
def Z96 (r:Jr) (h:Wf r) (hL:Z8I r=true):PC prog G 71 [rega r] (.vsl (rowF (nums r) (Dv r ((nums r).length+1)))):=by
 (refine Z7V rfl λR hG hrd=>Qga ?_;subst hG)
 have hs:=h.1.1;unfold Sml at hs;have hO:=Z8Q hL;have hl:=Z8O r;have hnd:=Z8T hO;have hL2:=hL;simp only[Z8I,W01,inB,W0b]at hL2;obtain ⟨⟨⟨⟨l1,l2⟩,l3⟩,l4⟩,l5⟩:=hL2;have l1':=W0X l1;have hne:r≠[]:=(by intro e;subst e;simp at l1');have hns:Sml (nums r):=(by unfold Sml;omega);simp -implicitDefEqProofs[Z7T,Z7U,rega];refine Qco (Z8G r h.1.1 hne) ?_;have b1:((nums r).length:Int)<=16777216:=(by omega);simp -implicitDefEqProofs[b1,Z93];refine Z8m (λk=>⟨[(5,.int .i64 k),(4,.vsl (rowF (nums r) (Dv r k))),(3,.vsl ((nums r).map ia)),(1,.ptr 1 0)],[(1,.box [.vsl (r.map isa)])]⟩) (λ_=>True) ((nums r).length+1) ?_ trivial ?_ ?_
 . refine Ym.trans (Ym.frz (λk=>k == 15) _) ?_;have e0:(λn=>Dv r 0 n)=λ_=>0:=rfl
   exact Ym.sub (by simp[lk,Ya,AV.keys,Yi,frzA,frzO,frz,Yh,St.get,Z8Z,Z90,Dv,Function.const]) (by simp[lk,Yc,Ya,AV.keys,Yi,frzA,frzO,frz]) (by simp[Yi,lk];try omega)
 . intro k hk _;refine Qga ?_;have k1:(k:Int)<=(nums r).length:=(by omega);simp -implicitDefEqProofs[k1,b1,Z93];have bd:=Dv_bd r k;have hkb:(k:Int)<=61:=(by omega);refine Z8m (λi=>⟨[(7,.int .i64 i),(6,.osl 24 (nums r).length),(5,.int .i64 k),(4,.vsl (rowF (nums r) (Dv r k))),(3,.vsl ((nums r).map ia)),(1,.ptr 1 0)],[(1,.box [.vsl (r.map isa)]),(24,.row 1 (rowF (nums r) λn=>dvN r (Dv r k) n i))]⟩) (λ_=>True) r.length (by (first|exact Ym.tm (by simp[lk,dvN])|exact Ym.sub (by simp[lk,Ya,AV.keys,dvN]) (by simp[lk,Yc,Ya,AV.keys,dvN]))) trivial ?_ ?_
   . intro i hi _;refine Qga ?_;have w1:i64.wrap ((i:Int)+1)=((i+1:Nat):Int):=Yf;have a1:=at_eq hi;have hx:=(h.1.2 r[i] (W0e hi)).1;unfold Sml at hx
     have hits:∀ m (hm:m<r[i].its.length),r[i].its[m].1∈nums r:=λm hm =>
      W0X (W03.1 (W03.1 l4 _ (W0e hi)) _ (W0e hm))
     simp -implicitDefEqProofs[hi,isa];refine Qco (Z8s (nums r) _ hns) ?_;obtain ⟨j,hj,hlt,hget⟩:=Z8N (Z8V hO hi);rw[hj];have hset:=λg v=>Z8Y (g:=g) (v:=v) hnd hget
     have hgt:(nums r)[j]=r[i].d:=(W02.1 hget).2;simp -implicitDefEqProofs[hlt,hgt,hset]
     refine Z8m (λm=>⟨[(10,.int .i64 m),(9,.int .i64 j),(8,.ptr 8 0),(7,.int .i64 i),(6,.osl 24 (nums r).length),(5,.int .i64 k),(4,.vsl (rowF (nums r) (Dv r k))),(3,.vsl ((nums r).map ia)),(1,.ptr 1 0)],
      [(1,.box [.vsl (r.map isa)]),(8,.box (isa r[i])),(24,.row 1 (rowF (nums r) λn=>if n=r[i].d then dvIt (Dv r k) (max (dvN r (Dv r k) r[i].d i) 1) (r[i].its.take m) else dvN r (Dv r k) n i))]⟩) (λ_=>True) r[i].its.length (by (first|exact Ym.tm (by simp[lk,dvIt,isa])|exact Ym.sub (by simp[lk,Ya,AV.keys,dvIt,isa]) (by simp[lk,Yc,Ya,AV.keys,dvIt,isa]))) trivial ?_ ?_
     . intro m hm _;refine Qga ?_;have w2:i64.wrap ((m:Int)+1)=((m+1:Nat):Int):=Yf;obtain ⟨j2,hj2,hlt2,hget2⟩:=Z8N (hits m hm);have hgt2:(nums r)[j2]=r[i].its[m].1:=(W02.1 hget2).2;have bd2:=bd r[i].its[m].1;have w3:i64.wrap (1+Dv r k r[i].its[m].1)=1+Dv r k r[i].its[m].1:=Yf;simp -implicitDefEqProofs[isa,hm,ita,hlt,hgt];refine Qco (Z8s (nums r) _ hns) ?_;rw[hj2];have tk:=Z94 (Dv r k) (max (dvN r (Dv r k) r[i].d i) 1) r[i].its m hm;simp -implicitDefEqProofs[hlt2,hgt2,w2,w3,hlt,hgt,hset,Z95];refine ⟨rfl,?_⟩;rw[<- tk]
       (first|exact Ym.tm (by simp[lk,isa])|exact Ym.sub (by simp[lk,Ya,AV.keys,isa]) (by simp[lk,Yc,Ya,AV.keys,isa]))
     . intro _;refine Qga ?_;simp -implicitDefEqProofs[isa];refine Qgr ?_;simp -implicitDefEqProofs[w1]
       have e:(λn=>if n=r[i].d then dvIt (Dv r k) (max (dvN r (Dv r k) r[i].d i) 1) r[i].its else dvN r (Dv r k) n i)=λn=>dvN r (Dv r k) n (i+1):=by
        funext n
        simp only[dvN,a1];by_cases q:r[i].d=n
        . subst q;simp
        . rw[if_neg q,if_neg (λe=>q e.symm)]
       rw[e]
       (first|exact Wka|exact Wkb)
   . intro _;refine Qga ?_;simp -implicitDefEqProofs;refine Qgr ?_;have w1:i64.wrap ((k:Int)+1)=((k+1:Nat):Int):=Yf;simp -implicitDefEqProofs[w1];have e:(λn=>dvN r (Dv r k) n r.length)=Dv r (k+1):=rfl;rw[e];refine Ym.trans (Ym.frz (λk=>k == 24) _) ?_;exact Ym.sub (by simp[lk,Ya,AV.keys,Yi,frzA,frzO,frz,Yh,St.get,Z90]) (by simp[lk,Yc,Ya,AV.keys,Yi,frzA,frzO,frz]) (by simp[Yi,lk];try omega)
 . intro _;refine Qga ?_;have k1:¬((nums r).length:Int)+1<=(nums r).length:=(by omega);simp -implicitDefEqProofs[k1];refine Qgr ?_;simp -implicitDefEqProofs
def Z97 (r:Jr):(rega r).pure=true:=by simp[rega,AV.pure]
attribute [simp] Z97
def mostV (l:List Int) (g:Int->Int):Int:=l.foldl (λm n=>max m (g n)) 0
def chkV (r:Jr):Int:=if Z8I r=true then
    if ((nums r).length:Int)<mostV (nums r) (Dv r ((nums r).length+1)) then 21 else if 6<mostV (nums r) (Dv r ((nums r).length+1)) then 20 else 0
 else 20
def zI:Iss:=⟨0,0,0,[],[]⟩
def Z98 {d l:Int}:∀ {r:Jr} {x:Iss},findN d l r=some x->x∈r/\x.d=d/\x.l=l
 |[],x,h=>by simp[findN]at h
 | y::r,x,h=>by
   simp only[findN]at h
   split at h
   . rename_i e;cases h;exact ⟨W0H ..,e⟩
   . obtain ⟨h1,h2⟩:=Z98 h;exact ⟨W0z _ h1,h2⟩
def Z99 (l:List Int) (g:Int->Int) (k:Nat) (h:k<l.length):mostV (l.take (k+1)) g=max (mostV (l.take k) g) (g l[k]):=by
 rw[W08 h,mostV,W1p];rfl
def Z9a (r:Jr) (h:Wf r):PC prog G 47 [rega r] (.int .i64 (chkV r)):=by
 (refine Z7Y rfl λR hG hrd=>Qga ?_;subst hG)
 simp -implicitDefEqProofs[Z7W,Z7X,rega];refine Qco (Z8P r h) ?_
 cases hL:Z8I r
 . simp -implicitDefEqProofs[show chkV r=20 by simp[chkV,hL]]
 simp -implicitDefEqProofs;refine Qco (Z96 r h hL) ?_;have hs:=h.1.1;unfold Sml at hs;have hl:=Z8O r;simp -implicitDefEqProofs;refine Z8m (λk=>⟨[(5,.int .i64 k),(4,.int .i64 (mostV ((nums r).take k) (Dv r ((nums r).length+1)))),(3,.vsl (rowF (nums r) (Dv r ((nums r).length+1)))),(1,.ptr 1 0)],[(1,.box [.vsl (r.map isa)])]⟩) (λ_=>True) (nums r).length (by (first|exact Ym.tm (by simp[lk,mostV])|exact Ym.sub (by simp[lk,Ya,AV.keys,mostV]) (by simp[lk,Yc,Ya,AV.keys,mostV]))) trivial ?_ ?_
 . intro k hk _;refine Qga ?_;have w1:i64.wrap ((k:Int)+1)=((k+1:Nat):Int):=Yf;have tk:=Z99 (nums r) (Dv r ((nums r).length+1)) k hk;simp -implicitDefEqProofs[hk,w1];rw[<- tk]
   (first|exact Wka|exact Wkb)
 . intro _;refine Qga ?_;simp -implicitDefEqProofs;refine Qgr ?_;generalize hm:mostV (nums r) (Dv r ((nums r).length+1))=m;by_cases q1:((nums r).length:Int)<m
   . simp -implicitDefEqProofs[q1,show chkV r=21 by simp[chkV,hL,hm,q1]]
   by_cases q2:6<m
   . simp -implicitDefEqProofs[q1,q2,show chkV r=20 by simp[chkV,hL,hm,q1,q2]]
   . simp -implicitDefEqProofs[q1,q2,show chkV r=0 by simp[chkV,hL,hm,q1,q2]]
def fstOf {α:Type} (p:α->Bool) (l:List α):Int:=match l.findIdx? p with|some i=>(i:Int)|none=>-1
def Z9b {α:Type} {p:α->Bool} {l:List α} {i:Nat} (h:i<l.length) (hp:p l[i]=true) (hn:∀ j (h:j<l.length),j<i->p l[j]=false):fstOf p l=i:=by
 have:l.findIdx? p=some i:=by
  rw[W1x];refine ⟨h,hp,λj hj=>?_⟩;rw[hn j (by omega) hj];simp
 simp[fstOf,this]
def Z9c {α:Type} {p:α->Bool} {l:List α} (hn:∀ j (h:j<l.length),p l[j]=false):fstOf p l = -1:=by
 have:l.findIdx? p=none:=W1B.2 λx hx=>by
  obtain ⟨j,hj,rfl⟩:=W0k hx;exact hn j hj
 simp[fstOf,this]
def Z9d {α:Type} (p:α->Bool) (l:List α):decide (0<=fstOf p l)=l.any p:=by
 unfold fstOf
 cases h:l.findIdx? p with
 | none =>
   have h2:=W1B.1 h;have:l.any p=false:=(by rw[<- Bool.not_eq_true,W14];rintro ⟨x,hx,hp⟩;rw[h2 x hx]at hp;cases hp);simp[this]
 | some i =>
   obtain ⟨h1,h2,-⟩:=W1x.1 h;have:l.any p=true:=W14.2 ⟨l[i],W0e h1,h2⟩;simp[this]
def Z9e (g:Nat) (caps:List AV) (p:Int->Bool) (l:List Int) (hc:caps.all AV.pure=true) (hl:Sml l)
  (hg:∀ x∈l,PC prog G g (.int .i64 x::caps) (.bool (p x))) :
  PC prog G 89 [.vsl (l.map ia),.func (.func g) [] caps] (.int .i64 (fstOf p l)):=by
 (refine Z5S rfl λR hG hrd=>Qga ?_;subst hG)
 unfold Sml at hl;have hc2:∀ x∈caps,x.pure=true:=W03.1 hc;simp -implicitDefEqProofs[Z5Q,Z5R];refine Z8m (λi=>⟨[(8,.int .i64 i),(7,.int .i64 l.length),(0,.vsl (l.map ia)),(1,.func (.func g) [] caps)],[]⟩) (λi=>∀ j (h:j<l.length),j<i->p l[j]=false) l.length (by (first|exact Wka|exact Wkb)) (by simp) ?_ ?_
 . intro i hi he;refine Qga ?_;have w1:i64.wrap ((i:Int)+1)=((i+1:Nat):Int):=Yf;simp -implicitDefEqProofs[hi,ia];refine Yd.of (hg _ (W0e hi)) (by simpa [AV.pure] using hc2) ?_
   cases h3:p l[i]
   . simp -implicitDefEqProofs[w1];refine ⟨(by (first|exact Wka|exact Wkb)),λj q1 q2=>?_⟩;by_cases e:j=i
     . subst e;exact h3
     . exact he j q1 (by omega)
   . simp -implicitDefEqProofs;refine Qgr ?_;simp -implicitDefEqProofs[Z9b hi h3 he]
 . intro he;refine Qga ?_;simp -implicitDefEqProofs;refine Qgr ?_;simp -implicitDefEqProofs[Z9c (p:=p) (l:=l) (λj hj=>he j hj hj)]
def Z9f (g:Nat) (caps:List AV) (p:Int->Bool) (l:List Int) (hc:caps.all AV.pure=true) (hl:Sml l)
  (hg:∀ x∈l,PC prog G g (.int .i64 x::caps) (.bool (p x))) :
  PC prog G 72 [.vsl (l.map ia),.func (.func g) [] caps] (.bool (l.any p)):=by
 (refine Z5P rfl λR hG hrd=>Qga ?_;subst hG)
 simp -implicitDefEqProofs[Z5N,Z5O];have hc2:∀ x∈caps,x.pure=true:=W03.1 hc;refine Yd.of (Z9e g caps p l hc hl hg) (by simpa [AV.pure] using hc2) ?_;have e:=Z9d p l;simp -implicitDefEqProofs[e]
def Z9g (g:Nat) (caps:List AV) (p:(Int×Int)->Bool) (l:List (Int×Int)) (hc:caps.all AV.pure=true) (hl:Sml l)
  (hg:∀ x∈l,PC prog G g (.agg [.int .i64 x.1,.int .i64 x.2]::caps) (.bool (p x))) :
  PC prog G 91 [.vsl (l.map ita),.func (.func g) [] caps] (.int .i64 (fstOf p l)):=by
 (refine Z6v rfl λR hG hrd=>Qga ?_;subst hG)
 unfold Sml at hl;have hc2:∀ x∈caps,x.pure=true:=W03.1 hc;simp -implicitDefEqProofs[Z6t,Z6u];refine Z8m (λi=>⟨[(8,.int .i64 i),(7,.int .i64 l.length),(0,.vsl (l.map ita)),(1,.func (.func g) [] caps)],[]⟩) (λi=>∀ j (h:j<l.length),j<i->p l[j]=false) l.length (by (first|exact Wka|exact Wkb)) (by simp) ?_ ?_
 . intro i hi he;refine Qga ?_;have w1:i64.wrap ((i:Int)+1)=((i+1:Nat):Int):=Yf;simp -implicitDefEqProofs[hi,ita];refine Yd.of (hg _ (W0e hi)) (by simpa [AV.pure] using hc2) ?_
   cases h3:p l[i]
   . simp -implicitDefEqProofs[w1];refine ⟨(by (first|exact Wka|exact Wkb)),λj q1 q2=>?_⟩;by_cases e:j=i
     . subst e;exact h3
     . exact he j q1 (by omega)
   . simp -implicitDefEqProofs;refine Qgr ?_;simp -implicitDefEqProofs[Z9b hi h3 he]
 . intro he;refine Qga ?_;simp -implicitDefEqProofs;refine Qgr ?_;simp -implicitDefEqProofs[Z9c (p:=p) (l:=l) (λj hj=>he j hj hj)]
def Z9h (g:Nat) (caps:List AV) (p:(Int×Int)->Bool) (l:List (Int×Int)) (hc:caps.all AV.pure=true) (hl:Sml l)
  (hg:∀ x∈l,PC prog G g (.agg [.int .i64 x.1,.int .i64 x.2]::caps) (.bool (p x))) :
  PC prog G 75 [.vsl (l.map ita),.func (.func g) [] caps] (.bool (l.any p)):=by
 (refine Z6s rfl λR hG hrd=>Qga ?_;subst hG)
 simp -implicitDefEqProofs[Z6q,Z6r];have hc2:∀ x∈caps,x.pure=true:=W03.1 hc;refine Yd.of (Z9g g caps p l hc hl hg) (by simpa [AV.pure] using hc2) ?_;have e:=Z9d p l;simp -implicitDefEqProofs[e]
def Z9i (g:Nat) (caps:List AV) (p:Dm->Bool) (l:List Dm) (hc:caps.all AV.pure=true) (hl:Sml l)
  (hg:∀ x∈l,PC prog G g (.agg [.int .i64 x.n,.int .i64 x.l,.int .i64 x.u]::caps) (.bool (p x))) :
  PC prog G 128 [.vsl (l.map dma),.func (.func g) [] caps] (.int .i64 (fstOf p l)):=by
 (refine Z6p rfl λR hG hrd=>Qga ?_;subst hG)
 unfold Sml at hl;have hc2:∀ x∈caps,x.pure=true:=W03.1 hc;simp -implicitDefEqProofs[Z6n,Z6o];refine Z8m (λi=>⟨[(8,.int .i64 i),(7,.int .i64 l.length),(0,.vsl (l.map dma)),(1,.func (.func g) [] caps)],[]⟩) (λi=>∀ j (h:j<l.length),j<i->p l[j]=false) l.length (by (first|exact Wka|exact Wkb)) (by simp) ?_ ?_
 . intro i hi he;refine Qga ?_;have w1:i64.wrap ((i:Int)+1)=((i+1:Nat):Int):=Yf;simp -implicitDefEqProofs[hi,dma];refine Yd.of (hg _ (W0e hi)) (by simpa [AV.pure] using hc2) ?_
   cases h3:p l[i]
   . simp -implicitDefEqProofs[w1];refine ⟨(by (first|exact Wka|exact Wkb)),λj q1 q2=>?_⟩;by_cases e:j=i
     . subst e;exact h3
     . exact he j q1 (by omega)
   . simp -implicitDefEqProofs;refine Qgr ?_;simp -implicitDefEqProofs[Z9b hi h3 he]
 . intro he;refine Qga ?_;simp -implicitDefEqProofs;refine Qgr ?_;simp -implicitDefEqProofs[Z9c (p:=p) (l:=l) (λj hj=>he j hj hj)]
def Z9j (g:Nat) (caps:List AV) (p:Dm->Bool) (l:List Dm) (hc:caps.all AV.pure=true) (hl:Sml l)
  (hg:∀ x∈l,PC prog G g (.agg [.int .i64 x.n,.int .i64 x.l,.int .i64 x.u]::caps) (.bool (p x))) :
  PC prog G 126 [.vsl (l.map dma),.func (.func g) [] caps] (.bool (l.any p)):=by
 (refine Z6m rfl λR hG hrd=>Qga ?_;subst hG)
 simp -implicitDefEqProofs[Z6k,Z6l];have hc2:∀ x∈caps,x.pure=true:=W03.1 hc;refine Yd.of (Z9i g caps p l hc hl hg) (by simpa [AV.pure] using hc2) ?_;have e:=Z9d p l;simp -implicitDefEqProofs[e]
def Z9k (n lo hi:Int):PC prog G 73 [.int .i64 n,.vptr [.int .i64 lo] 0,.vptr [.int .i64 hi] 0] (.bool (!inR n lo hi)):=by
 (refine Z5M rfl λR hG hrd=>Qga ?_;subst hG)
 by_cases h1:n<lo
 . have h2:¬lo<=n:=(by omega);simp -implicitDefEqProofs[Z5K,Z5L,h1,h2,inR]
 . have h2:lo<=n:=(by omega);by_cases h3:hi<n
   . have h4:¬n<=hi:=(by omega);simp -implicitDefEqProofs[Z5K,Z5L,h1,h2,h3,h4,inR]
   . have h4:n<=hi:=(by omega);simp -implicitDefEqProofs[Z5K,Z5L,h1,h2,h3,h4,inR]
def Z9l (n lo hi:Int):PC prog G 90 [.int .i64 n,.vptr [.int .i64 lo] 0,.vptr [.int .i64 hi] 0] (.bool (!inR n lo hi)):=by
 (refine Z61 rfl λR hG hrd=>Qga ?_;subst hG)
 by_cases h1:n<lo
 . have h2:¬lo<=n:=(by omega);simp -implicitDefEqProofs[Z5Z,Z60,h1,h2,inR]
 . have h2:lo<=n:=(by omega);by_cases h3:hi<n
   . have h4:¬n<=hi:=(by omega);simp -implicitDefEqProofs[Z5Z,Z60,h1,h2,h3,h4,inR]
   . have h4:n<=hi:=(by omega);simp -implicitDefEqProofs[Z5Z,Z60,h1,h2,h3,h4,inR]
def Z9m (lo hi:Int) (l:List Int) (hl:Sml l):PC prog G 52 [.int .i64 lo,.int .i64 hi,.vsl (l.map ia)] (.bool (l.all λn=>inR n lo hi)):=by
 (refine Z5J rfl λR hG hrd=>Qga ?_;subst hG)
 simp -implicitDefEqProofs[Z5H,Z5I]
 (first|refine Yd.flat (Z9f 73 [.vptr [.int .i64 lo] 0,.vptr [.int .i64 hi] 0] (λn=>!inR n lo hi) l (by simp[AV.pure]) hl (λn _=>Z9k n lo hi)) (by simp[AV.flat]) (by simp) ?_|refine Ye.flat (Z9f 73 [.vptr [.int .i64 lo] 0,.vptr [.int .i64 hi] 0] (λn=>!inR n lo hi) l (by simp[AV.pure]) hl (λn _=>Z9k n lo hi)) (by simp[AV.flat]) (by simp) ?_)
 have e:(!l.any λn=>!inR n lo hi)=l.all λn=>inR n lo hi:=by simp[W29]
 simp -implicitDefEqProofs[e]
def Z9n (lo hi:Int) (n:Int):PC prog G 74 [.int .i64 lo,.int .i64 hi,.vsl [[.int .i64 n]]] (.bool (inR n lo hi)):=by
 (refine Z5Y rfl λR hG hrd=>Qga ?_;subst hG)
 simp -implicitDefEqProofs[Z5W,Z5X];refine Yd.flat (Z9f 90 [.vptr [.int .i64 lo] 0,.vptr [.int .i64 hi] 0] (λn=>!inR n lo hi) [n] (by simp[AV.pure]) (by simp[Sml]) (λn _=>Z9l n lo hi)) (by simp[AV.flat]) (by simp[ia]) ?_;simp -implicitDefEqProofs
def Z9o (d:Dm):PC prog G 16 [.agg [.int .i64 d.n,.int .i64 d.l,.int .i64 d.u]] (.int .i64 (if vd d=true then 0 else 10)):=by
 (refine Z5V rfl λR hG hrd=>Qga ?_;subst hG)
 simp -implicitDefEqProofs[Z5T,Z5U];refine Qco (Z9m 0 1000000000 [d.n,d.l,d.u] (by simp[Sml])) ?_
 cases h1:[d.n,d.l,d.u].all λn=>inR n 0 1000000000
 . have e:vd d=false:=by
    refine W0S λh=>?_
    have:([d.n,d.l,d.u].all λn=>inR n 0 1000000000)=true:=by
     simp[inR];omega
    rw[this]at h1;cases h1
   simp -implicitDefEqProofs[e]
 . have h2:(0<=d.n/\d.n<=1000000000)/\(0<=d.l/\d.l<=1000000000)/\0<=d.u/\d.u<=1000000000:=by
    simpa [inR] using h1
   by_cases h3:d.u<d.l
   . have e:vd d=false:=W0S (by omega);simp -implicitDefEqProofs[e,h3]
   . have e:vd d=true:=W0M (by omega);simp -implicitDefEqProofs[e,h3]
def Z9p (x:Iss):PC prog G 43 [.agg (isa x)] (.agg [.int .i64 x.d,.int .i64 x.l]):=by
 (refine Z64 rfl λR hG hrd=>Qga ?_;subst hG)
 simp -implicitDefEqProofs[Z62,Z63,isa]
def ck1 (x:Iss):Bool:=inR x.d 1 9999&&inR x.l 1 8
def ck2 (x:Iss):Bool:=if x.k=1 then inR x.its.length 1 8&&decide (x.dms.length=0) else inR x.k 2 3&&decide (x.dms.length<=4)&&decide (x.its.length=0)
def ck3 (x:Iss):Bool:=(List.range x.its.length).all (itOk x)
def ck4 (x:Iss):Bool:=x.dms.all vd
def Z9q (x:Iss):issB x=(ck1 x&&ck2 x&&ck3 x&&ck4 x):=by
 have e:headB x=(ck1 x&&ck2 x):=by
  unfold headB ck1 ck2;by_cases c1:x.k=1
  . have:inR x.k 1 3=true:=W0M (by omega);simp only[c1,if_true];rw[c1]at this;rw[this];simp
  . have:inR x.k 1 3=inR x.k 2 3:=decide_eq_decide.2 (by omega);simp only[c1,if_false,this,Bool.and_assoc]
 simp only[issB,e,ck3,ck4]
def Z9r (x:Iss):PC prog G 122 [.agg (isa x)] (.bool (ck1 x)):=by
 (refine Z67 rfl λR hG hrd=>Qga ?_;subst hG)
 simp -implicitDefEqProofs[Z65,Z66,isa];refine Qco (Z9n _ _ _) ?_
 cases q1:inR x.d 1 9999
 . simp -implicitDefEqProofs[ck1,q1]
 . simp -implicitDefEqProofs;refine Qco (Z9n _ _ _) ?_;simp -implicitDefEqProofs[ck1,q1]
def Z9s (x:Iss) (hk:0<=x.k/\x.k<=255):PC prog G 123 [.agg (isa x)] (.bool (ck2 x)):=by
 (refine Z6a rfl λR hG hrd=>Qga ?_;subst hG)
 have wk:i64.wrap x.k=x.k:=Yf;by_cases c1:x.k=1
 . simp -implicitDefEqProofs[Z68,Z69,isa,c1];refine Qco (Z9n _ _ _) ?_
   cases q1:inR x.its.length 1 8
   . simp -implicitDefEqProofs[ck2,c1,q1]
   . by_cases q2:x.dms.length=0 <;> simp -implicitDefEqProofs[ck2,c1,q1,q2]
 . simp -implicitDefEqProofs[Z68,Z69,isa,c1,wk];refine Qco (Z9n _ _ _) ?_
   cases q1:inR x.k 2 3
   . simp -implicitDefEqProofs[ck2,c1,q1]
   by_cases q2:x.dms.length<=4
   . have q2i:(x.dms.length:Int)<=4:=(by omega);by_cases q3:x.its.length=0 <;> simp -implicitDefEqProofs[ck2,c1,q1,q2,q2i,q3]
   . have q2i:¬(x.dms.length:Int)<=4:=(by omega);simp -implicitDefEqProofs[ck2,c1,q1,q2,q2i]
def Z9t (x:Iss) (h1:Sml x.its):PC prog G 124 [.agg (isa x)] (.bool (ck3 x)):=by
 (refine Z6d rfl λR hG hrd=>Qga ?_;subst hG)
 unfold Sml at h1;simp -implicitDefEqProofs[Z6b,Z6c,isa];refine Z8m (λi=>⟨[(8,.int .i64 i),(7,.int .i64 x.its.length),(6,.vsl (x.its.map ita)),(1,.ptr 1 0)],[(1,.box (isa x))]⟩) (λi=>∀ j,j<i->itOk x j=true) x.its.length (by (first|exact Ym.tm (by simp[lk,isa])|exact Ym.sub (by simp[lk,Ya,AV.keys,isa]) (by simp[lk,Yc,Ya,AV.keys,isa]))) (by simp) ?_ ?_
 . intro i hi he;refine Qga ?_;have w1:i64.wrap ((i:Int)+1)=((i+1:Nat):Int):=Yf;have a1:itAt x i=x.its[i]:=by simp[itAt,List.getD,hi]
   have no:itOk x i=false->ck3 x=false:=λe=>by
    cases hI:ck3 x
    . rfl
    . rw[Z8F.1 hI i hi]at e;cases e
   simp -implicitDefEqProofs[hi,isa,ita];refine Qco (Z9n _ _ _) ?_
   cases p1:inR x.its[i].1 1 9999
   . simp -implicitDefEqProofs;refine ⟨rfl,?_⟩;refine Qgr ?_;simp -implicitDefEqProofs[no (by simp[itOk,a1,p1])]
   simp -implicitDefEqProofs;refine Qco (Z9n _ _ _) ?_
   cases p2:inR x.its[i].2 1 20
   . simp -implicitDefEqProofs;refine ⟨rfl,?_⟩;refine Qgr ?_;simp -implicitDefEqProofs[no (by simp[itOk,a1,p2])]
   by_cases p3:x.its[i].1=x.d
   . simp -implicitDefEqProofs[p3];refine ⟨rfl,?_⟩;refine Qgr ?_;simp -implicitDefEqProofs[no (by simp[itOk,a1,p3])]
   cases i with
   | zero =>
     have ok:itOk x 0=true:=(by simp[itOk,a1,p1,p2,p3]);have w0:i64.wrap 1=1:=rfl;simp -implicitDefEqProofs[p3,w0];exact ⟨rfl,(by (first|exact Ym.tm (by simp[lk,isa])|exact Ym.sub (by simp[lk,Ya,AV.keys,isa]) (by simp[lk,Yc,Ya,AV.keys,isa]))),ok⟩
   | succ i =>
     have w2:i64.wrap (i:Int)=(i:Int):=Yf;have w3:i64.wrap ((i:Int)+1+1)=(i:Int)+1+1:=Yf;have k3:(0:Int)<(i:Int)+1:=(by omega);have hi2:i<x.its.length:=(by omega);have a2:itAt x i=x.its[i]:=(by simp[itAt,List.getD,hi2]);by_cases p4:x.its[i+1].1<=x.its[i].1
     . simp -implicitDefEqProofs[p3,k3,w2,hi2,ita,p4];refine ⟨rfl,?_⟩;refine Qgr ?_;simp -implicitDefEqProofs[no (by simp[itOk,a1,a2,p4])]
     . have ok:itOk x (i+1)=true:=(by simp[itOk,a1,a2,p1,p2,p3];omega);simp -implicitDefEqProofs[p3,k3,w2,w3,hi2,ita,p4];refine ⟨rfl,(by (first|exact Ym.tm (by simp[lk,isa])|exact Ym.sub (by simp[lk,Ya,AV.keys,isa]) (by simp[lk,Yc,Ya,AV.keys,isa]))),λj hj=>?_⟩;by_cases e:j=i+1
       . subst e;exact ok
       . exact he j (by omega)
 . intro he;refine Qga ?_;have hI:ck3 x=true:=Z8F.2 he;simp -implicitDefEqProofs;refine Qgr ?_;simp -implicitDefEqProofs[hI]
def Z9u (d:Dm):PC prog G 127 [.agg [.int .i64 d.n,.int .i64 d.l,.int .i64 d.u]] (.bool (!vd d)):=by
 (refine Z6j rfl λR hG hrd=>Qga ?_;subst hG)
 simp -implicitDefEqProofs[Z6h,Z6i];refine Qco (Z9o d) ?_
 cases q:vd d <;> simp -implicitDefEqProofs
def Z9v (x:Iss) (h2:Sml x.dms):PC prog G 125 [.agg (isa x)] (.bool (ck4 x)):=by
 (refine Z6g rfl λR hG hrd=>Qga ?_;subst hG)
 simp -implicitDefEqProofs[Z6e,Z6f,isa];refine Qco (Z9j 127 [] (λd=>!vd d) x.dms rfl h2 (λd _=>Z9u d)) ?_;have e:(!x.dms.any λd=>!vd d)=ck4 x:=(by simp[ck4,W29]);simp -implicitDefEqProofs[e]
def lowB (l:List Int) (n:Int):Nat:=l.countP (λx=>decide (x<n))
def Z9w (l:List Int) (n:Int):lowB l n<=l.length:=List.countP_le_length
def Z9x {l:List Int} (hs:l.Pairwise (· <= ·)) (n:Int):∀ (i:Nat) (hi:i<l.length),i<lowB l n↔l[i]<n:=by
 induction l with
 |nil=>intro i hi;simp at hi
 | cons x l ih =>
   obtain ⟨h1,h2⟩:=W1k.1 hs;intro i hi;by_cases hx:x<n
   . have e:lowB (x::l) n=lowB l n+1:=(by simp[lowB,W22,hx]);rw[e]
     cases i with
     |zero=>simp[hx]
     | succ i =>
       have:=ih h2 i (by simpa using hi);simp only[List.getElem_cons_succ];rw[<- this];omega
   . have z:lowB l n=0:=by
      unfold lowB;rw[List.countP_eq_zero];intro y hy;have:=h1 y hy;simp;omega
     have e:lowB (x::l) n=0:=by
      have:lowB (x::l) n=lowB l n:=(by simp[lowB,W22,hx]);omega
     rw[e]
     have hge:∀ (i:Nat) (hi:i<(x::l).length),x<=(x::l)[i]:=λi hi=>by
      cases i with
      |zero=>exact W1S _
      |succ i=>exact h1 _ (W0e _)
     have:=hge i hi
     constructor
     . intro h;omega
     . intro h;omega
def Z9y {l:List Int} (hs:l.Pairwise (· < ·)):l.Pairwise (· <= ·):=hs.imp λh=>Int.le_of_lt h
def Z9z {l:List Int} (hs:l.Pairwise (· <= ·)) (n:Int):n∈l↔l[lowB l n]? = some n:=by
 constructor
 . intro hm;obtain ⟨j,hj,he⟩:=W0k hm;have h1:¬j<lowB l n:=λh=>by have:=(Z9x hs n j hj).1 h;omega
   have h2:lowB l n<l.length:=(by omega);rw[W07 h2];have h3:¬l[lowB l n]<n:=λh=>by have:=(Z9x hs n _ h2).2 h;omega
   have h4:l[lowB l n]<=l[j]:=by
    by_cases e:lowB l n=j
    . simp[e]
    . exact W0Y.1 hs _ _ h2 hj (by omega)
   congr 1;omega
 . intro h;exact W0d h
def Z9A {i j:Nat} (h:i+j<=33554432):i64.wrap ((IntKind.u64.wrap (i64.wrap ((i:Int)+j))).fdiv (2 ^ (min 1 IntKind.u64.bits)))=(((i+j) / 2:Nat):Int):=by
 show i64.wrap ((IntKind.u64.wrap (i64.wrap ((i:Int)+j))).fdiv (2 ^ (min 1 64)))=(((i+j) / 2:Nat):Int);have e1:i64.wrap ((i:Int)+j)=((i+j:Nat):Int):=by rw[Yf (by omega) (by omega)];omega
 have e2:IntKind.u64.wrap (((i+j:Nat):Int))=((i+j:Nat):Int):=by
  have:=IntWalk.u64_in (((i+j:Nat):Int)) ⟨by omega,by omega⟩;exact this
 rw[e1,e2]
 have e3:(((i+j:Nat):Int)).fdiv (2 ^ (min 1 64))=(((i+j) / 2:Nat):Int):=by
  rw[Int.fdiv_eq_ediv_of_nonneg _ (by decide)];simp
 rw[e3,Yf (by omega) (by omega)]
def Z9B (n:Int):PC prog G 102 [.int .i64 n] (.bool false):=by
 (refine Z6K rfl λR hG hrd=>Qga ?_;subst hG)
 simp -implicitDefEqProofs[Z6I,Z6J]
def Z9C (n:Int):PC prog G 101 [.int .i64 n] (.bool false):=by
 (refine Z6N rfl λR hG hrd=>Qga ?_;subst hG)
 simp -implicitDefEqProofs[Z6L,Z6M]
def Z9D (a b:Int):PC prog G 100 [.int .i64 a,.int .i64 b] (.bool (decide (a<b))):=by
 (refine Z6H rfl λR hG hrd=>Qga ?_;subst hG)
 by_cases h:a<b
 . simp -implicitDefEqProofs[Z6F,Z6G,h]
   try refine Qco (Z9B a) ?_
   try simp -implicitDefEqProofs[h]
 . simp -implicitDefEqProofs[Z6F,Z6G,h]
   try refine Qco (Z9B a) ?_
   try simp -implicitDefEqProofs[h]
def Z9E (l:List Int) (n:Int) (hs:l.Pairwise (· <= ·)) (hl:Sml l):PC prog G 92 [.vsl (l.map ia),.int .i64 n] (.tup [.int .i64 (lowB l n),.bool (decide (n∈l))]):=by
 (refine Z6E rfl λR hG hrd=>Qga ?_;subst hG)
 unfold Sml at hl;have hle:=Z9w l n;simp -implicitDefEqProofs[Z6C,Z6D];refine Z1Q (λp:Nat×Nat=>⟨[(8,.int .i64 p.2),(7,.int .i64 p.1),(6,.int .i64 l.length),(0,.vsl (l.map ia)),(1,.int .i64 n)],[]⟩) (λp=>p.1<=lowB l n/\lowB l n<=p.2/\p.2<=l.length) (λp=>p.2-p.1) (0,l.length) (by (first|exact Wka|exact Wkb)) ⟨by omega,hle,W0f _⟩ ?_;rintro ⟨lo,hi⟩ ⟨h1,h2,h3⟩;simp only at h1 h2 h3;refine Qga ?_;by_cases h4:lo<hi
 . obtain ⟨m,hm⟩:=Qex ((lo+hi) / 2);have hw:=Z9A (i:=lo) (j:=hi) (by omega);rw[<- hm]at hw;have m1:m<l.length:=(by omega);have w1:i64.wrap ((m:Int)+1)=((m+1:Nat):Int):=Yf;have hb:=Z9x hs n m m1;by_cases h5:l[m]<n
   . simp -implicitDefEqProofs[h4,hw,m1,ia];refine Qco (Z9D _ _) ?_;simp -implicitDefEqProofs[h5,w1];exact ⟨(m+1,hi),(by (first|exact Wka|exact Wkb)),⟨by have:=hb.2 h5;show m+1<=_;omega,h2,h3⟩,by show hi-(m+1)<hi-lo;omega⟩
   . simp -implicitDefEqProofs[h4,hw,m1,ia];refine Qco (Z9D _ _) ?_;simp -implicitDefEqProofs[h5];exact ⟨(lo,m),(by (first|exact Wka|exact Wkb)),⟨h1,by have:¬m<lowB l n:=λh=>h5 (hb.1 h);show lowB l n<=m;omega,by show m<=_;omega⟩,by show m-lo<hi-lo;omega⟩
 . obtain rfl:lo=lowB l n:=(by omega);have hmem:=Z9z hs n;by_cases h5:lowB l n<l.length
   . by_cases h6:l[lowB l n]=n
     . have e:n∈l:=hmem.2 (by rw[W07 h5,h6]);simp -implicitDefEqProofs[h4];refine Qgr ?_;simp -implicitDefEqProofs[h5,ia,h6,e]
     . have e:¬n∈l:=λh=>h6 (by have:=hmem.1 h;rw[W07 h5]at this;exact W1H this)
       simp -implicitDefEqProofs[h4];refine Qgr ?_;simp -implicitDefEqProofs[h5,ia,h6];refine Qco (Z9C _) ?_;simp -implicitDefEqProofs[e]
   . have e:¬n∈l:=λh=>by have:=hmem.1 h;rw[List.getElem?_eq_none (by omega)]at this;cases this
     simp -implicitDefEqProofs[h4];refine Qgr ?_;simp -implicitDefEqProofs[h5,e]
section
open Qq Tryd
def Z9F:RCode :=
 S [R 0 [l 9 1,a [0] (w 10 (.nilck (.t 9))),a [1] (f 11 0 10),a [2] (f 12 0 11),a [3] (l 13 12),l 14 2,a [4,5] (w 15 (.call 94 [.t 13,.t 14,.c (.func (.func 95) [] [])])),a [6] (m 8 15),a [7] (x 16 0 8),a [7] (x 17 1 8),a [8,6,0,1,2,3,4,5,6,7,8] (m 4 16),a [9,10,0,1,2,3,4,5,6,7,8,9,10] (m 5 17)],r 1 [l 18 1,w 19 (.nilck (.t 18)),f 20 0 19,f 21 0 20,l 22 21,m 23 4,w 24 (.slc 5 (.t 22) (some (.t 23)) none),e 25 24,n 26 O],.block 0 (.loop (S [r 2 [o 27 .lss 26 25],.cond (.t 27) .skip (.exit 0),.block 1 (S [r 3 [i 28 5 24 26,L 29 5 28,w 7 (.alloc [O,O,.int .u8 0,.nils,.nils]),s 5 7 29],r 4 [f 30 0 7,l 31 30,l 32 2,o 33 .neq 31 32,m 34 33,g 34 false (m 35 0),g 34 false (L 36 5 7),g 34 false (w 37 (.callv (.t 35) [.t 36])),g 34 false (t 38 37),u 39 34 38],.cond (.t 39) .ret .skip]),r 5 [k 40 .add 26 I,m 26 40]]))]
end
section
variable {P:Program} {N:Nat} {c:Code}
def Z9G {a b:RCode} (h:Z1A P N c (.seq a b)=true):∃ c1 c2,c = .seq c1 c2/\Z1A P N c1 a=true/\Z1A P N c2 b=true:=by
 cases c <;> simp only[Z1A,W05,W01]at h
 exact ⟨_,_,rfl,h.1,h.2⟩
def Z9H {id:Nat} {a:RCode} (h:Z1A P N c (.block id a)=true):∃ c1,c = .block id c1/\Z1A P N c1 a=true:=by
 cases c <;> simp only[Z1A,W05,W01,W0A]at h
 obtain ⟨rfl,h⟩:=h;exact ⟨_,rfl,h⟩
def Z9I {a:RCode} (h:Z1A P N c (.loop a)=true):∃ c1,c = .loop c1/\Z1A P N c1 a=true:=by
 cases c <;> simp only[Z1A,W05]at h
 exact ⟨_,rfl,h⟩
def Z9J {id:Nat} {rs:List ROper} (h:Z1A P N c (.reg id false rs)=true):∃ ops,c = .region id ops false/\allB2 (Z1z P N ops) ops.toList rs=true:=by
 cases c <;> simp only[Z1A,W05,W01,W0A]at h
 obtain ⟨⟨⟨rfl,rfl⟩,h⟩,-⟩:=h;exact ⟨_,rfl,h⟩
end
section
variable {P:Program} {R:Run} {rd:Option Nat} {m:Nat} {ops:Array Oper} {Q:Exit->Act->World->Prop}
def Z9K (l2:List Nat):∀ (l:List Nat) (rs':List ROper) (st:St) (K:St->Prop) (a:Act) (W:World),
  (∀ (i:Nat) (r:ROper),rs'[i]? = some r->∃ (j:Nat) (o:Oper),l[i]? = some j/\ops[j]? = some o/\Z1z P R.N ops o r=true)->l.length=rs'.length->(∀ st' a' W',K st'->SR R st' a' W'->wpOpsIn (FW rd) m P ops Q l2 a' W') ->
  RW P R.G rs' st (λe s=>e = .normal/\K s)->SR R st a W->wpOpsIn (FW rd) m P ops Q (l++l2) a W:=by
 intro l
 induction l with
 | nil =>
   intro rs' st K a W hok hl hK hr hs
   cases rs' with
   |nil=>exact hK st a W hr.2 hs
   |cons r rs'=>simp at hl
 | cons j l ih =>
   intro rs' st K a W hok hl hK hr hs
   cases rs' with
   |nil=>simp at hl
   | cons r rs' =>
     obtain ⟨j',o,hj,ho,hk⟩:=hok 0 r rfl;simp at hj;subst hj
     have go:∀ (st':St) (a':Act) (W':World),RW P R.G rs' st' (λe s=>e = .normal/\K s)->SR R st' a' W'->wpOpsIn (FW rd) m P ops Q (l++l2) a' W':=λst' a' W' h2 hs' =>
      ih rs' st' K a' W' (λi r hi=>by simpa using hok (i+1) r (by simpa using hi)) (by simpa using hl) hK h2 hs'
     rw[W1d,wpOpsIn_cons];rcases Z22 hr with ⟨st',h1,h2⟩ | ⟨hw,g,args,hi,hc⟩
     . exact Z26 h1 ho hk hs λa' W' hs'=>go st' a' W' h2 hs'
     . obtain ⟨κ,hκ⟩:=hs;have hk0:=hk;simp only[Z1z,W01,W0b]at hk;obtain ⟨⟨⟨hd,hdn⟩,-⟩,-⟩:=hk;have hdn':∀ n,r.d=some n->n<R.N:=λn e=>by rw[e]at hdn;simpa using hdn
       refine Z25 hi hw ho hk0 hκ λvs ha=>?_
       rcases hc with ⟨v,st1,hc,hn⟩ | ⟨ch,hc,hn⟩
       . obtain ⟨h1,h2⟩:=hc R a W κ vs rfl hκ ha;refine ⟨h1,h2.mono ?_⟩;rintro e W' ⟨u,κ1,rfl,h3,h4⟩;refine go _ _ _ hn ⟨κ1,?_⟩;rw[hd];exact h3.putd hdn' h4
       . exact absurd hn.1 (by simp)
end
def Z9L (M:Nat->Prop) (W:World) (N:Nat) (rd:Option Nat):Run :=
 { G:=λ_=>none,M:=M,X:=λ_=>False,W0:=W,N:=N,E0:={ M:=M,loc:=λ_=>none,row:=λ_=>none },rd:=rd,nm:=true }
def TT' (M:Nat->Prop) (W:World) (t:List (Nat×AV)) (a:Act):Prop:=∀ n x,lk t n=some x->PV M W x (a.tmps.getD n Go.undef)
def Z9M {M:Nat->Prop} {W:World} {N:Nat} {rd:Option Nat} {t:List (Nat×AV)} {a:Act} (hM:∀ b,M b->b<W.heap.size) (hd:a.defers=[]) (hN:a.tmps.size=N) (ht:TT' M W t a):SR (Z9L M W N rd) ⟨t,[]⟩ a W:=by
 have hGM:∀ b,b<W.heap.size->¬M b->¬((⟨t,[]⟩ : St).env M (λ_=>none)).M b/\W.heap[b]? = W.heap[b]?:=λb _ h1=>⟨(by rintro (h2 | ⟨k,s,h2⟩) <;> first|exact h1 h2|cases h2),rfl⟩
 refine ⟨λ_=>none,⟨[],by simp[hd,Z9L],.nil,by simp,λ_=>rfl⟩,hN,λn x hx=>.pv ((ht n x hx).mono hGM (W0f _)),(λk o ho=>by simp[St.get,lk]at ho),(λk p hk=>by cases hk),(λk k' b s s' hk=>by cases hk),hM,λ_ _ h=>h,Kp.refl _ _,(λg cs hg=>by cases hg),⟨W0f _,hGM,λk p hk=>(by cases hk),λk sz m hk=>(by cases hk)⟩,λ_ _=>⟨rfl,rfl⟩⟩
def Z9N {M:Nat->Prop} {W W':World} {N:Nat} {rd:Option Nat} {st:St} {a:Act} (h:SR (Z9L M W N rd) st a W') {t:List (Nat×AV)} (hw:Ym st ⟨t,[]⟩) (hp:∀ q∈t,q.2.pure=true) :
  a.defers=[]/\a.tmps.size=N/\TT' M W' t a/\Ext W W':=by
 obtain ⟨κ,hk⟩:=hw _ _ _ h;obtain ⟨cs,e,-,-,hz⟩:=hk.defers
 have hκ:∀ k,κ k=none:=λk=>by
  cases e:κ k with
  |none=>rfl
  |some p=>obtain ⟨o,ho⟩:=hk.dom k p e;simp[St.get,lk]at ho
 refine ⟨by rw[e,hz rfl];rfl,hk.size,λn x hx=>?_,⟨hk.kp.os,hk.kp.tape,hk.kp.output,hk.kp.size,λi hi=>hk.kp.block i hi (λh=>h)⟩⟩;refine ((hk.tm n x hx).toPV (hp (n,x) (Z4I hx))).mono (λb _ hb=>⟨λh=>hb (.inl h),rfl⟩) (W0f _)
def Z9O {P:Program} {R:Run} {st:St} {a:Act} {W:World} {κ:Nat->Option (Nat×Nat)} {rd:Option Nat} {m:Nat} {ops:Array Oper} {r:ROper} {j l:Nat} {o:Oper} {f y:RA} {K:Act->World->Prop} {Q:Exit->Act->World->Prop}
  (hr:r.op = .callv f [y]) (hf:evA R.G st f = .func (.yield l) [] []) (hw:wants st r.guard=some true) (ho:ops[j]? = some o) (hk:Z1z P R.N ops o r=true) (hκ:SK R st a W κ)
  (hc:∀ u,VR (st.env R.M κ) W (evA R.G st y) u->YieldAt (FW rd) (m-1) P l #[u] W fun
   |.returned v,W'=>K (a.put o.dst v) W'
   |.panicked ch,W'=>Q (.panic ch) a W'
   |.outgrown,_=>LetsOut Q):wpOpIn (FW rd) m P ops Q j K a W:=by
 simp only[Z1z,W01,W0b]at hk;obtain ⟨⟨⟨hd,hdn⟩,hop⟩,hg⟩:=hk;unfold wpOpIn;simp only[ho];rw[if_pos (Z20 hκ hg hw)];rw[hr]at hop;simp only[Z1y,if_true,Z1x]at hop
 split at hop <;> try (simp at hop;done)
 . simp_all
 . simp_all
 . rename_i r0 x xs ats y' ys e1 e2;simp only[W01]at hop;simp only[ROp.callv.injEq]at e2;obtain ⟨rfl,rfl⟩:=e2;have hx:=hκ.ev hop.1;rw[hf]at hx;obtain ⟨us,vs,hv1,hv2,hv3⟩:=hx.func_inv
   obtain rfl:us = #[]:=by
    have:=hv2.1;rw[<- W16];exact W0l.1 (by simpa using this)
   obtain rfl:vs = #[]:=by
    have:=hv3.1;rw[<- W16];exact W0l.1 (by simpa using this)
   cases xs with
   |nil=>simp[allB2]at hop
   | cons z xs =>
     cases xs with
     |cons _ _=>simp[allB2]at hop
     | nil =>
       have hz:=hκ.ev (show okA z y=true by simpa [allB2] using hop.2);obtain ⟨fn,tmps,assign,body,h1,h2⟩:=hc _ hz;refine ⟨λ_ _=>trivial,?_⟩;rw[Oper.semAt_eq _ _ _ (λc e=>by rw[e1]at e;cases e)]
       have:(execOp a.eval o).run P W = .ok (.round l fn tmps assign body) W:=by
        rw[<- h1];simp[execOp,e1,resolve,hv1,Deferred.ofValue,invoke,Sem.run_bind]
       rw[this];exact ⟨Z24,h2⟩
def elsOf (r:Jr) (n:Int):List AV:=(r.filter (λx=>decide (x.d=n))).map (λx=>.agg (isa x))
def Z9P {n:Int}:∀ (l:Jr),(l.map (·.d)).Pairwise (· <= ·)->(∀ x∈l,n<=x.d) ->
  (l.filter (λx=>decide (x.d=n))).length<=l.length/\(∀ i,i<(l.filter (λx=>decide (x.d=n))).length->(l.filter (λx=>decide (x.d=n)))[i]? = l[i]? /\ ∀ x,l[i]? = some x->x.d=n) /\
   ∀ x,l[(l.filter (λx=>decide (x.d=n))).length]? = some x->x.d≠n
 |[],_,_=>by simp
 | y :: l,hs,hg=>by
   simp only[W0F,W1k]at hs;obtain ⟨h1,h2,h3⟩:=Z9P l hs.2 λx hx=>hg x (W0z _ hx)
   by_cases hy:y.d=n
   . have e:(y::l).filter (λx=>decide (x.d=n))=y::l.filter (λx=>decide (x.d=n)):=(by simp[hy]);rw[e];refine ⟨by simpa using h1,λi hi=>?_,λx hx=>h3 x (by simpa using hx)⟩
     cases i with
     |zero=>exact ⟨rfl,λx hx=>by simp at hx;subst hx;exact hy⟩
     |succ i=>exact ⟨by simpa using (h2 i (by simpa using hi)).1,λx hx=>(h2 i (by simpa using hi)).2 x (by simpa using hx)⟩
   . have gt:n<y.d:=by have:=hg y (W0H ..);omega
     have e:(y::l).filter (λx=>decide (x.d=n))=[]:=by
      rw[W2b];intro x hx;rcases W0g.1 hx with rfl|hx
      . simpa using hy
      . have:=hs.1 x.d (W0i.2 ⟨x,hx,rfl⟩);simp;omega
     rw[e];refine ⟨by simp,by simp,λx hx=>?_⟩;simp at hx;subst hx;exact hy
def Z9Q {r:Jr} {n:Int} (hs:(r.map (·.d)).Pairwise (· <= ·)):∃ cnt,cnt=(r.filter (λx=>decide (x.d=n))).length/\cnt<=(r.drop (lowB (r.map (·.d)) n)).length /\
  (∀ i,i<cnt->(r.filter (λx=>decide (x.d=n)))[i]? = (r.drop (lowB (r.map (·.d)) n))[i]? /\ ∀ x,(r.drop (lowB (r.map (·.d)) n))[i]? = some x->x.d=n)/\(∀ x,(r.drop (lowB (r.map (·.d)) n))[cnt]? = some x->x.d≠n):=by
 have e:r.filter (λx=>decide (x.d=n))=(r.drop (lowB (r.map (·.d)) n)).filter (λx=>decide (x.d=n)):=by
  conv=>lhs;rw[<- W11 (lowB (r.map (·.d)) n) r]
  rw[W19]
  have:(r.take (lowB (r.map (·.d)) n)).filter (λx=>decide (x.d=n))=[]:=by
   rw[W2b];intro x hx;obtain ⟨i,hi,rfl⟩:=W0k hx;simp only[W15]at hi;have:=(Z9x hs n i (by simp;omega)).1 (by omega);simp only[W1u]at this;simp only[W1P];simp;omega
  rw[this,W18]
 refine ⟨_,rfl,?_⟩;rw[e];refine Z9P _ ?_ λx hx=>?_
 . rw[List.map_drop];exact hs.sublist (List.drop_sublist _ _)
 . obtain ⟨i,hi,rfl⟩:=W0k hx;simp only[List.length_drop]at hi;have q:=Z9x hs n (lowB (r.map (·.d)) n+i) (by simp;omega);simp only[W1u]at q;simp only[List.getElem_drop];by_cases h:r[lowB (r.map (·.d)) n+i].d<n
   . have:=q.2 h;omega
   . omega
def Z9R (a b:Int):PC prog G 96 [.int .i64 a,.int .i64 b] (.int .i64 (if a<b then -1 else if b<a then 1 else 0)):=by
 (refine Z6Q rfl λR hG hrd=>Qga ?_;subst hG)
 by_cases h1:a<b
 . simp -implicitDefEqProofs[Z6O,Z6P];refine Qco (Z9B a) ?_;simp -implicitDefEqProofs;refine Qco (Z9B b) ?_;simp -implicitDefEqProofs[h1]
 . by_cases h2:b<a
   . simp -implicitDefEqProofs[Z6O,Z6P];refine Qco (Z9B a) ?_;simp -implicitDefEqProofs;refine Qco (Z9B b) ?_;simp -implicitDefEqProofs[h1,h2]
   . simp -implicitDefEqProofs[Z6O,Z6P];refine Qco (Z9B a) ?_;simp -implicitDefEqProofs;refine Qco (Z9B b) ?_;simp -implicitDefEqProofs[h1,h2]
def Z9S (x:Iss) (n:Int):PC prog G 95 [.agg (isa x),.int .i64 n] (.int .i64 (if x.d<n then -1 else if n<x.d then 1 else 0)):=by
 (refine Z6Z rfl λR hG hrd=>Qga ?_;subst hG)
 simp -implicitDefEqProofs[Z6X,Z6Y,isa];refine Qco (Z9R _ _) ?_;simp -implicitDefEqProofs
def Z9T (r:Jr) (n:Int) (hs:(r.map (·.d)).Pairwise (· <= ·)) (hl:Sml r):∃ b,PC prog G 94 [.vsl (r.map isa),.int .i64 n,.func (.func 95) [] []] (.tup [.int .i64 (lowB (r.map (·.d)) n),.bool b]):=by
 have hle:=Z9w (r.map (·.d)) n;simp only[W0N]at hle;refine ⟨if h:lowB (r.map (·.d)) n<r.length then decide ((if r[lowB (r.map (·.d)) n].d<n then (-1:Int) else if n<r[lowB (r.map (·.d)) n].d then 1 else 0)=0) else false,?_⟩
 (refine Z6T rfl λR hG hrd=>Qga ?_;subst hG)
 unfold Sml at hl;simp -implicitDefEqProofs[Z6R,Z6S];refine Z1Q (λp:Nat×Nat=>⟨[(10,.int .i64 p.2),(9,.int .i64 p.1),(8,.int .i64 r.length),(0,.vsl (r.map isa)),(1,.int .i64 n),(2,.func (.func 95) [] [])],[]⟩) (λp=>p.1<=lowB (r.map (·.d)) n/\lowB (r.map (·.d)) n<=p.2/\p.2<=r.length) (λp=>p.2-p.1) (0,r.length) (by (first|exact Wka|exact Wkb)) ⟨by omega,hle,W0f _⟩ ?_;rintro ⟨lo,hi⟩ ⟨h1,h2,h3⟩;simp only at h1 h2 h3;refine Qga ?_;by_cases h4:lo<hi
 . obtain ⟨m,hm⟩:=Qex ((lo+hi) / 2);have hw:=Z9A (i:=lo) (j:=hi) (by omega);rw[<- hm]at hw;have m1:m<r.length:=(by omega);have w1:i64.wrap ((m:Int)+1)=((m+1:Nat):Int):=Yf;have hb:=Z9x hs n m (by simpa using m1);simp only[W1u]at hb;by_cases h5:r[m].d<n
   . have c1:(-1:Int)<0:=(by omega);simp -implicitDefEqProofs[h4,hw,m1,isa];refine Qco (Z9S r[m] n) ?_;simp -implicitDefEqProofs[h5,w1];exact ⟨(m+1,hi),(by (first|exact Wka|exact Wkb)),⟨by have:=hb.2 h5;show m+1<=_;omega,h2,h3⟩,by show hi-(m+1)<hi-lo;omega⟩
   . simp -implicitDefEqProofs[h4,hw,m1,isa];refine Qco (Z9S r[m] n) ?_;by_cases h6:n<r[m].d
     . simp -implicitDefEqProofs[h5,h6];exact ⟨(lo,m),(by (first|exact Wka|exact Wkb)),⟨h1,by have:¬m<lowB (r.map (·.d)) n:=λh=>h5 (hb.1 h);show _<=m;omega,by show m<=_;omega⟩,by show m-lo<hi-lo;omega⟩
     . simp -implicitDefEqProofs[h5,h6];exact ⟨(lo,m),(by (first|exact Wka|exact Wkb)),⟨h1,by have:¬m<lowB (r.map (·.d)) n:=λh=>h5 (hb.1 h);show _<=m;omega,by show m<=_;omega⟩,by show m-lo<hi-lo;omega⟩
 . obtain rfl:lo=lowB (r.map (·.d)) n:=(by omega);by_cases h5:lowB (r.map (·.d)) n<r.length
   . simp -implicitDefEqProofs[h4];refine Qgr ?_;simp -implicitDefEqProofs[h5,isa];refine Qco (Z9S r[lowB (r.map (·.d)) n] n) ?_;simp -implicitDefEqProofs
   . simp -implicitDefEqProofs[h4];refine Qgr ?_;simp -implicitDefEqProofs[h5]
def issA:RCode->RCode
 |.seq a _=>a
 |c=>c
def Z9U:RCode->RCode
 |.seq _ b=>b
 |c=>c
def issB1 (c:RCode):RCode:=issA (Z9U c)
def issB2 (c:RCode):RCode:=Z9U (Z9U c)
def issB3 (c:RCode):RCode:=match issB2 c with
 |.block _ b=>b
 |c=>c
def issL (c:RCode):RCode:=match issB3 c with
 |.loop b=>b
 |c=>c
def issBk:RCode->RCode
 |.block _ b=>b
 |c=>c
def Z9V:RCode->List ROper
 |.reg _ _ l=>l
 |_=>[]
def itS (seg:Jr) (bk:AV) (n:Int) (l i:Nat):List (Nat×AV) :=
 [(26,.int .i64 i),(25,.int .i64 seg.length),(24,.vsl (seg.map isa)),(2,.vptr [.int .i64 n] 0),(1,.vptr [bk] 0),(0,.func (.yield l) [] [])]
def Z9W (r:Jr) (n:Int) (ds:AV) (hs:(r.map (·.d)).Pairwise (· <= ·)) (hl:Sml r):IterP prog 93 [.vptr [.vptr [.vsl (r.map isa),ds] 0] 0,.vptr [.int .i64 n] 0] (elsOf r n):=by
 refine ⟨by kernel_rfl,?_⟩;intro n' l lb J K M W hn hJe hKe hJM hC hY h0;obtain ⟨cnt,hcnt,hc1,hc2,hc3⟩:=Z9Q (n:=n) hs;generalize hseg:r.drop (lowB (r.map (·.d)) n)=seg at hc1 hc2 hc3;have hsl:seg.length<=16777216:=(by rw[<- hseg];simp;unfold Sml at hl;omega);have hle:=Z9w (r.map (·.d)) n;simp only[W0N]at hle;unfold Sml at hl;have hel:(elsOf r n).length=cnt:=(by rw[hcnt];simp[elsOf]);obtain ⟨c,hc,hok⟩ : ∃ c,Tryd.f93.body=some c/\Z1A prog Tryd.f93.ntmps c Z9F=true:=⟨_,rfl,by kernel_rfl⟩;obtain ⟨N,hN⟩:=Qex Tryd.f93.ntmps;have hN3:3<=N:=(by rw[hN];decide);rw[<- hN]at hok;refine callsIn_of_wp (F:=Fence.wide) Tryd.func93 hc trivial ?_ rfl
 have hres:∀ (tm:Array Value) (W':World),(results Tryd.f93 tm).run prog W' = .ok (.tuple #[]) W':=λtm W'=>by
  have e:Tryd.f93.results = #[]:=rfl;simp[results,e,Sem.run_bind]
 obtain ⟨Q,hQ⟩:=Qex (bodyPost prog Tryd.f93 (λe W'=>(∃ v,e = .returned v)/\((∃ M,J (elsOf r n).length M W')∨K W')))
 have hfin:∀ (a:Act) (W':World),a.defers=[]->((∃ M,J (elsOf r n).length M W')∨K W')->Q .ret a W'/\Q .normal a W':=λa W' hd h=>by
  rw[hQ];exact ⟨⟨hd,_,hres _ _,⟨_,rfl⟩,h⟩,⟨hd,_,hres _ _,⟨_,rfl⟩,h⟩⟩
 rw[<- hQ];have hwide:Fence.wide=FW none:=rfl;rw[hwide];obtain ⟨cA,c1,rfl,okA',ok1⟩:=Z9G (a:=issA Z9F) (b:=Z9U Z9F) hok;obtain ⟨cB,c2,rfl,okB',ok2⟩:=Z9G (a:=issB1 Z9F) (b:=issB2 Z9F) ok1;obtain ⟨c3,rfl,ok3⟩:=Z9H (id:=0) (a:=issB3 Z9F) ok2;obtain ⟨c4,rfl,ok4⟩:=Z9I (a:=issL Z9F) ok3
 have hbk:∃ v1 v2,lb = #[v1,v2]/\PV M W (.vptr [.vptr [.vsl (r.map isa),ds] 0] 0) v1/\PV M W (.vptr [.int .i64 n] 0) v2:=by
  obtain ⟨h1,h2⟩:=hC
  match lb,h1,h2 with
  | ⟨[v1,v2]⟩,_,h2=>exact ⟨v1,v2,rfl,h2 0 _ v1 rfl rfl,h2 1 _ v2 rfl rfl⟩
 obtain ⟨v1,v2,rfl,hv1,hv2⟩:=hbk;obtain ⟨bk,hbk⟩:=Qex (AV.vptr [.vsl (r.map isa),ds] 0);rw[<- hbk]at hv1
 have start:SR (Z9L M W N none) ⟨[(2,.vptr [.int .i64 n] 0),(1,.vptr [bk] 0),(0,.func (.yield l) [] [])],[]⟩ { tmps:=(#[.func (.yield l) #[] #[]] ++ #[v1,v2]:Array Value)++Array.replicate (N-3) Go.undef,defers:=[] } W:=by
  refine Z9M (hJM 0 M W h0) rfl (by simp;omega) λk x hx=>?_
  have g0:((#[.func (.yield l) #[] #[]] ++ #[v1,v2]:Array Value)++Array.replicate (N-3) Go.undef).getD 0 Go.undef = .func (.yield l) #[] #[]:=(by simp[Array.getD]);have g1:((#[.func (.yield l) #[] #[]] ++ #[v1,v2]:Array Value)++Array.replicate (N-3) Go.undef).getD 1 Go.undef=v1:=(by simp[Array.getD];omega);have g2:((#[.func (.yield l) #[] #[]] ++ #[v1,v2]:Array Value)++Array.replicate (N-3) Go.undef).getD 2 Go.undef=v2:=(by simp[Array.getD];omega);simp only[lk]at hx
  split at hx
  . rename_i e;subst e;cases hx;rw[g2];exact hv2
  . split at hx
    . rename_i e;subst e;cases hx;rw[g1];exact hv1
    . split at hx
      . rename_i e;subst e;cases hx;rw[g0];exact .func _ [] [] #[] #[] rfl rfl (by simp) (by simp)
      . cases hx
 have hact:({ tmps:=(#[.func (.yield l) #[] #[]] ++ #[v1,v2]:Array Value)++Array.replicate (Tryd.f93.ntmps-(#[.func (.yield l) #[] #[]] ++ #[v1,v2]:Array Value).size) Go.undef,defers:=[] }:Act)={ tmps:=(#[.func (.yield l) #[] #[]] ++ #[v1,v2]:Array Value)++Array.replicate (N-3) Go.undef,defers:=[] }:=(by rw[hN];rfl);rw[hact]
 have arA:AR prog (Z9L M W N none) (issA Z9F) ⟨[(2,.vptr [.int .i64 n] 0),(1,.vptr [bk] 0),(0,.func (.yield l) [] [])],[]⟩ (λe s=>e = .normal/\Ym s ⟨[(4,.int .i64 (lowB (r.map (·.d)) n)),(2,.vptr [.int .i64 n] 0),(1,.vptr [bk] 0),(0,.func (.yield l) [] [])],[]⟩):=by
  obtain ⟨b,hb⟩:=Z9T (G:=λ_=>none) r n hs hl;refine Qga ?_;simp -implicitDefEqProofs[issA,Z9F,hbk];refine Ye.of hb (by simp[AV.pure]) ?_;simp -implicitDefEqProofs;exact ⟨rfl,(by (first|exact Wka|exact Wkb))⟩
 have hdr:List.drop (lowB (r.map (·.d)) n) (r.map isa)=seg.map isa:=(by rw[<- List.map_drop,hseg]);have hsg:seg.length=r.length-lowB (r.map (·.d)) n:=(by rw[<- hseg];simp);have htk:List.take r.length (r.map isa)=r.map isa:=W0J (by simp);have k5:(r.map isa).all (λr=>r.length == 5)=true:=by simp[isa]
 have arB:∀ R':Run,AR prog R' (issB1 Z9F) ⟨[(4,.int .i64 (lowB (r.map (·.d)) n)),(2,.vptr [.int .i64 n] 0),(1,.vptr [bk] 0),(0,.func (.yield l) [] [])],[]⟩ (λe s=>e = .normal/\Ym s ⟨itS seg bk n l 0,[]⟩):=λR'=>by
  refine Qga ?_;simp -implicitDefEqProofs[issA,issB1,Z9U,Z9F,hbk,hle,k5,hdr];exact (by (first|exact Ym.tm (by simp[lk,itS,hsg,htk,hdr])|exact Ym.sub (by simp[lk,Ya,AV.keys,itS,hsg,htk,hdr]) (by simp[lk,Yc,Ya,AV.keys,itS,hsg,htk,hdr])))
 refine wpIn_seq (wpIn_mono (arA cA okA' _ _ W start) ?_);rintro e a1 W1 ⟨s1,⟨rfl,hw1⟩,hs1⟩;refine wpIn_seq (wpIn_mono (arB _ cB okB' _ a1 W1 (hw1 _ _ _ hs1)) ?_);rintro e a2 W2 ⟨s2,⟨rfl,hw2⟩,hs2⟩;obtain ⟨d2,n2,t2,e2⟩:=Z9N hs2 hw2 (by simp[itS,AV.pure,hbk]);have hJ2:=hJe _ _ _ _ h0 e2;clear hs2 hw2 hs1 hw1 arA arB start hact;refine wpIn_block ?_;refine wpIn_loop_ghost (λm a A=>∃ i M,i<=cnt/\m=seg.length-i/\J i M A/\a.defers=[]/\a.tmps.size=N/\TT' M A (itS seg bk n l i) a) seg.length ⟨0,M,W1e _,by simp,hJ2,d2,n2,t2⟩ ?_;clear hJ2 d2 n2 t2 e2 h0 hv1 hv2 hC;rintro m a A ⟨i,M,hi,rfl,hJ,hd,hn2,ht⟩;have hfr:SR (Z9L M A N none) ⟨itS seg bk n l i,[]⟩ a A:=Z9M (hJM i M A hJ) hd hn2 ht;by_cases hlt:i<seg.length
 case neg =>
  have hic:i=cnt:=(by omega);subst hic
  have ar:∀ R':Run,AR prog R' (issL Z9F) ⟨itS seg bk n l i,[]⟩ (λe s=>e = .exit 0/\Ym s ⟨[],[]⟩):=λR'=>by
   refine Qga ?_;simp -implicitDefEqProofs[issL,issB3,issB2,Z9U,Z9F,itS,hlt];exact (by (first|exact Wka|exact Wkb))
  refine wpIn_mono (ar _ c4 ok4 _ a A hfr) ?_;rintro e a3 A3 ⟨s3,⟨rfl,hw3⟩,hs3⟩;obtain ⟨d3,-,-,e3⟩:=Z9N hs3 hw3 (by simp);refine (hfin a3 A3 d3 (.inl ⟨M,?_⟩)).2;rw[hel];exact hJe _ _ _ _ hJ e3
 by_cases hd2:seg[i].d=n
 case neg =>
  have hic:i=cnt:=by
   by_cases e:i<cnt
   . exact absurd ((hc2 i e).2 _ (W07 hlt)) hd2
   . omega
  subst hic
  have ar:∀ R':Run,AR prog R' (issL Z9F) ⟨itS seg bk n l i,[]⟩ (λe s=>e = .ret/\Ym s ⟨[],[]⟩):=λR'=>by
   refine Qga ?_;simp -implicitDefEqProofs[issL,issB3,issB2,Z9U,Z9F,itS,hlt,isa,hd2];exact (by (first|exact Wka|exact Wkb))
  refine wpIn_mono (ar _ c4 ok4 _ a A hfr) ?_;rintro e a3 A3 ⟨s3,⟨rfl,hw3⟩,hs3⟩;obtain ⟨d3,-,-,e3⟩:=Z9N hs3 hw3 (by simp);refine (hfin a3 A3 d3 (.inl ⟨M,?_⟩)).1;rw[hel];exact hJe _ _ _ _ hJ e3
 have hic:i<cnt:=by
  by_cases e:i<cnt
  . exact e
  . exact absurd hd2 (hc3 _ (by rw[show cnt=i by omega];exact W07 hlt))
 have helt:(elsOf r n)[i]? = some (.agg (isa seg[i])):=by
  simp only[elsOf,W09,(hc2 i hic).1,W07 hlt,W0m]
 obtain ⟨L,hL⟩:=Qex (issL Z9F);obtain ⟨r2,q1,rfl,okr2,okq1⟩:=Z9G (a:=issA (issL Z9F)) (b:=Z9U (issL Z9F)) ok4;obtain ⟨k1,q2,rfl,okk1,okq2⟩:=Z9G (a:=issA (Z9U (issL Z9F))) (b:=Z9U (Z9U (issL Z9F))) okq1;obtain ⟨q3,r5,rfl,okq3,okr5⟩:=Z9G (a:=issA (Z9U (Z9U (issL Z9F)))) (b:=Z9U (Z9U (Z9U (issL Z9F)))) okq2;obtain ⟨q4,rfl,okq4⟩:=Z9H (id:=1) (a:=issBk (issA (Z9U (Z9U (issL Z9F))))) okq3;obtain ⟨r3,q5,rfl,okr3,okq5⟩:=Z9G (a:=issA (issBk (issA (Z9U (Z9U (issL Z9F)))))) (b:=Z9U (issBk (issA (Z9U (Z9U (issL Z9F)))))) okq4;obtain ⟨r4,k2,rfl,okr4,okk2⟩:=Z9G (a:=issA (Z9U (issBk (issA (Z9U (Z9U (issL Z9F))))))) (b:=Z9U (Z9U (issBk (issA (Z9U (Z9U (issL Z9F))))))) okq5;obtain ⟨ops,rfl,hops⟩:=Z9J (id:=4) (rs:=Z9V (issA (Z9U (issBk (issA (Z9U (Z9U (issL Z9F)))))))) okr4;obtain ⟨hol,hoo⟩:=Zc hops;have hol:ops.size=10:=hol
 have ar2:AR prog (Z9L M A N none) (issA (issL Z9F)) ⟨itS seg bk n l i,[]⟩ (λe s=>e = .normal/\Ym s ⟨(27,.bool true)::itS seg bk n l i,[]⟩):=by
  refine Qga ?_;simp -implicitDefEqProofs[issL,issB3,issB2,issA,Z9U,Z9F,itS,hlt];exact (by (first|exact Wka|exact Wkb))
 refine wpIn_seq (wpIn_mono (ar2 r2 okr2 _ a A hfr) ?_);rintro e b1 B1 ⟨s1,⟨rfl,w1⟩,hs1⟩
 have ark:AR prog (Z9L M A N none) (issA (Z9U (issL Z9F))) ⟨(27,.bool true)::itS seg bk n l i,[]⟩ (λe s=>e = .normal/\Ym s ⟨itS seg bk n l i,[]⟩):=by
  refine Qga ?_;simp -implicitDefEqProofs[issL,issB3,issB2,issA,Z9U,Z9F,itS];exact (by (first|exact Wka|exact Wkb))
 refine wpIn_seq (wpIn_mono (ark k1 okk1 _ b1 B1 (w1 _ _ _ hs1)) ?_);rintro e b2 B2 ⟨s2,⟨rfl,w2⟩,hs2⟩;refine wpIn_seq (wpIn_block ?_)
 have ar3:AR prog (Z9L M A N none) (issA (issBk (issA (Z9U (Z9U (issL Z9F)))))) ⟨itS seg bk n l i,[]⟩ (λe s=>e = .normal/\Ym s ⟨(7,.ptr 7 0)::itS seg bk n l i,[(7,.box (isa seg[i]))]⟩):=by
  refine Qga ?_;simp -implicitDefEqProofs[issL,issB3,issB2,issA,Z9U,issBk,Z9F,itS,hlt,isa];exact (by (first|exact Wka|exact Wkb))
 refine wpIn_seq (wpIn_mono (ar3 r3 okr3 _ b2 B2 (w2 _ _ _ hs2)) ?_);rintro e b3 B3 ⟨s3,⟨rfl,w3⟩,hs3⟩;have hs3:=w3 _ _ _ hs3;clear hs1 hs2 w1 w2 w3 ar2 ark ar3;refine wpIn_seq (wpIn_region ?_);have hrg:List.range ops.size=[0,1,2,3,4,5,6]++[7,8,9]:=(by rw[hol];rfl);rw[hrg]
 have okAt:∀ (k:Nat) (r:ROper),(Z9V (issA (Z9U (issBk (issA (Z9U (Z9U (issL Z9F))))))))[k]? = some r->∃ o,ops[k]? = some o/\Z1z prog N ops o r=true:=λk r hk=>by
  have hlt:k<ops.size:=by
   have:=(W02.1 hk).1;rw[hol];exact this
  exact ⟨ops[k],by simp[hlt],hoo k _ r (by simp[hlt]) hk⟩
 refine Z9K (R:=Z9L M A N none) [7,8,9] _ ((Z9V (issA (Z9U (issBk (issA (Z9U (Z9U (issL Z9F)))))))).take 7) ⟨(7,.ptr 7 0)::itS seg bk n l i,[(7,.box (isa seg[i]))]⟩
  (λs=>Ym s ⟨(36,.agg (isa seg[i]))::(35,.func (.yield l) [] [])::(34,.bool false)::itS seg bk n l i,[]⟩) b3 B3 ?_ rfl ?_ ?_ hs3
 . intro k r hk;rw[W1l]at hk
   split at hk
   . rename_i h7;obtain ⟨o,h1,h2⟩:=okAt k r hk;refine ⟨k,o,?_,h1,h2⟩
     match k,h7 with
     |0,_|1,_|2,_|3,_|4,_|5,_|6,_=>rfl
   . cases hk
 . intro s4 b4 B4 w4 hs4;obtain ⟨κ4,hk4⟩:=w4 _ _ _ hs4;obtain ⟨d4,n4,t4,e4⟩:=Z9N hs4 w4 (by simp[itS,AV.pure,hbk,isa]);obtain ⟨o7,ho7,hk7⟩:=okAt 7 _ rfl;rw[wpOpsIn_cons];refine Z9O (R:=Z9L M A N none) (l:=l) (f:=.t 35) (y:=.t 36) rfl (by simp[evA,St.tmp,lk]) (by simp[wants,St.tmp,lk]) ho7 hk7 hk4 λu hu=>?_
   have hpu:PV M B4 (.agg (isa seg[i])) u:=by
    have h36:evA (Z9L M A N none).G ⟨(36,.agg (isa seg[i]))::(35,.func (.yield l) [] [])::(34,.bool false)::itS seg bk n l i,[]⟩ (.t 36) = .agg (isa seg[i]):=(by simp[evA,St.tmp,lk]);rw[h36]at hu;exact (hu.toPV (by simp[AV.pure,isa])).mono (λb _ hb=>⟨λh=>hb (.inl h),rfl⟩) (W0f _)
   have hdst:o7.dst=some 37:=by
    simp only[Z1z,W01,W0b]at hk7;exact hk7.1.1.1
   have h34:b4.tmps.getD 34 Go.undef = .bool false:=by
    have:=t4 34 (.bool false) (by simp[lk]);generalize b4.tmps.getD 34 Go.undef=v at this
    cases this;rfl
   have suffix:∀ (b:Bool) (T:List (Nat×AV)) (M':Nat->Prop) (A':World),(T=itS seg bk n l i∨T=[])->(∀ x,M' x->x<A'.heap.size)->TT' M' A' T b4->∀ (Qx:Exit->Act->World->Prop),
     (∀ a5 A5,SR (Z9L M' A' N none) ⟨(39,.bool (!b))::T,[]⟩ a5 A5->Qx .normal a5 A5)->wpOpsIn (FW none) n' prog ops Qx [8,9] (b4.put (some 37) (.bool b)) A':=by
    intro b T M' A' hTT hM' hT Qx hQx;have n37:37<N:=by rw[hN];decide
    have hsr:SR (Z9L M' A' N none) ⟨(37,.bool b)::(34,.bool false)::T,[]⟩ (b4.put (some 37) (.bool b)) A':=by
     refine Z9M hM' d4 (by simpa [Act.put] using n4) λk x hx=>?_
     show PV M' A' x ((b4.tmps.setIfInBounds 37 (.bool b)).getD k Go.undef);simp only[lk]at hx
     split at hx
     . rename_i e;subst e
       cases hx
       have:(b4.tmps.setIfInBounds 37 (.bool b)).getD 37 Go.undef = .bool b:=(by simp[Array.getD,n4,n37]);rw[this];exact .bool b
     . rename_i e
       have h3:(b4.tmps.setIfInBounds 37 (.bool b)).getD k Go.undef=b4.tmps.getD k Go.undef:=by
        simp only[W0a,W0p,if_neg e]
       rw[h3]
       split at hx
       . rename_i e2;subst e2;cases hx;rw[h34];exact .bool false
       . exact hT k x hx
    refine Z27 (R:=Z9L M' A' N none) [8,9] ((Z9V (issA (Z9U (issBk (issA (Z9U (Z9U (issL Z9F)))))))).drop 8) ⟨(37,.bool b)::(34,.bool false)::T,[]⟩
     (λe s=>e = .normal/\Ym s ⟨(39,.bool (!b))::T,[]⟩) Qx _ A' ?_ rfl ?_ ?_ hsr
    . intro k r hk;rw[W13]at hk;obtain ⟨o,h1,h2⟩:=okAt (8+k) r hk
      have h7:k<2:=by
       have:=(W02.1 hk).1;have e:(Z9V (issA (Z9U (issBk (issA (Z9U (Z9U (issL Z9F)))))))).length=10:=rfl;omega
      refine ⟨8+k,o,?_,h1,h2⟩
      match k,h7 with
      |0,_|1,_=>rfl
    . rintro e s5 a5 A5 ⟨rfl,w5⟩ hs5;exact hQx a5 A5 (w5 _ _ _ hs5)
    . rcases hTT with rfl|rfl <;> cases b
      all_goals
       simp -implicitDefEqProofs[issL,issB3,issB2,issA,Z9U,issBk,Z9V,Z9F,itS];exact (by (first|exact Wka|exact Wkb))
   obtain ⟨fn,tm,asg,bo,y1,y2⟩:=hY i _ u M B4 (hJe _ _ _ _ hJ e4) helt hpu;refine ⟨fn,tm,asg,bo,y1,y2.mono ?_⟩;rintro e A' (⟨rfl,M',hJ',hSi⟩ | ⟨rfl,hK'⟩)
   . show wpOpsIn (FW none) n' prog ops _ [8,9] (b4.put o7.dst (.bool true)) A';rw[hdst]
     have hT':TT' M' A' (itS seg bk n l i) b4:=λk x hx=>by
      refine (t4 k x ?_).mono hSi.2 hSi.1;simp only[lk];rw[if_neg (by rintro rfl;simp[itS,lk]at hx),if_neg (by rintro rfl;simp[itS,lk]at hx),if_neg (by rintro rfl;simp[itS,lk]at hx)];exact hx
     refine suffix true _ M' A' (.inl rfl) (hJM _ _ _ hJ') hT' _ λa5 A5 h5=>?_
     have ark2:AR prog (Z9L M' A' N none) (Z9U (Z9U (issBk (issA (Z9U (Z9U (issL Z9F))))))) ⟨(39,.bool (!true))::itS seg bk n l i,[]⟩ (λe s=>e = .normal/\Ym s ⟨itS seg bk n l i,[]⟩):=by
      refine Qga ?_;simp -implicitDefEqProofs[issL,issB3,issB2,issA,Z9U,issBk,Z9F,itS];exact (by (first|exact Wka|exact Wkb))
     refine wpIn_mono (ark2 k2 okk2 _ a5 A5 h5) ?_;rintro e b6 B6 ⟨s6,⟨rfl,w6⟩,hs6⟩
     have ar5:AR prog (Z9L M' A' N none) (Z9U (Z9U (Z9U (issL Z9F)))) ⟨itS seg bk n l i,[]⟩ (λe s=>e = .normal/\Ym s ⟨itS seg bk n l (i+1),[]⟩):=by
      have w1:i64.wrap ((i:Int)+1)=((i+1:Nat):Int):=Yf;refine Qga ?_;simp -implicitDefEqProofs[issL,issB3,issB2,issA,Z9U,issBk,Z9F,itS,w1];exact (by (first|exact Wka|exact Wkb))
     refine wpIn_mono (ar5 r5 okr5 _ b6 B6 (w6 _ _ _ hs6)) ?_;rintro e b7 B7 ⟨s7,⟨rfl,w7⟩,hs7⟩;obtain ⟨d7,n7,t7,e7⟩:=Z9N hs7 w7 (by simp[itS,AV.pure,hbk]);exact ⟨seg.length-(i+1),by omega,i+1,M',by omega,rfl,hJe _ _ _ _ hJ' e7,d7,n7,t7⟩
   . show wpOpsIn (FW none) n' prog ops _ [8,9] (b4.put o7.dst (.bool false)) A';rw[hdst];refine suffix false [] (λ_=>False) A' (.inr rfl) (λ_ h=>h.elim) (λk x hx=>by simp[lk]at hx) _ λa5 A5 h5=>?_
     have ark2:AR prog (Z9L (λ_=>False) A' N none) (Z9U (Z9U (issBk (issA (Z9U (Z9U (issL Z9F))))))) ⟨[(39,.bool (!false))],[]⟩ (λe s=>e = .ret/\Ym s ⟨[],[]⟩):=by
      refine Qga ?_;simp -implicitDefEqProofs[issL,issB3,issB2,issA,Z9U,issBk,Z9F];exact (by (first|exact Wka|exact Wkb))
     refine wpIn_mono (ark2 k2 okk2 _ a5 A5 h5) ?_;rintro e b6 B6 ⟨s6,⟨rfl,w6⟩,hs6⟩;obtain ⟨d6,-,-,e6⟩:=Z9N hs6 w6 (by simp);exact (hfin b6 B6 d6 (.inr (hKe _ _ hK' e6))).1
 . simp -implicitDefEqProofs[issL,issB3,issB2,issA,Z9U,issBk,Z9V,Z9F,itS,isa,hd2];exact (by (first|exact Wka|exact Wkb))
def bkA (r:Jr) (ds:List Int):AV:=.vptr [.vsl (r.map isa),.vsl (ds.map ia)] 0
def Z9X (r:Jr) (ds:List Int):(bkA r ds).pure=true:=by simp[bkA,AV.pure]
attribute [simp] Z9X
def Z9Y (r:Jr) (ds:List Int) (n:Int) (hs:ds.Pairwise (· <= ·)) (hl:Sml ds):PC prog G 77 [bkA r ds,.int .i64 n] (.bool (decide (n∈ds))):=by
 (refine Z6B rfl λR hG hrd=>Qga ?_;subst hG)
 simp -implicitDefEqProofs[Z6z,Z6A,bkA];refine Qco (Z9E ds n hs hl) ?_;simp -implicitDefEqProofs
def Z9Z (r:Jr) (ds:List Int) (y:Int×Int) (hs:ds.Pairwise (· <= ·)) (hl:Sml ds):PC prog G 76 [.agg [.int .i64 y.1,.int .i64 y.2],.vptr [bkA r ds] 0] (.bool (!decide (y.1∈ds))):=by
 (refine Z6y rfl λR hG hrd=>Qga ?_;subst hG)
 simp -implicitDefEqProofs[Z6w,Z6x];refine Qco (Z9Y r ds y.1 hs hl) ?_;simp -implicitDefEqProofs
def Za0 (r:Jr) (ds:List Int) (n:Int):PC prog G 78 [bkA r ds,.int .i64 n] (.func (.func 93) [] [.vptr [bkA r ds] 0,.vptr [.int .i64 n] 0]):=by
 (refine Z6W rfl λR hG hrd=>Qga ?_;subst hG)
 simp -implicitDefEqProofs[Z6U,Z6V,bkA]
def cntV (r:Jr) (n:Int):Int:=((r.filter (λx=>decide (x.d=n))).length:Nat)
def Za1 (r:Jr) (ds:List Int) (n:Int) (hs:(r.map (·.d)).Pairwise (· <= ·)) (hl:Sml r):PC prog G 63 [bkA r ds,.int .i64 n] (.int .i64 (cntV r n)):=by
 (refine Z72 rfl λR hG hrd=>Qga ?_;subst hG)
 simp -implicitDefEqProofs[Z70,Z71];refine Qco (Za0 r ds n) ?_;simp -implicitDefEqProofs;have hel:(elsOf r n).length=(r.filter (λx=>decide (x.d=n))).length:=(by simp[elsOf]);have hle:(r.filter (λx=>decide (x.d=n))).length<=16777216:=W0O (W0D _ _) hl;refine Z58 hrd (Z9W r n (.vsl (ds.map ia)) hs hl) (by simp[evA,St.tmp,lk,bkA]) (by simp[AV.pure]) (λk=>if k=1000 then 5 else k) [(5,.ptr 1000 0)] (λk=>[(1000,.box [.int .i64 k])]) [1000] (λ_=>True) trivial (λ_=>rfl) (by simp) (by simp) (by simp[Yl,St.set,putO,AObj.ren,AV.ren]) (by simp[Yc,Ya,AV.keys]) (by simp[lk,AV.ren,AV.keys]) ?_ ?_
 . intro k x hx _ R' hG hN;refine Qga ?_;simp -implicitDefEqProofs;intro R'' hG'' hN'';refine Qga ?_;have hk:k<(elsOf r n).length:=(W02.1 hx).1;have w1:i64.wrap ((k:Int)+1)=((k+1:Nat):Int):=Yf;simp -implicitDefEqProofs[w1,RndB,Yi,newK,frzO,frzA,frz,AV.keys]
 . intro _;simp -implicitDefEqProofs[Yl,AObj.ren,AV.ren];refine Qgr ?_;simp -implicitDefEqProofs[hel,cntV]
def Za2 (r:Jr) (ds:List Int) (d l:Int) (hs:(r.map (·.d)).Pairwise (· <= ·)) (hl:Sml r) (hu:∀ y∈r,findN y.d y.l r=some y):PC prog G 62 [bkA r ds,.agg [.int .i64 d,.int .i64 l]] (fndA (findN d l r)):=by
 (refine Z75 rfl λR hG hrd=>Qga ?_;subst hG)
 simp -implicitDefEqProofs[Z73,Z74];refine Qco (Za0 r ds d) ?_;simp -implicitDefEqProofs
 refine Z58 hrd (Z9W r d (.vsl (ds.map ia)) hs hl) (by simp[evA,St.tmp,lk,bkA]) (by simp[AV.pure]) (λk=>k-1000) [(3,.ptr 1003 0),(4,.ptr 1004 0),(5,.ptr 1005 0)] (λ_=>[(1003,.box [.int .i64 d,.int .i64 l]),(1004,.box [.int .i64 0,.int .i64 0,.int .u8 0,.nils,.nils]),(1005,.box [.bool false])])
  [1003,1004,1005] (λk=>∀ j,j<k->∀ y,(r.filter (λx=>decide (x.d=d)))[j]? = some y->y.l≠l) (by simp) (λ_=>rfl) (by simp) (by simp) (by simp[Yl,St.set,putO,AObj.ren,AV.ren]) (by simp[Yc,Ya,AV.keys]) (by simp[lk,AV.ren,AV.keys]) ?_ ?_
 . intro k x hx hI R' hG hN
   obtain ⟨y,hy,rfl⟩ : ∃ y,(r.filter (λx=>decide (x.d=d)))[k]? = some y/\x = .agg (isa y):=by
    simp only[elsOf,W09,W04]at hx;obtain ⟨y,h1,h2⟩:=hx;exact ⟨y,h1,h2.symm⟩
   have hym:=W0G.1 (W0d hy);have hyd:y.d=d:=W0X hym.2;refine Qga ?_;simp -implicitDefEqProofs[isa];intro R'' hG'' hN'';refine Qga ?_;simp -implicitDefEqProofs;refine Qco (Z9p y) ?_;simp -implicitDefEqProofs;refine ⟨rfl,?_⟩;by_cases e:y.l=l
   . simp -implicitDefEqProofs[hyd,e,RndB,Yi,newK,frzO,frzA,frz,AV.keys,Yl,AObj.ren,AV.ren];refine Qgr ?_
     have hf:findN d l r=some y:=by
      have:=hu y hym.1;rw[hyd,e]at this;exact this
     simp -implicitDefEqProofs[hf,fndA,isa,hyd,e]
   . simp -implicitDefEqProofs[hyd,e,RndB,Yi,newK,frzO,frzA,frz,AV.keys];intro j hj z hz;by_cases e2:j=k
     . subst e2;rw[hy]at hz;cases hz;exact e
     . exact hI j (by omega) z hz
 . intro hI
   have hn:findN d l r=none:=by
    cases hf:findN d l r with
    |none=>rfl
    | some y =>
      obtain ⟨h1,h2,h3⟩:=Z98 hf;obtain ⟨j,hj,he⟩:=W0k (show y∈r.filter (λx=>decide (x.d=d)) from W0G.2 ⟨h1,W0M h2⟩);exact absurd h3 (hI j (by simp[elsOf];exact hj) y (by rw[W07 hj,he]))
   simp -implicitDefEqProofs[Yl,AObj.ren,AV.ren];refine Qgr ?_;simp -implicitDefEqProofs[hn,fndA,noIs]
def dpA (dp:List (Int×Int)):List (AV×AV):=dp.map λp=>(.int .i64 p.1,.int .i64 p.2)
def lfA (lf:List Int):List (AV×AV):=lf.map λn=>(.int .i64 n,.bool true)
def dpLk (n:Int):List (Int×Int)->Option Int
 |[]=>none
 |p::r=>if n=p.1 then some p.2 else dpLk n r
def dpG (dp:List (Int×Int)) (n:Int):Int:=(dpLk n dp).getD 0
def Za3 (n:Int):∀ dp:List (Int×Int),∃ o:Option Nat,(KK.i .i64).find (.int .i64 n) (dpA dp)=some o/\match o with
  |some j=>∃ v,dp[j]? = some (n,v)/\dpLk n dp=some v
  |none=>dpLk n dp=none/\∀ p∈dp,p.1≠n
 |[]=>⟨none,rfl,rfl,by simp⟩
 | p :: r=>by
   obtain ⟨o,h1,h2⟩:=Za3 n r;by_cases e:n=p.1
   . refine ⟨some 0,by simp[dpA,KK.find,KK.eq,e],p.2,by simp[e],by simp[dpLk,e]⟩
   . refine ⟨o.map (· + 1),?_,?_⟩
     . simp only[dpA,W0F,KK.find,KK.eq,and_self,if_true,e,W1v];rw[show r.map (λp=>(AV.int .i64 p.1,AV.int .i64 p.2))=dpA r from rfl,h1];rfl
     . cases o with
       |none=>exact ⟨by simp only[dpLk,e,if_false];exact h2.1,λq hq=>by
        rcases W0g.1 hq with rfl|hq
        . exact λh=>e h.symm
        . exact h2.2 q hq⟩
       | some j =>
         obtain ⟨v,h3,h4⟩:=h2;exact ⟨v,by simpa using h3,by simp only[dpLk,e,if_false];exact h4⟩
def Za4 (n:Int) (dp:List (Int×Int)):(KK.i .i64).get (.int .i64 n) (dpA dp)=some ((dpLk n dp).map λv=>.int .i64 v):=by
 obtain ⟨o,h1,h2⟩:=Za3 n dp;have hi:(KK.i .i64).is (.int .i64 n)=true:=(by simp[KK.is]);unfold KK.get;rw[if_pos hi,h1]
 cases o with
 |none=>simp[h2.1]
 |some j=>obtain ⟨v,h3,h4⟩:=h2;simp[dpA,h3,h4]
def Za5 {n:Int} (v:Int) {dp:List (Int×Int)} (h:n ∉ dp.map (·.1)):(KK.i .i64).put (.int .i64 n) (.int .i64 v) (dpA dp)=some (dpA (dp++[(n,v)])):=by
 obtain ⟨o,h1,h2⟩:=Za3 n dp;have hi:(KK.i .i64).is (.int .i64 n)=true:=(by simp[KK.is]);unfold KK.put;rw[if_pos hi,h1]
 cases o with
 |none=>simp[dpA]
 | some j =>
   obtain ⟨w,h3,h4⟩:=h2;exact absurd (W0i.2 ⟨_,W0d h3,rfl⟩) h
def Za6 (n:Int):∀ lf:List Int,∃ o:Option Nat,(KK.i .i64).find (.int .i64 n) (lfA lf)=some o/\match o with
  |some j=>lf[j]? = some n/\n∈lf/\lf.eraseIdx j=lf.erase n
  |none=>n ∉ lf
 |[]=>⟨none,rfl,by simp⟩
 | x :: r=>by
   obtain ⟨o,h1,h2⟩:=Za6 n r;by_cases e:n=x
   . subst e;exact ⟨some 0,by simp[lfA,KK.find,KK.eq],by simp⟩
   . refine ⟨o.map (· + 1),?_,?_⟩
     . simp only[lfA,W0F,KK.find,KK.eq,and_self,if_true,e,W1v];rw[show r.map (λn=>(AV.int .i64 n,AV.bool true))=lfA r from rfl,h1];rfl
     . cases o with
       |none=>simp only[Option.map_none,W0g,not_or];exact ⟨e,h2⟩
       | some j =>
         obtain ⟨h3,h4,h5⟩:=h2;refine ⟨by simpa using h3,W0z _ h4,?_⟩;simp only[List.eraseIdx_cons_succ,h5];rw[List.erase_cons_tail];simpa using λq=>e q.symm
def Za7 (n:Int) (lf:List Int):(KK.i .i64).get (.int .i64 n) (lfA lf)=some (if n∈lf then some (.bool true) else none):=by
 obtain ⟨o,h1,h2⟩:=Za6 n lf;have hi:(KK.i .i64).is (.int .i64 n)=true:=(by simp[KK.is]);unfold KK.get;rw[if_pos hi,h1]
 cases o with
 | none => have h2:n ∉ lf:=h2
           simp[h2]
 |some j=>obtain ⟨h3,h4,h5⟩:=h2;simp[lfA,h3,h4]
def Za8 {n:Int} {lf:List Int} (h:n ∉ lf):(KK.i .i64).put (.int .i64 n) (.bool true) (lfA lf)=some (lfA (lf++[n])):=by
 obtain ⟨o,h1,h2⟩:=Za6 n lf;have hi:(KK.i .i64).is (.int .i64 n)=true:=(by simp[KK.is]);unfold KK.put;rw[if_pos hi,h1]
 cases o with
 |none=>simp[lfA]
 |some j=>exact absurd h2.2.1 h
def Za9 {α β:Type} (f:α->β):∀ (l:List α) (j:Nat),(l.map f).eraseIdx j=(l.eraseIdx j).map f
 |[],_=>by simp
 |x::l,0=>by simp
 |x::l,j+1=>by simp[Za9 f l j]
def Zaa {n:Int} {lf:List Int} (h:n∈lf):(KK.i .i64).del (.int .i64 n) (lfA lf)=some (lfA (lf.erase n)):=by
 obtain ⟨o,h1,h2⟩:=Za6 n lf;have hi:(KK.i .i64).is (.int .i64 n)=true:=(by simp[KK.is]);unfold KK.del;rw[if_pos hi,h1]
 cases o with
 |none=>exact absurd h h2
 | some j =>
   obtain ⟨h3,h4,h5⟩:=h2;simp only[lfA,<- h5];rw[Za9]
def rdIt (lf:List Int) (b:Bool) (its:List (Int×Int)):Bool:=its.foldl (λb y=>b && !decide (y.1∈lf)) b
def msIt (dp:List (Int×Int)) (m:Int) (its:List (Int×Int)):Int:=its.foldl (λm y=>max m (dpG dp y.1)) m
def rdN (lf:List Int) (b:Bool) (l:Jr):Bool:=l.foldl (λb x=>rdIt lf b x.its) b
def msN (dp:List (Int×Int)) (m:Int) (l:Jr):Int:=l.foldl (λm x=>msIt dp m x.its) m
def issOf (r:Jr) (n:Int):List Iss:=r.filter (λx=>decide (x.d=n))
def dStep (r:Jr) (s:List (Int×Int)×List Int) (n:Int):List (Int×Int)×List Int :=
 if rdN s.2 (decide (n∈s.2)) (issOf r n)=true then (s.1++[(n,msN s.1 0 (issOf r n)+1)],s.2.erase n) else s
def dPass (r:Jr) (s:List (Int×Int)×List Int):List (Int×Int)×List Int:=(nums r).foldl (dStep r) s
def dRun (r:Jr):Nat->List (Int×Int)×List Int
 |0=>([],nums r)
 |k+1=>dPass r (dRun r k)
def Zab (lf:List Int) (b:Bool) (its:List (Int×Int)) (k:Nat) (h:k<its.length):rdIt lf b (its.take (k+1))=(rdIt lf b (its.take k) && !decide (its[k].1∈lf)):=by
 rw[W08 h,rdIt,W1p];rfl
def Zac (dp:List (Int×Int)) (m:Int) (its:List (Int×Int)) (k:Nat) (h:k<its.length):msIt dp m (its.take (k+1))=max (msIt dp m (its.take k)) (dpG dp its[k].1):=by
 rw[W08 h,msIt,W1p];rfl
def Zad (lf:List Int) (b:Bool) (l:Jr) (k:Nat) (h:k<l.length):rdN lf b (l.take (k+1))=rdIt lf (rdN lf b (l.take k)) l[k].its:=by
 rw[W08 h,rdN,W1p];rfl
def Zae (dp:List (Int×Int)) (m:Int) (l:Jr) (k:Nat) (h:k<l.length):msN dp m (l.take (k+1))=msIt dp (msN dp m (l.take k)) l[k].its:=by
 rw[W08 h,msN,W1p];rfl
def Zaf (lf:List Int):∀ its:List (Int×Int),rdIt lf false its=false
 |[]=>rfl
 |y::its=>by simp only[rdIt,W25,W1G];exact Zaf lf its
def Zag (lf:List Int):∀ l:List Iss,rdN lf false l=false
 |[]=>rfl
 |x::l=>by simp only[rdN,W25,Zaf];exact Zag lf l
def Zah {lf:List Int} {n:Int} {l:Jr} (h:rdN lf (decide (n∈lf)) l=true):n∈lf:=by
 by_cases e:n∈lf
 . exact e
 . rw[W0S e,Zag]at h;cases h
structure DInv (r:Jr) (s:List (Int×Int)×List Int):Prop where
 perm:(s.1.map (·.1)++s.2).Perm (nums r)
 bd:∀ p∈s.1,1<=p.2/\p.2<=(s.1.length:Nat)
def Zai {n v:Int}:∀ {dp:List (Int×Int)},dpLk n dp=some v->(n,v)∈dp
 | p::r,h=>by
   simp only[dpLk]at h
   split at h
   . rename_i e;cases h;rw[e];exact W0H ..
   . exact W0z _ (Zai h)
def Zaj {r:Jr} {s:List (Int×Int)×List Int} (h:DInv r s) (n:Int):0<=dpG s.1 n/\dpG s.1 n<=(s.1.length:Nat):=by
 unfold dpG
 cases e:dpLk n s.1 with
 |none=>simp
 |some v=>have:=h.bd _ (Zai e);simp only[W0P];omega
def Zak {r:Jr} {s:List (Int×Int)×List Int} (h:DInv r s):∀ (its:List (Int×Int)) (m:Int),0<=m->m<=(s.1.length:Nat)->0<=msIt s.1 m its/\msIt s.1 m its<=(s.1.length:Nat)
 |[],m,h1,h2=>⟨h1,h2⟩
 | y::its,m,h1,h2=>by
   have:=Zaj h y.1;exact Zak h its (max m (dpG s.1 y.1)) (by omega) (by omega)
def Zal {r:Jr} {s:List (Int×Int)×List Int} (h:DInv r s):∀ (l:Jr) (m:Int),0<=m->m<=(s.1.length:Nat)->0<=msN s.1 m l/\msN s.1 m l<=(s.1.length:Nat)
 |[],m,h1,h2=>⟨h1,h2⟩
 | x::l,m,h1,h2=>by
   have:=Zak h x.its m h1 h2;exact Zal h l (msIt s.1 m x.its) this.1 this.2
def DInv.len {r:Jr} {s:List (Int×Int)×List Int} (h:DInv r s):s.1.length+s.2.length=(nums r).length:=by
 have:=h.perm.length_eq;simpa using this
def DInv.step {r:Jr} {s:List (Int×Int)×List Int} (h:DInv r s) (n:Int):DInv r (dStep r s n):=by
 unfold dStep
 split
 . rename_i hb;have hm:=Zah hb;have hbd:=Zal h (issOf r n) 0 (W1S _) (by omega);refine ⟨?_,λp hp=>?_⟩
   . refine List.Perm.trans ?_ h.perm;simp only[W0r,W0F,W1c,W0U,W1d,W18];exact (List.perm_cons_erase hm).symm.append_left _
   . simp only[W0s,W1o,W1O];rcases W0h.1 hp with hp|hp
     . have:=h.bd p hp;omega
     . simp only[W0B]at hp;subst hp;simp only;omega
 . exact h
def DInv.fold {r:Jr}:∀ (l:List Int) {s:List (Int×Int)×List Int},DInv r s->DInv r (l.foldl (dStep r) s)
 |[],s,h=>h
 |n::l,s,h=>DInv.fold l (h.step n)
def DInv.run (r:Jr):∀ k,DInv r (dRun r k)
 |0=>⟨by simp[dRun],by simp[dRun]⟩
 |k+1=>(DInv.run r k).fold (nums r)
def Zam {α β:Type} (f:β->α->β) (s:β) (l:List α) (k:Nat) (h:k<l.length):(l.take (k+1)).foldl f s=f ((l.take k).foldl f s) l[k]:=by
 rw[W08 h,W1p];rfl
set_option maxRecDepth 8000 in
def Zan (r:Jr) (hw:Wf r) (hO:Ord r) (hn:(nums r).length<=20):PC prog G 59 [bkA r (nums r)] (.tup [.vmap (dpA (dRun r (nums r).length).1),.bool (decide (0<(dRun r (nums r).length).2.length))]):=by
 (refine Z78 rfl λR hG hrd=>Qga ?_;subst hG)
 have hs:(r.map (·.d)).Pairwise (· <= ·):=by
  rw[W2c,W0Y];intro i j hi hj hij;have:=hO.mono (Nat.le_of_lt hij) hj
  rwa [at_eq hi,at_eq hj]at this
 have hl:=hw.1.1;have hnd:=Z8T hO;simp -implicitDefEqProofs[Z76,Z77,bkA];refine Z8m (λi=>⟨[(22,.int .i64 i),(21,.int .i64 (nums r).length),(20,.vsl ((nums r).map ia)),(5,.ptr 5 0),(4,.ptr 4 0),(0,bkA r (nums r))],[(15,.mp []),(4,.box [.mp 15]),(16,.mp (lfA ((nums r).take i))),(5,.box [.mp 16])]⟩) (λ_=>True) (nums r).length (by (first|exact Ym.tm (by simp[lk,lfA,bkA])|exact Ym.sub (by simp[lk,Ya,AV.keys,lfA,bkA]) (by simp[lk,Yc,Ya,AV.keys,lfA,bkA]))) trivial ?_ ?_
 . intro i hi _;refine Qga ?_;have w1:i64.wrap ((i:Int)+1)=((i+1:Nat):Int):=Yf
   have hni:(nums r)[i] ∉ (nums r).take i:=by
    intro hm;obtain ⟨j,hj,e⟩:=W0k hm;simp only[W15]at hj;simp only[W1P]at e;have:=(List.getElem_inj hnd).1 e;omega
   have hp:=Za8 hni;rw[<- W08 hi]at hp;simp -implicitDefEqProofs[hi,w1,ia,hp];exact (by (first|exact Ym.tm (by simp[lk,bkA])|exact Ym.sub (by simp[lk,Ya,AV.keys,bkA]) (by simp[lk,Yc,Ya,AV.keys,bkA])))
 . intro _;refine Qga ?_;simp -implicitDefEqProofs;refine Qgr ?_;simp -implicitDefEqProofs[bkA];refine Z8m (λk=>⟨[(34,.int .i64 k),(33,.int .i64 (nums r).length),(5,.ptr 5 0),(4,.ptr 4 0),(0,bkA r (nums r))],[(15,.mp (dpA (dRun r k).1)),(4,.box [.mp 15]),(16,.mp (lfA (dRun r k).2)),(5,.box [.mp 16])]⟩) (λ_=>True) (nums r).length (by (first|exact Ym.tm (by simp[lk,dRun,dpA,bkA])|exact Ym.sub (by simp[lk,Ya,AV.keys,dRun,dpA,bkA]) (by simp[lk,Yc,Ya,AV.keys,dRun,dpA,bkA]))) trivial ?_ ?_
   . intro k hk _;refine Qga ?_;have w1:i64.wrap ((k:Int)+1)=((k+1:Nat):Int):=Yf;simp -implicitDefEqProofs[hk,bkA]
     refine Z8m (λi=>⟨[(41,.int .i64 i),(40,.int .i64 (nums r).length),(39,.vsl ((nums r).map ia)),(34,.int .i64 k),(33,.int .i64 (nums r).length),(5,.ptr 5 0),(4,.ptr 4 0),(0,bkA r (nums r))],
      [(15,.mp (dpA (((nums r).take i).foldl (dStep r) (dRun r k)).1)),(4,.box [.mp 15]),(16,.mp (lfA (((nums r).take i).foldl (dStep r) (dRun r k)).2)),(5,.box [.mp 16])]⟩) (λ_=>True) (nums r).length (by (first|exact Ym.tm (by simp[lk,bkA])|exact Ym.sub (by simp[lk,Ya,AV.keys,bkA]) (by simp[lk,Yc,Ya,AV.keys,bkA]))) trivial ?_ ?_
     . intro i hi _;refine Qga ?_;have w2:i64.wrap ((i:Int)+1)=((i+1:Nat):Int):=Yf;obtain ⟨s,hsd⟩:=Qex (((nums r).take i).foldl (dStep r) (dRun r k));have hI:DInv r s:=(by rw[hsd];exact (DInv.run r k).fold _);have hst:=Zam (dStep r) (dRun r k) (nums r) i hi;rw[<- hsd]at hst ⊢;obtain ⟨n,hne⟩:=Qex ((nums r)[i]);rw[<- hne]at hst;have hgl:=Za7 n s.2
       cases hm:decide (n∈s.2)
       . have hm':¬n∈s.2:=of_decide_eq_false hm;rw[if_neg hm']at hgl;simp -implicitDefEqProofs[hi,ia,<- hne,hgl];refine ⟨rfl,?_⟩;refine Qco (Za0 r (nums r) n) ?_;simp -implicitDefEqProofs
         refine Z58 hrd (Z9W r n (.vsl ((nums r).map ia)) hs hl) (by simp[evA,St.tmp,lk,bkA]) (by simp[AV.pure]) (λk=>k-1000) [(4,.ptr 1004 0),(5,.ptr 1005 0),(10,.ptr 1010 0),(11,.ptr 1011 0)]
          (λq=>[(1015,.mp (dpA s.1)),(1004,.box [.mp 1015]),(1016,.mp (lfA s.2)),(1005,.box [.mp 1016]),(1010,.box [.int .i64 (msN s.1 0 ((issOf r n).take q))]),(1011,.box [.bool (rdN s.2 false ((issOf r n).take q))])])
          [1015,1004,1016,1005,1010,1011] (λ_=>True) trivial (λ_=>rfl) (by simp) (by simp) (by simp[Yl,St.set,putO,AObj.ren,AV.ren,dpA,lfA,msN,rdN,W0y]) (by simp[Yc,Ya,AV.keys,dpA,lfA,lk]) (by simp[lk,AV.ren,AV.keys]) ?_ ?_
         . intro q x hx _ R' hG hN
           obtain ⟨y,hq,hy,rfl⟩ : ∃ y,∃ hq:q<(issOf r n).length,(issOf r n)[q]=y/\x = .agg (isa y):=by
            simp only[elsOf,W09,W04]at hx;obtain ⟨y,h1,h2⟩:=hx;obtain ⟨h3,h4⟩:=W02.1 h1;exact ⟨y,h3,h4,h2.symm⟩
           have hyr:y∈r:=(by rw[<- hy];exact (W0G.1 (W0e hq)).1);have hyl:=(hw.1.2 y hyr).1;unfold Sml at hyl;have tm:=Zae s.1 0 (issOf r n) q hq;have tr:=Zad s.2 false (issOf r n) q hq;rw[hy]at tm tr;generalize msN s.1 0 ((issOf r n).take q)=m0 at tm ⊢;generalize rdN s.2 false ((issOf r n).take q)=b0 at tr ⊢;refine Qga ?_;simp -implicitDefEqProofs[isa];intro R'' hG'' hN'';refine Qga ?_;simp -implicitDefEqProofs
           refine Z8m (λm=>⟨[(55,.int .i64 m),(54,.int .i64 y.its.length),(53,.vsl (y.its.map ita)),(12,.ptr 12 0),(4,.ptr 1004 0),(5,.ptr 1005 0),(10,.ptr 1010 0),(11,.ptr 1011 0)],
            [(1015,.mp (dpA s.1)),(1004,.box [.mp 1015]),(1016,.mp (lfA s.2)),(1005,.box [.mp 1016]),(1010,.box [.int .i64 (msIt s.1 m0 (y.its.take m))]),(1011,.box [.bool (rdIt s.2 b0 (y.its.take m))]),(12,.box (isa y))]⟩) (λ_=>True) y.its.length (by (first|exact Ym.tm (by simp[lk,isa,dpA,lfA,msIt,rdIt])|exact Ym.sub (by simp[lk,Ya,AV.keys,isa,dpA,lfA,msIt,rdIt]) (by simp[lk,Yc,Ya,AV.keys,isa,dpA,lfA,msIt,rdIt]))) trivial ?_ ?_
           . intro m hm _;refine Qga ?_;have w3:i64.wrap ((m:Int)+1)=((m+1:Nat):Int):=Yf;have um:=Zac s.1 m0 y.its m hm;have ur:=Zab s.2 b0 y.its m hm;generalize msIt s.1 m0 (y.its.take m)=m1 at um ⊢;generalize rdIt s.2 b0 (y.its.take m)=b1 at ur ⊢;have gd:=Za4 y.its[m].1 s.1;have gl:=Za7 y.its[m].1 s.2;have wkE:∀ c1 c2:Prop,c1->c2->c1/\c2:=λ_ _ a b=>⟨a,b⟩
             cases b1
             . simp only[W1G]at ur
               cases hk1:dpLk y.its[m].1 s.1 with
               | none =>
                 rw[hk1]at gd;simp only[dpG,hk1,W1U]at um;simp -implicitDefEqProofs[hm,ita,w3,gd];exact Ym.sub (by simp[lk,Ya,AV.keys]) (by simp[lk,Yc,Ya,AV.keys,dpA,lfA,um,ur,isa])
               | some v =>
                 rw[hk1]at gd;simp only[dpG,hk1,W0P]at um;simp -implicitDefEqProofs[hm,ita,w3,gd];exact Ym.sub (by simp[lk,Ya,AV.keys]) (by simp[lk,Yc,Ya,AV.keys,dpA,lfA,um,ur,isa])
             . by_cases hin:y.its[m].1∈s.2
               . rw[if_pos hin]at gl;simp only[hin,W1h,W17,W21]at ur
                 cases hk1:dpLk y.its[m].1 s.1 with
                 | none =>
                   rw[hk1]at gd;simp only[dpG,hk1,W1U]at um;simp -implicitDefEqProofs[hm,ita,w3,gd,gl];exact Ym.sub (by simp[lk,Ya,AV.keys]) (by simp[lk,Yc,Ya,AV.keys,dpA,lfA,um,ur,isa])
                 | some v =>
                   rw[hk1]at gd;simp only[dpG,hk1,W0P]at um;simp -implicitDefEqProofs[hm,ita,w3,gd,gl];exact Ym.sub (by simp[lk,Ya,AV.keys]) (by simp[lk,Yc,Ya,AV.keys,dpA,lfA,um,ur,isa])
               . rw[if_neg hin]at gl;simp only[hin,W1v,W1A,W23]at ur
                 cases hk1:dpLk y.its[m].1 s.1 with
                 | none =>
                   rw[hk1]at gd;simp only[dpG,hk1,W1U]at um;simp -implicitDefEqProofs[hm,ita,w3,gd,gl];exact Ym.sub (by simp[lk,Ya,AV.keys]) (by simp[lk,Yc,Ya,AV.keys,dpA,lfA,um,ur,isa])
                 | some v =>
                   rw[hk1]at gd;simp only[dpG,hk1,W0P]at um;simp -implicitDefEqProofs[hm,ita,w3,gd,gl];exact Ym.sub (by simp[lk,Ya,AV.keys]) (by simp[lk,Yc,Ya,AV.keys,dpA,lfA,um,ur,isa])
           . intro _;refine Qga ?_;simp -implicitDefEqProofs;refine Qgr ?_;simp -implicitDefEqProofs[RndB,Yi,newK,frzO,frzA,frz,AV.keys,tm,tr,dpA,lfA,W0y]
             try trivial
         . intro _;have hel:(elsOf r n).length=(issOf r n).length:=(by simp[elsOf,issOf]);have etk:(issOf r n).take (issOf r n).length=issOf r n:=W0J (W0f _);have hbd:=Zal hI (issOf r n) 0 (W1S _) (by omega);have hlen:=hI.len;have w4:i64.wrap (msN s.1 0 (issOf r n)+1)=msN s.1 0 (issOf r n)+1:=Yf;have rdpA:∀ dp,AObj.ren (λk=>k-1000) (.mp (dpA dp)) = .mp (dpA dp):=λdp=>by simp[AObj.ren,dpA,AV.ren,W0y]
           have rlfA:∀ lf,AObj.ren (λk=>k-1000) (.mp (lfA lf)) = .mp (lfA lf):=λlf=>by simp[AObj.ren,lfA,AV.ren,W0y]
           have rbx:∀ cs,AObj.ren (λk=>k-1000) (.box cs) = .box (cs.map (AV.ren λk=>k-1000)):=λ_=>rfl
           cases hrd2:rdN s.2 false (issOf r n)
           . have hst2:dStep r s n=s:=(by simp[dStep,hm,hrd2]);rw[hst2]at hst;simp -implicitDefEqProofs[Yl,rdpA,rlfA,rbx,AV.ren,hel,etk,hrd2];refine Qgr ?_;simp -implicitDefEqProofs[w2];rw[hst];exact Ym.sub (by simp[lk,Ya,AV.keys,bkA]) (by simp[lk,Yc,Ya,AV.keys,dpA,lfA])
           . have hmem:n∈s.2:=Zah (by rw[hm];exact hrd2);have hst2:dStep r s n=(s.1++[(n,msN s.1 0 (issOf r n)+1)],s.2.erase n):=(by simp[dStep,hm,hrd2]);rw[hst2]at hst
             have hnk:n ∉ s.1.map (·.1):=λhin=>by
              have:=(List.nodup_append.1 (hI.perm.nodup_iff.2 hnd)).2.2 n hin n hmem;exact this rfl
             have pd:=Za5 (msN s.1 0 (issOf r n)+1) hnk;have dl:=Zaa hmem;simp -implicitDefEqProofs[Yl,rdpA,rlfA,rbx,AV.ren,hel,etk,hrd2];refine Qgr ?_;simp -implicitDefEqProofs[w2,w4,pd,dl];rw[hst];exact Ym.sub (by simp[lk,Ya,AV.keys,bkA]) (by simp[lk,Yc,Ya,AV.keys,dpA,lfA])
       . have hm':n∈s.2:=W0X hm;rw[if_pos hm']at hgl;simp -implicitDefEqProofs[hi,ia,<- hne,hgl];refine ⟨rfl,?_⟩;refine Qco (Za0 r (nums r) n) ?_;simp -implicitDefEqProofs
         refine Z58 hrd (Z9W r n (.vsl ((nums r).map ia)) hs hl) (by simp[evA,St.tmp,lk,bkA]) (by simp[AV.pure]) (λk=>k-1000) [(4,.ptr 1004 0),(5,.ptr 1005 0),(10,.ptr 1010 0),(11,.ptr 1011 0)]
          (λq=>[(1015,.mp (dpA s.1)),(1004,.box [.mp 1015]),(1016,.mp (lfA s.2)),(1005,.box [.mp 1016]),(1010,.box [.int .i64 (msN s.1 0 ((issOf r n).take q))]),(1011,.box [.bool (rdN s.2 true ((issOf r n).take q))])])
          [1015,1004,1016,1005,1010,1011] (λ_=>True) trivial (λ_=>rfl) (by simp) (by simp) (by simp[Yl,St.set,putO,AObj.ren,AV.ren,dpA,lfA,msN,rdN,W0y]) (by simp[Yc,Ya,AV.keys,dpA,lfA,lk]) (by simp[lk,AV.ren,AV.keys]) ?_ ?_
         . intro q x hx _ R' hG hN
           obtain ⟨y,hq,hy,rfl⟩ : ∃ y,∃ hq:q<(issOf r n).length,(issOf r n)[q]=y/\x = .agg (isa y):=by
            simp only[elsOf,W09,W04]at hx;obtain ⟨y,h1,h2⟩:=hx;obtain ⟨h3,h4⟩:=W02.1 h1;exact ⟨y,h3,h4,h2.symm⟩
           have hyr:y∈r:=(by rw[<- hy];exact (W0G.1 (W0e hq)).1);have hyl:=(hw.1.2 y hyr).1;unfold Sml at hyl;have tm:=Zae s.1 0 (issOf r n) q hq;have tr:=Zad s.2 true (issOf r n) q hq;rw[hy]at tm tr;generalize msN s.1 0 ((issOf r n).take q)=m0 at tm ⊢;generalize rdN s.2 true ((issOf r n).take q)=b0 at tr ⊢;refine Qga ?_;simp -implicitDefEqProofs[isa];intro R'' hG'' hN'';refine Qga ?_;simp -implicitDefEqProofs
           refine Z8m (λm=>⟨[(55,.int .i64 m),(54,.int .i64 y.its.length),(53,.vsl (y.its.map ita)),(12,.ptr 12 0),(4,.ptr 1004 0),(5,.ptr 1005 0),(10,.ptr 1010 0),(11,.ptr 1011 0)],
            [(1015,.mp (dpA s.1)),(1004,.box [.mp 1015]),(1016,.mp (lfA s.2)),(1005,.box [.mp 1016]),(1010,.box [.int .i64 (msIt s.1 m0 (y.its.take m))]),(1011,.box [.bool (rdIt s.2 b0 (y.its.take m))]),(12,.box (isa y))]⟩) (λ_=>True) y.its.length (by (first|exact Ym.tm (by simp[lk,isa,dpA,lfA,msIt,rdIt])|exact Ym.sub (by simp[lk,Ya,AV.keys,isa,dpA,lfA,msIt,rdIt]) (by simp[lk,Yc,Ya,AV.keys,isa,dpA,lfA,msIt,rdIt]))) trivial ?_ ?_
           . intro m hm _;refine Qga ?_;have w3:i64.wrap ((m:Int)+1)=((m+1:Nat):Int):=Yf;have um:=Zac s.1 m0 y.its m hm;have ur:=Zab s.2 b0 y.its m hm;generalize msIt s.1 m0 (y.its.take m)=m1 at um ⊢;generalize rdIt s.2 b0 (y.its.take m)=b1 at ur ⊢;have gd:=Za4 y.its[m].1 s.1;have gl:=Za7 y.its[m].1 s.2;have wkE:∀ c1 c2:Prop,c1->c2->c1/\c2:=λ_ _ a b=>⟨a,b⟩
             cases b1
             . simp only[W1G]at ur
               cases hk1:dpLk y.its[m].1 s.1 with
               | none =>
                 rw[hk1]at gd;simp only[dpG,hk1,W1U]at um;simp -implicitDefEqProofs[hm,ita,w3,gd];exact Ym.sub (by simp[lk,Ya,AV.keys]) (by simp[lk,Yc,Ya,AV.keys,dpA,lfA,um,ur,isa])
               | some v =>
                 rw[hk1]at gd;simp only[dpG,hk1,W0P]at um;simp -implicitDefEqProofs[hm,ita,w3,gd];exact Ym.sub (by simp[lk,Ya,AV.keys]) (by simp[lk,Yc,Ya,AV.keys,dpA,lfA,um,ur,isa])
             . by_cases hin:y.its[m].1∈s.2
               . rw[if_pos hin]at gl;simp only[hin,W1h,W17,W21]at ur
                 cases hk1:dpLk y.its[m].1 s.1 with
                 | none =>
                   rw[hk1]at gd;simp only[dpG,hk1,W1U]at um;simp -implicitDefEqProofs[hm,ita,w3,gd,gl];exact Ym.sub (by simp[lk,Ya,AV.keys]) (by simp[lk,Yc,Ya,AV.keys,dpA,lfA,um,ur,isa])
                 | some v =>
                   rw[hk1]at gd;simp only[dpG,hk1,W0P]at um;simp -implicitDefEqProofs[hm,ita,w3,gd,gl];exact Ym.sub (by simp[lk,Ya,AV.keys]) (by simp[lk,Yc,Ya,AV.keys,dpA,lfA,um,ur,isa])
               . rw[if_neg hin]at gl;simp only[hin,W1v,W1A,W23]at ur
                 cases hk1:dpLk y.its[m].1 s.1 with
                 | none =>
                   rw[hk1]at gd;simp only[dpG,hk1,W1U]at um;simp -implicitDefEqProofs[hm,ita,w3,gd,gl];exact Ym.sub (by simp[lk,Ya,AV.keys]) (by simp[lk,Yc,Ya,AV.keys,dpA,lfA,um,ur,isa])
                 | some v =>
                   rw[hk1]at gd;simp only[dpG,hk1,W0P]at um;simp -implicitDefEqProofs[hm,ita,w3,gd,gl];exact Ym.sub (by simp[lk,Ya,AV.keys]) (by simp[lk,Yc,Ya,AV.keys,dpA,lfA,um,ur,isa])
           . intro _;refine Qga ?_;simp -implicitDefEqProofs;refine Qgr ?_;simp -implicitDefEqProofs[RndB,Yi,newK,frzO,frzA,frz,AV.keys,tm,tr,dpA,lfA,W0y]
             try trivial
         . intro _;have hel:(elsOf r n).length=(issOf r n).length:=(by simp[elsOf,issOf]);have etk:(issOf r n).take (issOf r n).length=issOf r n:=W0J (W0f _);have hbd:=Zal hI (issOf r n) 0 (W1S _) (by omega);have hlen:=hI.len;have w4:i64.wrap (msN s.1 0 (issOf r n)+1)=msN s.1 0 (issOf r n)+1:=Yf;have rdpA:∀ dp,AObj.ren (λk=>k-1000) (.mp (dpA dp)) = .mp (dpA dp):=λdp=>by simp[AObj.ren,dpA,AV.ren,W0y]
           have rlfA:∀ lf,AObj.ren (λk=>k-1000) (.mp (lfA lf)) = .mp (lfA lf):=λlf=>by simp[AObj.ren,lfA,AV.ren,W0y]
           have rbx:∀ cs,AObj.ren (λk=>k-1000) (.box cs) = .box (cs.map (AV.ren λk=>k-1000)):=λ_=>rfl
           cases hrd2:rdN s.2 true (issOf r n)
           . have hst2:dStep r s n=s:=(by simp[dStep,hm,hrd2]);rw[hst2]at hst;simp -implicitDefEqProofs[Yl,rdpA,rlfA,rbx,AV.ren,hel,etk,hrd2];refine Qgr ?_;simp -implicitDefEqProofs[w2];rw[hst];exact Ym.sub (by simp[lk,Ya,AV.keys,bkA]) (by simp[lk,Yc,Ya,AV.keys,dpA,lfA])
           . have hmem:n∈s.2:=Zah (by rw[hm];exact hrd2);have hst2:dStep r s n=(s.1++[(n,msN s.1 0 (issOf r n)+1)],s.2.erase n):=(by simp[dStep,hm,hrd2]);rw[hst2]at hst
             have hnk:n ∉ s.1.map (·.1):=λhin=>by
              have:=(List.nodup_append.1 (hI.perm.nodup_iff.2 hnd)).2.2 n hin n hmem;exact this rfl
             have pd:=Za5 (msN s.1 0 (issOf r n)+1) hnk;have dl:=Zaa hmem;simp -implicitDefEqProofs[Yl,rdpA,rlfA,rbx,AV.ren,hel,etk,hrd2];refine Qgr ?_;simp -implicitDefEqProofs[w2,w4,pd,dl];rw[hst];exact Ym.sub (by simp[lk,Ya,AV.keys,bkA]) (by simp[lk,Yc,Ya,AV.keys,dpA,lfA])
     . intro _;refine Qga ?_;have etk:(nums r).take (nums r).length=nums r:=W0J (W0f _);simp -implicitDefEqProofs;refine Qgr ?_;have e:(nums r).foldl (dStep r) (dRun r k)=dRun r (k+1):=rfl;simp -implicitDefEqProofs[w1,e];exact Ym.sub (by simp[lk,Ya,AV.keys,bkA]) (by simp[lk,Yc,Ya,AV.keys,dpA,lfA])
   . intro _;refine Qga ?_;simp -implicitDefEqProofs;refine Qgr ?_;have hla:(lfA (dRun r (nums r).length).2).length=(dRun r (nums r).length).2.length:=(by simp[lfA]);have hpu:(dpA (dRun r (nums r).length).1).all (λp=>p.1.pure&&p.2.pure)=true:=(by simp[dpA,AV.pure]);simp -implicitDefEqProofs[hla,hpu]
def FinZ (rs:List RRes) (v:AV):Exit->St->Prop
 |.normal,st | .ret,st=>∃ xs ys,Z29 st rs=some xs/\Yj (snap st) xs=some ys/\v=nz (tupV ys)
 |_,_=>False
def Zao {P:Program} {G:Jg} {f:FuncId} {fn:Func} {c:Code} {rc:RCode} {rs:List RRes} {args:List AV} {v:AV} (hf:P.funcs[f]? = some fn) (hb:fn.body=some c) (he:entB P f=true)
  (hc:Z1A P fn.ntmps c rc=true) (hrs:allB2 (okRes P) fn.results.toList rs=true) (hn:args.length<=fn.ntmps)
  (h:∀ R:Run,R.N=fn.ntmps->R.G=G->R.Top->AR P R rc (Z2a args) (FinZ rs v)):PC P G f args v:=by
 refine ⟨he,λM W vs hM hG hsz hvs=>?_⟩;refine callsIn_wide.1 (callsIn_of_wp_marks (F:=FW none) (n:=1) hf hb trivial ?_)
 let R:Run:={ G:=G,M:=M,X:=λ_=>False,W0:=W,N:=fn.ntmps,E0:={ M:=M,loc:=λ_=>none,row:=λ_=>none } }
 have h0:SK R (Z2a args) { tmps:=vs++Array.replicate (fn.ntmps-vs.size) Go.undef,defers:=[] } W (λ_=>none):=by
  have hGM:∀ b,b<W.heap.size->¬M b->¬((Z2a args).env M (λ_=>none)).M b/\W.heap[b]? = W.heap[b]?:=λb _ h1=>⟨(by rintro (h2 | ⟨k,s,h2⟩) <;> first|exact h1 h2|cases h2),rfl⟩
  refine ⟨.nil _ _ _ _,by show (vs++_).size=fn.ntmps;simp;omega,λn x hx=>?_,(λk o ho=>by simp[Z2a,St.get,lk]at ho),(λk p hk=>by cases hk),(λk k' b s s' hk=>by cases hk),hM,λ_ _ h=>h,Kp.refl _ _,hG.mono hGM (W0f _),⟨W0f _,hGM,λk p hk=>(by cases hk),λk sz m hk=>(by cases hk)⟩,λ_ _=>⟨rfl,rfl⟩⟩;simp only[Z2a,St.tmp,Z2b,W1e,if_true,W1Q]at hx;show VR _ W x ((vs++Array.replicate (fn.ntmps-vs.size) Go.undef).getD n Go.undef);rw[W0a,W0W];have c1:n<args.length:=(W02.1 hx).1;rw[if_pos (by omega)];have:vs[n]? = some vs[n]:=(by simp);rw[this];exact .pv ((hvs n x _ hx this).mono hGM (W0f _))
 refine wpIn_mono (h R rfl rfl ⟨rfl,rfl⟩ c hc 1 _ W ⟨_,h0⟩) ?_
 have key:∀ (a':Act) (W':World) (st':St),(∃ xs ys,Z29 st' rs=some xs/\Yj (snap st') xs=some ys/\v=nz (tupV ys))->SR R st' a' W' ->
   ∃ u,(results fn a'.tmps).run P W' = .ok u W'/\∃ u',Ending.returned u = .returned u'/\PV M W' v u'/\Ext W W':=by
  rintro a' W' st' ⟨xs,ys,h1,h2,rfl⟩ ⟨κ,hk⟩;obtain ⟨us,h3,h4⟩:=Z2d (P:=P) hk hrs h1;obtain ⟨h5,h6⟩:=Z1R h2;have hE:Ext W W':=⟨hk.kp.os,hk.kp.tape,hk.kp.output,hk.kp.size,λi hi=>hk.kp.block i hi (λh=>h)⟩
  have hp:∀ (i:Nat) (y:AV) (u:Value),ys[i]? = some y->us[i]? = some u->PV M W' y u:=λi y u hy hu=>by
   obtain ⟨x,h7,h8⟩:=h6 i y hy;exact Z1T hk (h4.2 i x u h7 hu) h8
  have hl:us.length=ys.length:=(by have:=h4.1;omega);refine ⟨(if h:us.toArray.size=1 then us.toArray[0] else .tuple us.toArray),?_,_,rfl,PV.nz ?_,hE⟩
  . unfold results;rw[Sem.run_bind]
    have:(fn.results.mapM λrv=>(match rv with
     |.tmp t=>pure (a'.tmps.getD t Go.undef)
     |.cell p t=>do loadVar t (<- asAddr (a'.tmps.getD p Go.undef)):Sem Value)).run P W' = .ok us.toArray W':=by
     rw[W1L,Sem.run_map];exact congrArg (λz=>Result.andThen z (λa w'=>Result.ok a.toArray w')) h3
    erw [this]
    rfl
  . match ys,us,hl,hp with
    |[],[],_,_=>exact .tup [] _ rfl (by simp)
    |[y],[u],_,hp=>exact hp 0 y u rfl rfl
    | y::y2::ys,u::u2::us,hl,hp =>
      rw[dif_neg (by simp)];exact .tup _ _ (by simpa using hl) (λi x w hx hw=>hp i x w hx (by simpa using hw))
 rintro e a' W' ⟨st',h1,κ,h2⟩
 cases e <;> try (exact h1.elim)
 all_goals
  refine h2.leave (by simp) rfl λa2 W2 ht hs2=>?_
  have:=key a2 W2 st' h1 ⟨κ,hs2⟩;rw[ht]at this;exact this
def Zap (l:List (Int×Int)):∀ r∈l.map ita,∀ x∈r,x.flat=true:=by
 intro r hr x hx;obtain ⟨p,-,rfl⟩:=W0i.1 hr;simp only[ita,W0g,W0Q,or_false]at hx;rcases hx with rfl|rfl <;> simp[AV.flat]
def Zaq (l:List (Int×Int)):∀ r∈l.map ita,∀ x∈r,x.pure=true:=by
 intro r hr x hx;obtain ⟨p,-,rfl⟩:=W0i.1 hr;simp only[ita,W0g,W0Q,or_false]at hx;rcases hx with rfl|rfl <;> simp[AV.pure]
def Zar (l:List Dm):∀ r∈l.map dma,∀ x∈r,x.flat=true:=by
 intro r hr x hx;obtain ⟨p,-,rfl⟩:=W0i.1 hr;simp only[dma,W0g,W0Q,or_false]at hx;rcases hx with rfl|rfl|rfl <;> simp[AV.flat]
def Zas (l:List Dm):∀ r∈l.map dma,∀ x∈r,x.pure=true:=by
 intro r hr x hx;obtain ⟨p,-,rfl⟩:=W0i.1 hr;simp only[dma,W0g,W0Q,or_false]at hx;rcases hx with rfl|rfl|rfl <;> simp[AV.pure]
def Zat (l:List (Int×Int)) (hne:l≠[]) (hl:Sml l):PN prog G 67 [.vsl (l.map ita)] 2 (l.map ita):=by
 refine PN_of (Zap l) (Zaq l) Tryd.func67 rfl (by kernel_rfl) (rc:=Z7c) (by kernel_rfl) (rs:=Z7d) (by kernel_rfl) (W0C rfl) λR _ hG hrd=>Qga ?_
 unfold Sml at hl;have b1:l.length*16<=70368744177664:=(by omega);have h0:¬l.length=0:=λe=>hne (W0l.1 e)
 have k1:(l.map ita).all (λr=>r.length == 2)=true:=(by simp[ita]);have k2:(l.map ita).all (λr=>r.all AV.one)=true:=(by simp[ita,AV.one]);have k5:(l.map ita).all (λr=>r.all AV.pure)=true:=(by simp[ita,AV.pure]);simp -implicitDefEqProofs[Z7c,Z7d,h0,hne,b1,k1,k2,k5,FinN]
def Zau (l:List Dm) (hne:l≠[]) (hl:Sml l):PN prog G 68 [.vsl (l.map dma)] 3 (l.map dma):=by
 refine PN_of (Zar l) (Zas l) Tryd.func68 rfl (by kernel_rfl) (rc:=Z7e) (by kernel_rfl) (rs:=Z7f) (by kernel_rfl) (W0C rfl) λR _ hG hrd=>Qga ?_
 unfold Sml at hl;have b1:l.length*24<=70368744177664:=(by omega);have h0:¬l.length=0:=λe=>hne (W0l.1 e)
 have k1:(l.map dma).all (λr=>r.length == 3)=true:=(by simp[dma]);have k2:(l.map dma).all (λr=>r.all AV.one)=true:=(by simp[dma,AV.one]);have k5:(l.map dma).all (λr=>r.all AV.pure)=true:=(by simp[dma,AV.pure]);simp -implicitDefEqProofs[Z7e,Z7f,h0,hne,b1,k1,k2,k5,FinN]
def Zav:PC prog G 67 [.vsl []] (.vsl []):=by
 refine Zao Tryd.func67 rfl (by kernel_rfl) (rc:=Z7c) (by kernel_rfl) (rs:=Z7d) (by kernel_rfl) (W0C rfl) λR _ hG hrd=>Qga ?_
 simp -implicitDefEqProofs[Z7c,Z7d,FinZ,nz]
def Zaw:PC prog G 68 [.vsl []] (.vsl []):=by
 refine Zao Tryd.func68 rfl (by kernel_rfl) (rc:=Z7e) (by kernel_rfl) (rs:=Z7f) (by kernel_rfl) (W0C rfl) λR _ hG hrd=>Qga ?_
 simp -implicitDefEqProofs[Z7e,Z7f,FinZ,nz]
def GC (G:Jg):Prop:=G 0=some [.func (.func 122) [] [],.func (.func 123) [] [],.func (.func 124) [] [],.func (.func 125) [] []]
def ckN (x:Iss):Nat->Bool
 |0=>ck1 x
 |1=>ck2 x
 |2=>ck3 x
 |_=>ck4 x
def Zax {x:Iss} (h:∀ j,j<4->ckN x j=true):issB x=true:=by
 rw[Z9q,show ck1 x=true from h 0 (by omega),show ck2 x=true from h 1 (by omega),show ck3 x=true from h 2 (by omega),show ck4 x=true from h 3 (by omega)];rfl
def Zay {x:Iss} {j:Nat} (hj:j<4) (h:ckN x j=false):issB x=false:=by
 rw[Z9q];have:j=0∨j=1∨j=2∨j=3:=(by omega);rcases this with rfl|rfl|rfl|rfl <;> simp only[ckN]at h <;> simp[h]
def openV (r:Jr):Int:=if Z8I r=true then
    if 0<(dRun r (nums r).length).2.length then 21 else if (∃ p∈(dRun r (nums r).length).1,6<p.2) then 20 else 0
 else 20
def openA (r:Jr):AV:=.tup [if openV r=0 then bkA r (nums r) else .nilp,.int .i64 (openV r)]
def Zaz {r:Jr} (h:Z8I r=false):openA r = .tup [.nilp,.int .i64 20]:=by simp[openA,openV,h]
def opS (r:Jr):Nat->St
 |0=>⟨[(28,.int .i64 0),(27,.int .i64 r.length),(26,.vsl (r.map isa)),(1,.ptr 1 0),(4,.ptr 4 0)],[(1,.box [.vsl (r.map isa)]),(4,.box [.ptr 18 0]),(18,.box [.vsl (r.map isa),.nils])]⟩
 |i+1=>⟨[(28,.int .i64 (i+1:Nat)),(27,.int .i64 r.length),(26,.vsl (r.map isa)),(1,.ptr 1 0),(4,.ptr 4 0)],[(1,.box [.vsl (r.map isa)]),(4,.box [.ptr 18 0]),(18,.box [.vsl (r.map isa),.osl 85 (numsN r (i+1)).length]),(85,.row 1 ((numsN r (i+1)).map ia))]⟩
def opT (r:Jr) (k:Nat):St:=⟨[(98,.int .i64 k),(97,.int .i64 r.length),(96,.vsl (r.map isa)),(4,.vptr [bkA r (nums r)] 0)],[]⟩
def opJ (r:Jr) (i:Nat) (x:Iss) (j:Nat):St:=⟨[(34,.int .i64 j),(33,.agg [.func (.func 122) [] [],.func (.func 123) [] [],.func (.func 124) [] [],.func (.func 125) [] []]),(5,.int .i64 i),(6,.ptr 6 0)]++(opS r i).t,(opS r i).o++[(6,.box (isa x))]⟩
def ZaA {x:Iss} {j:Nat} (hc:∀ k,k<j->ckN x k=true) (h:ckN x j=true):∀ k,k<j+1->ckN x k=true:=λk hk=>by
 by_cases e:k=j
 . rw[e];exact h
 . exact hc k (by omega)
set_option maxRecDepth 4000 in
def ZaB (hG:GC G) (r:Jr) (h:Wf r):PC prog G 53 [rega r] (openA r):=by
 (refine Z5G rfl λR hG hrd=>Qga ?_;subst hG)
 unfold GC at hG;have hs:=h.1.1;unfold Sml at hs;simp -implicitDefEqProofs[Z5E,Z5F,rega];refine Yd.flat (Z9n 1 60 r.length) (by simp[AV.flat]) (by simp) ?_
 cases q1:inR r.length 1 60
 . simp -implicitDefEqProofs[Zaz (r:=r) (by simp[Z8I,q1])]
 have q1':1<=r.length/\r.length<=60:=by
  have:=W0X q1;omega
 simp -implicitDefEqProofs;refine Z8m (opS r) (λi=>∀ j (h:j<r.length),j<i->issB r[j]=true/\ordB r j=true) r.length (by simp only[opS];(first|exact Wka|exact Wkb)) (by simp) ?_ ?_
 . intro i hi he;refine Qga ?_;have w1:i64.wrap ((i:Int)+1)=((i+1:Nat):Int):=Yf;have a1:=at_eq hi;have hx:=h.1.2 r[i] (W0e hi);have hk:=h.2 r[i] (W0e hi);have a1:=at_eq hi
   cases i with
   | zero =>
     simp -implicitDefEqProofs[opS,hi,isa,hG];refine Z8m (opJ r (0) r[0]) (λj=>∀ k,k<j->ckN r[0] k=true) 4 (by simp only[opJ,opS];(first|exact Ym.tm (by simp[lk,isa,ia])|exact Ym.sub (by simp[lk,Ya,AV.keys,isa,ia]) (by simp[lk,Yc,Ya,AV.keys,isa,ia]))) (by simp) ?_ ?_
     . intro j hj hc;refine Qga ?_;rcases (show j=0∨j=1∨j=2∨j=3 by omega) with rfl|rfl|rfl|rfl
       . have v0:i64.wrap 1=1:=rfl;simp -implicitDefEqProofs[opJ,opS,isa];refine Qco (Z9r r[0]) ?_
         cases q:ck1 r[0]
         . simp -implicitDefEqProofs;refine Qgr ?_;simp -implicitDefEqProofs;refine Qgr ?_;simp -implicitDefEqProofs[Zaz (Z8J hi (Zay (j:=0) (by omega) q))]
         . simp -implicitDefEqProofs[v0]
           first|exact ⟨(by (first|exact Ym.tm (by simp[lk,opJ,opS,isa,ia])|exact Ym.sub (by simp[lk,Ya,AV.keys,opJ,opS,isa,ia]) (by simp[lk,Yc,Ya,AV.keys,opJ,opS,isa,ia]))),ZaA hc q⟩|exact ⟨(by (first|exact Ym.tm (by simp[lk,opJ,opS,isa,ia])|exact Ym.sub (by simp[lk,Ya,AV.keys,opJ,opS,isa,ia]) (by simp[lk,Yc,Ya,AV.keys,opJ,opS,isa,ia]))),q⟩
       . have v1:i64.wrap 2=2:=rfl;simp -implicitDefEqProofs[opJ,opS,isa];refine Qco (Z9s r[0] hk) ?_
         cases q:ck2 r[0]
         . simp -implicitDefEqProofs;refine Qgr ?_;simp -implicitDefEqProofs;refine Qgr ?_;simp -implicitDefEqProofs[Zaz (Z8J hi (Zay (j:=1) (by omega) q))]
         . simp -implicitDefEqProofs[v1]
           first|exact ⟨(by (first|exact Ym.tm (by simp[lk,opJ,opS,isa,ia])|exact Ym.sub (by simp[lk,Ya,AV.keys,opJ,opS,isa,ia]) (by simp[lk,Yc,Ya,AV.keys,opJ,opS,isa,ia]))),ZaA hc q⟩|exact ⟨(by (first|exact Ym.tm (by simp[lk,opJ,opS,isa,ia])|exact Ym.sub (by simp[lk,Ya,AV.keys,opJ,opS,isa,ia]) (by simp[lk,Yc,Ya,AV.keys,opJ,opS,isa,ia]))),q⟩
       . have v2:i64.wrap 3=3:=rfl;simp -implicitDefEqProofs[opJ,opS,isa];refine Qco (Z9t r[0] hx.1) ?_
         cases q:ck3 r[0]
         . simp -implicitDefEqProofs;refine Qgr ?_;simp -implicitDefEqProofs;refine Qgr ?_;simp -implicitDefEqProofs[Zaz (Z8J hi (Zay (j:=2) (by omega) q))]
         . simp -implicitDefEqProofs[v2]
           first|exact ⟨(by (first|exact Ym.tm (by simp[lk,opJ,opS,isa,ia])|exact Ym.sub (by simp[lk,Ya,AV.keys,opJ,opS,isa,ia]) (by simp[lk,Yc,Ya,AV.keys,opJ,opS,isa,ia]))),ZaA hc q⟩|exact ⟨(by (first|exact Ym.tm (by simp[lk,opJ,opS,isa,ia])|exact Ym.sub (by simp[lk,Ya,AV.keys,opJ,opS,isa,ia]) (by simp[lk,Yc,Ya,AV.keys,opJ,opS,isa,ia]))),q⟩
       . have v3:i64.wrap 4=4:=rfl;simp -implicitDefEqProofs[opJ,opS,isa];refine Qco (Z9v r[0] hx.2) ?_
         cases q:ck4 r[0]
         . simp -implicitDefEqProofs;refine Qgr ?_;simp -implicitDefEqProofs;refine Qgr ?_;simp -implicitDefEqProofs[Zaz (Z8J hi (Zay (j:=3) (by omega) q))]
         . simp -implicitDefEqProofs[v3]
           first|exact ⟨(by (first|exact Ym.tm (by simp[lk,opJ,opS,isa,ia])|exact Ym.sub (by simp[lk,Ya,AV.keys,opJ,opS,isa,ia]) (by simp[lk,Yc,Ya,AV.keys,opJ,opS,isa,ia]))),ZaA hc q⟩|exact ⟨(by (first|exact Ym.tm (by simp[lk,opJ,opS,isa,ia])|exact Ym.sub (by simp[lk,Ya,AV.keys,opJ,opS,isa,ia]) (by simp[lk,Yc,Ya,AV.keys,opJ,opS,isa,ia]))),q⟩
     . intro hc;refine Qga ?_;have p1:issB r[0]=true:=Zax hc;simp -implicitDefEqProofs[opJ,opS,isa];refine Qgr ?_;by_cases p3:r[0].l=1
       . have hn:numsN r 1=[r[0].d]:=(by simp[numsN,newB,a1]);have ok:ordB r 0=true:=(by simp[ordB,a1,p3]);have w0:i64.wrap 1=1:=rfl;simp -implicitDefEqProofs[p3,w0];exact ⟨rfl,(by (first|exact Ym.tm (by simp[lk,opS,hn,ia])|exact Ym.sub (by simp[lk,Ya,AV.keys,opS,hn,ia]) (by simp[lk,Yc,Ya,AV.keys,opS,hn,ia]))),λj q1 q2=>by subst q2;exact ⟨p1,ok⟩⟩
       . simp -implicitDefEqProofs[p3];refine Qgr ?_;simp -implicitDefEqProofs[Zaz (Z8K hi (by simp[ordB,a1,p3]))]
   | succ i =>
     have k1:(i:Int)+1<r.length:=(by omega);have k2:((i:Int)+1).toNat=i+1:=(by omega);have k3:(0:Int)<=(i:Int)+1:=(by omega);simp -implicitDefEqProofs[opS,hi,isa,hG,k1,k2,k3];refine Z8m (opJ r (i+1) r[i+1]) (λj=>∀ k,k<j->ckN r[i+1] k=true) 4 (by simp only[opJ,opS];(first|exact Ym.tm (by simp[lk,isa,ia])|exact Ym.sub (by simp[lk,Ya,AV.keys,isa,ia]) (by simp[lk,Yc,Ya,AV.keys,isa,ia]))) (by simp) ?_ ?_
     . intro j hj hc;refine Qga ?_;rcases (show j=0∨j=1∨j=2∨j=3 by omega) with rfl|rfl|rfl|rfl
       . have v0:i64.wrap 1=1:=rfl;simp -implicitDefEqProofs[opJ,opS,isa];refine Qco (Z9r r[i+1]) ?_
         cases q:ck1 r[i+1]
         . simp -implicitDefEqProofs;refine Qgr ?_;simp -implicitDefEqProofs;refine Qgr ?_;simp -implicitDefEqProofs[Zaz (Z8J hi (Zay (j:=0) (by omega) q))]
         . simp -implicitDefEqProofs[v0]
           first|exact ⟨(by (first|exact Ym.tm (by simp[lk,opJ,opS,isa,ia])|exact Ym.sub (by simp[lk,Ya,AV.keys,opJ,opS,isa,ia]) (by simp[lk,Yc,Ya,AV.keys,opJ,opS,isa,ia]))),ZaA hc q⟩|exact ⟨(by (first|exact Ym.tm (by simp[lk,opJ,opS,isa,ia])|exact Ym.sub (by simp[lk,Ya,AV.keys,opJ,opS,isa,ia]) (by simp[lk,Yc,Ya,AV.keys,opJ,opS,isa,ia]))),q⟩
       . have v1:i64.wrap 2=2:=rfl;simp -implicitDefEqProofs[opJ,opS,isa];refine Qco (Z9s r[i+1] hk) ?_
         cases q:ck2 r[i+1]
         . simp -implicitDefEqProofs;refine Qgr ?_;simp -implicitDefEqProofs;refine Qgr ?_;simp -implicitDefEqProofs[Zaz (Z8J hi (Zay (j:=1) (by omega) q))]
         . simp -implicitDefEqProofs[v1]
           first|exact ⟨(by (first|exact Ym.tm (by simp[lk,opJ,opS,isa,ia])|exact Ym.sub (by simp[lk,Ya,AV.keys,opJ,opS,isa,ia]) (by simp[lk,Yc,Ya,AV.keys,opJ,opS,isa,ia]))),ZaA hc q⟩|exact ⟨(by (first|exact Ym.tm (by simp[lk,opJ,opS,isa,ia])|exact Ym.sub (by simp[lk,Ya,AV.keys,opJ,opS,isa,ia]) (by simp[lk,Yc,Ya,AV.keys,opJ,opS,isa,ia]))),q⟩
       . have v2:i64.wrap 3=3:=rfl;simp -implicitDefEqProofs[opJ,opS,isa];refine Qco (Z9t r[i+1] hx.1) ?_
         cases q:ck3 r[i+1]
         . simp -implicitDefEqProofs;refine Qgr ?_;simp -implicitDefEqProofs;refine Qgr ?_;simp -implicitDefEqProofs[Zaz (Z8J hi (Zay (j:=2) (by omega) q))]
         . simp -implicitDefEqProofs[v2]
           first|exact ⟨(by (first|exact Ym.tm (by simp[lk,opJ,opS,isa,ia])|exact Ym.sub (by simp[lk,Ya,AV.keys,opJ,opS,isa,ia]) (by simp[lk,Yc,Ya,AV.keys,opJ,opS,isa,ia]))),ZaA hc q⟩|exact ⟨(by (first|exact Ym.tm (by simp[lk,opJ,opS,isa,ia])|exact Ym.sub (by simp[lk,Ya,AV.keys,opJ,opS,isa,ia]) (by simp[lk,Yc,Ya,AV.keys,opJ,opS,isa,ia]))),q⟩
       . have v3:i64.wrap 4=4:=rfl;simp -implicitDefEqProofs[opJ,opS,isa];refine Qco (Z9v r[i+1] hx.2) ?_
         cases q:ck4 r[i+1]
         . simp -implicitDefEqProofs;refine Qgr ?_;simp -implicitDefEqProofs;refine Qgr ?_;simp -implicitDefEqProofs[Zaz (Z8J hi (Zay (j:=3) (by omega) q))]
         . simp -implicitDefEqProofs[v3]
           first|exact ⟨(by (first|exact Ym.tm (by simp[lk,opJ,opS,isa,ia])|exact Ym.sub (by simp[lk,Ya,AV.keys,opJ,opS,isa,ia]) (by simp[lk,Yc,Ya,AV.keys,opJ,opS,isa,ia]))),ZaA hc q⟩|exact ⟨(by (first|exact Ym.tm (by simp[lk,opJ,opS,isa,ia])|exact Ym.sub (by simp[lk,Ya,AV.keys,opJ,opS,isa,ia]) (by simp[lk,Yc,Ya,AV.keys,opJ,opS,isa,ia]))),q⟩
     . intro hc;refine Qga ?_;have p1:issB r[i+1]=true:=Zax hc;simp -implicitDefEqProofs[opJ,opS,isa];refine Qgr ?_;have w2:i64.wrap (i:Int)=(i:Int):=Yf;have w3:i64.wrap ((i:Int)+1+1)=(i:Int)+1+1:=Yf;have k3:(0:Int)<(i:Int)+1:=(by omega);have hi2:i<r.length:=(by omega);have a2:=at_eq hi2;have bl:=(he i hi2 (by omega)).1;simp only[issB,headB,W01,inR,W0b]at bl;have w4:i64.wrap (r[i].l+1)=r[i].l+1:=Yf;have b1:=Z8A r (i+1);have b2:((numsN r (i+1)).length+1)*8<=70368744177664:=by omega
       have go:ordB r (i+1)=true->∀ j (h:j<r.length),j<i+1+1->issB r[j]=true/\ordB r j=true:=λg2 j q1 q2=>by
        by_cases e:j=i+1
        . subst e;exact ⟨p1,g2⟩
        . exact he j q1 (by omega)
       by_cases p3:r[i].d=r[i+1].d
       . have hn:numsN r (i+1+1)=numsN r (i+1):=(by rw[numsN];simp[newB,a1,a2,p3]);by_cases p5:r[i+1].l=r[i].l+1
         case neg =>
          have p5':¬r[i].l+1=r[i+1].l:=λe=>p5 e.symm
          simp -implicitDefEqProofs[k3,w2,w4,hi2,isa,p3,p5'];refine Qgr ?_;simp -implicitDefEqProofs[Zaz (Z8K hi (by simp[ordB,a1,a2,p3,p5]))]
         by_cases p6:r[i].k=r[i+1].k
         . have ok:ordB r (i+1)=true:=(by simp[ordB,a1,a2,p3,p5,p6]);simp -implicitDefEqProofs[k3,w2,w3,w4,hi2,isa,p3,p5,p6];exact ⟨(by (first|exact Ym.tm (by simp[lk,opS,hn,ia])|exact Ym.sub (by simp[lk,Ya,AV.keys,opS,hn,ia]) (by simp[lk,Yc,Ya,AV.keys,opS,hn,ia]))),go ok⟩
         . have p6':¬r[i+1].k=r[i].k:=λe=>p6 e.symm
           simp -implicitDefEqProofs[k3,w2,w4,hi2,isa,p3,p5,p6];refine Qgr ?_;simp -implicitDefEqProofs[Zaz (Z8K hi (by simp[ordB,a1,a2,p3,p5,p6']))]
       by_cases p4:r[i+1].d<r[i].d
       . simp -implicitDefEqProofs[k3,w2,hi2,isa,p3,p4];refine Qgr ?_;simp -implicitDefEqProofs[Zaz (Z8K hi (by simp[ordB,a1,a2,p4]))]
       have p7:r[i].d<r[i+1].d:=(by omega);have hn:numsN r (i+1+1)=numsN r (i+1)++[r[i+1].d]:=(by rw[numsN];simp[newB,a1,a2,p3]);by_cases p5:r[i+1].l=1
       . have ok:ordB r (i+1)=true:=(by simp[ordB,a1,a2,p4,p7,p5]);simp -implicitDefEqProofs[k3,w2,w3,hi2,isa,p3,p4,p5,b2];exact ⟨rfl,(by (first|exact Ym.tm (by simp[lk,opS,hn,ia])|exact Ym.sub (by simp[lk,Ya,AV.keys,opS,hn,ia]) (by simp[lk,Yc,Ya,AV.keys,opS,hn,ia]))),go ok⟩
       . simp -implicitDefEqProofs[k3,w2,hi2,isa,p3,p4,p5];refine Qgr ?_;simp -implicitDefEqProofs[Zaz (Z8K hi (by simp[ordB,a1,a2,p4,p7,p5]))]
 . intro he;refine Qga ?_;obtain ⟨n,hn⟩ : ∃ n,r.length=n+1:=⟨r.length-1,by omega⟩;have e:numsN r (n+1)=nums r:=by rw[nums,hn]
   have g1:r.all issB=true:=W03.2 λx hx=>by
    obtain ⟨j,hj,rfl⟩:=W0k hx;exact (he j hj hj).1
   have g2:(List.range r.length).all (ordB r)=true:=Z8F.2 λj hj=>(he j hj hj).2
   have hO:Ord r:=λi hi=>by
    have:=(he (i+1) hi (by omega)).2;simp only[ordB]at this
    split at this
    . cases this
    . omega
   have hns:Sml (nums r):=(by have:=Z8O r;unfold Sml;omega);have hsn:(nums r).Pairwise (· <= ·):=(Z8S hO).imp λh=>Int.le_of_lt h
   have k1:¬(n:Int)+1<r.length:=(by omega);rw[hn];simp -implicitDefEqProofs[opS,k1,e];refine Qgr ?_;simp -implicitDefEqProofs;by_cases c20:20<(nums r).length
   . have c20':(20:Int)<(nums r).length:=(by omega);simp -implicitDefEqProofs[c20',Zaz (r:=r) (by simp[Z8I];omega)]
   have c20':¬(20:Int)<(nums r).length:=(by omega);have pu:((nums r).map ia).all (λx=>x.all AV.pure)=true:=(by simp[ia,AV.pure]);have pw:(r.map isa).all (λx=>x.all AV.pure)=true:=(by simp[isa,AV.pure]);simp -implicitDefEqProofs[c20'];refine Z8m (opT r) (λi=>∀ j (h:j<r.length),j<i->ItsIn r r[j]) r.length (Ym.trans (Ym.frz newK _ (λk hk=>by simp[newK];omega)) ?_) (by simp) ?_ ?_
   . simp only[opT,bkA,Yi];refine Ym.sub (by simp[lk,Ya,AV.keys,Yi,newK,frzA,frz,Yh,Yj,St.get,pu,pw]) (by simp) (by simp[newK])
   . intro i hi hc;refine Qga ?_;have w1:i64.wrap ((i:Int)+1)=((i+1:Nat):Int):=Yf;have hx:=h.1.2 r[i] (W0e hi);simp -implicitDefEqProofs[opT,hi,isa];refine Qco (Z9h 76 [.vptr [bkA r (nums r)] 0] (λy=>!decide (y.1∈nums r)) r[i].its (by simp[AV.pure]) hx.1 (λy _=>Z9Z r (nums r) y hsn hns)) ?_
     cases q:r[i].its.any λy=>!decide (y.1∈nums r)
     . simp -implicitDefEqProofs[w1];refine ⟨(by (first|exact Ym.tm (by simp[lk,opT])|exact Ym.sub (by simp[lk,Ya,AV.keys,opT]) (by simp[lk,Yc,Ya,AV.keys,opT]))),λj q1 q2=>?_⟩;by_cases e2:j=i
       . subst e2;intro y hy;have:=W1Y.1 q y hy;simpa using this
       . exact hc j q1 (by omega)
     . simp -implicitDefEqProofs;refine Qgr ?_;obtain ⟨y,hy,hy2⟩:=W14.1 q;obtain ⟨k,hk,rfl⟩:=W0k hy;simp -implicitDefEqProofs[Zaz (Z8L hi hk (by simpa using hy2))]
   . intro hc;refine Qga ?_
     have g3:inB r=true:=W03.2 λx hx=>by
      obtain ⟨j,hj,rfl⟩:=W0k hx;exact W03.2 λy hy=>W0M (hc j hj hj y hy)
     have hL:Z8I r=true:=by
      simp only[Z8I,q1,g1,g2,g3,W1j,W23,W0b];omega
     simp -implicitDefEqProofs[opT];refine Qgr ?_;simp -implicitDefEqProofs;refine Qco (Zan r h hO (by omega)) ?_;simp -implicitDefEqProofs;by_cases c21:0<(dRun r (nums r).length).2.length
     . have v:openA r = .tup [.nilp,.int .i64 21]:=(by simp[openA,openV,hL,c21]);simp -implicitDefEqProofs[c21,v]
     simp -implicitDefEqProofs[c21];refine Z5g (kvs:=(dRun r (nums r).length).1) rfl (by simp[opnT,St.tmp,lk]) ?_ ?_
     . intro h6;refine Qgr ?_;have n6:¬ ∃ p∈(dRun r (nums r).length).1,6<p.2:=λ⟨p,hp,hp6⟩=>by have:=h6 p hp;omega
       have v:openA r = .tup [bkA r (nums r),.int .i64 0]:=by
        unfold openA openV;rw[if_pos hL,if_neg c21,if_neg n6];simp
       simp -implicitDefEqProofs[v,bkA]
     . intro h6;refine Qga ?_
       have v:openA r = .tup [.nilp,.int .i64 20]:=by
        unfold openA openV;rw[if_pos hL,if_neg c21,if_pos h6];simp
       simp -implicitDefEqProofs[Z59,v];refine Qgr ?_;simp -implicitDefEqProofs
def strI (x:Iss):Iss:={ x with dms:=[] }
def ZaC (r:Jr) (i:Nat):at' (r.map strI) i=strI (at' r i):=by
 unfold at';rw[W0j,W0j,W09]
 cases r[i]? <;> rfl
def ZaD (r:Jr) (i:Nat):newB (r.map strI) i=newB r i:=by
 unfold newB;rw[ZaC,ZaC];rfl
def ZaE (r:Jr):∀ i,numsN (r.map strI) i=numsN r i
 |0=>rfl
 |i+1=>by rw[numsN,numsN,ZaD,ZaE r i,ZaC];rfl
def ZaF (r:Jr):nums (r.map strI)=nums r:=by
 unfold nums;rw[W0N,ZaE]
def ZaG (r:Jr):∀ i,ordB (r.map strI) i=ordB r i
 |0=>by unfold ordB;rw[ZaC];rfl
 | i+1=>by
   have e1:=ZaC r (i+1);have e2:=ZaC r i;simp only[ordB,e1,e2,strI]
def ZaH (r:Jr):inB (r.map strI)=inB r:=by
 unfold inB;rw[List.all_map,ZaF];rfl
def ZaI (r:Jr) (n:Int):issOf (r.map strI) n=(issOf r n).map strI:=by
 unfold issOf;rw[List.filter_map];rfl
def ZaJ (lf:List Int) (b:Bool) (L:Jr):rdN lf b (L.map strI)=rdN lf b L:=by
 unfold rdN;rw[List.foldl_map];rfl
def ZaK (dp:List (Int×Int)) (m:Int) (L:Jr):msN dp m (L.map strI)=msN dp m L:=by
 unfold msN;rw[List.foldl_map];rfl
def ZaL (r:Jr):dStep (r.map strI)=dStep r:=by
 funext s n
 unfold dStep;rw[ZaI,ZaJ,ZaK]
def ZaM (r:Jr):∀ k,dRun (r.map strI) k=dRun r k
 |0=>by rw[dRun,dRun,ZaF]
 |k+1=>by rw[dRun,dRun,ZaM r k,dPass,dPass,ZaF,ZaL]
def addD (x:Iss) (d:Dm):Iss:={ x with dms:=x.dms++[d] }
def ZaN (r:Jr) (i:Nat) (d:Dm):List Iss:=r.set i (addD (at' r i) d)
def ZaO (r:Jr) (i:Nat) (d:Dm):(ZaN r i d).map strI=r.map strI:=by
 unfold ZaN;rw[W2e]
 apply W1E
 . simp
 . intro j h1 h2;rw[List.getElem_set]
   split
   . rename_i e;subst e;have hj:i<r.length:=(by simpa using h2);rw[W1u,at_eq hj];rfl
   . rfl
def ZaP {x:Iss} (h:issB x=true) (d:Dm):issB (addD x d)=(vd d && !decide (x.k=1)&&decide (x.dms.length+1<=4)):=by
 unfold issB at h ⊢;simp only[W01]at h;obtain ⟨⟨h1,h2⟩,h3⟩:=h;have e2:(List.range (addD x d).its.length).all (itOk (addD x d))=true:=h2
 have e3:(addD x d).dms.all vd=vd d:=by
  show (x.dms++[d]).all vd=vd d;rw[List.all_append,h3];simp
 rw[e2,e3,W23];unfold headB at h1 ⊢;simp only[W01]at h1;obtain ⟨⟨⟨g1,g2⟩,g3⟩,g4⟩:=h1;have a1:(addD x d).d=x.d:=rfl;have a2:(addD x d).l=x.l:=rfl;have a3:(addD x d).k=x.k:=rfl;have a4:(addD x d).its=x.its:=rfl;have a5:(addD x d).dms.length=x.dms.length+1:=(by show (x.dms++[d]).length=_;simp);rw[a1,a2,a3,a4,a5,g1,g2,g3];by_cases c:x.k=1
 . rw[if_pos c];simp[c]
 . rw[if_neg c]at g4 ⊢;rw[W01]at g4;rw[g4.2];simp only[W1j,W23,c,W1v,W1A];exact Bool.and_comm ..
def ZaQ {r:Jr} {i:Nat} (hi:i<r.length) (h:Z8I r=true) (d:Dm):Z8I (ZaN r i d)=(vd d && !decide (r[i].k=1)&&decide (r[i].dms.length+1<=4)):=by
 have es:=ZaO r i d;have h0:=h;unfold Z8I at h ⊢;have l1:(ZaN r i d).length=r.length:=(by simp[ZaN]);have n1:nums (ZaN r i d)=nums r:=by rw[<- ZaF,es,ZaF]
 have o1:(List.range r.length).all (ordB (ZaN r i d))=(List.range r.length).all (ordB r):=by
  congr 1
  funext k
  rw[<- ZaG,es,ZaG]
 have b1:inB (ZaN r i d)=inB r:=(by rw[<- ZaH,es,ZaH]);simp only[W01]at h;rw[l1,n1,o1,b1,h.1.1.1.1,h.1.1.2,h.1.2,h.2];simp only[W1j,W23];have ha:=W03.1 h.1.1.1.2;have hb:=ZaP (ha _ (W0e hi)) d;rw[<- hb];have ex:at' r i=r[i]:=at_eq hi
 cases c:issB (addD r[i] d) with
 | true =>
   rw[W03];intro y hy;unfold ZaN at hy;rcases List.mem_or_eq_of_mem_set hy with hy|rfl
   . exact ha y hy
   . rw[ex];exact c
 | false =>
   rw[List.all_eq_false];refine ⟨addD r[i] d,?_,by rw[c];simp⟩;unfold ZaN;rw[ex];exact List.mem_set hi _
def ZaR {r:Jr} {i:Nat} (hi:i<r.length) (h:openV r=0) (d:Dm):openV (ZaN r i d)=if (vd d && !decide (r[i].k=1)&&decide (r[i].dms.length+1<=4))=true then 0 else 20:=by
 have es:=ZaO r i d
 have hL:Z8I r=true:=by
  unfold openV at h
  split at h
  . assumption
  . cases h
 have n1:nums (ZaN r i d)=nums r:=(by rw[<- ZaF,es,ZaF]);have d1:∀ k,dRun (ZaN r i d) k=dRun r k:=λk=>by rw[<- ZaM,es,ZaM]
 have hs:=ZaQ hi hL d;unfold openV at h ⊢;rw[hs,n1,d1];rw[if_pos hL]at h;rw[h]
def ZaS {r:Jr} (h:openV r=0):Z8I r=true:=by
 unfold openV at h
 split at h
 . assumption
 . cases h
def ZaT {r:Jr} (h:Z8I r=true):(nums r).length<=20:=by
 simp only[Z8I,W01,W0b]at h;exact h.2
def ZaU {r:Jr} (h:Z8I r=true):1<=r.length/\r.length<=60:=by
 simp only[Z8I,W01,W0b,inR]at h;have:=h.1.1.1.1;omega
def ZaV {r:Jr} (h:Z8I r=true) {x:Iss} (hx:x∈r):issB x=true:=by
 simp only[Z8I,W01]at h;exact W03.1 h.1.1.1.2 x hx
def ZaW {r:Jr} (h:Z8I r=true) {i:Nat} (hi:i<r.length):ordB r i=true:=by
 simp only[Z8I,W01]at h;exact Z8F.1 h.1.1.2 i hi
def ZaX {r:Jr} (h:Z8I r=true) {x:Iss} (hx:x∈r):ItsIn r x:=λy hy=>by
 simp only[Z8I,W01,inB]at h;exact W0X (W03.1 (W03.1 h.1.2 x hx) y hy)
def ZaY {r:Jr} (h:Sml r):Sml (nums r):=by have:=Z8O r;unfold Sml at *;omega
def ZaZ {r:Jr} (h:Ord r):(nums r).Pairwise (· <= ·):=(Z8S h).imp λh=>Int.le_of_lt h
def Zb0 {r:Jr} (hO:Ord r):(r.map (·.d)).Pairwise (· <= ·):=by
 rw[W2c,W0Y];intro i j hi hj hij;have:=hO.mono (Nat.le_of_lt hij) hj
 rwa [at_eq hi,at_eq hj]at this
def Lx (x y:Iss):Prop:=x.d<y.d∨(x.d=y.d/\x.l<y.l)
def Zb1 {r:Jr} (h:Z8I r=true):∀ {i j:Nat},i<j->j<r.length->Lx (at' r i) (at' r j):=by
 intro i j hij hj
 induction j with
 |zero=>omega
 | succ j ih =>
   have step:Lx (at' r j) (at' r (j+1)):=by
    have:=ZaW h hj;simp only[ordB]at this
    split at this
    . cases this
    . split at this
      . rename_i h2;exact .inl h2
      . simp only[W01,W0b]at this;exact .inr ⟨by omega,by omega⟩
   by_cases e:i=j
   . subst e;exact step
   . have:=ih (by omega) (by omega);unfold Lx at *;omega
def Zb2 {r:Jr} (h:Z8I r=true):∀ y∈r,findN y.d y.l r=some y:=λy hy=>by
 obtain ⟨i,hi,rfl⟩:=W0k hy;refine Z8C hi rfl rfl λj hj hij=>?_
 have:=Zb1 h hij hi;rw[at_eq hj,at_eq hi]at this;unfold Lx at this;omega
def knV (r:Jr) (n:Int):Int:=if openV r=0 then if n∈nums r then 0 else 6 else openV r
def Zb3 (hG:GC G) (r:Jr) (n:Int) (h:Wf r):PC prog G 58 [rega r,.int .i64 n] (.tup [if knV r n=0 then bkA r (nums r) else .nilp,.int .i64 (knV r n)]):=by
 (refine Z7i rfl λR hG hrd=>Qga ?_;subst hG)
 simp -implicitDefEqProofs[Z7g,Z7h,rega];refine Qco (ZaB hG r h) ?_;by_cases e:openV r=0
 . have hL:=ZaS e;have hO:=Z8Q hL;simp -implicitDefEqProofs[openA,e];refine Qco (Z9Y r (nums r) n (ZaZ hO) (ZaY h.1.1)) ?_;by_cases e2:n∈nums r
   . simp -implicitDefEqProofs[knV,e,e2,bkA]
   . simp -implicitDefEqProofs[knV,e,e2]
 . simp -implicitDefEqProofs[openA,e,knV]
def Zb4 (hG:GC G) (r:Jr) (h:Wf r):PC prog G 17 [rega r] (.int .i64 (openV r)):=by
 (refine Z7l rfl λR hG hrd=>Qga ?_;subst hG)
 simp -implicitDefEqProofs[Z7j,Z7k,rega];refine Qco (ZaB hG r h) ?_;simp -implicitDefEqProofs[openA]
def Zb5 (hG:GC G) (r:Jr) (h:Wf r):PC prog G 49 [rega r] (.tup [.vsl ((if openV r=0 then nums r else []).map ia),.int .i64 (openV r)]):=by
 by_cases e:openV r=0
 . (refine Z7o rfl λR hG hrd=>Qga ?_;subst hG)
   simp -implicitDefEqProofs[Z7m,Z7n,rega];refine Qco (ZaB hG r h) ?_;simp -implicitDefEqProofs[openA,e,bkA]
 . refine PC.nzR (v:=.tup [.nils,.int .i64 (openV r)]) ?_ (by simp[nz,e])
   (refine Z7o rfl λR hG hrd=>Qga ?_;subst hG)
   simp -implicitDefEqProofs[Z7m,Z7n,rega];refine Qco (ZaB hG r h) ?_;simp -implicitDefEqProofs[openA,e]
def Zb6 (hG:GC G) (r:Jr) (n:Int) (h:Wf r):PC prog G 28 [rega r,.int .i64 n] (.tup [.int .i64 (if knV r n=0 then cntV r n else 0),.int .i64 (knV r n)]):=by
 (refine Z7r rfl λR hG hrd=>Qga ?_;subst hG)
 simp -implicitDefEqProofs[Z7p,Z7q,rega];refine Qco (Zb3 hG r n h) ?_;by_cases e:knV r n=0
 . have e1:openV r=0:=by
    unfold knV at e
    split at e
    . assumption
    . exact e
   have hO:=Z8Q (ZaS e1);simp -implicitDefEqProofs[e];refine Qco (Za1 r (nums r) n (Zb0 hO) h.1.1) ?_;simp -implicitDefEqProofs
 . simp -implicitDefEqProofs[e]
def Zb7 (hG:GC G) (r:Jr) (n:Int) (h:Wf r):PC prog G 21 [rega r,.int .i64 n] (.tup [.int .i64 (if knV r n=0 then dpG (dRun r (nums r).length).1 n else 0),.int .i64 (knV r n)]):=by
 (refine Z7x rfl λR hG hrd=>Qga ?_;subst hG)
 simp -implicitDefEqProofs[Z7v,Z7w,rega];refine Qco (Zb3 hG r n h) ?_;by_cases e:knV r n=0
 . have e1:openV r=0:=by
    unfold knV at e
    split at e
    . assumption
    . exact e
   have hL:=ZaS e1;simp -implicitDefEqProofs[e];refine Qco (Zan r h (Z8Q hL) (ZaT hL)) ?_;simp -implicitDefEqProofs[Za4,dpG]
   cases q:dpLk n (dRun r (nums r).length).1 <;> simp -implicitDefEqProofs[q]
 . simp -implicitDefEqProofs[e]
def atP (r:Jr) (d l:Int):Iss×Int:=if openV r=0 then match findN d l r with
    |some x=>(x,0)
    |none=>(zI,6)
 else (zI,openV r)
end Go.Proofs.YthlcppdbldkldaaDoor
