/-
  The abstract machine's code of functions of the program, as a program of ours printed it; that it is theirs is proved beside each.
-/
import Derived.Test.YtldibfhbaaadcaaGreatDoorKAmLToAmXb
import Derived.Test.YtldibfhbaaadcaaGreatDoorProg
import Derived.IntWalk
set_option linter.all false
set_option maxHeartbeats 8000000
namespace Go.Proofs.YtldibfhbaaadcaaGreatDoor
open Tryz (prog)
open IntKind (i64)
open Go.RowKit
variable {G:Jg}
section
open Qq Tryz
def Z5o:RCode :=
 S [r 0 [b 3 1,n 4 O],S [r 1 [m 6 0,e 7 6,n 8 O],.block 0 (.loop (S [r 2 [o 9 .lss 8 7],.cond (.t 9) .skip (.exit 0),.block 1 (S [r 3 [m 10 8,m 5 10],R 4 [L 11 7 3,m 12 0,m 13 5,a [1,2] (i 14 7 12 13),a [3] (L 15 7 14),a [0,4] (w 16 (.eqs false [.i,.i,.i,.i,.i,.i,.i] (.t 11) (.t 15)))],K 16 5 [m 17 5,m 4 17]]),r 6 [k 18 .add 8 I,m 8 18]]))],r 7 [n 4 (.int .i64 (-1))],.ret]
def Z5p:List RRes:=[.t 4]
def Z5q:PCt prog 22 f22 Z5o Z5p:=pcT func22 rfl
def Z5r:RCode :=
 S [r 0 [n 2 O],r 1 [m 3 0,w 4 (.vop (.sh false) [(.t 3),(.c (.int .u64 1))]),w 5 (.vop (.bits .and) [(.t 4),(.c (.int .u64 6148914691236517205))]),m 6 0,w 7 (.vop (.bits .and) [(.t 6),(.c (.int .u64 6148914691236517205))]),o 8 .add 5 7,m 0 8],r 2 [m 9 0,w 10 (.vop (.sh false) [(.t 9),(.c (.int .u64 2))]),w 11 (.vop (.bits .and) [(.t 10),(.c (.int .u64 3689348814741910323))]),m 12 0,w 13 (.vop (.bits .and) [(.t 12),(.c (.int .u64 3689348814741910323))]),o 14 .add 11 13,m 0 14],r 3 [m 15 0,w 16 (.vop (.sh false) [(.t 15),(.c (.int .u64 4))]),m 17 0,o 18 .add 16 17,w 19 (.vop (.bits .and) [(.t 18),(.c (.int .u64 1085102592571150095))]),m 0 19],r 4 [m 20 0,m 21 0,w 22 (.vop (.sh false) [(.t 21),(.c (.int .u64 8))]),o 23 .add 20 22,m 0 23],r 5 [m 24 0,m 25 0,w 26 (.vop (.sh false) [(.t 25),(.c (.int .u64 16))]),o 27 .add 24 26,m 0 27],r 6 [m 28 0,m 29 0,w 30 (.vop (.sh false) [(.t 29),(.c (.int .u64 32))]),o 31 .add 28 30,m 0 31],r 7 [m 32 0,w 33 (.conv .i64 (.t 32)),w 34 (.vop (.bits .and) [(.t 33),(.c (.int .i64 127))]),m 2 34],.ret]
def Z5s:List RRes:=[.t 2]
def Z5t:PCt prog 20 f20 Z5r Z5s:=pcT func20 rfl
def Z5u:RCode :=
 S [r 0 [n 3 (.bool false)],r 1 [l 4 1,w 5 (.nilck (.t 4)),f 6 4 5,l 7 6,m 8 0,c 9 18 [7,8],t 10 9,m 3 10],.ret]
def Z5v:List RRes:=[.t 3]
def Z5w:PCt prog 17 f17 Z5u Z5v:=pcT func17 rfl
def Z5x:RCode :=
 S [r 0 [n 2 .nils],S [r 1 [m 3 0,w 4 (.vop (.eqn false) [(.t 3),(.c .nils)])],K 4 2 [n 2 .nils]],r 3 [w 5 (.bsl true 1 0 [] []),m 6 0,w 7 (.app 1 8 (.t 5) (.t 6)),m 2 7],.ret]
def Z5y:List RRes:=[.t 2]
def Z5z:PCt prog 48 f48 Z5x Z5y:=pcT func48 rfl
def Z5A:RCode :=
 S [r 0 [w 2 (.alloc [.nils,.nils,.nils,.nils])],R 1 [m 8 0,a [0] (w 9 (.nilck (.t 8))),a [1] (f 10 0 9),a [2] (f 11 0 10),a [3] (f 12 1 11),a [4] (l 13 12),a [5] (c 14 44 [13]),a [6] (w 15 (.build [.nils,.nils] [(1,1,.t 14)])),m 16 0,a [8] (w 17 (.nilck (.t 16))),a [9] (f 18 0 17),a [10] (f 19 3 18),a [11] (l 20 19),a [12,6] (c 21 45 [20]),a [7,13] (w 22 (.build [.nils,.nils,.nils,.nils] [(0,2,.t 15),(3,1,.t 21)])),w 3 (.alloc [.nils,.nils,.nils,.nils]),a [15,14,13,0,1,2,3,4,5,6,7,8,9,10,11,12,13,14,15] (s 4 3 22)],S [r 2 [m 23 0,w 24 (.nilck (.t 23)),f 25 0 24,f 26 0 25,f 27 0 26,f 28 0 27,l 29 28,e 30 29,n 31 O],.block 0 (.loop (S [r 3 [o 32 .lss 31 30],.cond (.t 32) .skip (.exit 0),.block 1 (S [r 4 [i 33 5 29 31,L 34 5 33,w 5 (.alloc [O,O,.int .u8 0,.nils,.nils]),s 5 5 34],R 5 [f 35 3 5,a [0] (l 36 35),a [1] (c 37 46 [36]),f 38 4 5,a [3] (l 39 38),a [4,2] (c 40 47 [39]),a [0,1,2,3,4] (f 41 3 5),a [6,2,5,0,1,2,3,4] (s 1 41 37),a [0,1,2,3,4,5,6,7] (f 42 4 5),a [8,5,7,0,1,2,3,4,5,6,7] (s 1 42 40)],r 6 [f 43 0 3,f 44 0 43,f 45 0 44,l 46 45,L 47 5 5,w 48 (.bsl false 5 1 [O,O,.int .u8 0,.nils,.nils] [(0,.t 47)]),w 49 (.app 5 72 (.t 46) (.t 48)),f 50 0 3,f 51 0 50,f 52 0 51,s 1 52 49]]),r 7 [k 53 .add 31 I,m 31 53]]))],S [r 8 [m 54 0,w 55 (.nilck (.t 54)),f 56 0 55,f 57 2 56,l 58 57,e 59 58,n 60 O],.block 2 (.loop (S [r 9 [o 61 .lss 60 59],.cond (.t 61) .skip (.exit 2),.block 3 (S [r 10 [i 62 4 58 60,L 63 4 62,w 7 (.alloc [O,O,O,.nils]),s 4 7 63],r 11 [f 64 3 7,l 65 64,c 66 48 [65],f 67 3 7,s 1 67 66],r 12 [f 68 2 3,l 69 68,L 70 4 7,w 71 (.bsl false 4 1 [O,O,O,.nils] [(0,.t 70)]),w 72 (.app 4 48 (.t 69) (.t 71)),f 73 2 3,s 1 73 72]]),r 13 [k 74 .add 60 I,m 60 74]]))],r 14 [L 75 4 3,s 4 2 75],.ret]
def Z5B:List RRes:=[.c 2 true 4]
def Z5C:PCt prog 19 f19 Z5A Z5B:=pcT func19 rfl
def Z5D:RCode :=
 S [r 0 [b 4 0,w 8 (.alloc [.nils,.nils,.nils,.nils]),n 9 O],r 1 [L 21 4 4,m 22 1,w 23 (.call 14 [.t 21,.t 22,.c I]),m 20 23,x 24 0 20,x 25 1 20,w 10 (.alloc [.nilp]),s 1 10 24,m 11 25],S [r 2 [m 26 11,k 27 .neq 26 O],K 27 3 [w 28 (.build [.nils,.nils,.nils,.nils] []),m 29 11,s 4 8 28,m 9 29]],r 4 [n 12 (.int .u64 0)],S [r 5 [m 30 2,e 31 30,n 32 O],.block 0 (.loop (S [r 6 [o 33 .lss 32 31],.cond (.t 33) .skip (.exit 0),.block 1 (S [r 7 [i 34 1 30 32,l 35 34,m 14 35],r 8 [l 36 10,m 37 14,c 38 15 [36,37],m 15 38],S [r 9 [m 39 15,k 40 .lss 39 O],K 40 10 [w 41 (.build [.nils,.nils,.nils,.nils] []),s 4 8 41,n 9 (.int .i64 6)]],r 11 [m 42 12,m 43 15,w 44 (.vop (.sh true) [(.c (.int .u64 1)),(.t 43)]),w 45 (.vop (.bits .or) [(.t 42),(.t 44)]),m 12 45]]),r 12 [k 46 .add 32 I,m 32 46]]))],S [r 13 [m 47 3,w 48 (.mkf (.func 17) [] [.t 10]),c 49 16 [47,48]],K 49 14 [w 50 (.build [.nils,.nils,.nils,.nils] []),s 4 8 50,n 9 (.int .i64 6)]],r 15 [l 51 10,c 52 19 [51],w 16 (.alloc [.nils,.nils,.nils,.nils]),s 4 16 52],S [r 16 [m 53 12,c 54 20 [53],m 55 3,e 56 55,o 57 .add 54 56,k 58 .eql 57 O],K 58 17 [L 59 4 16,s 4 8 59,n 9 O]],S [r 18 [l 60 10,m 61 1,c 62 21 [60,61],e 63 62,n 64 O],.block 2 (.loop (S [r 19 [o 65 .lss 64 63],.cond (.t 65) .skip (.exit 2),.block 3 (S [r 20 [i 66 7 62 64,L 67 7 66,w 18 (.alloc [O,O,O,O,O,O,.int .u8 0]),s 7 18 67],S [r 21 [m 68 12,l 69 10,f 70 2 18,l 71 70,c 72 15 [69,71],w 73 (.vop (.sh false) [(.t 68),(.t 72)]),w 74 (.vop (.bits .and) [(.t 73),(.c (.int .u64 1))]),k 75 .eql 74 (.int .u64 0),m 76 75,g 76 true (m 77 3),g 76 true (f 78 3 18),g 76 true (f 79 0 78),g 76 true (l 80 79),g 76 true (c 81 18 [77,80]),g 76 true (t 82 81),v 83 76 82],.cond (.t 83) (.exit 3) .skip],R 22 [l 84 10,a [0] (w 85 (.nilck (.t 84))),a [1] (f 86 0 85),a [2] (f 87 3 86),a [3] (l 88 87),L 89 7 18,a [4,5] (c 90 22 [88,89]),a [6,6,0,1,2,3,4,5,6] (m 19 90)],R 23 [f 91 3 16,a [0] (l 92 91),m 93 19,f 94 3 16,a [3] (l 95 94),m 96 19,m 97 1,a [1,2,0,1,2,6] (i 98 7 92 93),a [7,0,1,2,6] (f 99 5 98),a [8,6,0,1,2,6] (s 1 99 97),a [4,5,0,1,2,3,4,5,6,7,8,9] (i 100 7 95 96),a [10,0,1,2,3,4,5,6,7,8,9] (f 101 6 100),a [11,9,0,1,2,3,4,5,6,7,8,9] (z (.store 1 (.t 101) (.c (.int .u8 0))))]]),r 24 [k 102 .add 64 I,m 64 102]]))],r 25 [L 103 4 16,s 4 8 103,n 9 O],.ret]
def Z5E:List RRes:=[.c 8 true 4,.t 9]
def Z5F:PCt prog 6 f6 Z5D Z5E:=pcT func6 rfl
def Z5G:RCode :=
 S [r 0 [b 2 0,n 4 O],r 1 [f 5 0 2,l 6 5,m 7 1,c 8 31 [6,7],m 4 8],.ret]
def Z5H:List RRes:=[.t 4]
def Z5I:PCt prog 30 f30 Z5G Z5H:=pcT func30 rfl
def Z5J:RCode :=
 S [r 0 [n 6 O,n 7 (.bool false)],r 1 [m 12 0,e 13 12,m 8 13],r 2 [m 14 8,n 9 O,m 10 14],.block 0 (.loop (S [S [r 3 [m 15 9,m 16 10,o 17 .lss 15 16],.cond (.t 17) .skip (.exit 0)],.block 1 (S [r 4 [m 18 9,m 19 10,o 20 .add 18 19,w 21 (.conv .u64 (.t 20)),w 22 (.vop (.sh false) [(.t 21),(.c (.int .u64 1))]),w 23 (.conv .i64 (.t 22)),m 11 23],r 5 [m 24 2,m 25 0,m 26 11,i 27 7 25 26,L 28 7 27,m 29 1,w 30 (.callv (.t 24) [.t 28,.t 29]),k 31 .lss 30 O],.cond (.t 31) (r 6 [m 32 11,k 33 .add 32 I,m 9 33]) (r 7 [m 34 11,m 10 34])])])),r 8 [m 35 9,m 36 9,m 37 8,o 38 .lss 36 37,m 39 38,g 39 true (m 40 2),g 39 true (m 41 0),g 39 true (m 42 9),g 39 true (i 43 7 41 42),g 39 true (L 44 7 43),g 39 true (m 45 1),g 39 true (w 46 (.callv (.t 40) [.t 44,.t 45])),g 39 true (k 47 .eql 46 O),v 48 39 47,m 6 35,m 7 48],.ret]
def Z5K:List RRes:=[.t 6,.t 7]
def Z5L:PCt prog 29 f29 Z5J Z5K:=pcT func29 rfl
def Z5M:RCode :=
 S [r 0 [b 2 0,b 3 1,w 4 (.alloc [.nils,.nils,.nils,.nils]),n 5 O],r 1 [L 12 4 2,c 13 28 [12],m 11 13,x 14 0 11,x 15 1 11,m 6 14,m 7 15],S [r 2 [m 16 7,k 17 .neq 16 O],K 17 3 [w 18 (.build [.nils,.nils,.nils,.nils] []),m 19 7,s 4 4 18,m 5 19]],S [r 4 [f 20 3 2,l 21 20,e 22 21,k 23 .eql 22 (.int .i64 30)],K 23 5 [w 24 (.build [.nils,.nils,.nils,.nils] []),s 4 4 24,n 5 (.int .i64 9)]],r 6 [m 25 6,c 26 19 [25],w 8 (.alloc [.nils,.nils,.nils,.nils]),s 4 8 26],r 7 [f 28 3 8,l 29 28,f 30 0 3,l 31 30,w 32 (.call 29 [.t 29,.t 31,.c (.func (.func 30) [] [])]),m 27 32,x 33 0 27,x 34 1 27,m 9 33,m 10 34],r 8 [f 35 3 8,l 36 35,m 37 9,L 38 7 3,w 39 (.bsl false 7 1 [O,O,O,O,O,O,.int .u8 0] [(0,.t 38)]),c 40 32 [36,37,39],f 41 3 8,s 1 41 40],S [r 9 [L 42 4 8,c 43 33 [42],k 44 .neq 43 O],K 44 10 [w 45 (.build [.nils,.nils,.nils,.nils] []),s 4 4 45,n 5 (.int .i64 70)]],r 11 [L 46 4 8,s 4 4 46,n 5 O],.ret]
def Z5N:List RRes:=[.c 4 true 4,.t 5]
def Z5O:PCt prog 8 f8 Z5M Z5N:=pcT func8 rfl
end
section
open Qq Tryz
end
section
open Qq Tryz
end
section
open Qq Tryz
def Z5P:RCode :=
 S [r 0 [b 2 0,n 4 .nils],r 1 [n 5 .nils],S [r 2 [n 6 O],.block 0 (.loop (S [S [r 3 [m 8 6,f 9 3 2,l 10 9,e 11 10,o 12 .lss 8 11],.cond (.t 12) .skip (.exit 0)],.block 1 (S [r 5 [f 15 3 2,l 16 15,m 17 6,i 18 7 16 17,L 19 7 18,w 7 (.alloc [O,O,O,O,O,O,.int .u8 0]),s 7 7 19],R 6 [L 20 7 7,m 21 1,a [0,1] (c 22 52 [20,21]),a [2,2] (m 23 22),a [3] (g 23 true (f 24 2 2)),a [4,3] (g 23 true (l 25 24)),a [3] (g 23 true (L 26 4 2)),a [3] (g 23 true (f 27 2 7)),a [7,3] (g 23 true (l 28 27)),a [6,8,3,3] (g 23 true (c 29 24 [26,28])),a [5,9,3] (g 23 true (i 30 4 25 29)),a [10,3] (g 23 true (f 31 3 30)),a [11,3] (g 23 true (l 32 31)),a [3] (g 23 true (f 33 3 7)),a [13,3] (g 23 true (f 34 0 33)),a [14,3] (g 23 true (l 35 34)),a [12,15,9,3] (g 23 true (c 36 25 [32,35])),a [3,16] (v 37 23 36),a [17,16] (m 38 37),a [18] (g 38 true (L 39 4 2)),a [18] (g 38 true (f 40 2 7)),a [20,18] (g 38 true (l 41 40)),a [18] (g 38 true (f 42 3 7)),a [22,18] (g 38 true (f 43 0 42)),a [23,18] (g 38 true (l 44 43)),a [19,21,24,18,18] (g 38 true (c 45 53 [39,41,44])),a [18] (g 38 true (f 46 3 7)),a [26,18] (g 38 true (f 47 1 46)),a [27,18] (g 38 true (l 48 47)),a [25,28,25,18] (g 38 true (c 49 25 [45,48])),a [29,18] (g 38 true (t 50 49)),a [18,30] (v 51 38 50)],.cond (.t 51) (r 7 [m 52 5,m 53 6,w 54 (.bsl false 1 1 [O] [(0,.t 53)]),w 55 (.app 1 8 (.t 52) (.t 54)),m 5 55]) .skip]),r 4 [m 13 6,k 14 .add 13 I,m 6 14]]))],r 8 [m 56 5,m 4 56],.ret]
def Z5Q:List RRes:=[.t 4]
def Z5R:PCt prog 27 f27 Z5P Z5Q:=pcT func27 rfl
def Z5S:RCode :=
 S [r 0 [b 2 0,n 4 .nils],r 1 [w 10 (.mkmap),w 5 (.alloc [.nilm]),s 1 5 10],r 2 [w 6 (.alloc [.nils])],S [r 3 [l 11 2,m 12 1,c 13 49 [11,12]],.block 0 (.rngf (.t 13) [14,15] (r 4 [w 8 (.alloc [O,O,O,O,O,O,.int .u8 0]),s 7 8 15]) (.block 1 (S [S [R 5 [l 16 2,a [0] (w 17 (.nilck (.t 16))),a [1] (f 18 0 17),a [2] (f 19 2 18),a [3] (l 20 19),l 21 2,f 22 2 8,a [6] (l 23 22),a [5,7] (c 24 15 [21,23]),a [4,8] (i 25 4 20 24),a [9] (f 26 3 25),a [10] (l 27 26),f 28 3 8,a [12] (f 29 0 28),a [13] (l 30 29),a [11,14,8] (c 31 18 [27,30]),a [15] (t 32 31)],.cond (.t 32) (.exit 1) .skip],r 6 [f 33 2 8,l 34 33,f 35 3 8,f 36 0 35,l 37 36,w 38 (.build [O,O] [(0,1,.t 34),(1,1,.t 37)]),w 9 (.alloc [O,O]),s 2 9 38],S [r 7 [l 39 5,L 40 2 9,w 41 (.look (.ag [.i,.i]) .nils false (.t 39) (.t 40)),w 42 (.vop (.eqn false) [(.t 41),(.c .nils)])],.cond (.t 42) (R 8 [l 43 5,L 44 2 9,l 45 2,f 46 2 8,a [3] (l 47 46),f 48 3 8,a [5] (f 49 0 48),a [6] (l 50 49),a [2,4,7] (c 51 50 [45,47,50]),a [0,1,8,8,0,1,2,3,4,5,6,7,8] (z (.mupd (.ag [.i,.i]) (.t 43) (.t 44) (.t 51)))]) .skip],R 9 [l 52 5,L 53 2 9,a [0,1] (w 54 (.look (.ag [.i,.i]) .nils false (.t 52) (.t 53))),f 55 3 8,a [3] (f 56 1 55),a [4] (l 57 56),a [2,5] (c 58 18 [54,57]),a [6] (t 59 58)],.cond (.t 59) (r 10 [l 60 6,L 61 7 8,w 62 (.bsl false 7 1 [O,O,O,O,O,O,.int .u8 0] [(0,.t 61)]),w 63 (.app 7 56 (.t 60) (.t 62)),s 1 6 63]) .skip])))],r 11 [l 64 6,m 4 64],.ret]
def Z5T:List RRes:=[.t 4]
def Z5U:PCt prog 21 f21 Z5S Z5T:=pcT func21 rfl
end
section
open Qq Tryz
end
section
open Qq Tryz
def Z5V:RCode :=
 S [r 0 [b 4 0,n 8 .nilp,n 9 O],r 1 [L 13 2 4,m 14 1,m 15 2,c 16 100 [13,14,15],m 12 16,x 17 0 12,x 18 1 12,m 10 17,m 11 18],S [r 2 [m 19 11,k 20 .neq 19 O],K 20 3 [m 21 11,n 8 .nilp,m 9 21]],S [r 4 [m 22 10,w 23 (.nilck (.t 22)),f 24 2 23,l 25 24,m 26 3,c 27 18 [25,26],t 28 27],K 28 5 [n 8 .nilp,n 9 (.int .i64 6)]],r 6 [m 29 10,m 8 29,n 9 O],.ret]
def Z5W:List RRes:=[.t 8,.t 9]
def Z5X:PCt prog 79 f79 Z5V Z5W:=pcT func79 rfl
def Z5Y:RCode :=
 S [r 0 [b 1 0,n 2 .nilf],r 1 [w 3 (.mkf (.func 101) [] [.t 1]),m 2 3],.ret]
def Z5Z:List RRes:=[.t 2]
def Z60:PCt prog 80 f80 Z5Y Z5Z:=pcT func80 rfl
def Z61:RCode :=
 S [r 0 [l 4 1,w 5 (.nilck (.t 4)),f 6 3 5,l 7 6,e 8 7,w 9 (.vop (.sh true) [(.c I),(.t 8)]),n 10 O],.block 0 (.loop (S [r 1 [o 11 .lss 10 9],.cond (.t 11) .skip (.exit 0),.block 1 (S [r 2 [m 12 10,m 3 12],r 3 [m 13 0,m 14 3,l 15 1,w 16 (.nilck (.t 15)),f 17 3 16,l 18 17,m 19 3,c 20 102 [18,19],w 21 (.callv (.t 13) [.t 14,.t 20]),t 22 21],.cond (.t 22) .ret .skip]),r 4 [k 23 .add 10 I,m 10 23]]))]
def Z62:RCode :=
 S [r 0 [n 4 .nils],r 1 [n 5 .nils],S [r 2 [m 8 0,e 9 8,n 10 O],.block 0 (.loop (S [r 3 [o 11 .lss 10 9],.cond (.t 11) .skip (.exit 0),.block 1 (S [r 4 [m 12 10,i 13 1 8 10,l 14 13,m 6 12,m 7 14],r 5 [m 15 1,m 16 6,w 17 (.vop (.sh false) [(.t 15),(.t 16)]),w 18 (.vop (.bits .and) [(.t 17),(.c I)]),k 19 .eql 18 I],.cond (.t 19) (r 6 [m 20 5,m 21 7,w 22 (.bsl false 1 1 [O] [(0,.t 21)]),w 23 (.app 1 8 (.t 20) (.t 22)),m 5 23]) .skip]),r 7 [k 24 .add 10 I,m 10 24]]))],r 8 [m 25 5,m 4 25],.ret]
def Z63:List RRes:=[.t 4]
def Z64:PCt prog 102 f102 Z62 Z63:=pcT func102 rfl
def Z65:RCode :=
 S [r 0 [b 3 0,b 4 1,b 5 2,n 6 .nils,n 7 O],r 1 [L 14 2 3,l 15 5,l 16 4,w 17 (.call 79 [.t 14,.c .nils,.t 15,.t 16]),m 13 17,x 18 0 13,x 19 1 13,w 8 (.alloc [.nilp]),s 1 8 18,m 9 19],S [r 2 [m 20 9,k 21 .neq 20 O],K 21 3 [m 22 9,n 6 .nils,m 7 22]],r 4 [w 10 (.alloc [.nils])],S [r 5 [l 23 8,c 24 80 [23]],.block 0 (.rngf (.t 24) [25,26] (r 6 [m 12 26]) (.block 1 (R 7 [l 27 10,l 28 8,l 29 8,m 30 12,l 31 5,a [2,3,4] (w 32 (.call 82 [.t 29,.t 30,.c .nils,.t 31])),l 33 4,a [1,5,6,5] (c 34 81 [28,32,33]),a [7] (w 35 (.field false 4 1 (.t 34))),a [8] (w 36 (.bsl false 1 1 [O] [(0,.t 35)])),a [0,9,7] (w 37 (.app 1 8 (.t 27) (.t 36))),a [10,10,0,1,2,3,4,5,6,7,8,9,10] (s 1 10 37)])))],r 8 [l 38 10,c 39 68 [38]],r 9 [l 40 10,c 41 69 [40],m 6 41,n 7 O],.ret]
def Z66:List RRes:=[.t 6,.t 7]
def Z67:PCt prog 67 f67 Z65 Z66:=pcT func67 rfl
def Z68:RCode :=
 S [r 0 [b 2 0,n 4 (.bool false)],r 1 [f 5 0 2,L 6 1 5,c 7 26 [6],m 8 1,c 9 118 [7,8],m 4 9],.ret]
def Z69:List RRes:=[.t 4]
def Z6a:PCt prog 86 f86 Z68 Z69:=pcT func86 rfl
def Z6b:RCode :=
 S [r 0 [b 3 0,n 6 .nils,n 7 O],S [r 1 [L 14 2 3,m 15 2,w 16 (.call 85 [.t 14,.c .nils,.t 15]),m 8 16],r 2 [m 17 8,k 18 .neq 17 O],K 18 3 [m 19 8,n 6 .nils,m 7 19]],S [r 4 [L 20 2 3,m 21 1,c 22 86 [20,21],t 23 22],K 23 5 [n 6 .nils,n 7 (.int .i64 6)]],r 6 [w 9 (.alloc [.bool false,.bool false,.bool false,.bool false,.bool false,.bool false,.bool false,.bool false,.bool false])],r 7 [L 24 2 3,c 25 87 [24],m 10 25],S [r 8 [n 11 O],.block 0 (.loop (S [S [r 9 [m 26 11,m 27 10,e 28 27,o 29 .lss 26 28],.cond (.t 29) .skip (.exit 0)],.block 1 (R 11 [L 32 2 3,L 33 2 3,m 34 10,m 35 11,a [2,3] (i 36 1 34 35),a [4] (l 37 36),m 38 2,a [1,5,6] (w 39 (.call 89 [.t 33,.t 37,.c .nils,.t 38])),m 40 1,a [0,7,8,7] (c 41 88 [32,39,40]),a [9,0,1,2,3,4,5,6,7,8,9] (w 42 (.vop (.aaddr 9 1) [(.t 9),(.t 41)])),a [10,9,0,1,2,3,4,5,6,7,8,9] (z (.store 1 (.t 42) (.c (.bool true))))]),r 10 [m 30 11,k 31 .add 30 I,m 11 31]]))],r 12 [n 12 .nils],S [r 13 [n 13 I],.block 2 (.loop (S [S [r 14 [m 43 13,k 44 .lss 43 (.int .i64 9)],.cond (.t 44) .skip (.exit 2)],.block 3 (S [r 16 [m 47 13,w 48 (.vop (.aaddr 9 1) [(.t 9),(.t 47)]),l 49 48],.cond (.t 49) (r 17 [m 50 12,m 51 13,w 52 (.bsl false 1 1 [O] [(0,.t 51)]),w 53 (.app 1 8 (.t 50) (.t 52)),m 12 53]) .skip]),r 15 [m 45 13,k 46 .add 45 I,m 13 46]]))],r 18 [m 54 12,m 6 54,n 7 O],.ret]
def Z6c:List RRes:=[.t 6,.t 7]
def Z6d:PCt prog 71 f71 Z6b Z6c:=pcT func71 rfl
def Z6e:RCode :=
 S [r 0 [b 2 0,b 3 1,n 4 .nils],r 1 [f 9 1 3,l 10 9,w 11 (.bsl true 1 1 [O] [(0,.t 10)]),m 5 11],S [r 2 [n 6 O],.block 0 (.loop (S [S [r 3 [m 12 6,f 13 1 2,l 14 13,e 15 14,o 16 .lss 12 15],.cond (.t 16) .skip (.exit 0)],.block 1 (S [S [r 5 [f 19 1 2,l 20 19,m 21 6,i 22 10 20 21,f 23 5 22,l 24 23,m 7 24],r 6 [m 25 7,f 26 1 3,l 27 26,f 28 2 3,l 29 28,c 30 51 [25,27,29]],.cond (.t 30) (r 7 [m 31 5,m 32 7,w 33 (.bsl false 1 1 [O] [(0,.t 32)]),w 34 (.app 1 8 (.t 31) (.t 33)),m 5 34]) .skip],r 8 [f 35 1 2,l 36 35,m 37 6,i 38 10 36 37,f 39 6 38,l 40 39,m 8 40],r 9 [m 41 8,f 42 2 3,l 43 42,o 44 .lss 41 43,m 45 44,g 45 true (m 46 8),g 45 true (k 47 .add 46 I),g 45 true (f 48 1 3),g 45 true (l 49 48),g 45 true (o 50 .geq 47 49),v 51 45 50],.cond (.t 51) (r 10 [m 52 5,m 53 8,k 54 .add 53 I,w 55 (.bsl false 1 1 [O] [(0,.t 54)]),w 56 (.app 1 8 (.t 52) (.t 55)),m 5 56]) .skip]),r 4 [m 17 6,k 18 .add 17 I,m 6 18]]))],r 11 [m 57 5,m 4 57],.ret]
def Z6f:List RRes:=[.t 4]
def Z6g:PCt prog 70 f70 Z6e Z6f:=pcT func70 rfl
def Z6h:RCode :=
 S [r 0 [b 3 0,n 6 .nils],r 1 [w 7 (.alloc [.bool false,.bool false,.bool false,.bool false,.bool false,.bool false,.bool false,.bool false,.bool false])],R 2 [f 16 2 3,a [0] (l 17 16),L 18 4 3,m 19 1,a [2,3] (c 20 24 [18,19]),a [1,4] (i 21 4 17 20),a [5] (L 22 4 21),w 8 (.alloc [O,O,O,.nils]),a [7,6,4,0,1,2,3,4,5,6,7] (s 4 8 22)],S [r 3 [f 23 3 8,l 24 23,m 25 2,c 26 25 [24,25]],.cond (.t 26) (S [r 4 [f 27 0 3,L 28 2 27,L 29 4 8,c 30 70 [28,29],m 9 30],r 5 [n 10 O],.block 0 (.loop (S [S [r 6 [m 31 10,m 32 9,e 33 32,o 34 .lss 31 33],.cond (.t 34) .skip (.exit 0)],.block 1 (S [R 8 [f 38 0 3,a [0] (L 39 2 38),m 40 2,m 41 9,m 42 10,a [3,4] (i 43 1 41 42),a [5] (l 44 43),a [1,2,6] (c 45 71 [39,40,44]),a [7] (m 37 45),a [8] (x 46 0 37),a [8] (x 47 1 37),a [9,7,0,1,2,3,4,5,6,7,8,9] (m 11 46),a [10,11,0,1,2,3,4,5,6,7,8,9,10,11] (m 12 47)],r 9 [n 13 O],.block 2 (.loop (S [S [r 10 [m 48 13,m 49 11,e 50 49,o 51 .lss 48 50],.cond (.t 51) .skip (.exit 2)],.block 3 (r 12 [m 54 11,m 55 13,i 56 1 54 55,l 57 56,w 58 (.vop (.aaddr 9 1) [(.t 7),(.t 57)]),z (.store 1 (.t 58) (.c (.bool true)))]),r 11 [m 52 13,k 53 .add 52 I,m 13 53]]))]),r 7 [m 35 10,k 36 .add 35 I,m 10 36]]))]) .skip],r 13 [n 14 .nils],S [r 14 [n 15 I],.block 4 (.loop (S [S [r 15 [m 59 15,k 60 .lss 59 (.int .i64 9)],.cond (.t 60) .skip (.exit 4)],.block 5 (S [r 17 [m 63 15,w 64 (.vop (.aaddr 9 1) [(.t 7),(.t 63)]),l 65 64],.cond (.t 65) (r 18 [m 66 14,m 67 15,w 68 (.bsl false 1 1 [O] [(0,.t 67)]),w 69 (.app 1 8 (.t 66) (.t 68)),m 14 69]) .skip]),r 16 [m 61 15,k 62 .add 61 I,m 15 62]]))],r 19 [m 70 14,m 6 70],.ret]
def Z6i:List RRes:=[.t 6]
def Z6j:PCt prog 53 f53 Z6h Z6i:=pcT func53 rfl
def Z6k:RCode :=
 S [r 0 [n 6 .nils],R 1 [m 18 0,a [0] (w 19 (.nilck (.t 18))),a [1] (f 20 0 19),a [2] (f 21 2 20),a [3] (l 22 21),m 23 0,m 24 1,a [5,6] (c 25 15 [23,24]),a [4,7] (i 26 4 22 25),a [8] (L 27 4 26),w 7 (.alloc [O,O,O,.nils]),a [10,9,7,0,1,2,3,4,5,6,7,8,9,10] (s 4 7 27)],S [r 2 [f 28 3 7,l 29 28,m 30 2,c 31 18 [29,30],t 32 31],K 32 3 [n 6 .nils]],r 4 [f 33 1 7,l 34 33,w 35 (.bsl true 1 1 [O] [(0,.t 34)]),m 8 35],S [r 5 [m 36 0,w 37 (.nilck (.t 36)),f 38 0 37,f 39 0 38,f 40 1 39,l 41 40,e 42 41,n 43 O],.block 0 (.loop (S [r 6 [o 44 .lss 43 42],.cond (.t 44) .skip (.exit 0),.block 1 (S [r 7 [i 45 10 41 43,L 46 10 45,w 10 (.alloc [O,O,.int .u8 0,O,O,O,O,O,.bool false,.int .u8 0]),s 10 10 46],r 8 [f 47 5 10,l 48 47,f 49 6 10,l 50 49,k 51 .add 50 I,w 52 (.bsl false 1 2 [O,O] [(0,.t 48),(1,.t 51)]),e 53 52,n 54 O],.block 2 (.loop (S [r 9 [o 55 .lss 54 53],.cond (.t 55) .skip (.exit 2),.block 3 (S [r 10 [i 56 1 52 54,l 57 56,m 12 57],r 11 [f 58 1 7,l 59 58,f 60 2 7,l 61 60,m 62 12,w 63 (.bsl false 1 1 [O] [(0,.t 62)]),c 64 39 [59,61,63]],.cond (.t 64) (r 12 [m 65 8,m 66 12,w 67 (.bsl false 1 1 [O] [(0,.t 66)]),w 68 (.app 1 8 (.t 65) (.t 67)),m 8 68]) .skip]),r 13 [k 69 .add 54 I,m 54 69]]))]),r 14 [k 70 .add 43 I,m 43 70]]))],r 15 [n 13 .nils],S [r 16 [m 71 8,e 72 71,n 73 O],.block 4 (.loop (S [r 17 [o 74 .lss 73 72],.cond (.t 74) .skip (.exit 4),.block 5 (S [r 18 [i 75 1 71 73,l 76 75,m 15 76],r 19 [m 78 0,w 79 (.nilck (.t 78)),f 80 0 79,f 81 0 80,L 82 2 81,m 83 2,m 84 15,c 85 67 [82,83,84],m 77 85,x 86 0 77,x 87 1 77,m 16 86,m 17 87],r 20 [m 88 13,m 89 16,w 90 (.app 1 8 (.t 88) (.t 89)),m 13 90]]),r 21 [k 91 .add 73 I,m 73 91]]))],r 22 [m 92 13,c 93 68 [92]],r 23 [m 94 13,c 95 69 [94],m 6 95],.ret]
def Z6l:List RRes:=[.t 6]
def Z6m:PCt prog 50 f50 Z6k Z6l:=pcT func50 rfl
end
section
open Qq Tryz
def Z6n:RCode :=
 S [r 0 [w 6 (.alloc [O,O,.int .u8 0,O,O,O,O,O,.bool false,.int .u8 0])],S [r 1 [m 9 0,w 10 (.nilck (.t 9)),f 11 0 10,f 12 1 11,l 13 12,e 14 13,k 15 .sub 14 I,m 7 15],.block 0 (.loop (S [S [r 2 [m 16 7,k 17 .geq 16 O],.cond (.t 17) .skip (.exit 0)],.block 1 (S [r 4 [m 20 0,w 21 (.nilck (.t 20)),f 22 0 21,f 23 1 22,l 24 23,m 25 7,i 26 10 24 25,L 27 10 26,w 8 (.alloc [O,O,.int .u8 0,O,O,O,O,O,.bool false,.int .u8 0]),s 10 8 27],r 5 [f 28 3 8,l 29 28,m 30 2,o 31 .eql 29 30,m 32 31,g 32 true (m 33 1),g 32 true (m 34 7),g 32 true (w 35 (.callv (.t 33) [.t 34])),v 36 32 35],K 36 6 [L 37 10 8,s 10 6 37]]),r 3 [m 18 7,k 19 .sub 18 I,m 7 19]]))],r 7 [w 38 (.build [O,O,.int .u8 0,O,O,O,O,O,.bool false,.int .u8 0] [(4,1,.c I)]),s 10 6 38],.ret]
def Z6o:List RRes:=[.c 6 true 10]
def Z6p {G:Jg} {objs objs':List (Nat×AObj)} {args:List AV} {v:AV} (hn:args.length<=f81.ntmps) (h:∀ R:Run,R.G=G->R.Top->AR prog R Z6n ⟨iniT 0 args,objs⟩ (FinB Z6o v objs')):PB prog G 81 objs args v objs' :=
 PB_of func81 rfl (by kernel_rfl) (rc:=Z6n) (by kernel_rfl) (rs:=Z6o) (by kernel_rfl) hn (λR _ hG hr=>h R hG hr)
def Z6q:RCode :=
 S [r 0 [b 3 0,n 6 O],S [r 1 [L 8 2 3,m 9 1,m 10 2,c 11 120 [8,9,10],m 7 11],r 2 [m 12 7,k 13 .geq 12 O],K 13 3 [f 14 1 3,l 15 14,m 16 7,i 17 10 15 16,f 18 4 17,l 19 18,m 6 19]],r 4 [n 6 I],.ret]
def Z6r:List RRes:=[.t 6]
def Z6s:PCt prog 88 f88 Z6q Z6r:=pcT func88 rfl
def Z6t:RCode :=
 S [r 0 [b 3 0,n 6 O],r 1 [n 7 (.int .i64 (-1))],S [r 2 [n 8 O],.block 0 (.loop (S [S [r 3 [m 9 8,m 10 1,e 11 10,o 12 .lss 9 11],.cond (.t 12) .skip (.exit 0)],.block 1 (S [r 5 [m 15 1,m 16 8,i 17 1 15 16,l 18 17,m 19 18,g 19 true (f 20 1 3),g 19 true (l 21 20),g 19 true (m 22 8),g 19 true (i 23 10 21 22),g 19 true (f 24 3 23),g 19 true (l 25 24),g 19 true (m 26 2),g 19 true (o 27 .eql 25 26),v 28 19 27],.cond (.t 28) (r 6 [m 29 8,m 7 29]) .skip]),r 4 [m 13 8,k 14 .add 13 I,m 8 14]]))],r 7 [m 30 7,m 6 30],.ret]
def Z6u:List RRes:=[.t 6]
def Z6v:PCt prog 120 f120 Z6t Z6u:=pcT func120 rfl
end
section
open Qq Tryz
def Z6w:RCode :=
 S [r 0 [n 6 (.bool false)],r 1 [m 7 0,m 8 1,o 9 .geq 7 8,m 10 9,g 10 true (m 11 0),g 10 true (m 12 2),g 10 true (o 13 .leq 11 12),v 14 10 13,m 6 14],.ret]
def Z6x:List RRes:=[.t 6]
def Z6y:PCt prog 117 f117 Z6w Z6x:=pcT func117 rfl
def Z6z:RCode :=
 S [r 0 [b 2 0,n 4 (.bool false)],r 1 [f 12 1 2,l 13 12,m 14 1,i 15 10 13 14,L 16 10 15,w 5 (.alloc [O,O,.int .u8 0,O,O,O,O,O,.bool false,.int .u8 0]),s 10 5 16],S [r 2 [f 17 0 5,l 18 17,w 19 (.call 117 [.t 18,.c I,.c (.int .i64 9999)]),t 20 19,m 21 20,g 21 false (f 22 1 5),g 21 false (l 23 22),g 21 false (w 24 (.call 117 [.t 23,.c O,.c (.int .i64 14610)])),g 21 false (t 25 24),u 26 21 25,m 27 26,g 27 false (f 28 2 5),g 27 false (l 29 28),g 27 false (k 30 .gtr 29 (.int .u8 2)),u 31 27 30,m 32 31,g 32 false (f 33 5 5),g 32 false (l 34 33),g 32 false (f 35 6 5),g 32 false (l 36 35),g 32 false (w 37 (.call 117 [.t 34,.c I,.t 36])),g 32 false (t 38 37),u 39 32 38,m 40 39,g 40 false (f 41 6 5),g 40 false (l 42 41),g 40 false (k 43 .gtr 42 (.int .i64 999)),u 44 40 43,m 45 44,g 45 false (f 46 9 5),g 45 false (l 47 46),g 45 false (k 48 .gtr 47 (.int .u8 3)),u 49 45 48],K 49 3 [n 4 (.bool false)]],S [r 4 [f 50 3 5,l 51 50,k 52 .eql 51 O,m 53 52,g 53 true (f 54 4 5),g 53 true (l 55 54),g 53 true (k 56 .eql 55 O),v 57 53 56],.cond (.t 57) (S [r 5 [f 58 7 5,l 59 58,k 60 .eql 59 O],K 60 6 [n 4 (.bool false)]]) (S [r 7 [f 62 0 2,L 63 1 62,f 64 3 5,l 65 64,f 66 4 5,l 67 66,w 68 (.build [O,O] [(0,1,.t 65),(1,1,.t 67)]),c 69 77 [63,68],m 61 69,x 70 0 61,x 71 1 61,w 6 (.alloc [O,O,.int .u8 0,.nils,.nils]),s 5 6 70,m 7 71],r 8 [m 72 7,t 73 72],K 73 9 [n 4 (.bool false)]])],S [r 10 [f 74 4 5,l 75 74,k 76 .lss 75 (.int .i64 2),m 77 76,g 77 true (f 78 8 5),g 77 true (l 79 78),g 77 true (m 80 79),g 80 false (f 81 9 5),g 80 false (l 82 81),g 80 false (k 83 .gtr 82 (.int .u8 0)),g 77 true (u 84 80 83),v 85 77 84],K 85 11 [n 4 (.bool false)]],r 12 [f 86 7 5,l 87 86,k 88 .eql 87 O,m 8 88],S [r 13 [n 9 O],.block 0 (.loop (S [S [r 14 [m 89 9,m 90 1,o 91 .lss 89 90],.cond (.t 91) .skip (.exit 0)],.block 1 (S [r 16 [f 94 1 2,l 95 94,m 96 9,i 97 10 95 96,L 98 10 97,w 10 (.alloc [O,O,.int .u8 0,O,O,O,O,O,.bool false,.int .u8 0]),s 10 10 98],S [r 17 [f 99 0 10,l 100 99,f 101 0 5,l 102 101,o 103 .eql 100 102],K 103 18 [n 4 (.bool false)]],r 19 [m 104 8,m 105 104,g 105 false (f 106 0 10),g 105 false (l 107 106),g 105 false (f 108 7 5),g 105 false (l 109 108),g 105 false (o 110 .eql 107 109),u 111 105 110,m 8 111]]),r 15 [m 92 9,k 93 .add 92 I,m 9 93]]))],S [r 20 [m 112 1,k 113 .eql 112 O],K 113 21 [m 114 8,m 4 114]],r 22 [f 115 1 2,l 116 115,m 117 1,k 118 .sub 117 I,i 119 10 116 118,L 120 10 119,w 11 (.alloc [O,O,.int .u8 0,O,O,O,O,O,.bool false,.int .u8 0]),s 10 11 120],r 23 [m 121 8,m 122 121,g 122 true (f 123 1 11),g 122 true (l 124 123),g 122 true (f 125 1 5),g 122 true (l 126 125),g 122 true (o 127 .lss 124 126),g 122 true (m 128 127),g 128 false (f 129 1 11),g 128 false (l 130 129),g 128 false (f 131 1 5),g 128 false (l 132 131),g 128 false (o 133 .eql 130 132),g 128 false (m 134 133),g 134 true (f 135 0 11),g 134 true (l 136 135),g 134 true (f 137 0 5),g 134 true (l 138 137),g 134 true (o 139 .lss 136 138),g 128 false (v 140 134 139),g 122 true (u 141 128 140),v 142 122 141,m 4 142],.ret]
def Z6A:List RRes:=[.t 4]
def Z6B:PCt prog 98 f98 Z6z Z6A:=pcT func98 rfl
def Z6C:RCode :=
 S [r 0 [b 1 0,n 2 (.bool false)],S [r 1 [f 5 1 1,l 6 5,e 7 6,k 8 .gtr 7 (.int .i64 12)],K 8 2 [n 2 (.bool false)]],r 3 [n 3 O],S [r 4 [n 4 O],.block 0 (.loop (S [S [r 5 [m 9 4,f 10 1 1,l 11 10,e 12 11,o 13 .lss 9 12],.cond (.t 13) .skip (.exit 0)],.block 1 (S [S [r 7 [L 16 2 1,m 17 4,c 18 98 [16,17],t 19 18],K 19 8 [n 2 (.bool false)]],r 9 [f 20 1 1,l 21 20,m 22 4,i 23 10 21 22,f 24 2 23,l 25 24,k 26 .eql 25 (.int .u8 1)],.cond (.t 26) (r 10 [m 27 3,k 28 .add 27 I,m 3 28]) .skip]),r 6 [m 14 4,k 15 .add 14 I,m 4 15]]))],r 11 [m 29 3,k 30 .leq 29 (.int .i64 5),m 2 30],.ret]
def Z6D:List RRes:=[.t 2]
def Z6E:PCt prog 76 f76 Z6C Z6D:=pcT func76 rfl
def Z6F:RCode :=
 S [r 0 [b 1 0,n 2 O],S [r 1 [f 4 0 1,L 5 1 4,c 6 75 [5],m 3 6],r 2 [m 7 3,k 8 .neq 7 O],K 8 3 [m 9 3,m 2 9]],S [r 4 [L 10 2 1,c 11 76 [10],t 12 11],K 12 5 [n 2 (.int .i64 30)]],r 6 [n 2 O],.ret]
def Z6G:List RRes:=[.t 2]
def Z6H:PCt prog 60 f60 Z6F Z6G:=pcT func60 rfl
def Z6I:RCode :=
 S [r 0 [b 1 0,n 2 .nils],r 1 [n 3 .nils],S [r 2 [n 4 O],.block 0 (.loop (S [S [r 3 [m 7 4,f 8 1 1,l 9 8,e 10 9,o 11 .lss 7 10],.cond (.t 11) .skip (.exit 0)],.block 1 (S [S [r 5 [f 14 1 1,l 15 14,m 16 4,i 17 10 15 16,f 18 2 17,l 19 18,k 20 .neq 19 (.int .u8 1)],.cond (.t 20) (.exit 1) .skip],r 6 [m 21 3,m 22 4,w 23 (.bsl false 1 1 [O] [(0,.t 22)]),w 24 (.app 1 8 (.t 21) (.t 23)),m 3 24],r 7 [m 25 3,e 26 25,k 27 .sub 26 I,m 5 27],.block 2 (.loop (S [S [R 8 [m 28 5,a [0] (k 29 .gtr 28 O),a [1] (m 30 29),a [2] (g 30 true (f 31 1 1)),a [3,2] (g 30 true (l 32 31)),a [2] (g 30 true (m 33 3)),a [2] (g 30 true (m 34 5)),a [6,2] (g 30 true (k 35 .sub 34 I)),a [5,7,2] (g 30 true (i 36 1 33 35)),a [8,2] (g 30 true (l 37 36)),a [4,9,2] (g 30 true (i 38 10 32 37)),a [10,2] (g 30 true (f 39 0 38)),a [11,2] (g 30 true (l 40 39)),a [2] (g 30 true (f 41 1 1)),a [13,2] (g 30 true (l 42 41)),a [2] (g 30 true (m 43 3)),a [2] (g 30 true (m 44 5)),a [15,16,2] (g 30 true (i 45 1 43 44)),a [17,2] (g 30 true (l 46 45)),a [14,18,2] (g 30 true (i 47 10 42 46)),a [19,2] (g 30 true (f 48 0 47)),a [20,2] (g 30 true (l 49 48)),a [12,21,2] (g 30 true (o 50 .gtr 40 49)),a [2,22] (v 51 30 50)],.cond (.t 51) .skip (.exit 2)],.block 3 (S [r 10 [m 54 3,m 55 5,i 56 1 54 55,l 57 56,m 6 57],r 11 [m 58 3,m 59 5,m 60 3,m 61 5,k 62 .sub 61 I,i 63 1 60 62,l 64 63,i 65 1 58 59,s 1 65 64],r 12 [m 66 3,m 67 5,k 68 .sub 67 I,m 69 6,i 70 1 66 68,s 1 70 69]]),r 9 [m 52 5,k 53 .sub 52 I,m 5 53]]))]),r 4 [m 12 4,k 13 .add 12 I,m 4 13]]))],r 13 [m 71 3,m 2 71],.ret]
def Z6J:List RRes:=[.t 2]
def Z6K:PCt prog 119 f119 Z6I Z6J:=pcT func119 rfl
def Z6L:RCode :=
 S [r 0 [n 4 (.bool false)],S [r 1 [n 5 O],.block 0 (.loop (S [S [r 2 [m 6 5,m 7 0,e 8 7,o 9 .lss 6 8],.cond (.t 9) .skip (.exit 0)],.block 1 (S [r 4 [m 12 0,m 13 5,i 14 1 12 13,l 15 14,m 16 1,o 17 .eql 15 16],K 17 5 [n 4 (.bool true)]]),r 3 [m 10 5,k 11 .add 10 I,m 5 11]]))],r 6 [n 4 (.bool false)],.ret]
def Z6M:List RRes:=[.t 4]
def Z6N:PCt prog 118 f118 Z6L Z6M:=pcT func118 rfl
def Z6O:RCode :=
 S [r 0 [b 2 0,n 4 (.bool false)],r 1 [n 5 .nils],r 2 [L 9 2 2,c 10 119 [9],m 6 10],S [r 3 [n 7 O],.block 0 (.loop (S [S [r 4 [m 11 7,m 12 6,e 13 12,o 14 .lss 11 13],.cond (.t 14) .skip (.exit 0)],.block 1 (R 6 [m 17 5,f 18 1 2,a [1] (l 19 18),m 20 6,m 21 7,a [3,4] (i 22 1 20 21),a [5] (l 23 22),a [2,6] (i 24 10 19 23),a [7] (f 25 0 24),a [8] (l 26 25),a [9] (w 27 (.bsl false 1 1 [O] [(0,.t 26)])),a [0,10] (w 28 (.app 1 8 (.t 17) (.t 27))),a [11,11,0,1,2,3,4,5,6,7,8,9,10,11] (m 5 28)]),r 5 [m 15 7,k 16 .add 15 I,m 7 16]]))],S [r 7 [n 8 O],.block 2 (.loop (S [S [r 8 [m 29 8,m 30 1,e 31 30,o 32 .lss 29 31],.cond (.t 32) .skip (.exit 2)],.block 3 (S [R 10 [m 35 5,m 36 1,m 37 8,a [1,2] (i 38 1 36 37),a [3] (l 39 38),a [0,4] (c 40 118 [35,39]),a [5] (t 41 40),a [6,5] (m 42 41),a [7] (g 42 false (m 43 8)),a [8,7] (g 42 false (k 44 .gtr 43 O)),a [9,7,7] (g 42 false (m 45 44)),a [10] (g 45 true (m 46 1)),a [10] (g 45 true (m 47 8)),a [11,12,10] (g 45 true (i 48 1 46 47)),a [13,10] (g 45 true (l 49 48)),a [10] (g 45 true (m 50 1)),a [10] (g 45 true (m 51 8)),a [16,10] (g 45 true (k 52 .sub 51 I)),a [15,17,10] (g 45 true (i 53 1 50 52)),a [18,10] (g 45 true (l 54 53)),a [14,19,10] (g 45 true (o 55 .leq 49 54)),a [10,20,7] (g 42 false (v 56 45 55)),a [7,21] (u 57 42 56)],K 57 11 [n 4 (.bool false)]]),r 9 [m 33 8,k 34 .add 33 I,m 8 34]]))],r 12 [n 4 (.bool true)],.ret]
def Z6P:List RRes:=[.t 4]
def Z6Q:PCt prog 116 f116 Z6O Z6P:=pcT func116 rfl
def Z6R:RCode :=
 S [r 0 [b 4 0,n 8 .nils],r 1 [f 14 1 4,l 15 14,e 16 15,w 17 (.mksl 1 1 [.bool false] (.t 16)),m 9 17],S [r 2 [f 18 1 4,l 19 18,e 20 19,k 21 .sub 20 I,m 10 21],.block 0 (.loop (S [S [r 3 [m 22 10,k 23 .geq 22 O],.cond (.t 23) .skip (.exit 0)],.block 1 (S [r 5 [f 26 1 4,l 27 26,m 28 10,i 29 10 27 28,L 30 10 29,w 11 (.alloc [O,O,.int .u8 0,O,O,O,O,O,.bool false,.int .u8 0]),s 10 11 30],r 6 [f 31 2 11,l 32 31,k 33 .eql 32 (.int .u8 2),m 34 33,g 34 false (m 35 1),g 34 false (f 36 0 11),g 34 false (l 37 36),g 34 false (c 38 118 [35,37]),u 39 34 38,m 40 39,g 40 true (m 41 2),g 40 true (f 42 0 11),g 40 true (l 43 42),g 40 true (c 44 118 [41,43]),g 40 true (t 45 44),v 46 40 45,m 47 46,g 47 true (m 48 3),g 47 true (f 49 5 11),g 47 true (l 50 49),g 47 true (f 51 6 11),g 47 true (l 52 51),g 47 true (c 53 117 [48,50,52]),v 54 47 53,m 12 54],S [r 7 [m 55 10,k 56 .add 55 I,m 13 56],.block 2 (.loop (S [S [r 8 [m 57 13,f 58 1 4,l 59 58,e 60 59,o 61 .lss 57 60],.cond (.t 61) .skip (.exit 2)],.block 3 (R 10 [m 64 12,a [0] (m 65 64),a [1] (g 65 true (m 66 9)),a [1] (g 65 true (m 67 13)),a [2,3,1] (g 65 true (i 68 1 66 67)),a [4,1] (g 65 true (l 69 68)),a [5,1,1] (g 65 true (m 70 69)),a [6] (g 70 true (f 71 1 4)),a [7,6] (g 70 true (l 72 71)),a [6] (g 70 true (m 73 13)),a [8,9,6] (g 70 true (i 74 10 72 73)),a [10,6] (g 70 true (f 75 7 74)),a [11,6] (g 70 true (l 76 75)),a [6] (g 70 true (f 77 0 11)),a [13,6] (g 70 true (l 78 77)),a [12,14,6] (g 70 true (o 79 .eql 76 78)),a [6,15,1] (g 65 true (v 80 70 79)),a [16,1] (g 65 true (t 81 80)),a [1,17] (v 82 65 81),a [18,6,0,1,2,3,4,5,6,7,8,9,10,11,12,13,14,15,16,17,18] (m 12 82)]),r 9 [m 62 13,k 63 .add 62 I,m 13 63]]))],r 11 [m 83 9,m 84 10,m 85 12,i 86 1 83 84,s 1 86 85]]),r 4 [m 24 10,k 25 .sub 24 I,m 10 25]]))],r 12 [m 87 9,m 8 87],.ret]
def Z6S:List RRes:=[.t 8]
def Z6T:PCt prog 89 f89 Z6R Z6S:=pcT func89 rfl
def Z6U:RCode :=
 S [r 0 [b 3 0,n 6 O],S [r 1 [L 8 2 3,c 9 60 [8],m 7 9],r 2 [m 10 7,k 11 .neq 10 O],K 11 3 [m 12 7,m 6 12]],S [r 4 [L 13 2 3,m 14 1,c 15 116 [13,14],t 16 15],K 16 5 [n 6 (.int .i64 31)]],S [r 6 [m 17 2,w 18 (.call 117 [.t 17,.c I,.c (.int .i64 999)]),t 19 18],K 19 7 [n 6 (.int .i64 2)]],r 8 [n 6 O],.ret]
def Z6V:List RRes:=[.t 6]
def Z6W:PCt prog 85 f85 Z6U Z6V:=pcT func85 rfl
def Z6X:RCode :=
 S [r 0 [b 2 0,b 3 1,n 4 (.bool false)],S [r 1 [f 6 0 2,L 7 1 6,f 8 0 3,L 9 1 8,c 10 63 [7,9],t 11 10,m 12 11,g 12 false (f 13 1 2),g 12 false (l 14 13),g 12 false (e 15 14),g 12 false (f 16 1 3),g 12 false (l 17 16),g 12 false (e 18 17),g 12 false (o 19 .neq 15 18),u 20 12 19],K 20 2 [n 4 (.bool false)]],S [r 3 [n 5 O],.block 0 (.loop (S [S [r 4 [m 21 5,f 22 1 2,l 23 22,e 24 23,o 25 .lss 21 24],.cond (.t 25) .skip (.exit 0)],.block 1 (S [R 6 [f 28 1 2,a [0] (l 29 28),m 30 5,a [1,2] (i 31 10 29 30),a [3] (L 32 10 31),f 33 1 3,a [5] (l 34 33),m 35 5,a [6,7] (i 36 10 34 35),a [8] (L 37 10 36),a [4,9] (w 38 (.eqs true [.i,.i,.i,.i,.i,.i,.i,.i,.b,.i] (.t 32) (.t 37)))],K 38 7 [n 4 (.bool false)]]),r 5 [m 26 5,k 27 .add 26 I,m 5 27]]))],r 8 [n 4 (.bool true)],.ret]
def Z6Y:List RRes:=[.t 4]
def Z6Z:PCt prog 36 f36 Z6X Z6Y:=pcT func36 rfl
def Z70:RCode :=
 S [r 0 [b 1 0,w 2 (.alloc [.nils,.nils])],R 1 [f 3 0 1,a [0] (L 4 1 3),a [1] (c 5 38 [4]),w 6 (.bsl true 10 0 [] []),f 7 1 1,a [4] (l 8 7),a [3,5,2] (w 9 (.app 10 72 (.t 6) (.t 8))),a [2,6] (w 10 (.build [.nils,.nils] [(0,1,.t 5),(1,1,.t 9)])),a [7,6,0,1,2,3,4,5,6,7] (s 2 2 10)],.ret]
def Z71:List RRes:=[.c 2 true 2]
def Z72:PCt prog 13 f13 Z70 Z71:=pcT func13 rfl
def Z73:RCode :=
 S [r 0 [b 1 0,n 2 (.bool false)],r 1 [f 3 0 1,L 4 1 3,c 5 37 [4],m 6 5,g 6 false (f 7 1 1),g 6 false (l 8 7),g 6 false (e 9 8),g 6 false (k 10 .gtr 9 (.int .i64 16)),u 11 6 10,m 2 11],.ret]
def Z74:List RRes:=[.t 2]
def Z75:PCt prog 12 f12 Z73 Z74:=pcT func12 rfl
end
section
open Qq Tryz
noncomputable def Z76:RCode :=
 S [r 0 [b 1 0,n 2 .nilp,n 3 O],.scope (S [r 1 [L 16 1 1,w 17 (.build [.nils,.nils] [(0,1,.t 16)]),b 18 17,w 4 (.alloc [.nilp]),s 1 4 18],S [r 2 [f 19 0 1,l 20 19,e 21 20,w 22 (.bsl false 1 1 [O] [(0,.t 21)]),w 23 (.call 90 [.c I,.c (.int .i64 60),.t 22]),t 24 23],K 24 3 [n 2 .nilp,n 3 (.int .i64 20)]],(.label 0),S [r 4 [f 25 0 1,l 26 25,e 27 26,n 28 O],.block 0 (.loop (S [r 5 [o 29 .lss 28 27],.cond (.t 29) .skip (.exit 0),.block 1 (S [r 6 [m 30 28,i 31 5 26 28,L 32 5 31,w 6 (.alloc [O,O,.int .u8 0,.nils,.nils]),m 5 30,s 5 6 32],S [r 7 [w 33 (.load true 4 (.g 2)),n 34 O],.block 2 (.loop (S [r 8 [k 35 .lss 34 (.int .i64 4)],.cond (.t 35) .skip (.exit 2),.block 3 (S [r 9 [w 36 (.vop (.aidx true 4 1) [(.t 33),(.t 34)]),w 8 (.alloc [.nilf]),s 1 8 36],r 10 [f 37 0 8,l 38 37,L 39 5 6,w 40 (.callv (.t 38) [.t 39]),t 41 40],K 41 11 [n 2 .nilp,n 3 (.int .i64 20)]]),r 12 [k 42 .add 34 I,m 34 42]]))],S [r 13 [m 43 5,k 44 .gtr 43 O],.cond (.t 44) (S [r 14 [f 45 0 1,l 46 45,m 47 5,k 48 .sub 47 I,i 49 5 46 48,L 50 5 49,w 9 (.alloc [O,O,.int .u8 0,.nils,.nils]),s 5 9 50],r 15 [f 51 0 9,l 52 51,f 53 0 6,l 54 53,o 55 .eql 52 54],.cond (.t 55) (S [S [r 16 [f 56 1 9,l 57 56,k 58 .add 57 I,f 59 1 6,l 60 59,o 61 .neq 58 60,m 62 61,g 62 false (f 63 2 9),g 62 false (l 64 63),g 62 false (f 65 2 6),g 62 false (l 66 65),g 62 false (o 67 .neq 64 66),u 68 62 67],K 68 17 [n 2 .nilp,n 3 (.int .i64 20)]],.exit 1]) (S [r 18 [f 69 0 9,l 70 69,f 71 0 6,l 72 71,o 73 .gtr 70 72],K 73 19 [n 2 .nilp,n 3 (.int .i64 20)]])]) .skip],S [r 20 [f 74 1 6,l 75 74,k 76 .neq 75 I],K 76 21 [n 2 .nilp,n 3 (.int .i64 20)]],R 22 [l 77 4,l 78 4,a [1] (w 79 (.nilck (.t 78))),a [2] (f 80 1 79),a [3] (l 81 80),f 82 0 6,a [5] (l 83 82),a [6] (w 84 (.bsl false 1 1 [O] [(0,.t 83)])),a [4,7] (w 85 (.app 1 8 (.t 81) (.t 84))),a [0,0,1,2,3,4,5,6,7,8] (w 86 (.nilck (.t 77))),a [9,0,1,2,3,4,5,6,7,8] (f 87 1 86),a [10,8,8,0,1,2,3,4,5,6,7,8] (s 1 87 85)]]),r 23 [k 88 .add 28 I,m 28 88]]))],S [r 24 [l 89 4,w 90 (.nilck (.t 89)),f 91 1 90,l 92 91,e 93 92,k 94 .gtr 93 (.int .i64 20)],K 94 25 [n 2 .nilp,n 3 (.int .i64 20)]],S [r 26 [f 95 0 1,l 96 95,e 97 96,n 98 O],.block 4 (.loop (S [r 27 [o 99 .lss 98 97],.cond (.t 99) .skip (.exit 4),.block 5 (S [r 28 [i 100 5 96 98,L 101 5 100,w 11 (.alloc [O,O,.int .u8 0,.nils,.nils]),s 5 11 101],r 29 [f 102 3 11,l 103 102,w 104 (.mkf (.func 92) [] [.t 4]),c 105 91 [103,104]],K 105 30 [n 2 .nilp,n 3 (.int .i64 20)]]),r 31 [k 106 .add 98 I,m 98 106]]))],r 32 [l 108 4,c 109 94 [108],m 107 109,x 110 0 107,x 111 1 107,m 12 110,m 13 111],S [r 33 [m 112 13],K 112 34 [n 2 .nilp,n 3 (.int .i64 21)]],(.raw (opnR prog)),r 40 [l 121 4,m 2 121,n 3 O],.ret])]
def Z77:List RRes:=[.t 2,.t 3]
def Z78:PCt prog 73 f73 Z76 Z77:=pcT func73 rfl
end
section
open Qq Tryz
def Z79:RCode :=
 S [r 0 [b 3 0,b 4 1,n 6 (.bool false)],r 1 [m 7 2,w 8 (.mkf (.func 194) [] [.t 3,.t 4]),c 9 16 [7,8],t 10 9,m 6 10],.ret]
def Z7a:List RRes:=[.t 6]
def Z7b:PCt prog 193 f193 Z79 Z7a:=pcT func193 rfl
def Z7c:RCode :=
 S [r 0 [n 4 (.bool false)],r 1 [m 5 0,l 6 1,o 7 .lss 5 6,m 8 7,g 8 false (m 9 0),g 8 false (l 10 2),g 8 false (o 11 .gtr 9 10),u 12 8 11,m 4 12],.ret]
def Z7d:List RRes:=[.t 4]
def Z7e:PCt prog 194 f194 Z7c Z7d:=pcT func194 rfl
def Z7f:RCode :=
 S [r 0 [n 4 (.bool false)],r 1 [m 5 0,m 6 1,c 7 42 [5,6],k 8 .geq 7 O,m 4 8],.ret]
def Z7g:List RRes:=[.t 4]
def Z7h:PCt prog 16 f16 Z7f Z7g:=pcT func16 rfl
def Z7i:RCode :=
 S [r 0 [n 4 O],S [r 1 [m 6 0,e 7 6,n 8 O],.block 0 (.loop (S [r 2 [o 9 .lss 8 7],.cond (.t 9) .skip (.exit 0),.block 1 (S [r 3 [m 10 8,m 5 10],r 4 [m 11 1,m 12 0,m 13 5,i 14 1 12 13,l 15 14,w 16 (.callv (.t 11) [.t 15])],K 16 5 [m 17 5,m 4 17]]),r 6 [k 18 .add 8 I,m 8 18]]))],r 7 [n 4 (.int .i64 (-1))],.ret]
def Z7j:List RRes:=[.t 4]
def Z7k:PCt prog 42 f42 Z7i Z7j:=pcT func42 rfl
def Z7l:RCode :=
 S [r 0 [b 1 0,n 2 O],S [r 1 [f 3 0 1,l 4 3,f 5 1 1,l 6 5,f 7 2 1,l 8 7,w 9 (.bsl false 1 3 [O,O,O] [(0,.t 4),(1,.t 6),(2,.t 8)]),w 10 (.call 193 [.c O,.c (.int .i64 1000000000),.t 9]),t 11 10,m 12 11,g 12 false (f 13 1 1),g 12 false (l 14 13),g 12 false (f 15 2 1),g 12 false (l 16 15),g 12 false (o 17 .gtr 14 16),u 18 12 17],K 18 2 [n 2 (.int .i64 10)]],r 3 [n 2 O],.ret]
def Z7m:List RRes:=[.t 2]
def Z7n:PCt prog 191 f191 Z7l Z7m:=pcT func191 rfl
def Z7o:RCode :=
 S [r 0 [b 3 0,b 4 1,n 6 (.bool false)],r 1 [m 7 2,w 8 (.mkf (.func 121) [] [.t 3,.t 4]),c 9 16 [7,8],t 10 9,m 6 10],.ret]
def Z7p:List RRes:=[.t 6]
def Z7q:PCt prog 90 f90 Z7o Z7p:=pcT func90 rfl
def Z7r:RCode :=
 S [r 0 [n 4 (.bool false)],r 1 [m 5 0,l 6 1,o 7 .lss 5 6,m 8 7,g 8 false (m 9 0),g 8 false (l 10 2),g 8 false (o 11 .gtr 9 10),u 12 8 11,m 4 12],.ret]
def Z7s:List RRes:=[.t 4]
def Z7t:PCt prog 121 f121 Z7r Z7s:=pcT func121 rfl
def Z7u:RCode :=
 S [r 0 [b 1 0,w 2 (.alloc [O,O])],r 1 [f 3 0 1,l 4 3,f 5 1 1,l 6 5,w 7 (.build [O,O] [(0,1,.t 4),(1,1,.t 6)]),s 2 2 7],.ret]
def Z7v:List RRes:=[.c 2 true 2]
def Z7w:PCt prog 184 f184 Z7u Z7v:=pcT func184 rfl
def Z7x:RCode :=
 S [r 0 [b 1 0,n 2 (.bool false)],r 1 [f 3 0 1,l 4 3,w 5 (.bsl false 1 1 [O] [(0,.t 4)]),w 6 (.call 90 [.c I,.c (.int .i64 9999),.t 5]),m 7 6,g 7 true (f 8 1 1),g 7 true (l 9 8),g 7 true (w 10 (.bsl false 1 1 [O] [(0,.t 9)])),g 7 true (w 11 (.call 90 [.c I,.c (.int .i64 8),.t 10])),v 12 7 11,m 2 12],.ret]
def Z7y:List RRes:=[.t 2]
def Z7z:PCt prog 185 f185 Z7x Z7y:=pcT func185 rfl
def Z7A:RCode :=
 S [r 0 [b 1 0,n 2 (.bool false)],S [r 1 [f 3 2 1,l 4 3,k 5 .eql 4 (.int .u8 1)],K 5 2 [f 6 3 1,l 7 6,e 8 7,w 9 (.bsl false 1 1 [O] [(0,.t 8)]),w 10 (.call 90 [.c I,.c (.int .i64 8),.t 9]),m 11 10,g 11 true (f 12 4 1),g 11 true (l 13 12),g 11 true (e 14 13),g 11 true (k 15 .eql 14 O),v 16 11 15,m 2 16]],r 3 [f 17 2 1,l 18 17,w 19 (.conv .i64 (.t 18)),w 20 (.bsl false 1 1 [O] [(0,.t 19)]),w 21 (.call 90 [.c (.int .i64 2),.c (.int .i64 3),.t 20]),m 22 21,g 22 true (f 23 4 1),g 22 true (l 24 23),g 22 true (e 25 24),g 22 true (k 26 .leq 25 (.int .i64 4)),v 27 22 26,m 28 27,g 28 true (f 29 3 1),g 28 true (l 30 29),g 28 true (e 31 30),g 28 true (k 32 .eql 31 O),v 33 28 32,m 2 33],.ret]
def Z7B:List RRes:=[.t 2]
def Z7C:PCt prog 186 f186 Z7A Z7B:=pcT func186 rfl
def Z7D:RCode :=
 S [r 0 [b 1 0,n 2 (.bool false)],S [r 1 [f 5 3 1,l 6 5,e 7 6,n 8 O],.block 0 (.loop (S [r 2 [o 9 .lss 8 7],.cond (.t 9) .skip (.exit 0),.block 1 (S [r 3 [m 10 8,i 11 2 6 8,L 12 2 11,w 4 (.alloc [O,O]),m 3 10,s 2 4 12],R 4 [f 13 0 4,a [0] (l 14 13),a [1] (w 15 (.bsl false 1 1 [O] [(0,.t 14)])),a [2] (w 16 (.call 90 [.c I,.c (.int .i64 9999),.t 15])),a [3] (t 17 16),a [4,3] (m 18 17),a [5] (g 18 false (f 19 1 4)),a [6,5] (g 18 false (l 20 19)),a [7,5] (g 18 false (w 21 (.bsl false 1 1 [O] [(0,.t 20)]))),a [8,5,5] (g 18 false (w 22 (.call 90 [.c I,.c (.int .i64 20),.t 21]))),a [9,5] (g 18 false (t 23 22)),a [5,10] (u 24 18 23),a [11,9] (m 25 24),a [12] (g 25 false (f 26 0 4)),a [13,12] (g 25 false (l 27 26)),a [12] (g 25 false (f 28 0 1)),a [15,12] (g 25 false (l 29 28)),a [14,16,12] (g 25 false (o 30 .eql 27 29)),a [12,17] (u 31 25 30),a [18,12] (m 32 31),a [19] (g 32 false (m 33 3)),a [20,19] (g 32 false (k 34 .gtr 33 O)),a [21,19,19] (g 32 false (m 35 34)),a [22] (g 35 true (f 36 3 1)),a [23,22] (g 35 true (l 37 36)),a [22] (g 35 true (m 38 3)),a [25,22] (g 35 true (k 39 .sub 38 I)),a [24,26,22] (g 35 true (i 40 2 37 39)),a [27,22] (g 35 true (f 41 0 40)),a [28,22] (g 35 true (l 42 41)),a [22] (g 35 true (f 43 0 4)),a [30,22] (g 35 true (l 44 43)),a [29,31,22] (g 35 true (o 45 .geq 42 44)),a [22,32,19] (g 32 false (v 46 35 45)),a [19,33] (u 47 32 46)],K 47 5 [n 2 (.bool false)]]),r 6 [k 48 .add 8 I,m 8 48]]))],r 7 [n 2 (.bool true)],.ret]
def Z7E:List RRes:=[.t 2]
def Z7F:PCt prog 187 f187 Z7D Z7E:=pcT func187 rfl
def Z7G:RCode :=
 S [r 0 [b 1 0,n 2 (.bool false)],r 1 [f 3 4 1,l 4 3,w 5 (.call 189 [.t 4,.c (.func (.func 190) [] [])]),t 6 5,m 2 6],.ret]
def Z7H:List RRes:=[.t 2]
def Z7I:PCt prog 188 f188 Z7G Z7H:=pcT func188 rfl
def Z7J:RCode :=
 S [r 0 [b 1 0,n 2 (.bool false)],r 1 [L 3 3 1,c 4 191 [3],k 5 .neq 4 O,m 2 5],.ret]
def Z7K:List RRes:=[.t 2]
def Z7L:PCt prog 190 f190 Z7J Z7K:=pcT func190 rfl
def Z7M:RCode :=
 S [r 0 [n 4 (.bool false)],r 1 [m 5 0,m 6 1,c 7 192 [5,6],k 8 .geq 7 O,m 4 8],.ret]
def Z7N:List RRes:=[.t 4]
def Z7O:PCt prog 189 f189 Z7M Z7N:=pcT func189 rfl
def Z7P:RCode :=
 S [r 0 [n 4 O],S [r 1 [m 6 0,e 7 6,n 8 O],.block 0 (.loop (S [r 2 [o 9 .lss 8 7],.cond (.t 9) .skip (.exit 0),.block 1 (S [r 3 [m 10 8,m 5 10],r 4 [m 11 1,m 12 0,m 13 5,i 14 3 12 13,L 15 3 14,w 16 (.callv (.t 11) [.t 15])],K 16 5 [m 17 5,m 4 17]]),r 6 [k 18 .add 8 I,m 8 18]]))],r 7 [n 4 (.int .i64 (-1))],.ret]
def Z7Q:List RRes:=[.t 4]
def Z7R:PCt prog 192 f192 Z7P Z7Q:=pcT func192 rfl
def Z7S:RCode :=
 S [r 0 [n 4 (.bool false)],r 1 [m 5 0,m 6 1,c 7 122 [5,6],k 8 .geq 7 O,m 4 8],.ret]
def Z7T:List RRes:=[.t 4]
def Z7U:PCt prog 91 f91 Z7S Z7T:=pcT func91 rfl
def Z7V:RCode :=
 S [r 0 [n 4 O],S [r 1 [m 6 0,e 7 6,n 8 O],.block 0 (.loop (S [r 2 [o 9 .lss 8 7],.cond (.t 9) .skip (.exit 0),.block 1 (S [r 3 [m 10 8,m 5 10],r 4 [m 11 1,m 12 0,m 13 5,i 14 2 12 13,L 15 2 14,w 16 (.callv (.t 11) [.t 15])],K 16 5 [m 17 5,m 4 17]]),r 6 [k 18 .add 8 I,m 8 18]]))],r 7 [n 4 (.int .i64 (-1))],.ret]
def Z7W:List RRes:=[.t 4]
def Z7X:PCt prog 122 f122 Z7V Z7W:=pcT func122 rfl
def Z7Y:RCode :=
 S [r 0 [b 2 0,n 3 (.bool false)],r 1 [l 4 1,f 5 0 2,l 6 5,c 7 93 [4,6],t 8 7,m 3 8],.ret]
def Z7Z:List RRes:=[.t 3]
def Z80:PCt prog 92 f92 Z7Y Z7Z:=pcT func92 rfl
def Z81:RCode :=
 S [r 0 [n 4 (.bool false)],r 1 [m 8 0,w 9 (.nilck (.t 8)),f 10 1 9,l 11 10,m 12 1,c 13 123 [11,12],m 7 13,x 14 0 7,x 15 1 7,m 5 14,m 6 15],r 2 [m 16 6,m 4 16],.ret]
def Z82:List RRes:=[.t 4]
def Z83:PCt prog 93 f93 Z81 Z82:=pcT func93 rfl
def Z84:RCode :=
 S [r 0 [n 4 O,n 5 (.bool false)],r 1 [m 10 0,e 11 10,m 6 11],r 2 [m 12 6,n 7 O,m 8 12],.block 0 (.loop (S [S [r 3 [m 13 7,m 14 8,o 15 .lss 13 14],.cond (.t 15) .skip (.exit 0)],.block 1 (S [r 4 [m 16 7,m 17 8,o 18 .add 16 17,w 19 (.conv .u64 (.t 18)),w 20 (.vop (.sh false) [(.t 19),(.c (.int .u64 1))]),w 21 (.conv .i64 (.t 20)),m 9 21],r 5 [m 22 0,m 23 9,i 24 1 22 23,l 25 24,m 26 1,c 27 111 [25,26]],.cond (.t 27) (r 6 [m 28 9,k 29 .add 28 I,m 7 29]) (r 7 [m 30 9,m 8 30])])])),r 8 [m 31 7,m 32 7,m 33 6,o 34 .lss 32 33,m 35 34,g 35 true (m 36 0),g 35 true (m 37 7),g 35 true (i 38 1 36 37),g 35 true (l 39 38),g 35 true (m 40 1),g 35 true (o 41 .eql 39 40),g 35 true (m 42 41),g 42 false (m 43 0),g 42 false (m 44 7),g 42 false (i 45 1 43 44),g 42 false (l 46 45),g 42 false (c 47 135 [46]),g 42 false (m 48 47),g 48 true (m 49 1),g 48 true (c 50 135 [49]),g 42 false (v 51 48 50),g 35 true (u 52 42 51),v 53 35 52,m 4 31,m 5 53],.ret]
def Z85:List RRes:=[.t 4,.t 5]
def Z86:PCt prog 123 f123 Z84 Z85:=pcT func123 rfl
def Z87:RCode :=
 S [r 0 [n 4 (.bool false)],r 1 [m 5 0,c 6 57 [5],m 7 6,g 7 true (m 8 1),g 7 true (c 9 57 [8]),g 7 true (t 10 9),v 11 7 10,m 12 11,g 12 false (m 13 0),g 12 false (m 14 1),g 12 false (o 15 .lss 13 14),u 16 12 15,m 4 16],.ret]
def Z88:List RRes:=[.t 4]
def Z89:PCt prog 111 f111 Z87 Z88:=pcT func111 rfl
def Z8a:RCode :=
 S [r 0 [n 2 (.bool false)],r 1 [m 3 0,m 4 0,o 5 .neq 3 4,m 2 5],.ret]
def Z8b:List RRes:=[.t 2]
def Z8c:PCt prog 57 f57 Z8a Z8b:=pcT func57 rfl
def Z8d:RCode :=
 S [r 0 [n 2 (.bool false)],r 1 [m 3 0,m 4 0,o 5 .neq 3 4,m 2 5],.ret]
def Z8e:List RRes:=[.t 2]
def Z8f:PCt prog 135 f135 Z8d Z8e:=pcT func135 rfl
def Z8g:RCode :=
 S [r 0 [n 4 O],r 1 [m 7 0,c 8 57 [7],m 5 8],r 2 [m 9 1,c 10 57 [9],m 6 10],S [r 3 [m 11 5],.cond (.t 11) (S [S [r 4 [m 12 6],K 12 5 [n 4 O]],r 6 [n 4 (.int .i64 (-1))],.ret]) .skip],S [r 7 [m 13 6],K 13 8 [n 4 I]],S [r 9 [m 14 0,m 15 1,o 16 .lss 14 15],K 16 10 [n 4 (.int .i64 (-1))]],S [r 11 [m 17 0,m 18 1,o 19 .gtr 17 18],K 19 12 [n 4 I]],r 13 [n 4 O],.ret]
def Z8h:List RRes:=[.t 4]
def Z8i:PCt prog 31 f31 Z8g Z8h:=pcT func31 rfl
def Z8j:RCode :=
 S [r 0 [n 6 O,n 7 (.bool false)],r 1 [m 12 0,e 13 12,m 8 13],r 2 [m 14 8,n 9 O,m 10 14],.block 0 (.loop (S [S [r 3 [m 15 9,m 16 10,o 17 .lss 15 16],.cond (.t 17) .skip (.exit 0)],.block 1 (S [r 4 [m 18 9,m 19 10,o 20 .add 18 19,w 21 (.conv .u64 (.t 20)),w 22 (.vop (.sh false) [(.t 21),(.c (.int .u64 1))]),w 23 (.conv .i64 (.t 22)),m 11 23],r 5 [m 24 2,m 25 0,m 26 11,i 27 5 25 26,L 28 5 27,m 29 1,w 30 (.callv (.t 24) [.t 28,.t 29]),k 31 .lss 30 O],.cond (.t 31) (r 6 [m 32 11,k 33 .add 32 I,m 9 33]) (r 7 [m 34 11,m 10 34])])])),r 8 [m 35 9,m 36 9,m 37 8,o 38 .lss 36 37,m 39 38,g 39 true (m 40 2),g 39 true (m 41 0),g 39 true (m 42 9),g 39 true (i 43 5 41 42),g 39 true (L 44 5 43),g 39 true (m 45 1),g 39 true (w 46 (.callv (.t 40) [.t 44,.t 45])),g 39 true (k 47 .eql 46 O),v 48 39 47,m 6 35,m 7 48],.ret]
def Z8k:List RRes:=[.t 6,.t 7]
def Z8l:PCt prog 137 f137 Z8j Z8k:=pcT func137 rfl
def Z8m:RCode :=
 S [r 0 [b 2 0,b 3 1,n 4 .nilf],r 1 [w 5 (.mkf (.func 136) [] [.t 2,.t 3]),m 4 5],.ret]
def Z8n:List RRes:=[.t 4]
def Z8o:PCt prog 124 f124 Z8m Z8n:=pcT func124 rfl
def Z8p:RCode :=
 S [r 0 [b 2 0,n 4 O],r 1 [f 5 0 2,l 6 5,m 7 1,c 8 31 [6,7],m 4 8],.ret]
def Z8q:List RRes:=[.t 4]
def Z8r:PCt prog 138 f138 Z8p Z8q:=pcT func138 rfl
def Z8s:RCode :=
 S [r 0 [b 3 1,w 4 (.alloc [O,O,.int .u8 0,.nils,.nils]),w 5 (.alloc [.bool false])],S [r 1 [m 7 0,f 8 0 3,l 9 8,c 10 124 [7,9]],.block 0 (.rngf (.t 10) [11] (r 2 [w 6 (.alloc [O,O,.int .u8 0,.nils,.nils]),s 5 6 11]) (.block 1 (S [R 3 [L 12 5 6,a [0] (c 13 184 [12]),L 14 2 3,a [1,2] (w 15 (.eqs false [.i,.i] (.t 13) (.t 14)))],K 15 4 [L 16 5 6,s 5 4 16,z (.store 1 (.t 5) (.c (.bool true)))]])))],r 5 [w 17 (.build [O,O,.int .u8 0,.nils,.nils] []),s 5 4 17,z (.store 1 (.t 5) (.c (.bool false)))],.ret]
def Z8t:List RRes:=[.c 4 true 5,.c 5 false 1]
def Z8u:PCt prog 181 f181 Z8s Z8t:=pcT func181 rfl
def Z8v:RCode :=
 S [r 0 [n 2 .nilm,n 3 (.bool false)],r 1 [w 15 (.mkmap),w 4 (.alloc [.nilm]),s 1 4 15],r 2 [w 16 (.mkmap),w 5 (.alloc [.nilm]),s 1 5 16],S [r 3 [m 17 0,w 18 (.nilck (.t 17)),f 19 1 18,l 20 19,e 21 20,n 22 O],.block 0 (.loop (S [r 4 [o 23 .lss 22 21],.cond (.t 23) .skip (.exit 0),.block 1 (S [r 5 [i 24 1 20 22,l 25 24,m 7 25],r 6 [l 26 5,m 27 7,z (.mupd (.i .i64) (.t 26) (.t 27) (.c (.bool true)))]]),r 7 [k 28 .add 22 I,m 22 28]]))],S [r 8 [m 29 0,w 30 (.nilck (.t 29)),f 31 1 30,l 32 31,e 33 32,n 34 O],.block 2 (.loop (S [r 9 [o 35 .lss 34 33],.cond (.t 35) .skip (.exit 2),.block 3 (S [r 10 [m 36 0,w 37 (.nilck (.t 36)),f 38 1 37,l 39 38,e 40 39,n 41 O],.block 4 (.loop (S [r 11 [o 42 .lss 41 40],.cond (.t 42) .skip (.exit 4),.block 5 (S [r 12 [i 43 1 39 41,l 44 43,m 9 44],R 13 [l 45 5,m 46 9,a [0,1] (w 47 (.look (.i .i64) (.bool false) false (.t 45) (.t 46))),w 10 (.alloc [O]),w 11 (.alloc [.bool false]),a [3,3,4] (z (.store 1 (.t 10) (.c O))),a [4,2,5,0,1,2,3,4,5] (s 1 11 47)],S [r 14 [m 48 0,m 49 9,c 50 124 [48,49]],.block 6 (.rngf (.t 50) [51] (r 15 [w 12 (.alloc [O,O,.int .u8 0,.nils,.nils]),s 5 12 51]) (.block 7 (S [r 16 [f 52 3 12,l 53 52,e 54 53,n 55 O],.block 8 (.loop (S [r 17 [o 56 .lss 55 54],.cond (.t 56) .skip (.exit 8),.block 9 (S [r 18 [i 57 2 53 55,L 58 2 57,w 14 (.alloc [O,O]),s 2 14 58],r 19 [l 59 11,m 60 59,g 60 true (l 61 5),g 60 true (f 62 0 14),g 60 true (l 63 62),g 60 true (w 64 (.look (.i .i64) (.bool false) false (.t 61) (.t 63))),g 60 true (t 65 64),v 66 60 65,s 1 11 66],r 20 [l 67 10,l 68 4,f 69 0 14,l 70 69,w 71 (.look (.i .i64) O false (.t 68) (.t 70)),w 72 (.mx true (.t 67) [.t 71]),s 1 10 72]]),r 21 [k 73 .add 55 I,m 55 73]]))])))],r 22 [l 74 11],.cond (.t 74) (S [r 23 [l 75 4,m 76 9,l 77 10,k 78 .add 77 I,z (.mupd (.i .i64) (.t 75) (.t 76) (.t 78))],r 24 [l 79 5,m 80 9,z (.mdel (.i .i64) (.t 79) (.t 80))]]) .skip]),r 25 [k 81 .add 41 I,m 41 81]]))]),r 26 [k 82 .add 34 I,m 34 82]]))],r 27 [l 83 4,l 84 5,w 85 (.mlen (.t 84)),k 86 .gtr 85 O,m 2 83,m 3 86],.ret]
def Z8w:List RRes:=[.t 2,.t 3]
def Z8x:PCt prog 94 f94 Z8v Z8w:=pcT func94 rfl
def Z8y:RCode :=
 S [r 0 [b 1 0,w 2 (.alloc [O,O,.int .u8 0,.nils,.nils])],R 1 [f 3 3 1,a [0] (l 4 3),a [1] (w 5 (.calln 46 [.t 4])),f 6 4 1,a [3] (l 7 6),a [4,2] (w 8 (.calln 47 [.t 7])),a [0,1,2,3,4] (f 9 3 1),a [6,2,5,0,1,2,3,4] (s 1 9 5),a [0,1,2,3,4,5,6,7] (f 10 4 1),a [8,5,7,0,1,2,3,4,5,6,7] (s 1 10 8)],r 2 [L 11 5 1,s 5 2 11],.ret]
def Z8z:List RRes:=[.c 2 true 5]
def Z8A:PCt prog 182 f182 Z8y Z8z:=pcT func182 rfl
def Z8B:RCode :=
 S [r 0 [n 2 .nils],S [r 1 [m 3 0,w 4 (.vop (.eqn false) [(.t 3),(.c .nils)])],K 4 2 [n 2 .nils]],r 3 [w 5 (.bsl true 2 0 [] []),m 6 0,w 7 (.app 2 16 (.t 5) (.t 6)),m 2 7],.ret]
def Z8C:List RRes:=[.t 2]
def Z8D:PCt prog 46 f46 Z8B Z8C:=pcT func46 rfl
def Z8E:RCode :=
 S [r 0 [n 2 .nils],S [r 1 [m 3 0,w 4 (.vop (.eqn false) [(.t 3),(.c .nils)])],K 4 2 [n 2 .nils]],r 3 [w 5 (.bsl true 3 0 [] []),m 6 0,w 7 (.app 3 24 (.t 5) (.t 6)),m 2 7],.ret]
def Z8F:List RRes:=[.t 2]
def Z8G:PCt prog 47 f47 Z8E Z8F:=pcT func47 rfl
def Z8H:RCode :=
 S [r 0 [b 1 0,n 2 .nils,n 3 O],r 1 [L 7 1 1,c 8 73 [7],m 6 8,x 9 0 6,x 10 1 6,m 4 9,m 5 10],S [r 2 [m 11 5,k 12 .neq 11 O],K 12 3 [m 13 5,n 2 .nils,m 3 13]],r 4 [m 14 4,w 15 (.nilck (.t 14)),f 16 1 15,l 17 16,m 2 17,n 3 O],.ret]
def Z8I:List RRes:=[.t 2,.t 3]
def Z8J:PCt prog 55 f55 Z8H Z8I:=pcT func55 rfl
def Z8K:RCode :=
 S [r 0 [b 2 0,b 3 1,w 4 (.alloc [O,O,.int .u8 0,.nils,.nils]),n 5 O],r 1 [L 11 1 2,c 12 73 [11],m 10 12,x 13 0 10,x 14 1 10,m 6 13,m 7 14],S [r 2 [m 15 7,k 16 .neq 15 O],K 16 3 [w 17 (.build [O,O,.int .u8 0,.nils,.nils] []),m 18 7,s 5 4 17,m 5 18]],r 4 [m 20 6,L 21 2 3,c 22 181 [20,21],m 19 22,x 23 0 19,x 24 1 19,w 8 (.alloc [O,O,.int .u8 0,.nils,.nils]),s 5 8 23,m 9 24],S [r 5 [m 25 9,t 26 25],K 26 6 [w 27 (.build [O,O,.int .u8 0,.nils,.nils] []),s 5 4 27,n 5 (.int .i64 6)]],r 7 [L 28 5 8,c 29 182 [28],s 5 4 29,n 5 O],.ret]
def Z8L:List RRes:=[.c 4 true 5,.t 5]
def Z8M:PCt prog 172 f172 Z8K Z8L:=pcT func172 rfl
end
section
open Qq Tryz
def Z8N:RCode :=
 S [r 0 [n 6 (.bool false)],r 1 [m 7 0,m 8 1,o 9 .geq 7 8,m 10 9,g 10 true (m 11 0),g 10 true (m 12 2),g 10 true (o 13 .leq 11 12),v 14 10 13,m 6 14],.ret]
def Z8O:List RRes:=[.t 6]
def Z8P:PCt prog 141 f141 Z8N Z8O:=pcT func141 rfl
def Z8Q:RCode :=
 S [r 0 [b 1 0,n 2 (.bool false)],r 1 [f 3 0 1,l 4 3,w 5 (.call 141 [.t 4,.c O,.c (.int .i64 1000000000)]),m 6 5,g 6 true (f 7 2 1),g 6 true (l 8 7),g 6 true (w 9 (.call 141 [.t 8,.c O,.c (.int .i64 1000000000)])),v 10 6 9,m 11 10,g 11 true (f 12 1 1),g 11 true (l 13 12),g 11 true (f 14 2 1),g 11 true (l 15 14),g 11 true (w 16 (.call 141 [.t 13,.c O,.t 15])),v 17 11 16,m 2 17],.ret]
def Z8R:List RRes:=[.t 2]
def Z8S:PCt prog 139 f139 Z8Q Z8R:=pcT func139 rfl
def Z8T:RCode :=
 S [r 0 [n 6 (.bool false)],r 1 [m 7 0,m 8 1,o 9 .geq 7 8,m 10 9,g 10 true (m 11 0),g 10 true (m 12 2),g 10 true (o 13 .leq 11 12),v 14 10 13,m 6 14],.ret]
def Z8U:List RRes:=[.t 6]
def Z8V:PCt prog 125 f125 Z8T Z8U:=pcT func125 rfl
def Z8W:RCode :=
 S [r 0 [b 1 0,n 2 (.bool false)],S [r 1 [f 6 0 1,l 7 6,w 8 (.call 125 [.t 7,.c I,.c (.int .i64 9999)]),t 9 8,m 10 9,g 10 false (f 11 1 1),g 10 false (l 12 11),g 10 false (w 13 (.call 125 [.t 12,.c I,.c (.int .i64 8)])),g 10 false (t 14 13),u 15 10 14,m 16 15,g 16 false (f 17 2 1),g 16 false (l 18 17),g 16 false (w 19 (.conv .i64 (.t 18))),g 16 false (w 20 (.call 125 [.t 19,.c I,.c (.int .i64 3)])),g 16 false (t 21 20),u 22 16 21,m 23 22,g 23 false (f 24 2 1),g 23 false (l 25 24),g 23 false (k 26 .eql 25 (.int .u8 1)),g 23 false (m 27 26),g 27 true (f 28 3 1),g 27 true (l 29 28),g 27 true (e 30 29),g 27 true (w 31 (.call 125 [.t 30,.c I,.c (.int .i64 8)])),g 27 true (t 32 31),g 27 true (m 33 32),g 33 false (f 34 4 1),g 33 false (l 35 34),g 33 false (e 36 35),g 33 false (k 37 .gtr 36 O),g 27 true (u 38 33 37),g 23 false (v 39 27 38),u 40 23 39,m 41 40,g 41 false (f 42 2 1),g 41 false (l 43 42),g 41 false (k 44 .gtr 43 (.int .u8 1)),g 41 false (m 45 44),g 45 true (f 46 4 1),g 45 true (l 47 46),g 45 true (e 48 47),g 45 true (k 49 .gtr 48 (.int .i64 4)),g 45 true (m 50 49),g 50 false (f 51 3 1),g 50 false (l 52 51),g 50 false (e 53 52),g 50 false (k 54 .gtr 53 O),g 45 true (u 55 50 54),g 41 false (v 56 45 55),u 57 41 56],K 57 2 [n 2 (.bool false)]],S [r 3 [n 3 O],.block 0 (.loop (S [S [r 4 [m 58 3,f 59 3 1,l 60 59,e 61 60,o 62 .lss 58 61],.cond (.t 62) .skip (.exit 0)],.block 1 (S [r 6 [f 65 3 1,l 66 65,m 67 3,i 68 2 66 67,L 69 2 68,w 4 (.alloc [O,O]),s 2 4 69],R 7 [f 70 0 4,a [0] (l 71 70),a [1] (w 72 (.call 125 [.t 71,.c I,.c (.int .i64 9999)])),a [2] (t 73 72),a [3,2] (m 74 73),a [4] (g 74 false (f 75 1 4)),a [5,4] (g 74 false (l 76 75)),a [6,4,4] (g 74 false (w 77 (.call 125 [.t 76,.c I,.c (.int .i64 20)]))),a [7,4] (g 74 false (t 78 77)),a [4,8] (u 79 74 78),a [9,7] (m 80 79),a [10] (g 80 false (f 81 0 4)),a [11,10] (g 80 false (l 82 81)),a [10] (g 80 false (f 83 0 1)),a [13,10] (g 80 false (l 84 83)),a [12,14,10] (g 80 false (o 85 .eql 82 84)),a [10,15] (u 86 80 85),a [16,10] (m 87 86),a [17] (g 87 false (m 88 3)),a [18,17] (g 87 false (k 89 .gtr 88 O)),a [19,17,17] (g 87 false (m 90 89)),a [20] (g 90 true (f 91 3 1)),a [21,20] (g 90 true (l 92 91)),a [20] (g 90 true (m 93 3)),a [23,20] (g 90 true (k 94 .sub 93 I)),a [22,24,20] (g 90 true (i 95 2 92 94)),a [25,20] (g 90 true (f 96 0 95)),a [26,20] (g 90 true (l 97 96)),a [20] (g 90 true (f 98 0 4)),a [28,20] (g 90 true (l 99 98)),a [27,29,20] (g 90 true (o 100 .geq 97 99)),a [20,30,17] (g 87 false (v 101 90 100)),a [17,31] (u 102 87 101)],K 102 8 [n 2 (.bool false)]]),r 5 [m 63 3,k 64 .add 63 I,m 3 64]]))],S [r 9 [n 5 O],.block 2 (.loop (S [S [r 10 [m 103 5,f 104 4 1,l 105 104,e 106 105,o 107 .lss 103 106],.cond (.t 107) .skip (.exit 2)],.block 3 (S [r 12 [f 110 4 1,l 111 110,m 112 5,i 113 3 111 112,L 114 3 113,c 115 139 [114],t 116 115],K 116 13 [n 2 (.bool false)]]),r 11 [m 108 5,k 109 .add 108 I,m 5 109]]))],r 14 [n 2 (.bool true)],.ret]
def Z8X:List RRes:=[.t 2]
def Z8Y:PCt prog 126 f126 Z8W Z8X:=pcT func126 rfl
def Z8Z:RCode :=
 S [r 0 [b 1 0,n 2 .nils],r 1 [n 3 .nils],S [r 2 [n 4 O],.block 0 (.loop (S [S [r 3 [m 6 4,f 7 0 1,l 8 7,e 9 8,o 10 .lss 6 9],.cond (.t 10) .skip (.exit 0)],.block 1 (S [r 5 [f 13 0 1,l 14 13,m 15 4,i 16 5 14 15,f 17 0 16,l 18 17,m 5 18],r 6 [m 19 4,k 20 .eql 19 O,m 21 20,g 21 false (f 22 0 1),g 21 false (l 23 22),g 21 false (m 24 4),g 21 false (k 25 .sub 24 I),g 21 false (i 26 5 23 25),g 21 false (f 27 0 26),g 21 false (l 28 27),g 21 false (m 29 5),g 21 false (o 30 .neq 28 29),u 31 21 30],.cond (.t 31) (r 7 [m 32 3,m 33 5,w 34 (.bsl false 1 1 [O] [(0,.t 33)]),w 35 (.app 1 8 (.t 32) (.t 34)),m 3 35]) .skip]),r 4 [m 11 4,k 12 .add 11 I,m 4 12]]))],r 8 [m 36 3,m 2 36],.ret]
def Z90:List RRes:=[.t 2]
def Z91:PCt prog 26 f26 Z8Z Z90:=pcT func26 rfl
def Z92:RCode :=
 S [r 0 [n 4 O],S [r 1 [n 5 O],.block 0 (.loop (S [S [r 2 [m 6 5,m 7 0,e 8 7,o 9 .lss 6 8],.cond (.t 9) .skip (.exit 0)],.block 1 (S [r 4 [m 12 0,m 13 5,i 14 1 12 13,l 15 14,m 16 1,o 17 .eql 15 16],K 17 5 [m 18 5,m 4 18]]),r 3 [m 10 5,k 11 .add 10 I,m 5 11]]))],r 6 [n 4 (.int .i64 (-1))],.ret]
def Z93:List RRes:=[.t 4]
def Z94:PCt prog 127 f127 Z92 Z93:=pcT func127 rfl
def Z95:RCode :=
 S [r 0 [b 1 0,n 2 (.bool false)],S [r 1 [f 9 0 1,l 10 9,e 11 10,w 12 (.call 125 [.t 11,.c I,.c (.int .i64 60)]),t 13 12],K 13 2 [n 2 (.bool false)]],S [r 3 [n 3 O],.block 0 (.loop (S [S [r 4 [m 14 3,f 15 0 1,l 16 15,e 17 16,o 18 .lss 14 17],.cond (.t 18) .skip (.exit 0)],.block 1 (S [r 6 [f 21 0 1,l 22 21,m 23 3,i 24 5 22 23,L 25 5 24,w 4 (.alloc [O,O,.int .u8 0,.nils,.nils]),s 5 4 25],S [r 7 [L 26 5 4,c 27 126 [26],t 28 27],K 28 8 [n 2 (.bool false)]],r 9 [w 29 (.build [O,O,.int .u8 0,.nils,.nils] []),w 5 (.alloc [O,O,.int .u8 0,.nils,.nils]),s 5 5 29],S [r 10 [m 30 3,k 31 .gtr 30 O],.cond (.t 31) (r 11 [f 32 0 1,l 33 32,m 34 3,k 35 .sub 34 I,i 36 5 33 35,L 37 5 36,s 5 5 37]) .skip],.block 2 (S [r 12 [f 39 0 4,l 40 39,f 41 0 5,l 42 41,o 43 .lss 40 42,m 38 43],.cond (.t 38) (S [r 13 [n 2 (.bool false)],.ret]) (S [r 14 [f 45 0 4,l 46 45,f 47 0 5,l 48 47,o 49 .gtr 46 48,m 44 49],.cond (.t 44) (S [r 15 [f 50 1 4,l 51 50,k 52 .neq 51 I],K 52 16 [n 2 (.bool false)]]) (S [r 17 [f 54 1 4,l 55 54,f 56 1 5,l 57 56,k 58 .add 57 I,o 59 .neq 55 58,m 60 59,g 60 false (f 61 2 4),g 60 false (l 62 61),g 60 false (f 63 2 5),g 60 false (l 64 63),g 60 false (o 65 .neq 62 64),u 66 60 65,m 53 66],K 53 18 [n 2 (.bool false)]])])])]),r 5 [m 19 3,k 20 .add 19 I,m 3 20]]))],r 19 [L 67 1 1,c 68 26 [67],m 6 68],S [r 20 [n 7 O],.block 3 (.loop (S [S [r 21 [m 69 7,f 70 0 1,l 71 70,e 72 71,o 73 .lss 69 72],.cond (.t 73) .skip (.exit 3)],.block 4 (S [r 23 [n 8 O],.block 5 (.loop (S [S [r 24 [m 76 8,f 77 0 1,l 78 77,m 79 7,i 80 5 78 79,f 81 3 80,l 82 81,e 83 82,o 84 .lss 76 83],.cond (.t 84) .skip (.exit 5)],.block 6 (S [r 26 [m 87 6,f 88 0 1,l 89 88,m 90 7,i 91 5 89 90,f 92 3 91,l 93 92,m 94 8,i 95 2 93 94,f 96 0 95,l 97 96,c 98 127 [87,97],k 99 .lss 98 O],K 99 27 [n 2 (.bool false)]]),r 25 [m 85 8,k 86 .add 85 I,m 8 86]]))]),r 22 [m 74 7,k 75 .add 74 I,m 7 75]]))],r 28 [m 100 6,e 101 100,k 102 .leq 101 (.int .i64 20),m 2 102],.ret]
def Z96:List RRes:=[.t 2]
def Z97:PCt prog 96 f96 Z95 Z96:=pcT func96 rfl
def Z98:RCode :=
 S [r 0 [b 1 0,n 2 .nils],r 1 [L 11 1 1,c 12 26 [11],m 3 12],r 2 [m 13 3,e 14 13,w 15 (.mksl 1 8 [O] (.t 14)),m 4 15],S [r 3 [n 5 O],.block 0 (.loop (S [S [r 4 [m 16 5,m 17 3,e 18 17,o 19 .leq 16 18],.cond (.t 19) .skip (.exit 0)],.block 1 (S [r 6 [m 22 3,e 23 22,w 24 (.mksl 1 8 [O] (.t 23)),m 6 24],S [r 7 [n 7 O],.block 2 (.loop (S [S [r 8 [m 25 7,f 26 0 1,l 27 26,e 28 27,o 29 .lss 25 28],.cond (.t 29) .skip (.exit 2)],.block 3 (S [r 10 [f 32 0 1,l 33 32,m 34 7,i 35 5 33 34,L 36 5 35,w 8 (.alloc [O,O,.int .u8 0,.nils,.nils]),s 5 8 36],r 11 [m 37 3,f 38 0 8,l 39 38,c 40 127 [37,39],m 9 40],r 12 [m 41 6,m 42 9,m 43 6,m 44 9,i 45 1 43 44,l 46 45,w 47 (.mx true (.t 46) [.c I]),i 48 1 41 42,s 1 48 47],r 13 [n 10 O],.block 4 (.loop (S [S [r 14 [m 49 10,f 50 3 8,l 51 50,e 52 51,o 53 .lss 49 52],.cond (.t 53) .skip (.exit 4)],.block 5 (R 16 [m 56 6,m 57 9,m 58 6,m 59 9,a [2,3] (i 60 1 58 59),a [4] (l 61 60),m 62 4,m 63 3,f 64 3 8,a [8] (l 65 64),m 66 10,a [9,10] (i 67 2 65 66),a [11] (f 68 0 67),a [12] (l 69 68),a [7,13] (c 70 127 [63,69]),a [6,14] (i 71 1 62 70),a [15] (l 72 71),a [16] (w 73 (.bin .add (.c I) (.t 72))),a [5,17] (w 74 (.mx true (.t 61) [.t 73])),a [0,1,0,1,2,3,4,5,6,7,8,9,10,11,12,13,14,15,16,17,18] (i 75 1 56 57),a [19,18,14,0,1,2,3,4,5,6,7,8,9,10,11,12,13,14,15,16,17,18] (s 1 75 74)]),r 15 [m 54 10,k 55 .add 54 I,m 10 55]]))]),r 9 [m 30 7,k 31 .add 30 I,m 7 31]]))],r 17 [m 76 6,m 4 76]]),r 5 [m 20 5,k 21 .add 20 I,m 5 21]]))],r 18 [m 77 4,m 2 77],.ret]
def Z99:List RRes:=[.t 2]
def Z9a:PCt prog 97 f97 Z98 Z99:=pcT func97 rfl
def Z9b:RCode :=
 S [r 0 [b 1 0,n 2 O],S [r 1 [L 6 1 1,c 7 96 [6],t 8 7],K 8 2 [n 2 (.int .i64 20)]],r 3 [L 9 1 1,c 10 97 [9],m 3 10],r 4 [n 4 O],S [r 5 [n 5 O],.block 0 (.loop (S [S [r 6 [m 11 5,m 12 3,e 13 12,o 14 .lss 11 13],.cond (.t 14) .skip (.exit 0)],.block 1 (r 8 [m 17 4,m 18 3,m 19 5,i 20 1 18 19,l 21 20,w 22 (.mx true (.t 17) [.t 21]),m 4 22]),r 7 [m 15 5,k 16 .add 15 I,m 5 16]]))],.block 2 (S [r 9 [m 24 4,m 25 3,e 26 25,o 27 .gtr 24 26,m 23 27],.cond (.t 23) (S [r 10 [n 2 (.int .i64 21)],.ret]) (S [r 11 [m 29 4,k 30 .gtr 29 (.int .i64 6),m 28 30],K 28 12 [n 2 (.int .i64 20)]])]),r 13 [n 2 O],.ret]
def Z9c:List RRes:=[.t 2]
def Z9d:PCt prog 75 f75 Z9b Z9c:=pcT func75 rfl
def Z9e:RCode :=
 S [r 0 [b 2 0,b 3 1,w 4 (.alloc [O,O,.int .u8 0,.nils,.nils]),n 5 (.bool false)],S [r 1 [n 6 O],.block 0 (.loop (S [S [r 2 [m 8 6,f 9 0 2,l 10 9,e 11 10,o 12 .lss 8 11],.cond (.t 12) .skip (.exit 0)],.block 1 (S [r 4 [f 15 0 2,l 16 15,m 17 6,i 18 5 16 17,L 19 5 18,w 7 (.alloc [O,O,.int .u8 0,.nils,.nils]),s 5 7 19],r 5 [f 20 0 7,l 21 20,f 22 0 3,l 23 22,o 24 .eql 21 23,m 25 24,g 25 true (f 26 1 7),g 25 true (l 27 26),g 25 true (f 28 1 3),g 25 true (l 29 28),g 25 true (o 30 .eql 27 29),v 31 25 30],K 31 6 [L 32 5 7,s 5 4 32,n 5 (.bool true)]]),r 3 [m 13 6,k 14 .add 13 I,m 6 14]]))],r 7 [w 33 (.build [O,O,.int .u8 0,.nils,.nils] []),s 5 4 33,n 5 (.bool false)],.ret]
def Z9f:List RRes:=[.c 4 true 5,.t 5]
def Z9g:PCt prog 77 f77 Z9e Z9f:=pcT func77 rfl
def Z9h:RCode :=
 S [r 0 [n 4 (.bool false)],S [r 1 [m 6 0,e 7 6,m 8 1,e 9 8,o 10 .neq 7 9],K 10 2 [n 4 (.bool false)]],S [r 3 [n 5 O],.block 0 (.loop (S [S [r 4 [m 11 5,m 12 0,e 13 12,o 14 .lss 11 13],.cond (.t 14) .skip (.exit 0)],.block 1 (S [R 6 [m 17 0,m 18 5,a [0,1] (i 19 1 17 18),a [2] (l 20 19),m 21 1,m 22 5,a [4,5] (i 23 1 21 22),a [6] (l 24 23),a [3,7] (o 25 .neq 20 24)],K 25 7 [n 4 (.bool false)]]),r 5 [m 15 5,k 16 .add 15 I,m 5 16]]))],r 8 [n 4 (.bool true)],.ret]
def Z9i:List RRes:=[.t 4]
def Z9j:PCt prog 11 f11 Z9h Z9i:=pcT func11 rfl
def Z9k:RCode :=
 S [r 0 [n 4 (.bool false)],S [r 1 [m 6 0,e 7 6,m 8 1,e 9 8,o 10 .neq 7 9],K 10 2 [n 4 (.bool false)]],S [r 3 [n 5 O],.block 0 (.loop (S [S [r 4 [m 11 5,m 12 0,e 13 12,o 14 .lss 11 13],.cond (.t 14) .skip (.exit 0)],.block 1 (S [R 6 [m 17 0,m 18 5,a [0,1] (i 19 2 17 18),a [2] (L 20 2 19),m 21 1,m 22 5,a [4,5] (i 23 2 21 22),a [6] (L 24 2 23),a [3,7] (w 25 (.eqs true [.i,.i] (.t 20) (.t 24)))],K 25 7 [n 4 (.bool false)]]),r 5 [m 15 5,k 16 .add 15 I,m 5 16]]))],r 8 [n 4 (.bool true)],.ret]
def Z9l:List RRes:=[.t 4]
def Z9m:PCt prog 99 f99 Z9k Z9l:=pcT func99 rfl
def Z9n:RCode :=
 S [r 0 [b 2 0,b 3 1,n 4 (.bool false)],S [r 1 [f 6 0 2,l 7 6,f 8 0 3,l 9 8,o 10 .neq 7 9,m 11 10,g 11 false (f 12 1 2),g 11 false (l 13 12),g 11 false (f 14 1 3),g 11 false (l 15 14),g 11 false (o 16 .neq 13 15),u 17 11 16,m 18 17,g 18 false (f 19 2 2),g 18 false (l 20 19),g 18 false (f 21 2 3),g 18 false (l 22 21),g 18 false (o 23 .neq 20 22),u 24 18 23,m 25 24,g 25 false (f 26 3 2),g 25 false (l 27 26),g 25 false (f 28 3 3),g 25 false (l 29 28),g 25 false (c 30 99 [27,29]),g 25 false (t 31 30),u 32 25 31,m 33 32,g 33 false (f 34 4 2),g 33 false (l 35 34),g 33 false (e 36 35),g 33 false (f 37 4 3),g 33 false (l 38 37),g 33 false (e 39 38),g 33 false (o 40 .neq 36 39),u 41 33 40],K 41 2 [n 4 (.bool false)]],S [r 3 [n 5 O],.block 0 (.loop (S [S [r 4 [m 42 5,f 43 4 2,l 44 43,e 45 44,o 46 .lss 42 45],.cond (.t 46) .skip (.exit 0)],.block 1 (S [R 6 [f 49 4 2,a [0] (l 50 49),m 51 5,a [1,2] (i 52 3 50 51),a [3] (L 53 3 52),f 54 4 3,a [5] (l 55 54),m 56 5,a [6,7] (i 57 3 55 56),a [8] (L 58 3 57),a [4,9] (w 59 (.eqs true [.i,.i,.i] (.t 53) (.t 58)))],K 59 7 [n 4 (.bool false)]]),r 5 [m 47 5,k 48 .add 47 I,m 5 48]]))],r 8 [n 4 (.bool true)],.ret]
def Z9o:List RRes:=[.t 4]
def Z9p:PCt prog 78 f78 Z9n Z9o:=pcT func78 rfl
def Z9q:RCode :=
 S [r 0 [b 2 0,b 3 1,n 4 (.bool false)],S [r 1 [f 6 0 2,l 7 6,e 8 7,f 9 0 3,l 10 9,e 11 10,o 12 .neq 8 11],K 12 2 [n 4 (.bool false)]],S [r 3 [n 5 O],.block 0 (.loop (S [S [r 4 [m 13 5,f 14 0 2,l 15 14,e 16 15,o 17 .lss 13 16],.cond (.t 17) .skip (.exit 0)],.block 1 (S [R 6 [f 20 0 2,a [0] (l 21 20),m 22 5,a [1,2] (i 23 5 21 22),a [3] (L 24 5 23),f 25 0 3,a [5] (l 26 25),m 27 5,a [6,7] (i 28 5 26 27),a [8] (L 29 5 28),a [4,9] (c 30 78 [24,29]),a [10] (t 31 30)],K 31 7 [n 4 (.bool false)]]),r 5 [m 18 5,k 19 .add 18 I,m 5 19]]))],r 8 [n 4 (.bool true)],.ret]
def Z9r:List RRes:=[.t 4]
def Z9s:PCt prog 63 f63 Z9q Z9r:=pcT func63 rfl
def Z9t:RCode :=
 S [r 0 [b 1 0,w 2 (.alloc [O,O,.int .u8 0,.nils,.nils])],R 1 [w 3 (.bsl true 2 0 [] []),f 4 3 1,a [1] (l 5 4),a [0,2] (w 6 (.app 2 16 (.t 3) (.t 5))),w 7 (.bsl true 3 0 [] []),f 8 4 1,a [5] (l 9 8),a [4,6,3] (w 10 (.app 3 24 (.t 7) (.t 9))),a [0,1,2,3,5,6] (f 11 3 1),a [8,3,7,0,1,2,3,5,6] (s 1 11 6),a [0,1,2,3,4,5,6,7,8,9] (f 12 4 1),a [10,7,9,0,1,2,3,4,5,6,7,8,9] (s 1 12 10)],r 2 [L 13 5 1,s 5 2 13],.ret]
def Z9u:List RRes:=[.c 2 true 5]
def Z9v:PCt prog 64 f64 Z9t Z9u:=pcT func64 rfl
def Z9w:RCode :=
 S [r 0 [b 1 0,w 2 (.alloc [.nils])],r 1 [w 3 (.alloc [.nils])],S [r 2 [n 4 O],.block 0 (.loop (S [S [r 3 [m 5 4,f 6 0 1,l 7 6,e 8 7,o 9 .lss 5 8],.cond (.t 9) .skip (.exit 0)],.block 1 (R 5 [f 12 0 3,a [0] (l 13 12),f 14 0 1,a [2] (l 15 14),m 16 4,a [3,4] (i 17 5 15 16),a [5] (L 18 5 17),a [6] (c 19 64 [18]),a [7] (w 20 (.bsl false 5 1 [O,O,.int .u8 0,.nils,.nils] [(0,.t 19)])),a [1,8,7] (w 21 (.app 5 72 (.t 13) (.t 20))),a [0,1,2,3,4,5,6,7,8,9] (f 22 0 3),a [10,9,9,0,1,2,3,4,5,6,7,8,9] (s 1 22 21)]),r 4 [m 10 4,k 11 .add 10 I,m 4 11]]))],r 6 [L 23 1 3,s 1 2 23],.ret]
def Z9x:List RRes:=[.c 2 true 1]
def Z9y:PCt prog 38 f38 Z9w Z9x:=pcT func38 rfl
def Z9z:RCode :=
 S [r 0 [b 1 0,n 2 (.bool false)],S [r 1 [f 4 0 1,l 5 4,e 6 5,k 7 .gtr 6 (.int .i64 80)],K 7 2 [n 2 (.bool true)]],S [r 3 [n 3 O],.block 0 (.loop (S [S [r 4 [m 8 3,f 9 0 1,l 10 9,e 11 10,o 12 .lss 8 11],.cond (.t 12) .skip (.exit 0)],.block 1 (S [r 6 [f 15 0 1,l 16 15,m 17 3,i 18 5 16 17,f 19 3 18,l 20 19,e 21 20,k 22 .gtr 21 (.int .i64 16),m 23 22,g 23 false (f 24 0 1),g 23 false (l 25 24),g 23 false (m 26 3),g 23 false (i 27 5 25 26),g 23 false (f 28 4 27),g 23 false (l 29 28),g 23 false (e 30 29),g 23 false (k 31 .gtr 30 (.int .i64 8)),u 32 23 31],K 32 7 [n 2 (.bool true)]]),r 5 [m 13 3,k 14 .add 13 I,m 3 14]]))],r 8 [n 2 (.bool false)],.ret]
def Z9A:List RRes:=[.t 2]
def Z9B:PCt prog 37 f37 Z9z Z9A:=pcT func37 rfl
end
def mixed:prog.follows .mixedOrders=true:=by kernel_rfl
def Qga {R:Run} {c:RCode} {F:Exit->St->Prop} {st:St} (h:GO prog R 1000 (.run c) [] F st):AR prog R c st F:=Yb mixed 1000 h
def Qgr {R:Run} {e:Exit} {ks:List KF} {F:Exit->St->Prop} {st:St} (h:GO prog R 1000 (.out e) ks F st):RetP prog R ks F e st:=Z2S mixed 1000 h
def inR (n lo hi:Int):Bool:=decide (lo<=n/\n<=hi)
def Yf {n:Int} (h0:-9223372036854775808<=n:=by omega) (h1:n<=9223372036854775807:=by omega):i64.wrap n=n:=IntWalk.i64_in _ ⟨h0,h1⟩
def RndF (S:Nat->St) (I:Nat->Prop) (i:Nat) (Φ:Exit->St->Prop):Exit->St->Prop
 |.normal,st=>Ym st (S (i+1))/\I (i+1)
 |e,st=>Φ e st
def RndE (Φ:Exit->St->Prop):Exit->St->Prop
 |.normal,_=>False
 |e,st=>Φ e st
section
variable {P:Program} {R:Run} {st:St} {Φ:Exit->St->Prop} {S:Nat->St} {I:Nat->Prop} {i:Nat}
def Z9C:RndF S I i Φ .normal st=(Ym st (S (i+1))/\I (i+1)):=rfl
def Z9D:RndF S I i Φ .ret st=Φ .ret st:=rfl
def Z9E {j:Nat}:RndF S I i Φ (.exit j) st=Φ (.exit j) st:=rfl
def Z9F:RndE Φ .ret st=Φ .ret st:=rfl
def Z9G {j:Nat}:RndE Φ (.exit j) st=Φ (.exit j) st:=rfl
attribute [simp] Z9C Z9D Z9E Z9F Z9G
def Z9H {c:RCode} (S:Nat->St) (I:Nat->Prop) (N:Nat) (h0:Ym st (S 0)) (hi:I 0) (hr:∀ i,i<N->I i->AR P R c (S i) (RndF S I i Φ)) (he:I N->AR P R c (S N) (RndE Φ)):AR P R (.loop c) st Φ:=by
 refine Z1Q S (λi=>i<=N/\I i) (λi=>N-i) 0 h0 ⟨W1f _,hi⟩ ?_;rintro i ⟨h1,h2⟩;by_cases h3:i<N
 . refine Z2I (hr i h3 h2) λe s hs=>?_
   cases e with
   |normal=>exact ⟨i+1,hs.1,⟨by omega,hs.2⟩,by show N-(i+1)<N-i;omega⟩
   |_=>exact hs
 . obtain rfl:i=N:=(by omega);refine Z2I (he h2) λe s hs=>?_
   cases e with
   |normal=>exact hs.elim
   |_=>exact hs
end
structure Iss where
 d:Int
 l:Int
 k:Int
 its:List (Int×Int)
 dms:List Dm
 deriving DecidableEq,Inhabited
def ia (n:Int):List AV:=[.int .i64 n]
def ita (p:Int×Int):List AV:=[.int .i64 p.1,.int .i64 p.2]
def dma (d:Dm):List AV:=[.int .i64 d.n,.int .i64 d.l,.int .i64 d.u]
def isa (x:Iss):List AV:=[.int .i64 x.d,.int .i64 x.l,.int .u8 x.k,.vsl (x.its.map ita),.vsl (x.dms.map dma)]
def rega (r:List Iss):AV:=.agg [.vsl (r.map isa)]
def Sml {α:Type} (l:List α):Prop:=l.length<=16777216
def Z9I (n lo hi:Int):PC prog G 141 [.int .i64 n,.int .i64 lo,.int .i64 hi] (.bool (inR n lo hi)):=by
 (refine Z8P rfl λR hG hrd=>Yb mixed 1000 ?_;subst hG)
 by_cases h1:lo<=n <;> simp -implicitDefEqProofs[Z8N,Z8O,h1,inR]
def Z9J (n l u:Int):PC prog G 139 [.agg [.int .i64 n,.int .i64 l,.int .i64 u]] (.bool (vd ⟨n,l,u⟩)):=by
 (refine Z8S rfl λR hG hrd=>Yb mixed 1000 ?_;subst hG)
 have e:vd ⟨n,l,u⟩=(inR n 0 1000000000&&(inR u 0 1000000000&&inR l 0 u)):=by
  unfold vd inR;rw[<- Bool.decide_and,<- Bool.decide_and];exact decide_eq_decide.2 (by simp only;omega)
 simp -implicitDefEqProofs[Z8Q,Z8R,e];refine Qco (Z9I _ _ _) ?_
 cases h1:inR n 0 1000000000
 . simp -implicitDefEqProofs
 . simp -implicitDefEqProofs;refine Qco (Z9I _ _ _) ?_
   cases h2:inR u 0 1000000000
   . simp -implicitDefEqProofs
   . simp -implicitDefEqProofs;refine Qco (Z9I _ _ _) ?_;simp -implicitDefEqProofs
def Z9K (n lo hi:Int):PC prog G 125 [.int .i64 n,.int .i64 lo,.int .i64 hi] (.bool (inR n lo hi)):=by
 (refine Z8V rfl λR hG hrd=>Yb mixed 1000 ?_;subst hG)
 by_cases h1:lo<=n <;> simp -implicitDefEqProofs[Z8T,Z8U,h1,inR]
def idx (l:List Int) (n:Int):Int:=if n∈l then (l.idxOf n:Int) else -1
def Z9L {l:List Int} {n:Int} {i:Nat} (hi:i<l.length) (he:l[i]=n) (hb:∀ j (h:j<i),l[j]≠n):idx l n=i:=by
 have hm:n∈l:=(by rw[<- he];exact W0e hi);rw[idx,if_pos hm];have h1:l.idxOf n<l.length:=List.idxOf_lt_length_iff.2 hm;have h2:l[l.idxOf n]=n:=List.getElem_idxOf h1;have h3:¬l.idxOf n<i:=λh=>hb _ h h2
 have h4:¬i<l.idxOf n:=λh=>by
  have:=List.not_of_lt_findIdx (p:=(· == n)) h;simp[he]at this
 congr 1;omega
def Z9M {l:List Int} {n:Int} (hb:∀ j (h:j<l.length),l[j]≠n):idx l n = -1:=by
 rw[idx,if_neg];intro hm;obtain ⟨j,h1,h2⟩:=W0k hm;exact hb j h1 h2
def Z9N (l:List Int) (n:Int) (hl:Sml l):PC prog G 127 [.vsl (l.map ia),.int .i64 n] (.int .i64 (idx l n)):=by
 (refine Z94 rfl λR hG hrd=>Yb mixed 1000 ?_;subst hG)
 simp -implicitDefEqProofs[Z92,Z93];refine Z9H (λi=>⟨[(5,.int .i64 i),(0,.vsl (l.map ia)),(1,.int .i64 n)],[]⟩) (λi=>∀ j (h:j<l.length),j<i->l[j]≠n) l.length (by (first|exact Wka|exact Wkb)) (by simp) ?_ ?_
 . intro i hi he;refine Yb mixed 1000 ?_;unfold Sml at hl;have w1:i64.wrap ((i:Int)+1)=((i+1:Nat):Int):=Yf;by_cases h2:l[i]=n
   . simp -implicitDefEqProofs[hi,ia,h2];refine Z2S mixed 1000 ?_;simp -implicitDefEqProofs[Z9L hi h2 (λj h=>he j (by omega) h)]
   . simp -implicitDefEqProofs[hi,ia,h2,w1];refine ⟨(by (first|exact Wka|exact Wkb)),λj h1 h3=>?_⟩;by_cases e:j=i
     . subst e;exact h2
     . exact he j h1 (by omega)
 . intro he;refine Yb mixed 1000 ?_;simp -implicitDefEqProofs;refine Z2S mixed 1000 ?_;simp -implicitDefEqProofs[Z9M (λj h=>he j h h)]
def Z9O (a b:List Int) (ha:Sml a):PC prog G 11 [.vsl (a.map ia),.vsl (b.map ia)] (.bool (decide (a=b))):=by
 (refine Z9j rfl λR hG hrd=>Yb mixed 1000 ?_;subst hG)
 by_cases hl:a.length=b.length
 . have hl':(a.length:Int)=b.length:=(by omega);simp -implicitDefEqProofs[Z9h,Z9i,hl'];refine Z9H (λi=>⟨[(5,.int .i64 i),(0,.vsl (a.map ia)),(1,.vsl (b.map ia))],[]⟩) (λi=>∀ j (h:j<a.length),j<i->a[j]=b[j]) a.length (by (first|exact Wka|exact Wkb)) (by simp) ?_ ?_
   . intro i hi he;refine Yb mixed 1000 ?_;unfold Sml at ha;have hi2:i<b.length:=(by omega);have w1:i64.wrap ((i:Int)+1)=((i+1:Nat):Int):=Yf;by_cases h2:a[i]=b[i]
     . simp -implicitDefEqProofs[hi,hi2,ia,h2,w1];refine ⟨rfl,(by (first|exact Wka|exact Wkb)),λj h1 h3=>?_⟩;by_cases e:j=i
       . subst e;exact h2
       . exact he j h1 (by omega)
     . have h3:¬a=b:=λe=>h2 (by subst e;rfl)
       simp -implicitDefEqProofs[hi,hi2,ia,h2];refine ⟨rfl,?_⟩;refine Z2S mixed 1000 ?_;simp -implicitDefEqProofs[h3]
   . intro he;refine Yb mixed 1000 ?_;have h3:a=b:=W1I hl λj h1 h2=>he j h1 h1
     simp -implicitDefEqProofs;refine Z2S mixed 1000 ?_;simp -implicitDefEqProofs[h3]
 . have hl':¬(a.length:Int)=b.length:=(by omega);have h3:¬a=b:=λe=>hl (by rw[e])
   simp -implicitDefEqProofs[Z9h,Z9i,hl',h3]
abbrev Jr:=List Iss
def nz:AV->AV
 |.nils=>.vsl []
 |.agg xs=>.agg (xs.attach.map λ⟨x,_⟩=>nz x)
 |.tup xs=>.tup (xs.attach.map λ⟨x,_⟩=>nz x)
 |x=>x
def nz_at (xs:List AV):(xs.attach.map λ⟨x,_⟩=>nz x)=xs.map nz:=by
 have h:(xs.attach.map λ⟨x,_⟩=>nz x)=(xs.attach.map Subtype.val).map nz:=(by rw[W10];rfl);rw[h,List.attach_map_subtype_val]
def Z9P (xs:List AV):nz (.agg xs) = .agg (xs.map nz):=by rw[nz,nz_at]
def Z9Q (xs:List AV):nz (.tup xs) = .tup (xs.map nz):=by rw[nz,nz_at]
def PV.nz {M:Nat->Prop} {W:World} {x:AV} {v:Value} (h:PV M W x v):PV M W (nz x) v:=by
 induction h with
 |nils=>simp only[Go.Proofs.YtldibfhbaaadcaaGreatDoor.nz];exact .vsl [] none 0 1 0 0 (λ_ _=>undef) (W0f _) (W1f _) (λh=>absurd rfl h) (λ_=>⟨rfl,rfl⟩) (by simp) (by simp) (by simp)
 | agg xs us h1 hx ih =>
   rw[Z9P];refine .agg _ us (by simpa using h1) λi x u hi hu=>?_
   rw[W09,W04]at hi;obtain ⟨y,hy,rfl⟩:=hi;exact ih i y u hy hu
 | tup xs us h1 hx ih =>
   rw[Z9Q];refine .tup _ us (by simpa using h1) λi x u hi hu=>?_
   rw[W09,W04]at hi;obtain ⟨y,hy,rfl⟩:=hi;exact ih i y u hy hu
 |hole=>simp only[Go.Proofs.YtldibfhbaaadcaaGreatDoor.nz];exact .hole
 |int k n=>simp only[Go.Proofs.YtldibfhbaaadcaaGreatDoor.nz];exact .int k n
 |bool b=>simp only[Go.Proofs.YtldibfhbaaadcaaGreatDoor.nz];exact .bool b
 |abool b=>simp only[Go.Proofs.YtldibfhbaaadcaaGreatDoor.nz];exact .abool b
 |str s=>simp only[Go.Proofs.YtldibfhbaaadcaaGreatDoor.nz];exact .str s
 |nilp=>simp only[Go.Proofs.YtldibfhbaaadcaaGreatDoor.nz];exact .nilp
 |nilm=>simp only[Go.Proofs.YtldibfhbaaadcaaGreatDoor.nz];exact .nilm
 |nilf=>simp only[Go.Proofs.YtldibfhbaaadcaaGreatDoor.nz];exact .nilf
 |nes a c h=>simp only[Go.Proofs.YtldibfhbaaadcaaGreatDoor.nz];exact .nes a c h
 |vptr cells off b o f hb hM hc hr ih=>simp only[Go.Proofs.YtldibfhbaaadcaaGreatDoor.nz];exact .vptr cells off b o f hb hM hc hr
 |vsl rows a cap sz b o f hcap hmax ha hn hs hc hr ih=>simp only[Go.Proofs.YtldibfhbaaadcaaGreatDoor.nz];exact .vsl rows a cap sz b o f hcap hmax ha hn hs hc hr
 |func fn xs ys us vs h1 h2 hx hy ihx ihy=>simp only[Go.Proofs.YtldibfhbaaadcaaGreatDoor.nz];exact .func fn xs ys us vs h1 h2 hx hy
 |vmap kvs b es clock hb hM ho hs hn hk' hv ihk ihv=>simp only[Go.Proofs.YtldibfhbaaadcaaGreatDoor.nz];exact .vmap kvs b es clock hb hM ho hs hn hk' hv
def PC.nzR {P:Program} {G:Jg} {f:FuncId} {args:List AV} {v v':AV} (h:PC P G f args v) (e:nz v=v'):PC P G f args v':=by
 subst e;refine ⟨h.1,λM W vs hM hG hs hv=>(h.2 M W vs hM hG hs hv).mono ?_⟩;rintro e W' ⟨u,h1,h2,h3⟩;exact ⟨u,h1,h2.nz,h3⟩
def Z9R {a b:Int×Int} (h:¬a=b):(!decide (a.1=b.1) || !decide (a.2=b.2))=true:=by
 cases h5:(!decide (a.1=b.1) || !decide (a.2=b.2))
 . simp only[W1T,Bool.not_eq_false',W0b]at h5;exact absurd (Prod.ext h5.1 h5.2) h
 . rfl
def dm_ne {a b:Dm} (h:¬a=b):(!decide (a.n=b.n)||(!decide (a.l=b.l) || !decide (a.u=b.u)))=true:=by
 cases h5:(!decide (a.n=b.n)||(!decide (a.l=b.l) || !decide (a.u=b.u)))
 . simp only[W1T,Bool.not_eq_false',W0b]at h5
   cases a;cases b;simp_all
 . rfl
def Z9S (a b:List (Int×Int)) (ha:Sml a):PC prog G 99 [.vsl (a.map ita),.vsl (b.map ita)] (.bool (decide (a=b))):=by
 (refine Z9m rfl λR hG hrd=>Qga ?_;subst hG)
 by_cases hl:a.length=b.length
 . have hl':(a.length:Int)=b.length:=(by omega);simp -implicitDefEqProofs[Z9k,Z9l,hl'];refine Z9H (λi=>⟨[(5,.int .i64 i),(0,.vsl (a.map ita)),(1,.vsl (b.map ita))],[]⟩) (λi=>∀ j (h:j<a.length),j<i->a[j]=b[j]) a.length (by (first|exact Wka|exact Wkb)) (by simp) ?_ ?_
   . intro i hi he;refine Qga ?_;unfold Sml at ha;have hi2:i<b.length:=(by omega);have w1:i64.wrap ((i:Int)+1)=((i+1:Nat):Int):=Yf;simp -implicitDefEqProofs[hi,hi2,ita];refine ⟨rfl,?_⟩;by_cases h2:a[i]=b[i]
     . simp -implicitDefEqProofs[h2,w1];refine ⟨(by (first|exact Wka|exact Wkb)),λj h1 h3=>?_⟩;by_cases e:j=i
       . subst e;exact h2
       . exact he j h1 (by omega)
     . have h3:¬a=b:=λe=>h2 (by subst e;rfl)
       rw[Z9R h2];simp -implicitDefEqProofs;refine Qgr ?_;simp -implicitDefEqProofs[h3]
   . intro he;refine Qga ?_;have h3:a=b:=W1I hl λj h1 h2=>he j h1 h1
     simp -implicitDefEqProofs;refine Qgr ?_;simp -implicitDefEqProofs[h3]
 . have hl':¬(a.length:Int)=b.length:=(by omega);have h3:¬a=b:=λe=>hl (by rw[e])
   simp -implicitDefEqProofs[Z9k,Z9l,hl',h3]
def Z9T (a b:Iss) (h1:Sml a.its) (h2:Sml a.dms):PC prog G 78 [.agg (isa a),.agg (isa b)] (.bool (decide (a=b))):=by
 (refine Z9p rfl λR hG hrd=>Qga ?_;subst hG)
 by_cases e1:a.d=b.d
 case neg =>
  have e:¬a=b:=λe=>e1 (by rw[e])
  simp -implicitDefEqProofs[Z9n,Z9o,isa,e1,e]
 by_cases e2:a.l=b.l
 case neg =>
  have e:¬a=b:=λe=>e2 (by rw[e])
  simp -implicitDefEqProofs[Z9n,Z9o,isa,e1,e2,e]
 by_cases e3:a.k=b.k
 case neg =>
  have e:¬a=b:=λe=>e3 (by rw[e])
  simp -implicitDefEqProofs[Z9n,Z9o,isa,e1,e2,e3,e]
 simp -implicitDefEqProofs[Z9n,Z9o,isa,e1,e2,e3];refine Qco (Z9S a.its b.its h1) ?_;by_cases e4:a.its=b.its
 case neg =>
  have e:¬a=b:=λe=>e4 (by rw[e])
  simp -implicitDefEqProofs[e4,e]
 by_cases e5:a.dms.length=b.dms.length
 case neg =>
  have e5':¬(a.dms.length:Int)=b.dms.length:=(by omega);have e:¬a=b:=λe=>e5 (by rw[e])
  simp -implicitDefEqProofs[e4,e5',e]
 have e5':(a.dms.length:Int)=b.dms.length:=(by omega);simp -implicitDefEqProofs[e4,e5'];refine Z9H (λi=>⟨[(5,.int .i64 i),(2,.ptr 2 0),(3,.ptr 3 0)],[(2,.box (isa a)),(3,.box (isa b))]⟩) (λi=>∀ j (h:j<a.dms.length),j<i->a.dms[j]=b.dms[j]) a.dms.length (by (first|exact Ym.tm (by simp[lk,isa,e1,e2,e3,e4])|exact Ym.sub (by simp[lk,Ya,AV.keys,isa,e1,e2,e3,e4]) (by simp[lk,Yc,Ya,AV.keys,isa,e1,e2,e3,e4]))) (by simp) ?_ ?_
 . intro i hi he;refine Qga ?_;unfold Sml at h2;have hi2:i<b.dms.length:=(by omega);have w1:i64.wrap ((i:Int)+1)=((i+1:Nat):Int):=Yf;simp -implicitDefEqProofs[hi,hi2,isa,dma];refine ⟨rfl,?_⟩;by_cases h2:a.dms[i]=b.dms[i]
   . simp -implicitDefEqProofs[h2,w1];refine ⟨(by (first|exact Ym.tm (by simp[lk,isa,dma])|exact Ym.sub (by simp[lk,Ya,AV.keys,isa,dma]) (by simp[lk,Yc,Ya,AV.keys,isa,dma]))),λj h1 h3=>?_⟩;by_cases e:j=i
     . subst e;exact h2
     . exact he j h1 (by omega)
   . have h3:¬a=b:=λe=>h2 (by subst e;rfl)
     rw[dm_ne h2];simp -implicitDefEqProofs;refine Qgr ?_;simp -implicitDefEqProofs[h3]
 . intro he;refine Qga ?_;have h3:a.dms=b.dms:=W1I e5 λj h1 h2=>he j h1 h1
   have h4:a=b:=(by cases a;cases b;simp_all);simp -implicitDefEqProofs[isa];refine Qgr ?_;simp -implicitDefEqProofs[h4]
def SmlR (r:Jr):Prop:=Sml r/\∀ x∈r,Sml x.its/\Sml x.dms
def Z9U (a b:Jr) (ha:SmlR a):PC prog G 63 [rega a,rega b] (.bool (decide (a=b))):=by
 (refine Z9s rfl λR hG hrd=>Qga ?_;subst hG)
 by_cases hl:a.length=b.length
 . have hl':(a.length:Int)=b.length:=(by omega);simp -implicitDefEqProofs[Z9q,Z9r,hl',rega];refine Z9H (λi=>⟨[(5,.int .i64 i),(2,.ptr 2 0),(3,.ptr 3 0)],[(2,.box [.vsl (a.map isa)]),(3,.box [.vsl (b.map isa)])]⟩) (λi=>∀ j (h:j<a.length),j<i->a[j]=b[j]) a.length (by (first|exact Wka|exact Wkb)) (by simp) ?_ ?_
   . intro i hi he;refine Qga ?_;have hs:=ha.1;unfold Sml at hs;have hi2:i<b.length:=(by omega);have w1:i64.wrap ((i:Int)+1)=((i+1:Nat):Int):=Yf;have hx:=ha.2 a[i] (W0e hi);simp -implicitDefEqProofs[hi,hi2,isa];refine Qco (Z9T a[i] b[i] hx.1 hx.2) ?_;simp -implicitDefEqProofs;refine ⟨rfl,?_⟩;by_cases h2:a[i]=b[i]
     . simp -implicitDefEqProofs[h2,w1];refine ⟨(by (first|exact Wka|exact Wkb)),λj h1 h3=>?_⟩;by_cases e:j=i
       . subst e;exact h2
       . exact he j h1 (by omega)
     . have h3:¬a=b:=λe=>h2 (by subst e;rfl)
       simp -implicitDefEqProofs[h2];refine Qgr ?_;simp -implicitDefEqProofs[h3]
   . intro he;refine Qga ?_;have h3:a=b:=W1I hl λj h1 h2=>he j h1 h1
     simp -implicitDefEqProofs;refine Qgr ?_;simp -implicitDefEqProofs[h3]
 . have hl':¬(a.length:Int)=b.length:=(by omega);have h3:¬a=b:=λe=>hl (by rw[e])
   simp -implicitDefEqProofs[Z9q,Z9r,hl',h3,rega]
def at' (r:Jr) (i:Nat):Iss:=r.getD i default
def at_eq {r:Jr} {i:Nat} (h:i<r.length):at' r i=r[i]:=by simp[at',List.getD,h]
def newB (r:Jr) (i:Nat):Bool:=i == 0 || !decide ((at' r (i-1)).d=(at' r i).d)
def numsN (r:Jr):Nat->List Int
 |0=>[]
 |i+1=>if newB r i=true then numsN r i++[(at' r i).d] else numsN r i
def nums (r:Jr):List Int:=numsN r r.length
def Z9V (r:Jr):∀ i,(numsN r i).length<=i
 |0=>by simp[numsN]
 | i+1=>by
   have:=Z9V r i;simp only[numsN]
   split
   . simp;omega
   . omega
def lastN (r:Jr) (n:Int):Nat->Int
 |0=>0
 |i+1=>if (at' r i).d=n then max (lastN r n i) (at' r i).l else lastN r n i
def lastV (r:Jr) (n:Int):Int:=lastN r n r.length
def findN (d l:Int):List Iss->Option Iss
 |[]=>none
 |x::r=>if x.d=d/\x.l=l then some x else findN d l r
def noIs:AV:=.agg [.int .i64 0,.int .i64 0,.int .u8 0,.nils,.nils]
def fndA:Option Iss->AV
 |some x=>.tup [.agg (isa x),.bool true]
 |none=>.tup [noIs,.bool false]
def Z9W (r:Jr):Bool:=decide (80<r.length)||r.any λx=>decide (16<x.its.length)||decide (8<x.dms.length)
def Z9X {d l:Int}:∀ {r:Jr} {i:Nat} (h:i<r.length),r[i].d=d->r[i].l=l->(∀ j (h:j<r.length),j<i->¬(r[j].d=d/\r[j].l=l))->findN d l r=some r[i]
 |x::r,0,h,h1,h2,_=>by simp only[findN];rw[if_pos ⟨h1,h2⟩];rfl
 | x::r,i+1,h,h1,h2,hb=>by
   simp only[findN];rw[if_neg (show ¬(x.d=d/\x.l=l) from hb 0 (by simp) (by omega))];exact Z9X (by simpa using h) h1 h2 λj hj hi=>hb (j+1) (by simpa using hj) (by omega)
def Z9Y {d l:Int}:∀ {r:Jr},(∀ j (h:j<r.length),¬(r[j].d=d/\r[j].l=l))->findN d l r=none
 |[],_=>rfl
 | x::r,hb=>by
   simp only[findN];rw[if_neg (show ¬(x.d=d/\x.l=l) from hb 0 (by simp))];exact Z9Y λj hj=>hb (j+1) (by simpa using hj)
def Z9Z (x:Iss) (h1:Sml x.its) (h2:Sml x.dms):PC prog G 64 [.agg (isa x)] (.agg (isa x)):=by
 (refine Z9v rfl λR hG hrd=>Qga ?_;subst hG)
 unfold Sml at h1 h2;have b1:x.its.length*16<=70368744177664:=(by omega);have b2:x.dms.length*24<=70368744177664:=(by omega);have k1:(x.its.map ita).all (λr=>r.length == 2)=true:=(by simp[ita]);have k2:(x.its.map ita).all (λr=>r.all AV.one)=true:=(by simp[ita,AV.one]);have k3:(x.dms.map dma).all (λr=>r.length == 3)=true:=(by simp[dma]);have k4:(x.dms.map dma).all (λr=>r.all AV.one)=true:=(by simp[dma,AV.one]);have k5:(x.its.map ita).all (λr=>r.all AV.pure)=true:=(by simp[ita,AV.pure]);have k6:(x.dms.map dma).all (λr=>r.all AV.pure)=true:=(by simp[dma,AV.pure]);by_cases e1:x.its=[] <;> by_cases e2:x.dms=[]
 . simp -implicitDefEqProofs[Z9t,Z9u,isa,e1,e2]
   try rfl
 . simp -implicitDefEqProofs[Z9t,Z9u,isa,e1,e2,b2,k3,k4,k6]
   try rfl
 . simp -implicitDefEqProofs[Z9t,Z9u,isa,e1,e2,b1,k1,k2,k5]
   try rfl
 . simp -implicitDefEqProofs[Z9t,Z9u,isa,e1,e2,b1,b2,k1,k2,k3,k4,k5,k6]
   try rfl
def Za0 (r:Jr) (h:Sml r):PC prog G 37 [rega r] (.bool (Z9W r)):=by
 (refine Z9B rfl λR hG hrd=>Qga ?_;subst hG)
 unfold Sml at h;by_cases h1:80<r.length
 . have h1':(80:Int)<r.length:=(by omega);simp -implicitDefEqProofs[Z9z,Z9A,rega,h1',Z9W,h1]
 have h1':¬(80:Int)<r.length:=(by omega);simp -implicitDefEqProofs[Z9z,Z9A,rega,h1'];refine Z9H (λi=>⟨[(3,.int .i64 i),(1,.ptr 1 0)],[(1,.box [.vsl (r.map isa)])]⟩) (λi=>∀ j (h:j<r.length),j<i->r[j].its.length<=16/\r[j].dms.length<=8) r.length (by (first|exact Wka|exact Wkb)) (by simp) ?_ ?_
 . intro i hi he;refine Qga ?_;have w1:i64.wrap ((i:Int)+1)=((i+1:Nat):Int):=Yf
   have bad:(16<r[i].its.length∨8<r[i].dms.length)->Z9W r=true:=λhb=>by
    simp only[Z9W,W0T,W14,W0b];exact .inr ⟨r[i],W0e hi,hb⟩
   by_cases h2:16<r[i].its.length
   . have h2':(16:Int)<r[i].its.length:=(by omega);simp -implicitDefEqProofs[hi,isa,h2'];refine Qgr ?_;simp -implicitDefEqProofs[bad (.inl h2)]
   have h2':¬(16:Int)<r[i].its.length:=(by omega);by_cases h3:8<r[i].dms.length
   . have h3':(8:Int)<r[i].dms.length:=(by omega);simp -implicitDefEqProofs[hi,isa,h2',h3'];refine Qgr ?_;simp -implicitDefEqProofs[bad (.inr h3)]
   have h3':¬(8:Int)<r[i].dms.length:=(by omega);simp -implicitDefEqProofs[hi,isa,h2',h3',w1];refine ⟨(by (first|exact Wka|exact Wkb)),λj q1 q3=>?_⟩;by_cases e:j=i
   . subst e;exact ⟨by omega,by omega⟩
   . exact he j q1 (by omega)
 . intro he;refine Qga ?_
   have hg:Z9W r=false:=by
    simp only[Z9W,W1T,W1b,h1,not_false_eq_true,true_and,W25,Bool.not_eq_true,W0T,W0b];intro x hx;obtain ⟨j,hj,rfl⟩:=W0k hx;have:=he j hj hj;omega
   simp -implicitDefEqProofs;refine Qgr ?_;simp -implicitDefEqProofs[hg]
def Za1 (r:Jr) (d l:Int) (h:Sml r):PC prog G 77 [rega r,.agg [.int .i64 d,.int .i64 l]] (fndA (findN d l r)):=by
 (refine Z9g rfl λR hG hrd=>Qga ?_;subst hG)
 unfold Sml at h;simp -implicitDefEqProofs[Z9e,Z9f,rega];refine Z9H (λi=>⟨[(6,.int .i64 i),(2,.ptr 2 0),(3,.ptr 3 0),(4,.ptr 4 0)],[(2,.box [.vsl (r.map isa)]),(3,.box [.int .i64 d,.int .i64 l]),(4,.box [.int .i64 0,.int .i64 0,.int .u8 0,.nils,.nils])]⟩) (λi=>∀ j (h:j<r.length),j<i->¬(r[j].d=d/\r[j].l=l)) r.length (by (first|exact Wka|exact Wkb)) (by simp) ?_ ?_
 . intro i hi he;refine Qga ?_;have w1:i64.wrap ((i:Int)+1)=((i+1:Nat):Int):=Yf
   have go:¬(r[i].d=d/\r[i].l=l)->∀ j (h:j<r.length),j<i+1->¬(r[j].d=d/\r[j].l=l):=λhb j q1 q2=>by
    by_cases e:j=i
    . subst e;exact hb
    . exact he j q1 (by omega)
   by_cases h2:r[i].d=d
   . by_cases h3:r[i].l=l
     . simp -implicitDefEqProofs[hi,isa,h2,h3];refine Qgr ?_;simp -implicitDefEqProofs[Z9X hi h2 h3 he,fndA,isa,h2,h3]
     . simp -implicitDefEqProofs[hi,isa,h2,h3,w1];exact ⟨(by (first|exact Wka|exact Wkb)),λj q1 q2 q3 q4=>go (λe=>h3 e.2) j q1 q2 ⟨q3,q4⟩⟩
   . simp -implicitDefEqProofs[hi,isa,h2,w1];exact ⟨(by (first|exact Wka|exact Wkb)),λj q1 q2 q3 q4=>go (λe=>h2 e.1) j q1 q2 ⟨q3,q4⟩⟩
 . intro he;refine Qga ?_;simp -implicitDefEqProofs;refine Qgr ?_;simp -implicitDefEqProofs[Z9Y (λj hj=>he j hj hj),fndA,noIs]
def itAt (x:Iss) (i:Nat):Int×Int:=x.its.getD i (0,0)
def itOk (x:Iss) (i:Nat):Bool:=inR (itAt x i).1 1 9999&&inR (itAt x i).2 1 20 && !decide ((itAt x i).1=x.d)&&(i == 0||decide ((itAt x (i-1)).1<(itAt x i).1))
def headB (x:Iss):Bool:=inR x.d 1 9999&&inR x.l 1 8&&inR x.k 1 3&&(if x.k=1 then inR x.its.length 1 8&&decide (x.dms.length=0) else decide (x.dms.length<=4)&&decide (x.its.length=0))
def issB (x:Iss):Bool:=headB x&&(List.range x.its.length).all (itOk x)&&x.dms.all vd
def Za2 {n:Nat} {p:Nat->Bool}:(List.range n).all p=true↔∀ j,j<n->p j=true:=by simp[W03]
def nuS (r:Jr):Nat->St
 |0=>⟨[(4,.int .i64 0),(3,.nils),(1,.ptr 1 0)],[(1,.box [.vsl (r.map isa)])]⟩
 |i+1=>⟨[(4,.int .i64 (i+1:Nat)),(3,.osl 35 (numsN r (i+1)).length),(1,.ptr 1 0)],[(1,.box [.vsl (r.map isa)]),(35,.row 1 ((numsN r (i+1)).map ia))]⟩
def Za3 (r:Jr) (h:Sml r) (h0:r≠[]):PC prog G 26 [rega r] (.vsl ((nums r).map ia)):=by
 (refine Z91 rfl λR hG hrd=>Qga ?_;subst hG)
 unfold Sml at h;simp -implicitDefEqProofs[Z8Z,Z90,rega];refine Z9H (nuS r) (λ_=>True) r.length (by simp only[nuS];(first|exact Wka|exact Wkb)) trivial ?_ ?_
 . intro i hi he;refine Qga ?_;have e1:=at_eq hi
   cases i with
   | zero =>
     have hn:numsN r 1=[r[0].d]:=(by simp[numsN,newB,e1]);have w1:i64.wrap 1=1:=rfl;simp -implicitDefEqProofs[nuS,hi,isa,w1];exact Ym.sub (by simp[lk,Ya,AV.keys,hn]) (by simp[lk,Yc,Ya,AV.keys,hn,ia])
   | succ i =>
     have w1:i64.wrap ((i:Int)+1+1)=(i:Int)+1+1:=Yf;have w2:i64.wrap (i:Int)=(i:Int):=Yf;have k1:(i:Int)+1<r.length:=(by omega);have k2:((i:Int)+1).toNat=i+1:=(by omega);have k3:(0:Int)<=(i:Int)+1:=(by omega);have k4:¬(i:Int)+1=0:=(by omega);have hi2:i<r.length:=(by omega);have e2:=at_eq hi2;have b1:=Z9V r (i+1);have b2:((numsN r (i+1)).length+1)*8<=70368744177664:=(by omega);by_cases h2:r[i].d=r[i+1].d
     . have hn:numsN r (i+1+1)=numsN r (i+1):=(by rw[numsN];simp[newB,e1,e2,h2]);simp -implicitDefEqProofs[nuS,hi,hi2,k1,k2,k3,k4,isa,w1,w2,h2];exact Ym.sub (by simp[lk,Ya,AV.keys,hn]) (by simp[lk,Yc,Ya,AV.keys,hn,ia])
     . have hn:numsN r (i+1+1)=numsN r (i+1)++[r[i+1].d]:=(by rw[numsN];simp[newB,e1,e2,h2]);simp -implicitDefEqProofs[nuS,hi,hi2,k1,k2,k3,k4,isa,w1,w2,h2,b2];exact Ym.sub (by simp[lk,Ya,AV.keys,hn]) (by simp[lk,Yc,Ya,AV.keys,hn,ia])
 . intro he;refine Qga ?_
   obtain ⟨n,hn⟩ : ∃ n,r.length=n+1:=⟨r.length-1,by
    have:r.length≠0:=(by simpa using h0);omega⟩
   have e:numsN r (n+1)=nums r:=(by rw[nums,hn]);have pu:((nums r).map ia).all (λx=>x.all AV.pure)=true:=(by simp[ia,AV.pure]);rw[hn];have k1:¬(n:Int)+1<n+1:=(by omega);simp -implicitDefEqProofs[nuS,e,hn,k1];refine Qgr ?_;simp -implicitDefEqProofs[pu]
def Za4 (x:Iss) (h1:Sml x.its) (h2:Sml x.dms) (hk:0<=x.k/\x.k<=255):PC prog G 126 [.agg (isa x)] (.bool (issB x)):=by
 (refine Z8Y rfl λR hG hrd=>Qga ?_;subst hG)
 unfold Sml at h1 h2;have wk:i64.wrap x.k=x.k:=Yf;have bad:headB x=false->issB x=false:=λe=>by simp[issB,e]
 simp -implicitDefEqProofs[Z8W,Z8X,isa];refine Qco (Z9K _ _ _) ?_
 cases q1:inR x.d 1 9999
 . simp -implicitDefEqProofs[bad (by simp[headB,q1])]
 simp -implicitDefEqProofs;refine Qco (Z9K _ _ _) ?_
 cases q2:inR x.l 1 8
 . simp -implicitDefEqProofs[bad (by simp[headB,q2])]
 simp -implicitDefEqProofs[wk];refine Qco (Z9K _ _ _) ?_
 cases q3:inR x.k 1 3
 . simp -implicitDefEqProofs[bad (by simp[headB,q3])]
 have q3':1<=x.k/\x.k<=3:=W0X q3;by_cases c1:x.k=1
 . simp -implicitDefEqProofs [c1];refine Qco (Z9K _ _ _) ?_
   cases q4:inR x.its.length 1 8
   . simp -implicitDefEqProofs[bad (by simp[headB,q4,c1])]
   have n1:¬(1:Int)<1:=(by omega);by_cases q5:x.dms.length=0
   . have q5n : ¬0<x.dms.length:=(by omega);have hB:headB x=true:=(by simp[headB,q1,q2,c1,q4,q5];rfl);simp -implicitDefEqProofs[q5n,q5];refine Z9H (λi=>⟨[(3,.int .i64 i),(1,.ptr 1 0)],[(1,.box (isa x))]⟩) (λi=>∀ j,j<i->itOk x j=true) x.its.length (by (first|exact Ym.tm (by simp[lk,isa,c1])|exact Ym.sub (by simp[lk,Ya,AV.keys,isa,c1]) (by simp[lk,Yc,Ya,AV.keys,isa,c1]))) (by simp) ?_ ?_
     . intro i hi he;refine Qga ?_;have w1:i64.wrap ((i:Int)+1)=((i+1:Nat):Int):=Yf;have a1:itAt x i=x.its[i]:=by simp[itAt,List.getD,hi]
       have no:itOk x i=false->issB x=false:=λe=>by
        cases hI:issB x
        . rfl
        . simp only[issB,W01]at hI;rw[Za2.1 hI.1.2 i hi]at e;cases e
       simp -implicitDefEqProofs[hi,isa,ita];refine Qco (Z9K _ _ _) ?_
       cases p1:inR x.its[i].1 1 9999
       . simp -implicitDefEqProofs;refine ⟨rfl,?_⟩;refine Qgr ?_;simp -implicitDefEqProofs[no (by simp[itOk,a1,p1])]
       simp -implicitDefEqProofs;refine Qco (Z9K _ _ _) ?_
       cases p2:inR x.its[i].2 1 20
       . simp -implicitDefEqProofs;refine ⟨rfl,?_⟩;refine Qgr ?_;simp -implicitDefEqProofs[no (by simp[itOk,a1,p2])]
       by_cases p3:x.its[i].1=x.d
       . simp -implicitDefEqProofs[p3];refine ⟨rfl,?_⟩;refine Qgr ?_;simp -implicitDefEqProofs[no (by simp[itOk,a1,p3])]
       cases i with
       | zero =>
         have ok:itOk x 0=true:=(by simp[itOk,a1,p1,p2,p3]);have w0:i64.wrap 1=1:=rfl;simp -implicitDefEqProofs[p3,w0];exact ⟨rfl,(by (first|exact Ym.tm (by simp[lk,isa])|exact Ym.sub (by simp[lk,Ya,AV.keys,isa]) (by simp[lk,Yc,Ya,AV.keys,isa]))),ok⟩
       | succ i =>
         have w2:i64.wrap (i:Int)=(i:Int):=Yf;have w3:i64.wrap ((i:Int)+1+1)=(i:Int)+1+1:=Yf;have k3:(0:Int)<(i:Int)+1:=(by omega);have hi2:i<x.its.length:=(by omega);have a2:itAt x i=x.its[i]:=(by simp[itAt,List.getD,hi2]);by_cases p4:x.its[i+1].1<=x.its[i].1
         . simp -implicitDefEqProofs[p3,k3,w2,hi2,ita,p4];refine ⟨rfl,?_⟩;refine Qgr ?_;simp -implicitDefEqProofs[no (by simp[itOk,a1,a2,p4])]
         . have ok:itOk x (i+1)=true:=(by simp[itOk,a1,a2,p1,p2,p3];omega);simp -implicitDefEqProofs[p3,k3,w2,w3,hi2,ita,p4];refine ⟨rfl,(by (first|exact Ym.tm (by simp[lk,isa])|exact Ym.sub (by simp[lk,Ya,AV.keys,isa]) (by simp[lk,Yc,Ya,AV.keys,isa]))),λj hj=>?_⟩;by_cases e:j=i+1
           . subst e;exact ok
           . exact he j (by omega)
     . intro he;refine Qga ?_;have hI:(List.range x.its.length).all (itOk x)=true:=Za2.2 he;simp -implicitDefEqProofs[isa];refine Qgr ?_;simp -implicitDefEqProofs;refine Z9H (λi=>⟨[(5,.int .i64 i),(1,.ptr 1 0)],[(1,.box (isa x))]⟩) (λi=>∀ j (h:j<x.dms.length),j<i->vd x.dms[j]=true) x.dms.length (by (first|exact Ym.tm (by simp[lk,isa])|exact Ym.sub (by simp[lk,Ya,AV.keys,isa]) (by simp[lk,Yc,Ya,AV.keys,isa]))) (by simp) ?_ ?_
       . intro i hi he;refine Qga ?_;have w1:i64.wrap ((i:Int)+1)=((i+1:Nat):Int):=Yf;simp -implicitDefEqProofs[hi,isa,dma];refine Qco (Z9J _ _ _) ?_
         cases p1:vd x.dms[i]
         . have hn:issB x=false:=by
            cases hI2:issB x
            . rfl
            . simp only[issB,W01]at hI2;rw[W03.1 hI2.2 _ (W0e hi)]at p1;cases p1
           have p1':vd ⟨x.dms[i].n,x.dms[i].l,x.dms[i].u⟩=false:=p1;simp -implicitDefEqProofs[p1'];refine Qgr ?_;simp -implicitDefEqProofs[hn]
         . have p1':vd ⟨x.dms[i].n,x.dms[i].l,x.dms[i].u⟩=true:=p1;simp -implicitDefEqProofs[p1',w1];refine ⟨(by (first|exact Ym.tm (by simp[lk,isa])|exact Ym.sub (by simp[lk,Ya,AV.keys,isa]) (by simp[lk,Yc,Ya,AV.keys,isa]))),λj h1 hj=>?_⟩;by_cases e:j=i
           . subst e;exact p1
           . exact he j h1 (by omega)
       . intro hd;refine Qga ?_
         have hD:x.dms.all vd=true:=W03.2 λy hy=>by
          obtain ⟨j,hj,rfl⟩:=W0k hy;exact hd j hj hj
         have hT:issB x=true:=(by simp[issB,hB,hI,hD]);simp -implicitDefEqProofs[isa];refine Qgr ?_;simp -implicitDefEqProofs[hT]
   . have q5n:0<x.dms.length:=(by omega);simp -implicitDefEqProofs[q5n,bad (by simp[headB,q5,c1])]
 . have c2 : 1<x.k:=(by omega);by_cases q4:x.dms.length<=4
   case neg =>
    have q4n:4<x.dms.length:=(by omega);have q4i:(4:Int)<x.dms.length:=(by omega);simp -implicitDefEqProofs[c1,c2,q4n,q4i,bad (by simp[headB,q4,c1])]
   have q4n:¬4<x.dms.length:=(by omega);have q4i:¬(4:Int)<x.dms.length:=(by omega);by_cases q5:x.its.length=0
   . have q5n : ¬0<x.its.length:=(by omega);have hB:headB x=true:=(by simp[headB,q1,q2,q3,c1,q4,q5]);simp -implicitDefEqProofs[c1,c2,q4n,q4i,q5n,q5];refine Z9H (λi=>⟨[(3,.int .i64 i),(1,.ptr 1 0)],[(1,.box (isa x))]⟩) (λi=>∀ j,j<i->itOk x j=true) x.its.length (by (first|exact Ym.tm (by simp[lk,isa,c1])|exact Ym.sub (by simp[lk,Ya,AV.keys,isa,c1]) (by simp[lk,Yc,Ya,AV.keys,isa,c1]))) (by simp) ?_ ?_
     . intro i hi he;refine Qga ?_;have w1:i64.wrap ((i:Int)+1)=((i+1:Nat):Int):=Yf;have a1:itAt x i=x.its[i]:=by simp[itAt,List.getD,hi]
       have no:itOk x i=false->issB x=false:=λe=>by
        cases hI:issB x
        . rfl
        . simp only[issB,W01]at hI;rw[Za2.1 hI.1.2 i hi]at e;cases e
       simp -implicitDefEqProofs[hi,isa,ita];refine Qco (Z9K _ _ _) ?_
       cases p1:inR x.its[i].1 1 9999
       . simp -implicitDefEqProofs;refine ⟨rfl,?_⟩;refine Qgr ?_;simp -implicitDefEqProofs[no (by simp[itOk,a1,p1])]
       simp -implicitDefEqProofs;refine Qco (Z9K _ _ _) ?_
       cases p2:inR x.its[i].2 1 20
       . simp -implicitDefEqProofs;refine ⟨rfl,?_⟩;refine Qgr ?_;simp -implicitDefEqProofs[no (by simp[itOk,a1,p2])]
       by_cases p3:x.its[i].1=x.d
       . simp -implicitDefEqProofs[p3];refine ⟨rfl,?_⟩;refine Qgr ?_;simp -implicitDefEqProofs[no (by simp[itOk,a1,p3])]
       cases i with
       | zero =>
         have ok:itOk x 0=true:=(by simp[itOk,a1,p1,p2,p3]);have w0:i64.wrap 1=1:=rfl;simp -implicitDefEqProofs[p3,w0];exact ⟨rfl,(by (first|exact Ym.tm (by simp[lk,isa])|exact Ym.sub (by simp[lk,Ya,AV.keys,isa]) (by simp[lk,Yc,Ya,AV.keys,isa]))),ok⟩
       | succ i =>
         have w2:i64.wrap (i:Int)=(i:Int):=Yf;have w3:i64.wrap ((i:Int)+1+1)=(i:Int)+1+1:=Yf;have k3:(0:Int)<(i:Int)+1:=(by omega);have hi2:i<x.its.length:=(by omega);have a2:itAt x i=x.its[i]:=(by simp[itAt,List.getD,hi2]);by_cases p4:x.its[i+1].1<=x.its[i].1
         . simp -implicitDefEqProofs[p3,k3,w2,hi2,ita,p4];refine ⟨rfl,?_⟩;refine Qgr ?_;simp -implicitDefEqProofs[no (by simp[itOk,a1,a2,p4])]
         . have ok:itOk x (i+1)=true:=(by simp[itOk,a1,a2,p1,p2,p3];omega);simp -implicitDefEqProofs[p3,k3,w2,w3,hi2,ita,p4];refine ⟨rfl,(by (first|exact Ym.tm (by simp[lk,isa])|exact Ym.sub (by simp[lk,Ya,AV.keys,isa]) (by simp[lk,Yc,Ya,AV.keys,isa]))),λj hj=>?_⟩;by_cases e:j=i+1
           . subst e;exact ok
           . exact he j (by omega)
     . intro he;refine Qga ?_;have hI:(List.range x.its.length).all (itOk x)=true:=Za2.2 he;simp -implicitDefEqProofs[isa];refine Qgr ?_;simp -implicitDefEqProofs;refine Z9H (λi=>⟨[(5,.int .i64 i),(1,.ptr 1 0)],[(1,.box (isa x))]⟩) (λi=>∀ j (h:j<x.dms.length),j<i->vd x.dms[j]=true) x.dms.length (by (first|exact Ym.tm (by simp[lk,isa])|exact Ym.sub (by simp[lk,Ya,AV.keys,isa]) (by simp[lk,Yc,Ya,AV.keys,isa]))) (by simp) ?_ ?_
       . intro i hi he;refine Qga ?_;have w1:i64.wrap ((i:Int)+1)=((i+1:Nat):Int):=Yf;simp -implicitDefEqProofs[hi,isa,dma];refine Qco (Z9J _ _ _) ?_
         cases p1:vd x.dms[i]
         . have hn:issB x=false:=by
            cases hI2:issB x
            . rfl
            . simp only[issB,W01]at hI2;rw[W03.1 hI2.2 _ (W0e hi)]at p1;cases p1
           have p1':vd ⟨x.dms[i].n,x.dms[i].l,x.dms[i].u⟩=false:=p1;simp -implicitDefEqProofs[p1'];refine Qgr ?_;simp -implicitDefEqProofs[hn]
         . have p1':vd ⟨x.dms[i].n,x.dms[i].l,x.dms[i].u⟩=true:=p1;simp -implicitDefEqProofs[p1',w1];refine ⟨(by (first|exact Ym.tm (by simp[lk,isa])|exact Ym.sub (by simp[lk,Ya,AV.keys,isa]) (by simp[lk,Yc,Ya,AV.keys,isa]))),λj h1 hj=>?_⟩;by_cases e:j=i
           . subst e;exact p1
           . exact he j h1 (by omega)
       . intro hd;refine Qga ?_
         have hD:x.dms.all vd=true:=W03.2 λy hy=>by
          obtain ⟨j,hj,rfl⟩:=W0k hy;exact hd j hj hj
         have hT:issB x=true:=(by simp[issB,hB,hI,hD]);simp -implicitDefEqProofs[isa];refine Qgr ?_;simp -implicitDefEqProofs[hT]
   . have q5n:0<x.its.length:=(by omega);simp -implicitDefEqProofs[c1,c2,q4n,q4i,q5n,bad (by simp[headB,q5,c1])]
def Wf (r:Jr):Prop:=SmlR r/\∀ x∈r,0<=x.k/\x.k<=255
def ordB (r:Jr):Nat->Bool
 |0=>decide ((at' r 0).l=1)
 | i+1=>if (at' r (i+1)).d<(at' r i).d then false else if (at' r i).d<(at' r (i+1)).d then decide ((at' r (i+1)).l=1)
   else decide ((at' r (i+1)).l=(at' r i).l+1)&&decide ((at' r (i+1)).k=(at' r i).k)
def inB (r:Jr):Bool:=r.all λx=>x.its.all λy=>decide (y.1∈nums r)
def ItsIn (r:Jr) (x:Iss):Prop:=∀ y∈x.its,y.1∈nums r
def Za5 (r:Jr):Bool:=inR r.length 1 60&&r.all issB&&(List.range r.length).all (ordB r)&&inB r&&decide ((nums r).length<=20)
def Za6 {r:Jr} {i:Nat} (h:i<r.length) (e:issB r[i]=false):Za5 r=false:=by
 cases hI:Za5 r
 . rfl
 . simp only[Za5,W01]at hI;rw[W03.1 hI.1.1.1.2 _ (W0e h)]at e;cases e
def Za7 {r:Jr} {i:Nat} (h:i<r.length) (e:ordB r i=false):Za5 r=false:=by
 cases hI:Za5 r
 . rfl
 . simp only[Za5,W01]at hI;rw[Za2.1 hI.1.1.2 i h]at e;cases e
def Za8 {r:Jr} {i k:Nat} (h:i<r.length) (hk:k<r[i].its.length) (e:r[i].its[k].1 ∉ nums r):Za5 r=false:=by
 cases hI:Za5 r
 . rfl
 . simp only[Za5,W01,inB]at hI;have:=W03.1 (W03.1 hI.1.2 _ (W0e h)) _ (W0e hk);exact absurd (W0X this) e
def Za9 {l:List Int} {n:Int}:idx l n<0↔n ∉ l:=by
 unfold idx
 split
 . rename_i h;simp[h]
 . rename_i h;simp[h]
def Zaa {l:List Int} {n:Int} (h:n∈l):∃ i:Nat,idx l n=i/\i<l.length/\l[i]? = some n:=by
 refine ⟨l.idxOf n,by rw[idx,if_pos h],List.idxOf_lt_length_iff.2 h,?_⟩;have h1:l.idxOf n<l.length:=List.idxOf_lt_length_iff.2 h;rw[W07 h1,List.getElem_idxOf h1]
def Zab (r:Jr):(nums r).length<=r.length:=Z9V r _
def Zac (r:Jr) (h:Wf r):PC prog G 96 [rega r] (.bool (Za5 r)):=by
 (refine Z97 rfl λR hG hrd=>Qga ?_;subst hG)
 have hs:=h.1.1;unfold Sml at hs;simp -implicitDefEqProofs[Z95,Z96,rega];refine Qco (Z9K _ _ _) ?_
 cases q1:inR r.length 1 60
 . simp -implicitDefEqProofs[show Za5 r=false by simp[Za5,q1]]
 have q1':1<=r.length/\r.length<=60:=by
  have:=W0X q1;omega
 have hne:r≠[]:=(by intro e;subst e;simp at q1');simp -implicitDefEqProofs;refine Z9H (λi=>⟨[(3,.int .i64 i),(1,.ptr 1 0)],[(1,.box [.vsl (r.map isa)])]⟩) (λi=>∀ j (h:j<r.length),j<i->issB r[j]=true/\ordB r j=true) r.length (by (first|exact Wka|exact Wkb)) (by simp) ?_ ?_
 . intro i hi he;refine Qga ?_;have w1:i64.wrap ((i:Int)+1)=((i+1:Nat):Int):=Yf;have a1:=at_eq hi;have hx:=h.1.2 r[i] (W0e hi);have hk:=h.2 r[i] (W0e hi)
   have go:issB r[i]=true->ordB r i=true->∀ j (h:j<r.length),j<i+1->issB r[j]=true/\ordB r j=true:=λg1 g2 j q1 q2=>by
    by_cases e:j=i
    . subst e;exact ⟨g1,g2⟩
    . exact he j q1 (by omega)
   simp -implicitDefEqProofs[hi,isa];refine Qco (Za4 r[i] hx.1 hx.2 hk) ?_
   cases p1:issB r[i]
   . simp -implicitDefEqProofs;refine Qgr ?_;simp -implicitDefEqProofs[Za6 hi p1]
   have hd:1<=r[i].d:=by
    have p2:=p1;simp only[issB,headB,W01,inR,W0b]at p2;exact p2.1.1.1.1.1.1
   cases i with
   | zero =>
     have n1:¬r[0].d<(0:Int):=(by omega);have n2:(0:Int)<r[0].d:=(by omega);by_cases p3:r[0].l=1
     . have ok:ordB r 0=true:=(by simp[ordB,a1,p3]);have w0:i64.wrap 1=1:=rfl;simp -implicitDefEqProofs[n1,n2,p3,w0];exact ⟨(by (first|exact Wka|exact Wkb)),λj q1 q2=>by subst q2;exact ⟨p1,ok⟩⟩
     . simp -implicitDefEqProofs[n1,n2,p3];refine Qgr ?_;simp -implicitDefEqProofs[Za7 hi (by simp[ordB,a1,p3])]
   | succ i =>
     have w2:i64.wrap (i:Int)=(i:Int):=Yf;have w3:i64.wrap ((i:Int)+1+1)=(i:Int)+1+1:=Yf;have k3:(0:Int)<(i:Int)+1:=(by omega);have hi2:i<r.length:=(by omega);have a2:=at_eq hi2;have bl:=(he i hi2 (by omega)).1;simp only[issB,headB,W01,inR,W0b]at bl;have w4:i64.wrap (r[i].l+1)=r[i].l+1:=Yf;by_cases p3:r[i+1].d<r[i].d
     . simp -implicitDefEqProofs[k3,w2,hi2,isa,p3];refine Qgr ?_;simp -implicitDefEqProofs[Za7 hi (by simp[ordB,a1,a2,p3])]
     by_cases p4:r[i].d<r[i+1].d
     . by_cases p5:r[i+1].l=1
       . have ok:ordB r (i+1)=true:=(by simp[ordB,a1,a2,p3,p4,p5]);simp -implicitDefEqProofs[k3,w2,w3,hi2,isa,p3,p4,p5];exact ⟨(by (first|exact Wka|exact Wkb)),go p1 ok⟩
       . simp -implicitDefEqProofs[k3,w2,hi2,isa,p3,p4,p5];refine Qgr ?_;simp -implicitDefEqProofs[Za7 hi (by simp[ordB,a1,a2,p3,p4,p5])]
     by_cases p5:r[i+1].l=r[i].l+1
     case neg =>
      simp -implicitDefEqProofs[k3,w2,w4,hi2,isa,p3,p4,p5];refine Qgr ?_;simp -implicitDefEqProofs[Za7 hi (by simp[ordB,a1,a2,p3,p4,p5])]
     by_cases p6:r[i+1].k=r[i].k
     . have ok:ordB r (i+1)=true:=(by simp[ordB,a1,a2,p3,p4,p5,p6]);simp -implicitDefEqProofs[k3,w2,w3,w4,hi2,isa,p3,p4,p5,p6];exact ⟨(by (first|exact Wka|exact Wkb)),go p1 ok⟩
     . simp -implicitDefEqProofs[k3,w2,w4,hi2,isa,p3,p4,p5,p6];refine Qgr ?_;simp -implicitDefEqProofs[Za7 hi (by simp[ordB,a1,a2,p3,p4,p5,p6])]
 . intro he;refine Qga ?_
   have g1:r.all issB=true:=W03.2 λx hx=>by
    obtain ⟨j,hj,rfl⟩:=W0k hx;exact (he j hj hj).1
   have g2:(List.range r.length).all (ordB r)=true:=Za2.2 λj hj=>(he j hj hj).2
   have hns:Sml (nums r):=(by have:=Zab r;unfold Sml;omega);simp -implicitDefEqProofs;refine Qgr ?_;simp -implicitDefEqProofs;refine Qco (Za3 r h.1.1 hne) ?_;simp -implicitDefEqProofs;refine Z9H (λi=>⟨[(7,.int .i64 i),(6,.vsl ((nums r).map ia)),(1,.ptr 1 0)],[(1,.box [.vsl (r.map isa)])]⟩) (λi=>∀ j (h:j<r.length),j<i->ItsIn r r[j]) r.length (by (first|exact Wka|exact Wkb)) (by simp) ?_ ?_
   . intro i hi hb;refine Qga ?_;have w1:i64.wrap ((i:Int)+1)=((i+1:Nat):Int):=Yf;have hx:=(h.1.2 r[i] (W0e hi)).1;unfold Sml at hx;simp -implicitDefEqProofs[hi];refine Z9H (λk=>⟨[(8,.int .i64 k),(7,.int .i64 i),(6,.vsl ((nums r).map ia)),(1,.ptr 1 0)],[(1,.box [.vsl (r.map isa)])]⟩) (λk=>∀ j (h:j<r[i].its.length),j<k->r[i].its[j].1∈nums r) r[i].its.length (by (first|exact Wka|exact Wkb)) (by simp) ?_ ?_
     . intro k hk hc;refine Qga ?_;have w2:i64.wrap ((k:Int)+1)=((k+1:Nat):Int):=Yf;simp -implicitDefEqProofs[hi,isa,hk,ita];refine Qco (Z9N (nums r) _ hns) ?_;by_cases p1:r[i].its[k].1∈nums r
       . have n1:¬idx (nums r) r[i].its[k].1<0:=λe=>Za9.1 e p1
         simp -implicitDefEqProofs[n1,w2];refine ⟨(by (first|exact Wka|exact Wkb)),λj q1 q2=>?_⟩;by_cases e:j=k
         . subst e;exact p1
         . exact hc j q1 (by omega)
       . have n1:idx (nums r) r[i].its[k].1<0:=Za9.2 p1;simp -implicitDefEqProofs[n1];refine Qgr ?_;simp -implicitDefEqProofs;refine Qgr ?_;simp -implicitDefEqProofs[Za8 hi hk p1]
     . intro hc;refine Qga ?_;simp -implicitDefEqProofs[hi,isa];refine Qgr ?_;simp -implicitDefEqProofs[w1];refine ⟨(by (first|exact Wka|exact Wkb)),λj q1 q2=>?_⟩;by_cases e:j=i
       . subst e;intro y hy;obtain ⟨n,hn,rfl⟩:=W0k hy;exact hc n hn hn
       . exact hb j q1 (by omega)
   . intro hb;refine Qga ?_
     have g3:inB r=true:=W03.2 λx hx=>W03.2 λy hy=>by
      obtain ⟨j,hj,rfl⟩:=W0k hx;exact W0M (hb j hj hj y hy)
     have g4:Za5 r=decide ((nums r).length<=20):=(by simp[Za5,q1,g1,g2,g3]);simp -implicitDefEqProofs;refine Qgr ?_;simp -implicitDefEqProofs[g4];omega
def Ord (r:Jr):Prop:=∀ i,i+1<r.length->(at' r i).d<=(at' r (i+1)).d
def Ord.mono {r:Jr} (h:Ord r):∀ {i j:Nat},i<=j->j<r.length->(at' r i).d<=(at' r j).d:=by
 intro i j hij hj
 induction j with
 | zero => obtain rfl:i=0:=by omega
           exact W1Y _
 | succ j ih =>
   by_cases e:i=j+1
   . subst e;exact W1Y _
   . exact Int.le_trans (ih (by omega) (by omega)) (h j hj)
def Zad {r:Jr} (h:Za5 r=true):Ord r:=by
 intro i hi;simp only[Za5,W01]at h;have:=Za2.1 h.1.1.2 (i+1) hi;simp only[ordB]at this
 split at this
 . cases this
 . omega
def Zae {r:Jr} (h:Ord r):∀ i,i<=r.length->(numsN r i).Pairwise (· < ·)/\(∀ y∈numsN r i,∃ j,j<i/\(at' r j).d=y)/\∀ j,j<i->(at' r j).d∈numsN r i:=by
 intro i
 induction i with
 |zero=>intro _;simp[numsN]
 | succ i ih =>
   intro hi;obtain ⟨h1,h2,h3⟩:=ih (by omega);simp only[numsN]
   split
   . rename_i hb;refine ⟨W27.2 ⟨h1,by simp,λa ha b hb'=>?_⟩,λy hy=>?_,λj hj=>?_⟩
     . simp only[W0B]at hb';subst hb';obtain ⟨j,hj,rfl⟩:=h2 a ha;simp only[newB,W0T,W0A,W1C,W1b]at hb;have m1:=h.mono (show j<=i-1 by omega) (by omega);have m2:=h.mono (show i-1<=i by omega) (by omega);rcases hb with hb|hb
       . omega
       . omega
     . rcases W0h.1 hy with hy|hy
       . obtain ⟨j,hj,e⟩:=h2 y hy;exact ⟨j,by omega,e⟩
       . exact ⟨i,by omega,(W0B.1 hy).symm⟩
     . by_cases e:j=i
       . subst e;simp
       . exact W0h.2 (.inl (h3 j (by omega)))
   . rename_i hb;refine ⟨h1,λy hy=>?_,λj hj=>?_⟩
     . obtain ⟨j,hj,e⟩:=h2 y hy;exact ⟨j,by omega,e⟩
     . by_cases e:j=i
       . subst e;simp only[newB,W0T,W0A,W1C,W1b,not_or,Decidable.not_not]at hb;rw[<- hb.2];exact h3 _ (by omega)
       . exact h3 j (by omega)
def Zaf {r:Jr} (h:Ord r):(nums r).Pairwise (· < ·):=(Zae h _ (W0f _)).1
def Zag {r:Jr} (h:Ord r):(nums r).Nodup:=(Zaf h).imp λh=>Int.ne_of_lt h
def Zah {r:Jr} (h:Ord r) {n:Int} (hn:n∈nums r):∃ i,∃ hi:i<r.length,r[i].d=n:=by
 obtain ⟨i,hi,e⟩:=(Zae h _ (W0f _)).2.1 n hn;exact ⟨i,hi,by rw[<- at_eq hi];exact e⟩
def Zai {r:Jr} (h:Ord r) {i:Nat} (hi:i<r.length):r[i].d∈nums r:=by
 have:=(Zae h _ (W0f _)).2.2 i hi
 rwa [at_eq hi]at this
def dvIt (f:Int->Int) (m:Int) (its:List (Int×Int)):Int:=its.foldl (λm y=>max m (1+f y.1)) m
def dvN (r:Jr) (f:Int->Int) (n:Int):Nat->Int
 |0=>0
 |i+1=>if (at' r i).d=n then dvIt f (max (dvN r f n i) 1) (at' r i).its else dvN r f n i
def Dv (r:Jr):Nat->Int->Int
 |0,_=>0
 |k+1,n=>dvN r (Dv r k) n r.length
def Zaj {f:Int->Int} {K:Int} (hf:∀ n,0<=f n/\f n<=K):∀ (its:List (Int×Int)) (m:Int),0<=m->m<=K+1->0<=dvIt f m its/\dvIt f m its<=K+1
 |[],m,h1,h2=>⟨h1,h2⟩
 | y::its,m,h1,h2=>by
   have:=hf y.1;exact Zaj hf its (max m (1+f y.1)) (by omega) (by omega)
def Zak (r:Jr) {f:Int->Int} {K:Int} (hK:0<=K) (hf:∀ n,0<=f n/\f n<=K) (n:Int):∀ i,0<=dvN r f n i/\dvN r f n i<=K+1
 |0=>by simp only[dvN];omega
 | i+1=>by
   have:=Zak r hK hf n i;simp only[dvN]
   split
   . exact Zaj hf _ _ (by omega) (by omega)
   . exact this
def Dv_bd (r:Jr):∀ k n,0<=Dv r k n/\Dv r k n<=k
 |0,n=>by simp[Dv]
 | k+1,n=>by
   have:=Zak r (K:=(k:Int)) (by omega) (Dv_bd r k) n r.length;simp only[Dv];omega
def rowF (l:List Int) (g:Int->Int):List (List AV):=l.map λn=>[.int .i64 (g n)]
def Zal {l:List Int} (hn:l.Nodup) {g:Int->Int} {j:Nat} {d v:Int} (hj:l[j]? = some d):(rowF l g).set j [.int .i64 v]=rowF l λn=>if n=d then v else g n:=by
 apply List.ext_getElem?
 intro i;obtain ⟨hlt,he⟩:=W02.1 hj;simp only[rowF,W2o,W09,W0N];by_cases e:j=i
 . subst e;simp[hlt,he]
 . rw[if_neg e]
   cases hi:l[i]? with
   |none=>rfl
   | some x =>
     obtain ⟨hlt2,he2⟩:=W02.1 hi;have:x≠d:=λq=>e ((List.getElem_inj hn).1 (by rw[he,he2,q]))
     simp[this]
def Zam {l:List Int} {g:Int->Int}:(rowF l g).length=l.length:=by simp[rowF]
def Zan {l:List Int} {g:Int->Int}:(rowF l g).all (λr=>r.all AV.pure)=true:=by simp[rowF,AV.pure]
def Zao {l:List Int} {g:Int->Int} {p:List AV->Bool}:(rowF l g).all p=l.all λn=>p [.int .i64 (g n)]:=by simp[rowF,List.all_map,W0y]
attribute [simp] Zao
def Zap {l:List Int} {g:Int->Int} {j:Nat} (h:j<(rowF l g).length):(rowF l g)[j]=[.int .i64 (g (l[j]'(by simpa [rowF] using h)))]:=by simp[rowF]
attribute [simp] Zap Zam
def Zaq {l:List Int}:List.replicate l.length [AV.int .i64 0]=rowF l λ_=>0:=by
 simp only[rowF];induction l with
 |nil=>rfl
 |cons x l ih=>simp[List.replicate_succ,ih]
def Zar (f:Int->Int) (m:Int) (its:List (Int×Int)) (k:Nat) (h:k<its.length):dvIt f m (its.take (k+1))=max (dvIt f m (its.take k)) (1+f its[k].1):=by
 rw[W08 h,dvIt,W1q];rfl
def Zas {d:Int} {v v0:Int} {g:Int->Int}:(λn=>if n=d then v else if n=d then v0 else g n)=λn=>if n=d then v else g n:=by
 funext n;split <;> rfl
def Ym.trans {a b c:St} (h:Ym a b) (g:Ym b c):Ym a c:=λR x W s=>g R x W (h R x W s)
set_option maxRecDepth 8000 in
def Zat (r:Jr) (h:Wf r) (hL:Za5 r=true):PC prog G 97 [rega r] (.vsl (rowF (nums r) (Dv r ((nums r).length+1)))):=by
 (refine Z9a rfl λR hG hrd=>Qga ?_;subst hG)
 have hs:=h.1.1;unfold Sml at hs;have hO:=Zad hL;have hl:=Zab r;have hnd:=Zag hO;have hL2:=hL;simp only[Za5,W01,inB,W0b]at hL2;obtain ⟨⟨⟨⟨l1,l2⟩,l3⟩,l4⟩,l5⟩:=hL2;have l1':=W0X l1;have hne:r≠[]:=(by intro e;subst e;simp at l1');have hns:Sml (nums r):=(by unfold Sml;omega);simp -implicitDefEqProofs[Z98,Z99,rega];refine Qco (Za3 r h.1.1 hne) ?_;have b1:((nums r).length:Int)<=16777216:=(by omega);simp -implicitDefEqProofs[b1,Zaq];refine Z9H (λk=>⟨[(5,.int .i64 k),(4,.vsl (rowF (nums r) (Dv r k))),(3,.vsl ((nums r).map ia)),(1,.ptr 1 0)],[(1,.box [.vsl (r.map isa)])]⟩) (λ_=>True) ((nums r).length+1) ?_ trivial ?_ ?_
 . refine Ym.trans (Ym.frz (λk=>k == 15) _) ?_;have e0:(λn=>Dv r 0 n)=λ_=>0:=rfl
   exact Ym.sub (by simp[lk,Ya,AV.keys,Yi,frzA,frzO,frz,Yh,St.get,Zam,Zan,Dv,Function.const]) (by simp[lk,Yc,Ya,AV.keys,Yi,frzA,frzO,frz]) (by simp[Yi,lk];try omega)
 . intro k hk _;refine Qga ?_;have k1:(k:Int)<=(nums r).length:=(by omega);simp -implicitDefEqProofs[k1,b1,Zaq];have bd:=Dv_bd r k;have hkb:(k:Int)<=61:=(by omega);refine Z9H (λi=>⟨[(7,.int .i64 i),(6,.osl 24 (nums r).length),(5,.int .i64 k),(4,.vsl (rowF (nums r) (Dv r k))),(3,.vsl ((nums r).map ia)),(1,.ptr 1 0)],[(1,.box [.vsl (r.map isa)]),(24,.row 1 (rowF (nums r) λn=>dvN r (Dv r k) n i))]⟩) (λ_=>True) r.length (by (first|exact Ym.tm (by simp[lk,dvN])|exact Ym.sub (by simp[lk,Ya,AV.keys,dvN]) (by simp[lk,Yc,Ya,AV.keys,dvN]))) trivial ?_ ?_
   . intro i hi _;refine Qga ?_;have w1:i64.wrap ((i:Int)+1)=((i+1:Nat):Int):=Yf;have a1:=at_eq hi;have hx:=(h.1.2 r[i] (W0e hi)).1;unfold Sml at hx
     have hits:∀ m (hm:m<r[i].its.length),r[i].its[m].1∈nums r:=λm hm =>
      W0X (W03.1 (W03.1 l4 _ (W0e hi)) _ (W0e hm))
     simp -implicitDefEqProofs[hi,isa];refine Qco (Z9N (nums r) _ hns) ?_;obtain ⟨j,hj,hlt,hget⟩:=Zaa (Zai hO hi);rw[hj];have hset:=λg v=>Zal (g:=g) (v:=v) hnd hget
     have hgt:(nums r)[j]=r[i].d:=(W02.1 hget).2;simp -implicitDefEqProofs[hlt,hgt,hset]
     refine Z9H (λm=>⟨[(10,.int .i64 m),(9,.int .i64 j),(8,.ptr 8 0),(7,.int .i64 i),(6,.osl 24 (nums r).length),(5,.int .i64 k),(4,.vsl (rowF (nums r) (Dv r k))),(3,.vsl ((nums r).map ia)),(1,.ptr 1 0)],
      [(1,.box [.vsl (r.map isa)]),(8,.box (isa r[i])),(24,.row 1 (rowF (nums r) λn=>if n=r[i].d then dvIt (Dv r k) (max (dvN r (Dv r k) r[i].d i) 1) (r[i].its.take m) else dvN r (Dv r k) n i))]⟩) (λ_=>True) r[i].its.length (by (first|exact Ym.tm (by simp[lk,dvIt,isa])|exact Ym.sub (by simp[lk,Ya,AV.keys,dvIt,isa]) (by simp[lk,Yc,Ya,AV.keys,dvIt,isa]))) trivial ?_ ?_
     . intro m hm _;refine Qga ?_;have w2:i64.wrap ((m:Int)+1)=((m+1:Nat):Int):=Yf;obtain ⟨j2,hj2,hlt2,hget2⟩:=Zaa (hits m hm);have hgt2:(nums r)[j2]=r[i].its[m].1:=(W02.1 hget2).2;have bd2:=bd r[i].its[m].1;have w3:i64.wrap (1+Dv r k r[i].its[m].1)=1+Dv r k r[i].its[m].1:=Yf;simp -implicitDefEqProofs[isa,hm,ita,hlt,hgt];refine Qco (Z9N (nums r) _ hns) ?_;rw[hj2];have tk:=Zar (Dv r k) (max (dvN r (Dv r k) r[i].d i) 1) r[i].its m hm;simp -implicitDefEqProofs[hlt2,hgt2,w2,w3,hlt,hgt,hset,Zas];refine ⟨rfl,?_⟩;rw[<- tk]
       (first|exact Ym.tm (by simp[lk,isa])|exact Ym.sub (by simp[lk,Ya,AV.keys,isa]) (by simp[lk,Yc,Ya,AV.keys,isa]))
     . intro _;refine Qga ?_;simp -implicitDefEqProofs[isa];refine Qgr ?_;simp -implicitDefEqProofs[w1]
       have e:(λn=>if n=r[i].d then dvIt (Dv r k) (max (dvN r (Dv r k) r[i].d i) 1) r[i].its else dvN r (Dv r k) n i)=λn=>dvN r (Dv r k) n (i+1):=by
        funext n
        simp only[dvN,a1];by_cases q:r[i].d=n
        . subst q;simp
        . rw[if_neg q,if_neg (λe=>q e.symm)]
       rw[e]
       (first|exact Wka|exact Wkb)
   . intro _;refine Qga ?_;simp -implicitDefEqProofs;refine Qgr ?_;have w1:i64.wrap ((k:Int)+1)=((k+1:Nat):Int):=Yf;simp -implicitDefEqProofs[w1];have e:(λn=>dvN r (Dv r k) n r.length)=Dv r (k+1):=rfl;rw[e];refine Ym.trans (Ym.frz (λk=>k == 24) _) ?_;exact Ym.sub (by simp[lk,Ya,AV.keys,Yi,frzA,frzO,frz,Yh,St.get,Zan]) (by simp[lk,Yc,Ya,AV.keys,Yi,frzA,frzO,frz]) (by simp[Yi,lk];try omega)
 . intro _;refine Qga ?_;have k1:¬((nums r).length:Int)+1<=(nums r).length:=(by omega);simp -implicitDefEqProofs[k1];refine Qgr ?_;simp -implicitDefEqProofs
def Zau (r:Jr):(rega r).pure=true:=by simp[rega,AV.pure]
attribute [simp] Zau
def mostV (l:List Int) (g:Int->Int):Int:=l.foldl (λm n=>max m (g n)) 0
def chkV (r:Jr):Int:=if Za5 r=true then
    if ((nums r).length:Int)<mostV (nums r) (Dv r ((nums r).length+1)) then 21 else if 6<mostV (nums r) (Dv r ((nums r).length+1)) then 20 else 0
 else 20
def zI:Iss:=⟨0,0,0,[],[]⟩
def Zav {d l:Int}:∀ {r:Jr} {x:Iss},findN d l r=some x->x∈r/\x.d=d/\x.l=l
 |[],x,h=>by simp[findN]at h
 | y::r,x,h=>by
   simp only[findN]at h
   split at h
   . rename_i e;cases h;exact ⟨W0H ..,e⟩
   . obtain ⟨h1,h2⟩:=Zav h;exact ⟨W0z _ h1,h2⟩
def Zaw (l:List Int) (g:Int->Int) (k:Nat) (h:k<l.length):mostV (l.take (k+1)) g=max (mostV (l.take k) g) (g l[k]):=by
 rw[W08 h,mostV,W1q];rfl
def Zax (r:Jr) (h:Wf r):PC prog G 75 [rega r] (.int .i64 (chkV r)):=by
 (refine Z9d rfl λR hG hrd=>Qga ?_;subst hG)
 simp -implicitDefEqProofs[Z9b,Z9c,rega];refine Qco (Zac r h) ?_
 cases hL:Za5 r
 . simp -implicitDefEqProofs[show chkV r=20 by simp[chkV,hL]]
 simp -implicitDefEqProofs;refine Qco (Zat r h hL) ?_;have hs:=h.1.1;unfold Sml at hs;have hl:=Zab r;simp -implicitDefEqProofs;refine Z9H (λk=>⟨[(5,.int .i64 k),(4,.int .i64 (mostV ((nums r).take k) (Dv r ((nums r).length+1)))),(3,.vsl (rowF (nums r) (Dv r ((nums r).length+1)))),(1,.ptr 1 0)],[(1,.box [.vsl (r.map isa)])]⟩) (λ_=>True) (nums r).length (by (first|exact Ym.tm (by simp[lk,mostV])|exact Ym.sub (by simp[lk,Ya,AV.keys,mostV]) (by simp[lk,Yc,Ya,AV.keys,mostV]))) trivial ?_ ?_
 . intro k hk _;refine Qga ?_;have w1:i64.wrap ((k:Int)+1)=((k+1:Nat):Int):=Yf;have tk:=Zaw (nums r) (Dv r ((nums r).length+1)) k hk;simp -implicitDefEqProofs[hk,w1];rw[<- tk]
   (first|exact Wka|exact Wkb)
 . intro _;refine Qga ?_;simp -implicitDefEqProofs;refine Qgr ?_;generalize hm:mostV (nums r) (Dv r ((nums r).length+1))=m;by_cases q1:((nums r).length:Int)<m
   . simp -implicitDefEqProofs[q1,show chkV r=21 by simp[chkV,hL,hm,q1]]
   by_cases q2:6<m
   . simp -implicitDefEqProofs[q1,q2,show chkV r=20 by simp[chkV,hL,hm,q1,q2]]
   . simp -implicitDefEqProofs[q1,q2,show chkV r=0 by simp[chkV,hL,hm,q1,q2]]
def fstOf {α:Type} (p:α->Bool) (l:List α):Int:=match l.findIdx? p with|some i=>(i:Int)|none=>-1
def Zay {α:Type} {p:α->Bool} {l:List α} {i:Nat} (h:i<l.length) (hp:p l[i]=true) (hn:∀ j (h:j<l.length),j<i->p l[j]=false):fstOf p l=i:=by
 have:l.findIdx? p=some i:=by
  rw[W1A];refine ⟨h,hp,λj hj=>?_⟩;rw[hn j (by omega) hj];simp
 simp[fstOf,this]
def Zaz {α:Type} {p:α->Bool} {l:List α} (hn:∀ j (h:j<l.length),p l[j]=false):fstOf p l = -1:=by
 have:l.findIdx? p=none:=W1F.2 λx hx=>by
  obtain ⟨j,hj,rfl⟩:=W0k hx;exact hn j hj
 simp[fstOf,this]
def ZaA {α:Type} (p:α->Bool) (l:List α):decide (0<=fstOf p l)=l.any p:=by
 unfold fstOf
 cases h:l.findIdx? p with
 | none =>
   have h2:=W1F.1 h;have:l.any p=false:=(by rw[<- Bool.not_eq_true,W14];rintro ⟨x,hx,hp⟩;rw[h2 x hx]at hp;cases hp);simp[this]
 | some i =>
   obtain ⟨h1,h2,-⟩:=W1A.1 h;have:l.any p=true:=W14.2 ⟨l[i],W0e h1,h2⟩;simp[this]
def ZaB (g:Nat) (caps:List AV) (p:Int->Bool) (l:List Int) (hc:caps.all AV.pure=true) (hl:Sml l)
  (hg:∀ x∈l,PC prog G g (.int .i64 x::caps) (.bool (p x))) :
  PC prog G 42 [.vsl (l.map ia),.func (.func g) [] caps] (.int .i64 (fstOf p l)):=by
 (refine Z7k rfl λR hG hrd=>Qga ?_;subst hG)
 unfold Sml at hl;have hc2:∀ x∈caps,x.pure=true:=W03.1 hc;simp -implicitDefEqProofs[Z7i,Z7j];refine Z9H (λi=>⟨[(8,.int .i64 i),(7,.int .i64 l.length),(0,.vsl (l.map ia)),(1,.func (.func g) [] caps)],[]⟩) (λi=>∀ j (h:j<l.length),j<i->p l[j]=false) l.length (by (first|exact Wka|exact Wkb)) (by simp) ?_ ?_
 . intro i hi he;refine Qga ?_;have w1:i64.wrap ((i:Int)+1)=((i+1:Nat):Int):=Yf;simp -implicitDefEqProofs[hi,ia];refine Yd.of (hg _ (W0e hi)) (by simpa [AV.pure] using hc2) ?_
   cases h3:p l[i]
   . simp -implicitDefEqProofs[w1];refine ⟨(by (first|exact Wka|exact Wkb)),λj q1 q2=>?_⟩;by_cases e:j=i
     . subst e;exact h3
     . exact he j q1 (by omega)
   . simp -implicitDefEqProofs;refine Qgr ?_;simp -implicitDefEqProofs[Zay hi h3 he]
 . intro he;refine Qga ?_;simp -implicitDefEqProofs;refine Qgr ?_;simp -implicitDefEqProofs[Zaz (p:=p) (l:=l) (λj hj=>he j hj hj)]
def ZaC (g:Nat) (caps:List AV) (p:Int->Bool) (l:List Int) (hc:caps.all AV.pure=true) (hl:Sml l)
  (hg:∀ x∈l,PC prog G g (.int .i64 x::caps) (.bool (p x))) :
  PC prog G 16 [.vsl (l.map ia),.func (.func g) [] caps] (.bool (l.any p)):=by
 (refine Z7h rfl λR hG hrd=>Qga ?_;subst hG)
 simp -implicitDefEqProofs[Z7f,Z7g];have hc2:∀ x∈caps,x.pure=true:=W03.1 hc;refine Yd.of (ZaB g caps p l hc hl hg) (by simpa [AV.pure] using hc2) ?_;have e:=ZaA p l;simp -implicitDefEqProofs[e]
def ZaD (g:Nat) (caps:List AV) (p:(Int×Int)->Bool) (l:List (Int×Int)) (hc:caps.all AV.pure=true) (hl:Sml l)
  (hg:∀ x∈l,PC prog G g (.agg [.int .i64 x.1,.int .i64 x.2]::caps) (.bool (p x))) :
  PC prog G 122 [.vsl (l.map ita),.func (.func g) [] caps] (.int .i64 (fstOf p l)):=by
 (refine Z7X rfl λR hG hrd=>Qga ?_;subst hG)
 unfold Sml at hl;have hc2:∀ x∈caps,x.pure=true:=W03.1 hc;simp -implicitDefEqProofs[Z7V,Z7W];refine Z9H (λi=>⟨[(8,.int .i64 i),(7,.int .i64 l.length),(0,.vsl (l.map ita)),(1,.func (.func g) [] caps)],[]⟩) (λi=>∀ j (h:j<l.length),j<i->p l[j]=false) l.length (by (first|exact Wka|exact Wkb)) (by simp) ?_ ?_
 . intro i hi he;refine Qga ?_;have w1:i64.wrap ((i:Int)+1)=((i+1:Nat):Int):=Yf;simp -implicitDefEqProofs[hi,ita];refine Yd.of (hg _ (W0e hi)) (by simpa [AV.pure] using hc2) ?_
   cases h3:p l[i]
   . simp -implicitDefEqProofs[w1];refine ⟨(by (first|exact Wka|exact Wkb)),λj q1 q2=>?_⟩;by_cases e:j=i
     . subst e;exact h3
     . exact he j q1 (by omega)
   . simp -implicitDefEqProofs;refine Qgr ?_;simp -implicitDefEqProofs[Zay hi h3 he]
 . intro he;refine Qga ?_;simp -implicitDefEqProofs;refine Qgr ?_;simp -implicitDefEqProofs[Zaz (p:=p) (l:=l) (λj hj=>he j hj hj)]
def ZaE (g:Nat) (caps:List AV) (p:(Int×Int)->Bool) (l:List (Int×Int)) (hc:caps.all AV.pure=true) (hl:Sml l)
  (hg:∀ x∈l,PC prog G g (.agg [.int .i64 x.1,.int .i64 x.2]::caps) (.bool (p x))) :
  PC prog G 91 [.vsl (l.map ita),.func (.func g) [] caps] (.bool (l.any p)):=by
 (refine Z7U rfl λR hG hrd=>Qga ?_;subst hG)
 simp -implicitDefEqProofs[Z7S,Z7T];have hc2:∀ x∈caps,x.pure=true:=W03.1 hc;refine Yd.of (ZaD g caps p l hc hl hg) (by simpa [AV.pure] using hc2) ?_;have e:=ZaA p l;simp -implicitDefEqProofs[e]
def ZaF (g:Nat) (caps:List AV) (p:Dm->Bool) (l:List Dm) (hc:caps.all AV.pure=true) (hl:Sml l)
  (hg:∀ x∈l,PC prog G g (.agg [.int .i64 x.n,.int .i64 x.l,.int .i64 x.u]::caps) (.bool (p x))) :
  PC prog G 192 [.vsl (l.map dma),.func (.func g) [] caps] (.int .i64 (fstOf p l)):=by
 (refine Z7R rfl λR hG hrd=>Qga ?_;subst hG)
 unfold Sml at hl;have hc2:∀ x∈caps,x.pure=true:=W03.1 hc;simp -implicitDefEqProofs[Z7P,Z7Q];refine Z9H (λi=>⟨[(8,.int .i64 i),(7,.int .i64 l.length),(0,.vsl (l.map dma)),(1,.func (.func g) [] caps)],[]⟩) (λi=>∀ j (h:j<l.length),j<i->p l[j]=false) l.length (by (first|exact Wka|exact Wkb)) (by simp) ?_ ?_
 . intro i hi he;refine Qga ?_;have w1:i64.wrap ((i:Int)+1)=((i+1:Nat):Int):=Yf;simp -implicitDefEqProofs[hi,dma];refine Yd.of (hg _ (W0e hi)) (by simpa [AV.pure] using hc2) ?_
   cases h3:p l[i]
   . simp -implicitDefEqProofs[w1];refine ⟨(by (first|exact Wka|exact Wkb)),λj q1 q2=>?_⟩;by_cases e:j=i
     . subst e;exact h3
     . exact he j q1 (by omega)
   . simp -implicitDefEqProofs;refine Qgr ?_;simp -implicitDefEqProofs[Zay hi h3 he]
 . intro he;refine Qga ?_;simp -implicitDefEqProofs;refine Qgr ?_;simp -implicitDefEqProofs[Zaz (p:=p) (l:=l) (λj hj=>he j hj hj)]
def ZaG (g:Nat) (caps:List AV) (p:Dm->Bool) (l:List Dm) (hc:caps.all AV.pure=true) (hl:Sml l)
  (hg:∀ x∈l,PC prog G g (.agg [.int .i64 x.n,.int .i64 x.l,.int .i64 x.u]::caps) (.bool (p x))) :
  PC prog G 189 [.vsl (l.map dma),.func (.func g) [] caps] (.bool (l.any p)):=by
 (refine Z7O rfl λR hG hrd=>Qga ?_;subst hG)
 simp -implicitDefEqProofs[Z7M,Z7N];have hc2:∀ x∈caps,x.pure=true:=W03.1 hc;refine Yd.of (ZaF g caps p l hc hl hg) (by simpa [AV.pure] using hc2) ?_;have e:=ZaA p l;simp -implicitDefEqProofs[e]
def ZaH (n lo hi:Int):PC prog G 194 [.int .i64 n,.vptr [.int .i64 lo] 0,.vptr [.int .i64 hi] 0] (.bool (!inR n lo hi)):=by
 (refine Z7e rfl λR hG hrd=>Qga ?_;subst hG)
 by_cases h1:n<lo
 . have h2:¬lo<=n:=(by omega);simp -implicitDefEqProofs[Z7c,Z7d,h1,h2,inR]
 . have h2:lo<=n:=(by omega);by_cases h3:hi<n
   . have h4:¬n<=hi:=(by omega);simp -implicitDefEqProofs[Z7c,Z7d,h1,h2,h3,h4,inR]
   . have h4:n<=hi:=(by omega);simp -implicitDefEqProofs[Z7c,Z7d,h1,h2,h3,h4,inR]
def ZaI (n lo hi:Int):PC prog G 121 [.int .i64 n,.vptr [.int .i64 lo] 0,.vptr [.int .i64 hi] 0] (.bool (!inR n lo hi)):=by
 (refine Z7t rfl λR hG hrd=>Qga ?_;subst hG)
 by_cases h1:n<lo
 . have h2:¬lo<=n:=(by omega);simp -implicitDefEqProofs[Z7r,Z7s,h1,h2,inR]
 . have h2:lo<=n:=(by omega);by_cases h3:hi<n
   . have h4:¬n<=hi:=(by omega);simp -implicitDefEqProofs[Z7r,Z7s,h1,h2,h3,h4,inR]
   . have h4:n<=hi:=(by omega);simp -implicitDefEqProofs[Z7r,Z7s,h1,h2,h3,h4,inR]
def ZaJ (lo hi:Int) (l:List Int) (hl:Sml l):PC prog G 193 [.int .i64 lo,.int .i64 hi,.vsl (l.map ia)] (.bool (l.all λn=>inR n lo hi)):=by
 (refine Z7b rfl λR hG hrd=>Qga ?_;subst hG)
 simp -implicitDefEqProofs[Z79,Z7a]
 (first|refine Yd.flat (ZaC 194 [.vptr [.int .i64 lo] 0,.vptr [.int .i64 hi] 0] (λn=>!inR n lo hi) l (by simp[AV.pure]) hl (λn _=>ZaH n lo hi)) (by simp[AV.flat]) (by simp) ?_|refine Ye.flat (ZaC 194 [.vptr [.int .i64 lo] 0,.vptr [.int .i64 hi] 0] (λn=>!inR n lo hi) l (by simp[AV.pure]) hl (λn _=>ZaH n lo hi)) (by simp[AV.flat]) (by simp) ?_)
 have e:(!l.any λn=>!inR n lo hi)=l.all λn=>inR n lo hi:=by simp[W2k]
 simp -implicitDefEqProofs[e]
def ZaK (lo hi:Int) (n:Int):PC prog G 90 [.int .i64 lo,.int .i64 hi,.vsl [[.int .i64 n]]] (.bool (inR n lo hi)):=by
 (refine Z7q rfl λR hG hrd=>Qga ?_;subst hG)
 simp -implicitDefEqProofs[Z7o,Z7p];refine Yd.flat (ZaC 121 [.vptr [.int .i64 lo] 0,.vptr [.int .i64 hi] 0] (λn=>!inR n lo hi) [n] (by simp[AV.pure]) (by simp[Sml]) (λn _=>ZaI n lo hi)) (by simp[AV.flat]) (by simp[ia]) ?_;simp -implicitDefEqProofs
def ZaL (d:Dm):PC prog G 191 [.agg [.int .i64 d.n,.int .i64 d.l,.int .i64 d.u]] (.int .i64 (if vd d=true then 0 else 10)):=by
 (refine Z7n rfl λR hG hrd=>Qga ?_;subst hG)
 simp -implicitDefEqProofs[Z7l,Z7m];refine Qco (ZaJ 0 1000000000 [d.n,d.l,d.u] (by simp[Sml])) ?_
 cases h1:[d.n,d.l,d.u].all λn=>inR n 0 1000000000
 . have e:vd d=false:=by
    refine W0S λh=>?_
    have:([d.n,d.l,d.u].all λn=>inR n 0 1000000000)=true:=by
     simp[inR];omega
    rw[this]at h1;cases h1
   simp -implicitDefEqProofs[e]
 . have h2:(0<=d.n/\d.n<=1000000000)/\(0<=d.l/\d.l<=1000000000)/\0<=d.u/\d.u<=1000000000:=by
    simpa [inR] using h1
   by_cases h3:d.u<d.l
   . have e:vd d=false:=W0S (by omega);simp -implicitDefEqProofs[e,h3]
   . have e:vd d=true:=W0M (by omega);simp -implicitDefEqProofs[e,h3]
def ZaM (x:Iss):PC prog G 184 [.agg (isa x)] (.agg [.int .i64 x.d,.int .i64 x.l]):=by
 (refine Z7w rfl λR hG hrd=>Qga ?_;subst hG)
 simp -implicitDefEqProofs[Z7u,Z7v,isa]
def ck1 (x:Iss):Bool:=inR x.d 1 9999&&inR x.l 1 8
def ck2 (x:Iss):Bool:=if x.k=1 then inR x.its.length 1 8&&decide (x.dms.length=0) else inR x.k 2 3&&decide (x.dms.length<=4)&&decide (x.its.length=0)
def ck3 (x:Iss):Bool:=(List.range x.its.length).all (itOk x)
def ck4 (x:Iss):Bool:=x.dms.all vd
def ZaN (x:Iss):issB x=(ck1 x&&ck2 x&&ck3 x&&ck4 x):=by
 have e:headB x=(ck1 x&&ck2 x):=by
  unfold headB ck1 ck2;by_cases c1:x.k=1
  . have:inR x.k 1 3=true:=W0M (by omega);simp only[c1,if_true];rw[c1]at this;rw[this];simp
  . have:inR x.k 1 3=inR x.k 2 3:=decide_eq_decide.2 (by omega);simp only[c1,if_false,this,Bool.and_assoc]
 simp only[issB,e,ck3,ck4]
def ZaO (x:Iss):PC prog G 185 [.agg (isa x)] (.bool (ck1 x)):=by
 (refine Z7z rfl λR hG hrd=>Qga ?_;subst hG)
 simp -implicitDefEqProofs[Z7x,Z7y,isa];refine Qco (ZaK _ _ _) ?_
 cases q1:inR x.d 1 9999
 . simp -implicitDefEqProofs[ck1,q1]
 . simp -implicitDefEqProofs;refine Qco (ZaK _ _ _) ?_;simp -implicitDefEqProofs[ck1,q1]
def ZaP (x:Iss) (hk:0<=x.k/\x.k<=255):PC prog G 186 [.agg (isa x)] (.bool (ck2 x)):=by
 (refine Z7C rfl λR hG hrd=>Qga ?_;subst hG)
 have wk:i64.wrap x.k=x.k:=Yf;by_cases c1:x.k=1
 . simp -implicitDefEqProofs[Z7A,Z7B,isa,c1];refine Qco (ZaK _ _ _) ?_
   cases q1:inR x.its.length 1 8
   . simp -implicitDefEqProofs[ck2,c1,q1]
   . by_cases q2:x.dms.length=0 <;> simp -implicitDefEqProofs[ck2,c1,q1,q2]
 . simp -implicitDefEqProofs[Z7A,Z7B,isa,c1,wk];refine Qco (ZaK _ _ _) ?_
   cases q1:inR x.k 2 3
   . simp -implicitDefEqProofs[ck2,c1,q1]
   by_cases q2:x.dms.length<=4
   . have q2i:(x.dms.length:Int)<=4:=(by omega);by_cases q3:x.its.length=0 <;> simp -implicitDefEqProofs[ck2,c1,q1,q2,q2i,q3]
   . have q2i:¬(x.dms.length:Int)<=4:=(by omega);simp -implicitDefEqProofs[ck2,c1,q1,q2,q2i]
def ZaQ (x:Iss) (h1:Sml x.its):PC prog G 187 [.agg (isa x)] (.bool (ck3 x)):=by
 (refine Z7F rfl λR hG hrd=>Qga ?_;subst hG)
 unfold Sml at h1;simp -implicitDefEqProofs[Z7D,Z7E,isa];refine Z9H (λi=>⟨[(8,.int .i64 i),(7,.int .i64 x.its.length),(6,.vsl (x.its.map ita)),(1,.ptr 1 0)],[(1,.box (isa x))]⟩) (λi=>∀ j,j<i->itOk x j=true) x.its.length (by (first|exact Ym.tm (by simp[lk,isa])|exact Ym.sub (by simp[lk,Ya,AV.keys,isa]) (by simp[lk,Yc,Ya,AV.keys,isa]))) (by simp) ?_ ?_
 . intro i hi he;refine Qga ?_;have w1:i64.wrap ((i:Int)+1)=((i+1:Nat):Int):=Yf;have a1:itAt x i=x.its[i]:=by simp[itAt,List.getD,hi]
   have no:itOk x i=false->ck3 x=false:=λe=>by
    cases hI:ck3 x
    . rfl
    . rw[Za2.1 hI i hi]at e;cases e
   simp -implicitDefEqProofs[hi,isa,ita];refine Qco (ZaK _ _ _) ?_
   cases p1:inR x.its[i].1 1 9999
   . simp -implicitDefEqProofs;refine ⟨rfl,?_⟩;refine Qgr ?_;simp -implicitDefEqProofs[no (by simp[itOk,a1,p1])]
   simp -implicitDefEqProofs;refine Qco (ZaK _ _ _) ?_
   cases p2:inR x.its[i].2 1 20
   . simp -implicitDefEqProofs;refine ⟨rfl,?_⟩;refine Qgr ?_;simp -implicitDefEqProofs[no (by simp[itOk,a1,p2])]
   by_cases p3:x.its[i].1=x.d
   . simp -implicitDefEqProofs[p3];refine ⟨rfl,?_⟩;refine Qgr ?_;simp -implicitDefEqProofs[no (by simp[itOk,a1,p3])]
   cases i with
   | zero =>
     have ok:itOk x 0=true:=(by simp[itOk,a1,p1,p2,p3]);have w0:i64.wrap 1=1:=rfl;simp -implicitDefEqProofs[p3,w0];exact ⟨rfl,(by (first|exact Ym.tm (by simp[lk,isa])|exact Ym.sub (by simp[lk,Ya,AV.keys,isa]) (by simp[lk,Yc,Ya,AV.keys,isa]))),ok⟩
   | succ i =>
     have w2:i64.wrap (i:Int)=(i:Int):=Yf;have w3:i64.wrap ((i:Int)+1+1)=(i:Int)+1+1:=Yf;have k3:(0:Int)<(i:Int)+1:=(by omega);have hi2:i<x.its.length:=(by omega);have a2:itAt x i=x.its[i]:=(by simp[itAt,List.getD,hi2]);by_cases p4:x.its[i+1].1<=x.its[i].1
     . simp -implicitDefEqProofs[p3,k3,w2,hi2,ita,p4];refine ⟨rfl,?_⟩;refine Qgr ?_;simp -implicitDefEqProofs[no (by simp[itOk,a1,a2,p4])]
     . have ok:itOk x (i+1)=true:=(by simp[itOk,a1,a2,p1,p2,p3];omega);simp -implicitDefEqProofs[p3,k3,w2,w3,hi2,ita,p4];refine ⟨rfl,(by (first|exact Ym.tm (by simp[lk,isa])|exact Ym.sub (by simp[lk,Ya,AV.keys,isa]) (by simp[lk,Yc,Ya,AV.keys,isa]))),λj hj=>?_⟩;by_cases e:j=i+1
       . subst e;exact ok
       . exact he j (by omega)
 . intro he;refine Qga ?_;have hI:ck3 x=true:=Za2.2 he;simp -implicitDefEqProofs;refine Qgr ?_;simp -implicitDefEqProofs[hI]
def ZaR (d:Dm):PC prog G 190 [.agg [.int .i64 d.n,.int .i64 d.l,.int .i64 d.u]] (.bool (!vd d)):=by
 (refine Z7L rfl λR hG hrd=>Qga ?_;subst hG)
 simp -implicitDefEqProofs[Z7J,Z7K];refine Qco (ZaL d) ?_
 cases q:vd d <;> simp -implicitDefEqProofs
def ZaS (x:Iss) (h2:Sml x.dms):PC prog G 188 [.agg (isa x)] (.bool (ck4 x)):=by
 (refine Z7I rfl λR hG hrd=>Qga ?_;subst hG)
 simp -implicitDefEqProofs[Z7G,Z7H,isa];refine Qco (ZaG 190 [] (λd=>!vd d) x.dms rfl h2 (λd _=>ZaR d)) ?_;have e:(!x.dms.any λd=>!vd d)=ck4 x:=(by simp[ck4,W2k]);simp -implicitDefEqProofs[e]
def lowB (l:List Int) (n:Int):Nat:=l.countP (λx=>decide (x<n))
def ZaT (l:List Int) (n:Int):lowB l n<=l.length:=List.countP_le_length
def ZaU {l:List Int} (hs:l.Pairwise (· <= ·)) (n:Int):∀ (i:Nat) (hi:i<l.length),i<lowB l n↔l[i]<n:=by
 induction l with
 |nil=>intro i hi;simp at hi
 | cons x l ih =>
   obtain ⟨h1,h2⟩:=W1l.1 hs;intro i hi;by_cases hx:x<n
   . have e:lowB (x::l) n=lowB l n+1:=(by simp[lowB,W2a,hx]);rw[e]
     cases i with
     |zero=>simp[hx]
     | succ i =>
       have:=ih h2 i (by simpa using hi);simp only[List.getElem_cons_succ];rw[<- this];omega
   . have z:lowB l n=0:=by
      unfold lowB;rw[List.countP_eq_zero];intro y hy;have:=h1 y hy;simp;omega
     have e:lowB (x::l) n=0:=by
      have:lowB (x::l) n=lowB l n:=(by simp[lowB,W2a,hx]);omega
     rw[e]
     have hge:∀ (i:Nat) (hi:i<(x::l).length),x<=(x::l)[i]:=λi hi=>by
      cases i with
      |zero=>exact W1Y _
      |succ i=>exact h1 _ (W0e _)
     have:=hge i hi
     constructor
     . intro h;omega
     . intro h;omega
def ZaV {l:List Int} (hs:l.Pairwise (· < ·)):l.Pairwise (· <= ·):=hs.imp λh=>Int.le_of_lt h
def ZaW {l:List Int} (hs:l.Pairwise (· <= ·)) (n:Int):n∈l↔l[lowB l n]? = some n:=by
 constructor
 . intro hm;obtain ⟨j,hj,he⟩:=W0k hm;have h1:¬j<lowB l n:=λh=>by have:=(ZaU hs n j hj).1 h;omega
   have h2:lowB l n<l.length:=(by omega);rw[W07 h2];have h3:¬l[lowB l n]<n:=λh=>by have:=(ZaU hs n _ h2).2 h;omega
   have h4:l[lowB l n]<=l[j]:=by
    by_cases e:lowB l n=j
    . simp[e]
    . exact W0Y.1 hs _ _ h2 hj (by omega)
   congr 1;omega
 . intro h;exact W0d h
def ZaX {i j:Nat} (h:i+j<=33554432):i64.wrap ((IntKind.u64.wrap (i64.wrap ((i:Int)+j))).fdiv (2 ^ (min 1 IntKind.u64.bits)))=(((i+j) / 2:Nat):Int):=by
 show i64.wrap ((IntKind.u64.wrap (i64.wrap ((i:Int)+j))).fdiv (2 ^ (min 1 64)))=(((i+j) / 2:Nat):Int);have e1:i64.wrap ((i:Int)+j)=((i+j:Nat):Int):=by rw[Yf (by omega) (by omega)];omega
 have e2:IntKind.u64.wrap (((i+j:Nat):Int))=((i+j:Nat):Int):=by
  have:=IntWalk.u64_in (((i+j:Nat):Int)) ⟨by omega,by omega⟩;exact this
 rw[e1,e2]
 have e3:(((i+j:Nat):Int)).fdiv (2 ^ (min 1 64))=(((i+j) / 2:Nat):Int):=by
  rw[Int.fdiv_eq_ediv_of_nonneg _ (by decide)];simp
 rw[e3,Yf (by omega) (by omega)]
def ZaY (n:Int):PC prog G 57 [.int .i64 n] (.bool false):=by
 (refine Z8c rfl λR hG hrd=>Qga ?_;subst hG)
 simp -implicitDefEqProofs[Z8a,Z8b]
def ZaZ (n:Int):PC prog G 135 [.int .i64 n] (.bool false):=by
 (refine Z8f rfl λR hG hrd=>Qga ?_;subst hG)
 simp -implicitDefEqProofs[Z8d,Z8e]
def Zb0 (a b:Int):PC prog G 111 [.int .i64 a,.int .i64 b] (.bool (decide (a<b))):=by
 (refine Z89 rfl λR hG hrd=>Qga ?_;subst hG)
 by_cases h:a<b
 . simp -implicitDefEqProofs[Z87,Z88,h]
   try refine Qco (ZaY a) ?_
   try simp -implicitDefEqProofs[h]
 . simp -implicitDefEqProofs[Z87,Z88,h]
   try refine Qco (ZaY a) ?_
   try simp -implicitDefEqProofs[h]
def Zb1 (l:List Int) (n:Int) (hs:l.Pairwise (· <= ·)) (hl:Sml l):PC prog G 123 [.vsl (l.map ia),.int .i64 n] (.tup [.int .i64 (lowB l n),.bool (decide (n∈l))]):=by
 (refine Z86 rfl λR hG hrd=>Qga ?_;subst hG)
 unfold Sml at hl;have hle:=ZaT l n;simp -implicitDefEqProofs[Z84,Z85];refine Z1Q (λp:Nat×Nat=>⟨[(8,.int .i64 p.2),(7,.int .i64 p.1),(6,.int .i64 l.length),(0,.vsl (l.map ia)),(1,.int .i64 n)],[]⟩) (λp=>p.1<=lowB l n/\lowB l n<=p.2/\p.2<=l.length) (λp=>p.2-p.1) (0,l.length) (by (first|exact Wka|exact Wkb)) ⟨by omega,hle,W0f _⟩ ?_;rintro ⟨lo,hi⟩ ⟨h1,h2,h3⟩;simp only at h1 h2 h3;refine Qga ?_;by_cases h4:lo<hi
 . obtain ⟨m,hm⟩:=Qex ((lo+hi) / 2);have hw:=ZaX (i:=lo) (j:=hi) (by omega);rw[<- hm]at hw;have m1:m<l.length:=(by omega);have w1:i64.wrap ((m:Int)+1)=((m+1:Nat):Int):=Yf;have hb:=ZaU hs n m m1;by_cases h5:l[m]<n
   . simp -implicitDefEqProofs[h4,hw,m1,ia];refine Qco (Zb0 _ _) ?_;simp -implicitDefEqProofs[h5,w1];exact ⟨(m+1,hi),(by (first|exact Wka|exact Wkb)),⟨by have:=hb.2 h5;show m+1<=_;omega,h2,h3⟩,by show hi-(m+1)<hi-lo;omega⟩
   . simp -implicitDefEqProofs[h4,hw,m1,ia];refine Qco (Zb0 _ _) ?_;simp -implicitDefEqProofs[h5];exact ⟨(lo,m),(by (first|exact Wka|exact Wkb)),⟨h1,by have:¬m<lowB l n:=λh=>h5 (hb.1 h);show lowB l n<=m;omega,by show m<=_;omega⟩,by show m-lo<hi-lo;omega⟩
 . obtain rfl:lo=lowB l n:=(by omega);have hmem:=ZaW hs n;by_cases h5:lowB l n<l.length
   . by_cases h6:l[lowB l n]=n
     . have e:n∈l:=hmem.2 (by rw[W07 h5,h6]);simp -implicitDefEqProofs[h4];refine Qgr ?_;simp -implicitDefEqProofs[h5,ia,h6,e]
     . have e:¬n∈l:=λh=>h6 (by have:=hmem.1 h;rw[W07 h5]at this;exact W1L this)
       simp -implicitDefEqProofs[h4];refine Qgr ?_;simp -implicitDefEqProofs[h5,ia,h6];refine Qco (ZaZ _) ?_;simp -implicitDefEqProofs[e]
   . have e:¬n∈l:=λh=>by have:=hmem.1 h;rw[W24 (by omega)]at this;cases this
     simp -implicitDefEqProofs[h4];refine Qgr ?_;simp -implicitDefEqProofs[h5,e]
section
open Qq Tryz
def Zb2:RCode :=
 S [R 0 [l 9 1,a [0] (w 10 (.nilck (.t 9))),a [1] (f 11 0 10),a [2] (f 12 0 11),a [3] (l 13 12),l 14 2,a [4,5] (w 15 (.call 137 [.t 13,.t 14,.c (.func (.func 138) [] [])])),a [6] (m 8 15),a [7] (x 16 0 8),a [7] (x 17 1 8),a [8,6,0,1,2,3,4,5,6,7,8] (m 4 16),a [9,10,0,1,2,3,4,5,6,7,8,9,10] (m 5 17)],r 1 [l 18 1,w 19 (.nilck (.t 18)),f 20 0 19,f 21 0 20,l 22 21,m 23 4,w 24 (.slc 5 (.t 22) (some (.t 23)) none),e 25 24,n 26 O],.block 0 (.loop (S [r 2 [o 27 .lss 26 25],.cond (.t 27) .skip (.exit 0),.block 1 (S [r 3 [i 28 5 24 26,L 29 5 28,w 7 (.alloc [O,O,.int .u8 0,.nils,.nils]),s 5 7 29],r 4 [f 30 0 7,l 31 30,l 32 2,o 33 .neq 31 32,m 34 33,g 34 false (m 35 0),g 34 false (L 36 5 7),g 34 false (w 37 (.callv (.t 35) [.t 36])),g 34 false (t 38 37),u 39 34 38],.cond (.t 39) .ret .skip]),r 5 [k 40 .add 26 I,m 26 40]]))]
end
section
variable {P:Program} {N:Nat} {c:Code}
def Zb3 {a b:RCode} (h:Z1A P N c (.seq a b)=true):∃ c1 c2,c = .seq c1 c2/\Z1A P N c1 a=true/\Z1A P N c2 b=true:=by
 cases c <;> simp only[Z1A,W05,W01]at h
 exact ⟨_,_,rfl,h.1,h.2⟩
def Zb4 {id:Nat} {a:RCode} (h:Z1A P N c (.block id a)=true):∃ c1,c = .block id c1/\Z1A P N c1 a=true:=by
 cases c <;> simp only[Z1A,W05,W01,W0A]at h
 obtain ⟨rfl,h⟩:=h;exact ⟨_,rfl,h⟩
def Zb5 {a:RCode} (h:Z1A P N c (.loop a)=true):∃ c1,c = .loop c1/\Z1A P N c1 a=true:=by
 cases c <;> simp only[Z1A,W05]at h
 exact ⟨_,rfl,h⟩
def Zb6 {id:Nat} {rs:List ROper} (h:Z1A P N c (.reg id false rs)=true):∃ ops,c = .region id ops false/\allB2 (Z1z P N ops) ops.toList rs=true:=by
 cases c <;> simp only[Z1A,W05,W01,W0A]at h
 obtain ⟨⟨⟨rfl,rfl⟩,h⟩,-⟩:=h;exact ⟨_,rfl,h⟩
end
section
variable {P:Program} {R:Run} {rd:Option Nat} {m:Nat} {ops:Array Oper} {Q:Exit->Act->World->Prop}
def Zb7 (l2:List Nat):∀ (l:List Nat) (rs':List ROper) (st:St) (K:St->Prop) (a:Act) (W:World),
  (∀ (i:Nat) (r:ROper),rs'[i]? = some r->∃ (j:Nat) (o:Oper),l[i]? = some j/\ops[j]? = some o/\Z1z P R.N ops o r=true)->l.length=rs'.length->(∀ st' a' W',K st'->SR R st' a' W'->wpOpsIn (FW rd) m P ops Q l2 a' W') ->
  RW P R.G rs' st (λe s=>e = .normal/\K s)->SR R st a W->wpOpsIn (FW rd) m P ops Q (l++l2) a W:=by
 intro l
 induction l with
 | nil =>
   intro rs' st K a W hok hl hK hr hs
   cases rs' with
   |nil=>exact hK st a W hr.2 hs
   |cons r rs'=>simp at hl
 | cons j l ih =>
   intro rs' st K a W hok hl hK hr hs
   cases rs' with
   |nil=>simp at hl
   | cons r rs' =>
     obtain ⟨j',o,hj,ho,hk⟩:=hok 0 r rfl;simp at hj;subst hj
     have go:∀ (st':St) (a':Act) (W':World),RW P R.G rs' st' (λe s=>e = .normal/\K s)->SR R st' a' W'->wpOpsIn (FW rd) m P ops Q (l++l2) a' W':=λst' a' W' h2 hs' =>
      ih rs' st' K a' W' (λi r hi=>by simpa using hok (i+1) r (by simpa using hi)) (by simpa using hl) hK h2 hs'
     rw[W1e,wpOpsIn_cons];rcases Z22 hr with ⟨st',h1,h2⟩ | ⟨hw,g,args,hi,hc⟩
     . exact Z26 h1 ho hk hs λa' W' hs'=>go st' a' W' h2 hs'
     . obtain ⟨κ,hκ⟩:=hs;have hk0:=hk;simp only[Z1z,W01,W0b]at hk;obtain ⟨⟨⟨hd,hdn⟩,-⟩,-⟩:=hk;have hdn':∀ n,r.d=some n->n<R.N:=λn e=>by rw[e]at hdn;simpa using hdn
       refine Z25 hi hw ho hk0 hκ λvs ha=>?_
       rcases hc with ⟨v,st1,hc,hn⟩ | ⟨ch,hc,hn⟩
       . obtain ⟨h1,h2⟩:=hc R a W κ vs rfl hκ ha;refine ⟨h1,h2.mono ?_⟩;rintro e W' ⟨u,κ1,rfl,h3,h4⟩;refine go _ _ _ hn ⟨κ1,?_⟩;rw[hd];exact h3.putd hdn' h4
       . exact absurd hn.1 (by simp)
end
def Zb8 (M:Nat->Prop) (W:World) (N:Nat) (rd:Option Nat):Run :=
 { G:=λ_=>none,M:=M,X:=λ_=>False,W0:=W,N:=N,E0:={ M:=M,loc:=λ_=>none,row:=λ_=>none },rd:=rd,nm:=true }
def TT' (M:Nat->Prop) (W:World) (t:List (Nat×AV)) (a:Act):Prop:=∀ n x,lk t n=some x->PV M W x (a.tmps.getD n Go.undef)
def Zb9 {M:Nat->Prop} {W:World} {N:Nat} {rd:Option Nat} {t:List (Nat×AV)} {a:Act} (hM:∀ b,M b->b<W.heap.size) (hd:a.defers=[]) (hN:a.tmps.size=N) (ht:TT' M W t a):SR (Zb8 M W N rd) ⟨t,[]⟩ a W:=by
 have hGM:∀ b,b<W.heap.size->¬M b->¬((⟨t,[]⟩ : St).env M (λ_=>none)).M b/\W.heap[b]? = W.heap[b]?:=λb _ h1=>⟨(by rintro (h2 | ⟨k,s,h2⟩) <;> first|exact h1 h2|cases h2),rfl⟩
 refine ⟨λ_=>none,⟨[],by simp[hd,Zb8],.nil,by simp,λ_=>rfl⟩,hN,λn x hx=>.pv ((ht n x hx).mono hGM (W0f _)),(λk o ho=>by simp[St.get,lk]at ho),(λk p hk=>by cases hk),(λk k' b s s' hk=>by cases hk),hM,λ_ _ h=>h,Kp.refl _ _,(λg cs hg=>by cases hg),⟨W0f _,hGM,λk p hk=>(by cases hk),λk sz m hk=>(by cases hk)⟩,λ_ _=>⟨rfl,rfl⟩⟩
def Zba {M:Nat->Prop} {W W':World} {N:Nat} {rd:Option Nat} {st:St} {a:Act} (h:SR (Zb8 M W N rd) st a W') {t:List (Nat×AV)} (hw:Ym st ⟨t,[]⟩) (hp:∀ q∈t,q.2.pure=true) :
  a.defers=[]/\a.tmps.size=N/\TT' M W' t a/\Ext W W':=by
 obtain ⟨κ,hk⟩:=hw _ _ _ h;obtain ⟨cs,e,-,-,hz⟩:=hk.defers
 have hκ:∀ k,κ k=none:=λk=>by
  cases e:κ k with
  |none=>rfl
  |some p=>obtain ⟨o,ho⟩:=hk.dom k p e;simp[St.get,lk]at ho
 refine ⟨by rw[e,hz rfl];rfl,hk.size,λn x hx=>?_,⟨hk.kp.os,hk.kp.tape,hk.kp.output,hk.kp.size,λi hi=>hk.kp.block i hi (λh=>h)⟩⟩;refine ((hk.tm n x hx).toPV (hp (n,x) (Z4K hx))).mono (λb _ hb=>⟨λh=>hb (.inl h),rfl⟩) (W0f _)
def Zbb {P:Program} {R:Run} {st:St} {a:Act} {W:World} {κ:Nat->Option (Nat×Nat)} {rd:Option Nat} {m:Nat} {ops:Array Oper} {r:ROper} {j l:Nat} {o:Oper} {f y:RA} {K:Act->World->Prop} {Q:Exit->Act->World->Prop}
  (hr:r.op = .callv f [y]) (hf:evA R.G st f = .func (.yield l) [] []) (hw:wants st r.guard=some true) (ho:ops[j]? = some o) (hk:Z1z P R.N ops o r=true) (hκ:SK R st a W κ)
  (hc:∀ u,VR (st.env R.M κ) W (evA R.G st y) u->YieldAt (FW rd) (m-1) P l #[u] W fun
   |.returned v,W'=>K (a.put o.dst v) W'
   |.panicked ch,W'=>Q (.panic ch) a W'
   |.outgrown,_=>LetsOut Q):wpOpIn (FW rd) m P ops Q j K a W:=by
 simp only[Z1z,W01,W0b]at hk;obtain ⟨⟨⟨hd,hdn⟩,hop⟩,hg⟩:=hk;unfold wpOpIn;simp only[ho];rw[if_pos (Z20 hκ hg hw)];rw[hr]at hop;simp only[Z1y,if_true,Z1x]at hop
 split at hop <;> try (simp at hop;done)
 . simp_all
 . simp_all
 . rename_i r0 x xs ats y' ys e1 e2;simp only[W01]at hop;simp only[ROp.callv.injEq]at e2;obtain ⟨rfl,rfl⟩:=e2;have hx:=hκ.ev hop.1;rw[hf]at hx;obtain ⟨us,vs,hv1,hv2,hv3⟩:=hx.func_inv
   obtain rfl:us = #[]:=by
    have:=hv2.1;rw[<- W16];exact W0l.1 (by simpa using this)
   obtain rfl:vs = #[]:=by
    have:=hv3.1;rw[<- W16];exact W0l.1 (by simpa using this)
   cases xs with
   |nil=>simp[allB2]at hop
   | cons z xs =>
     cases xs with
     |cons _ _=>simp[allB2]at hop
     | nil =>
       have hz:=hκ.ev (show okA z y=true by simpa [allB2] using hop.2);obtain ⟨fn,tmps,assign,body,h1,h2⟩:=hc _ hz;refine ⟨λ_ _=>trivial,?_⟩;rw[Oper.semAt_eq _ _ _ (λc e=>by rw[e1]at e;cases e)]
       have:(execOp a.eval o).run P W = .ok (.round l fn tmps assign body) W:=by
        rw[<- h1];simp[execOp,e1,resolve,hv1,Deferred.ofValue,invoke,Sem.run_bind]
       rw[this];exact ⟨Z24,h2⟩
def elsOf (r:Jr) (n:Int):List AV:=(r.filter (λx=>decide (x.d=n))).map (λx=>.agg (isa x))
def Zbc {n:Int}:∀ (l:Jr),(l.map (·.d)).Pairwise (· <= ·)->(∀ x∈l,n<=x.d) ->
  (l.filter (λx=>decide (x.d=n))).length<=l.length/\(∀ i,i<(l.filter (λx=>decide (x.d=n))).length->(l.filter (λx=>decide (x.d=n)))[i]? = l[i]? /\ ∀ x,l[i]? = some x->x.d=n) /\
   ∀ x,l[(l.filter (λx=>decide (x.d=n))).length]? = some x->x.d≠n
 |[],_,_=>by simp
 | y :: l,hs,hg=>by
   simp only[W0F,W1l]at hs;obtain ⟨h1,h2,h3⟩:=Zbc l hs.2 λx hx=>hg x (W0z _ hx)
   by_cases hy:y.d=n
   . have e:(y::l).filter (λx=>decide (x.d=n))=y::l.filter (λx=>decide (x.d=n)):=(by simp[hy]);rw[e];refine ⟨by simpa using h1,λi hi=>?_,λx hx=>h3 x (by simpa using hx)⟩
     cases i with
     |zero=>exact ⟨rfl,λx hx=>by simp at hx;subst hx;exact hy⟩
     |succ i=>exact ⟨by simpa using (h2 i (by simpa using hi)).1,λx hx=>(h2 i (by simpa using hi)).2 x (by simpa using hx)⟩
   . have gt:n<y.d:=by have:=hg y (W0H ..);omega
     have e:(y::l).filter (λx=>decide (x.d=n))=[]:=by
      rw[W2m];intro x hx;rcases W0g.1 hx with rfl|hx
      . simpa using hy
      . have:=hs.1 x.d (W0i.2 ⟨x,hx,rfl⟩);simp;omega
     rw[e];refine ⟨by simp,by simp,λx hx=>?_⟩;simp at hx;subst hx;exact hy
def Zbd {r:Jr} {n:Int} (hs:(r.map (·.d)).Pairwise (· <= ·)):∃ cnt,cnt=(r.filter (λx=>decide (x.d=n))).length/\cnt<=(r.drop (lowB (r.map (·.d)) n)).length /\
  (∀ i,i<cnt->(r.filter (λx=>decide (x.d=n)))[i]? = (r.drop (lowB (r.map (·.d)) n))[i]? /\ ∀ x,(r.drop (lowB (r.map (·.d)) n))[i]? = some x->x.d=n)/\(∀ x,(r.drop (lowB (r.map (·.d)) n))[cnt]? = some x->x.d≠n):=by
 have e:r.filter (λx=>decide (x.d=n))=(r.drop (lowB (r.map (·.d)) n)).filter (λx=>decide (x.d=n)):=by
  conv=>lhs;rw[<- W11 (lowB (r.map (·.d)) n) r]
  rw[W1a]
  have:(r.take (lowB (r.map (·.d)) n)).filter (λx=>decide (x.d=n))=[]:=by
   rw[W2m];intro x hx;obtain ⟨i,hi,rfl⟩:=W0k hx;simp only[W15]at hi;have:=(ZaU hs n i (by simp;omega)).1 (by omega);simp only[W1w]at this;simp only[W1V];simp;omega
  rw[this,W18]
 refine ⟨_,rfl,?_⟩;rw[e];refine Zbc _ ?_ λx hx=>?_
 . rw[List.map_drop];exact hs.sublist (List.drop_sublist _ _)
 . obtain ⟨i,hi,rfl⟩:=W0k hx;simp only[List.length_drop]at hi;have q:=ZaU hs n (lowB (r.map (·.d)) n+i) (by simp;omega);simp only[W1w]at q;simp only[List.getElem_drop];by_cases h:r[lowB (r.map (·.d)) n+i].d<n
   . have:=q.2 h;omega
   . omega
def Zbe (a b:Int):PC prog G 31 [.int .i64 a,.int .i64 b] (.int .i64 (if a<b then -1 else if b<a then 1 else 0)):=by
 (refine Z8i rfl λR hG hrd=>Qga ?_;subst hG)
 by_cases h1:a<b
 . simp -implicitDefEqProofs[Z8g,Z8h];refine Qco (ZaY a) ?_;simp -implicitDefEqProofs;refine Qco (ZaY b) ?_;simp -implicitDefEqProofs[h1]
 . by_cases h2:b<a
   . simp -implicitDefEqProofs[Z8g,Z8h];refine Qco (ZaY a) ?_;simp -implicitDefEqProofs;refine Qco (ZaY b) ?_;simp -implicitDefEqProofs[h1,h2]
   . simp -implicitDefEqProofs[Z8g,Z8h];refine Qco (ZaY a) ?_;simp -implicitDefEqProofs;refine Qco (ZaY b) ?_;simp -implicitDefEqProofs[h1,h2]
def Zbf (x:Iss) (n:Int):PC prog G 138 [.agg (isa x),.int .i64 n] (.int .i64 (if x.d<n then -1 else if n<x.d then 1 else 0)):=by
 (refine Z8r rfl λR hG hrd=>Qga ?_;subst hG)
 simp -implicitDefEqProofs[Z8p,Z8q,isa];refine Qco (Zbe _ _) ?_;simp -implicitDefEqProofs
def Zbg (r:Jr) (n:Int) (hs:(r.map (·.d)).Pairwise (· <= ·)) (hl:Sml r):∃ b,PC prog G 137 [.vsl (r.map isa),.int .i64 n,.func (.func 138) [] []] (.tup [.int .i64 (lowB (r.map (·.d)) n),.bool b]):=by
 have hle:=ZaT (r.map (·.d)) n;simp only[W0N]at hle;refine ⟨if h:lowB (r.map (·.d)) n<r.length then decide ((if r[lowB (r.map (·.d)) n].d<n then (-1:Int) else if n<r[lowB (r.map (·.d)) n].d then 1 else 0)=0) else false,?_⟩
 (refine Z8l rfl λR hG hrd=>Qga ?_;subst hG)
 unfold Sml at hl;simp -implicitDefEqProofs[Z8j,Z8k];refine Z1Q (λp:Nat×Nat=>⟨[(10,.int .i64 p.2),(9,.int .i64 p.1),(8,.int .i64 r.length),(0,.vsl (r.map isa)),(1,.int .i64 n),(2,.func (.func 138) [] [])],[]⟩) (λp=>p.1<=lowB (r.map (·.d)) n/\lowB (r.map (·.d)) n<=p.2/\p.2<=r.length) (λp=>p.2-p.1) (0,r.length) (by (first|exact Wka|exact Wkb)) ⟨by omega,hle,W0f _⟩ ?_;rintro ⟨lo,hi⟩ ⟨h1,h2,h3⟩;simp only at h1 h2 h3;refine Qga ?_;by_cases h4:lo<hi
 . obtain ⟨m,hm⟩:=Qex ((lo+hi) / 2);have hw:=ZaX (i:=lo) (j:=hi) (by omega);rw[<- hm]at hw;have m1:m<r.length:=(by omega);have w1:i64.wrap ((m:Int)+1)=((m+1:Nat):Int):=Yf;have hb:=ZaU hs n m (by simpa using m1);simp only[W1w]at hb;by_cases h5:r[m].d<n
   . have c1:(-1:Int)<0:=(by omega);simp -implicitDefEqProofs[h4,hw,m1,isa];refine Qco (Zbf r[m] n) ?_;simp -implicitDefEqProofs[h5,w1];exact ⟨(m+1,hi),(by (first|exact Wka|exact Wkb)),⟨by have:=hb.2 h5;show m+1<=_;omega,h2,h3⟩,by show hi-(m+1)<hi-lo;omega⟩
   . simp -implicitDefEqProofs[h4,hw,m1,isa];refine Qco (Zbf r[m] n) ?_;by_cases h6:n<r[m].d
     . simp -implicitDefEqProofs[h5,h6];exact ⟨(lo,m),(by (first|exact Wka|exact Wkb)),⟨h1,by have:¬m<lowB (r.map (·.d)) n:=λh=>h5 (hb.1 h);show _<=m;omega,by show m<=_;omega⟩,by show m-lo<hi-lo;omega⟩
     . simp -implicitDefEqProofs[h5,h6];exact ⟨(lo,m),(by (first|exact Wka|exact Wkb)),⟨h1,by have:¬m<lowB (r.map (·.d)) n:=λh=>h5 (hb.1 h);show _<=m;omega,by show m<=_;omega⟩,by show m-lo<hi-lo;omega⟩
 . obtain rfl:lo=lowB (r.map (·.d)) n:=(by omega);by_cases h5:lowB (r.map (·.d)) n<r.length
   . simp -implicitDefEqProofs[h4];refine Qgr ?_;simp -implicitDefEqProofs[h5,isa];refine Qco (Zbf r[lowB (r.map (·.d)) n] n) ?_;simp -implicitDefEqProofs
   . simp -implicitDefEqProofs[h4];refine Qgr ?_;simp -implicitDefEqProofs[h5]
def issA:RCode->RCode
 |.seq a _=>a
 |c=>c
def Zbh:RCode->RCode
 |.seq _ b=>b
 |c=>c
def issB1 (c:RCode):RCode:=issA (Zbh c)
def issB2 (c:RCode):RCode:=Zbh (Zbh c)
def issB3 (c:RCode):RCode:=match issB2 c with
 |.block _ b=>b
 |c=>c
def issL (c:RCode):RCode:=match issB3 c with
 |.loop b=>b
 |c=>c
def issBk:RCode->RCode
 |.block _ b=>b
 |c=>c
def Zbi:RCode->List ROper
 |.reg _ _ l=>l
 |_=>[]
def itS (seg:Jr) (bk:AV) (n:Int) (l i:Nat):List (Nat×AV) :=
 [(26,.int .i64 i),(25,.int .i64 seg.length),(24,.vsl (seg.map isa)),(2,.vptr [.int .i64 n] 0),(1,.vptr [bk] 0),(0,.func (.yield l) [] [])]
def Zbj (r:Jr) (n:Int) (ds:AV) (hs:(r.map (·.d)).Pairwise (· <= ·)) (hl:Sml r):IterP prog 136 [.vptr [.vptr [.vsl (r.map isa),ds] 0] 0,.vptr [.int .i64 n] 0] (elsOf r n):=by
 refine ⟨by kernel_rfl,?_⟩;intro n' l lb J K M W hn hJe hKe hJM hC hY h0;obtain ⟨cnt,hcnt,hc1,hc2,hc3⟩:=Zbd (n:=n) hs;generalize hseg:r.drop (lowB (r.map (·.d)) n)=seg at hc1 hc2 hc3;have hsl:seg.length<=16777216:=(by rw[<- hseg];simp;unfold Sml at hl;omega);have hle:=ZaT (r.map (·.d)) n;simp only[W0N]at hle;unfold Sml at hl;have hel:(elsOf r n).length=cnt:=(by rw[hcnt];simp[elsOf]);obtain ⟨c,hc,hok⟩ : ∃ c,Tryz.f136.body=some c/\Z1A prog Tryz.f136.ntmps c Zb2=true:=⟨_,rfl,by kernel_rfl⟩;obtain ⟨N,hN⟩:=Qex Tryz.f136.ntmps;have hN3:3<=N:=(by rw[hN];decide);rw[<- hN]at hok;refine callsIn_of_wp (F:=Fence.wide) Tryz.func136 hc trivial ?_ rfl
 have hres:∀ (tm:Array Value) (W':World),(results Tryz.f136 tm).run prog W' = .ok (.tuple #[]) W':=λtm W'=>by
  have e:Tryz.f136.results = #[]:=rfl;simp[results,e,Sem.run_bind]
 obtain ⟨Q,hQ⟩:=Qex (bodyPost prog Tryz.f136 (λe W'=>(∃ v,e = .returned v)/\((∃ M,J (elsOf r n).length M W')∨K W')))
 have hfin:∀ (a:Act) (W':World),a.defers=[]->((∃ M,J (elsOf r n).length M W')∨K W')->Q .ret a W'/\Q .normal a W':=λa W' hd h=>by
  rw[hQ];exact ⟨⟨hd,_,hres _ _,⟨_,rfl⟩,h⟩,⟨hd,_,hres _ _,⟨_,rfl⟩,h⟩⟩
 rw[<- hQ];have hwide:Fence.wide=FW none:=rfl;rw[hwide];obtain ⟨cA,c1,rfl,okA',ok1⟩:=Zb3 (a:=issA Zb2) (b:=Zbh Zb2) hok;obtain ⟨cB,c2,rfl,okB',ok2⟩:=Zb3 (a:=issB1 Zb2) (b:=issB2 Zb2) ok1;obtain ⟨c3,rfl,ok3⟩:=Zb4 (id:=0) (a:=issB3 Zb2) ok2;obtain ⟨c4,rfl,ok4⟩:=Zb5 (a:=issL Zb2) ok3
 have hbk:∃ v1 v2,lb = #[v1,v2]/\PV M W (.vptr [.vptr [.vsl (r.map isa),ds] 0] 0) v1/\PV M W (.vptr [.int .i64 n] 0) v2:=by
  obtain ⟨h1,h2⟩:=hC
  match lb,h1,h2 with
  | ⟨[v1,v2]⟩,_,h2=>exact ⟨v1,v2,rfl,h2 0 _ v1 rfl rfl,h2 1 _ v2 rfl rfl⟩
 obtain ⟨v1,v2,rfl,hv1,hv2⟩:=hbk;obtain ⟨bk,hbk⟩:=Qex (AV.vptr [.vsl (r.map isa),ds] 0);rw[<- hbk]at hv1
 have start:SR (Zb8 M W N none) ⟨[(2,.vptr [.int .i64 n] 0),(1,.vptr [bk] 0),(0,.func (.yield l) [] [])],[]⟩ { tmps:=(#[.func (.yield l) #[] #[]] ++ #[v1,v2]:Array Value)++Array.replicate (N-3) Go.undef,defers:=[] } W:=by
  refine Zb9 (hJM 0 M W h0) rfl (by simp;omega) λk x hx=>?_
  have g0:((#[.func (.yield l) #[] #[]] ++ #[v1,v2]:Array Value)++Array.replicate (N-3) Go.undef).getD 0 Go.undef = .func (.yield l) #[] #[]:=(by simp[Array.getD]);have g1:((#[.func (.yield l) #[] #[]] ++ #[v1,v2]:Array Value)++Array.replicate (N-3) Go.undef).getD 1 Go.undef=v1:=(by simp[Array.getD];omega);have g2:((#[.func (.yield l) #[] #[]] ++ #[v1,v2]:Array Value)++Array.replicate (N-3) Go.undef).getD 2 Go.undef=v2:=(by simp[Array.getD];omega);simp only[lk]at hx
  split at hx
  . rename_i e;subst e;cases hx;rw[g2];exact hv2
  . split at hx
    . rename_i e;subst e;cases hx;rw[g1];exact hv1
    . split at hx
      . rename_i e;subst e;cases hx;rw[g0];exact .func _ [] [] #[] #[] rfl rfl (by simp) (by simp)
      . cases hx
 have hact:({ tmps:=(#[.func (.yield l) #[] #[]] ++ #[v1,v2]:Array Value)++Array.replicate (Tryz.f136.ntmps-(#[.func (.yield l) #[] #[]] ++ #[v1,v2]:Array Value).size) Go.undef,defers:=[] }:Act)={ tmps:=(#[.func (.yield l) #[] #[]] ++ #[v1,v2]:Array Value)++Array.replicate (N-3) Go.undef,defers:=[] }:=(by rw[hN];rfl);rw[hact]
 have arA:AR prog (Zb8 M W N none) (issA Zb2) ⟨[(2,.vptr [.int .i64 n] 0),(1,.vptr [bk] 0),(0,.func (.yield l) [] [])],[]⟩ (λe s=>e = .normal/\Ym s ⟨[(4,.int .i64 (lowB (r.map (·.d)) n)),(2,.vptr [.int .i64 n] 0),(1,.vptr [bk] 0),(0,.func (.yield l) [] [])],[]⟩):=by
  obtain ⟨b,hb⟩:=Zbg (G:=λ_=>none) r n hs hl;refine Qga ?_;simp -implicitDefEqProofs[issA,Zb2,hbk];refine Ye.of hb (by simp[AV.pure]) ?_;simp -implicitDefEqProofs;exact ⟨rfl,(by (first|exact Wka|exact Wkb))⟩
 have hdr:List.drop (lowB (r.map (·.d)) n) (r.map isa)=seg.map isa:=(by rw[<- List.map_drop,hseg]);have hsg:seg.length=r.length-lowB (r.map (·.d)) n:=(by rw[<- hseg];simp);have htk:List.take r.length (r.map isa)=r.map isa:=W0J (by simp);have k5:(r.map isa).all (λr=>r.length == 5)=true:=by simp[isa]
 have arB:∀ R':Run,AR prog R' (issB1 Zb2) ⟨[(4,.int .i64 (lowB (r.map (·.d)) n)),(2,.vptr [.int .i64 n] 0),(1,.vptr [bk] 0),(0,.func (.yield l) [] [])],[]⟩ (λe s=>e = .normal/\Ym s ⟨itS seg bk n l 0,[]⟩):=λR'=>by
  refine Qga ?_;simp -implicitDefEqProofs[issA,issB1,Zbh,Zb2,hbk,hle,k5,hdr];exact (by (first|exact Ym.tm (by simp[lk,itS,hsg,htk,hdr])|exact Ym.sub (by simp[lk,Ya,AV.keys,itS,hsg,htk,hdr]) (by simp[lk,Yc,Ya,AV.keys,itS,hsg,htk,hdr])))
 refine wpIn_seq (wpIn_mono (arA cA okA' _ _ W start) ?_);rintro e a1 W1 ⟨s1,⟨rfl,hw1⟩,hs1⟩;refine wpIn_seq (wpIn_mono (arB _ cB okB' _ a1 W1 (hw1 _ _ _ hs1)) ?_);rintro e a2 W2 ⟨s2,⟨rfl,hw2⟩,hs2⟩;obtain ⟨d2,n2,t2,e2⟩:=Zba hs2 hw2 (by simp[itS,AV.pure,hbk]);have hJ2:=hJe _ _ _ _ h0 e2;clear hs2 hw2 hs1 hw1 arA arB start hact;refine wpIn_block ?_;refine wpIn_loop_ghost (λm a A=>∃ i M,i<=cnt/\m=seg.length-i/\J i M A/\a.defers=[]/\a.tmps.size=N/\TT' M A (itS seg bk n l i) a) seg.length ⟨0,M,W1f _,by simp,hJ2,d2,n2,t2⟩ ?_;clear hJ2 d2 n2 t2 e2 h0 hv1 hv2 hC;rintro m a A ⟨i,M,hi,rfl,hJ,hd,hn2,ht⟩;have hfr:SR (Zb8 M A N none) ⟨itS seg bk n l i,[]⟩ a A:=Zb9 (hJM i M A hJ) hd hn2 ht;by_cases hlt:i<seg.length
 case neg =>
  have hic:i=cnt:=(by omega);subst hic
  have ar:∀ R':Run,AR prog R' (issL Zb2) ⟨itS seg bk n l i,[]⟩ (λe s=>e = .exit 0/\Ym s ⟨[],[]⟩):=λR'=>by
   refine Qga ?_;simp -implicitDefEqProofs[issL,issB3,issB2,Zbh,Zb2,itS,hlt];exact (by (first|exact Wka|exact Wkb))
  refine wpIn_mono (ar _ c4 ok4 _ a A hfr) ?_;rintro e a3 A3 ⟨s3,⟨rfl,hw3⟩,hs3⟩;obtain ⟨d3,-,-,e3⟩:=Zba hs3 hw3 (by simp);refine (hfin a3 A3 d3 (.inl ⟨M,?_⟩)).2;rw[hel];exact hJe _ _ _ _ hJ e3
 by_cases hd2:seg[i].d=n
 case neg =>
  have hic:i=cnt:=by
   by_cases e:i<cnt
   . exact absurd ((hc2 i e).2 _ (W07 hlt)) hd2
   . omega
  subst hic
  have ar:∀ R':Run,AR prog R' (issL Zb2) ⟨itS seg bk n l i,[]⟩ (λe s=>e = .ret/\Ym s ⟨[],[]⟩):=λR'=>by
   refine Qga ?_;simp -implicitDefEqProofs[issL,issB3,issB2,Zbh,Zb2,itS,hlt,isa,hd2];exact (by (first|exact Wka|exact Wkb))
  refine wpIn_mono (ar _ c4 ok4 _ a A hfr) ?_;rintro e a3 A3 ⟨s3,⟨rfl,hw3⟩,hs3⟩;obtain ⟨d3,-,-,e3⟩:=Zba hs3 hw3 (by simp);refine (hfin a3 A3 d3 (.inl ⟨M,?_⟩)).1;rw[hel];exact hJe _ _ _ _ hJ e3
 have hic:i<cnt:=by
  by_cases e:i<cnt
  . exact e
  . exact absurd hd2 (hc3 _ (by rw[show cnt=i by omega];exact W07 hlt))
 have helt:(elsOf r n)[i]? = some (.agg (isa seg[i])):=by
  simp only[elsOf,W09,(hc2 i hic).1,W07 hlt,W0m]
 obtain ⟨L,hL⟩:=Qex (issL Zb2);obtain ⟨r2,q1,rfl,okr2,okq1⟩:=Zb3 (a:=issA (issL Zb2)) (b:=Zbh (issL Zb2)) ok4;obtain ⟨k1,q2,rfl,okk1,okq2⟩:=Zb3 (a:=issA (Zbh (issL Zb2))) (b:=Zbh (Zbh (issL Zb2))) okq1;obtain ⟨q3,r5,rfl,okq3,okr5⟩:=Zb3 (a:=issA (Zbh (Zbh (issL Zb2)))) (b:=Zbh (Zbh (Zbh (issL Zb2)))) okq2;obtain ⟨q4,rfl,okq4⟩:=Zb4 (id:=1) (a:=issBk (issA (Zbh (Zbh (issL Zb2))))) okq3;obtain ⟨r3,q5,rfl,okr3,okq5⟩:=Zb3 (a:=issA (issBk (issA (Zbh (Zbh (issL Zb2)))))) (b:=Zbh (issBk (issA (Zbh (Zbh (issL Zb2)))))) okq4;obtain ⟨r4,k2,rfl,okr4,okk2⟩:=Zb3 (a:=issA (Zbh (issBk (issA (Zbh (Zbh (issL Zb2))))))) (b:=Zbh (Zbh (issBk (issA (Zbh (Zbh (issL Zb2))))))) okq5;obtain ⟨ops,rfl,hops⟩:=Zb6 (id:=4) (rs:=Zbi (issA (Zbh (issBk (issA (Zbh (Zbh (issL Zb2)))))))) okr4;obtain ⟨hol,hoo⟩:=Zc hops;have hol:ops.size=10:=hol
 have ar2:AR prog (Zb8 M A N none) (issA (issL Zb2)) ⟨itS seg bk n l i,[]⟩ (λe s=>e = .normal/\Ym s ⟨(27,.bool true)::itS seg bk n l i,[]⟩):=by
  refine Qga ?_;simp -implicitDefEqProofs[issL,issB3,issB2,issA,Zbh,Zb2,itS,hlt];exact (by (first|exact Wka|exact Wkb))
 refine wpIn_seq (wpIn_mono (ar2 r2 okr2 _ a A hfr) ?_);rintro e b1 B1 ⟨s1,⟨rfl,w1⟩,hs1⟩
 have ark:AR prog (Zb8 M A N none) (issA (Zbh (issL Zb2))) ⟨(27,.bool true)::itS seg bk n l i,[]⟩ (λe s=>e = .normal/\Ym s ⟨itS seg bk n l i,[]⟩):=by
  refine Qga ?_;simp -implicitDefEqProofs[issL,issB3,issB2,issA,Zbh,Zb2,itS];exact (by (first|exact Wka|exact Wkb))
 refine wpIn_seq (wpIn_mono (ark k1 okk1 _ b1 B1 (w1 _ _ _ hs1)) ?_);rintro e b2 B2 ⟨s2,⟨rfl,w2⟩,hs2⟩;refine wpIn_seq (wpIn_block ?_)
 have ar3:AR prog (Zb8 M A N none) (issA (issBk (issA (Zbh (Zbh (issL Zb2)))))) ⟨itS seg bk n l i,[]⟩ (λe s=>e = .normal/\Ym s ⟨(7,.ptr 7 0)::itS seg bk n l i,[(7,.box (isa seg[i]))]⟩):=by
  refine Qga ?_;simp -implicitDefEqProofs[issL,issB3,issB2,issA,Zbh,issBk,Zb2,itS,hlt,isa];exact (by (first|exact Wka|exact Wkb))
 refine wpIn_seq (wpIn_mono (ar3 r3 okr3 _ b2 B2 (w2 _ _ _ hs2)) ?_);rintro e b3 B3 ⟨s3,⟨rfl,w3⟩,hs3⟩;have hs3:=w3 _ _ _ hs3;clear hs1 hs2 w1 w2 w3 ar2 ark ar3;refine wpIn_seq (wpIn_region ?_);have hrg:List.range ops.size=[0,1,2,3,4,5,6]++[7,8,9]:=(by rw[hol];rfl);rw[hrg]
 have okAt:∀ (k:Nat) (r:ROper),(Zbi (issA (Zbh (issBk (issA (Zbh (Zbh (issL Zb2))))))))[k]? = some r->∃ o,ops[k]? = some o/\Z1z prog N ops o r=true:=λk r hk=>by
  have hlt:k<ops.size:=by
   have:=(W02.1 hk).1;rw[hol];exact this
  exact ⟨ops[k],by simp[hlt],hoo k _ r (by simp[hlt]) hk⟩
 refine Zb7 (R:=Zb8 M A N none) [7,8,9] _ ((Zbi (issA (Zbh (issBk (issA (Zbh (Zbh (issL Zb2)))))))).take 7) ⟨(7,.ptr 7 0)::itS seg bk n l i,[(7,.box (isa seg[i]))]⟩
  (λs=>Ym s ⟨(36,.agg (isa seg[i]))::(35,.func (.yield l) [] [])::(34,.bool false)::itS seg bk n l i,[]⟩) b3 B3 ?_ rfl ?_ ?_ hs3
 . intro k r hk;rw[W1m]at hk
   split at hk
   . rename_i h7;obtain ⟨o,h1,h2⟩:=okAt k r hk;refine ⟨k,o,?_,h1,h2⟩
     match k,h7 with
     |0,_|1,_|2,_|3,_|4,_|5,_|6,_=>rfl
   . cases hk
 . intro s4 b4 B4 w4 hs4;obtain ⟨κ4,hk4⟩:=w4 _ _ _ hs4;obtain ⟨d4,n4,t4,e4⟩:=Zba hs4 w4 (by simp[itS,AV.pure,hbk,isa]);obtain ⟨o7,ho7,hk7⟩:=okAt 7 _ rfl;rw[wpOpsIn_cons];refine Zbb (R:=Zb8 M A N none) (l:=l) (f:=.t 35) (y:=.t 36) rfl (by simp[evA,St.tmp,lk]) (by simp[wants,St.tmp,lk]) ho7 hk7 hk4 λu hu=>?_
   have hpu:PV M B4 (.agg (isa seg[i])) u:=by
    have h36:evA (Zb8 M A N none).G ⟨(36,.agg (isa seg[i]))::(35,.func (.yield l) [] [])::(34,.bool false)::itS seg bk n l i,[]⟩ (.t 36) = .agg (isa seg[i]):=(by simp[evA,St.tmp,lk]);rw[h36]at hu;exact (hu.toPV (by simp[AV.pure,isa])).mono (λb _ hb=>⟨λh=>hb (.inl h),rfl⟩) (W0f _)
   have hdst:o7.dst=some 37:=by
    simp only[Z1z,W01,W0b]at hk7;exact hk7.1.1.1
   have h34:b4.tmps.getD 34 Go.undef = .bool false:=by
    have:=t4 34 (.bool false) (by simp[lk]);generalize b4.tmps.getD 34 Go.undef=v at this
    cases this;rfl
   have suffix:∀ (b:Bool) (T:List (Nat×AV)) (M':Nat->Prop) (A':World),(T=itS seg bk n l i∨T=[])->(∀ x,M' x->x<A'.heap.size)->TT' M' A' T b4->∀ (Qx:Exit->Act->World->Prop),
     (∀ a5 A5,SR (Zb8 M' A' N none) ⟨(39,.bool (!b))::T,[]⟩ a5 A5->Qx .normal a5 A5)->wpOpsIn (FW none) n' prog ops Qx [8,9] (b4.put (some 37) (.bool b)) A':=by
    intro b T M' A' hTT hM' hT Qx hQx;have n37:37<N:=by rw[hN];decide
    have hsr:SR (Zb8 M' A' N none) ⟨(37,.bool b)::(34,.bool false)::T,[]⟩ (b4.put (some 37) (.bool b)) A':=by
     refine Zb9 hM' d4 (by simpa [Act.put] using n4) λk x hx=>?_
     show PV M' A' x ((b4.tmps.setIfInBounds 37 (.bool b)).getD k Go.undef);simp only[lk]at hx
     split at hx
     . rename_i e;subst e
       cases hx
       have:(b4.tmps.setIfInBounds 37 (.bool b)).getD 37 Go.undef = .bool b:=(by simp[Array.getD,n4,n37]);rw[this];exact .bool b
     . rename_i e
       have h3:(b4.tmps.setIfInBounds 37 (.bool b)).getD k Go.undef=b4.tmps.getD k Go.undef:=by
        simp only[W0a,W0p,if_neg e]
       rw[h3]
       split at hx
       . rename_i e2;subst e2;cases hx;rw[h34];exact .bool false
       . exact hT k x hx
    refine Z27 (R:=Zb8 M' A' N none) [8,9] ((Zbi (issA (Zbh (issBk (issA (Zbh (Zbh (issL Zb2)))))))).drop 8) ⟨(37,.bool b)::(34,.bool false)::T,[]⟩
     (λe s=>e = .normal/\Ym s ⟨(39,.bool (!b))::T,[]⟩) Qx _ A' ?_ rfl ?_ ?_ hsr
    . intro k r hk;rw[W13]at hk;obtain ⟨o,h1,h2⟩:=okAt (8+k) r hk
      have h7:k<2:=by
       have:=(W02.1 hk).1;have e:(Zbi (issA (Zbh (issBk (issA (Zbh (Zbh (issL Zb2)))))))).length=10:=rfl;omega
      refine ⟨8+k,o,?_,h1,h2⟩
      match k,h7 with
      |0,_|1,_=>rfl
    . rintro e s5 a5 A5 ⟨rfl,w5⟩ hs5;exact hQx a5 A5 (w5 _ _ _ hs5)
    . rcases hTT with rfl|rfl <;> cases b
      all_goals
       simp -implicitDefEqProofs[issL,issB3,issB2,issA,Zbh,issBk,Zbi,Zb2,itS];exact (by (first|exact Wka|exact Wkb))
   obtain ⟨fn,tm,asg,bo,y1,y2⟩:=hY i _ u M B4 (hJe _ _ _ _ hJ e4) helt hpu;refine ⟨fn,tm,asg,bo,y1,y2.mono ?_⟩;rintro e A' (⟨rfl,M',hJ',hSi⟩ | ⟨rfl,hK'⟩)
   . show wpOpsIn (FW none) n' prog ops _ [8,9] (b4.put o7.dst (.bool true)) A';rw[hdst]
     have hT':TT' M' A' (itS seg bk n l i) b4:=λk x hx=>by
      refine (t4 k x ?_).mono hSi.2 hSi.1;simp only[lk];rw[if_neg (by rintro rfl;simp[itS,lk]at hx),if_neg (by rintro rfl;simp[itS,lk]at hx),if_neg (by rintro rfl;simp[itS,lk]at hx)];exact hx
     refine suffix true _ M' A' (.inl rfl) (hJM _ _ _ hJ') hT' _ λa5 A5 h5=>?_
     have ark2:AR prog (Zb8 M' A' N none) (Zbh (Zbh (issBk (issA (Zbh (Zbh (issL Zb2))))))) ⟨(39,.bool (!true))::itS seg bk n l i,[]⟩ (λe s=>e = .normal/\Ym s ⟨itS seg bk n l i,[]⟩):=by
      refine Qga ?_;simp -implicitDefEqProofs[issL,issB3,issB2,issA,Zbh,issBk,Zb2,itS];exact (by (first|exact Wka|exact Wkb))
     refine wpIn_mono (ark2 k2 okk2 _ a5 A5 h5) ?_;rintro e b6 B6 ⟨s6,⟨rfl,w6⟩,hs6⟩
     have ar5:AR prog (Zb8 M' A' N none) (Zbh (Zbh (Zbh (issL Zb2)))) ⟨itS seg bk n l i,[]⟩ (λe s=>e = .normal/\Ym s ⟨itS seg bk n l (i+1),[]⟩):=by
      have w1:i64.wrap ((i:Int)+1)=((i+1:Nat):Int):=Yf;refine Qga ?_;simp -implicitDefEqProofs[issL,issB3,issB2,issA,Zbh,issBk,Zb2,itS,w1];exact (by (first|exact Wka|exact Wkb))
     refine wpIn_mono (ar5 r5 okr5 _ b6 B6 (w6 _ _ _ hs6)) ?_;rintro e b7 B7 ⟨s7,⟨rfl,w7⟩,hs7⟩;obtain ⟨d7,n7,t7,e7⟩:=Zba hs7 w7 (by simp[itS,AV.pure,hbk]);exact ⟨seg.length-(i+1),by omega,i+1,M',by omega,rfl,hJe _ _ _ _ hJ' e7,d7,n7,t7⟩
   . show wpOpsIn (FW none) n' prog ops _ [8,9] (b4.put o7.dst (.bool false)) A';rw[hdst];refine suffix false [] (λ_=>False) A' (.inr rfl) (λ_ h=>h.elim) (λk x hx=>by simp[lk]at hx) _ λa5 A5 h5=>?_
     have ark2:AR prog (Zb8 (λ_=>False) A' N none) (Zbh (Zbh (issBk (issA (Zbh (Zbh (issL Zb2))))))) ⟨[(39,.bool (!false))],[]⟩ (λe s=>e = .ret/\Ym s ⟨[],[]⟩):=by
      refine Qga ?_;simp -implicitDefEqProofs[issL,issB3,issB2,issA,Zbh,issBk,Zb2];exact (by (first|exact Wka|exact Wkb))
     refine wpIn_mono (ark2 k2 okk2 _ a5 A5 h5) ?_;rintro e b6 B6 ⟨s6,⟨rfl,w6⟩,hs6⟩;obtain ⟨d6,-,-,e6⟩:=Zba hs6 w6 (by simp);exact (hfin b6 B6 d6 (.inr (hKe _ _ hK' e6))).1
 . simp -implicitDefEqProofs[issL,issB3,issB2,issA,Zbh,issBk,Zbi,Zb2,itS,isa,hd2];exact (by (first|exact Wka|exact Wkb))
def bkA (r:Jr) (ds:List Int):AV:=.vptr [.vsl (r.map isa),.vsl (ds.map ia)] 0
def Zbk (r:Jr) (ds:List Int):(bkA r ds).pure=true:=by simp[bkA,AV.pure]
attribute [simp] Zbk
def Zbl (r:Jr) (ds:List Int) (n:Int) (hs:ds.Pairwise (· <= ·)) (hl:Sml ds):PC prog G 93 [bkA r ds,.int .i64 n] (.bool (decide (n∈ds))):=by
 (refine Z83 rfl λR hG hrd=>Qga ?_;subst hG)
 simp -implicitDefEqProofs[Z81,Z82,bkA];refine Qco (Zb1 ds n hs hl) ?_;simp -implicitDefEqProofs
def Zbm (r:Jr) (ds:List Int) (y:Int×Int) (hs:ds.Pairwise (· <= ·)) (hl:Sml ds):PC prog G 92 [.agg [.int .i64 y.1,.int .i64 y.2],.vptr [bkA r ds] 0] (.bool (!decide (y.1∈ds))):=by
 (refine Z80 rfl λR hG hrd=>Qga ?_;subst hG)
 simp -implicitDefEqProofs[Z7Y,Z7Z];refine Qco (Zbl r ds y.1 hs hl) ?_;simp -implicitDefEqProofs
def Zbn (r:Jr) (ds:List Int) (n:Int):PC prog G 124 [bkA r ds,.int .i64 n] (.func (.func 136) [] [.vptr [bkA r ds] 0,.vptr [.int .i64 n] 0]):=by
 (refine Z8o rfl λR hG hrd=>Qga ?_;subst hG)
 simp -implicitDefEqProofs[Z8m,Z8n,bkA]
def cntV (r:Jr) (n:Int):Int:=((r.filter (λx=>decide (x.d=n))).length:Nat)
def Zbo (r:Jr) (ds:List Int) (d l:Int) (hs:(r.map (·.d)).Pairwise (· <= ·)) (hl:Sml r) (hu:∀ y∈r,findN y.d y.l r=some y):PC prog G 181 [bkA r ds,.agg [.int .i64 d,.int .i64 l]] (fndA (findN d l r)):=by
 (refine Z8u rfl λR hG hrd=>Qga ?_;subst hG)
 simp -implicitDefEqProofs[Z8s,Z8t];refine Qco (Zbn r ds d) ?_;simp -implicitDefEqProofs
 refine Z5a hrd (Zbj r d (.vsl (ds.map ia)) hs hl) (by simp[evA,St.tmp,lk,bkA]) (by simp[AV.pure]) (λk=>k-1000) [(3,.ptr 1003 0),(4,.ptr 1004 0),(5,.ptr 1005 0)] (λ_=>[(1003,.box [.int .i64 d,.int .i64 l]),(1004,.box [.int .i64 0,.int .i64 0,.int .u8 0,.nils,.nils]),(1005,.box [.bool false])])
  [1003,1004,1005] (λk=>∀ j,j<k->∀ y,(r.filter (λx=>decide (x.d=d)))[j]? = some y->y.l≠l) (by simp) (λ_=>rfl) (by simp) (by simp) (by simp[Yl,St.set,putO,AObj.ren,AV.ren]) (by simp[Yc,Ya,AV.keys]) (by simp[lk,AV.ren,AV.keys]) ?_ ?_
 . intro k x hx hI R' hG hN
   obtain ⟨y,hy,rfl⟩ : ∃ y,(r.filter (λx=>decide (x.d=d)))[k]? = some y/\x = .agg (isa y):=by
    simp only[elsOf,W09,W04]at hx;obtain ⟨y,h1,h2⟩:=hx;exact ⟨y,h1,h2.symm⟩
   have hym:=W0G.1 (W0d hy);have hyd:y.d=d:=W0X hym.2;refine Qga ?_;simp -implicitDefEqProofs[isa];intro R'' hG'' hN'';refine Qga ?_;simp -implicitDefEqProofs;refine Qco (ZaM y) ?_;simp -implicitDefEqProofs;refine ⟨rfl,?_⟩;by_cases e:y.l=l
   . simp -implicitDefEqProofs[hyd,e,RndB,Yi,newK,frzO,frzA,frz,AV.keys,Yl,AObj.ren,AV.ren];refine Qgr ?_
     have hf:findN d l r=some y:=by
      have:=hu y hym.1;rw[hyd,e]at this;exact this
     simp -implicitDefEqProofs[hf,fndA,isa,hyd,e]
   . simp -implicitDefEqProofs[hyd,e,RndB,Yi,newK,frzO,frzA,frz,AV.keys];intro j hj z hz;by_cases e2:j=k
     . subst e2;rw[hy]at hz;cases hz;exact e
     . exact hI j (by omega) z hz
 . intro hI
   have hn:findN d l r=none:=by
    cases hf:findN d l r with
    |none=>rfl
    | some y =>
      obtain ⟨h1,h2,h3⟩:=Zav hf;obtain ⟨j,hj,he⟩:=W0k (show y∈r.filter (λx=>decide (x.d=d)) from W0G.2 ⟨h1,W0M h2⟩);exact absurd h3 (hI j (by simp[elsOf];exact hj) y (by rw[W07 hj,he]))
   simp -implicitDefEqProofs[Yl,AObj.ren,AV.ren];refine Qgr ?_;simp -implicitDefEqProofs[hn,fndA,noIs]
def dpA (dp:List (Int×Int)):List (AV×AV):=dp.map λp=>(.int .i64 p.1,.int .i64 p.2)
def lfA (lf:List Int):List (AV×AV):=lf.map λn=>(.int .i64 n,.bool true)
def dpLk (n:Int):List (Int×Int)->Option Int
 |[]=>none
 |p::r=>if n=p.1 then some p.2 else dpLk n r
def dpG (dp:List (Int×Int)) (n:Int):Int:=(dpLk n dp).getD 0
def Zbp (n:Int):∀ dp:List (Int×Int),∃ o:Option Nat,(KK.i .i64).find (.int .i64 n) (dpA dp)=some o/\match o with
  |some j=>∃ v,dp[j]? = some (n,v)/\dpLk n dp=some v
  |none=>dpLk n dp=none/\∀ p∈dp,p.1≠n
 |[]=>⟨none,rfl,rfl,by simp⟩
 | p :: r=>by
   obtain ⟨o,h1,h2⟩:=Zbp n r;by_cases e:n=p.1
   . refine ⟨some 0,by simp[dpA,KK.find,KK.eq,e],p.2,by simp[e],by simp[dpLk,e]⟩
   . refine ⟨o.map (· + 1),?_,?_⟩
     . simp only[dpA,W0F,KK.find,KK.eq,and_self,if_true,e,W1x];rw[show r.map (λp=>(AV.int .i64 p.1,AV.int .i64 p.2))=dpA r from rfl,h1];rfl
     . cases o with
       |none=>exact ⟨by simp only[dpLk,e,if_false];exact h2.1,λq hq=>by
        rcases W0g.1 hq with rfl|hq
        . exact λh=>e h.symm
        . exact h2.2 q hq⟩
       | some j =>
         obtain ⟨v,h3,h4⟩:=h2;exact ⟨v,by simpa using h3,by simp only[dpLk,e,if_false];exact h4⟩
def Zbq (n:Int) (dp:List (Int×Int)):(KK.i .i64).get (.int .i64 n) (dpA dp)=some ((dpLk n dp).map λv=>.int .i64 v):=by
 obtain ⟨o,h1,h2⟩:=Zbp n dp;have hi:(KK.i .i64).is (.int .i64 n)=true:=(by simp[KK.is]);unfold KK.get;rw[if_pos hi,h1]
 cases o with
 |none=>simp[h2.1]
 |some j=>obtain ⟨v,h3,h4⟩:=h2;simp[dpA,h3,h4]
def Zbr {n:Int} (v:Int) {dp:List (Int×Int)} (h:n ∉ dp.map (·.1)):(KK.i .i64).put (.int .i64 n) (.int .i64 v) (dpA dp)=some (dpA (dp++[(n,v)])):=by
 obtain ⟨o,h1,h2⟩:=Zbp n dp;have hi:(KK.i .i64).is (.int .i64 n)=true:=(by simp[KK.is]);unfold KK.put;rw[if_pos hi,h1]
 cases o with
 |none=>simp[dpA]
 | some j =>
   obtain ⟨w,h3,h4⟩:=h2;exact absurd (W0i.2 ⟨_,W0d h3,rfl⟩) h
def Zbs (n:Int):∀ lf:List Int,∃ o:Option Nat,(KK.i .i64).find (.int .i64 n) (lfA lf)=some o/\match o with
  |some j=>lf[j]? = some n/\n∈lf/\lf.eraseIdx j=lf.erase n
  |none=>n ∉ lf
 |[]=>⟨none,rfl,by simp⟩
 | x :: r=>by
   obtain ⟨o,h1,h2⟩:=Zbs n r;by_cases e:n=x
   . subst e;exact ⟨some 0,by simp[lfA,KK.find,KK.eq],by simp⟩
   . refine ⟨o.map (· + 1),?_,?_⟩
     . simp only[lfA,W0F,KK.find,KK.eq,and_self,if_true,e,W1x];rw[show r.map (λn=>(AV.int .i64 n,AV.bool true))=lfA r from rfl,h1];rfl
     . cases o with
       |none=>simp only[Option.map_none,W0g,not_or];exact ⟨e,h2⟩
       | some j =>
         obtain ⟨h3,h4,h5⟩:=h2;refine ⟨by simpa using h3,W0z _ h4,?_⟩;simp only[List.eraseIdx_cons_succ,h5];rw[List.erase_cons_tail];simpa using λq=>e q.symm
def Zbt (n:Int) (lf:List Int):(KK.i .i64).get (.int .i64 n) (lfA lf)=some (if n∈lf then some (.bool true) else none):=by
 obtain ⟨o,h1,h2⟩:=Zbs n lf;have hi:(KK.i .i64).is (.int .i64 n)=true:=(by simp[KK.is]);unfold KK.get;rw[if_pos hi,h1]
 cases o with
 | none => have h2:n ∉ lf:=h2
           simp[h2]
 |some j=>obtain ⟨h3,h4,h5⟩:=h2;simp[lfA,h3,h4]
def Zbu {n:Int} {lf:List Int} (h:n ∉ lf):(KK.i .i64).put (.int .i64 n) (.bool true) (lfA lf)=some (lfA (lf++[n])):=by
 obtain ⟨o,h1,h2⟩:=Zbs n lf;have hi:(KK.i .i64).is (.int .i64 n)=true:=(by simp[KK.is]);unfold KK.put;rw[if_pos hi,h1]
 cases o with
 |none=>simp[lfA]
 |some j=>exact absurd h2.2.1 h
def Zbv {α β:Type} (f:α->β):∀ (l:List α) (j:Nat),(l.map f).eraseIdx j=(l.eraseIdx j).map f
 |[],_=>by simp
 |x::l,0=>by simp
 |x::l,j+1=>by simp[Zbv f l j]
def Zbw {n:Int} {lf:List Int} (h:n∈lf):(KK.i .i64).del (.int .i64 n) (lfA lf)=some (lfA (lf.erase n)):=by
 obtain ⟨o,h1,h2⟩:=Zbs n lf;have hi:(KK.i .i64).is (.int .i64 n)=true:=(by simp[KK.is]);unfold KK.del;rw[if_pos hi,h1]
 cases o with
 |none=>exact absurd h h2
 | some j =>
   obtain ⟨h3,h4,h5⟩:=h2;simp only[lfA,<- h5];rw[Zbv]
def rdIt (lf:List Int) (b:Bool) (its:List (Int×Int)):Bool:=its.foldl (λb y=>b && !decide (y.1∈lf)) b
def msIt (dp:List (Int×Int)) (m:Int) (its:List (Int×Int)):Int:=its.foldl (λm y=>max m (dpG dp y.1)) m
def rdN (lf:List Int) (b:Bool) (l:Jr):Bool:=l.foldl (λb x=>rdIt lf b x.its) b
def msN (dp:List (Int×Int)) (m:Int) (l:Jr):Int:=l.foldl (λm x=>msIt dp m x.its) m
def issOf (r:Jr) (n:Int):List Iss:=r.filter (λx=>decide (x.d=n))
def dStep (r:Jr) (s:List (Int×Int)×List Int) (n:Int):List (Int×Int)×List Int :=
 if rdN s.2 (decide (n∈s.2)) (issOf r n)=true then (s.1++[(n,msN s.1 0 (issOf r n)+1)],s.2.erase n) else s
def dPass (r:Jr) (s:List (Int×Int)×List Int):List (Int×Int)×List Int:=(nums r).foldl (dStep r) s
def dRun (r:Jr):Nat->List (Int×Int)×List Int
 |0=>([],nums r)
 |k+1=>dPass r (dRun r k)
def Zbx (lf:List Int) (b:Bool) (its:List (Int×Int)) (k:Nat) (h:k<its.length):rdIt lf b (its.take (k+1))=(rdIt lf b (its.take k) && !decide (its[k].1∈lf)):=by
 rw[W08 h,rdIt,W1q];rfl
def Zby (dp:List (Int×Int)) (m:Int) (its:List (Int×Int)) (k:Nat) (h:k<its.length):msIt dp m (its.take (k+1))=max (msIt dp m (its.take k)) (dpG dp its[k].1):=by
 rw[W08 h,msIt,W1q];rfl
def Zbz (lf:List Int) (b:Bool) (l:Jr) (k:Nat) (h:k<l.length):rdN lf b (l.take (k+1))=rdIt lf (rdN lf b (l.take k)) l[k].its:=by
 rw[W08 h,rdN,W1q];rfl
def ZbA (dp:List (Int×Int)) (m:Int) (l:Jr) (k:Nat) (h:k<l.length):msN dp m (l.take (k+1))=msIt dp (msN dp m (l.take k)) l[k].its:=by
 rw[W08 h,msN,W1q];rfl
def ZbB (lf:List Int):∀ its:List (Int×Int),rdIt lf false its=false
 |[]=>rfl
 |y::its=>by simp only[rdIt,W2d,W1K];exact ZbB lf its
def ZbC (lf:List Int):∀ l:List Iss,rdN lf false l=false
 |[]=>rfl
 |x::l=>by simp only[rdN,W2d,ZbB];exact ZbC lf l
def ZbD {lf:List Int} {n:Int} {l:Jr} (h:rdN lf (decide (n∈lf)) l=true):n∈lf:=by
 by_cases e:n∈lf
 . exact e
 . rw[W0S e,ZbC]at h;cases h
structure DInv (r:Jr) (s:List (Int×Int)×List Int):Prop where
 perm:(s.1.map (·.1)++s.2).Perm (nums r)
 bd:∀ p∈s.1,1<=p.2/\p.2<=(s.1.length:Nat)
def ZbE {n v:Int}:∀ {dp:List (Int×Int)},dpLk n dp=some v->(n,v)∈dp
 | p::r,h=>by
   simp only[dpLk]at h
   split at h
   . rename_i e;cases h;rw[e];exact W0H ..
   . exact W0z _ (ZbE h)
def ZbF {r:Jr} {s:List (Int×Int)×List Int} (h:DInv r s) (n:Int):0<=dpG s.1 n/\dpG s.1 n<=(s.1.length:Nat):=by
 unfold dpG
 cases e:dpLk n s.1 with
 |none=>simp
 |some v=>have:=h.bd _ (ZbE e);simp only[W0P];omega
def ZbG {r:Jr} {s:List (Int×Int)×List Int} (h:DInv r s):∀ (its:List (Int×Int)) (m:Int),0<=m->m<=(s.1.length:Nat)->0<=msIt s.1 m its/\msIt s.1 m its<=(s.1.length:Nat)
 |[],m,h1,h2=>⟨h1,h2⟩
 | y::its,m,h1,h2=>by
   have:=ZbF h y.1;exact ZbG h its (max m (dpG s.1 y.1)) (by omega) (by omega)
def ZbH {r:Jr} {s:List (Int×Int)×List Int} (h:DInv r s):∀ (l:Jr) (m:Int),0<=m->m<=(s.1.length:Nat)->0<=msN s.1 m l/\msN s.1 m l<=(s.1.length:Nat)
 |[],m,h1,h2=>⟨h1,h2⟩
 | x::l,m,h1,h2=>by
   have:=ZbG h x.its m h1 h2;exact ZbH h l (msIt s.1 m x.its) this.1 this.2
def DInv.len {r:Jr} {s:List (Int×Int)×List Int} (h:DInv r s):s.1.length+s.2.length=(nums r).length:=by
 have:=h.perm.length_eq;simpa using this
def DInv.step {r:Jr} {s:List (Int×Int)×List Int} (h:DInv r s) (n:Int):DInv r (dStep r s n):=by
 unfold dStep
 split
 . rename_i hb;have hm:=ZbD hb;have hbd:=ZbH h (issOf r n) 0 (W1Y _) (by omega);refine ⟨?_,λp hp=>?_⟩
   . refine List.Perm.trans ?_ h.perm;simp only[W0r,W0F,W1d,W0U,W1e,W18];exact (List.perm_cons_erase hm).symm.append_left _
   . simp only[W0s,W1p,W1U];rcases W0h.1 hp with hp|hp
     . have:=h.bd p hp;omega
     . simp only[W0B]at hp;subst hp;simp only;omega
 . exact h
def DInv.fold {r:Jr}:∀ (l:List Int) {s:List (Int×Int)×List Int},DInv r s->DInv r (l.foldl (dStep r) s)
 |[],s,h=>h
 |n::l,s,h=>DInv.fold l (h.step n)
def DInv.run (r:Jr):∀ k,DInv r (dRun r k)
 |0=>⟨by simp[dRun],by simp[dRun]⟩
 |k+1=>(DInv.run r k).fold (nums r)
def ZbI {α β:Type} (f:β->α->β) (s:β) (l:List α) (k:Nat) (h:k<l.length):(l.take (k+1)).foldl f s=f ((l.take k).foldl f s) l[k]:=by
 rw[W08 h,W1q];rfl
set_option maxRecDepth 8000 in
def ZbJ (r:Jr) (hw:Wf r) (hO:Ord r) (hn:(nums r).length<=20):PC prog G 94 [bkA r (nums r)] (.tup [.vmap (dpA (dRun r (nums r).length).1),.bool (decide (0<(dRun r (nums r).length).2.length))]):=by
 (refine Z8x rfl λR hG hrd=>Qga ?_;subst hG)
 have hs:(r.map (·.d)).Pairwise (· <= ·):=by
  rw[W2n,W0Y];intro i j hi hj hij;have:=hO.mono (Nat.le_of_lt hij) hj
  rwa [at_eq hi,at_eq hj]at this
 have hl:=hw.1.1;have hnd:=Zag hO;simp -implicitDefEqProofs[Z8v,Z8w,bkA];refine Z9H (λi=>⟨[(22,.int .i64 i),(21,.int .i64 (nums r).length),(20,.vsl ((nums r).map ia)),(5,.ptr 5 0),(4,.ptr 4 0),(0,bkA r (nums r))],[(15,.mp []),(4,.box [.mp 15]),(16,.mp (lfA ((nums r).take i))),(5,.box [.mp 16])]⟩) (λ_=>True) (nums r).length (by (first|exact Ym.tm (by simp[lk,lfA,bkA])|exact Ym.sub (by simp[lk,Ya,AV.keys,lfA,bkA]) (by simp[lk,Yc,Ya,AV.keys,lfA,bkA]))) trivial ?_ ?_
 . intro i hi _;refine Qga ?_;have w1:i64.wrap ((i:Int)+1)=((i+1:Nat):Int):=Yf
   have hni:(nums r)[i] ∉ (nums r).take i:=by
    intro hm;obtain ⟨j,hj,e⟩:=W0k hm;simp only[W15]at hj;simp only[W1V]at e;have:=(List.getElem_inj hnd).1 e;omega
   have hp:=Zbu hni;rw[<- W08 hi]at hp;simp -implicitDefEqProofs[hi,w1,ia,hp];exact (by (first|exact Ym.tm (by simp[lk,bkA])|exact Ym.sub (by simp[lk,Ya,AV.keys,bkA]) (by simp[lk,Yc,Ya,AV.keys,bkA])))
 . intro _;refine Qga ?_;simp -implicitDefEqProofs;refine Qgr ?_;simp -implicitDefEqProofs[bkA];refine Z9H (λk=>⟨[(34,.int .i64 k),(33,.int .i64 (nums r).length),(5,.ptr 5 0),(4,.ptr 4 0),(0,bkA r (nums r))],[(15,.mp (dpA (dRun r k).1)),(4,.box [.mp 15]),(16,.mp (lfA (dRun r k).2)),(5,.box [.mp 16])]⟩) (λ_=>True) (nums r).length (by (first|exact Ym.tm (by simp[lk,dRun,dpA,bkA])|exact Ym.sub (by simp[lk,Ya,AV.keys,dRun,dpA,bkA]) (by simp[lk,Yc,Ya,AV.keys,dRun,dpA,bkA]))) trivial ?_ ?_
   . intro k hk _;refine Qga ?_;have w1:i64.wrap ((k:Int)+1)=((k+1:Nat):Int):=Yf;simp -implicitDefEqProofs[hk,bkA]
     refine Z9H (λi=>⟨[(41,.int .i64 i),(40,.int .i64 (nums r).length),(39,.vsl ((nums r).map ia)),(34,.int .i64 k),(33,.int .i64 (nums r).length),(5,.ptr 5 0),(4,.ptr 4 0),(0,bkA r (nums r))],
      [(15,.mp (dpA (((nums r).take i).foldl (dStep r) (dRun r k)).1)),(4,.box [.mp 15]),(16,.mp (lfA (((nums r).take i).foldl (dStep r) (dRun r k)).2)),(5,.box [.mp 16])]⟩) (λ_=>True) (nums r).length (by (first|exact Ym.tm (by simp[lk,bkA])|exact Ym.sub (by simp[lk,Ya,AV.keys,bkA]) (by simp[lk,Yc,Ya,AV.keys,bkA]))) trivial ?_ ?_
     . intro i hi _;refine Qga ?_;have w2:i64.wrap ((i:Int)+1)=((i+1:Nat):Int):=Yf;obtain ⟨s,hsd⟩:=Qex (((nums r).take i).foldl (dStep r) (dRun r k));have hI:DInv r s:=(by rw[hsd];exact (DInv.run r k).fold _);have hst:=ZbI (dStep r) (dRun r k) (nums r) i hi;rw[<- hsd]at hst ⊢;obtain ⟨n,hne⟩:=Qex ((nums r)[i]);rw[<- hne]at hst;have hgl:=Zbt n s.2
       cases hm:decide (n∈s.2)
       . have hm':¬n∈s.2:=of_decide_eq_false hm;rw[if_neg hm']at hgl;simp -implicitDefEqProofs[hi,ia,<- hne,hgl];refine ⟨rfl,?_⟩;refine Qco (Zbn r (nums r) n) ?_;simp -implicitDefEqProofs
         refine Z5a hrd (Zbj r n (.vsl ((nums r).map ia)) hs hl) (by simp[evA,St.tmp,lk,bkA]) (by simp[AV.pure]) (λk=>k-1000) [(4,.ptr 1004 0),(5,.ptr 1005 0),(10,.ptr 1010 0),(11,.ptr 1011 0)]
          (λq=>[(1015,.mp (dpA s.1)),(1004,.box [.mp 1015]),(1016,.mp (lfA s.2)),(1005,.box [.mp 1016]),(1010,.box [.int .i64 (msN s.1 0 ((issOf r n).take q))]),(1011,.box [.bool (rdN s.2 false ((issOf r n).take q))])])
          [1015,1004,1016,1005,1010,1011] (λ_=>True) trivial (λ_=>rfl) (by simp) (by simp) (by simp[Yl,St.set,putO,AObj.ren,AV.ren,dpA,lfA,msN,rdN,W0y]) (by simp[Yc,Ya,AV.keys,dpA,lfA,lk]) (by simp[lk,AV.ren,AV.keys]) ?_ ?_
         . intro q x hx _ R' hG hN
           obtain ⟨y,hq,hy,rfl⟩ : ∃ y,∃ hq:q<(issOf r n).length,(issOf r n)[q]=y/\x = .agg (isa y):=by
            simp only[elsOf,W09,W04]at hx;obtain ⟨y,h1,h2⟩:=hx;obtain ⟨h3,h4⟩:=W02.1 h1;exact ⟨y,h3,h4,h2.symm⟩
           have hyr:y∈r:=(by rw[<- hy];exact (W0G.1 (W0e hq)).1);have hyl:=(hw.1.2 y hyr).1;unfold Sml at hyl;have tm:=ZbA s.1 0 (issOf r n) q hq;have tr:=Zbz s.2 false (issOf r n) q hq;rw[hy]at tm tr;generalize msN s.1 0 ((issOf r n).take q)=m0 at tm ⊢;generalize rdN s.2 false ((issOf r n).take q)=b0 at tr ⊢;refine Qga ?_;simp -implicitDefEqProofs[isa];intro R'' hG'' hN'';refine Qga ?_;simp -implicitDefEqProofs
           refine Z9H (λm=>⟨[(55,.int .i64 m),(54,.int .i64 y.its.length),(53,.vsl (y.its.map ita)),(12,.ptr 12 0),(4,.ptr 1004 0),(5,.ptr 1005 0),(10,.ptr 1010 0),(11,.ptr 1011 0)],
            [(1015,.mp (dpA s.1)),(1004,.box [.mp 1015]),(1016,.mp (lfA s.2)),(1005,.box [.mp 1016]),(1010,.box [.int .i64 (msIt s.1 m0 (y.its.take m))]),(1011,.box [.bool (rdIt s.2 b0 (y.its.take m))]),(12,.box (isa y))]⟩) (λ_=>True) y.its.length (by (first|exact Ym.tm (by simp[lk,isa,dpA,lfA,msIt,rdIt])|exact Ym.sub (by simp[lk,Ya,AV.keys,isa,dpA,lfA,msIt,rdIt]) (by simp[lk,Yc,Ya,AV.keys,isa,dpA,lfA,msIt,rdIt]))) trivial ?_ ?_
           . intro m hm _;refine Qga ?_;have w3:i64.wrap ((m:Int)+1)=((m+1:Nat):Int):=Yf;have um:=Zby s.1 m0 y.its m hm;have ur:=Zbx s.2 b0 y.its m hm;generalize msIt s.1 m0 (y.its.take m)=m1 at um ⊢;generalize rdIt s.2 b0 (y.its.take m)=b1 at ur ⊢;have gd:=Zbq y.its[m].1 s.1;have gl:=Zbt y.its[m].1 s.2;have wkE:∀ c1 c2:Prop,c1->c2->c1/\c2:=λ_ _ a b=>⟨a,b⟩
             cases b1
             . simp only[W1K]at ur
               cases hk1:dpLk y.its[m].1 s.1 with
               | none =>
                 rw[hk1]at gd;simp only[dpG,hk1,W20]at um;simp -implicitDefEqProofs[hm,ita,w3,gd];exact Ym.sub (by simp[lk,Ya,AV.keys]) (by simp[lk,Yc,Ya,AV.keys,dpA,lfA,um,ur,isa])
               | some v =>
                 rw[hk1]at gd;simp only[dpG,hk1,W0P]at um;simp -implicitDefEqProofs[hm,ita,w3,gd];exact Ym.sub (by simp[lk,Ya,AV.keys]) (by simp[lk,Yc,Ya,AV.keys,dpA,lfA,um,ur,isa])
             . by_cases hin:y.its[m].1∈s.2
               . rw[if_pos hin]at gl;simp only[hin,W1i,W17,W29]at ur
                 cases hk1:dpLk y.its[m].1 s.1 with
                 | none =>
                   rw[hk1]at gd;simp only[dpG,hk1,W20]at um;simp -implicitDefEqProofs[hm,ita,w3,gd,gl];exact Ym.sub (by simp[lk,Ya,AV.keys]) (by simp[lk,Yc,Ya,AV.keys,dpA,lfA,um,ur,isa])
                 | some v =>
                   rw[hk1]at gd;simp only[dpG,hk1,W0P]at um;simp -implicitDefEqProofs[hm,ita,w3,gd,gl];exact Ym.sub (by simp[lk,Ya,AV.keys]) (by simp[lk,Yc,Ya,AV.keys,dpA,lfA,um,ur,isa])
               . rw[if_neg hin]at gl;simp only[hin,W1x,W1E,W2b]at ur
                 cases hk1:dpLk y.its[m].1 s.1 with
                 | none =>
                   rw[hk1]at gd;simp only[dpG,hk1,W20]at um;simp -implicitDefEqProofs[hm,ita,w3,gd,gl];exact Ym.sub (by simp[lk,Ya,AV.keys]) (by simp[lk,Yc,Ya,AV.keys,dpA,lfA,um,ur,isa])
                 | some v =>
                   rw[hk1]at gd;simp only[dpG,hk1,W0P]at um;simp -implicitDefEqProofs[hm,ita,w3,gd,gl];exact Ym.sub (by simp[lk,Ya,AV.keys]) (by simp[lk,Yc,Ya,AV.keys,dpA,lfA,um,ur,isa])
           . intro _;refine Qga ?_;simp -implicitDefEqProofs;refine Qgr ?_;simp -implicitDefEqProofs[RndB,Yi,newK,frzO,frzA,frz,AV.keys,tm,tr,dpA,lfA,W0y]
             try trivial
         . intro _;have hel:(elsOf r n).length=(issOf r n).length:=(by simp[elsOf,issOf]);have etk:(issOf r n).take (issOf r n).length=issOf r n:=W0J (W0f _);have hbd:=ZbH hI (issOf r n) 0 (W1Y _) (by omega);have hlen:=hI.len;have w4:i64.wrap (msN s.1 0 (issOf r n)+1)=msN s.1 0 (issOf r n)+1:=Yf;have rdpA:∀ dp,AObj.ren (λk=>k-1000) (.mp (dpA dp)) = .mp (dpA dp):=λdp=>by simp[AObj.ren,dpA,AV.ren,W0y]
           have rlfA:∀ lf,AObj.ren (λk=>k-1000) (.mp (lfA lf)) = .mp (lfA lf):=λlf=>by simp[AObj.ren,lfA,AV.ren,W0y]
           have rbx:∀ cs,AObj.ren (λk=>k-1000) (.box cs) = .box (cs.map (AV.ren λk=>k-1000)):=λ_=>rfl
           cases hrd2:rdN s.2 false (issOf r n)
           . have hst2:dStep r s n=s:=(by simp[dStep,hm,hrd2]);rw[hst2]at hst;simp -implicitDefEqProofs[Yl,rdpA,rlfA,rbx,AV.ren,hel,etk,hrd2];refine Qgr ?_;simp -implicitDefEqProofs[w2];rw[hst];exact Ym.sub (by simp[lk,Ya,AV.keys,bkA]) (by simp[lk,Yc,Ya,AV.keys,dpA,lfA])
           . have hmem:n∈s.2:=ZbD (by rw[hm];exact hrd2);have hst2:dStep r s n=(s.1++[(n,msN s.1 0 (issOf r n)+1)],s.2.erase n):=(by simp[dStep,hm,hrd2]);rw[hst2]at hst
             have hnk:n ∉ s.1.map (·.1):=λhin=>by
              have:=(List.nodup_append.1 (hI.perm.nodup_iff.2 hnd)).2.2 n hin n hmem;exact this rfl
             have pd:=Zbr (msN s.1 0 (issOf r n)+1) hnk;have dl:=Zbw hmem;simp -implicitDefEqProofs[Yl,rdpA,rlfA,rbx,AV.ren,hel,etk,hrd2];refine Qgr ?_;simp -implicitDefEqProofs[w2,w4,pd,dl];rw[hst];exact Ym.sub (by simp[lk,Ya,AV.keys,bkA]) (by simp[lk,Yc,Ya,AV.keys,dpA,lfA])
       . have hm':n∈s.2:=W0X hm;rw[if_pos hm']at hgl;simp -implicitDefEqProofs[hi,ia,<- hne,hgl];refine ⟨rfl,?_⟩;refine Qco (Zbn r (nums r) n) ?_;simp -implicitDefEqProofs
         refine Z5a hrd (Zbj r n (.vsl ((nums r).map ia)) hs hl) (by simp[evA,St.tmp,lk,bkA]) (by simp[AV.pure]) (λk=>k-1000) [(4,.ptr 1004 0),(5,.ptr 1005 0),(10,.ptr 1010 0),(11,.ptr 1011 0)]
          (λq=>[(1015,.mp (dpA s.1)),(1004,.box [.mp 1015]),(1016,.mp (lfA s.2)),(1005,.box [.mp 1016]),(1010,.box [.int .i64 (msN s.1 0 ((issOf r n).take q))]),(1011,.box [.bool (rdN s.2 true ((issOf r n).take q))])])
          [1015,1004,1016,1005,1010,1011] (λ_=>True) trivial (λ_=>rfl) (by simp) (by simp) (by simp[Yl,St.set,putO,AObj.ren,AV.ren,dpA,lfA,msN,rdN,W0y]) (by simp[Yc,Ya,AV.keys,dpA,lfA,lk]) (by simp[lk,AV.ren,AV.keys]) ?_ ?_
         . intro q x hx _ R' hG hN
           obtain ⟨y,hq,hy,rfl⟩ : ∃ y,∃ hq:q<(issOf r n).length,(issOf r n)[q]=y/\x = .agg (isa y):=by
            simp only[elsOf,W09,W04]at hx;obtain ⟨y,h1,h2⟩:=hx;obtain ⟨h3,h4⟩:=W02.1 h1;exact ⟨y,h3,h4,h2.symm⟩
           have hyr:y∈r:=(by rw[<- hy];exact (W0G.1 (W0e hq)).1);have hyl:=(hw.1.2 y hyr).1;unfold Sml at hyl;have tm:=ZbA s.1 0 (issOf r n) q hq;have tr:=Zbz s.2 true (issOf r n) q hq;rw[hy]at tm tr;generalize msN s.1 0 ((issOf r n).take q)=m0 at tm ⊢;generalize rdN s.2 true ((issOf r n).take q)=b0 at tr ⊢;refine Qga ?_;simp -implicitDefEqProofs[isa];intro R'' hG'' hN'';refine Qga ?_;simp -implicitDefEqProofs
           refine Z9H (λm=>⟨[(55,.int .i64 m),(54,.int .i64 y.its.length),(53,.vsl (y.its.map ita)),(12,.ptr 12 0),(4,.ptr 1004 0),(5,.ptr 1005 0),(10,.ptr 1010 0),(11,.ptr 1011 0)],
            [(1015,.mp (dpA s.1)),(1004,.box [.mp 1015]),(1016,.mp (lfA s.2)),(1005,.box [.mp 1016]),(1010,.box [.int .i64 (msIt s.1 m0 (y.its.take m))]),(1011,.box [.bool (rdIt s.2 b0 (y.its.take m))]),(12,.box (isa y))]⟩) (λ_=>True) y.its.length (by (first|exact Ym.tm (by simp[lk,isa,dpA,lfA,msIt,rdIt])|exact Ym.sub (by simp[lk,Ya,AV.keys,isa,dpA,lfA,msIt,rdIt]) (by simp[lk,Yc,Ya,AV.keys,isa,dpA,lfA,msIt,rdIt]))) trivial ?_ ?_
           . intro m hm _;refine Qga ?_;have w3:i64.wrap ((m:Int)+1)=((m+1:Nat):Int):=Yf;have um:=Zby s.1 m0 y.its m hm;have ur:=Zbx s.2 b0 y.its m hm;generalize msIt s.1 m0 (y.its.take m)=m1 at um ⊢;generalize rdIt s.2 b0 (y.its.take m)=b1 at ur ⊢;have gd:=Zbq y.its[m].1 s.1;have gl:=Zbt y.its[m].1 s.2;have wkE:∀ c1 c2:Prop,c1->c2->c1/\c2:=λ_ _ a b=>⟨a,b⟩
             cases b1
             . simp only[W1K]at ur
               cases hk1:dpLk y.its[m].1 s.1 with
               | none =>
                 rw[hk1]at gd;simp only[dpG,hk1,W20]at um;simp -implicitDefEqProofs[hm,ita,w3,gd];exact Ym.sub (by simp[lk,Ya,AV.keys]) (by simp[lk,Yc,Ya,AV.keys,dpA,lfA,um,ur,isa])
               | some v =>
                 rw[hk1]at gd;simp only[dpG,hk1,W0P]at um;simp -implicitDefEqProofs[hm,ita,w3,gd];exact Ym.sub (by simp[lk,Ya,AV.keys]) (by simp[lk,Yc,Ya,AV.keys,dpA,lfA,um,ur,isa])
             . by_cases hin:y.its[m].1∈s.2
               . rw[if_pos hin]at gl;simp only[hin,W1i,W17,W29]at ur
                 cases hk1:dpLk y.its[m].1 s.1 with
                 | none =>
                   rw[hk1]at gd;simp only[dpG,hk1,W20]at um;simp -implicitDefEqProofs[hm,ita,w3,gd,gl];exact Ym.sub (by simp[lk,Ya,AV.keys]) (by simp[lk,Yc,Ya,AV.keys,dpA,lfA,um,ur,isa])
                 | some v =>
                   rw[hk1]at gd;simp only[dpG,hk1,W0P]at um;simp -implicitDefEqProofs[hm,ita,w3,gd,gl];exact Ym.sub (by simp[lk,Ya,AV.keys]) (by simp[lk,Yc,Ya,AV.keys,dpA,lfA,um,ur,isa])
               . rw[if_neg hin]at gl;simp only[hin,W1x,W1E,W2b]at ur
                 cases hk1:dpLk y.its[m].1 s.1 with
                 | none =>
                   rw[hk1]at gd;simp only[dpG,hk1,W20]at um;simp -implicitDefEqProofs[hm,ita,w3,gd,gl];exact Ym.sub (by simp[lk,Ya,AV.keys]) (by simp[lk,Yc,Ya,AV.keys,dpA,lfA,um,ur,isa])
                 | some v =>
                   rw[hk1]at gd;simp only[dpG,hk1,W0P]at um;simp -implicitDefEqProofs[hm,ita,w3,gd,gl];exact Ym.sub (by simp[lk,Ya,AV.keys]) (by simp[lk,Yc,Ya,AV.keys,dpA,lfA,um,ur,isa])
           . intro _;refine Qga ?_;simp -implicitDefEqProofs;refine Qgr ?_;simp -implicitDefEqProofs[RndB,Yi,newK,frzO,frzA,frz,AV.keys,tm,tr,dpA,lfA,W0y]
             try trivial
         . intro _;have hel:(elsOf r n).length=(issOf r n).length:=(by simp[elsOf,issOf]);have etk:(issOf r n).take (issOf r n).length=issOf r n:=W0J (W0f _);have hbd:=ZbH hI (issOf r n) 0 (W1Y _) (by omega);have hlen:=hI.len;have w4:i64.wrap (msN s.1 0 (issOf r n)+1)=msN s.1 0 (issOf r n)+1:=Yf;have rdpA:∀ dp,AObj.ren (λk=>k-1000) (.mp (dpA dp)) = .mp (dpA dp):=λdp=>by simp[AObj.ren,dpA,AV.ren,W0y]
           have rlfA:∀ lf,AObj.ren (λk=>k-1000) (.mp (lfA lf)) = .mp (lfA lf):=λlf=>by simp[AObj.ren,lfA,AV.ren,W0y]
           have rbx:∀ cs,AObj.ren (λk=>k-1000) (.box cs) = .box (cs.map (AV.ren λk=>k-1000)):=λ_=>rfl
           cases hrd2:rdN s.2 true (issOf r n)
           . have hst2:dStep r s n=s:=(by simp[dStep,hm,hrd2]);rw[hst2]at hst;simp -implicitDefEqProofs[Yl,rdpA,rlfA,rbx,AV.ren,hel,etk,hrd2];refine Qgr ?_;simp -implicitDefEqProofs[w2];rw[hst];exact Ym.sub (by simp[lk,Ya,AV.keys,bkA]) (by simp[lk,Yc,Ya,AV.keys,dpA,lfA])
           . have hmem:n∈s.2:=ZbD (by rw[hm];exact hrd2);have hst2:dStep r s n=(s.1++[(n,msN s.1 0 (issOf r n)+1)],s.2.erase n):=(by simp[dStep,hm,hrd2]);rw[hst2]at hst
             have hnk:n ∉ s.1.map (·.1):=λhin=>by
              have:=(List.nodup_append.1 (hI.perm.nodup_iff.2 hnd)).2.2 n hin n hmem;exact this rfl
             have pd:=Zbr (msN s.1 0 (issOf r n)+1) hnk;have dl:=Zbw hmem;simp -implicitDefEqProofs[Yl,rdpA,rlfA,rbx,AV.ren,hel,etk,hrd2];refine Qgr ?_;simp -implicitDefEqProofs[w2,w4,pd,dl];rw[hst];exact Ym.sub (by simp[lk,Ya,AV.keys,bkA]) (by simp[lk,Yc,Ya,AV.keys,dpA,lfA])
     . intro _;refine Qga ?_;have etk:(nums r).take (nums r).length=nums r:=W0J (W0f _);simp -implicitDefEqProofs;refine Qgr ?_;have e:(nums r).foldl (dStep r) (dRun r k)=dRun r (k+1):=rfl;simp -implicitDefEqProofs[w1,e];exact Ym.sub (by simp[lk,Ya,AV.keys,bkA]) (by simp[lk,Yc,Ya,AV.keys,dpA,lfA])
   . intro _;refine Qga ?_;simp -implicitDefEqProofs;refine Qgr ?_;have hla:(lfA (dRun r (nums r).length).2).length=(dRun r (nums r).length).2.length:=(by simp[lfA]);have hpu:(dpA (dRun r (nums r).length).1).all (λp=>p.1.pure&&p.2.pure)=true:=(by simp[dpA,AV.pure]);simp -implicitDefEqProofs[hla,hpu]
end Go.Proofs.YtldibfhbaaadcaaGreatDoor
