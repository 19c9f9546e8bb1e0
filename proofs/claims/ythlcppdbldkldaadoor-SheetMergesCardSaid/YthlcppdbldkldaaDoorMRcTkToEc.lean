/-
  The abstract machine's code of functions of the program, as a program of ours printed it; that it is theirs is proved beside each.
-/
import Derived.Test.YthlcppdbldkldaaDoorMAmLToAmXb
import Derived.Test.YthlcppdbldkldaaDoorProg
import Derived.IntWalk
set_option linter.all false
set_option maxHeartbeats 8000000
namespace Go.Proofs.YthlcppdbldkldaaDoor
open Tryd (prog)
open IntKind (i64)
open Go.RowKit
variable {G:Jg}
section
open Qq Tryd
def Z5m:RCode :=
 S [r 0 [b 2 0,b 3 1,w 4 (.alloc [.nils]),n 5 O],r 1 [L 14 1 2,L 15 1 3,c 16 33 [14,15],m 13 16,x 17 0 13,x 18 1 13,x 19 2 13,m 6 17,m 7 18,m 8 19],S [r 2 [m 20 8,k 21 .neq 20 O],K 21 3 [w 22 (.build [.nils] []),m 23 8,s 1 4 22,m 5 23]],S [r 4 [m 24 6,e 25 24,k 26 .gtr 25 O],K 26 5 [w 27 (.build [.nils] []),s 1 4 27,n 5 (.int .i64 23)]],r 6 [w 9 (.alloc [.nils])],S [r 7 [f 28 0 2,l 29 28,f 30 0 3,l 31 30,w 32 (.bsl false 1 2 [.nils,.nils] [(0,.t 29),(1,.t 31)]),c 33 36 [32],e 34 33,n 35 O],.block 0 (.loop (S [r 8 [o 36 .lss 35 34],.cond (.t 36) .skip (.exit 0),.block 1 (S [r 9 [i 37 5 33 35,L 38 5 37,w 11 (.alloc [O,O,.int .u8 0,.nils,.nils]),s 5 11 38],R 10 [f 39 0 9,a [0] (l 40 39),L 41 5 11,a [2] (c 42 37 [41]),a [3] (w 43 (.bsl true 5 1 [O,O,.int .u8 0,.nils,.nils] [(0,.t 42)])),a [1,4,3] (w 44 (.app 5 72 (.t 40) (.t 43))),a [0,1,2,3,4,5] (f 45 0 9),a [6,5,5,0,1,2,3,4,5] (s 1 45 44)]]),r 11 [k 46 .add 35 I,m 35 46]]))],r 12 [f 47 0 9,l 48 47,w 49 (.call 38 [.t 48,.c (.func (.func 39) [] [])])],r 13 [f 50 0 9,l 51 50,w 52 (.call 41 [.t 51,.c (.func (.func 42) [] [])]),f 53 0 9,s 1 53 52],S [r 14 [L 54 1 9,c 55 17 [54],m 12 55],r 15 [m 56 12,k 57 .neq 56 O],K 57 16 [w 58 (.build [.nils] []),m 59 12,s 1 4 58,m 5 59]],r 17 [L 60 1 9,s 1 4 60,n 5 O],.ret]
def Z5n:List RRes:=[.c 4 true 1,.t 5]
def Z5o:RCode :=
 S [r 0 [b 2 0,b 3 1,n 4 O],S [r 1 [L 6 1 2,c 7 47 [6],m 5 7],r 2 [m 8 5,k 9 .neq 8 O],K 9 3 [m 10 5,m 4 10]],r 4 [L 11 1 3,c 12 47 [11],m 4 12],.ret]
def Z5p:List RRes:=[.t 4]
def Z5q:PCt prog 34 f34 Z5o Z5p:=pcT func34 rfl
def Z5r:RCode :=
 S [r 0 [b 2 0,b 3 1,n 4 .nils],r 1 [n 5 .nils],S [r 2 [n 6 O],.block 0 (.loop (S [S [r 3 [m 10 6,f 11 0 2,l 12 11,e 13 12,o 14 .lss 10 13],.cond (.t 14) .skip (.exit 0)],.block 1 (S [R 5 [f 17 0 2,a [0] (l 18 17),m 19 6,a [1,2] (i 20 5 18 19),a [3] (f 21 0 20),a [4] (l 22 21),f 23 0 2,a [6] (l 24 23),m 25 6,a [7,8] (i 26 5 24 25),a [9] (f 27 1 26),a [10] (l 28 27),a [5,11] (w 29 (.build [O,O] [(0,1,.t 22),(1,1,.t 28)])),w 7 (.alloc [O,O]),a [13,12,0,1,2,3,4,5,6,7,8,9,10,11,12,13] (s 2 7 29)],r 6 [L 31 1 3,L 32 2 7,c 33 44 [31,32],m 30 33,x 34 0 30,x 35 1 30,w 8 (.alloc [O,O,.int .u8 0,.nils,.nils]),s 5 8 34,m 9 35],R 7 [m 36 9,a [0] (m 37 36),a [1] (g 37 true (f 38 0 2)),a [2,1] (g 37 true (l 39 38)),a [1] (g 37 true (m 40 6)),a [3,4,1] (g 37 true (i 41 5 39 40)),a [5,1] (g 37 true (L 42 5 41)),a [1] (g 37 true (L 43 5 8)),a [6,7,1,1] (g 37 true (c 44 48 [42,43])),a [8,1] (g 37 true (t 45 44)),a [1,9] (v 46 37 45)],.cond (.t 46) (r 8 [m 47 5,L 48 2 7,w 49 (.bsl false 2 1 [O,O] [(0,.t 48)]),w 50 (.app 2 16 (.t 47) (.t 49)),m 5 50]) .skip]),r 4 [m 15 6,k 16 .add 15 I,m 6 16]]))],r 9 [m 51 5,m 4 51],.ret]
def Z5s:List RRes:=[.t 4]
def Z5t:PCt prog 35 f35 Z5r Z5s:=pcT func35 rfl
def Z5u:RCode :=
 S [r 0 [b 2 0,b 3 1,n 4 .nils,n 5 O],S [r 1 [L 7 1 2,L 8 1 3,c 9 34 [7,8],m 6 9],r 2 [m 10 6,k 11 .neq 10 O],K 11 3 [m 12 6,n 4 .nils,m 5 12]],r 4 [L 13 1 2,L 14 1 3,c 15 35 [13,14],m 4 15,n 5 O],.ret]
def Z5v:List RRes:=[.t 4,.t 5]
def Z5w:PCt prog 9 f9 Z5u Z5v:=pcT func9 rfl
def Z5x:RCode :=
 S [r 0 [b 2 0,b 3 1,n 4 (.bool false)],r 1 [f 5 0 2,l 6 5,f 7 0 3,l 8 7,o 9 .lss 6 8,m 10 9,g 10 false (f 11 0 2),g 10 false (l 12 11),g 10 false (f 13 0 3),g 10 false (l 14 13),g 10 false (o 15 .eql 12 14),g 10 false (m 16 15),g 16 true (f 17 1 2),g 16 true (l 18 17),g 16 true (f 19 1 3),g 16 true (l 20 19),g 16 true (o 21 .lss 18 20),g 10 false (v 22 16 21),u 23 10 22,m 4 23],.ret]
def Z5y:List RRes:=[.t 4]
def Z5z:PCt prog 46 f46 Z5x Z5y:=pcT func46 rfl
def Z5A:RCode :=
 S [r 0 [b 2 0,b 3 1,w 4 (.alloc [.nils]),n 5 O],S [r 1 [L 15 1 2,L 16 1 3,c 17 34 [15,16],m 6 17],r 2 [m 18 6,k 19 .neq 18 O],K 19 3 [w 20 (.build [.nils] []),m 21 6,s 1 4 20,m 5 21]],S [r 4 [L 22 1 2,L 23 1 3,c 24 35 [22,23],e 25 24,k 26 .gtr 25 O],K 26 5 [w 27 (.build [.nils] []),s 1 4 27,n 5 (.int .i64 23)]],r 6 [L 28 1 2,c 29 7 [28],w 7 (.alloc [.nils]),s 1 7 29],S [r 7 [n 8 O],.block 0 (.loop (S [S [r 8 [m 30 8,f 31 0 3,l 32 31,e 33 32,o 34 .lss 30 33],.cond (.t 34) .skip (.exit 0)],.block 1 (S [r 10 [f 37 0 3,l 38 37,m 39 8,i 40 5 38 39,L 41 5 40,w 9 (.alloc [O,O,.int .u8 0,.nils,.nils]),s 5 9 41],S [R 11 [L 43 1 2,L 44 5 9,a [1] (c 45 45 [44]),a [0,2,2] (c 46 44 [43,45]),a [3] (m 42 46),a [4] (x 47 0 42),a [4] (x 48 1 42),w 10 (.alloc [O,O,.int .u8 0,.nils,.nils]),a [7,5,3,0,1,2,3,4,5,7] (s 5 10 47),a [6,8,0,1,2,3,4,5,6,7,8] (m 11 48)],r 12 [m 49 11],.cond (.t 49) (.exit 1) .skip],r 13 [n 12 O],.block 2 (.loop (S [S [R 14 [m 50 12,f 51 0 7,a [1] (l 52 51),a [2] (e 53 52),a [0,3] (o 54 .lss 50 53),a [4] (m 55 54),a [5] (g 55 true (f 56 0 7)),a [6,5] (g 55 true (l 57 56)),a [5] (g 55 true (m 58 12)),a [7,8,5] (g 55 true (i 59 5 57 58)),a [9,5] (g 55 true (L 60 5 59)),a [10,5,5] (g 55 true (c 61 45 [60])),a [5] (g 55 true (L 62 5 9)),a [12,11,5] (g 55 true (c 63 45 [62])),a [11,13,13,5] (g 55 true (c 64 46 [61,63])),a [5,14] (v 65 55 64)],.cond (.t 65) .skip (.exit 2)],.block 3 (r 15 [m 66 12,k 67 .add 66 I,m 12 67])])),r 16 [w 68 (.bsl true 5 0 [] []),f 69 0 7,l 70 69,m 71 12,w 72 (.slc 5 (.t 70) (some (.t 71)) none),w 73 (.app 5 72 (.t 68) (.t 72)),m 13 73],R 17 [f 74 0 7,a [0] (l 75 74),m 76 12,a [1,2] (w 77 (.slc 5 (.t 75) none (some (.t 76)))),L 78 5 9,a [4] (c 79 32 [78]),a [5] (w 80 (.bsl false 5 1 [O,O,.int .u8 0,.nils,.nils] [(0,.t 79)])),a [3,6,5] (w 81 (.app 5 72 (.t 77) (.t 80))),m 82 13,a [7,8,7] (w 83 (.app 5 72 (.t 81) (.t 82))),a [0,1,2,3,4,5,6,7,8,9] (f 84 0 7),a [10,9,9,0,1,2,3,4,5,6,7,8,9] (s 1 84 83)]]),r 9 [m 35 8,k 36 .add 35 I,m 8 36]]))],S [r 18 [L 85 1 7,c 86 47 [85],m 14 86],r 19 [m 87 14,k 88 .neq 87 O],K 88 20 [w 89 (.build [.nils] []),m 90 14,s 1 4 89,m 5 90]],r 21 [L 91 1 7,s 1 4 91,n 5 O],.ret]
def Z5B:List RRes:=[.c 4 true 1,.t 5]
def Z5C:PCt prog 11 f11 Z5A Z5B:=pcT func11 rfl
def Z5D:RCode :=
 S [r 0 [b 2 0,b 3 1,n 4 (.bool false)],S [r 1 [L 19 1 2,c 20 6 [19],m 21 20,g 21 false (L 22 1 3),g 21 false (c 23 6 [22]),u 24 21 23],K 24 2 [n 4 (.bool true)]],R 3 [L 25 1 2,a [0] (c 26 7 [25]),L 27 1 3,a [2,1] (c 28 7 [27]),w 5 (.alloc [.nils]),w 6 (.alloc [.nils]),a [4,1,3,0,1,4,5] (s 1 5 26),a [5,3,6,0,1,2,3,4,5,6] (s 1 6 28)],r 4 [L 30 1 5,L 31 1 6,c 32 8 [30,31],m 29 32,x 33 0 29,x 34 1 29,m 7 33,m 8 34],r 5 [L 36 1 2,L 37 1 3,c 38 9 [36,37],m 35 38,x 39 0 35,x 40 1 35,m 9 39,m 10 40],r 6 [L 42 1 5,L 43 1 6,c 44 10 [42,43],m 41 44,x 45 0 41,x 46 1 41,w 11 (.alloc [.nils]),s 1 11 45,m 12 46],r 7 [L 48 1 2,L 49 1 3,c 50 11 [48,49],m 47 50,x 51 0 47,x 52 1 47,w 13 (.alloc [.nils]),s 1 13 51,m 14 52],r 8 [m 53 7,m 54 9,c 55 12 [53,54],m 56 55,g 56 true (m 57 8),g 56 true (m 58 10),g 56 true (o 59 .eql 57 58),v 60 56 59,m 61 60,g 61 true (L 62 1 11),g 61 true (L 63 1 13),g 61 true (c 64 13 [62,63]),v 65 61 64,m 66 65,g 66 true (m 67 12),g 66 true (m 68 14),g 66 true (o 69 .eql 67 68),v 70 66 69,m 15 70],S [r 9 [f 71 0 11,l 72 71,e 73 72,n 74 O],.block 0 (.loop (S [r 10 [o 75 .lss 74 73],.cond (.t 75) .skip (.exit 0),.block 1 (S [r 11 [m 76 74,m 16 76],S [r 12 [f 77 0 11,l 78 77,m 79 16,i 80 5 78 79,f 81 3 80,l 82 81,e 83 82,n 84 O],.block 2 (.loop (S [r 13 [o 85 .lss 84 83],.cond (.t 85) .skip (.exit 2),.block 3 (S [r 14 [m 86 84,m 17 86],r 15 [f 87 0 11,l 88 87,m 89 16,i 90 5 88 89,f 91 3 90,l 92 91,m 93 17,i 94 2 92 93,f 95 1 94,z (.store 1 (.t 95) (.c O))]]),r 16 [k 96 .add 84 I,m 84 96]]))],r 17 [f 97 0 11,l 98 97,m 99 16,i 100 5 98 99,f 101 4 100,l 102 101,e 103 102,n 104 O],.block 4 (.loop (S [r 18 [o 105 .lss 104 103],.cond (.t 105) .skip (.exit 4),.block 5 (S [r 19 [m 106 104,m 18 106],r 20 [f 107 0 11,l 108 107,m 109 16,i 110 5 108 109,f 111 4 110,l 112 111,m 113 18,i 114 3 112 113,f 115 1 114,z (.store 1 (.t 115) (.c (.int .i64 (-7))))]]),r 21 [k 116 .add 104 I,m 104 116]]))]),r 22 [k 117 .add 74 I,m 74 117]]))],r 23 [m 118 15,m 119 118,g 119 true (L 120 1 5),g 119 true (L 121 1 2),g 119 true (c 122 13 [120,121]),v 123 119 122,m 124 123,g 124 true (L 125 1 6),g 124 true (L 126 1 3),g 124 true (c 127 13 [125,126]),v 128 124 127,m 4 128],.ret]
def Z5E:List RRes:=[.t 4]
def Z5F:PCt prog 3 f3 Z5D Z5E:=pcT func3 rfl
end
section
open Qq Tryd
end
section
open Qq Tryd
noncomputable def Z5G:RCode :=
 S [r 0 [n 2 .nils],r 1 [n 3 O],S [r 2 [m 9 0,e 10 9,n 11 O],.block 0 (.loop (S [r 3 [o 12 .lss 11 10],.cond (.t 12) .skip (.exit 0),.block 1 (S [r 4 [i 13 1 9 11,l 14 13,m 5 14],r 5 [m 15 3,m 16 5,e 17 16,o 18 .add 15 17,m 3 18],r 6 [m 19 3,k 20 .lss 19 O],.cond (.t 20) (.raw (λ_ _=>true)) .skip]),r 8 [k 22 .add 11 I,m 11 22]]))],r 9 [m 23 3,w 24 (.calln 66 [.c .nils,.t 23]),m 6 24],S [r 10 [m 25 0,e 26 25,n 27 O],.block 2 (.loop (S [r 11 [o 28 .lss 27 26],.cond (.t 28) .skip (.exit 2),.block 3 (S [r 12 [i 29 1 25 27,l 30 29,m 8 30],r 13 [m 31 6,m 32 8,w 33 (.app 5 72 (.t 31) (.t 32)),m 6 33]]),r 14 [k 34 .add 27 I,m 27 34]]))],r 15 [m 35 6,m 2 35],.ret]
def Z5H:List RRes:=[.t 2]
def Z5I:PCt prog 36 f36 Z5G Z5H:=pcT func36 rfl
def Z5J:RCode :=
 r 0 [m 4 0,m 5 0,e 6 5,m 7 1,c 8 69 [4,6,7]]
def Z5K:List RRes:=[]
def Z5L {G:Jg} {objs objs':List (Nat×AObj)} {args:List AV} {v:AV} (hn:args.length<=f38.ntmps) (h:∀ R:Run,R.G=G->R.Top->AR prog R Z5J ⟨iniT 0 args,objs⟩ (FinB Z5K v objs')):PB prog G 38 objs args v objs' :=
 PB_of func38 rfl (by kernel_rfl) (rc:=Z5J) (by kernel_rfl) (rs:=Z5K) (by kernel_rfl) hn (λR _ hG hr=>h R hG hr)
def Z5M:RCode :=
 S [r 0 [n 6 (.int .i64 20)],r 1 [m 10 6,n 7 O,m 8 10],.block 0 (.loop (S [S [r 2 [m 11 8,m 12 1,o 13 .leq 11 12],.cond (.t 13) .skip (.exit 0)],.block 1 (S [r 3 [m 14 0,m 15 7,m 16 8,m 17 2,c 18 83 [14,15,16,17]],r 4 [m 19 8,m 7 19],r 5 [m 20 8,m 21 6,o 22 .add 20 21,m 8 22]])])),r 6 [m 23 0,m 24 7,m 25 1,m 26 2,c 27 83 [23,24,25,26]],.block 2 (.loop (S [S [r 7 [m 28 6,m 29 1,o 30 .lss 28 29],.cond (.t 30) .skip (.exit 2)],.block 3 (S [r 8 [m 31 6,w 32 (.bin .mul (.c (.int .i64 2)) (.t 31)),n 7 O,m 8 32],.block 4 (.loop (S [S [r 9 [m 33 8,m 34 1,o 35 .leq 33 34],.cond (.t 35) .skip (.exit 4)],.block 5 (S [r 10 [m 36 0,m 37 7,m 38 7,m 39 6,o 40 .add 38 39,m 41 8,m 42 2,c 43 84 [36,37,40,41,42]],r 11 [m 44 8,m 7 44],r 12 [m 45 8,m 46 6,w 47 (.bin .mul (.c (.int .i64 2)) (.t 46)),o 48 .add 45 47,m 8 48]])])),S [r 13 [m 49 7,m 50 6,o 51 .add 49 50,m 9 51],r 14 [m 52 9,m 53 1,o 54 .lss 52 53],.cond (.t 54) (r 15 [m 55 0,m 56 7,m 57 9,m 58 1,m 59 2,c 60 84 [55,56,57,58,59]]) .skip],r 16 [m 61 6,k 62 .mul 61 (.int .i64 2),m 6 62]])]))]
def Z5N:List RRes:=[]
def Z5O {G:Jg} {objs objs':List (Nat×AObj)} {args:List AV} {v:AV} (hn:args.length<=f69.ntmps) (h:∀ R:Run,R.G=G->R.Top->AR prog R Z5M ⟨iniT 0 args,objs⟩ (FinB Z5N v objs')):PB prog G 69 objs args v objs' :=
 PB_of func69 rfl (by kernel_rfl) (rc:=Z5M) (by kernel_rfl) (rs:=Z5N) (by kernel_rfl) hn (λR _ hG hr=>h R hG hr)
def Z5P:RCode :=
 S [r 0 [m 10 1,k 11 .add 10 I,m 8 11],.block 0 (.loop (S [S [r 1 [m 12 8,m 13 2,o 14 .lss 12 13],.cond (.t 14) .skip (.exit 0)],.block 1 (S [r 3 [m 17 8,m 9 17],.block 2 (.loop (S [S [R 4 [m 18 9,m 19 1,a [0,1] (o 20 .gtr 18 19),a [2] (m 21 20),a [3] (g 21 true (m 22 3)),a [3] (g 21 true (m 23 0)),a [3] (g 21 true (m 24 9)),a [5,6,3] (g 21 true (i 25 5 23 24)),a [7,3] (g 21 true (L 26 5 25)),a [3] (g 21 true (m 27 0)),a [3] (g 21 true (m 28 9)),a [10,3] (g 21 true (k 29 .sub 28 I)),a [9,11,3] (g 21 true (i 30 5 27 29)),a [12,3] (g 21 true (L 31 5 30)),a [4,8,13,3,3] (g 21 true (w 32 (.callv (.t 22) [.t 26,.t 31]))),a [14,3] (g 21 true (k 33 .lss 32 O)),a [3,15] (v 34 21 33)],.cond (.t 34) .skip (.exit 2)],.block 3 (R 6 [m 37 0,m 38 9,m 39 0,m 40 9,a [3] (k 41 .sub 40 I),m 42 0,m 43 9,a [6] (k 44 .sub 43 I),a [5,7] (i 45 5 42 44),a [8] (L 46 5 45),m 47 0,m 48 9,a [10,11] (i 49 5 47 48),a [12] (L 50 5 49),a [0,1,0,1,5,6,7,8,9,13] (i 51 5 37 38),a [14,9,0,1,5,6,7,8,9,13] (s 5 51 46),a [2,4,0,1,2,3,4,5,6,7,8,9,10,11,12,13,14,15] (i 52 5 39 41),a [16,13,15,0,1,2,3,4,5,6,7,8,9,10,11,12,13,14,15] (s 5 52 50)]),r 5 [m 35 9,k 36 .sub 35 I,m 9 36]]))]),r 2 [m 15 8,k 16 .add 15 I,m 8 16]]))]
def Z5Q:List RRes:=[]
def Z5R {G:Jg} {objs objs':List (Nat×AObj)} {args:List AV} {v:AV} (hn:args.length<=f83.ntmps) (h:∀ R:Run,R.G=G->R.Top->AR prog R Z5P ⟨iniT 0 args,objs⟩ (FinB Z5Q v objs')):PB prog G 83 objs args v objs' :=
 PB_of func83 rfl (by kernel_rfl) (rc:=Z5P) (by kernel_rfl) (rs:=Z5Q) (by kernel_rfl) hn (λR _ hG hr=>h R hG hr)
def Z5S:RCode :=
 S [r 0 [b 2 0,b 3 1,n 4 O],r 1 [f 5 0 2,l 6 5,f 7 0 3,l 8 7,o 9 .sub 6 8,f 10 1 2,l 11 10,f 12 1 3,l 13 12,o 14 .sub 11 13,w 15 (.bsl false 1 2 [O,O] [(0,.t 9),(1,.t 14)]),c 16 40 [15],m 4 16],.ret]
def Z5T:List RRes:=[.t 4]
def Z5U:PCt prog 39 f39 Z5S Z5T:=pcT func39 rfl
def Z5V:RCode :=
 S [r 0 [b 2 0,b 3 1,n 4 (.bool false)],R 1 [L 5 5 2,a [0] (c 6 43 [5]),L 7 5 3,a [2,1] (c 8 43 [7]),a [1,3] (w 9 (.eqs false [.i,.i] (.t 6) (.t 8))),a [4,3,0,1,2,3,4] (m 4 9)],.ret]
def Z5W:List RRes:=[.t 4]
def Z5X:PCt prog 42 f42 Z5V Z5W:=pcT func42 rfl
def Z5Y:RCode :=
 S [r 0 [n 2 O],r 1 [n 3 O],S [r 2 [m 6 0,e 7 6,n 8 O],.block 0 (.loop (S [r 3 [o 9 .lss 8 7],.cond (.t 9) .skip (.exit 0),.block 1 (S [r 4 [i 10 1 6 8,l 11 10,m 5 11],r 5 [m 12 5,m 13 3,o 14 .neq 12 13],K 14 6 [m 15 5,m 2 15]]),r 7 [k 16 .add 8 I,m 8 16]]))],r 8 [m 17 3,m 2 17],.ret]
def Z5Z:List RRes:=[.t 2]
def Z60:PCt prog 40 f40 Z5Y Z5Z:=pcT func40 rfl
def Z61:RCode :=
 S [r 0 [n 4 .nils],S [r 1 [m 8 0,e 9 8,k 10 .lss 9 (.int .i64 2)],K 10 2 [m 11 0,m 4 11]],S [r 3 [n 5 I],.block 0 (.loop (S [S [r 4 [m 12 5,m 13 0,e 14 13,o 15 .lss 12 14],.cond (.t 15) .skip (.exit 0)],.block 1 (S [R 6 [m 18 1,m 19 0,m 20 5,a [1,2] (i 21 5 19 20),a [3] (L 22 5 21),m 23 0,m 24 5,a [6] (k 25 .sub 24 I),a [5,7] (i 26 5 23 25),a [8] (L 27 5 26),a [0,4,9] (w 28 (.callv (.t 18) [.t 22,.t 27]))],.cond (.t 28) (S [r 7 [m 29 0,m 30 5,w 31 (.slc 5 (.t 29) (some (.t 30)) none),m 6 31],S [r 8 [n 7 I],.block 2 (.loop (S [S [r 9 [m 32 7,m 33 6,e 34 33,o 35 .lss 32 34],.cond (.t 35) .skip (.exit 2)],.block 3 (S [R 11 [m 38 1,m 39 6,m 40 7,a [1,2] (i 41 5 39 40),a [3] (L 42 5 41),m 43 6,m 44 7,a [6] (k 45 .sub 44 I),a [5,7] (i 46 5 43 45),a [8] (L 47 5 46),a [0,4,9] (w 48 (.callv (.t 38) [.t 42,.t 47])),a [10] (t 49 48)],.cond (.t 49) (S [r 12 [m 50 0,m 51 5,m 52 6,m 53 7,i 54 5 52 53,L 55 5 54,i 56 5 50 51,s 5 56 55],r 13 [m 57 5,k 58 .add 57 I,m 5 58]]) .skip]),r 10 [m 36 7,k 37 .add 36 I,m 7 37]]))],r 14 [m 59 0,m 60 5,w 61 (.slc 5 (.t 59) (some (.t 60)) none),z (.clr 5 [O,O,.int .u8 0,.nils,.nils] (.t 61))],r 15 [m 62 0,m 63 5,w 64 (.slc 5 (.t 62) none (some (.t 63))),m 4 64],.ret]) .skip]),r 5 [m 16 5,k 17 .add 16 I,m 5 17]]))],r 16 [m 65 0,m 4 65],.ret]
def Z62:List RRes:=[.t 4]
def Z63 {G:Jg} {objs objs':List (Nat×AObj)} {args:List AV} {v:AV} (hn:args.length<=f41.ntmps) (h:∀ R:Run,R.G=G->R.Top->AR prog R Z61 ⟨iniT 0 args,objs⟩ (FinB Z62 v objs')):PB prog G 41 objs args v objs' :=
 PB_of func41 rfl (by kernel_rfl) (rc:=Z61) (by kernel_rfl) (rs:=Z62) (by kernel_rfl) hn (λR _ hG hr=>h R hG hr)
def Z64:RCode :=
 S [r 0 [b 2 0,b 3 1,w 4 (.alloc [.nils]),n 5 O],r 1 [L 14 1 2,L 15 1 3,c 16 33 [14,15],m 13 16,x 17 0 13,x 18 1 13,x 19 2 13,m 6 17,m 7 18,m 8 19],S [r 2 [m 20 8,k 21 .neq 20 O],K 21 3 [w 22 (.build [.nils] []),m 23 8,s 1 4 22,m 5 23]],S [r 4 [m 24 6,e 25 24,k 26 .gtr 25 O],K 26 5 [w 27 (.build [.nils] []),s 1 4 27,n 5 (.int .i64 23)]],r 6 [w 9 (.alloc [.nils])],S [r 7 [f 28 0 2,l 29 28,f 30 0 3,l 31 30,w 32 (.bsl false 1 2 [.nils,.nils] [(0,.t 29),(1,.t 31)]),c 33 36 [32],e 34 33,n 35 O],.block 0 (.loop (S [r 8 [o 36 .lss 35 34],.cond (.t 36) .skip (.exit 0),.block 1 (S [r 9 [i 37 5 33 35,L 38 5 37,w 11 (.alloc [O,O,.int .u8 0,.nils,.nils]),s 5 11 38],R 10 [f 39 0 9,a [0] (l 40 39),L 41 5 11,a [2] (c 42 37 [41]),a [3] (w 43 (.bsl false 5 1 [O,O,.int .u8 0,.nils,.nils] [(0,.t 42)])),a [1,4,3] (w 44 (.app 5 72 (.t 40) (.t 43))),a [0,1,2,3,4,5] (f 45 0 9),a [6,5,5,0,1,2,3,4,5] (s 1 45 44)]]),r 11 [k 46 .add 35 I,m 35 46]]))],r 12 [f 47 0 9,l 48 47,w 49 (.call 38 [.t 48,.c (.func (.func 39) [] [])])],r 13 [f 50 0 9,l 51 50,w 52 (.call 41 [.t 51,.c (.func (.func 42) [] [])]),f 53 0 9,s 1 53 52],S [r 14 [L 54 1 9,c 55 17 [54],m 12 55],r 15 [m 56 12,k 57 .neq 56 O],K 57 16 [w 58 (.build [.nils] []),m 59 12,s 1 4 58,m 5 59]],r 17 [L 60 1 9,s 1 4 60,n 5 O],.ret]
def Z65:List RRes:=[.c 4 true 1,.t 5]
def Z66:PCt prog 10 f10 Z64 Z65:=pcT func10 rfl
def Z67:RCode :=
 S [r 0 [b 2 0,b 3 1,n 4 .nils,n 5 O],r 1 [L 10 1 2,L 11 1 3,c 12 33 [10,11],m 9 12,x 13 0 9,x 14 1 9,x 15 2 9,m 6 13,m 7 14,m 8 15],r 2 [m 16 6,m 17 8,m 4 16,m 5 17],.ret]
def Z68:List RRes:=[.t 4,.t 5]
def Z69:PCt prog 8 f8 Z67 Z68:=pcT func8 rfl
def Z6a:RCode :=
 S [r 0 [b 2 0,b 3 1,n 4 .nils,n 5 .nilp,n 6 O],S [r 1 [L 15 1 2,c 16 17 [15],m 7 16],r 2 [m 17 7,k 18 .neq 17 O],K 18 3 [m 19 7,n 4 .nils,n 5 .nilp,m 6 19]],r 4 [L 21 1 3,c 22 53 [21],m 20 22,x 23 0 20,x 24 1 20,m 8 23,m 9 24],S [r 5 [m 25 9,k 26 .neq 25 O],K 26 6 [m 27 9,n 4 .nils,n 5 .nilp,m 6 27]],r 7 [n 10 .nils],S [r 8 [f 28 0 2,l 29 28,e 30 29,n 31 O],.block 0 (.loop (S [r 9 [o 32 .lss 31 30],.cond (.t 32) .skip (.exit 0),.block 1 (S [r 10 [i 33 5 29 31,L 34 5 33,w 12 (.alloc [O,O,.int .u8 0,.nils,.nils]),s 5 12 34],r 11 [m 36 8,L 37 5 12,c 38 43 [37],c 39 62 [36,38],m 35 39,x 40 0 35,x 41 1 35,w 13 (.alloc [O,O,.int .u8 0,.nils,.nils]),s 5 13 40,m 14 41],r 12 [m 42 14,m 43 42,g 43 true (L 44 5 12),g 43 true (L 45 5 13),g 43 true (c 46 65 [44,45]),g 43 true (t 47 46),v 48 43 47],.cond (.t 48) (r 13 [m 49 10,L 50 5 12,c 51 43 [50],w 52 (.bsl false 2 1 [O,O] [(0,.t 51)]),w 53 (.app 2 16 (.t 49) (.t 52)),m 10 53]) .skip]),r 14 [k 54 .add 31 I,m 31 54]]))],r 15 [m 55 10,m 56 8,m 4 55,m 5 56,n 6 O],.ret]
def Z6b:List RRes:=[.t 4,.t 5,.t 6]
def Z6c:PCt prog 33 f33 Z6a Z6b:=pcT func33 rfl
def Z6d:RCode :=
 S [r 0 [b 2 0,b 3 1,n 4 (.bool false)],R 1 [L 5 5 2,a [0] (c 6 43 [5]),L 7 5 3,a [2,1] (c 8 43 [7]),a [1,3] (w 9 (.eqs false [.i,.i] (.t 6) (.t 8))),a [4,3] (m 10 9),a [5] (g 10 true (f 11 2 2)),a [6,5] (g 10 true (l 12 11)),a [5] (g 10 true (f 13 2 3)),a [8,5] (g 10 true (l 14 13)),a [7,9,5] (g 10 true (o 15 .eql 12 14)),a [5,10] (v 16 10 15),a [11,5] (m 17 16),a [12] (g 17 true (f 18 3 2)),a [13,12] (g 17 true (l 19 18)),a [12] (g 17 true (f 20 3 3)),a [15,12] (g 17 true (l 21 20)),a [12] (g 17 true (w 22 (.mkf (.func 81) [] [.t 2,.t 3]))),a [14,16,17,12,12] (g 17 true (c 23 80 [19,21,22])),a [12,18] (v 24 17 23),a [19,18,0,1,2,3,4,5,6,7,8,9,10,11,12,13,14,15,16,17,18,19] (m 4 24)],.ret]
def Z6e:List RRes:=[.t 4]
def Z6f:PCt prog 65 f65 Z6d Z6e:=pcT func65 rfl
def Z6g:RCode :=
 S [r 0 [n 2 (.bool false)],r 1 [f 3 4 0,l 4 3,f 5 4 1,l 6 5,c 7 82 [4,6],m 2 7],.ret]
def Z6h:List RRes:=[.t 2]
def Z6i:PCt prog 81 f81 Z6g Z6h:=pcT func81 rfl
def Z6j:RCode :=
 S [r 0 [n 6 (.bool false)],r 1 [m 7 0,m 8 1,c 9 97 [7,8],m 10 9,g 10 true (m 11 2),g 10 true (w 12 (.callv (.t 11) [])),v 13 10 12,m 6 13],.ret]
def Z6k:List RRes:=[.t 6]
def Z6l:PCt prog 80 f80 Z6j Z6k:=pcT func80 rfl
def Z6m:RCode :=
 S [r 0 [n 4 (.bool false)],S [r 1 [m 6 0,e 7 6,m 8 1,e 9 8,o 10 .neq 7 9],K 10 2 [n 4 (.bool false)]],S [r 3 [m 11 0,e 12 11,n 13 O],.block 0 (.loop (S [r 4 [o 14 .lss 13 12],.cond (.t 14) .skip (.exit 0),.block 1 (S [r 5 [m 15 13,m 5 15],R 6 [m 16 0,m 17 5,a [0,1] (i 18 3 16 17),a [2] (L 19 3 18),m 20 1,m 21 5,a [4,5] (i 22 3 20 21),a [6] (L 23 3 22),a [3,7] (w 24 (.eqs true [.i,.i,.i] (.t 19) (.t 23)))],K 24 7 [n 4 (.bool false)]]),r 8 [k 25 .add 13 I,m 13 25]]))],r 9 [n 4 (.bool true)],.ret]
def Z6n:List RRes:=[.t 4]
def Z6o:PCt prog 82 f82 Z6m Z6n:=pcT func82 rfl
def Z6p:RCode :=
 S [r 0 [n 4 (.bool false)],S [r 1 [m 6 0,e 7 6,m 8 1,e 9 8,o 10 .neq 7 9],K 10 2 [n 4 (.bool false)]],S [r 3 [m 11 0,e 12 11,n 13 O],.block 0 (.loop (S [r 4 [o 14 .lss 13 12],.cond (.t 14) .skip (.exit 0),.block 1 (S [r 5 [m 15 13,m 5 15],R 6 [m 16 0,m 17 5,a [0,1] (i 18 2 16 17),a [2] (L 19 2 18),m 20 1,m 21 5,a [4,5] (i 22 2 20 21),a [6] (L 23 2 22),a [3,7] (w 24 (.eqs true [.i,.i] (.t 19) (.t 23)))],K 24 7 [n 4 (.bool false)]]),r 8 [k 25 .add 13 I,m 13 25]]))],r 9 [n 4 (.bool true)],.ret]
def Z6q:List RRes:=[.t 4]
def Z6r:PCt prog 97 f97 Z6p Z6q:=pcT func97 rfl
end
section
open Qq Tryd
def Z6v:RCode :=
 S [r 0 [n 4 (.bool false)],S [r 1 [m 6 0,e 7 6,m 8 1,e 9 8,o 10 .neq 7 9],K 10 2 [n 4 (.bool false)]],S [r 3 [n 5 O],.block 0 (.loop (S [S [r 4 [m 11 5,m 12 0,e 13 12,o 14 .lss 11 13],.cond (.t 14) .skip (.exit 0)],.block 1 (S [R 6 [m 17 0,m 18 5,a [0,1] (i 19 2 17 18),a [2] (L 20 2 19),m 21 1,m 22 5,a [4,5] (i 23 2 21 22),a [6] (L 24 2 23),a [3,7] (w 25 (.eqs true [.i,.i] (.t 20) (.t 24)))],K 25 7 [n 4 (.bool false)]]),r 5 [m 15 5,k 16 .add 15 I,m 5 16]]))],r 8 [n 4 (.bool true)],.ret]
def Z6w:List RRes:=[.t 4]
def Z6x:PCt prog 12 f12 Z6v Z6w:=pcT func12 rfl
end
section
open Qq Tryd
end
section
open Qq Tryd
end
section
open Qq Tryd
noncomputable def Z6y:RCode :=
 S [r 0 [b 1 0,n 2 .nilp,n 3 O],.scope (S [r 1 [L 16 1 1,w 17 (.build [.nils,.nils] [(0,1,.t 16)]),b 18 17,w 4 (.alloc [.nilp]),s 1 4 18],S [r 2 [f 19 0 1,l 20 19,e 21 20,w 22 (.bsl false 1 1 [O] [(0,.t 21)]),w 23 (.call 74 [.c I,.c (.int .i64 60),.t 22]),t 24 23],K 24 3 [n 2 .nilp,n 3 (.int .i64 20)]],(.label 0),S [r 4 [f 25 0 1,l 26 25,e 27 26,n 28 O],.block 0 (.loop (S [r 5 [o 29 .lss 28 27],.cond (.t 29) .skip (.exit 0),.block 1 (S [r 6 [m 30 28,i 31 5 26 28,L 32 5 31,w 6 (.alloc [O,O,.int .u8 0,.nils,.nils]),m 5 30,s 5 6 32],S [r 7 [w 33 (.load true 4 (.g 0)),n 34 O],.block 2 (.loop (S [r 8 [k 35 .lss 34 (.int .i64 4)],.cond (.t 35) .skip (.exit 2),.block 3 (S [r 9 [w 36 (.vop (.aidx true 4 1) [(.t 33),(.t 34)]),w 8 (.alloc [.nilf]),s 1 8 36],r 10 [f 37 0 8,l 38 37,L 39 5 6,w 40 (.callv (.t 38) [.t 39]),t 41 40],K 41 11 [n 2 .nilp,n 3 (.int .i64 20)]]),r 12 [k 42 .add 34 I,m 34 42]]))],S [r 13 [m 43 5,k 44 .gtr 43 O],.cond (.t 44) (S [r 14 [f 45 0 1,l 46 45,m 47 5,k 48 .sub 47 I,i 49 5 46 48,L 50 5 49,w 9 (.alloc [O,O,.int .u8 0,.nils,.nils]),s 5 9 50],r 15 [f 51 0 9,l 52 51,f 53 0 6,l 54 53,o 55 .eql 52 54],.cond (.t 55) (S [S [r 16 [f 56 1 9,l 57 56,k 58 .add 57 I,f 59 1 6,l 60 59,o 61 .neq 58 60,m 62 61,g 62 false (f 63 2 9),g 62 false (l 64 63),g 62 false (f 65 2 6),g 62 false (l 66 65),g 62 false (o 67 .neq 64 66),u 68 62 67],K 68 17 [n 2 .nilp,n 3 (.int .i64 20)]],.exit 1]) (S [r 18 [f 69 0 9,l 70 69,f 71 0 6,l 72 71,o 73 .gtr 70 72],K 73 19 [n 2 .nilp,n 3 (.int .i64 20)]])]) .skip],S [r 20 [f 74 1 6,l 75 74,k 76 .neq 75 I],K 76 21 [n 2 .nilp,n 3 (.int .i64 20)]],R 22 [l 77 4,l 78 4,a [1] (w 79 (.nilck (.t 78))),a [2] (f 80 1 79),a [3] (l 81 80),f 82 0 6,a [5] (l 83 82),a [6] (w 84 (.bsl false 1 1 [O] [(0,.t 83)])),a [4,7] (w 85 (.app 1 8 (.t 81) (.t 84))),a [0,0,1,2,3,4,5,6,7,8] (w 86 (.nilck (.t 77))),a [9,0,1,2,3,4,5,6,7,8] (f 87 1 86),a [10,8,8,0,1,2,3,4,5,6,7,8] (s 1 87 85)]]),r 23 [k 88 .add 28 I,m 28 88]]))],S [r 24 [l 89 4,w 90 (.nilck (.t 89)),f 91 1 90,l 92 91,e 93 92,k 94 .gtr 93 (.int .i64 20)],K 94 25 [n 2 .nilp,n 3 (.int .i64 20)]],S [r 26 [f 95 0 1,l 96 95,e 97 96,n 98 O],.block 4 (.loop (S [r 27 [o 99 .lss 98 97],.cond (.t 99) .skip (.exit 4),.block 5 (S [r 28 [i 100 5 96 98,L 101 5 100,w 11 (.alloc [O,O,.int .u8 0,.nils,.nils]),s 5 11 101],r 29 [f 102 3 11,l 103 102,w 104 (.mkf (.func 76) [] [.t 4]),c 105 75 [103,104]],K 105 30 [n 2 .nilp,n 3 (.int .i64 20)]]),r 31 [k 106 .add 98 I,m 98 106]]))],r 32 [l 108 4,c 109 59 [108],m 107 109,x 110 0 107,x 111 1 107,m 12 110,m 13 111],S [r 33 [m 112 13],K 112 34 [n 2 .nilp,n 3 (.int .i64 21)]],(.raw (opnR prog)),r 40 [l 121 4,m 2 121,n 3 O],.ret])]
def Z6z:List RRes:=[.t 2,.t 3]
def Z6A:PCt prog 53 f53 Z6y Z6z:=pcT func53 rfl
end
section
open Qq Tryd
def Z6B:RCode :=
 S [r 0 [b 3 0,b 4 1,n 6 (.bool false)],r 1 [m 7 2,w 8 (.mkf (.func 73) [] [.t 3,.t 4]),c 9 72 [7,8],t 10 9,m 6 10],.ret]
def Z6C:List RRes:=[.t 6]
def Z6D:PCt prog 52 f52 Z6B Z6C:=pcT func52 rfl
def Z6E:RCode :=
 S [r 0 [n 4 (.bool false)],r 1 [m 5 0,l 6 1,o 7 .lss 5 6,m 8 7,g 8 false (m 9 0),g 8 false (l 10 2),g 8 false (o 11 .gtr 9 10),u 12 8 11,m 4 12],.ret]
def Z6F:List RRes:=[.t 4]
def Z6G:PCt prog 73 f73 Z6E Z6F:=pcT func73 rfl
def Z6H:RCode :=
 S [r 0 [n 4 (.bool false)],r 1 [m 5 0,m 6 1,c 7 89 [5,6],k 8 .geq 7 O,m 4 8],.ret]
def Z6I:List RRes:=[.t 4]
def Z6J:PCt prog 72 f72 Z6H Z6I:=pcT func72 rfl
def Z6K:RCode :=
 S [r 0 [n 4 O],S [r 1 [m 6 0,e 7 6,n 8 O],.block 0 (.loop (S [r 2 [o 9 .lss 8 7],.cond (.t 9) .skip (.exit 0),.block 1 (S [r 3 [m 10 8,m 5 10],r 4 [m 11 1,m 12 0,m 13 5,i 14 1 12 13,l 15 14,w 16 (.callv (.t 11) [.t 15])],K 16 5 [m 17 5,m 4 17]]),r 6 [k 18 .add 8 I,m 8 18]]))],r 7 [n 4 (.int .i64 (-1))],.ret]
def Z6L:List RRes:=[.t 4]
def Z6M:PCt prog 89 f89 Z6K Z6L:=pcT func89 rfl
def Z6N:RCode :=
 S [r 0 [b 1 0,n 2 O],S [r 1 [f 3 0 1,l 4 3,f 5 1 1,l 6 5,f 7 2 1,l 8 7,w 9 (.bsl false 1 3 [O,O,O] [(0,.t 4),(1,.t 6),(2,.t 8)]),w 10 (.call 52 [.c O,.c (.int .i64 1000000000),.t 9]),t 11 10,m 12 11,g 12 false (f 13 1 1),g 12 false (l 14 13),g 12 false (f 15 2 1),g 12 false (l 16 15),g 12 false (o 17 .gtr 14 16),u 18 12 17],K 18 2 [n 2 (.int .i64 10)]],r 3 [n 2 O],.ret]
def Z6O:List RRes:=[.t 2]
def Z6P:PCt prog 16 f16 Z6N Z6O:=pcT func16 rfl
def Z6Q:RCode :=
 S [r 0 [b 3 0,b 4 1,n 6 (.bool false)],r 1 [m 7 2,w 8 (.mkf (.func 90) [] [.t 3,.t 4]),c 9 72 [7,8],t 10 9,m 6 10],.ret]
def Z6R:List RRes:=[.t 6]
def Z6S:PCt prog 74 f74 Z6Q Z6R:=pcT func74 rfl
def Z6T:RCode :=
 S [r 0 [n 4 (.bool false)],r 1 [m 5 0,l 6 1,o 7 .lss 5 6,m 8 7,g 8 false (m 9 0),g 8 false (l 10 2),g 8 false (o 11 .gtr 9 10),u 12 8 11,m 4 12],.ret]
def Z6U:List RRes:=[.t 4]
def Z6V:PCt prog 90 f90 Z6T Z6U:=pcT func90 rfl
def Z6W:RCode :=
 S [r 0 [b 1 0,w 2 (.alloc [O,O])],r 1 [f 3 0 1,l 4 3,f 5 1 1,l 6 5,w 7 (.build [O,O] [(0,1,.t 4),(1,1,.t 6)]),s 2 2 7],.ret]
def Z6X:List RRes:=[.c 2 true 2]
def Z6Y:PCt prog 43 f43 Z6W Z6X:=pcT func43 rfl
def Z6Z:RCode :=
 S [r 0 [b 1 0,n 2 (.bool false)],r 1 [f 3 0 1,l 4 3,w 5 (.bsl false 1 1 [O] [(0,.t 4)]),w 6 (.call 74 [.c I,.c (.int .i64 9999),.t 5]),m 7 6,g 7 true (f 8 1 1),g 7 true (l 9 8),g 7 true (w 10 (.bsl false 1 1 [O] [(0,.t 9)])),g 7 true (w 11 (.call 74 [.c I,.c (.int .i64 8),.t 10])),v 12 7 11,m 2 12],.ret]
def Z70:List RRes:=[.t 2]
def Z71:PCt prog 122 f122 Z6Z Z70:=pcT func122 rfl
def Z72:RCode :=
 S [r 0 [b 1 0,n 2 (.bool false)],S [r 1 [f 3 2 1,l 4 3,k 5 .eql 4 (.int .u8 1)],K 5 2 [f 6 3 1,l 7 6,e 8 7,w 9 (.bsl false 1 1 [O] [(0,.t 8)]),w 10 (.call 74 [.c I,.c (.int .i64 8),.t 9]),m 11 10,g 11 true (f 12 4 1),g 11 true (l 13 12),g 11 true (e 14 13),g 11 true (k 15 .eql 14 O),v 16 11 15,m 2 16]],r 3 [f 17 2 1,l 18 17,w 19 (.conv .i64 (.t 18)),w 20 (.bsl false 1 1 [O] [(0,.t 19)]),w 21 (.call 74 [.c (.int .i64 2),.c (.int .i64 3),.t 20]),m 22 21,g 22 true (f 23 4 1),g 22 true (l 24 23),g 22 true (e 25 24),g 22 true (k 26 .leq 25 (.int .i64 4)),v 27 22 26,m 28 27,g 28 true (f 29 3 1),g 28 true (l 30 29),g 28 true (e 31 30),g 28 true (k 32 .eql 31 O),v 33 28 32,m 2 33],.ret]
def Z73:List RRes:=[.t 2]
def Z74:PCt prog 123 f123 Z72 Z73:=pcT func123 rfl
def Z75:RCode :=
 S [r 0 [b 1 0,n 2 (.bool false)],S [r 1 [f 5 3 1,l 6 5,e 7 6,n 8 O],.block 0 (.loop (S [r 2 [o 9 .lss 8 7],.cond (.t 9) .skip (.exit 0),.block 1 (S [r 3 [m 10 8,i 11 2 6 8,L 12 2 11,w 4 (.alloc [O,O]),m 3 10,s 2 4 12],R 4 [f 13 0 4,a [0] (l 14 13),a [1] (w 15 (.bsl false 1 1 [O] [(0,.t 14)])),a [2] (w 16 (.call 74 [.c I,.c (.int .i64 9999),.t 15])),a [3] (t 17 16),a [4,3] (m 18 17),a [5] (g 18 false (f 19 1 4)),a [6,5] (g 18 false (l 20 19)),a [7,5] (g 18 false (w 21 (.bsl false 1 1 [O] [(0,.t 20)]))),a [8,5,5] (g 18 false (w 22 (.call 74 [.c I,.c (.int .i64 20),.t 21]))),a [9,5] (g 18 false (t 23 22)),a [5,10] (u 24 18 23),a [11,9] (m 25 24),a [12] (g 25 false (f 26 0 4)),a [13,12] (g 25 false (l 27 26)),a [12] (g 25 false (f 28 0 1)),a [15,12] (g 25 false (l 29 28)),a [14,16,12] (g 25 false (o 30 .eql 27 29)),a [12,17] (u 31 25 30),a [18,12] (m 32 31),a [19] (g 32 false (m 33 3)),a [20,19] (g 32 false (k 34 .gtr 33 O)),a [21,19,19] (g 32 false (m 35 34)),a [22] (g 35 true (f 36 3 1)),a [23,22] (g 35 true (l 37 36)),a [22] (g 35 true (m 38 3)),a [25,22] (g 35 true (k 39 .sub 38 I)),a [24,26,22] (g 35 true (i 40 2 37 39)),a [27,22] (g 35 true (f 41 0 40)),a [28,22] (g 35 true (l 42 41)),a [22] (g 35 true (f 43 0 4)),a [30,22] (g 35 true (l 44 43)),a [29,31,22] (g 35 true (o 45 .geq 42 44)),a [22,32,19] (g 32 false (v 46 35 45)),a [19,33] (u 47 32 46)],K 47 5 [n 2 (.bool false)]]),r 6 [k 48 .add 8 I,m 8 48]]))],r 7 [n 2 (.bool true)],.ret]
def Z76:List RRes:=[.t 2]
def Z77:PCt prog 124 f124 Z75 Z76:=pcT func124 rfl
def Z78:RCode :=
 S [r 0 [b 1 0,n 2 (.bool false)],r 1 [f 3 4 1,l 4 3,w 5 (.call 126 [.t 4,.c (.func (.func 127) [] [])]),t 6 5,m 2 6],.ret]
def Z79:List RRes:=[.t 2]
def Z7a:PCt prog 125 f125 Z78 Z79:=pcT func125 rfl
def Z7b:RCode :=
 S [r 0 [b 1 0,n 2 (.bool false)],r 1 [L 3 3 1,c 4 16 [3],k 5 .neq 4 O,m 2 5],.ret]
def Z7c:List RRes:=[.t 2]
def Z7d:PCt prog 127 f127 Z7b Z7c:=pcT func127 rfl
def Z7e:RCode :=
 S [r 0 [n 4 (.bool false)],r 1 [m 5 0,m 6 1,c 7 128 [5,6],k 8 .geq 7 O,m 4 8],.ret]
def Z7f:List RRes:=[.t 4]
def Z7g:PCt prog 126 f126 Z7e Z7f:=pcT func126 rfl
def Z7h:RCode :=
 S [r 0 [n 4 O],S [r 1 [m 6 0,e 7 6,n 8 O],.block 0 (.loop (S [r 2 [o 9 .lss 8 7],.cond (.t 9) .skip (.exit 0),.block 1 (S [r 3 [m 10 8,m 5 10],r 4 [m 11 1,m 12 0,m 13 5,i 14 3 12 13,L 15 3 14,w 16 (.callv (.t 11) [.t 15])],K 16 5 [m 17 5,m 4 17]]),r 6 [k 18 .add 8 I,m 8 18]]))],r 7 [n 4 (.int .i64 (-1))],.ret]
def Z7i:List RRes:=[.t 4]
def Z7j:PCt prog 128 f128 Z7h Z7i:=pcT func128 rfl
def Z7k:RCode :=
 S [r 0 [n 4 (.bool false)],r 1 [m 5 0,m 6 1,c 7 91 [5,6],k 8 .geq 7 O,m 4 8],.ret]
def Z7l:List RRes:=[.t 4]
def Z7m:PCt prog 75 f75 Z7k Z7l:=pcT func75 rfl
def Z7n:RCode :=
 S [r 0 [n 4 O],S [r 1 [m 6 0,e 7 6,n 8 O],.block 0 (.loop (S [r 2 [o 9 .lss 8 7],.cond (.t 9) .skip (.exit 0),.block 1 (S [r 3 [m 10 8,m 5 10],r 4 [m 11 1,m 12 0,m 13 5,i 14 2 12 13,L 15 2 14,w 16 (.callv (.t 11) [.t 15])],K 16 5 [m 17 5,m 4 17]]),r 6 [k 18 .add 8 I,m 8 18]]))],r 7 [n 4 (.int .i64 (-1))],.ret]
def Z7o:List RRes:=[.t 4]
def Z7p:PCt prog 91 f91 Z7n Z7o:=pcT func91 rfl
def Z7q:RCode :=
 S [r 0 [b 2 0,n 3 (.bool false)],r 1 [l 4 1,f 5 0 2,l 6 5,c 7 77 [4,6],t 8 7,m 3 8],.ret]
def Z7r:List RRes:=[.t 3]
def Z7s:PCt prog 76 f76 Z7q Z7r:=pcT func76 rfl
def Z7t:RCode :=
 S [r 0 [n 4 (.bool false)],r 1 [m 8 0,w 9 (.nilck (.t 8)),f 10 1 9,l 11 10,m 12 1,c 13 92 [11,12],m 7 13,x 14 0 7,x 15 1 7,m 5 14,m 6 15],r 2 [m 16 6,m 4 16],.ret]
def Z7u:List RRes:=[.t 4]
def Z7v:PCt prog 77 f77 Z7t Z7u:=pcT func77 rfl
def Z7w:RCode :=
 S [r 0 [n 4 O,n 5 (.bool false)],r 1 [m 10 0,e 11 10,m 6 11],r 2 [m 12 6,n 7 O,m 8 12],.block 0 (.loop (S [S [r 3 [m 13 7,m 14 8,o 15 .lss 13 14],.cond (.t 15) .skip (.exit 0)],.block 1 (S [r 4 [m 16 7,m 17 8,o 18 .add 16 17,w 19 (.conv .u64 (.t 18)),w 20 (.vop (.sh false) [(.t 19),(.c (.int .u64 1))]),w 21 (.conv .i64 (.t 20)),m 9 21],r 5 [m 22 0,m 23 9,i 24 1 22 23,l 25 24,m 26 1,c 27 100 [25,26]],.cond (.t 27) (r 6 [m 28 9,k 29 .add 28 I,m 7 29]) (r 7 [m 30 9,m 8 30])])])),r 8 [m 31 7,m 32 7,m 33 6,o 34 .lss 32 33,m 35 34,g 35 true (m 36 0),g 35 true (m 37 7),g 35 true (i 38 1 36 37),g 35 true (l 39 38),g 35 true (m 40 1),g 35 true (o 41 .eql 39 40),g 35 true (m 42 41),g 42 false (m 43 0),g 42 false (m 44 7),g 42 false (i 45 1 43 44),g 42 false (l 46 45),g 42 false (c 47 101 [46]),g 42 false (m 48 47),g 48 true (m 49 1),g 48 true (c 50 101 [49]),g 42 false (v 51 48 50),g 35 true (u 52 42 51),v 53 35 52,m 4 31,m 5 53],.ret]
def Z7x:List RRes:=[.t 4,.t 5]
def Z7y:PCt prog 92 f92 Z7w Z7x:=pcT func92 rfl
def Z7z:RCode :=
 S [r 0 [n 4 (.bool false)],r 1 [m 5 0,c 6 102 [5],m 7 6,g 7 true (m 8 1),g 7 true (c 9 102 [8]),g 7 true (t 10 9),v 11 7 10,m 12 11,g 12 false (m 13 0),g 12 false (m 14 1),g 12 false (o 15 .lss 13 14),u 16 12 15,m 4 16],.ret]
def Z7A:List RRes:=[.t 4]
def Z7B:PCt prog 100 f100 Z7z Z7A:=pcT func100 rfl
def Z7C:RCode :=
 S [r 0 [n 2 (.bool false)],r 1 [m 3 0,m 4 0,o 5 .neq 3 4,m 2 5],.ret]
def Z7D:List RRes:=[.t 2]
def Z7E:PCt prog 102 f102 Z7C Z7D:=pcT func102 rfl
def Z7F:RCode :=
 S [r 0 [n 2 (.bool false)],r 1 [m 3 0,m 4 0,o 5 .neq 3 4,m 2 5],.ret]
def Z7G:List RRes:=[.t 2]
def Z7H:PCt prog 101 f101 Z7F Z7G:=pcT func101 rfl
def Z7I:RCode :=
 S [r 0 [n 4 O],r 1 [m 7 0,c 8 102 [7],m 5 8],r 2 [m 9 1,c 10 102 [9],m 6 10],S [r 3 [m 11 5],.cond (.t 11) (S [S [r 4 [m 12 6],K 12 5 [n 4 O]],r 6 [n 4 (.int .i64 (-1))],.ret]) .skip],S [r 7 [m 13 6],K 13 8 [n 4 I]],S [r 9 [m 14 0,m 15 1,o 16 .lss 14 15],K 16 10 [n 4 (.int .i64 (-1))]],S [r 11 [m 17 0,m 18 1,o 19 .gtr 17 18],K 19 12 [n 4 I]],r 13 [n 4 O],.ret]
def Z7J:List RRes:=[.t 4]
def Z7K:PCt prog 96 f96 Z7I Z7J:=pcT func96 rfl
def Z7L:RCode :=
 S [r 0 [n 6 O,n 7 (.bool false)],r 1 [m 12 0,e 13 12,m 8 13],r 2 [m 14 8,n 9 O,m 10 14],.block 0 (.loop (S [S [r 3 [m 15 9,m 16 10,o 17 .lss 15 16],.cond (.t 17) .skip (.exit 0)],.block 1 (S [r 4 [m 18 9,m 19 10,o 20 .add 18 19,w 21 (.conv .u64 (.t 20)),w 22 (.vop (.sh false) [(.t 21),(.c (.int .u64 1))]),w 23 (.conv .i64 (.t 22)),m 11 23],r 5 [m 24 2,m 25 0,m 26 11,i 27 5 25 26,L 28 5 27,m 29 1,w 30 (.callv (.t 24) [.t 28,.t 29]),k 31 .lss 30 O],.cond (.t 31) (r 6 [m 32 11,k 33 .add 32 I,m 9 33]) (r 7 [m 34 11,m 10 34])])])),r 8 [m 35 9,m 36 9,m 37 8,o 38 .lss 36 37,m 39 38,g 39 true (m 40 2),g 39 true (m 41 0),g 39 true (m 42 9),g 39 true (i 43 5 41 42),g 39 true (L 44 5 43),g 39 true (m 45 1),g 39 true (w 46 (.callv (.t 40) [.t 44,.t 45])),g 39 true (k 47 .eql 46 O),v 48 39 47,m 6 35,m 7 48],.ret]
def Z7M:List RRes:=[.t 6,.t 7]
def Z7N:PCt prog 94 f94 Z7L Z7M:=pcT func94 rfl
def Z7O:RCode :=
 S [r 0 [b 2 0,b 3 1,n 4 .nilf],r 1 [w 5 (.mkf (.func 93) [] [.t 2,.t 3]),m 4 5],.ret]
def Z7P:List RRes:=[.t 4]
def Z7Q:PCt prog 78 f78 Z7O Z7P:=pcT func78 rfl
def Z7R:RCode :=
 S [r 0 [b 2 0,n 4 O],r 1 [f 5 0 2,l 6 5,m 7 1,c 8 96 [6,7],m 4 8],.ret]
def Z7S:List RRes:=[.t 4]
def Z7T:PCt prog 95 f95 Z7R Z7S:=pcT func95 rfl
def Z7U:RCode :=
 S [r 0 [b 3 1,w 4 (.alloc [O,O,.int .u8 0,.nils,.nils]),w 5 (.alloc [.bool false])],S [r 1 [m 7 0,f 8 0 3,l 9 8,c 10 78 [7,9]],.block 0 (.rngf (.t 10) [11] (r 2 [w 6 (.alloc [O,O,.int .u8 0,.nils,.nils]),s 5 6 11]) (.block 1 (S [R 3 [L 12 5 6,a [0] (c 13 43 [12]),L 14 2 3,a [1,2] (w 15 (.eqs false [.i,.i] (.t 13) (.t 14)))],K 15 4 [L 16 5 6,s 5 4 16,z (.store 1 (.t 5) (.c (.bool true)))]])))],r 5 [w 17 (.build [O,O,.int .u8 0,.nils,.nils] []),s 5 4 17,z (.store 1 (.t 5) (.c (.bool false)))],.ret]
def Z7V:List RRes:=[.c 4 true 5,.c 5 false 1]
def Z7W:PCt prog 62 f62 Z7U Z7V:=pcT func62 rfl
def Z7X:RCode :=
 S [r 0 [n 2 .nilm,n 3 (.bool false)],r 1 [w 15 (.mkmap),w 4 (.alloc [.nilm]),s 1 4 15],r 2 [w 16 (.mkmap),w 5 (.alloc [.nilm]),s 1 5 16],S [r 3 [m 17 0,w 18 (.nilck (.t 17)),f 19 1 18,l 20 19,e 21 20,n 22 O],.block 0 (.loop (S [r 4 [o 23 .lss 22 21],.cond (.t 23) .skip (.exit 0),.block 1 (S [r 5 [i 24 1 20 22,l 25 24,m 7 25],r 6 [l 26 5,m 27 7,z (.mupd (.i .i64) (.t 26) (.t 27) (.c (.bool true)))]]),r 7 [k 28 .add 22 I,m 22 28]]))],S [r 8 [m 29 0,w 30 (.nilck (.t 29)),f 31 1 30,l 32 31,e 33 32,n 34 O],.block 2 (.loop (S [r 9 [o 35 .lss 34 33],.cond (.t 35) .skip (.exit 2),.block 3 (S [r 10 [m 36 0,w 37 (.nilck (.t 36)),f 38 1 37,l 39 38,e 40 39,n 41 O],.block 4 (.loop (S [r 11 [o 42 .lss 41 40],.cond (.t 42) .skip (.exit 4),.block 5 (S [r 12 [i 43 1 39 41,l 44 43,m 9 44],R 13 [l 45 5,m 46 9,a [0,1] (w 47 (.look (.i .i64) (.bool false) false (.t 45) (.t 46))),w 10 (.alloc [O]),w 11 (.alloc [.bool false]),a [3,3,4] (z (.store 1 (.t 10) (.c O))),a [4,2,5,0,1,2,3,4,5] (s 1 11 47)],S [r 14 [m 48 0,m 49 9,c 50 78 [48,49]],.block 6 (.rngf (.t 50) [51] (r 15 [w 12 (.alloc [O,O,.int .u8 0,.nils,.nils]),s 5 12 51]) (.block 7 (S [r 16 [f 52 3 12,l 53 52,e 54 53,n 55 O],.block 8 (.loop (S [r 17 [o 56 .lss 55 54],.cond (.t 56) .skip (.exit 8),.block 9 (S [r 18 [i 57 2 53 55,L 58 2 57,w 14 (.alloc [O,O]),s 2 14 58],r 19 [l 59 11,m 60 59,g 60 true (l 61 5),g 60 true (f 62 0 14),g 60 true (l 63 62),g 60 true (w 64 (.look (.i .i64) (.bool false) false (.t 61) (.t 63))),g 60 true (t 65 64),v 66 60 65,s 1 11 66],r 20 [l 67 10,l 68 4,f 69 0 14,l 70 69,w 71 (.look (.i .i64) O false (.t 68) (.t 70)),w 72 (.mx true (.t 67) [.t 71]),s 1 10 72]]),r 21 [k 73 .add 55 I,m 55 73]]))])))],r 22 [l 74 11],.cond (.t 74) (S [r 23 [l 75 4,m 76 9,l 77 10,k 78 .add 77 I,z (.mupd (.i .i64) (.t 75) (.t 76) (.t 78))],r 24 [l 79 5,m 80 9,z (.mdel (.i .i64) (.t 79) (.t 80))]]) .skip]),r 25 [k 81 .add 41 I,m 41 81]]))]),r 26 [k 82 .add 34 I,m 34 82]]))],r 27 [l 83 4,l 84 5,w 85 (.mlen (.t 84)),k 86 .gtr 85 O,m 2 83,m 3 86],.ret]
def Z7Y:List RRes:=[.t 2,.t 3]
def Z7Z:PCt prog 59 f59 Z7X Z7Y:=pcT func59 rfl
def Z80:RCode :=
 S [r 0 [b 1 0,w 2 (.alloc [O,O,.int .u8 0,.nils,.nils])],R 1 [f 3 3 1,a [0] (l 4 3),a [1] (w 5 (.calln 67 [.t 4])),f 6 4 1,a [3] (l 7 6),a [4,2] (w 8 (.calln 68 [.t 7])),a [0,1,2,3,4] (f 9 3 1),a [6,2,5,0,1,2,3,4] (s 1 9 5),a [0,1,2,3,4,5,6,7] (f 10 4 1),a [8,5,7,0,1,2,3,4,5,6,7] (s 1 10 8)],r 2 [L 11 5 1,s 5 2 11],.ret]
def Z81:List RRes:=[.c 2 true 5]
def Z82:PCt prog 37 f37 Z80 Z81:=pcT func37 rfl
def Z83:RCode :=
 S [r 0 [n 2 .nils],S [r 1 [m 3 0,w 4 (.vop (.eqn false) [(.t 3),(.c .nils)])],K 4 2 [n 2 .nils]],r 3 [w 5 (.bsl true 2 0 [] []),m 6 0,w 7 (.app 2 16 (.t 5) (.t 6)),m 2 7],.ret]
def Z84:List RRes:=[.t 2]
def Z85:RCode :=
 S [r 0 [n 2 .nils],S [r 1 [m 3 0,w 4 (.vop (.eqn false) [(.t 3),(.c .nils)])],K 4 2 [n 2 .nils]],r 3 [w 5 (.bsl true 3 0 [] []),m 6 0,w 7 (.app 3 24 (.t 5) (.t 6)),m 2 7],.ret]
def Z86:List RRes:=[.t 2]
def Z87:RCode :=
 S [r 0 [b 1 0,n 2 O],r 1 [L 6 1 1,c 7 53 [6],m 5 7,x 8 0 5,x 9 1 5,m 3 8,m 4 9],r 2 [m 10 4,m 2 10],.ret]
def Z88:List RRes:=[.t 2]
def Z89:PCt prog 17 f17 Z87 Z88:=pcT func17 rfl
end
section
open Qq Tryd
def Z8a:RCode :=
 S [r 0 [n 6 (.bool false)],r 1 [m 7 0,m 8 1,o 9 .geq 7 8,m 10 9,g 10 true (m 11 0),g 10 true (m 12 2),g 10 true (o 13 .leq 11 12),v 14 10 13,m 6 14],.ret]
def Z8b:List RRes:=[.t 6]
def Z8c:PCt prog 104 f104 Z8a Z8b:=pcT func104 rfl
def Z8d:RCode :=
 S [r 0 [b 1 0,n 2 (.bool false)],r 1 [f 3 0 1,l 4 3,w 5 (.call 104 [.t 4,.c O,.c (.int .i64 1000000000)]),m 6 5,g 6 true (f 7 2 1),g 6 true (l 8 7),g 6 true (w 9 (.call 104 [.t 8,.c O,.c (.int .i64 1000000000)])),v 10 6 9,m 11 10,g 11 true (f 12 1 1),g 11 true (l 13 12),g 11 true (f 14 2 1),g 11 true (l 15 14),g 11 true (w 16 (.call 104 [.t 13,.c O,.t 15])),v 17 11 16,m 2 17],.ret]
def Z8e:List RRes:=[.t 2]
def Z8f:PCt prog 99 f99 Z8d Z8e:=pcT func99 rfl
def Z8g:RCode :=
 S [r 0 [n 6 (.bool false)],r 1 [m 7 0,m 8 1,o 9 .geq 7 8,m 10 9,g 10 true (m 11 0),g 10 true (m 12 2),g 10 true (o 13 .leq 11 12),v 14 10 13,m 6 14],.ret]
def Z8h:List RRes:=[.t 6]
def Z8i:PCt prog 85 f85 Z8g Z8h:=pcT func85 rfl
def Z8j:RCode :=
 S [r 0 [b 1 0,n 2 (.bool false)],S [r 1 [f 6 0 1,l 7 6,w 8 (.call 85 [.t 7,.c I,.c (.int .i64 9999)]),t 9 8,m 10 9,g 10 false (f 11 1 1),g 10 false (l 12 11),g 10 false (w 13 (.call 85 [.t 12,.c I,.c (.int .i64 8)])),g 10 false (t 14 13),u 15 10 14,m 16 15,g 16 false (f 17 2 1),g 16 false (l 18 17),g 16 false (w 19 (.conv .i64 (.t 18))),g 16 false (w 20 (.call 85 [.t 19,.c I,.c (.int .i64 3)])),g 16 false (t 21 20),u 22 16 21,m 23 22,g 23 false (f 24 2 1),g 23 false (l 25 24),g 23 false (k 26 .eql 25 (.int .u8 1)),g 23 false (m 27 26),g 27 true (f 28 3 1),g 27 true (l 29 28),g 27 true (e 30 29),g 27 true (w 31 (.call 85 [.t 30,.c I,.c (.int .i64 8)])),g 27 true (t 32 31),g 27 true (m 33 32),g 33 false (f 34 4 1),g 33 false (l 35 34),g 33 false (e 36 35),g 33 false (k 37 .gtr 36 O),g 27 true (u 38 33 37),g 23 false (v 39 27 38),u 40 23 39,m 41 40,g 41 false (f 42 2 1),g 41 false (l 43 42),g 41 false (k 44 .gtr 43 (.int .u8 1)),g 41 false (m 45 44),g 45 true (f 46 4 1),g 45 true (l 47 46),g 45 true (e 48 47),g 45 true (k 49 .gtr 48 (.int .i64 4)),g 45 true (m 50 49),g 50 false (f 51 3 1),g 50 false (l 52 51),g 50 false (e 53 52),g 50 false (k 54 .gtr 53 O),g 45 true (u 55 50 54),g 41 false (v 56 45 55),u 57 41 56],K 57 2 [n 2 (.bool false)]],S [r 3 [n 3 O],.block 0 (.loop (S [S [r 4 [m 58 3,f 59 3 1,l 60 59,e 61 60,o 62 .lss 58 61],.cond (.t 62) .skip (.exit 0)],.block 1 (S [r 6 [f 65 3 1,l 66 65,m 67 3,i 68 2 66 67,L 69 2 68,w 4 (.alloc [O,O]),s 2 4 69],R 7 [f 70 0 4,a [0] (l 71 70),a [1] (w 72 (.call 85 [.t 71,.c I,.c (.int .i64 9999)])),a [2] (t 73 72),a [3,2] (m 74 73),a [4] (g 74 false (f 75 1 4)),a [5,4] (g 74 false (l 76 75)),a [6,4,4] (g 74 false (w 77 (.call 85 [.t 76,.c I,.c (.int .i64 20)]))),a [7,4] (g 74 false (t 78 77)),a [4,8] (u 79 74 78),a [9,7] (m 80 79),a [10] (g 80 false (f 81 0 4)),a [11,10] (g 80 false (l 82 81)),a [10] (g 80 false (f 83 0 1)),a [13,10] (g 80 false (l 84 83)),a [12,14,10] (g 80 false (o 85 .eql 82 84)),a [10,15] (u 86 80 85),a [16,10] (m 87 86),a [17] (g 87 false (m 88 3)),a [18,17] (g 87 false (k 89 .gtr 88 O)),a [19,17,17] (g 87 false (m 90 89)),a [20] (g 90 true (f 91 3 1)),a [21,20] (g 90 true (l 92 91)),a [20] (g 90 true (m 93 3)),a [23,20] (g 90 true (k 94 .sub 93 I)),a [22,24,20] (g 90 true (i 95 2 92 94)),a [25,20] (g 90 true (f 96 0 95)),a [26,20] (g 90 true (l 97 96)),a [20] (g 90 true (f 98 0 4)),a [28,20] (g 90 true (l 99 98)),a [27,29,20] (g 90 true (o 100 .geq 97 99)),a [20,30,17] (g 87 false (v 101 90 100)),a [17,31] (u 102 87 101)],K 102 8 [n 2 (.bool false)]]),r 5 [m 63 3,k 64 .add 63 I,m 3 64]]))],S [r 9 [n 5 O],.block 2 (.loop (S [S [r 10 [m 103 5,f 104 4 1,l 105 104,e 106 105,o 107 .lss 103 106],.cond (.t 107) .skip (.exit 2)],.block 3 (S [r 12 [f 110 4 1,l 111 110,m 112 5,i 113 3 111 112,L 114 3 113,c 115 99 [114],t 116 115],K 116 13 [n 2 (.bool false)]]),r 11 [m 108 5,k 109 .add 108 I,m 5 109]]))],r 14 [n 2 (.bool true)],.ret]
def Z8k:List RRes:=[.t 2]
def Z8l:PCt prog 86 f86 Z8j Z8k:=pcT func86 rfl
def Z8m:RCode :=
 S [r 0 [b 1 0,n 2 .nils],r 1 [n 3 .nils],S [r 2 [n 4 O],.block 0 (.loop (S [S [r 3 [m 6 4,f 7 0 1,l 8 7,e 9 8,o 10 .lss 6 9],.cond (.t 10) .skip (.exit 0)],.block 1 (S [r 5 [f 13 0 1,l 14 13,m 15 4,i 16 5 14 15,f 17 0 16,l 18 17,m 5 18],r 6 [m 19 4,k 20 .eql 19 O,m 21 20,g 21 false (f 22 0 1),g 21 false (l 23 22),g 21 false (m 24 4),g 21 false (k 25 .sub 24 I),g 21 false (i 26 5 23 25),g 21 false (f 27 0 26),g 21 false (l 28 27),g 21 false (m 29 5),g 21 false (o 30 .neq 28 29),u 31 21 30],.cond (.t 31) (r 7 [m 32 3,m 33 5,w 34 (.bsl false 1 1 [O] [(0,.t 33)]),w 35 (.app 1 8 (.t 32) (.t 34)),m 3 35]) .skip]),r 4 [m 11 4,k 12 .add 11 I,m 4 12]]))],r 8 [m 36 3,m 2 36],.ret]
def Z8n:List RRes:=[.t 2]
def Z8o:PCt prog 87 f87 Z8m Z8n:=pcT func87 rfl
def Z8p:RCode :=
 S [r 0 [n 4 O],S [r 1 [n 5 O],.block 0 (.loop (S [S [r 2 [m 6 5,m 7 0,e 8 7,o 9 .lss 6 8],.cond (.t 9) .skip (.exit 0)],.block 1 (S [r 4 [m 12 0,m 13 5,i 14 1 12 13,l 15 14,m 16 1,o 17 .eql 15 16],K 17 5 [m 18 5,m 4 18]]),r 3 [m 10 5,k 11 .add 10 I,m 5 11]]))],r 6 [n 4 (.int .i64 (-1))],.ret]
def Z8q:List RRes:=[.t 4]
def Z8r:PCt prog 88 f88 Z8p Z8q:=pcT func88 rfl
def Z8s:RCode :=
 S [r 0 [b 1 0,n 2 (.bool false)],S [r 1 [f 9 0 1,l 10 9,e 11 10,w 12 (.call 85 [.t 11,.c I,.c (.int .i64 60)]),t 13 12],K 13 2 [n 2 (.bool false)]],S [r 3 [n 3 O],.block 0 (.loop (S [S [r 4 [m 14 3,f 15 0 1,l 16 15,e 17 16,o 18 .lss 14 17],.cond (.t 18) .skip (.exit 0)],.block 1 (S [r 6 [f 21 0 1,l 22 21,m 23 3,i 24 5 22 23,L 25 5 24,w 4 (.alloc [O,O,.int .u8 0,.nils,.nils]),s 5 4 25],S [r 7 [L 26 5 4,c 27 86 [26],t 28 27],K 28 8 [n 2 (.bool false)]],r 9 [w 29 (.build [O,O,.int .u8 0,.nils,.nils] []),w 5 (.alloc [O,O,.int .u8 0,.nils,.nils]),s 5 5 29],S [r 10 [m 30 3,k 31 .gtr 30 O],.cond (.t 31) (r 11 [f 32 0 1,l 33 32,m 34 3,k 35 .sub 34 I,i 36 5 33 35,L 37 5 36,s 5 5 37]) .skip],.block 2 (S [r 12 [f 39 0 4,l 40 39,f 41 0 5,l 42 41,o 43 .lss 40 42,m 38 43],.cond (.t 38) (S [r 13 [n 2 (.bool false)],.ret]) (S [r 14 [f 45 0 4,l 46 45,f 47 0 5,l 48 47,o 49 .gtr 46 48,m 44 49],.cond (.t 44) (S [r 15 [f 50 1 4,l 51 50,k 52 .neq 51 I],K 52 16 [n 2 (.bool false)]]) (S [r 17 [f 54 1 4,l 55 54,f 56 1 5,l 57 56,k 58 .add 57 I,o 59 .neq 55 58,m 60 59,g 60 false (f 61 2 4),g 60 false (l 62 61),g 60 false (f 63 2 5),g 60 false (l 64 63),g 60 false (o 65 .neq 62 64),u 66 60 65,m 53 66],K 53 18 [n 2 (.bool false)]])])])]),r 5 [m 19 3,k 20 .add 19 I,m 3 20]]))],r 19 [L 67 1 1,c 68 87 [67],m 6 68],S [r 20 [n 7 O],.block 3 (.loop (S [S [r 21 [m 69 7,f 70 0 1,l 71 70,e 72 71,o 73 .lss 69 72],.cond (.t 73) .skip (.exit 3)],.block 4 (S [r 23 [n 8 O],.block 5 (.loop (S [S [r 24 [m 76 8,f 77 0 1,l 78 77,m 79 7,i 80 5 78 79,f 81 3 80,l 82 81,e 83 82,o 84 .lss 76 83],.cond (.t 84) .skip (.exit 5)],.block 6 (S [r 26 [m 87 6,f 88 0 1,l 89 88,m 90 7,i 91 5 89 90,f 92 3 91,l 93 92,m 94 8,i 95 2 93 94,f 96 0 95,l 97 96,c 98 88 [87,97],k 99 .lss 98 O],K 99 27 [n 2 (.bool false)]]),r 25 [m 85 8,k 86 .add 85 I,m 8 86]]))]),r 22 [m 74 7,k 75 .add 74 I,m 7 75]]))],r 28 [m 100 6,e 101 100,k 102 .leq 101 (.int .i64 20),m 2 102],.ret]
def Z8t:List RRes:=[.t 2]
def Z8u:PCt prog 70 f70 Z8s Z8t:=pcT func70 rfl
def Z8v:RCode :=
 S [r 0 [b 1 0,n 2 .nils],r 1 [L 11 1 1,c 12 87 [11],m 3 12],r 2 [m 13 3,e 14 13,w 15 (.mksl 1 8 [O] (.t 14)),m 4 15],S [r 3 [n 5 O],.block 0 (.loop (S [S [r 4 [m 16 5,m 17 3,e 18 17,o 19 .leq 16 18],.cond (.t 19) .skip (.exit 0)],.block 1 (S [r 6 [m 22 3,e 23 22,w 24 (.mksl 1 8 [O] (.t 23)),m 6 24],S [r 7 [n 7 O],.block 2 (.loop (S [S [r 8 [m 25 7,f 26 0 1,l 27 26,e 28 27,o 29 .lss 25 28],.cond (.t 29) .skip (.exit 2)],.block 3 (S [r 10 [f 32 0 1,l 33 32,m 34 7,i 35 5 33 34,L 36 5 35,w 8 (.alloc [O,O,.int .u8 0,.nils,.nils]),s 5 8 36],r 11 [m 37 3,f 38 0 8,l 39 38,c 40 88 [37,39],m 9 40],r 12 [m 41 6,m 42 9,m 43 6,m 44 9,i 45 1 43 44,l 46 45,w 47 (.mx true (.t 46) [.c I]),i 48 1 41 42,s 1 48 47],r 13 [n 10 O],.block 4 (.loop (S [S [r 14 [m 49 10,f 50 3 8,l 51 50,e 52 51,o 53 .lss 49 52],.cond (.t 53) .skip (.exit 4)],.block 5 (R 16 [m 56 6,m 57 9,m 58 6,m 59 9,a [2,3] (i 60 1 58 59),a [4] (l 61 60),m 62 4,m 63 3,f 64 3 8,a [8] (l 65 64),m 66 10,a [9,10] (i 67 2 65 66),a [11] (f 68 0 67),a [12] (l 69 68),a [7,13] (c 70 88 [63,69]),a [6,14] (i 71 1 62 70),a [15] (l 72 71),a [16] (w 73 (.bin .add (.c I) (.t 72))),a [5,17] (w 74 (.mx true (.t 61) [.t 73])),a [0,1,0,1,2,3,4,5,6,7,8,9,10,11,12,13,14,15,16,17,18] (i 75 1 56 57),a [19,18,14,0,1,2,3,4,5,6,7,8,9,10,11,12,13,14,15,16,17,18] (s 1 75 74)]),r 15 [m 54 10,k 55 .add 54 I,m 10 55]]))]),r 9 [m 30 7,k 31 .add 30 I,m 7 31]]))],r 17 [m 76 6,m 4 76]]),r 5 [m 20 5,k 21 .add 20 I,m 5 21]]))],r 18 [m 77 4,m 2 77],.ret]
def Z8w:List RRes:=[.t 2]
def Z8x:PCt prog 71 f71 Z8v Z8w:=pcT func71 rfl
def Z8y:RCode :=
 S [r 0 [b 1 0,n 2 O],S [r 1 [L 6 1 1,c 7 70 [6],t 8 7],K 8 2 [n 2 (.int .i64 20)]],r 3 [L 9 1 1,c 10 71 [9],m 3 10],r 4 [n 4 O],S [r 5 [n 5 O],.block 0 (.loop (S [S [r 6 [m 11 5,m 12 3,e 13 12,o 14 .lss 11 13],.cond (.t 14) .skip (.exit 0)],.block 1 (r 8 [m 17 4,m 18 3,m 19 5,i 20 1 18 19,l 21 20,w 22 (.mx true (.t 17) [.t 21]),m 4 22]),r 7 [m 15 5,k 16 .add 15 I,m 5 16]]))],.block 2 (S [r 9 [m 24 4,m 25 3,e 26 25,o 27 .gtr 24 26,m 23 27],.cond (.t 23) (S [r 10 [n 2 (.int .i64 21)],.ret]) (S [r 11 [m 29 4,k 30 .gtr 29 (.int .i64 6),m 28 30],K 28 12 [n 2 (.int .i64 20)]])]),r 13 [n 2 O],.ret]
def Z8z:List RRes:=[.t 2]
def Z8A:PCt prog 47 f47 Z8y Z8z:=pcT func47 rfl
def Z8B:RCode :=
 S [r 0 [b 2 0,b 3 1,w 4 (.alloc [O,O,.int .u8 0,.nils,.nils]),n 5 (.bool false)],S [r 1 [n 6 O],.block 0 (.loop (S [S [r 2 [m 8 6,f 9 0 2,l 10 9,e 11 10,o 12 .lss 8 11],.cond (.t 12) .skip (.exit 0)],.block 1 (S [r 4 [f 15 0 2,l 16 15,m 17 6,i 18 5 16 17,L 19 5 18,w 7 (.alloc [O,O,.int .u8 0,.nils,.nils]),s 5 7 19],r 5 [f 20 0 7,l 21 20,f 22 0 3,l 23 22,o 24 .eql 21 23,m 25 24,g 25 true (f 26 1 7),g 25 true (l 27 26),g 25 true (f 28 1 3),g 25 true (l 29 28),g 25 true (o 30 .eql 27 29),v 31 25 30],K 31 6 [L 32 5 7,s 5 4 32,n 5 (.bool true)]]),r 3 [m 13 6,k 14 .add 13 I,m 6 14]]))],r 7 [w 33 (.build [O,O,.int .u8 0,.nils,.nils] []),s 5 4 33,n 5 (.bool false)],.ret]
def Z8C:List RRes:=[.c 4 true 5,.t 5]
def Z8D:PCt prog 44 f44 Z8B Z8C:=pcT func44 rfl
def Z8E:RCode :=
 S [r 0 [n 4 (.bool false)],S [r 1 [m 6 0,e 7 6,m 8 1,e 9 8,o 10 .neq 7 9],K 10 2 [n 4 (.bool false)]],S [r 3 [n 5 O],.block 0 (.loop (S [S [r 4 [m 11 5,m 12 0,e 13 12,o 14 .lss 11 13],.cond (.t 14) .skip (.exit 0)],.block 1 (S [R 6 [m 17 0,m 18 5,a [0,1] (i 19 2 17 18),a [2] (L 20 2 19),m 21 1,m 22 5,a [4,5] (i 23 2 21 22),a [6] (L 24 2 23),a [3,7] (w 25 (.eqs true [.i,.i] (.t 20) (.t 24)))],K 25 7 [n 4 (.bool false)]]),r 5 [m 15 5,k 16 .add 15 I,m 5 16]]))],r 8 [n 4 (.bool true)],.ret]
def Z8F:List RRes:=[.t 4]
def Z8G:PCt prog 25 f25 Z8E Z8F:=pcT func25 rfl
def Z8H:RCode :=
 S [r 0 [b 2 0,b 3 1,n 4 (.bool false)],S [r 1 [f 6 0 2,l 7 6,f 8 0 3,l 9 8,o 10 .neq 7 9,m 11 10,g 11 false (f 12 1 2),g 11 false (l 13 12),g 11 false (f 14 1 3),g 11 false (l 15 14),g 11 false (o 16 .neq 13 15),u 17 11 16,m 18 17,g 18 false (f 19 2 2),g 18 false (l 20 19),g 18 false (f 21 2 3),g 18 false (l 22 21),g 18 false (o 23 .neq 20 22),u 24 18 23,m 25 24,g 25 false (f 26 3 2),g 25 false (l 27 26),g 25 false (f 28 3 3),g 25 false (l 29 28),g 25 false (c 30 25 [27,29]),g 25 false (t 31 30),u 32 25 31,m 33 32,g 33 false (f 34 4 2),g 33 false (l 35 34),g 33 false (e 36 35),g 33 false (f 37 4 3),g 33 false (l 38 37),g 33 false (e 39 38),g 33 false (o 40 .neq 36 39),u 41 33 40],K 41 2 [n 4 (.bool false)]],S [r 3 [n 5 O],.block 0 (.loop (S [S [r 4 [m 42 5,f 43 4 2,l 44 43,e 45 44,o 46 .lss 42 45],.cond (.t 46) .skip (.exit 0)],.block 1 (S [R 6 [f 49 4 2,a [0] (l 50 49),m 51 5,a [1,2] (i 52 3 50 51),a [3] (L 53 3 52),f 54 4 3,a [5] (l 55 54),m 56 5,a [6,7] (i 57 3 55 56),a [8] (L 58 3 57),a [4,9] (w 59 (.eqs true [.i,.i,.i] (.t 53) (.t 58)))],K 59 7 [n 4 (.bool false)]]),r 5 [m 47 5,k 48 .add 47 I,m 5 48]]))],r 8 [n 4 (.bool true)],.ret]
def Z8I:List RRes:=[.t 4]
def Z8J:PCt prog 48 f48 Z8H Z8I:=pcT func48 rfl
def Z8K:RCode :=
 S [r 0 [b 2 0,b 3 1,n 4 (.bool false)],S [r 1 [f 6 0 2,l 7 6,e 8 7,f 9 0 3,l 10 9,e 11 10,o 12 .neq 8 11],K 12 2 [n 4 (.bool false)]],S [r 3 [n 5 O],.block 0 (.loop (S [S [r 4 [m 13 5,f 14 0 2,l 15 14,e 16 15,o 17 .lss 13 16],.cond (.t 17) .skip (.exit 0)],.block 1 (S [R 6 [f 20 0 2,a [0] (l 21 20),m 22 5,a [1,2] (i 23 5 21 22),a [3] (L 24 5 23),f 25 0 3,a [5] (l 26 25),m 27 5,a [6,7] (i 28 5 26 27),a [8] (L 29 5 28),a [4,9] (c 30 48 [24,29]),a [10] (t 31 30)],K 31 7 [n 4 (.bool false)]]),r 5 [m 18 5,k 19 .add 18 I,m 5 19]]))],r 8 [n 4 (.bool true)],.ret]
def Z8L:List RRes:=[.t 4]
def Z8M:PCt prog 13 f13 Z8K Z8L:=pcT func13 rfl
def Z8N:RCode :=
 S [r 0 [b 1 0,w 2 (.alloc [O,O,.int .u8 0,.nils,.nils])],R 1 [w 3 (.bsl true 2 0 [] []),f 4 3 1,a [1] (l 5 4),a [0,2] (w 6 (.app 2 16 (.t 3) (.t 5))),w 7 (.bsl true 3 0 [] []),f 8 4 1,a [5] (l 9 8),a [4,6,3] (w 10 (.app 3 24 (.t 7) (.t 9))),a [0,1,2,3,5,6] (f 11 3 1),a [8,3,7,0,1,2,3,5,6] (s 1 11 6),a [0,1,2,3,4,5,6,7,8,9] (f 12 4 1),a [10,7,9,0,1,2,3,4,5,6,7,8,9] (s 1 12 10)],r 2 [L 13 5 1,s 5 2 13],.ret]
def Z8O:List RRes:=[.c 2 true 5]
def Z8P:PCt prog 32 f32 Z8N Z8O:=pcT func32 rfl
def Z8Q:RCode :=
 S [r 0 [b 1 0,w 2 (.alloc [.nils])],r 1 [w 3 (.alloc [.nils])],S [r 2 [n 4 O],.block 0 (.loop (S [S [r 3 [m 5 4,f 6 0 1,l 7 6,e 8 7,o 9 .lss 5 8],.cond (.t 9) .skip (.exit 0)],.block 1 (R 5 [f 12 0 3,a [0] (l 13 12),f 14 0 1,a [2] (l 15 14),m 16 4,a [3,4] (i 17 5 15 16),a [5] (L 18 5 17),a [6] (c 19 32 [18]),a [7] (w 20 (.bsl false 5 1 [O,O,.int .u8 0,.nils,.nils] [(0,.t 19)])),a [1,8,7] (w 21 (.app 5 72 (.t 13) (.t 20))),a [0,1,2,3,4,5,6,7,8,9] (f 22 0 3),a [10,9,9,0,1,2,3,4,5,6,7,8,9] (s 1 22 21)]),r 4 [m 10 4,k 11 .add 10 I,m 4 11]]))],r 6 [L 23 1 3,s 1 2 23],.ret]
def Z8R:List RRes:=[.c 2 true 1]
def Z8S:PCt prog 7 f7 Z8Q Z8R:=pcT func7 rfl
def Z8T:RCode :=
 S [r 0 [b 1 0,n 2 (.bool false)],S [r 1 [f 4 0 1,l 5 4,e 6 5,k 7 .gtr 6 (.int .i64 80)],K 7 2 [n 2 (.bool true)]],S [r 3 [n 3 O],.block 0 (.loop (S [S [r 4 [m 8 3,f 9 0 1,l 10 9,e 11 10,o 12 .lss 8 11],.cond (.t 12) .skip (.exit 0)],.block 1 (S [r 6 [f 15 0 1,l 16 15,m 17 3,i 18 5 16 17,f 19 3 18,l 20 19,e 21 20,k 22 .gtr 21 (.int .i64 16),m 23 22,g 23 false (f 24 0 1),g 23 false (l 25 24),g 23 false (m 26 3),g 23 false (i 27 5 25 26),g 23 false (f 28 4 27),g 23 false (l 29 28),g 23 false (e 30 29),g 23 false (k 31 .gtr 30 (.int .i64 8)),u 32 23 31],K 32 7 [n 2 (.bool true)]]),r 5 [m 13 3,k 14 .add 13 I,m 3 14]]))],r 8 [n 2 (.bool false)],.ret]
def Z8U:List RRes:=[.t 2]
def Z8V:PCt prog 6 f6 Z8T Z8U:=pcT func6 rfl
end
def mixed:prog.follows .mixedOrders=true:=by kernel_rfl
def Qga {R:Run} {c:RCode} {F:Exit->St->Prop} {st:St} (h:GO prog R 1000 (.run c) [] F st):AR prog R c st F:=Yb mixed 1000 h
def Qgr {R:Run} {e:Exit} {ks:List KF} {F:Exit->St->Prop} {st:St} (h:GO prog R 1000 (.out e) ks F st):RetP prog R ks F e st:=Z2R mixed 1000 h
def inR (n lo hi:Int):Bool:=decide (lo<=n/\n<=hi)
def Yf {n:Int} (h0:-9223372036854775808<=n:=by omega) (h1:n<=9223372036854775807:=by omega):i64.wrap n=n:=IntWalk.i64_in _ ⟨h0,h1⟩
def RndF (S:Nat->St) (I:Nat->Prop) (i:Nat) (Φ:Exit->St->Prop):Exit->St->Prop
 |.normal,st=>Ym st (S (i+1))/\I (i+1)
 |e,st=>Φ e st
def RndE (Φ:Exit->St->Prop):Exit->St->Prop
 |.normal,_=>False
 |e,st=>Φ e st
section
variable {P:Program} {R:Run} {st:St} {Φ:Exit->St->Prop} {S:Nat->St} {I:Nat->Prop} {i:Nat}
def Z8W:RndF S I i Φ .normal st=(Ym st (S (i+1))/\I (i+1)):=rfl
def Z8X:RndF S I i Φ .ret st=Φ .ret st:=rfl
def Z8Y {j:Nat}:RndF S I i Φ (.exit j) st=Φ (.exit j) st:=rfl
def Z8Z:RndE Φ .ret st=Φ .ret st:=rfl
def Z90 {j:Nat}:RndE Φ (.exit j) st=Φ (.exit j) st:=rfl
attribute [simp] Z8W Z8X Z8Y Z8Z Z90
def Z91 {c:RCode} (S:Nat->St) (I:Nat->Prop) (N:Nat) (h0:Ym st (S 0)) (hi:I 0) (hr:∀ i,i<N->I i->AR P R c (S i) (RndF S I i Φ)) (he:I N->AR P R c (S N) (RndE Φ)):AR P R (.loop c) st Φ:=by
 refine Z1Q S (λi=>i<=N/\I i) (λi=>N-i) 0 h0 ⟨W1e _,hi⟩ ?_;rintro i ⟨h1,h2⟩;by_cases h3:i<N
 . refine Z2I (hr i h3 h2) λe s hs=>?_
   cases e with
   |normal=>exact ⟨i+1,hs.1,⟨by omega,hs.2⟩,by show N-(i+1)<N-i;omega⟩
   |_=>exact hs
 . obtain rfl:i=N:=(by omega);refine Z2I (he h2) λe s hs=>?_
   cases e with
   |normal=>exact hs.elim
   |_=>exact hs
end
structure Iss where
 d:Int
 l:Int
 k:Int
 its:List (Int×Int)
 dms:List Dm
 deriving DecidableEq,Inhabited
def ia (n:Int):List AV:=[.int .i64 n]
def ita (p:Int×Int):List AV:=[.int .i64 p.1,.int .i64 p.2]
def dma (d:Dm):List AV:=[.int .i64 d.n,.int .i64 d.l,.int .i64 d.u]
def isa (x:Iss):List AV:=[.int .i64 x.d,.int .i64 x.l,.int .u8 x.k,.vsl (x.its.map ita),.vsl (x.dms.map dma)]
def rega (r:List Iss):AV:=.agg [.vsl (r.map isa)]
def Sml {α:Type} (l:List α):Prop:=l.length<=16777216
def Z92 (n lo hi:Int):PC prog G 104 [.int .i64 n,.int .i64 lo,.int .i64 hi] (.bool (inR n lo hi)):=by
 (refine Z8c rfl λR hG hrd=>Yb mixed 1000 ?_;subst hG)
 by_cases h1:lo<=n <;> simp -implicitDefEqProofs[Z8a,Z8b,h1,inR]
def Z93 (n l u:Int):PC prog G 99 [.agg [.int .i64 n,.int .i64 l,.int .i64 u]] (.bool (vd ⟨n,l,u⟩)):=by
 (refine Z8f rfl λR hG hrd=>Yb mixed 1000 ?_;subst hG)
 have e:vd ⟨n,l,u⟩=(inR n 0 1000000000&&(inR u 0 1000000000&&inR l 0 u)):=by
  unfold vd inR;rw[<- Bool.decide_and,<- Bool.decide_and];exact decide_eq_decide.2 (by simp only;omega)
 simp -implicitDefEqProofs[Z8d,Z8e,e];refine Qco (Z92 _ _ _) ?_
 cases h1:inR n 0 1000000000
 . simp -implicitDefEqProofs
 . simp -implicitDefEqProofs;refine Qco (Z92 _ _ _) ?_
   cases h2:inR u 0 1000000000
   . simp -implicitDefEqProofs
   . simp -implicitDefEqProofs;refine Qco (Z92 _ _ _) ?_;simp -implicitDefEqProofs
def Z94 (n lo hi:Int):PC prog G 85 [.int .i64 n,.int .i64 lo,.int .i64 hi] (.bool (inR n lo hi)):=by
 (refine Z8i rfl λR hG hrd=>Yb mixed 1000 ?_;subst hG)
 by_cases h1:lo<=n <;> simp -implicitDefEqProofs[Z8g,Z8h,h1,inR]
def idx (l:List Int) (n:Int):Int:=if n∈l then (l.idxOf n:Int) else -1
def Z95 {l:List Int} {n:Int} {i:Nat} (hi:i<l.length) (he:l[i]=n) (hb:∀ j (h:j<i),l[j]≠n):idx l n=i:=by
 have hm:n∈l:=(by rw[<- he];exact W0e hi);rw[idx,if_pos hm];have h1:l.idxOf n<l.length:=List.idxOf_lt_length_iff.2 hm;have h2:l[l.idxOf n]=n:=List.getElem_idxOf h1;have h3:¬l.idxOf n<i:=λh=>hb _ h h2
 have h4:¬i<l.idxOf n:=λh=>by
  have:=List.not_of_lt_findIdx (p:=(· == n)) h;simp[he]at this
 congr 1;omega
def Z96 {l:List Int} {n:Int} (hb:∀ j (h:j<l.length),l[j]≠n):idx l n = -1:=by
 rw[idx,if_neg];intro hm;obtain ⟨j,h1,h2⟩:=W0k hm;exact hb j h1 h2
def Z97 (l:List Int) (n:Int) (hl:Sml l):PC prog G 88 [.vsl (l.map ia),.int .i64 n] (.int .i64 (idx l n)):=by
 (refine Z8r rfl λR hG hrd=>Yb mixed 1000 ?_;subst hG)
 simp -implicitDefEqProofs[Z8p,Z8q];refine Z91 (λi=>⟨[(5,.int .i64 i),(0,.vsl (l.map ia)),(1,.int .i64 n)],[]⟩) (λi=>∀ j (h:j<l.length),j<i->l[j]≠n) l.length (by (first|exact Wka|exact Wkb)) (by simp) ?_ ?_
 . intro i hi he;refine Yb mixed 1000 ?_;unfold Sml at hl;have w1:i64.wrap ((i:Int)+1)=((i+1:Nat):Int):=Yf;by_cases h2:l[i]=n
   . simp -implicitDefEqProofs[hi,ia,h2];refine Z2R mixed 1000 ?_;simp -implicitDefEqProofs[Z95 hi h2 (λj h=>he j (by omega) h)]
   . simp -implicitDefEqProofs[hi,ia,h2,w1];refine ⟨(by (first|exact Wka|exact Wkb)),λj h1 h3=>?_⟩;by_cases e:j=i
     . subst e;exact h2
     . exact he j h1 (by omega)
 . intro he;refine Yb mixed 1000 ?_;simp -implicitDefEqProofs;refine Z2R mixed 1000 ?_;simp -implicitDefEqProofs[Z96 (λj h=>he j h h)]
abbrev Jr:=List Iss
def nz:AV->AV
 |.nils=>.vsl []
 |.agg xs=>.agg (xs.attach.map λ⟨x,_⟩=>nz x)
 |.tup xs=>.tup (xs.attach.map λ⟨x,_⟩=>nz x)
 |x=>x
def nz_at (xs:List AV):(xs.attach.map λ⟨x,_⟩=>nz x)=xs.map nz:=by
 have h:(xs.attach.map λ⟨x,_⟩=>nz x)=(xs.attach.map Subtype.val).map nz:=(by rw[W10];rfl);rw[h,List.attach_map_subtype_val]
def Z98 (xs:List AV):nz (.agg xs) = .agg (xs.map nz):=by rw[nz,nz_at]
def Z99 (xs:List AV):nz (.tup xs) = .tup (xs.map nz):=by rw[nz,nz_at]
def PV.nz {M:Nat->Prop} {W:World} {x:AV} {v:Value} (h:PV M W x v):PV M W (nz x) v:=by
 induction h with
 |nils=>simp only[Go.Proofs.YthlcppdbldkldaaDoor.nz];exact .vsl [] none 0 1 0 0 (λ_ _=>undef) (W0f _) (W1e _) (λh=>absurd rfl h) (λ_=>⟨rfl,rfl⟩) (by simp) (by simp) (by simp)
 | agg xs us h1 hx ih =>
   rw[Z98];refine .agg _ us (by simpa using h1) λi x u hi hu=>?_
   rw[W09,W04]at hi;obtain ⟨y,hy,rfl⟩:=hi;exact ih i y u hy hu
 | tup xs us h1 hx ih =>
   rw[Z99];refine .tup _ us (by simpa using h1) λi x u hi hu=>?_
   rw[W09,W04]at hi;obtain ⟨y,hy,rfl⟩:=hi;exact ih i y u hy hu
 |hole=>simp only[Go.Proofs.YthlcppdbldkldaaDoor.nz];exact .hole
 |int k n=>simp only[Go.Proofs.YthlcppdbldkldaaDoor.nz];exact .int k n
 |bool b=>simp only[Go.Proofs.YthlcppdbldkldaaDoor.nz];exact .bool b
 |abool b=>simp only[Go.Proofs.YthlcppdbldkldaaDoor.nz];exact .abool b
 |str s=>simp only[Go.Proofs.YthlcppdbldkldaaDoor.nz];exact .str s
 |nilp=>simp only[Go.Proofs.YthlcppdbldkldaaDoor.nz];exact .nilp
 |nilm=>simp only[Go.Proofs.YthlcppdbldkldaaDoor.nz];exact .nilm
 |nilf=>simp only[Go.Proofs.YthlcppdbldkldaaDoor.nz];exact .nilf
 |nes a c h=>simp only[Go.Proofs.YthlcppdbldkldaaDoor.nz];exact .nes a c h
 |tok S a l c h=>simp only[Go.Proofs.YthlcppdbldkldaaDoor.nz];exact .tok S a l c h
 |vptr cells off b o f hb hM hc hr ih=>simp only[Go.Proofs.YthlcppdbldkldaaDoor.nz];exact .vptr cells off b o f hb hM hc hr
 |vsl rows a cap sz b o f hcap hmax ha hn hs hc hr ih=>simp only[Go.Proofs.YthlcppdbldkldaaDoor.nz];exact .vsl rows a cap sz b o f hcap hmax ha hn hs hc hr
 |func fn xs ys us vs h1 h2 hx hy ihx ihy=>simp only[Go.Proofs.YthlcppdbldkldaaDoor.nz];exact .func fn xs ys us vs h1 h2 hx hy
 |vmap kvs b es clock hb hM ho hs hn hk' hv ihk ihv=>simp only[Go.Proofs.YthlcppdbldkldaaDoor.nz];exact .vmap kvs b es clock hb hM ho hs hn hk' hv
def PC.nzR {P:Program} {G:Jg} {f:FuncId} {args:List AV} {v v':AV} (h:PC P G f args v) (e:nz v=v'):PC P G f args v':=by
 subst e;refine ⟨h.1,λM W vs hM hG hs hv=>(h.2 M W vs hM hG hs hv).mono ?_⟩;rintro e W' ⟨u,h1,h2,h3⟩;exact ⟨u,h1,h2.nz,h3⟩
def Z9a {a b:Int×Int} (h:¬a=b):(!decide (a.1=b.1) || !decide (a.2=b.2))=true:=by
 cases h5:(!decide (a.1=b.1) || !decide (a.2=b.2))
 . simp only[W1M,Bool.not_eq_false',W0b]at h5;exact absurd (Prod.ext h5.1 h5.2) h
 . rfl
def dm_ne {a b:Dm} (h:¬a=b):(!decide (a.n=b.n)||(!decide (a.l=b.l) || !decide (a.u=b.u)))=true:=by
 cases h5:(!decide (a.n=b.n)||(!decide (a.l=b.l) || !decide (a.u=b.u)))
 . simp only[W1M,Bool.not_eq_false',W0b]at h5
   cases a;cases b;simp_all
 . rfl
def Z9b (a b:List (Int×Int)) (ha:Sml a):PC prog G 25 [.vsl (a.map ita),.vsl (b.map ita)] (.bool (decide (a=b))):=by
 (refine Z8G rfl λR hG hrd=>Qga ?_;subst hG)
 by_cases hl:a.length=b.length
 . have hl':(a.length:Int)=b.length:=(by omega);simp -implicitDefEqProofs[Z8E,Z8F,hl'];refine Z91 (λi=>⟨[(5,.int .i64 i),(0,.vsl (a.map ita)),(1,.vsl (b.map ita))],[]⟩) (λi=>∀ j (h:j<a.length),j<i->a[j]=b[j]) a.length (by (first|exact Wka|exact Wkb)) (by simp) ?_ ?_
   . intro i hi he;refine Qga ?_;unfold Sml at ha;have hi2:i<b.length:=(by omega);have w1:i64.wrap ((i:Int)+1)=((i+1:Nat):Int):=Yf;simp -implicitDefEqProofs[hi,hi2,ita];refine ⟨rfl,?_⟩;by_cases h2:a[i]=b[i]
     . simp -implicitDefEqProofs[h2,w1];refine ⟨(by (first|exact Wka|exact Wkb)),λj h1 h3=>?_⟩;by_cases e:j=i
       . subst e;exact h2
       . exact he j h1 (by omega)
     . have h3:¬a=b:=λe=>h2 (by subst e;rfl)
       rw[Z9a h2];simp -implicitDefEqProofs;refine Qgr ?_;simp -implicitDefEqProofs[h3]
   . intro he;refine Qga ?_;have h3:a=b:=W1D hl λj h1 h2=>he j h1 h1
     simp -implicitDefEqProofs;refine Qgr ?_;simp -implicitDefEqProofs[h3]
 . have hl':¬(a.length:Int)=b.length:=(by omega);have h3:¬a=b:=λe=>hl (by rw[e])
   simp -implicitDefEqProofs[Z8E,Z8F,hl',h3]
def Z9c (a b:Iss) (h1:Sml a.its) (h2:Sml a.dms):PC prog G 48 [.agg (isa a),.agg (isa b)] (.bool (decide (a=b))):=by
 (refine Z8J rfl λR hG hrd=>Qga ?_;subst hG)
 by_cases e1:a.d=b.d
 case neg =>
  have e:¬a=b:=λe=>e1 (by rw[e])
  simp -implicitDefEqProofs[Z8H,Z8I,isa,e1,e]
 by_cases e2:a.l=b.l
 case neg =>
  have e:¬a=b:=λe=>e2 (by rw[e])
  simp -implicitDefEqProofs[Z8H,Z8I,isa,e1,e2,e]
 by_cases e3:a.k=b.k
 case neg =>
  have e:¬a=b:=λe=>e3 (by rw[e])
  simp -implicitDefEqProofs[Z8H,Z8I,isa,e1,e2,e3,e]
 simp -implicitDefEqProofs[Z8H,Z8I,isa,e1,e2,e3];refine Qco (Z9b a.its b.its h1) ?_;by_cases e4:a.its=b.its
 case neg =>
  have e:¬a=b:=λe=>e4 (by rw[e])
  simp -implicitDefEqProofs[e4,e]
 by_cases e5:a.dms.length=b.dms.length
 case neg =>
  have e5':¬(a.dms.length:Int)=b.dms.length:=(by omega);have e:¬a=b:=λe=>e5 (by rw[e])
  simp -implicitDefEqProofs[e4,e5',e]
 have e5':(a.dms.length:Int)=b.dms.length:=(by omega);simp -implicitDefEqProofs[e4,e5'];refine Z91 (λi=>⟨[(5,.int .i64 i),(2,.ptr 2 0),(3,.ptr 3 0)],[(2,.box (isa a)),(3,.box (isa b))]⟩) (λi=>∀ j (h:j<a.dms.length),j<i->a.dms[j]=b.dms[j]) a.dms.length (by (first|exact Ym.tm (by simp[lk,isa,e1,e2,e3,e4])|exact Ym.sub (by simp[lk,Ya,AV.keys,isa,e1,e2,e3,e4]) (by simp[lk,Yc,Ya,AV.keys,isa,e1,e2,e3,e4]))) (by simp) ?_ ?_
 . intro i hi he;refine Qga ?_;unfold Sml at h2;have hi2:i<b.dms.length:=(by omega);have w1:i64.wrap ((i:Int)+1)=((i+1:Nat):Int):=Yf;simp -implicitDefEqProofs[hi,hi2,isa,dma];refine ⟨rfl,?_⟩;by_cases h2:a.dms[i]=b.dms[i]
   . simp -implicitDefEqProofs[h2,w1];refine ⟨(by (first|exact Ym.tm (by simp[lk,isa,dma])|exact Ym.sub (by simp[lk,Ya,AV.keys,isa,dma]) (by simp[lk,Yc,Ya,AV.keys,isa,dma]))),λj h1 h3=>?_⟩;by_cases e:j=i
     . subst e;exact h2
     . exact he j h1 (by omega)
   . have h3:¬a=b:=λe=>h2 (by subst e;rfl)
     rw[dm_ne h2];simp -implicitDefEqProofs;refine Qgr ?_;simp -implicitDefEqProofs[h3]
 . intro he;refine Qga ?_;have h3:a.dms=b.dms:=W1D e5 λj h1 h2=>he j h1 h1
   have h4:a=b:=(by cases a;cases b;simp_all);simp -implicitDefEqProofs[isa];refine Qgr ?_;simp -implicitDefEqProofs[h4]
def SmlR (r:Jr):Prop:=Sml r/\∀ x∈r,Sml x.its/\Sml x.dms
def Z9d (a b:Jr) (ha:SmlR a):PC prog G 13 [rega a,rega b] (.bool (decide (a=b))):=by
 (refine Z8M rfl λR hG hrd=>Qga ?_;subst hG)
 by_cases hl:a.length=b.length
 . have hl':(a.length:Int)=b.length:=(by omega);simp -implicitDefEqProofs[Z8K,Z8L,hl',rega];refine Z91 (λi=>⟨[(5,.int .i64 i),(2,.ptr 2 0),(3,.ptr 3 0)],[(2,.box [.vsl (a.map isa)]),(3,.box [.vsl (b.map isa)])]⟩) (λi=>∀ j (h:j<a.length),j<i->a[j]=b[j]) a.length (by (first|exact Wka|exact Wkb)) (by simp) ?_ ?_
   . intro i hi he;refine Qga ?_;have hs:=ha.1;unfold Sml at hs;have hi2:i<b.length:=(by omega);have w1:i64.wrap ((i:Int)+1)=((i+1:Nat):Int):=Yf;have hx:=ha.2 a[i] (W0e hi);simp -implicitDefEqProofs[hi,hi2,isa];refine Qco (Z9c a[i] b[i] hx.1 hx.2) ?_;simp -implicitDefEqProofs;refine ⟨rfl,?_⟩;by_cases h2:a[i]=b[i]
     . simp -implicitDefEqProofs[h2,w1];refine ⟨(by (first|exact Wka|exact Wkb)),λj h1 h3=>?_⟩;by_cases e:j=i
       . subst e;exact h2
       . exact he j h1 (by omega)
     . have h3:¬a=b:=λe=>h2 (by subst e;rfl)
       simp -implicitDefEqProofs[h2];refine Qgr ?_;simp -implicitDefEqProofs[h3]
   . intro he;refine Qga ?_;have h3:a=b:=W1D hl λj h1 h2=>he j h1 h1
     simp -implicitDefEqProofs;refine Qgr ?_;simp -implicitDefEqProofs[h3]
 . have hl':¬(a.length:Int)=b.length:=(by omega);have h3:¬a=b:=λe=>hl (by rw[e])
   simp -implicitDefEqProofs[Z8K,Z8L,hl',h3,rega]
def at' (r:Jr) (i:Nat):Iss:=r.getD i default
def at_eq {r:Jr} {i:Nat} (h:i<r.length):at' r i=r[i]:=by simp[at',List.getD,h]
def newB (r:Jr) (i:Nat):Bool:=i == 0 || !decide ((at' r (i-1)).d=(at' r i).d)
def numsN (r:Jr):Nat->List Int
 |0=>[]
 |i+1=>if newB r i=true then numsN r i++[(at' r i).d] else numsN r i
def nums (r:Jr):List Int:=numsN r r.length
def Z9e (r:Jr):∀ i,(numsN r i).length<=i
 |0=>by simp[numsN]
 | i+1=>by
   have:=Z9e r i;simp only[numsN]
   split
   . simp;omega
   . omega
def findN (d l:Int):List Iss->Option Iss
 |[]=>none
 |x::r=>if x.d=d/\x.l=l then some x else findN d l r
def noIs:AV:=.agg [.int .i64 0,.int .i64 0,.int .u8 0,.nils,.nils]
def fndA:Option Iss->AV
 |some x=>.tup [.agg (isa x),.bool true]
 |none=>.tup [noIs,.bool false]
def Z9f (r:Jr):Bool:=decide (80<r.length)||r.any λx=>decide (16<x.its.length)||decide (8<x.dms.length)
def Z9g {d l:Int}:∀ {r:Jr} {i:Nat} (h:i<r.length),r[i].d=d->r[i].l=l->(∀ j (h:j<r.length),j<i->¬(r[j].d=d/\r[j].l=l))->findN d l r=some r[i]
 |x::r,0,h,h1,h2,_=>by simp only[findN];rw[if_pos ⟨h1,h2⟩];rfl
 | x::r,i+1,h,h1,h2,hb=>by
   simp only[findN];rw[if_neg (show ¬(x.d=d/\x.l=l) from hb 0 (by simp) (by omega))];exact Z9g (by simpa using h) h1 h2 λj hj hi=>hb (j+1) (by simpa using hj) (by omega)
def Z9h {d l:Int}:∀ {r:Jr},(∀ j (h:j<r.length),¬(r[j].d=d/\r[j].l=l))->findN d l r=none
 |[],_=>rfl
 | x::r,hb=>by
   simp only[findN];rw[if_neg (show ¬(x.d=d/\x.l=l) from hb 0 (by simp))];exact Z9h λj hj=>hb (j+1) (by simpa using hj)
def Z9i (x:Iss) (h1:Sml x.its) (h2:Sml x.dms):PC prog G 32 [.agg (isa x)] (.agg (isa x)):=by
 (refine Z8P rfl λR hG hrd=>Qga ?_;subst hG)
 unfold Sml at h1 h2;have b1:x.its.length*16<=70368744177664:=(by omega);have b2:x.dms.length*24<=70368744177664:=(by omega);have k1:(x.its.map ita).all (λr=>r.length == 2)=true:=(by simp[ita]);have k2:(x.its.map ita).all (λr=>r.all AV.one)=true:=(by simp[ita,AV.one]);have k3:(x.dms.map dma).all (λr=>r.length == 3)=true:=(by simp[dma]);have k4:(x.dms.map dma).all (λr=>r.all AV.one)=true:=(by simp[dma,AV.one]);have k5:(x.its.map ita).all (λr=>r.all AV.pure)=true:=(by simp[ita,AV.pure]);have k6:(x.dms.map dma).all (λr=>r.all AV.pure)=true:=(by simp[dma,AV.pure]);by_cases e1:x.its=[] <;> by_cases e2:x.dms=[]
 . simp -implicitDefEqProofs[Z8N,Z8O,isa,e1,e2]
   try rfl
 . simp -implicitDefEqProofs[Z8N,Z8O,isa,e1,e2,b2,k3,k4,k6]
   try rfl
 . simp -implicitDefEqProofs[Z8N,Z8O,isa,e1,e2,b1,k1,k2,k5]
   try rfl
 . simp -implicitDefEqProofs[Z8N,Z8O,isa,e1,e2,b1,b2,k1,k2,k3,k4,k5,k6]
   try rfl
def Z9j (r:Jr) (h:Sml r):PC prog G 6 [rega r] (.bool (Z9f r)):=by
 (refine Z8V rfl λR hG hrd=>Qga ?_;subst hG)
 unfold Sml at h;by_cases h1:80<r.length
 . have h1':(80:Int)<r.length:=(by omega);simp -implicitDefEqProofs[Z8T,Z8U,rega,h1',Z9f,h1]
 have h1':¬(80:Int)<r.length:=(by omega);simp -implicitDefEqProofs[Z8T,Z8U,rega,h1'];refine Z91 (λi=>⟨[(3,.int .i64 i),(1,.ptr 1 0)],[(1,.box [.vsl (r.map isa)])]⟩) (λi=>∀ j (h:j<r.length),j<i->r[j].its.length<=16/\r[j].dms.length<=8) r.length (by (first|exact Wka|exact Wkb)) (by simp) ?_ ?_
 . intro i hi he;refine Qga ?_;have w1:i64.wrap ((i:Int)+1)=((i+1:Nat):Int):=Yf
   have bad:(16<r[i].its.length∨8<r[i].dms.length)->Z9f r=true:=λhb=>by
    simp only[Z9f,W0T,W14,W0b];exact .inr ⟨r[i],W0e hi,hb⟩
   by_cases h2:16<r[i].its.length
   . have h2':(16:Int)<r[i].its.length:=(by omega);simp -implicitDefEqProofs[hi,isa,h2'];refine Qgr ?_;simp -implicitDefEqProofs[bad (.inl h2)]
   have h2':¬(16:Int)<r[i].its.length:=(by omega);by_cases h3:8<r[i].dms.length
   . have h3':(8:Int)<r[i].dms.length:=(by omega);simp -implicitDefEqProofs[hi,isa,h2',h3'];refine Qgr ?_;simp -implicitDefEqProofs[bad (.inr h3)]
   have h3':¬(8:Int)<r[i].dms.length:=(by omega);simp -implicitDefEqProofs[hi,isa,h2',h3',w1];refine ⟨(by (first|exact Wka|exact Wkb)),λj q1 q3=>?_⟩;by_cases e:j=i
   . subst e;exact ⟨by omega,by omega⟩
   . exact he j q1 (by omega)
 . intro he;refine Qga ?_
   have hg:Z9f r=false:=by
    simp only[Z9f,W1M,W1a,h1,not_false_eq_true,true_and,W1X,Bool.not_eq_true,W0T,W0b];intro x hx;obtain ⟨j,hj,rfl⟩:=W0k hx;have:=he j hj hj;omega
   simp -implicitDefEqProofs;refine Qgr ?_;simp -implicitDefEqProofs[hg]
def Z9k (r:Jr) (d l:Int) (h:Sml r):PC prog G 44 [rega r,.agg [.int .i64 d,.int .i64 l]] (fndA (findN d l r)):=by
 (refine Z8D rfl λR hG hrd=>Qga ?_;subst hG)
 unfold Sml at h;simp -implicitDefEqProofs[Z8B,Z8C,rega];refine Z91 (λi=>⟨[(6,.int .i64 i),(2,.ptr 2 0),(3,.ptr 3 0),(4,.ptr 4 0)],[(2,.box [.vsl (r.map isa)]),(3,.box [.int .i64 d,.int .i64 l]),(4,.box [.int .i64 0,.int .i64 0,.int .u8 0,.nils,.nils])]⟩) (λi=>∀ j (h:j<r.length),j<i->¬(r[j].d=d/\r[j].l=l)) r.length (by (first|exact Wka|exact Wkb)) (by simp) ?_ ?_
 . intro i hi he;refine Qga ?_;have w1:i64.wrap ((i:Int)+1)=((i+1:Nat):Int):=Yf
   have go:¬(r[i].d=d/\r[i].l=l)->∀ j (h:j<r.length),j<i+1->¬(r[j].d=d/\r[j].l=l):=λhb j q1 q2=>by
    by_cases e:j=i
    . subst e;exact hb
    . exact he j q1 (by omega)
   by_cases h2:r[i].d=d
   . by_cases h3:r[i].l=l
     . simp -implicitDefEqProofs[hi,isa,h2,h3];refine Qgr ?_;simp -implicitDefEqProofs[Z9g hi h2 h3 he,fndA,isa,h2,h3]
     . simp -implicitDefEqProofs[hi,isa,h2,h3,w1];exact ⟨(by (first|exact Wka|exact Wkb)),λj q1 q2 q3 q4=>go (λe=>h3 e.2) j q1 q2 ⟨q3,q4⟩⟩
   . simp -implicitDefEqProofs[hi,isa,h2,w1];exact ⟨(by (first|exact Wka|exact Wkb)),λj q1 q2 q3 q4=>go (λe=>h2 e.1) j q1 q2 ⟨q3,q4⟩⟩
 . intro he;refine Qga ?_;simp -implicitDefEqProofs;refine Qgr ?_;simp -implicitDefEqProofs[Z9h (λj hj=>he j hj hj),fndA,noIs]
def itAt (x:Iss) (i:Nat):Int×Int:=x.its.getD i (0,0)
def itOk (x:Iss) (i:Nat):Bool:=inR (itAt x i).1 1 9999&&inR (itAt x i).2 1 20 && !decide ((itAt x i).1=x.d)&&(i == 0||decide ((itAt x (i-1)).1<(itAt x i).1))
def headB (x:Iss):Bool:=inR x.d 1 9999&&inR x.l 1 8&&inR x.k 1 3&&(if x.k=1 then inR x.its.length 1 8&&decide (x.dms.length=0) else decide (x.dms.length<=4)&&decide (x.its.length=0))
def issB (x:Iss):Bool:=headB x&&(List.range x.its.length).all (itOk x)&&x.dms.all vd
def Z9l {n:Nat} {p:Nat->Bool}:(List.range n).all p=true↔∀ j,j<n->p j=true:=by simp[W03]
def nuS (r:Jr):Nat->St
 |0=>⟨[(4,.int .i64 0),(3,.nils),(1,.ptr 1 0)],[(1,.box [.vsl (r.map isa)])]⟩
 |i+1=>⟨[(4,.int .i64 (i+1:Nat)),(3,.osl 35 (numsN r (i+1)).length),(1,.ptr 1 0)],[(1,.box [.vsl (r.map isa)]),(35,.row 1 ((numsN r (i+1)).map ia))]⟩
def Z9m (r:Jr) (h:Sml r) (h0:r≠[]):PC prog G 87 [rega r] (.vsl ((nums r).map ia)):=by
 (refine Z8o rfl λR hG hrd=>Qga ?_;subst hG)
 unfold Sml at h;simp -implicitDefEqProofs[Z8m,Z8n,rega];refine Z91 (nuS r) (λ_=>True) r.length (by simp only[nuS];(first|exact Wka|exact Wkb)) trivial ?_ ?_
 . intro i hi he;refine Qga ?_;have e1:=at_eq hi
   cases i with
   | zero =>
     have hn:numsN r 1=[r[0].d]:=(by simp[numsN,newB,e1]);have w1:i64.wrap 1=1:=rfl;simp -implicitDefEqProofs[nuS,hi,isa,w1];exact Ym.sub (by simp[lk,Ya,AV.keys,hn]) (by simp[lk,Yc,Ya,AV.keys,hn,ia])
   | succ i =>
     have w1:i64.wrap ((i:Int)+1+1)=(i:Int)+1+1:=Yf;have w2:i64.wrap (i:Int)=(i:Int):=Yf;have k1:(i:Int)+1<r.length:=(by omega);have k2:((i:Int)+1).toNat=i+1:=(by omega);have k3:(0:Int)<=(i:Int)+1:=(by omega);have k4:¬(i:Int)+1=0:=(by omega);have hi2:i<r.length:=(by omega);have e2:=at_eq hi2;have b1:=Z9e r (i+1);have b2:((numsN r (i+1)).length+1)*8<=70368744177664:=(by omega);by_cases h2:r[i].d=r[i+1].d
     . have hn:numsN r (i+1+1)=numsN r (i+1):=(by rw[numsN];simp[newB,e1,e2,h2]);simp -implicitDefEqProofs[nuS,hi,hi2,k1,k2,k3,k4,isa,w1,w2,h2];exact Ym.sub (by simp[lk,Ya,AV.keys,hn]) (by simp[lk,Yc,Ya,AV.keys,hn,ia])
     . have hn:numsN r (i+1+1)=numsN r (i+1)++[r[i+1].d]:=(by rw[numsN];simp[newB,e1,e2,h2]);simp -implicitDefEqProofs[nuS,hi,hi2,k1,k2,k3,k4,isa,w1,w2,h2,b2];exact Ym.sub (by simp[lk,Ya,AV.keys,hn]) (by simp[lk,Yc,Ya,AV.keys,hn,ia])
 . intro he;refine Qga ?_
   obtain ⟨n,hn⟩ : ∃ n,r.length=n+1:=⟨r.length-1,by
    have:r.length≠0:=(by simpa using h0);omega⟩
   have e:numsN r (n+1)=nums r:=(by rw[nums,hn]);have pu:((nums r).map ia).all (λx=>x.all AV.pure)=true:=(by simp[ia,AV.pure]);rw[hn];have k1:¬(n:Int)+1<n+1:=(by omega);simp -implicitDefEqProofs[nuS,e,hn,k1];refine Qgr ?_;simp -implicitDefEqProofs[pu]
def Z9n (x:Iss) (h1:Sml x.its) (h2:Sml x.dms) (hk:0<=x.k/\x.k<=255):PC prog G 86 [.agg (isa x)] (.bool (issB x)):=by
 (refine Z8l rfl λR hG hrd=>Qga ?_;subst hG)
 unfold Sml at h1 h2;have wk:i64.wrap x.k=x.k:=Yf;have bad:headB x=false->issB x=false:=λe=>by simp[issB,e]
 simp -implicitDefEqProofs[Z8j,Z8k,isa];refine Qco (Z94 _ _ _) ?_
 cases q1:inR x.d 1 9999
 . simp -implicitDefEqProofs[bad (by simp[headB,q1])]
 simp -implicitDefEqProofs;refine Qco (Z94 _ _ _) ?_
 cases q2:inR x.l 1 8
 . simp -implicitDefEqProofs[bad (by simp[headB,q2])]
 simp -implicitDefEqProofs[wk];refine Qco (Z94 _ _ _) ?_
 cases q3:inR x.k 1 3
 . simp -implicitDefEqProofs[bad (by simp[headB,q3])]
 have q3':1<=x.k/\x.k<=3:=W0X q3;by_cases c1:x.k=1
 . simp -implicitDefEqProofs [c1];refine Qco (Z94 _ _ _) ?_
   cases q4:inR x.its.length 1 8
   . simp -implicitDefEqProofs[bad (by simp[headB,q4,c1])]
   have n1:¬(1:Int)<1:=(by omega);by_cases q5:x.dms.length=0
   . have q5n : ¬0<x.dms.length:=(by omega);have hB:headB x=true:=(by simp[headB,q1,q2,c1,q4,q5];rfl);simp -implicitDefEqProofs[q5n,q5];refine Z91 (λi=>⟨[(3,.int .i64 i),(1,.ptr 1 0)],[(1,.box (isa x))]⟩) (λi=>∀ j,j<i->itOk x j=true) x.its.length (by (first|exact Ym.tm (by simp[lk,isa,c1])|exact Ym.sub (by simp[lk,Ya,AV.keys,isa,c1]) (by simp[lk,Yc,Ya,AV.keys,isa,c1]))) (by simp) ?_ ?_
     . intro i hi he;refine Qga ?_;have w1:i64.wrap ((i:Int)+1)=((i+1:Nat):Int):=Yf;have a1:itAt x i=x.its[i]:=by simp[itAt,List.getD,hi]
       have no:itOk x i=false->issB x=false:=λe=>by
        cases hI:issB x
        . rfl
        . simp only[issB,W01]at hI;rw[Z9l.1 hI.1.2 i hi]at e;cases e
       simp -implicitDefEqProofs[hi,isa,ita];refine Qco (Z94 _ _ _) ?_
       cases p1:inR x.its[i].1 1 9999
       . simp -implicitDefEqProofs;refine ⟨rfl,?_⟩;refine Qgr ?_;simp -implicitDefEqProofs[no (by simp[itOk,a1,p1])]
       simp -implicitDefEqProofs;refine Qco (Z94 _ _ _) ?_
       cases p2:inR x.its[i].2 1 20
       . simp -implicitDefEqProofs;refine ⟨rfl,?_⟩;refine Qgr ?_;simp -implicitDefEqProofs[no (by simp[itOk,a1,p2])]
       by_cases p3:x.its[i].1=x.d
       . simp -implicitDefEqProofs[p3];refine ⟨rfl,?_⟩;refine Qgr ?_;simp -implicitDefEqProofs[no (by simp[itOk,a1,p3])]
       cases i with
       | zero =>
         have ok:itOk x 0=true:=(by simp[itOk,a1,p1,p2,p3]);have w0:i64.wrap 1=1:=rfl;simp -implicitDefEqProofs[p3,w0];exact ⟨rfl,(by (first|exact Ym.tm (by simp[lk,isa])|exact Ym.sub (by simp[lk,Ya,AV.keys,isa]) (by simp[lk,Yc,Ya,AV.keys,isa]))),ok⟩
       | succ i =>
         have w2:i64.wrap (i:Int)=(i:Int):=Yf;have w3:i64.wrap ((i:Int)+1+1)=(i:Int)+1+1:=Yf;have k3:(0:Int)<(i:Int)+1:=(by omega);have hi2:i<x.its.length:=(by omega);have a2:itAt x i=x.its[i]:=(by simp[itAt,List.getD,hi2]);by_cases p4:x.its[i+1].1<=x.its[i].1
         . simp -implicitDefEqProofs[p3,k3,w2,hi2,ita,p4];refine ⟨rfl,?_⟩;refine Qgr ?_;simp -implicitDefEqProofs[no (by simp[itOk,a1,a2,p4])]
         . have ok:itOk x (i+1)=true:=(by simp[itOk,a1,a2,p1,p2,p3];omega);simp -implicitDefEqProofs[p3,k3,w2,w3,hi2,ita,p4];refine ⟨rfl,(by (first|exact Ym.tm (by simp[lk,isa])|exact Ym.sub (by simp[lk,Ya,AV.keys,isa]) (by simp[lk,Yc,Ya,AV.keys,isa]))),λj hj=>?_⟩;by_cases e:j=i+1
           . subst e;exact ok
           . exact he j (by omega)
     . intro he;refine Qga ?_;have hI:(List.range x.its.length).all (itOk x)=true:=Z9l.2 he;simp -implicitDefEqProofs[isa];refine Qgr ?_;simp -implicitDefEqProofs;refine Z91 (λi=>⟨[(5,.int .i64 i),(1,.ptr 1 0)],[(1,.box (isa x))]⟩) (λi=>∀ j (h:j<x.dms.length),j<i->vd x.dms[j]=true) x.dms.length (by (first|exact Ym.tm (by simp[lk,isa])|exact Ym.sub (by simp[lk,Ya,AV.keys,isa]) (by simp[lk,Yc,Ya,AV.keys,isa]))) (by simp) ?_ ?_
       . intro i hi he;refine Qga ?_;have w1:i64.wrap ((i:Int)+1)=((i+1:Nat):Int):=Yf;simp -implicitDefEqProofs[hi,isa,dma];refine Qco (Z93 _ _ _) ?_
         cases p1:vd x.dms[i]
         . have hn:issB x=false:=by
            cases hI2:issB x
            . rfl
            . simp only[issB,W01]at hI2;rw[W03.1 hI2.2 _ (W0e hi)]at p1;cases p1
           have p1':vd ⟨x.dms[i].n,x.dms[i].l,x.dms[i].u⟩=false:=p1;simp -implicitDefEqProofs[p1'];refine Qgr ?_;simp -implicitDefEqProofs[hn]
         . have p1':vd ⟨x.dms[i].n,x.dms[i].l,x.dms[i].u⟩=true:=p1;simp -implicitDefEqProofs[p1',w1];refine ⟨(by (first|exact Ym.tm (by simp[lk,isa])|exact Ym.sub (by simp[lk,Ya,AV.keys,isa]) (by simp[lk,Yc,Ya,AV.keys,isa]))),λj h1 hj=>?_⟩;by_cases e:j=i
           . subst e;exact p1
           . exact he j h1 (by omega)
       . intro hd;refine Qga ?_
         have hD:x.dms.all vd=true:=W03.2 λy hy=>by
          obtain ⟨j,hj,rfl⟩:=W0k hy;exact hd j hj hj
         have hT:issB x=true:=(by simp[issB,hB,hI,hD]);simp -implicitDefEqProofs[isa];refine Qgr ?_;simp -implicitDefEqProofs[hT]
   . have q5n:0<x.dms.length:=(by omega);simp -implicitDefEqProofs[q5n,bad (by simp[headB,q5,c1])]
 . have c2 : 1<x.k:=(by omega);by_cases q4:x.dms.length<=4
   case neg =>
    have q4n:4<x.dms.length:=(by omega);have q4i:(4:Int)<x.dms.length:=(by omega);simp -implicitDefEqProofs[c1,c2,q4n,q4i,bad (by simp[headB,q4,c1])]
   have q4n:¬4<x.dms.length:=(by omega);have q4i:¬(4:Int)<x.dms.length:=(by omega);by_cases q5:x.its.length=0
   . have q5n : ¬0<x.its.length:=(by omega);have hB:headB x=true:=(by simp[headB,q1,q2,q3,c1,q4,q5]);simp -implicitDefEqProofs[c1,c2,q4n,q4i,q5n,q5];refine Z91 (λi=>⟨[(3,.int .i64 i),(1,.ptr 1 0)],[(1,.box (isa x))]⟩) (λi=>∀ j,j<i->itOk x j=true) x.its.length (by (first|exact Ym.tm (by simp[lk,isa,c1])|exact Ym.sub (by simp[lk,Ya,AV.keys,isa,c1]) (by simp[lk,Yc,Ya,AV.keys,isa,c1]))) (by simp) ?_ ?_
     . intro i hi he;refine Qga ?_;have w1:i64.wrap ((i:Int)+1)=((i+1:Nat):Int):=Yf;have a1:itAt x i=x.its[i]:=by simp[itAt,List.getD,hi]
       have no:itOk x i=false->issB x=false:=λe=>by
        cases hI:issB x
        . rfl
        . simp only[issB,W01]at hI;rw[Z9l.1 hI.1.2 i hi]at e;cases e
       simp -implicitDefEqProofs[hi,isa,ita];refine Qco (Z94 _ _ _) ?_
       cases p1:inR x.its[i].1 1 9999
       . simp -implicitDefEqProofs;refine ⟨rfl,?_⟩;refine Qgr ?_;simp -implicitDefEqProofs[no (by simp[itOk,a1,p1])]
       simp -implicitDefEqProofs;refine Qco (Z94 _ _ _) ?_
       cases p2:inR x.its[i].2 1 20
       . simp -implicitDefEqProofs;refine ⟨rfl,?_⟩;refine Qgr ?_;simp -implicitDefEqProofs[no (by simp[itOk,a1,p2])]
       by_cases p3:x.its[i].1=x.d
       . simp -implicitDefEqProofs[p3];refine ⟨rfl,?_⟩;refine Qgr ?_;simp -implicitDefEqProofs[no (by simp[itOk,a1,p3])]
       cases i with
       | zero =>
         have ok:itOk x 0=true:=(by simp[itOk,a1,p1,p2,p3]);have w0:i64.wrap 1=1:=rfl;simp -implicitDefEqProofs[p3,w0];exact ⟨rfl,(by (first|exact Ym.tm (by simp[lk,isa])|exact Ym.sub (by simp[lk,Ya,AV.keys,isa]) (by simp[lk,Yc,Ya,AV.keys,isa]))),ok⟩
       | succ i =>
         have w2:i64.wrap (i:Int)=(i:Int):=Yf;have w3:i64.wrap ((i:Int)+1+1)=(i:Int)+1+1:=Yf;have k3:(0:Int)<(i:Int)+1:=(by omega);have hi2:i<x.its.length:=(by omega);have a2:itAt x i=x.its[i]:=(by simp[itAt,List.getD,hi2]);by_cases p4:x.its[i+1].1<=x.its[i].1
         . simp -implicitDefEqProofs[p3,k3,w2,hi2,ita,p4];refine ⟨rfl,?_⟩;refine Qgr ?_;simp -implicitDefEqProofs[no (by simp[itOk,a1,a2,p4])]
         . have ok:itOk x (i+1)=true:=(by simp[itOk,a1,a2,p1,p2,p3];omega);simp -implicitDefEqProofs[p3,k3,w2,w3,hi2,ita,p4];refine ⟨rfl,(by (first|exact Ym.tm (by simp[lk,isa])|exact Ym.sub (by simp[lk,Ya,AV.keys,isa]) (by simp[lk,Yc,Ya,AV.keys,isa]))),λj hj=>?_⟩;by_cases e:j=i+1
           . subst e;exact ok
           . exact he j (by omega)
     . intro he;refine Qga ?_;have hI:(List.range x.its.length).all (itOk x)=true:=Z9l.2 he;simp -implicitDefEqProofs[isa];refine Qgr ?_;simp -implicitDefEqProofs;refine Z91 (λi=>⟨[(5,.int .i64 i),(1,.ptr 1 0)],[(1,.box (isa x))]⟩) (λi=>∀ j (h:j<x.dms.length),j<i->vd x.dms[j]=true) x.dms.length (by (first|exact Ym.tm (by simp[lk,isa])|exact Ym.sub (by simp[lk,Ya,AV.keys,isa]) (by simp[lk,Yc,Ya,AV.keys,isa]))) (by simp) ?_ ?_
       . intro i hi he;refine Qga ?_;have w1:i64.wrap ((i:Int)+1)=((i+1:Nat):Int):=Yf;simp -implicitDefEqProofs[hi,isa,dma];refine Qco (Z93 _ _ _) ?_
         cases p1:vd x.dms[i]
         . have hn:issB x=false:=by
            cases hI2:issB x
            . rfl
            . simp only[issB,W01]at hI2;rw[W03.1 hI2.2 _ (W0e hi)]at p1;cases p1
           have p1':vd ⟨x.dms[i].n,x.dms[i].l,x.dms[i].u⟩=false:=p1;simp -implicitDefEqProofs[p1'];refine Qgr ?_;simp -implicitDefEqProofs[hn]
         . have p1':vd ⟨x.dms[i].n,x.dms[i].l,x.dms[i].u⟩=true:=p1;simp -implicitDefEqProofs[p1',w1];refine ⟨(by (first|exact Ym.tm (by simp[lk,isa])|exact Ym.sub (by simp[lk,Ya,AV.keys,isa]) (by simp[lk,Yc,Ya,AV.keys,isa]))),λj h1 hj=>?_⟩;by_cases e:j=i
           . subst e;exact p1
           . exact he j h1 (by omega)
       . intro hd;refine Qga ?_
         have hD:x.dms.all vd=true:=W03.2 λy hy=>by
          obtain ⟨j,hj,rfl⟩:=W0k hy;exact hd j hj hj
         have hT:issB x=true:=(by simp[issB,hB,hI,hD]);simp -implicitDefEqProofs[isa];refine Qgr ?_;simp -implicitDefEqProofs[hT]
   . have q5n:0<x.its.length:=(by omega);simp -implicitDefEqProofs[c1,c2,q4n,q4i,q5n,bad (by simp[headB,q5,c1])]
def Wf (r:Jr):Prop:=SmlR r/\∀ x∈r,0<=x.k/\x.k<=255
def ordB (r:Jr):Nat->Bool
 |0=>decide ((at' r 0).l=1)
 | i+1=>if (at' r (i+1)).d<(at' r i).d then false else if (at' r i).d<(at' r (i+1)).d then decide ((at' r (i+1)).l=1)
   else decide ((at' r (i+1)).l=(at' r i).l+1)&&decide ((at' r (i+1)).k=(at' r i).k)
def inB (r:Jr):Bool:=r.all λx=>x.its.all λy=>decide (y.1∈nums r)
def ItsIn (r:Jr) (x:Iss):Prop:=∀ y∈x.its,y.1∈nums r
def Z9o (r:Jr):Bool:=inR r.length 1 60&&r.all issB&&(List.range r.length).all (ordB r)&&inB r&&decide ((nums r).length<=20)
def Z9p {r:Jr} {i:Nat} (h:i<r.length) (e:issB r[i]=false):Z9o r=false:=by
 cases hI:Z9o r
 . rfl
 . simp only[Z9o,W01]at hI;rw[W03.1 hI.1.1.1.2 _ (W0e h)]at e;cases e
def Z9q {r:Jr} {i:Nat} (h:i<r.length) (e:ordB r i=false):Z9o r=false:=by
 cases hI:Z9o r
 . rfl
 . simp only[Z9o,W01]at hI;rw[Z9l.1 hI.1.1.2 i h]at e;cases e
def Z9r {r:Jr} {i k:Nat} (h:i<r.length) (hk:k<r[i].its.length) (e:r[i].its[k].1 ∉ nums r):Z9o r=false:=by
 cases hI:Z9o r
 . rfl
 . simp only[Z9o,W01,inB]at hI;have:=W03.1 (W03.1 hI.1.2 _ (W0e h)) _ (W0e hk);exact absurd (W0X this) e
def Z9s {l:List Int} {n:Int}:idx l n<0↔n ∉ l:=by
 unfold idx
 split
 . rename_i h;simp[h]
 . rename_i h;simp[h]
def Z9t {l:List Int} {n:Int} (h:n∈l):∃ i:Nat,idx l n=i/\i<l.length/\l[i]? = some n:=by
 refine ⟨l.idxOf n,by rw[idx,if_pos h],List.idxOf_lt_length_iff.2 h,?_⟩;have h1:l.idxOf n<l.length:=List.idxOf_lt_length_iff.2 h;rw[W07 h1,List.getElem_idxOf h1]
def Z9u (r:Jr):(nums r).length<=r.length:=Z9e r _
def Z9v (r:Jr) (h:Wf r):PC prog G 70 [rega r] (.bool (Z9o r)):=by
 (refine Z8u rfl λR hG hrd=>Qga ?_;subst hG)
 have hs:=h.1.1;unfold Sml at hs;simp -implicitDefEqProofs[Z8s,Z8t,rega];refine Qco (Z94 _ _ _) ?_
 cases q1:inR r.length 1 60
 . simp -implicitDefEqProofs[show Z9o r=false by simp[Z9o,q1]]
 have q1':1<=r.length/\r.length<=60:=by
  have:=W0X q1;omega
 have hne:r≠[]:=(by intro e;subst e;simp at q1');simp -implicitDefEqProofs;refine Z91 (λi=>⟨[(3,.int .i64 i),(1,.ptr 1 0)],[(1,.box [.vsl (r.map isa)])]⟩) (λi=>∀ j (h:j<r.length),j<i->issB r[j]=true/\ordB r j=true) r.length (by (first|exact Wka|exact Wkb)) (by simp) ?_ ?_
 . intro i hi he;refine Qga ?_;have w1:i64.wrap ((i:Int)+1)=((i+1:Nat):Int):=Yf;have a1:=at_eq hi;have hx:=h.1.2 r[i] (W0e hi);have hk:=h.2 r[i] (W0e hi)
   have go:issB r[i]=true->ordB r i=true->∀ j (h:j<r.length),j<i+1->issB r[j]=true/\ordB r j=true:=λg1 g2 j q1 q2=>by
    by_cases e:j=i
    . subst e;exact ⟨g1,g2⟩
    . exact he j q1 (by omega)
   simp -implicitDefEqProofs[hi,isa];refine Qco (Z9n r[i] hx.1 hx.2 hk) ?_
   cases p1:issB r[i]
   . simp -implicitDefEqProofs;refine Qgr ?_;simp -implicitDefEqProofs[Z9p hi p1]
   have hd:1<=r[i].d:=by
    have p2:=p1;simp only[issB,headB,W01,inR,W0b]at p2;exact p2.1.1.1.1.1.1
   cases i with
   | zero =>
     have n1:¬r[0].d<(0:Int):=(by omega);have n2:(0:Int)<r[0].d:=(by omega);by_cases p3:r[0].l=1
     . have ok:ordB r 0=true:=(by simp[ordB,a1,p3]);have w0:i64.wrap 1=1:=rfl;simp -implicitDefEqProofs[n1,n2,p3,w0];exact ⟨(by (first|exact Wka|exact Wkb)),λj q1 q2=>by subst q2;exact ⟨p1,ok⟩⟩
     . simp -implicitDefEqProofs[n1,n2,p3];refine Qgr ?_;simp -implicitDefEqProofs[Z9q hi (by simp[ordB,a1,p3])]
   | succ i =>
     have w2:i64.wrap (i:Int)=(i:Int):=Yf;have w3:i64.wrap ((i:Int)+1+1)=(i:Int)+1+1:=Yf;have k3:(0:Int)<(i:Int)+1:=(by omega);have hi2:i<r.length:=(by omega);have a2:=at_eq hi2;have bl:=(he i hi2 (by omega)).1;simp only[issB,headB,W01,inR,W0b]at bl;have w4:i64.wrap (r[i].l+1)=r[i].l+1:=Yf;by_cases p3:r[i+1].d<r[i].d
     . simp -implicitDefEqProofs[k3,w2,hi2,isa,p3];refine Qgr ?_;simp -implicitDefEqProofs[Z9q hi (by simp[ordB,a1,a2,p3])]
     by_cases p4:r[i].d<r[i+1].d
     . by_cases p5:r[i+1].l=1
       . have ok:ordB r (i+1)=true:=(by simp[ordB,a1,a2,p3,p4,p5]);simp -implicitDefEqProofs[k3,w2,w3,hi2,isa,p3,p4,p5];exact ⟨(by (first|exact Wka|exact Wkb)),go p1 ok⟩
       . simp -implicitDefEqProofs[k3,w2,hi2,isa,p3,p4,p5];refine Qgr ?_;simp -implicitDefEqProofs[Z9q hi (by simp[ordB,a1,a2,p3,p4,p5])]
     by_cases p5:r[i+1].l=r[i].l+1
     case neg =>
      simp -implicitDefEqProofs[k3,w2,w4,hi2,isa,p3,p4,p5];refine Qgr ?_;simp -implicitDefEqProofs[Z9q hi (by simp[ordB,a1,a2,p3,p4,p5])]
     by_cases p6:r[i+1].k=r[i].k
     . have ok:ordB r (i+1)=true:=(by simp[ordB,a1,a2,p3,p4,p5,p6]);simp -implicitDefEqProofs[k3,w2,w3,w4,hi2,isa,p3,p4,p5,p6];exact ⟨(by (first|exact Wka|exact Wkb)),go p1 ok⟩
     . simp -implicitDefEqProofs[k3,w2,w4,hi2,isa,p3,p4,p5,p6];refine Qgr ?_;simp -implicitDefEqProofs[Z9q hi (by simp[ordB,a1,a2,p3,p4,p5,p6])]
 . intro he;refine Qga ?_
   have g1:r.all issB=true:=W03.2 λx hx=>by
    obtain ⟨j,hj,rfl⟩:=W0k hx;exact (he j hj hj).1
   have g2:(List.range r.length).all (ordB r)=true:=Z9l.2 λj hj=>(he j hj hj).2
   have hns:Sml (nums r):=(by have:=Z9u r;unfold Sml;omega);simp -implicitDefEqProofs;refine Qgr ?_;simp -implicitDefEqProofs;refine Qco (Z9m r h.1.1 hne) ?_;simp -implicitDefEqProofs;refine Z91 (λi=>⟨[(7,.int .i64 i),(6,.vsl ((nums r).map ia)),(1,.ptr 1 0)],[(1,.box [.vsl (r.map isa)])]⟩) (λi=>∀ j (h:j<r.length),j<i->ItsIn r r[j]) r.length (by (first|exact Wka|exact Wkb)) (by simp) ?_ ?_
   . intro i hi hb;refine Qga ?_;have w1:i64.wrap ((i:Int)+1)=((i+1:Nat):Int):=Yf;have hx:=(h.1.2 r[i] (W0e hi)).1;unfold Sml at hx;simp -implicitDefEqProofs[hi];refine Z91 (λk=>⟨[(8,.int .i64 k),(7,.int .i64 i),(6,.vsl ((nums r).map ia)),(1,.ptr 1 0)],[(1,.box [.vsl (r.map isa)])]⟩) (λk=>∀ j (h:j<r[i].its.length),j<k->r[i].its[j].1∈nums r) r[i].its.length (by (first|exact Wka|exact Wkb)) (by simp) ?_ ?_
     . intro k hk hc;refine Qga ?_;have w2:i64.wrap ((k:Int)+1)=((k+1:Nat):Int):=Yf;simp -implicitDefEqProofs[hi,isa,hk,ita];refine Qco (Z97 (nums r) _ hns) ?_;by_cases p1:r[i].its[k].1∈nums r
       . have n1:¬idx (nums r) r[i].its[k].1<0:=λe=>Z9s.1 e p1
         simp -implicitDefEqProofs[n1,w2];refine ⟨(by (first|exact Wka|exact Wkb)),λj q1 q2=>?_⟩;by_cases e:j=k
         . subst e;exact p1
         . exact hc j q1 (by omega)
       . have n1:idx (nums r) r[i].its[k].1<0:=Z9s.2 p1;simp -implicitDefEqProofs[n1];refine Qgr ?_;simp -implicitDefEqProofs;refine Qgr ?_;simp -implicitDefEqProofs[Z9r hi hk p1]
     . intro hc;refine Qga ?_;simp -implicitDefEqProofs[hi,isa];refine Qgr ?_;simp -implicitDefEqProofs[w1];refine ⟨(by (first|exact Wka|exact Wkb)),λj q1 q2=>?_⟩;by_cases e:j=i
       . subst e;intro y hy;obtain ⟨n,hn,rfl⟩:=W0k hy;exact hc n hn hn
       . exact hb j q1 (by omega)
   . intro hb;refine Qga ?_
     have g3:inB r=true:=W03.2 λx hx=>W03.2 λy hy=>by
      obtain ⟨j,hj,rfl⟩:=W0k hx;exact W0M (hb j hj hj y hy)
     have g4:Z9o r=decide ((nums r).length<=20):=(by simp[Z9o,q1,g1,g2,g3]);simp -implicitDefEqProofs;refine Qgr ?_;simp -implicitDefEqProofs[g4];omega
def Ord (r:Jr):Prop:=∀ i,i+1<r.length->(at' r i).d<=(at' r (i+1)).d
def Ord.mono {r:Jr} (h:Ord r):∀ {i j:Nat},i<=j->j<r.length->(at' r i).d<=(at' r j).d:=by
 intro i j hij hj
 induction j with
 | zero => obtain rfl:i=0:=by omega
           exact W1R _
 | succ j ih =>
   by_cases e:i=j+1
   . subst e;exact W1R _
   . exact Int.le_trans (ih (by omega) (by omega)) (h j hj)
def Z9w {r:Jr} (h:Z9o r=true):Ord r:=by
 intro i hi;simp only[Z9o,W01]at h;have:=Z9l.1 h.1.1.2 (i+1) hi;simp only[ordB]at this
 split at this
 . cases this
 . omega
def Z9x {r:Jr} (h:Ord r):∀ i,i<=r.length->(numsN r i).Pairwise (· < ·)/\(∀ y∈numsN r i,∃ j,j<i/\(at' r j).d=y)/\∀ j,j<i->(at' r j).d∈numsN r i:=by
 intro i
 induction i with
 |zero=>intro _;simp[numsN]
 | succ i ih =>
   intro hi;obtain ⟨h1,h2,h3⟩:=ih (by omega);simp only[numsN]
   split
   . rename_i hb;refine ⟨W1Y.2 ⟨h1,by simp,λa ha b hb'=>?_⟩,λy hy=>?_,λj hj=>?_⟩
     . simp only[W0B]at hb';subst hb';obtain ⟨j,hj,rfl⟩:=h2 a ha;simp only[newB,W0T,W0A,W1y,W1a]at hb;have m1:=h.mono (show j<=i-1 by omega) (by omega);have m2:=h.mono (show i-1<=i by omega) (by omega);rcases hb with hb|hb
       . omega
       . omega
     . rcases W0h.1 hy with hy|hy
       . obtain ⟨j,hj,e⟩:=h2 y hy;exact ⟨j,by omega,e⟩
       . exact ⟨i,by omega,(W0B.1 hy).symm⟩
     . by_cases e:j=i
       . subst e;simp
       . exact W0h.2 (.inl (h3 j (by omega)))
   . rename_i hb;refine ⟨h1,λy hy=>?_,λj hj=>?_⟩
     . obtain ⟨j,hj,e⟩:=h2 y hy;exact ⟨j,by omega,e⟩
     . by_cases e:j=i
       . subst e;simp only[newB,W0T,W0A,W1y,W1a,not_or,Decidable.not_not]at hb;rw[<- hb.2];exact h3 _ (by omega)
       . exact h3 j (by omega)
def Z9y {r:Jr} (h:Ord r):(nums r).Pairwise (· < ·):=(Z9x h _ (W0f _)).1
def Z9z {r:Jr} (h:Ord r):(nums r).Nodup:=(Z9y h).imp λh=>Int.ne_of_lt h
def Z9A {r:Jr} (h:Ord r) {n:Int} (hn:n∈nums r):∃ i,∃ hi:i<r.length,r[i].d=n:=by
 obtain ⟨i,hi,e⟩:=(Z9x h _ (W0f _)).2.1 n hn;exact ⟨i,hi,by rw[<- at_eq hi];exact e⟩
def Z9B {r:Jr} (h:Ord r) {i:Nat} (hi:i<r.length):r[i].d∈nums r:=by
 have:=(Z9x h _ (W0f _)).2.2 i hi
 rwa [at_eq hi]at this
def dvIt (f:Int->Int) (m:Int) (its:List (Int×Int)):Int:=its.foldl (λm y=>max m (1+f y.1)) m
def dvN (r:Jr) (f:Int->Int) (n:Int):Nat->Int
 |0=>0
 |i+1=>if (at' r i).d=n then dvIt f (max (dvN r f n i) 1) (at' r i).its else dvN r f n i
def Dv (r:Jr):Nat->Int->Int
 |0,_=>0
 |k+1,n=>dvN r (Dv r k) n r.length
def Z9C {f:Int->Int} {K:Int} (hf:∀ n,0<=f n/\f n<=K):∀ (its:List (Int×Int)) (m:Int),0<=m->m<=K+1->0<=dvIt f m its/\dvIt f m its<=K+1
 |[],m,h1,h2=>⟨h1,h2⟩
 | y::its,m,h1,h2=>by
   have:=hf y.1;exact Z9C hf its (max m (1+f y.1)) (by omega) (by omega)
def Z9D (r:Jr) {f:Int->Int} {K:Int} (hK:0<=K) (hf:∀ n,0<=f n/\f n<=K) (n:Int):∀ i,0<=dvN r f n i/\dvN r f n i<=K+1
 |0=>by simp only[dvN];omega
 | i+1=>by
   have:=Z9D r hK hf n i;simp only[dvN]
   split
   . exact Z9C hf _ _ (by omega) (by omega)
   . exact this
def Dv_bd (r:Jr):∀ k n,0<=Dv r k n/\Dv r k n<=k
 |0,n=>by simp[Dv]
 | k+1,n=>by
   have:=Z9D r (K:=(k:Int)) (by omega) (Dv_bd r k) n r.length;simp only[Dv];omega
def rowF (l:List Int) (g:Int->Int):List (List AV):=l.map λn=>[.int .i64 (g n)]
def Z9E {l:List Int} (hn:l.Nodup) {g:Int->Int} {j:Nat} {d v:Int} (hj:l[j]? = some d):(rowF l g).set j [.int .i64 v]=rowF l λn=>if n=d then v else g n:=by
 apply List.ext_getElem?
 intro i;obtain ⟨hlt,he⟩:=W02.1 hj;simp only[rowF,W28,W09,W0N];by_cases e:j=i
 . subst e;simp[hlt,he]
 . rw[if_neg e]
   cases hi:l[i]? with
   |none=>rfl
   | some x =>
     obtain ⟨hlt2,he2⟩:=W02.1 hi;have:x≠d:=λq=>e ((List.getElem_inj hn).1 (by rw[he,he2,q]))
     simp[this]
def Z9F {l:List Int} {g:Int->Int}:(rowF l g).length=l.length:=by simp[rowF]
def Z9G {l:List Int} {g:Int->Int}:(rowF l g).all (λr=>r.all AV.pure)=true:=by simp[rowF,AV.pure]
def Z9H {l:List Int} {g:Int->Int} {p:List AV->Bool}:(rowF l g).all p=l.all λn=>p [.int .i64 (g n)]:=by simp[rowF,List.all_map,W0y]
attribute [simp] Z9H
def Z9I {l:List Int} {g:Int->Int} {j:Nat} (h:j<(rowF l g).length):(rowF l g)[j]=[.int .i64 (g (l[j]'(by simpa [rowF] using h)))]:=by simp[rowF]
attribute [simp] Z9I Z9F
def Z9J {l:List Int}:List.replicate l.length [AV.int .i64 0]=rowF l λ_=>0:=by
 simp only[rowF];induction l with
 |nil=>rfl
 |cons x l ih=>simp[List.replicate_succ,ih]
def Z9K (f:Int->Int) (m:Int) (its:List (Int×Int)) (k:Nat) (h:k<its.length):dvIt f m (its.take (k+1))=max (dvIt f m (its.take k)) (1+f its[k].1):=by
 rw[W08 h,dvIt,W1o];rfl
def Z9L {d:Int} {v v0:Int} {g:Int->Int}:(λn=>if n=d then v else if n=d then v0 else g n)=λn=>if n=d then v else g n:=by
 funext n;split <;> rfl
def Ym.trans {a b c:St} (h:Ym a b) (g:Ym b c):Ym a c:=λR x W s=>g R x W (h R x W s)
set_option maxRecDepth 8000 in
def Z9M (r:Jr) (h:Wf r) (hL:Z9o r=true):PC prog G 71 [rega r] (.vsl (rowF (nums r) (Dv r ((nums r).length+1)))):=by
 (refine Z8x rfl λR hG hrd=>Qga ?_;subst hG)
 have hs:=h.1.1;unfold Sml at hs;have hO:=Z9w hL;have hl:=Z9u r;have hnd:=Z9z hO;have hL2:=hL;simp only[Z9o,W01,inB,W0b]at hL2;obtain ⟨⟨⟨⟨l1,l2⟩,l3⟩,l4⟩,l5⟩:=hL2;have l1':=W0X l1;have hne:r≠[]:=(by intro e;subst e;simp at l1');have hns:Sml (nums r):=(by unfold Sml;omega);simp -implicitDefEqProofs[Z8v,Z8w,rega];refine Qco (Z9m r h.1.1 hne) ?_;have b1:((nums r).length:Int)<=16777216:=(by omega);simp -implicitDefEqProofs[b1,Z9J];refine Z91 (λk=>⟨[(5,.int .i64 k),(4,.vsl (rowF (nums r) (Dv r k))),(3,.vsl ((nums r).map ia)),(1,.ptr 1 0)],[(1,.box [.vsl (r.map isa)])]⟩) (λ_=>True) ((nums r).length+1) ?_ trivial ?_ ?_
 . refine Ym.trans (Ym.frz (λk=>k == 15) _) ?_;have e0:(λn=>Dv r 0 n)=λ_=>0:=rfl
   exact Ym.sub (by simp[lk,Ya,AV.keys,Yi,frzA,frzO,frz,Yh,St.get,Z9F,Z9G,Dv,Function.const]) (by simp[lk,Yc,Ya,AV.keys,Yi,frzA,frzO,frz]) (by simp[Yi,lk];try omega)
 . intro k hk _;refine Qga ?_;have k1:(k:Int)<=(nums r).length:=(by omega);simp -implicitDefEqProofs[k1,b1,Z9J];have bd:=Dv_bd r k;have hkb:(k:Int)<=61:=(by omega);refine Z91 (λi=>⟨[(7,.int .i64 i),(6,.osl 24 (nums r).length),(5,.int .i64 k),(4,.vsl (rowF (nums r) (Dv r k))),(3,.vsl ((nums r).map ia)),(1,.ptr 1 0)],[(1,.box [.vsl (r.map isa)]),(24,.row 1 (rowF (nums r) λn=>dvN r (Dv r k) n i))]⟩) (λ_=>True) r.length (by (first|exact Ym.tm (by simp[lk,dvN])|exact Ym.sub (by simp[lk,Ya,AV.keys,dvN]) (by simp[lk,Yc,Ya,AV.keys,dvN]))) trivial ?_ ?_
   . intro i hi _;refine Qga ?_;have w1:i64.wrap ((i:Int)+1)=((i+1:Nat):Int):=Yf;have a1:=at_eq hi;have hx:=(h.1.2 r[i] (W0e hi)).1;unfold Sml at hx
     have hits:∀ m (hm:m<r[i].its.length),r[i].its[m].1∈nums r:=λm hm =>
      W0X (W03.1 (W03.1 l4 _ (W0e hi)) _ (W0e hm))
     simp -implicitDefEqProofs[hi,isa];refine Qco (Z97 (nums r) _ hns) ?_;obtain ⟨j,hj,hlt,hget⟩:=Z9t (Z9B hO hi);rw[hj];have hset:=λg v=>Z9E (g:=g) (v:=v) hnd hget
     have hgt:(nums r)[j]=r[i].d:=(W02.1 hget).2;simp -implicitDefEqProofs[hlt,hgt,hset]
     refine Z91 (λm=>⟨[(10,.int .i64 m),(9,.int .i64 j),(8,.ptr 8 0),(7,.int .i64 i),(6,.osl 24 (nums r).length),(5,.int .i64 k),(4,.vsl (rowF (nums r) (Dv r k))),(3,.vsl ((nums r).map ia)),(1,.ptr 1 0)],
      [(1,.box [.vsl (r.map isa)]),(8,.box (isa r[i])),(24,.row 1 (rowF (nums r) λn=>if n=r[i].d then dvIt (Dv r k) (max (dvN r (Dv r k) r[i].d i) 1) (r[i].its.take m) else dvN r (Dv r k) n i))]⟩) (λ_=>True) r[i].its.length (by (first|exact Ym.tm (by simp[lk,dvIt,isa])|exact Ym.sub (by simp[lk,Ya,AV.keys,dvIt,isa]) (by simp[lk,Yc,Ya,AV.keys,dvIt,isa]))) trivial ?_ ?_
     . intro m hm _;refine Qga ?_;have w2:i64.wrap ((m:Int)+1)=((m+1:Nat):Int):=Yf;obtain ⟨j2,hj2,hlt2,hget2⟩:=Z9t (hits m hm);have hgt2:(nums r)[j2]=r[i].its[m].1:=(W02.1 hget2).2;have bd2:=bd r[i].its[m].1;have w3:i64.wrap (1+Dv r k r[i].its[m].1)=1+Dv r k r[i].its[m].1:=Yf;simp -implicitDefEqProofs[isa,hm,ita,hlt,hgt];refine Qco (Z97 (nums r) _ hns) ?_;rw[hj2];have tk:=Z9K (Dv r k) (max (dvN r (Dv r k) r[i].d i) 1) r[i].its m hm;simp -implicitDefEqProofs[hlt2,hgt2,w2,w3,hlt,hgt,hset,Z9L];refine ⟨rfl,?_⟩;rw[<- tk]
       (first|exact Ym.tm (by simp[lk,isa])|exact Ym.sub (by simp[lk,Ya,AV.keys,isa]) (by simp[lk,Yc,Ya,AV.keys,isa]))
     . intro _;refine Qga ?_;simp -implicitDefEqProofs[isa];refine Qgr ?_;simp -implicitDefEqProofs[w1]
       have e:(λn=>if n=r[i].d then dvIt (Dv r k) (max (dvN r (Dv r k) r[i].d i) 1) r[i].its else dvN r (Dv r k) n i)=λn=>dvN r (Dv r k) n (i+1):=by
        funext n
        simp only[dvN,a1];by_cases q:r[i].d=n
        . subst q;simp
        . rw[if_neg q,if_neg (λe=>q e.symm)]
       rw[e]
       (first|exact Wka|exact Wkb)
   . intro _;refine Qga ?_;simp -implicitDefEqProofs;refine Qgr ?_;have w1:i64.wrap ((k:Int)+1)=((k+1:Nat):Int):=Yf;simp -implicitDefEqProofs[w1];have e:(λn=>dvN r (Dv r k) n r.length)=Dv r (k+1):=rfl;rw[e];refine Ym.trans (Ym.frz (λk=>k == 24) _) ?_;exact Ym.sub (by simp[lk,Ya,AV.keys,Yi,frzA,frzO,frz,Yh,St.get,Z9G]) (by simp[lk,Yc,Ya,AV.keys,Yi,frzA,frzO,frz]) (by simp[Yi,lk];try omega)
 . intro _;refine Qga ?_;have k1:¬((nums r).length:Int)+1<=(nums r).length:=(by omega);simp -implicitDefEqProofs[k1];refine Qgr ?_;simp -implicitDefEqProofs
def Z9N (r:Jr):(rega r).pure=true:=by simp[rega,AV.pure]
attribute [simp] Z9N
def mostV (l:List Int) (g:Int->Int):Int:=l.foldl (λm n=>max m (g n)) 0
def chkV (r:Jr):Int:=if Z9o r=true then
    if ((nums r).length:Int)<mostV (nums r) (Dv r ((nums r).length+1)) then 21 else if 6<mostV (nums r) (Dv r ((nums r).length+1)) then 20 else 0
 else 20
def Z9O {d l:Int}:∀ {r:Jr} {x:Iss},findN d l r=some x->x∈r/\x.d=d/\x.l=l
 |[],x,h=>by simp[findN]at h
 | y::r,x,h=>by
   simp only[findN]at h
   split at h
   . rename_i e;cases h;exact ⟨W0H ..,e⟩
   . obtain ⟨h1,h2⟩:=Z9O h;exact ⟨W0z _ h1,h2⟩
def Z9P (l:List Int) (g:Int->Int) (k:Nat) (h:k<l.length):mostV (l.take (k+1)) g=max (mostV (l.take k) g) (g l[k]):=by
 rw[W08 h,mostV,W1o];rfl
def Z9Q (r:Jr) (h:Wf r):PC prog G 47 [rega r] (.int .i64 (chkV r)):=by
 (refine Z8A rfl λR hG hrd=>Qga ?_;subst hG)
 simp -implicitDefEqProofs[Z8y,Z8z,rega];refine Qco (Z9v r h) ?_
 cases hL:Z9o r
 . simp -implicitDefEqProofs[show chkV r=20 by simp[chkV,hL]]
 simp -implicitDefEqProofs;refine Qco (Z9M r h hL) ?_;have hs:=h.1.1;unfold Sml at hs;have hl:=Z9u r;simp -implicitDefEqProofs;refine Z91 (λk=>⟨[(5,.int .i64 k),(4,.int .i64 (mostV ((nums r).take k) (Dv r ((nums r).length+1)))),(3,.vsl (rowF (nums r) (Dv r ((nums r).length+1)))),(1,.ptr 1 0)],[(1,.box [.vsl (r.map isa)])]⟩) (λ_=>True) (nums r).length (by (first|exact Ym.tm (by simp[lk,mostV])|exact Ym.sub (by simp[lk,Ya,AV.keys,mostV]) (by simp[lk,Yc,Ya,AV.keys,mostV]))) trivial ?_ ?_
 . intro k hk _;refine Qga ?_;have w1:i64.wrap ((k:Int)+1)=((k+1:Nat):Int):=Yf;have tk:=Z9P (nums r) (Dv r ((nums r).length+1)) k hk;simp -implicitDefEqProofs[hk,w1];rw[<- tk]
   (first|exact Wka|exact Wkb)
 . intro _;refine Qga ?_;simp -implicitDefEqProofs;refine Qgr ?_;generalize hm:mostV (nums r) (Dv r ((nums r).length+1))=m;by_cases q1:((nums r).length:Int)<m
   . simp -implicitDefEqProofs[q1,show chkV r=21 by simp[chkV,hL,hm,q1]]
   by_cases q2:6<m
   . simp -implicitDefEqProofs[q1,q2,show chkV r=20 by simp[chkV,hL,hm,q1,q2]]
   . simp -implicitDefEqProofs[q1,q2,show chkV r=0 by simp[chkV,hL,hm,q1,q2]]
def fstOf {α:Type} (p:α->Bool) (l:List α):Int:=match l.findIdx? p with|some i=>(i:Int)|none=>-1
def Z9R {α:Type} {p:α->Bool} {l:List α} {i:Nat} (h:i<l.length) (hp:p l[i]=true) (hn:∀ j (h:j<l.length),j<i->p l[j]=false):fstOf p l=i:=by
 have:l.findIdx? p=some i:=by
  rw[W1w];refine ⟨h,hp,λj hj=>?_⟩;rw[hn j (by omega) hj];simp
 simp[fstOf,this]
def Z9S {α:Type} {p:α->Bool} {l:List α} (hn:∀ j (h:j<l.length),p l[j]=false):fstOf p l = -1:=by
 have:l.findIdx? p=none:=W1A.2 λx hx=>by
  obtain ⟨j,hj,rfl⟩:=W0k hx;exact hn j hj
 simp[fstOf,this]
def Z9T {α:Type} (p:α->Bool) (l:List α):decide (0<=fstOf p l)=l.any p:=by
 unfold fstOf
 cases h:l.findIdx? p with
 | none =>
   have h2:=W1A.1 h;have:l.any p=false:=(by rw[<- Bool.not_eq_true,W14];rintro ⟨x,hx,hp⟩;rw[h2 x hx]at hp;cases hp);simp[this]
 | some i =>
   obtain ⟨h1,h2,-⟩:=W1w.1 h;have:l.any p=true:=W14.2 ⟨l[i],W0e h1,h2⟩;simp[this]
def Z9U (g:Nat) (caps:List AV) (p:Int->Bool) (l:List Int) (hc:caps.all AV.pure=true) (hl:Sml l)
  (hg:∀ x∈l,PC prog G g (.int .i64 x::caps) (.bool (p x))) :
  PC prog G 89 [.vsl (l.map ia),.func (.func g) [] caps] (.int .i64 (fstOf p l)):=by
 (refine Z6M rfl λR hG hrd=>Qga ?_;subst hG)
 unfold Sml at hl;have hc2:∀ x∈caps,x.pure=true:=W03.1 hc;simp -implicitDefEqProofs[Z6K,Z6L];refine Z91 (λi=>⟨[(8,.int .i64 i),(7,.int .i64 l.length),(0,.vsl (l.map ia)),(1,.func (.func g) [] caps)],[]⟩) (λi=>∀ j (h:j<l.length),j<i->p l[j]=false) l.length (by (first|exact Wka|exact Wkb)) (by simp) ?_ ?_
 . intro i hi he;refine Qga ?_;have w1:i64.wrap ((i:Int)+1)=((i+1:Nat):Int):=Yf;simp -implicitDefEqProofs[hi,ia];refine Yd.of (hg _ (W0e hi)) (by simpa [AV.pure] using hc2) ?_
   cases h3:p l[i]
   . simp -implicitDefEqProofs[w1];refine ⟨(by (first|exact Wka|exact Wkb)),λj q1 q2=>?_⟩;by_cases e:j=i
     . subst e;exact h3
     . exact he j q1 (by omega)
   . simp -implicitDefEqProofs;refine Qgr ?_;simp -implicitDefEqProofs[Z9R hi h3 he]
 . intro he;refine Qga ?_;simp -implicitDefEqProofs;refine Qgr ?_;simp -implicitDefEqProofs[Z9S (p:=p) (l:=l) (λj hj=>he j hj hj)]
def Z9V (g:Nat) (caps:List AV) (p:Int->Bool) (l:List Int) (hc:caps.all AV.pure=true) (hl:Sml l)
  (hg:∀ x∈l,PC prog G g (.int .i64 x::caps) (.bool (p x))) :
  PC prog G 72 [.vsl (l.map ia),.func (.func g) [] caps] (.bool (l.any p)):=by
 (refine Z6J rfl λR hG hrd=>Qga ?_;subst hG)
 simp -implicitDefEqProofs[Z6H,Z6I];have hc2:∀ x∈caps,x.pure=true:=W03.1 hc;refine Yd.of (Z9U g caps p l hc hl hg) (by simpa [AV.pure] using hc2) ?_;have e:=Z9T p l;simp -implicitDefEqProofs[e]
def Z9W (g:Nat) (caps:List AV) (p:(Int×Int)->Bool) (l:List (Int×Int)) (hc:caps.all AV.pure=true) (hl:Sml l)
  (hg:∀ x∈l,PC prog G g (.agg [.int .i64 x.1,.int .i64 x.2]::caps) (.bool (p x))) :
  PC prog G 91 [.vsl (l.map ita),.func (.func g) [] caps] (.int .i64 (fstOf p l)):=by
 (refine Z7p rfl λR hG hrd=>Qga ?_;subst hG)
 unfold Sml at hl;have hc2:∀ x∈caps,x.pure=true:=W03.1 hc;simp -implicitDefEqProofs[Z7n,Z7o];refine Z91 (λi=>⟨[(8,.int .i64 i),(7,.int .i64 l.length),(0,.vsl (l.map ita)),(1,.func (.func g) [] caps)],[]⟩) (λi=>∀ j (h:j<l.length),j<i->p l[j]=false) l.length (by (first|exact Wka|exact Wkb)) (by simp) ?_ ?_
 . intro i hi he;refine Qga ?_;have w1:i64.wrap ((i:Int)+1)=((i+1:Nat):Int):=Yf;simp -implicitDefEqProofs[hi,ita];refine Yd.of (hg _ (W0e hi)) (by simpa [AV.pure] using hc2) ?_
   cases h3:p l[i]
   . simp -implicitDefEqProofs[w1];refine ⟨(by (first|exact Wka|exact Wkb)),λj q1 q2=>?_⟩;by_cases e:j=i
     . subst e;exact h3
     . exact he j q1 (by omega)
   . simp -implicitDefEqProofs;refine Qgr ?_;simp -implicitDefEqProofs[Z9R hi h3 he]
 . intro he;refine Qga ?_;simp -implicitDefEqProofs;refine Qgr ?_;simp -implicitDefEqProofs[Z9S (p:=p) (l:=l) (λj hj=>he j hj hj)]
def Z9X (g:Nat) (caps:List AV) (p:(Int×Int)->Bool) (l:List (Int×Int)) (hc:caps.all AV.pure=true) (hl:Sml l)
  (hg:∀ x∈l,PC prog G g (.agg [.int .i64 x.1,.int .i64 x.2]::caps) (.bool (p x))) :
  PC prog G 75 [.vsl (l.map ita),.func (.func g) [] caps] (.bool (l.any p)):=by
 (refine Z7m rfl λR hG hrd=>Qga ?_;subst hG)
 simp -implicitDefEqProofs[Z7k,Z7l];have hc2:∀ x∈caps,x.pure=true:=W03.1 hc;refine Yd.of (Z9W g caps p l hc hl hg) (by simpa [AV.pure] using hc2) ?_;have e:=Z9T p l;simp -implicitDefEqProofs[e]
def Z9Y (g:Nat) (caps:List AV) (p:Dm->Bool) (l:List Dm) (hc:caps.all AV.pure=true) (hl:Sml l)
  (hg:∀ x∈l,PC prog G g (.agg [.int .i64 x.n,.int .i64 x.l,.int .i64 x.u]::caps) (.bool (p x))) :
  PC prog G 128 [.vsl (l.map dma),.func (.func g) [] caps] (.int .i64 (fstOf p l)):=by
 (refine Z7j rfl λR hG hrd=>Qga ?_;subst hG)
 unfold Sml at hl;have hc2:∀ x∈caps,x.pure=true:=W03.1 hc;simp -implicitDefEqProofs[Z7h,Z7i];refine Z91 (λi=>⟨[(8,.int .i64 i),(7,.int .i64 l.length),(0,.vsl (l.map dma)),(1,.func (.func g) [] caps)],[]⟩) (λi=>∀ j (h:j<l.length),j<i->p l[j]=false) l.length (by (first|exact Wka|exact Wkb)) (by simp) ?_ ?_
 . intro i hi he;refine Qga ?_;have w1:i64.wrap ((i:Int)+1)=((i+1:Nat):Int):=Yf;simp -implicitDefEqProofs[hi,dma];refine Yd.of (hg _ (W0e hi)) (by simpa [AV.pure] using hc2) ?_
   cases h3:p l[i]
   . simp -implicitDefEqProofs[w1];refine ⟨(by (first|exact Wka|exact Wkb)),λj q1 q2=>?_⟩;by_cases e:j=i
     . subst e;exact h3
     . exact he j q1 (by omega)
   . simp -implicitDefEqProofs;refine Qgr ?_;simp -implicitDefEqProofs[Z9R hi h3 he]
 . intro he;refine Qga ?_;simp -implicitDefEqProofs;refine Qgr ?_;simp -implicitDefEqProofs[Z9S (p:=p) (l:=l) (λj hj=>he j hj hj)]
def Z9Z (g:Nat) (caps:List AV) (p:Dm->Bool) (l:List Dm) (hc:caps.all AV.pure=true) (hl:Sml l)
  (hg:∀ x∈l,PC prog G g (.agg [.int .i64 x.n,.int .i64 x.l,.int .i64 x.u]::caps) (.bool (p x))) :
  PC prog G 126 [.vsl (l.map dma),.func (.func g) [] caps] (.bool (l.any p)):=by
 (refine Z7g rfl λR hG hrd=>Qga ?_;subst hG)
 simp -implicitDefEqProofs[Z7e,Z7f];have hc2:∀ x∈caps,x.pure=true:=W03.1 hc;refine Yd.of (Z9Y g caps p l hc hl hg) (by simpa [AV.pure] using hc2) ?_;have e:=Z9T p l;simp -implicitDefEqProofs[e]
def Za0 (n lo hi:Int):PC prog G 73 [.int .i64 n,.vptr [.int .i64 lo] 0,.vptr [.int .i64 hi] 0] (.bool (!inR n lo hi)):=by
 (refine Z6G rfl λR hG hrd=>Qga ?_;subst hG)
 by_cases h1:n<lo
 . have h2:¬lo<=n:=(by omega);simp -implicitDefEqProofs[Z6E,Z6F,h1,h2,inR]
 . have h2:lo<=n:=(by omega);by_cases h3:hi<n
   . have h4:¬n<=hi:=(by omega);simp -implicitDefEqProofs[Z6E,Z6F,h1,h2,h3,h4,inR]
   . have h4:n<=hi:=(by omega);simp -implicitDefEqProofs[Z6E,Z6F,h1,h2,h3,h4,inR]
def Za1 (n lo hi:Int):PC prog G 90 [.int .i64 n,.vptr [.int .i64 lo] 0,.vptr [.int .i64 hi] 0] (.bool (!inR n lo hi)):=by
 (refine Z6V rfl λR hG hrd=>Qga ?_;subst hG)
 by_cases h1:n<lo
 . have h2:¬lo<=n:=(by omega);simp -implicitDefEqProofs[Z6T,Z6U,h1,h2,inR]
 . have h2:lo<=n:=(by omega);by_cases h3:hi<n
   . have h4:¬n<=hi:=(by omega);simp -implicitDefEqProofs[Z6T,Z6U,h1,h2,h3,h4,inR]
   . have h4:n<=hi:=(by omega);simp -implicitDefEqProofs[Z6T,Z6U,h1,h2,h3,h4,inR]
def Za2 (lo hi:Int) (l:List Int) (hl:Sml l):PC prog G 52 [.int .i64 lo,.int .i64 hi,.vsl (l.map ia)] (.bool (l.all λn=>inR n lo hi)):=by
 (refine Z6D rfl λR hG hrd=>Qga ?_;subst hG)
 simp -implicitDefEqProofs[Z6B,Z6C]
 (first|refine Yd.flat (Z9V 73 [.vptr [.int .i64 lo] 0,.vptr [.int .i64 hi] 0] (λn=>!inR n lo hi) l (by simp[AV.pure]) hl (λn _=>Za0 n lo hi)) (by simp[AV.flat]) (by simp) ?_|refine Ye.flat (Z9V 73 [.vptr [.int .i64 lo] 0,.vptr [.int .i64 hi] 0] (λn=>!inR n lo hi) l (by simp[AV.pure]) hl (λn _=>Za0 n lo hi)) (by simp[AV.flat]) (by simp) ?_)
 have e:(!l.any λn=>!inR n lo hi)=l.all λn=>inR n lo hi:=by simp[W25]
 simp -implicitDefEqProofs[e]
def Za3 (lo hi:Int) (n:Int):PC prog G 74 [.int .i64 lo,.int .i64 hi,.vsl [[.int .i64 n]]] (.bool (inR n lo hi)):=by
 (refine Z6S rfl λR hG hrd=>Qga ?_;subst hG)
 simp -implicitDefEqProofs[Z6Q,Z6R];refine Yd.flat (Z9V 90 [.vptr [.int .i64 lo] 0,.vptr [.int .i64 hi] 0] (λn=>!inR n lo hi) [n] (by simp[AV.pure]) (by simp[Sml]) (λn _=>Za1 n lo hi)) (by simp[AV.flat]) (by simp[ia]) ?_;simp -implicitDefEqProofs
def Za4 (d:Dm):PC prog G 16 [.agg [.int .i64 d.n,.int .i64 d.l,.int .i64 d.u]] (.int .i64 (if vd d=true then 0 else 10)):=by
 (refine Z6P rfl λR hG hrd=>Qga ?_;subst hG)
 simp -implicitDefEqProofs[Z6N,Z6O];refine Qco (Za2 0 1000000000 [d.n,d.l,d.u] (by simp[Sml])) ?_
 cases h1:[d.n,d.l,d.u].all λn=>inR n 0 1000000000
 . have e:vd d=false:=by
    refine W0S λh=>?_
    have:([d.n,d.l,d.u].all λn=>inR n 0 1000000000)=true:=by
     simp[inR];omega
    rw[this]at h1;cases h1
   simp -implicitDefEqProofs[e]
 . have h2:(0<=d.n/\d.n<=1000000000)/\(0<=d.l/\d.l<=1000000000)/\0<=d.u/\d.u<=1000000000:=by
    simpa [inR] using h1
   by_cases h3:d.u<d.l
   . have e:vd d=false:=W0S (by omega);simp -implicitDefEqProofs[e,h3]
   . have e:vd d=true:=W0M (by omega);simp -implicitDefEqProofs[e,h3]
def Za5 (x:Iss):PC prog G 43 [.agg (isa x)] (.agg [.int .i64 x.d,.int .i64 x.l]):=by
 (refine Z6Y rfl λR hG hrd=>Qga ?_;subst hG)
 simp -implicitDefEqProofs[Z6W,Z6X,isa]
def ck1 (x:Iss):Bool:=inR x.d 1 9999&&inR x.l 1 8
def ck2 (x:Iss):Bool:=if x.k=1 then inR x.its.length 1 8&&decide (x.dms.length=0) else inR x.k 2 3&&decide (x.dms.length<=4)&&decide (x.its.length=0)
def ck3 (x:Iss):Bool:=(List.range x.its.length).all (itOk x)
def ck4 (x:Iss):Bool:=x.dms.all vd
def Za6 (x:Iss):issB x=(ck1 x&&ck2 x&&ck3 x&&ck4 x):=by
 have e:headB x=(ck1 x&&ck2 x):=by
  unfold headB ck1 ck2;by_cases c1:x.k=1
  . have:inR x.k 1 3=true:=W0M (by omega);simp only[c1,if_true];rw[c1]at this;rw[this];simp
  . have:inR x.k 1 3=inR x.k 2 3:=decide_eq_decide.2 (by omega);simp only[c1,if_false,this,Bool.and_assoc]
 simp only[issB,e,ck3,ck4]
def Za7 (x:Iss):PC prog G 122 [.agg (isa x)] (.bool (ck1 x)):=by
 (refine Z71 rfl λR hG hrd=>Qga ?_;subst hG)
 simp -implicitDefEqProofs[Z6Z,Z70,isa];refine Qco (Za3 _ _ _) ?_
 cases q1:inR x.d 1 9999
 . simp -implicitDefEqProofs[ck1,q1]
 . simp -implicitDefEqProofs;refine Qco (Za3 _ _ _) ?_;simp -implicitDefEqProofs[ck1,q1]
def Za8 (x:Iss) (hk:0<=x.k/\x.k<=255):PC prog G 123 [.agg (isa x)] (.bool (ck2 x)):=by
 (refine Z74 rfl λR hG hrd=>Qga ?_;subst hG)
 have wk:i64.wrap x.k=x.k:=Yf;by_cases c1:x.k=1
 . simp -implicitDefEqProofs[Z72,Z73,isa,c1];refine Qco (Za3 _ _ _) ?_
   cases q1:inR x.its.length 1 8
   . simp -implicitDefEqProofs[ck2,c1,q1]
   . by_cases q2:x.dms.length=0 <;> simp -implicitDefEqProofs[ck2,c1,q1,q2]
 . simp -implicitDefEqProofs[Z72,Z73,isa,c1,wk];refine Qco (Za3 _ _ _) ?_
   cases q1:inR x.k 2 3
   . simp -implicitDefEqProofs[ck2,c1,q1]
   by_cases q2:x.dms.length<=4
   . have q2i:(x.dms.length:Int)<=4:=(by omega);by_cases q3:x.its.length=0 <;> simp -implicitDefEqProofs[ck2,c1,q1,q2,q2i,q3]
   . have q2i:¬(x.dms.length:Int)<=4:=(by omega);simp -implicitDefEqProofs[ck2,c1,q1,q2,q2i]
def Za9 (x:Iss) (h1:Sml x.its):PC prog G 124 [.agg (isa x)] (.bool (ck3 x)):=by
 (refine Z77 rfl λR hG hrd=>Qga ?_;subst hG)
 unfold Sml at h1;simp -implicitDefEqProofs[Z75,Z76,isa];refine Z91 (λi=>⟨[(8,.int .i64 i),(7,.int .i64 x.its.length),(6,.vsl (x.its.map ita)),(1,.ptr 1 0)],[(1,.box (isa x))]⟩) (λi=>∀ j,j<i->itOk x j=true) x.its.length (by (first|exact Ym.tm (by simp[lk,isa])|exact Ym.sub (by simp[lk,Ya,AV.keys,isa]) (by simp[lk,Yc,Ya,AV.keys,isa]))) (by simp) ?_ ?_
 . intro i hi he;refine Qga ?_;have w1:i64.wrap ((i:Int)+1)=((i+1:Nat):Int):=Yf;have a1:itAt x i=x.its[i]:=by simp[itAt,List.getD,hi]
   have no:itOk x i=false->ck3 x=false:=λe=>by
    cases hI:ck3 x
    . rfl
    . rw[Z9l.1 hI i hi]at e;cases e
   simp -implicitDefEqProofs[hi,isa,ita];refine Qco (Za3 _ _ _) ?_
   cases p1:inR x.its[i].1 1 9999
   . simp -implicitDefEqProofs;refine ⟨rfl,?_⟩;refine Qgr ?_;simp -implicitDefEqProofs[no (by simp[itOk,a1,p1])]
   simp -implicitDefEqProofs;refine Qco (Za3 _ _ _) ?_
   cases p2:inR x.its[i].2 1 20
   . simp -implicitDefEqProofs;refine ⟨rfl,?_⟩;refine Qgr ?_;simp -implicitDefEqProofs[no (by simp[itOk,a1,p2])]
   by_cases p3:x.its[i].1=x.d
   . simp -implicitDefEqProofs[p3];refine ⟨rfl,?_⟩;refine Qgr ?_;simp -implicitDefEqProofs[no (by simp[itOk,a1,p3])]
   cases i with
   | zero =>
     have ok:itOk x 0=true:=(by simp[itOk,a1,p1,p2,p3]);have w0:i64.wrap 1=1:=rfl;simp -implicitDefEqProofs[p3,w0];exact ⟨rfl,(by (first|exact Ym.tm (by simp[lk,isa])|exact Ym.sub (by simp[lk,Ya,AV.keys,isa]) (by simp[lk,Yc,Ya,AV.keys,isa]))),ok⟩
   | succ i =>
     have w2:i64.wrap (i:Int)=(i:Int):=Yf;have w3:i64.wrap ((i:Int)+1+1)=(i:Int)+1+1:=Yf;have k3:(0:Int)<(i:Int)+1:=(by omega);have hi2:i<x.its.length:=(by omega);have a2:itAt x i=x.its[i]:=(by simp[itAt,List.getD,hi2]);by_cases p4:x.its[i+1].1<=x.its[i].1
     . simp -implicitDefEqProofs[p3,k3,w2,hi2,ita,p4];refine ⟨rfl,?_⟩;refine Qgr ?_;simp -implicitDefEqProofs[no (by simp[itOk,a1,a2,p4])]
     . have ok:itOk x (i+1)=true:=(by simp[itOk,a1,a2,p1,p2,p3];omega);simp -implicitDefEqProofs[p3,k3,w2,w3,hi2,ita,p4];refine ⟨rfl,(by (first|exact Ym.tm (by simp[lk,isa])|exact Ym.sub (by simp[lk,Ya,AV.keys,isa]) (by simp[lk,Yc,Ya,AV.keys,isa]))),λj hj=>?_⟩;by_cases e:j=i+1
       . subst e;exact ok
       . exact he j (by omega)
 . intro he;refine Qga ?_;have hI:ck3 x=true:=Z9l.2 he;simp -implicitDefEqProofs;refine Qgr ?_;simp -implicitDefEqProofs[hI]
def Zaa (d:Dm):PC prog G 127 [.agg [.int .i64 d.n,.int .i64 d.l,.int .i64 d.u]] (.bool (!vd d)):=by
 (refine Z7d rfl λR hG hrd=>Qga ?_;subst hG)
 simp -implicitDefEqProofs[Z7b,Z7c];refine Qco (Za4 d) ?_
 cases q:vd d <;> simp -implicitDefEqProofs
def Zab (x:Iss) (h2:Sml x.dms):PC prog G 125 [.agg (isa x)] (.bool (ck4 x)):=by
 (refine Z7a rfl λR hG hrd=>Qga ?_;subst hG)
 simp -implicitDefEqProofs[Z78,Z79,isa];refine Qco (Z9Z 127 [] (λd=>!vd d) x.dms rfl h2 (λd _=>Zaa d)) ?_;have e:(!x.dms.any λd=>!vd d)=ck4 x:=(by simp[ck4,W25]);simp -implicitDefEqProofs[e]
def lowB (l:List Int) (n:Int):Nat:=l.countP (λx=>decide (x<n))
def Zac (l:List Int) (n:Int):lowB l n<=l.length:=List.countP_le_length
def Zad {l:List Int} (hs:l.Pairwise (· <= ·)) (n:Int):∀ (i:Nat) (hi:i<l.length),i<lowB l n↔l[i]<n:=by
 induction l with
 |nil=>intro i hi;simp at hi
 | cons x l ih =>
   obtain ⟨h1,h2⟩:=W1j.1 hs;intro i hi;by_cases hx:x<n
   . have e:lowB (x::l) n=lowB l n+1:=(by simp[lowB,W20,hx]);rw[e]
     cases i with
     |zero=>simp[hx]
     | succ i =>
       have:=ih h2 i (by simpa using hi);simp only[List.getElem_cons_succ];rw[<- this];omega
   . have z:lowB l n=0:=by
      unfold lowB;rw[List.countP_eq_zero];intro y hy;have:=h1 y hy;simp;omega
     have e:lowB (x::l) n=0:=by
      have:lowB (x::l) n=lowB l n:=(by simp[lowB,W20,hx]);omega
     rw[e]
     have hge:∀ (i:Nat) (hi:i<(x::l).length),x<=(x::l)[i]:=λi hi=>by
      cases i with
      |zero=>exact W1R _
      |succ i=>exact h1 _ (W0e _)
     have:=hge i hi
     constructor
     . intro h;omega
     . intro h;omega
def Zae {l:List Int} (hs:l.Pairwise (· < ·)):l.Pairwise (· <= ·):=hs.imp λh=>Int.le_of_lt h
def Zaf {l:List Int} (hs:l.Pairwise (· <= ·)) (n:Int):n∈l↔l[lowB l n]? = some n:=by
 constructor
 . intro hm;obtain ⟨j,hj,he⟩:=W0k hm;have h1:¬j<lowB l n:=λh=>by have:=(Zad hs n j hj).1 h;omega
   have h2:lowB l n<l.length:=(by omega);rw[W07 h2];have h3:¬l[lowB l n]<n:=λh=>by have:=(Zad hs n _ h2).2 h;omega
   have h4:l[lowB l n]<=l[j]:=by
    by_cases e:lowB l n=j
    . simp[e]
    . exact W0Y.1 hs _ _ h2 hj (by omega)
   congr 1;omega
 . intro h;exact W0d h
def Zag {i j:Nat} (h:i+j<=33554432):i64.wrap ((IntKind.u64.wrap (i64.wrap ((i:Int)+j))).fdiv (2 ^ (min 1 IntKind.u64.bits)))=(((i+j) / 2:Nat):Int):=by
 show i64.wrap ((IntKind.u64.wrap (i64.wrap ((i:Int)+j))).fdiv (2 ^ (min 1 64)))=(((i+j) / 2:Nat):Int);have e1:i64.wrap ((i:Int)+j)=((i+j:Nat):Int):=by rw[Yf (by omega) (by omega)];omega
 have e2:IntKind.u64.wrap (((i+j:Nat):Int))=((i+j:Nat):Int):=by
  have:=IntWalk.u64_in (((i+j:Nat):Int)) ⟨by omega,by omega⟩;exact this
 rw[e1,e2]
 have e3:(((i+j:Nat):Int)).fdiv (2 ^ (min 1 64))=(((i+j) / 2:Nat):Int):=by
  rw[Int.fdiv_eq_ediv_of_nonneg _ (by decide)];simp
 rw[e3,Yf (by omega) (by omega)]
def Zah (n:Int):PC prog G 102 [.int .i64 n] (.bool false):=by
 (refine Z7E rfl λR hG hrd=>Qga ?_;subst hG)
 simp -implicitDefEqProofs[Z7C,Z7D]
def Zai (n:Int):PC prog G 101 [.int .i64 n] (.bool false):=by
 (refine Z7H rfl λR hG hrd=>Qga ?_;subst hG)
 simp -implicitDefEqProofs[Z7F,Z7G]
def Zaj (a b:Int):PC prog G 100 [.int .i64 a,.int .i64 b] (.bool (decide (a<b))):=by
 (refine Z7B rfl λR hG hrd=>Qga ?_;subst hG)
 by_cases h:a<b
 . simp -implicitDefEqProofs[Z7z,Z7A,h]
   try refine Qco (Zah a) ?_
   try simp -implicitDefEqProofs[h]
 . simp -implicitDefEqProofs[Z7z,Z7A,h]
   try refine Qco (Zah a) ?_
   try simp -implicitDefEqProofs[h]
def Zak (l:List Int) (n:Int) (hs:l.Pairwise (· <= ·)) (hl:Sml l):PC prog G 92 [.vsl (l.map ia),.int .i64 n] (.tup [.int .i64 (lowB l n),.bool (decide (n∈l))]):=by
 (refine Z7y rfl λR hG hrd=>Qga ?_;subst hG)
 unfold Sml at hl;have hle:=Zac l n;simp -implicitDefEqProofs[Z7w,Z7x];refine Z1Q (λp:Nat×Nat=>⟨[(8,.int .i64 p.2),(7,.int .i64 p.1),(6,.int .i64 l.length),(0,.vsl (l.map ia)),(1,.int .i64 n)],[]⟩) (λp=>p.1<=lowB l n/\lowB l n<=p.2/\p.2<=l.length) (λp=>p.2-p.1) (0,l.length) (by (first|exact Wka|exact Wkb)) ⟨by omega,hle,W0f _⟩ ?_;rintro ⟨lo,hi⟩ ⟨h1,h2,h3⟩;simp only at h1 h2 h3;refine Qga ?_;by_cases h4:lo<hi
 . obtain ⟨m,hm⟩:=Qex ((lo+hi) / 2);have hw:=Zag (i:=lo) (j:=hi) (by omega);rw[<- hm]at hw;have m1:m<l.length:=(by omega);have w1:i64.wrap ((m:Int)+1)=((m+1:Nat):Int):=Yf;have hb:=Zad hs n m m1;by_cases h5:l[m]<n
   . simp -implicitDefEqProofs[h4,hw,m1,ia];refine Qco (Zaj _ _) ?_;simp -implicitDefEqProofs[h5,w1];exact ⟨(m+1,hi),(by (first|exact Wka|exact Wkb)),⟨by have:=hb.2 h5;show m+1<=_;omega,h2,h3⟩,by show hi-(m+1)<hi-lo;omega⟩
   . simp -implicitDefEqProofs[h4,hw,m1,ia];refine Qco (Zaj _ _) ?_;simp -implicitDefEqProofs[h5];exact ⟨(lo,m),(by (first|exact Wka|exact Wkb)),⟨h1,by have:¬m<lowB l n:=λh=>h5 (hb.1 h);show lowB l n<=m;omega,by show m<=_;omega⟩,by show m-lo<hi-lo;omega⟩
 . obtain rfl:lo=lowB l n:=(by omega);have hmem:=Zaf hs n;by_cases h5:lowB l n<l.length
   . by_cases h6:l[lowB l n]=n
     . have e:n∈l:=hmem.2 (by rw[W07 h5,h6]);simp -implicitDefEqProofs[h4];refine Qgr ?_;simp -implicitDefEqProofs[h5,ia,h6,e]
     . have e:¬n∈l:=λh=>h6 (by have:=hmem.1 h;rw[W07 h5]at this;exact W1G this)
       simp -implicitDefEqProofs[h4];refine Qgr ?_;simp -implicitDefEqProofs[h5,ia,h6];refine Qco (Zai _) ?_;simp -implicitDefEqProofs[e]
   . have e:¬n∈l:=λh=>by have:=hmem.1 h;rw[List.getElem?_eq_none (by omega)]at this;cases this
     simp -implicitDefEqProofs[h4];refine Qgr ?_;simp -implicitDefEqProofs[h5,e]
section
open Qq Tryd
def Zal:RCode :=
 S [R 0 [l 9 1,a [0] (w 10 (.nilck (.t 9))),a [1] (f 11 0 10),a [2] (f 12 0 11),a [3] (l 13 12),l 14 2,a [4,5] (w 15 (.call 94 [.t 13,.t 14,.c (.func (.func 95) [] [])])),a [6] (m 8 15),a [7] (x 16 0 8),a [7] (x 17 1 8),a [8,6,0,1,2,3,4,5,6,7,8] (m 4 16),a [9,10,0,1,2,3,4,5,6,7,8,9,10] (m 5 17)],r 1 [l 18 1,w 19 (.nilck (.t 18)),f 20 0 19,f 21 0 20,l 22 21,m 23 4,w 24 (.slc 5 (.t 22) (some (.t 23)) none),e 25 24,n 26 O],.block 0 (.loop (S [r 2 [o 27 .lss 26 25],.cond (.t 27) .skip (.exit 0),.block 1 (S [r 3 [i 28 5 24 26,L 29 5 28,w 7 (.alloc [O,O,.int .u8 0,.nils,.nils]),s 5 7 29],r 4 [f 30 0 7,l 31 30,l 32 2,o 33 .neq 31 32,m 34 33,g 34 false (m 35 0),g 34 false (L 36 5 7),g 34 false (w 37 (.callv (.t 35) [.t 36])),g 34 false (t 38 37),u 39 34 38],.cond (.t 39) .ret .skip]),r 5 [k 40 .add 26 I,m 26 40]]))]
end
section
variable {P:Program} {N:Nat} {c:Code}
def Zam {a b:RCode} (h:Z1A P N c (.seq a b)=true):∃ c1 c2,c = .seq c1 c2/\Z1A P N c1 a=true/\Z1A P N c2 b=true:=by
 cases c <;> simp only[Z1A,W05,W01]at h
 exact ⟨_,_,rfl,h.1,h.2⟩
def Zan {id:Nat} {a:RCode} (h:Z1A P N c (.block id a)=true):∃ c1,c = .block id c1/\Z1A P N c1 a=true:=by
 cases c <;> simp only[Z1A,W05,W01,W0A]at h
 obtain ⟨rfl,h⟩:=h;exact ⟨_,rfl,h⟩
def Zao {a:RCode} (h:Z1A P N c (.loop a)=true):∃ c1,c = .loop c1/\Z1A P N c1 a=true:=by
 cases c <;> simp only[Z1A,W05]at h
 exact ⟨_,rfl,h⟩
def Zap {id:Nat} {rs:List ROper} (h:Z1A P N c (.reg id false rs)=true):∃ ops,c = .region id ops false/\allB2 (Z1z P N ops) ops.toList rs=true:=by
 cases c <;> simp only[Z1A,W05,W01,W0A]at h
 obtain ⟨⟨⟨rfl,rfl⟩,h⟩,-⟩:=h;exact ⟨_,rfl,h⟩
end
section
variable {P:Program} {R:Run} {rd:Option Nat} {m:Nat} {ops:Array Oper} {Q:Exit->Act->World->Prop}
def Zaq (l2:List Nat):∀ (l:List Nat) (rs':List ROper) (st:St) (K:St->Prop) (a:Act) (W:World),
  (∀ (i:Nat) (r:ROper),rs'[i]? = some r->∃ (j:Nat) (o:Oper),l[i]? = some j/\ops[j]? = some o/\Z1z P R.N ops o r=true)->l.length=rs'.length->(∀ st' a' W',K st'->SR R st' a' W'->wpOpsIn (FW rd) m P ops Q l2 a' W') ->
  RW P R.G rs' st (λe s=>e = .normal/\K s)->SR R st a W->wpOpsIn (FW rd) m P ops Q (l++l2) a W:=by
 intro l
 induction l with
 | nil =>
   intro rs' st K a W hok hl hK hr hs
   cases rs' with
   |nil=>exact hK st a W hr.2 hs
   |cons r rs'=>simp at hl
 | cons j l ih =>
   intro rs' st K a W hok hl hK hr hs
   cases rs' with
   |nil=>simp at hl
   | cons r rs' =>
     obtain ⟨j',o,hj,ho,hk⟩:=hok 0 r rfl;simp at hj;subst hj
     have go:∀ (st':St) (a':Act) (W':World),RW P R.G rs' st' (λe s=>e = .normal/\K s)->SR R st' a' W'->wpOpsIn (FW rd) m P ops Q (l++l2) a' W':=λst' a' W' h2 hs' =>
      ih rs' st' K a' W' (λi r hi=>by simpa using hok (i+1) r (by simpa using hi)) (by simpa using hl) hK h2 hs'
     rw[W1d,wpOpsIn_cons];rcases Z22 hr with ⟨st',h1,h2⟩ | ⟨hw,g,args,hi,hc⟩
     . exact Z26 h1 ho hk hs λa' W' hs'=>go st' a' W' h2 hs'
     . obtain ⟨κ,hκ⟩:=hs;have hk0:=hk;simp only[Z1z,W01,W0b]at hk;obtain ⟨⟨⟨hd,hdn⟩,-⟩,-⟩:=hk;have hdn':∀ n,r.d=some n->n<R.N:=λn e=>by rw[e]at hdn;simpa using hdn
       refine Z25 hi hw ho hk0 hκ λvs ha=>?_
       rcases hc with ⟨v,st1,hc,hn⟩ | ⟨ch,hc,hn⟩
       . obtain ⟨h1,h2⟩:=hc R a W κ vs rfl hκ ha;refine ⟨h1,h2.mono ?_⟩;rintro e W' ⟨u,κ1,rfl,h3,h4⟩;refine go _ _ _ hn ⟨κ1,?_⟩;rw[hd];exact h3.putd hdn' h4
       . exact absurd hn.1 (by simp)
end
def Zar (M:Nat->Prop) (W:World) (N:Nat) (rd:Option Nat):Run :=
 { G:=λ_=>none,M:=M,X:=λ_=>False,W0:=W,N:=N,E0:={ M:=M,loc:=λ_=>none,row:=λ_=>none },rd:=rd,nm:=true }
def TT' (M:Nat->Prop) (W:World) (t:List (Nat×AV)) (a:Act):Prop:=∀ n x,lk t n=some x->PV M W x (a.tmps.getD n Go.undef)
def Zas {M:Nat->Prop} {W:World} {N:Nat} {rd:Option Nat} {t:List (Nat×AV)} {a:Act} (hM:∀ b,M b->b<W.heap.size) (hd:a.defers=[]) (hN:a.tmps.size=N) (ht:TT' M W t a):SR (Zar M W N rd) ⟨t,[]⟩ a W:=by
 have hGM:∀ b,b<W.heap.size->¬M b->¬((⟨t,[]⟩ : St).env M (λ_=>none)).M b/\W.heap[b]? = W.heap[b]?:=λb _ h1=>⟨(by rintro (h2 | ⟨k,s,h2⟩) <;> first|exact h1 h2|cases h2),rfl⟩
 refine ⟨λ_=>none,⟨[],by simp[hd,Zar],.nil,by simp,λ_=>rfl⟩,hN,λn x hx=>.pv ((ht n x hx).mono hGM (W0f _)),(λk o ho=>by simp[St.get,lk]at ho),(λk p hk=>by cases hk),(λk k' b s s' hk=>by cases hk),hM,λ_ _ h=>h,Kp.refl _ _,(λg cs hg=>by cases hg),⟨W0f _,hGM,λk p hk=>(by cases hk),λk sz m hk=>(by cases hk)⟩,λ_ _=>⟨rfl,rfl⟩⟩
def Zat {M:Nat->Prop} {W W':World} {N:Nat} {rd:Option Nat} {st:St} {a:Act} (h:SR (Zar M W N rd) st a W') {t:List (Nat×AV)} (hw:Ym st ⟨t,[]⟩) (hp:∀ q∈t,q.2.pure=true) :
  a.defers=[]/\a.tmps.size=N/\TT' M W' t a/\Ext W W':=by
 obtain ⟨κ,hk⟩:=hw _ _ _ h;obtain ⟨cs,e,-,-,hz⟩:=hk.defers
 have hκ:∀ k,κ k=none:=λk=>by
  cases e:κ k with
  |none=>rfl
  |some p=>obtain ⟨o,ho⟩:=hk.dom k p e;simp[St.get,lk]at ho
 refine ⟨by rw[e,hz rfl];rfl,hk.size,λn x hx=>?_,⟨hk.kp.os,hk.kp.tape,hk.kp.output,hk.kp.size,λi hi=>hk.kp.block i hi (λh=>h)⟩⟩;refine ((hk.tm n x hx).toPV (hp (n,x) (Z4J hx))).mono (λb _ hb=>⟨λh=>hb (.inl h),rfl⟩) (W0f _)
end Go.Proofs.YthlcppdbldkldaaDoor
