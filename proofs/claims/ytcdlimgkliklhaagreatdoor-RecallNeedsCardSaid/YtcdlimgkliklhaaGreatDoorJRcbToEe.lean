/-
  The abstract machine's code of functions of the program, as a program of ours printed it; that it is theirs is proved beside each.
-/
import Derived.Test.YtcdlimgkliklhaaGreatDoorJAmLToAmX
import Derived.Test.YtcdlimgkliklhaaGreatDoorProg
import Derived.IntWalk
set_option linter.all false
set_option linter.unusedSimpArgs false
set_option linter.unusedVariables false
set_option linter.unusedSectionVars false
namespace Go.Proofs.YtcdlimgkliklhaaGreatDoor
open Go.RowKit
open Qq in
def Z5k:RCode :=
 .seq (r 0 [b 3 0,b 5 2,n 6 .nils,n 7 O]) (.seq (r 1 [L 20 4 3,m 21 1,l 22 5,w 23 (.call 69 [.t 20,.t 21,.c I,.t 22,.c .nils]),m 19 23,x 24 0 19,x 25 1 19,m 8 24,m 9 25]) (.seq (.seq (r 2 [m 26 9,k 27 .neq 26 O]) (.cond (.t 27) (.seq (r 3 [m 28 9,n 6 .nils,m 7 28]) .ret) .skip)) (.seq (r 4 [w 29 (.mkmap),w 10 (.alloc [.nilm]),s 1 10 29]) (.seq (.seq (r 5 [m 30 8,m 31 1,c 32 70 [30,31]]) (.block 0 (.rngf (.t 32) [33,34] (r 6 [w 12 (.alloc [O,O,O,O,O,O,.int .u8 0]),s 7 12 34]) (.block 1 (.seq (r 7 [f 35 2 12,l 36 35,l 37 5,o 38 .eql 36 37,m 39 38,g 39 true (f 40 6 12),g 39 true (l 41 40),g 39 true (k 42 .eql 41 (.int .u8 0)),v 43 39 42]) (.cond (.t 43) (r 8 [l 44 10,f 45 3 12,L 46 2 45,z (.mupd (.ag [.i,.i]) (.t 44) (.t 46) (.c (.bool true)))]) .skip)))))) (.seq (r 9 [n 13 .nils]) (.seq (.seq (R 10 [m 47 8,a [0] (w 48 (.nilck (.t 47))),a [1] (f 49 0 48),a [2] (f 50 2 49),a [3] (l 51 50),m 52 8,l 53 5,a [5,6] (c 54 82 [52,53]),a [4,7] (i 55 4 51 54),a [8] (f 56 3 55),a [9] (l 57 56),a [10] (e 58 57),n 59 O]) (.block 2 (.loop (.seq (r 11 [o 60 .lss 59 58]) (.seq (.cond (.t 60) .skip (.exit 2)) (.seq (.block 3 (.seq (r 12 [i 61 1 57 59,l 62 61,m 15 62]) (.seq (r 13 [m 63 8,l 64 5,m 65 15,c 66 80 [63,64,65],e 67 66,n 68 O]) (.block 4 (.loop (.seq (r 14 [o 69 .lss 68 67]) (.seq (.cond (.t 69) .skip (.exit 4)) (.seq (.block 5 (.seq (r 15 [i 70 1 66 68,l 71 70,m 17 71]) (.seq (r 16 [m 72 15,m 73 17,w 74 (.build [O,O] [(0,1,.t 72),(1,1,.t 73)]),w 18 (.alloc [O,O]),s 2 18 74]) (.seq (r 17 [l 75 10,L 76 2 18,w 77 (.look (.ag [.i,.i]) (.bool false) false (.t 75) (.t 76)),t 78 77]) (.cond (.t 78) (r 18 [m 79 13,L 80 2 18,w 81 (.bsl false 2 1 [O,O] [(0,.t 80)]),w 82 (.app 2 16 (.t 79) (.t 81)),m 13 82]) .skip))))) (r 19 [k 83 .add 68 I,m 68 83]))))))))) (r 20 [k 84 .add 59 I,m 59 84]))))))) (.seq (r 21 [m 85 13,m 6 85,n 7 O]) .ret)))))))
def Z5l:List RRes:=[.t 6,.t 7]
theorem Z5m:PCt Tryz.prog 29 Tryz.f29 Z5k Z5l:=pcT Tryz.func29 rfl (by kernel_rfl) (by kernel_rfl) (by kernel_rfl)
open Qq in
def Z5n:RCode :=
 .seq (r 0 [b 3 0,n 6 .nils,n 7 O]) (.seq (.seq (R 1 [L 18 4 3,m 19 1,m 20 2,L 21 4 3,a [3] (c 22 72 [21]),a [0,1,2,4,4] (w 23 (.call 71 [.t 18,.t 19,.c I,.t 20,.t 22])),a [5,5,0,1,2,3,4,5] (m 8 23)]) (.seq (r 2 [m 24 8,k 25 .neq 24 O]) (.cond (.t 25) (.seq (r 3 [m 26 8,n 6 .nils,m 7 26]) .ret) .skip))) (.seq (r 4 [n 9 .nils]) (.seq (R 5 [f 27 2 3,a [0] (l 28 27),L 29 4 3,m 30 2,a [2,3] (c 31 83 [29,30]),a [1,4] (i 32 4 28 31),a [5] (f 33 3 32),a [6] (l 34 33),a [7,4,0,1,2,3,4,5,6,7] (m 10 34)]) (.seq (.seq (r 6 [n 11 O]) (.block 0 (.loop (.seq (.seq (r 7 [m 35 11,m 36 10,e 37 36,o 38 .lss 35 37]) (.cond (.t 38) .skip (.exit 0))) (.seq (.block 1 (.seq (R 9 [L 41 4 3,m 42 2,m 43 10,m 44 11,a [2,3] (i 45 1 43 44),a [4] (l 46 45),a [0,1,5] (c 47 81 [41,42,46]),a [6,6,0,1,2,3,4,5,6] (m 12 47)]) (.seq (r 10 [n 13 O]) (.block 2 (.loop (.seq (.seq (r 11 [m 48 13,m 49 12,e 50 49,o 51 .lss 48 50]) (.cond (.t 51) .skip (.exit 2))) (.seq (.block 3 (.seq (R 13 [m 54 10,m 55 11,a [0,1] (i 56 1 54 55),a [2] (l 57 56),m 58 12,m 59 13,a [4,5] (i 60 1 58 59),a [6] (l 61 60),a [3,7] (w 62 (.build [O,O] [(0,1,.t 57),(1,1,.t 61)])),w 14 (.alloc [O,O]),a [9,8,0,1,2,3,4,5,6,7,8,9] (s 2 14 62)]) (.seq (r 14 [n 15 (.bool false)]) (.seq (.seq (r 15 [n 16 O]) (.block 4 (.loop (.seq (.seq (r 16 [m 63 16,f 64 3 3,l 65 64,e 66 65,o 67 .lss 63 66]) (.cond (.t 67) .skip (.exit 4))) (.seq (.block 5 (.seq (r 18 [f 70 3 3,l 71 70,m 72 16,i 73 7 71 72,L 74 7 73,w 17 (.alloc [O,O,O,O,O,O,.int .u8 0]),s 7 17 74]) (r 19 [m 75 15,m 76 75,g 76 false (f 77 2 17),g 76 false (l 78 77),g 76 false (m 79 2),g 76 false (o 80 .eql 78 79),g 76 false (m 81 80),g 81 true (f 82 3 17),g 81 true (L 83 2 82),g 81 true (L 84 2 14),g 81 true (w 85 (.eqs false [.i,.i] (.t 83) (.t 84))),g 76 false (v 86 81 85),g 76 false (m 87 86),g 87 true (L 88 7 17),g 87 true (m 89 1),g 87 true (c 90 57 [88,89]),g 76 false (v 91 87 90),g 76 false (m 92 91),g 92 true (f 93 6 17),g 92 true (l 94 93),g 92 true (k 95 .eql 94 (.int .u8 0)),g 76 false (v 96 92 95),u 97 76 96,m 15 97]))) (r 17 [m 68 16,k 69 .add 68 I,m 16 69])))))) (.seq (r 20 [m 98 15,t 99 98]) (.cond (.t 99) (r 21 [m 100 9,L 101 2 14,w 102 (.bsl false 2 1 [O,O] [(0,.t 101)]),w 103 (.app 2 16 (.t 100) (.t 102)),m 9 103]) .skip)))))) (r 12 [m 52 13,k 53 .add 52 I,m 13 53])))))))) (r 8 [m 39 11,k 40 .add 39 I,m 11 40])))))) (.seq (r 22 [m 104 9,m 6 104,n 7 O]) .ret)))))
def Z5o:List RRes:=[.t 6,.t 7]
theorem Z5p:PCt Tryz.prog 30 Tryz.f30 Z5n Z5o:=pcT Tryz.func30 rfl (by kernel_rfl) (by kernel_rfl) (by kernel_rfl)
open Qq in
def Z5q:RCode :=
 .seq (r 0 [b 5 0,n 10 (.int .u8 0),n 11 O]) (.seq (r 1 [L 18 4 5,m 19 1,m 20 4,m 21 2,m 22 3,w 23 (.bsl false 1 1 [O] [(0,.t 22)]),c 24 69 [18,19,20,21,23],m 17 24,x 25 0 17,x 26 1 17,m 12 25,m 13 26]) (.seq (.seq (r 2 [m 27 13,k 28 .neq 27 O]) (.cond (.t 28) (.seq (r 3 [m 29 13,n 10 (.int .u8 0),m 11 29]) .ret) .skip)) (.seq (r 4 [m 30 12,m 31 1,m 32 2,m 33 3,c 34 74 [30,31,32,33],m 14 34]) (.seq (r 5 [f 36 0 5,L 37 2 36,m 38 3,m 39 4,c 40 61 [37,38,39],m 35 40,x 41 0 35,x 42 1 35,w 15 (.alloc [.nils]),s 1 15 41,m 16 42]) (.seq (.block 0 (.seq (r 6 [m 44 14,e 45 44,k 46 .eql 45 I,m 47 46,g 47 true (m 48 14),g 47 true (l 49 15),g 47 true (c 50 84 [48,49]),v 51 47 50,m 43 51]) (.cond (.t 43) (.seq (r 7 [n 10 (.int .u8 0),n 11 O]) .ret) (.seq (r 8 [m 53 14,w 54 (.mkf (.func 86) [] [.t 15]),c 55 85 [53,54],t 56 55,m 52 56]) (.cond (.t 52) (.seq (r 9 [n 10 (.int .u8 2),n 11 O]) .ret) .skip))))) (.seq (r 10 [n 10 (.int .u8 1),n 11 O]) .ret))))))
def Z5r:List RRes:=[.t 10,.t 11]
theorem Z5s:PCt Tryz.prog 31 Tryz.f31 Z5q Z5r:=pcT Tryz.func31 rfl (by kernel_rfl) (by kernel_rfl) (by kernel_rfl)
open Qq in
def Z5t:RCode :=
 .seq (r 0 [n 3 (.bool false)]) (.seq (r 1 [l 4 1,m 5 0,c 6 87 [4,5],m 3 6]) .ret)
def Z5u:List RRes:=[.t 3]
theorem Z5v:PCt Tryz.prog 86 Tryz.f86 Z5t Z5u:=pcT Tryz.func86 rfl (by kernel_rfl) (by kernel_rfl) (by kernel_rfl)
open Qq in
def Z5w:RCode :=
 .seq (r 0 [b 5 0,n 10 (.int .u8 0),n 11 O]) (.seq (.seq (r 1 [L 20 4 5,m 21 1,m 22 4,m 23 2,m 24 3,c 25 71 [20,21,22,23,24],m 12 25]) (.seq (r 2 [m 26 12,k 27 .neq 26 O]) (.cond (.t 27) (.seq (r 3 [m 28 12,n 10 (.int .u8 0),m 11 28]) .ret) .skip))) (.seq (r 4 [L 29 4 5,m 30 1,m 31 2,m 32 3,c 33 75 [29,30,31,32],m 13 33]) (.seq (r 5 [f 35 0 5,L 36 2 35,m 37 3,m 38 4,c 39 88 [36,37,38],m 34 39,x 40 0 34,x 41 1 34,m 14 40,m 15 41]) (.seq (r 6 [n 16 (.bool false),n 17 (.bool false)]) (.seq (.seq (r 7 [n 18 O]) (.block 0 (.loop (.seq (.seq (r 8 [m 42 18,m 43 13,e 44 43,o 45 .lss 42 44]) (.cond (.t 45) .skip (.exit 0))) (.seq (.block 1 (.seq (r 10 [n 19 O]) (.block 2 (.loop (.seq (.seq (r 11 [m 48 19,m 49 14,e 50 49,o 51 .lss 48 50]) (.cond (.t 51) .skip (.exit 2))) (.seq (.block 3 (R 13 [m 54 16,a [0] (m 55 54),a [1] (g 55 false (m 56 13)),a [1] (g 55 false (m 57 18)),a [2,3,1] (g 55 false (i 58 1 56 57)),a [4,1] (g 55 false (l 59 58)),a [1] (g 55 false (m 60 14)),a [1] (g 55 false (m 61 19)),a [6,7,1] (g 55 false (i 62 1 60 61)),a [8,1] (g 55 false (l 63 62)),a [5,9,1] (g 55 false (o 64 .eql 59 63)),a [1,10] (u 65 55 64),m 66 17,a [12,1] (m 67 66),a [13] (g 67 false (m 68 13)),a [13] (g 67 false (m 69 18)),a [14,15,13] (g 67 false (i 70 1 68 69)),a [16,13] (g 67 false (l 71 70)),a [13] (g 67 false (m 72 14)),a [13] (g 67 false (m 73 19)),a [18,19,13] (g 67 false (i 74 1 72 73)),a [20,13] (g 67 false (l 75 74)),a [17,21,13] (g 67 false (o 76 .neq 71 75)),a [13,22] (u 77 67 76),a [11,13,0,1,2,3,4,5,6,7,8,9,10,11] (m 16 65),a [23,24,0,1,2,3,4,5,6,7,8,9,10,11,12,13,14,15,16,17,18,19,20,21,22,23,24] (m 17 77)])) (r 12 [m 52 19,k 53 .add 52 I,m 19 53]))))))) (r 9 [m 46 18,k 47 .add 46 I,m 18 47])))))) (.seq (.block 4 (.seq (r 14 [m 79 17,t 80 79,m 78 80]) (.cond (.t 78) (.seq (r 15 [n 10 (.int .u8 0),n 11 O]) .ret) (.seq (r 16 [m 82 16,t 83 82,m 81 83]) (.cond (.t 81) (.seq (r 17 [n 10 (.int .u8 2),n 11 O]) .ret) .skip))))) (.seq (r 18 [n 10 (.int .u8 1),n 11 O]) .ret)))))))
def Z5x:List RRes:=[.t 10,.t 11]
theorem Z5y:PCt Tryz.prog 32 Tryz.f32 Z5w Z5x:=pcT Tryz.func32 rfl (by kernel_rfl) (by kernel_rfl) (by kernel_rfl)
open Qq in
def Z5z:RCode :=
 .seq (r 0 [n 4 (.bool false)]) (.seq (.seq (r 1 [m 6 0,e 7 6,m 8 1,e 9 8,o 10 .neq 7 9]) (.cond (.t 10) (.seq (r 2 [n 4 (.bool false)]) .ret) .skip)) (.seq (.seq (r 3 [m 11 0,e 12 11,n 13 O]) (.block 0 (.loop (.seq (r 4 [o 14 .lss 13 12]) (.seq (.cond (.t 14) .skip (.exit 0)) (.seq (.block 1 (.seq (r 5 [m 15 13,m 5 15]) (.seq (R 6 [m 16 0,m 17 5,a [0,1] (i 18 1 16 17),a [2] (l 19 18),m 20 1,m 21 5,a [4,5] (i 22 1 20 21),a [6] (l 23 22),a [3,7] (o 24 .neq 19 23)]) (.cond (.t 24) (.seq (r 7 [n 4 (.bool false)]) .ret) .skip)))) (r 8 [k 25 .add 13 I,m 13 25]))))))) (.seq (r 9 [n 4 (.bool true)]) .ret)))
def Z5A:List RRes:=[.t 4]
theorem Z5B:PCt Tryz.prog 84 Tryz.f84 Z5z Z5A:=pcT Tryz.func84 rfl (by kernel_rfl) (by kernel_rfl) (by kernel_rfl)
open Qq in
def Z5C:RCode :=
 .seq (r 0 [b 5 0,n 10 (.bool false)]) (.seq (.seq (r 1 [L 24 4 5,c 25 17 [24]]) (.cond (.t 25) (.seq (r 2 [n 10 (.bool true)]) .ret) .skip)) (.seq (r 3 [L 26 4 5,c 27 18 [26],w 11 (.alloc [.nils,.nils,.nils,.nils]),s 4 11 27]) (.seq (r 4 [L 29 4 11,m 30 2,m 31 3,c 32 27 [29,30,31],m 28 32,x 33 0 28,x 34 1 28,m 12 33,m 13 34]) (.seq (r 5 [L 36 4 5,m 37 2,m 38 3,c 39 28 [36,37,38],m 35 39,x 40 0 35,x 41 1 35,m 14 40,m 15 41]) (.seq (r 6 [L 43 4 11,m 44 1,m 45 2,c 46 29 [43,44,45],m 42 46,x 47 0 42,x 48 1 42,m 16 47,m 17 48]) (.seq (r 7 [L 50 4 5,m 51 1,m 52 2,c 53 30 [50,51,52],m 49 53,x 54 0 49,x 55 1 49,m 18 54,m 19 55]) (.seq (r 8 [L 57 4 11,m 58 1,m 59 2,m 60 3,m 61 4,c 62 31 [57,58,59,60,61],m 56 62,x 63 0 56,x 64 1 56,m 20 63,m 21 64]) (.seq (r 9 [L 66 4 5,m 67 1,m 68 2,m 69 3,m 70 4,c 71 32 [66,67,68,69,70],m 65 71,x 72 0 65,x 73 1 65,m 22 72,m 23 73]) (.seq (r 10 [m 74 12,m 75 14,c 76 25 [74,75],m 77 76,g 77 true (m 78 13),g 77 true (m 79 15),g 77 true (o 80 .eql 78 79),v 81 77 80,m 82 81,g 82 true (m 83 16),g 82 true (m 84 18),g 82 true (c 85 33 [83,84]),v 86 82 85,m 87 86,g 87 true (m 88 17),g 87 true (m 89 19),g 87 true (o 90 .eql 88 89),v 91 87 90,m 92 91,g 92 true (m 93 20),g 92 true (m 94 22),g 92 true (o 95 .eql 93 94),v 96 92 95,m 97 96,g 97 true (m 98 21),g 97 true (m 99 23),g 97 true (o 100 .eql 98 99),v 101 97 100,m 102 101,g 102 true (L 103 4 11),g 102 true (L 104 4 5),g 102 true (c 105 26 [103,104]),v 106 102 105,m 10 106]) .ret)))))))))
def Z5D:List RRes:=[.t 10]
theorem Z5E:PCt Tryz.prog 4 Tryz.f4 Z5C Z5D:=pcT Tryz.func4 rfl (by kernel_rfl) (by kernel_rfl) (by kernel_rfl)
open Qq in
def Z5F:RCode :=
 .seq (r 0 [b 4 0,n 8 .nilp,n 9 O]) (.seq (r 1 [L 13 2 4,m 14 1,m 15 2,c 16 117 [13,14,15],m 12 16,x 17 0 12,x 18 1 12,m 10 17,m 11 18]) (.seq (.seq (r 2 [m 19 11,k 20 .neq 19 O]) (.cond (.t 20) (.seq (r 3 [m 21 11,n 8 .nilp,m 9 21]) .ret) .skip)) (.seq (.seq (r 4 [m 22 10,w 23 (.nilck (.t 22)),f 24 2 23,l 25 24,m 26 3,c 27 87 [25,26],t 28 27]) (.cond (.t 28) (.seq (r 5 [n 8 .nilp,n 9 (.int .i64 6)]) .ret) .skip)) (.seq (r 6 [m 29 10,m 8 29,n 9 O]) .ret))))
def Z5G:List RRes:=[.t 8,.t 9]
theorem Z5H:PCt Tryz.prog 111 Tryz.f111 Z5F Z5G:=pcT Tryz.func111 rfl (by kernel_rfl) (by kernel_rfl) (by kernel_rfl)
open Qq in
def Z5I:RCode :=
 .seq (r 0 [b 1 0,n 2 .nilf]) (.seq (r 1 [w 3 (.mkf (.func 160) [] [.t 1]),m 2 3]) .ret)
def Z5J:List RRes:=[.t 2]
theorem Z5K:PCt Tryz.prog 112 Tryz.f112 Z5I Z5J:=pcT Tryz.func112 rfl (by kernel_rfl) (by kernel_rfl) (by kernel_rfl)
open Qq in
def Z5L:RCode :=
 .seq (r 0 [l 4 1,w 5 (.nilck (.t 4)),f 6 3 5,l 7 6,e 8 7,w 9 (.vop (.sh true) [(.c I),(.t 8)]),n 10 O]) (.block 0 (.loop (.seq (r 1 [o 11 .lss 10 9]) (.seq (.cond (.t 11) .skip (.exit 0)) (.seq (.block 1 (.seq (r 2 [m 12 10,m 3 12]) (.seq (r 3 [m 13 0,m 14 3,l 15 1,w 16 (.nilck (.t 15)),f 17 3 16,l 18 17,m 19 3,c 20 161 [18,19],w 21 (.callv (.t 13) [.t 14,.t 20]),t 22 21]) (.cond (.t 22) .ret .skip)))) (r 4 [k 23 .add 10 I,m 10 23]))))))
open Qq in
def Z5M:RCode :=
 .seq (r 0 [n 4 .nils]) (.seq (r 1 [n 5 .nils]) (.seq (.seq (r 2 [m 8 0,e 9 8,n 10 O]) (.block 0 (.loop (.seq (r 3 [o 11 .lss 10 9]) (.seq (.cond (.t 11) .skip (.exit 0)) (.seq (.block 1 (.seq (r 4 [m 12 10,i 13 1 8 10,l 14 13,m 6 12,m 7 14]) (.seq (r 5 [m 15 1,m 16 6,w 17 (.vop (.sh false) [(.t 15),(.t 16)]),w 18 (.vop (.bits .and) [(.t 17),(.c I)]),k 19 .eql 18 I]) (.cond (.t 19) (r 6 [m 20 5,m 21 7,w 22 (.bsl false 1 1 [O] [(0,.t 21)]),w 23 (.app 1 8 (.t 20) (.t 22)),m 5 23]) .skip)))) (r 7 [k 24 .add 10 I,m 10 24]))))))) (.seq (r 8 [m 25 5,m 4 25]) .ret)))
def Z5N:List RRes:=[.t 4]
theorem Z5O:PCt Tryz.prog 161 Tryz.f161 Z5M Z5N:=pcT Tryz.func161 rfl (by kernel_rfl) (by kernel_rfl) (by kernel_rfl)
open Qq in
def Z5P:RCode :=
 .seq (r 0 [b 3 0,b 4 1,b 5 2,n 6 .nils,n 7 O]) (.seq (r 1 [L 14 2 3,l 15 5,l 16 4,w 17 (.call 111 [.t 14,.c .nils,.t 15,.t 16]),m 13 17,x 18 0 13,x 19 1 13,w 8 (.alloc [.nilp]),s 1 8 18,m 9 19]) (.seq (.seq (r 2 [m 20 9,k 21 .neq 20 O]) (.cond (.t 21) (.seq (r 3 [m 22 9,n 6 .nils,m 7 22]) .ret) .skip)) (.seq (r 4 [w 10 (.alloc [.nils])]) (.seq (.seq (r 5 [l 23 8,c 24 112 [23]]) (.block 0 (.rngf (.t 24) [25,26] (r 6 [m 12 26]) (.block 1 (R 7 [l 27 10,l 28 8,l 29 8,m 30 12,l 31 5,a [2,3,4] (w 32 (.call 114 [.t 29,.t 30,.c .nils,.t 31])),l 33 4,a [1,5,6,5] (c 34 113 [28,32,33]),a [7] (w 35 (.field false 4 1 (.t 34))),a [8] (w 36 (.bsl false 1 1 [O] [(0,.t 35)])),a [0,9,7] (w 37 (.app 1 8 (.t 27) (.t 36))),a [10,10,0,1,2,3,4,5,6,7,8,9,10] (s 1 10 37)]))))) (.seq (r 8 [l 38 10,c 39 115 [38]]) (.seq (r 9 [l 40 10,c 41 116 [40],m 6 41,n 7 O]) .ret))))))
def Z5Q:List RRes:=[.t 6,.t 7]
theorem Z5R:PCt Tryz.prog 61 Tryz.f61 Z5P Z5Q:=pcT Tryz.func61 rfl (by kernel_rfl) (by kernel_rfl) (by kernel_rfl)
open Qq in
def Z5S:RCode :=
 .seq (r 0 [b 2 0,n 4 (.bool false)]) (.seq (r 1 [f 5 0 2,L 6 1 5,c 7 54 [6],m 8 1,c 9 177 [7,8],m 4 9]) .ret)
def Z5T:List RRes:=[.t 4]
theorem Z5U:PCt Tryz.prog 144 Tryz.f144 Z5S Z5T:=pcT Tryz.func144 rfl (by kernel_rfl) (by kernel_rfl) (by kernel_rfl)
open Qq in
def Z5V:RCode :=
 .seq (r 0 [b 3 0,n 6 .nils,n 7 O]) (.seq (.seq (r 1 [L 14 2 3,m 15 2,w 16 (.call 143 [.t 14,.c .nils,.t 15]),m 8 16]) (.seq (r 2 [m 17 8,k 18 .neq 17 O]) (.cond (.t 18) (.seq (r 3 [m 19 8,n 6 .nils,m 7 19]) .ret) .skip))) (.seq (.seq (r 4 [L 20 2 3,m 21 1,c 22 144 [20,21],t 23 22]) (.cond (.t 23) (.seq (r 5 [n 6 .nils,n 7 (.int .i64 6)]) .ret) .skip)) (.seq (r 6 [w 9 (.alloc [.bool false,.bool false,.bool false,.bool false,.bool false,.bool false,.bool false,.bool false,.bool false])]) (.seq (r 7 [L 24 2 3,c 25 62 [24],m 10 25]) (.seq (.seq (r 8 [n 11 O]) (.block 0 (.loop (.seq (.seq (r 9 [m 26 11,m 27 10,e 28 27,o 29 .lss 26 28]) (.cond (.t 29) .skip (.exit 0))) (.seq (.block 1 (R 11 [L 32 2 3,L 33 2 3,m 34 10,m 35 11,a [2,3] (i 36 1 34 35),a [4] (l 37 36),m 38 2,a [1,5,6] (w 39 (.call 146 [.t 33,.t 37,.c .nils,.t 38])),m 40 1,a [0,7,8,7] (c 41 145 [32,39,40]),a [9,0,1,2,3,4,5,6,7,8,9] (w 42 (.vop (.aaddr 9 1) [(.t 9),(.t 41)])),a [10,9,0,1,2,3,4,5,6,7,8,9] (z (.store 1 (.t 42) (.c (.bool true))))])) (r 10 [m 30 11,k 31 .add 30 I,m 11 31])))))) (.seq (r 12 [n 12 .nils]) (.seq (.seq (r 13 [n 13 I]) (.block 2 (.loop (.seq (.seq (r 14 [m 43 13,k 44 .lss 43 (.int .i64 9)]) (.cond (.t 44) .skip (.exit 2))) (.seq (.block 3 (.seq (r 16 [m 47 13,w 48 (.vop (.aaddr 9 1) [(.t 9),(.t 47)]),l 49 48]) (.cond (.t 49) (r 17 [m 50 12,m 51 13,w 52 (.bsl false 1 1 [O] [(0,.t 51)]),w 53 (.app 1 8 (.t 50) (.t 52)),m 12 53]) .skip))) (r 15 [m 45 13,k 46 .add 45 I,m 13 46])))))) (.seq (r 18 [m 54 12,m 6 54,n 7 O]) .ret))))))))
def Z5W:List RRes:=[.t 6,.t 7]
theorem Z5X:PCt Tryz.prog 88 Tryz.f88 Z5V Z5W:=pcT Tryz.func88 rfl (by kernel_rfl) (by kernel_rfl) (by kernel_rfl)
open Qq in
def Z5Y:RCode :=
 .seq (r 0 [b 2 0,b 3 1,n 4 .nils]) (.seq (r 1 [f 9 1 3,l 10 9,w 11 (.bsl true 1 1 [O] [(0,.t 10)]),m 5 11]) (.seq (.seq (r 2 [n 6 O]) (.block 0 (.loop (.seq (.seq (r 3 [m 12 6,f 13 1 2,l 14 13,e 15 14,o 16 .lss 12 15]) (.cond (.t 16) .skip (.exit 0))) (.seq (.block 1 (.seq (.seq (r 5 [f 19 1 2,l 20 19,m 21 6,i 22 10 20 21,f 23 5 22,l 24 23,m 7 24]) (.seq (r 6 [m 25 7,f 26 1 3,l 27 26,f 28 2 3,l 29 28,c 30 147 [25,27,29]]) (.cond (.t 30) (r 7 [m 31 5,m 32 7,w 33 (.bsl false 1 1 [O] [(0,.t 32)]),w 34 (.app 1 8 (.t 31) (.t 33)),m 5 34]) .skip))) (.seq (r 8 [f 35 1 2,l 36 35,m 37 6,i 38 10 36 37,f 39 6 38,l 40 39,m 8 40]) (.seq (r 9 [m 41 8,f 42 2 3,l 43 42,o 44 .lss 41 43,m 45 44,g 45 true (m 46 8),g 45 true (k 47 .add 46 I),g 45 true (f 48 1 3),g 45 true (l 49 48),g 45 true (o 50 .geq 47 49),v 51 45 50]) (.cond (.t 51) (r 10 [m 52 5,m 53 8,k 54 .add 53 I,w 55 (.bsl false 1 1 [O] [(0,.t 54)]),w 56 (.app 1 8 (.t 52) (.t 55)),m 5 56]) .skip))))) (r 4 [m 17 6,k 18 .add 17 I,m 6 18])))))) (.seq (r 11 [m 57 5,m 4 57]) .ret)))
def Z5Z:List RRes:=[.t 4]
theorem Z60:PCt Tryz.prog 139 Tryz.f139 Z5Y Z5Z:=pcT Tryz.func139 rfl (by kernel_rfl) (by kernel_rfl) (by kernel_rfl)
open Qq in
def Z61:RCode :=
 .seq (r 0 [b 3 0,n 6 .nils]) (.seq (r 1 [w 7 (.alloc [.bool false,.bool false,.bool false,.bool false,.bool false,.bool false,.bool false,.bool false,.bool false])]) (.seq (R 2 [f 16 2 3,a [0] (l 17 16),L 18 4 3,m 19 1,a [2,3] (c 20 83 [18,19]),a [1,4] (i 21 4 17 20),a [5] (L 22 4 21),w 8 (.alloc [O,O,O,.nils]),a [7,6,4,0,1,2,3,4,5,6,7] (s 4 8 22)]) (.seq (.seq (r 3 [f 23 3 8,l 24 23,m 25 2,c 26 104 [24,25]]) (.cond (.t 26) (.seq (r 4 [f 27 0 3,L 28 2 27,L 29 4 8,c 30 139 [28,29],m 9 30]) (.seq (r 5 [n 10 O]) (.block 0 (.loop (.seq (.seq (r 6 [m 31 10,m 32 9,e 33 32,o 34 .lss 31 33]) (.cond (.t 34) .skip (.exit 0))) (.seq (.block 1 (.seq (R 8 [f 38 0 3,a [0] (L 39 2 38),m 40 2,m 41 9,m 42 10,a [3,4] (i 43 1 41 42),a [5] (l 44 43),a [1,2,6] (c 45 88 [39,40,44]),a [7] (m 37 45),a [8] (x 46 0 37),a [8] (x 47 1 37),a [9,7,0,1,2,3,4,5,6,7,8,9] (m 11 46),a [10,11,0,1,2,3,4,5,6,7,8,9,10,11] (m 12 47)]) (.seq (r 9 [n 13 O]) (.block 2 (.loop (.seq (.seq (r 10 [m 48 13,m 49 11,e 50 49,o 51 .lss 48 50]) (.cond (.t 51) .skip (.exit 2))) (.seq (.block 3 (r 12 [m 54 11,m 55 13,i 56 1 54 55,l 57 56,w 58 (.vop (.aaddr 9 1) [(.t 7),(.t 57)]),z (.store 1 (.t 58) (.c (.bool true)))])) (r 11 [m 52 13,k 53 .add 52 I,m 13 53])))))))) (r 7 [m 35 10,k 36 .add 35 I,m 10 36]))))))) .skip)) (.seq (r 13 [n 14 .nils]) (.seq (.seq (r 14 [n 15 I]) (.block 4 (.loop (.seq (.seq (r 15 [m 59 15,k 60 .lss 59 (.int .i64 9)]) (.cond (.t 60) .skip (.exit 4))) (.seq (.block 5 (.seq (r 17 [m 63 15,w 64 (.vop (.aaddr 9 1) [(.t 7),(.t 63)]),l 65 64]) (.cond (.t 65) (r 18 [m 66 14,m 67 15,w 68 (.bsl false 1 1 [O] [(0,.t 67)]),w 69 (.app 1 8 (.t 66) (.t 68)),m 14 69]) .skip))) (r 16 [m 61 15,k 62 .add 61 I,m 15 62])))))) (.seq (r 19 [m 70 14,m 6 70]) .ret))))))
def Z62:List RRes:=[.t 6]
theorem Z63:PCt Tryz.prog 81 Tryz.f81 Z61 Z62:=pcT Tryz.func81 rfl (by kernel_rfl) (by kernel_rfl) (by kernel_rfl)
open Qq in
def Z64:RCode :=
 .seq (r 0 [b 3 0,n 6 .nils,n 7 O]) (.seq (.seq (r 1 [L 9 4 3,m 10 1,m 11 2,w 12 (.call 71 [.t 9,.c O,.c I,.t 10,.t 11]),m 8 12]) (.seq (r 2 [m 13 8,k 14 .neq 13 O]) (.cond (.t 14) (.seq (r 3 [m 15 8,n 6 .nils,m 7 15]) .ret) .skip))) (.seq (r 4 [L 16 4 3,m 17 1,m 18 2,c 19 81 [16,17,18],m 6 19,n 7 O]) .ret))
def Z65:List RRes:=[.t 6,.t 7]
theorem Z66:PCt Tryz.prog 28 Tryz.f28 Z64 Z65:=pcT Tryz.func28 rfl (by kernel_rfl) (by kernel_rfl) (by kernel_rfl)
open Qq in
def Z67:RCode :=
 .seq (r 0 [n 6 .nils]) (.seq (R 1 [m 18 0,a [0] (w 19 (.nilck (.t 18))),a [1] (f 20 0 19),a [2] (f 21 2 20),a [3] (l 22 21),m 23 0,m 24 1,a [5,6] (c 25 82 [23,24]),a [4,7] (i 26 4 22 25),a [8] (L 27 4 26),w 7 (.alloc [O,O,O,.nils]),a [10,9,7,0,1,2,3,4,5,6,7,8,9,10] (s 4 7 27)]) (.seq (.seq (r 2 [f 28 3 7,l 29 28,m 30 2,c 31 87 [29,30],t 32 31]) (.cond (.t 32) (.seq (r 3 [n 6 .nils]) .ret) .skip)) (.seq (r 4 [f 33 1 7,l 34 33,w 35 (.bsl true 1 1 [O] [(0,.t 34)]),m 8 35]) (.seq (.seq (r 5 [m 36 0,w 37 (.nilck (.t 36)),f 38 0 37,f 39 0 38,f 40 1 39,l 41 40,e 42 41,n 43 O]) (.block 0 (.loop (.seq (r 6 [o 44 .lss 43 42]) (.seq (.cond (.t 44) .skip (.exit 0)) (.seq (.block 1 (.seq (r 7 [i 45 10 41 43,L 46 10 45,w 10 (.alloc [O,O,.int .u8 0,O,O,O,O,O,.bool false,.int .u8 0]),s 10 10 46]) (.seq (r 8 [f 47 5 10,l 48 47,f 49 6 10,l 50 49,k 51 .add 50 I,w 52 (.bsl false 1 2 [O,O] [(0,.t 48),(1,.t 51)]),e 53 52,n 54 O]) (.block 2 (.loop (.seq (r 9 [o 55 .lss 54 53]) (.seq (.cond (.t 55) .skip (.exit 2)) (.seq (.block 3 (.seq (r 10 [i 56 1 52 54,l 57 56,m 12 57]) (.seq (r 11 [f 58 1 7,l 59 58,f 60 2 7,l 61 60,m 62 12,w 63 (.bsl false 1 1 [O] [(0,.t 62)]),c 64 138 [59,61,63]]) (.cond (.t 64) (r 12 [m 65 8,m 66 12,w 67 (.bsl false 1 1 [O] [(0,.t 66)]),w 68 (.app 1 8 (.t 65) (.t 67)),m 8 68]) .skip)))) (r 13 [k 69 .add 54 I,m 54 69]))))))))) (r 14 [k 70 .add 43 I,m 43 70]))))))) (.seq (r 15 [n 13 .nils]) (.seq (.seq (r 16 [m 71 8,e 72 71,n 73 O]) (.block 4 (.loop (.seq (r 17 [o 74 .lss 73 72]) (.seq (.cond (.t 74) .skip (.exit 4)) (.seq (.block 5 (.seq (r 18 [i 75 1 71 73,l 76 75,m 15 76]) (.seq (r 19 [m 78 0,w 79 (.nilck (.t 78)),f 80 0 79,f 81 0 80,L 82 2 81,m 83 2,m 84 15,c 85 61 [82,83,84],m 77 85,x 86 0 77,x 87 1 77,m 16 86,m 17 87]) (r 20 [m 88 13,m 89 16,w 90 (.app 1 8 (.t 88) (.t 89)),m 13 90])))) (r 21 [k 91 .add 73 I,m 73 91]))))))) (.seq (r 22 [m 92 13,c 93 115 [92]]) (.seq (r 23 [m 94 13,c 95 116 [94],m 6 95]) .ret))))))))
def Z68:List RRes:=[.t 6]
theorem Z69:PCt Tryz.prog 80 Tryz.f80 Z67 Z68:=pcT Tryz.func80 rfl (by kernel_rfl) (by kernel_rfl) (by kernel_rfl)
open Qq in
def Z6a:RCode :=
 .seq (r 0 [b 3 0,n 6 .nils,n 7 O]) (.seq (r 1 [L 11 4 3,m 12 1,m 13 2,w 14 (.bsl false 1 1 [O] [(0,.t 13)]),w 15 (.call 69 [.t 11,.c O,.c I,.t 12,.t 14]),m 10 15,x 16 0 10,x 17 1 10,m 8 16,m 9 17]) (.seq (.seq (r 2 [m 18 9,k 19 .neq 18 O]) (.cond (.t 19) (.seq (r 3 [m 20 9,n 6 .nils,m 7 20]) .ret) .skip)) (.seq (r 4 [m 21 8,m 22 1,m 23 2,c 24 80 [21,22,23],m 6 24,n 7 O]) .ret)))
def Z6b:List RRes:=[.t 6,.t 7]
theorem Z6c:PCt Tryz.prog 27 Tryz.f27 Z6a Z6b:=pcT Tryz.func27 rfl (by kernel_rfl) (by kernel_rfl) (by kernel_rfl)
open Qq in
def Z6d:RCode :=
 .seq (r 0 [w 6 (.alloc [O,O,.int .u8 0,O,O,O,O,O,.bool false,.int .u8 0])]) (.seq (.seq (r 1 [m 9 0,w 10 (.nilck (.t 9)),f 11 0 10,f 12 1 11,l 13 12,e 14 13,k 15 .sub 14 I,m 7 15]) (.block 0 (.loop (.seq (.seq (r 2 [m 16 7,k 17 .geq 16 O]) (.cond (.t 17) .skip (.exit 0))) (.seq (.block 1 (.seq (r 4 [m 20 0,w 21 (.nilck (.t 20)),f 22 0 21,f 23 1 22,l 24 23,m 25 7,i 26 10 24 25,L 27 10 26,w 8 (.alloc [O,O,.int .u8 0,O,O,O,O,O,.bool false,.int .u8 0]),s 10 8 27]) (.seq (r 5 [f 28 3 8,l 29 28,m 30 2,o 31 .eql 29 30,m 32 31,g 32 true (m 33 1),g 32 true (m 34 7),g 32 true (w 35 (.callv (.t 33) [.t 34])),v 36 32 35]) (.cond (.t 36) (.seq (r 6 [L 37 10 8,s 10 6 37]) .ret) .skip)))) (r 3 [m 18 7,k 19 .sub 18 I,m 7 19])))))) (.seq (r 7 [w 38 (.build [O,O,.int .u8 0,O,O,O,O,O,.bool false,.int .u8 0] [(4,1,.c I)]),s 10 6 38]) .ret))
def Z6e:List RRes:=[.c 6 true 10]
theorem Z6f {G:Nat->Option (List AV)} {objs objs':List (Nat×AObj)} {args:List AV} {v:AV} (hn:args.length<=Tryz.f113.ntmps) (h:∀ R:Run,R.G=G->R.Top->AR Tryz.prog R Z6d ⟨iniT 0 args,objs⟩ (FinB Z6e v objs')):PB Tryz.prog G 113 objs args v objs' :=
 PB_of Tryz.func113 rfl (by kernel_rfl) (rc:=Z6d) (by kernel_rfl) (rs:=Z6e) (by kernel_rfl) hn (λR _ hG hr=>h R hG hr)
open Qq in
def Z6g:RCode :=
 .seq (r 0 [b 3 0,n 6 O]) (.seq (.seq (r 1 [L 8 2 3,m 9 1,m 10 2,c 11 178 [8,9,10],m 7 11]) (.seq (r 2 [m 12 7,k 13 .geq 12 O]) (.cond (.t 13) (.seq (r 3 [f 14 1 3,l 15 14,m 16 7,i 17 10 15 16,f 18 4 17,l 19 18,m 6 19]) .ret) .skip))) (.seq (r 4 [n 6 I]) .ret))
def Z6h:List RRes:=[.t 6]
theorem Z6i:PCt Tryz.prog 145 Tryz.f145 Z6g Z6h:=pcT Tryz.func145 rfl (by kernel_rfl) (by kernel_rfl) (by kernel_rfl)
open Qq in
def Z6j:RCode :=
 .seq (r 0 [b 3 0,n 6 O]) (.seq (r 1 [n 7 (.int .i64 (-1))]) (.seq (.seq (r 2 [n 8 O]) (.block 0 (.loop (.seq (.seq (r 3 [m 9 8,m 10 1,e 11 10,o 12 .lss 9 11]) (.cond (.t 12) .skip (.exit 0))) (.seq (.block 1 (.seq (r 5 [m 15 1,m 16 8,i 17 1 15 16,l 18 17,m 19 18,g 19 true (f 20 1 3),g 19 true (l 21 20),g 19 true (m 22 8),g 19 true (i 23 10 21 22),g 19 true (f 24 3 23),g 19 true (l 25 24),g 19 true (m 26 2),g 19 true (o 27 .eql 25 26),v 28 19 27]) (.cond (.t 28) (r 6 [m 29 8,m 7 29]) .skip))) (r 4 [m 13 8,k 14 .add 13 I,m 8 14])))))) (.seq (r 7 [m 30 7,m 6 30]) .ret)))
def Z6k:List RRes:=[.t 6]
theorem Z6l:PCt Tryz.prog 178 Tryz.f178 Z6j Z6k:=pcT Tryz.func178 rfl (by kernel_rfl) (by kernel_rfl) (by kernel_rfl)
open Qq in
def Z6m:RCode :=
 .seq (r 0 [n 6 (.bool false)]) (.seq (r 1 [m 7 0,m 8 1,o 9 .geq 7 8,m 10 9,g 10 true (m 11 0),g 10 true (m 12 2),g 10 true (o 13 .leq 11 12),v 14 10 13,m 6 14]) .ret)
def Z6n:List RRes:=[.t 6]
theorem Z6o:PCt Tryz.prog 176 Tryz.f176 Z6m Z6n:=pcT Tryz.func176 rfl (by kernel_rfl) (by kernel_rfl) (by kernel_rfl)
open Qq in
def Z6p:RCode :=
 .seq (r 0 [b 2 0,n 4 (.bool false)]) (.seq (r 1 [f 12 1 2,l 13 12,m 14 1,i 15 10 13 14,L 16 10 15,w 5 (.alloc [O,O,.int .u8 0,O,O,O,O,O,.bool false,.int .u8 0]),s 10 5 16]) (.seq (.seq (r 2 [f 17 0 5,l 18 17,w 19 (.call 176 [.t 18,.c I,.c (.int .i64 9999)]),t 20 19,m 21 20,g 21 false (f 22 1 5),g 21 false (l 23 22),g 21 false (w 24 (.call 176 [.t 23,.c O,.c (.int .i64 14610)])),g 21 false (t 25 24),u 26 21 25,m 27 26,g 27 false (f 28 2 5),g 27 false (l 29 28),g 27 false (k 30 .gtr 29 (.int .u8 2)),u 31 27 30,m 32 31,g 32 false (f 33 5 5),g 32 false (l 34 33),g 32 false (f 35 6 5),g 32 false (l 36 35),g 32 false (w 37 (.call 176 [.t 34,.c I,.t 36])),g 32 false (t 38 37),u 39 32 38,m 40 39,g 40 false (f 41 6 5),g 40 false (l 42 41),g 40 false (k 43 .gtr 42 (.int .i64 999)),u 44 40 43,m 45 44,g 45 false (f 46 9 5),g 45 false (l 47 46),g 45 false (k 48 .gtr 47 (.int .u8 3)),u 49 45 48]) (.cond (.t 49) (.seq (r 3 [n 4 (.bool false)]) .ret) .skip)) (.seq (.seq (r 4 [f 50 3 5,l 51 50,k 52 .eql 51 O,m 53 52,g 53 true (f 54 4 5),g 53 true (l 55 54),g 53 true (k 56 .eql 55 O),v 57 53 56]) (.cond (.t 57) (.seq (r 5 [f 58 7 5,l 59 58,k 60 .eql 59 O]) (.cond (.t 60) (.seq (r 6 [n 4 (.bool false)]) .ret) .skip)) (.seq (r 7 [f 62 0 2,L 63 1 62,f 64 3 5,l 65 64,f 66 4 5,l 67 66,w 68 (.build [O,O] [(0,1,.t 65),(1,1,.t 67)]),c 69 172 [63,68],m 61 69,x 70 0 61,x 71 1 61,w 6 (.alloc [O,O,.int .u8 0,.nils,.nils]),s 5 6 70,m 7 71]) (.seq (r 8 [m 72 7,t 73 72]) (.cond (.t 73) (.seq (r 9 [n 4 (.bool false)]) .ret) .skip))))) (.seq (.seq (r 10 [f 74 4 5,l 75 74,k 76 .lss 75 (.int .i64 2),m 77 76,g 77 true (f 78 8 5),g 77 true (l 79 78),g 77 true (m 80 79),g 80 false (f 81 9 5),g 80 false (l 82 81),g 80 false (k 83 .gtr 82 (.int .u8 0)),g 77 true (u 84 80 83),v 85 77 84]) (.cond (.t 85) (.seq (r 11 [n 4 (.bool false)]) .ret) .skip)) (.seq (r 12 [f 86 7 5,l 87 86,k 88 .eql 87 O,m 8 88]) (.seq (.seq (r 13 [n 9 O]) (.block 0 (.loop (.seq (.seq (r 14 [m 89 9,m 90 1,o 91 .lss 89 90]) (.cond (.t 91) .skip (.exit 0))) (.seq (.block 1 (.seq (r 16 [f 94 1 2,l 95 94,m 96 9,i 97 10 95 96,L 98 10 97,w 10 (.alloc [O,O,.int .u8 0,O,O,O,O,O,.bool false,.int .u8 0]),s 10 10 98]) (.seq (.seq (r 17 [f 99 0 10,l 100 99,f 101 0 5,l 102 101,o 103 .eql 100 102]) (.cond (.t 103) (.seq (r 18 [n 4 (.bool false)]) .ret) .skip)) (r 19 [m 104 8,m 105 104,g 105 false (f 106 0 10),g 105 false (l 107 106),g 105 false (f 108 7 5),g 105 false (l 109 108),g 105 false (o 110 .eql 107 109),u 111 105 110,m 8 111])))) (r 15 [m 92 9,k 93 .add 92 I,m 9 93])))))) (.seq (.seq (r 20 [m 112 1,k 113 .eql 112 O]) (.cond (.t 113) (.seq (r 21 [m 114 8,m 4 114]) .ret) .skip)) (.seq (r 22 [f 115 1 2,l 116 115,m 117 1,k 118 .sub 117 I,i 119 10 116 118,L 120 10 119,w 11 (.alloc [O,O,.int .u8 0,O,O,O,O,O,.bool false,.int .u8 0]),s 10 11 120]) (.seq (r 23 [m 121 8,m 122 121,g 122 true (f 123 1 11),g 122 true (l 124 123),g 122 true (f 125 1 5),g 122 true (l 126 125),g 122 true (o 127 .lss 124 126),g 122 true (m 128 127),g 128 false (f 129 1 11),g 128 false (l 130 129),g 128 false (f 131 1 5),g 128 false (l 132 131),g 128 false (o 133 .eql 130 132),g 128 false (m 134 133),g 134 true (f 135 0 11),g 134 true (l 136 135),g 134 true (f 137 0 5),g 134 true (l 138 137),g 134 true (o 139 .lss 136 138),g 128 false (v 140 134 139),g 122 true (u 141 128 140),v 142 122 141,m 4 142]) .ret)))))))))
def Z6q:List RRes:=[.t 4]
theorem Z6r:PCt Tryz.prog 171 Tryz.f171 Z6p Z6q:=pcT Tryz.func171 rfl (by kernel_rfl) (by kernel_rfl) (by kernel_rfl)
open Qq in
def Z6s:RCode :=
 .seq (r 0 [b 1 0,n 2 (.bool false)]) (.seq (.seq (r 1 [f 5 1 1,l 6 5,e 7 6,k 8 .gtr 7 (.int .i64 12)]) (.cond (.t 8) (.seq (r 2 [n 2 (.bool false)]) .ret) .skip)) (.seq (r 3 [n 3 O]) (.seq (.seq (r 4 [n 4 O]) (.block 0 (.loop (.seq (.seq (r 5 [m 9 4,f 10 1 1,l 11 10,e 12 11,o 13 .lss 9 12]) (.cond (.t 13) .skip (.exit 0))) (.seq (.block 1 (.seq (.seq (r 7 [L 16 2 1,m 17 4,c 18 171 [16,17],t 19 18]) (.cond (.t 19) (.seq (r 8 [n 2 (.bool false)]) .ret) .skip)) (.seq (r 9 [f 20 1 1,l 21 20,m 22 4,i 23 10 21 22,f 24 2 23,l 25 24,k 26 .eql 25 (.int .u8 1)]) (.cond (.t 26) (r 10 [m 27 3,k 28 .add 27 I,m 3 28]) .skip)))) (r 6 [m 14 4,k 15 .add 14 I,m 4 15])))))) (.seq (r 11 [m 29 3,k 30 .leq 29 (.int .i64 5),m 2 30]) .ret))))
def Z6t:List RRes:=[.t 2]
theorem Z6u:PCt Tryz.prog 134 Tryz.f134 Z6s Z6t:=pcT Tryz.func134 rfl (by kernel_rfl) (by kernel_rfl) (by kernel_rfl)
open Qq in
def Z6v:RCode :=
 .seq (r 0 [b 1 0,n 2 O]) (.seq (.seq (r 1 [f 4 0 1,L 5 1 4,c 6 133 [5],m 3 6]) (.seq (r 2 [m 7 3,k 8 .neq 7 O]) (.cond (.t 8) (.seq (r 3 [m 9 3,m 2 9]) .ret) .skip))) (.seq (.seq (r 4 [L 10 2 1,c 11 134 [10],t 12 11]) (.cond (.t 12) (.seq (r 5 [n 2 (.int .i64 30)]) .ret) .skip)) (.seq (r 6 [n 2 O]) .ret)))
def Z6w:List RRes:=[.t 2]
theorem Z6x:PCt Tryz.prog 77 Tryz.f77 Z6v Z6w:=pcT Tryz.func77 rfl (by kernel_rfl) (by kernel_rfl) (by kernel_rfl)
open Qq in
def Z6y:RCode :=
 .seq (r 0 [b 1 0,n 2 .nils]) (.seq (r 1 [n 3 .nils]) (.seq (.seq (r 2 [n 4 O]) (.block 0 (.loop (.seq (.seq (r 3 [m 7 4,f 8 1 1,l 9 8,e 10 9,o 11 .lss 7 10]) (.cond (.t 11) .skip (.exit 0))) (.seq (.block 1 (.seq (.seq (r 5 [f 14 1 1,l 15 14,m 16 4,i 17 10 15 16,f 18 2 17,l 19 18,k 20 .neq 19 (.int .u8 1)]) (.cond (.t 20) (.exit 1) .skip)) (.seq (r 6 [m 21 3,m 22 4,w 23 (.bsl false 1 1 [O] [(0,.t 22)]),w 24 (.app 1 8 (.t 21) (.t 23)),m 3 24]) (.seq (r 7 [m 25 3,e 26 25,k 27 .sub 26 I,m 5 27]) (.block 2 (.loop (.seq (.seq (R 8 [m 28 5,a [0] (k 29 .gtr 28 O),a [1] (m 30 29),a [2] (g 30 true (f 31 1 1)),a [3,2] (g 30 true (l 32 31)),a [2] (g 30 true (m 33 3)),a [2] (g 30 true (m 34 5)),a [6,2] (g 30 true (k 35 .sub 34 I)),a [5,7,2] (g 30 true (i 36 1 33 35)),a [8,2] (g 30 true (l 37 36)),a [4,9,2] (g 30 true (i 38 10 32 37)),a [10,2] (g 30 true (f 39 0 38)),a [11,2] (g 30 true (l 40 39)),a [2] (g 30 true (f 41 1 1)),a [13,2] (g 30 true (l 42 41)),a [2] (g 30 true (m 43 3)),a [2] (g 30 true (m 44 5)),a [15,16,2] (g 30 true (i 45 1 43 44)),a [17,2] (g 30 true (l 46 45)),a [14,18,2] (g 30 true (i 47 10 42 46)),a [19,2] (g 30 true (f 48 0 47)),a [20,2] (g 30 true (l 49 48)),a [12,21,2] (g 30 true (o 50 .gtr 40 49)),a [2,22] (v 51 30 50)]) (.cond (.t 51) .skip (.exit 2))) (.seq (.block 3 (.seq (r 10 [m 54 3,m 55 5,i 56 1 54 55,l 57 56,m 6 57]) (.seq (r 11 [m 58 3,m 59 5,m 60 3,m 61 5,k 62 .sub 61 I,i 63 1 60 62,l 64 63,i 65 1 58 59,s 1 65 64]) (r 12 [m 66 3,m 67 5,k 68 .sub 67 I,m 69 6,i 70 1 66 68,s 1 70 69])))) (r 9 [m 52 5,k 53 .sub 52 I,m 5 53]))))))))) (r 4 [m 12 4,k 13 .add 12 I,m 4 13])))))) (.seq (r 13 [m 71 3,m 2 71]) .ret)))
def Z6z:List RRes:=[.t 2]
theorem Z6A:PCt Tryz.prog 65 Tryz.f65 Z6y Z6z:=pcT Tryz.func65 rfl (by kernel_rfl) (by kernel_rfl) (by kernel_rfl)
open Qq in
def Z6B:RCode :=
 .seq (r 0 [n 4 (.bool false)]) (.seq (.seq (r 1 [n 5 O]) (.block 0 (.loop (.seq (.seq (r 2 [m 6 5,m 7 0,e 8 7,o 9 .lss 6 8]) (.cond (.t 9) .skip (.exit 0))) (.seq (.block 1 (.seq (r 4 [m 12 0,m 13 5,i 14 1 12 13,l 15 14,m 16 1,o 17 .eql 15 16]) (.cond (.t 17) (.seq (r 5 [n 4 (.bool true)]) .ret) .skip))) (r 3 [m 10 5,k 11 .add 10 I,m 5 11])))))) (.seq (r 6 [n 4 (.bool false)]) .ret))
def Z6C:List RRes:=[.t 4]
theorem Z6D:PCt Tryz.prog 177 Tryz.f177 Z6B Z6C:=pcT Tryz.func177 rfl (by kernel_rfl) (by kernel_rfl) (by kernel_rfl)
open Qq in
def Z6E:RCode :=
 .seq (r 0 [b 2 0,n 4 (.bool false)]) (.seq (r 1 [n 5 .nils]) (.seq (r 2 [L 9 2 2,c 10 65 [9],m 6 10]) (.seq (.seq (r 3 [n 7 O]) (.block 0 (.loop (.seq (.seq (r 4 [m 11 7,m 12 6,e 13 12,o 14 .lss 11 13]) (.cond (.t 14) .skip (.exit 0))) (.seq (.block 1 (R 6 [m 17 5,f 18 1 2,a [1] (l 19 18),m 20 6,m 21 7,a [3,4] (i 22 1 20 21),a [5] (l 23 22),a [2,6] (i 24 10 19 23),a [7] (f 25 0 24),a [8] (l 26 25),a [9] (w 27 (.bsl false 1 1 [O] [(0,.t 26)])),a [0,10] (w 28 (.app 1 8 (.t 17) (.t 27))),a [11,11,0,1,2,3,4,5,6,7,8,9,10,11] (m 5 28)])) (r 5 [m 15 7,k 16 .add 15 I,m 7 16])))))) (.seq (.seq (r 7 [n 8 O]) (.block 2 (.loop (.seq (.seq (r 8 [m 29 8,m 30 1,e 31 30,o 32 .lss 29 31]) (.cond (.t 32) .skip (.exit 2))) (.seq (.block 3 (.seq (R 10 [m 35 5,m 36 1,m 37 8,a [1,2] (i 38 1 36 37),a [3] (l 39 38),a [0,4] (c 40 177 [35,39]),a [5] (t 41 40),a [6,5] (m 42 41),a [7] (g 42 false (m 43 8)),a [8,7] (g 42 false (k 44 .gtr 43 O)),a [9,7,7] (g 42 false (m 45 44)),a [10] (g 45 true (m 46 1)),a [10] (g 45 true (m 47 8)),a [11,12,10] (g 45 true (i 48 1 46 47)),a [13,10] (g 45 true (l 49 48)),a [10] (g 45 true (m 50 1)),a [10] (g 45 true (m 51 8)),a [16,10] (g 45 true (k 52 .sub 51 I)),a [15,17,10] (g 45 true (i 53 1 50 52)),a [18,10] (g 45 true (l 54 53)),a [14,19,10] (g 45 true (o 55 .leq 49 54)),a [10,20,7] (g 42 false (v 56 45 55)),a [7,21] (u 57 42 56)]) (.cond (.t 57) (.seq (r 11 [n 4 (.bool false)]) .ret) .skip))) (r 9 [m 33 8,k 34 .add 33 I,m 8 34])))))) (.seq (r 12 [n 4 (.bool true)]) .ret)))))
def Z6F:List RRes:=[.t 4]
theorem Z6G:PCt Tryz.prog 175 Tryz.f175 Z6E Z6F:=pcT Tryz.func175 rfl (by kernel_rfl) (by kernel_rfl) (by kernel_rfl)
open Qq in
def Z6H:RCode :=
 .seq (r 0 [b 4 0,n 8 .nils]) (.seq (r 1 [f 14 1 4,l 15 14,e 16 15,w 17 (.mksl 1 1 [.bool false] (.t 16)),m 9 17]) (.seq (.seq (r 2 [f 18 1 4,l 19 18,e 20 19,k 21 .sub 20 I,m 10 21]) (.block 0 (.loop (.seq (.seq (r 3 [m 22 10,k 23 .geq 22 O]) (.cond (.t 23) .skip (.exit 0))) (.seq (.block 1 (.seq (r 5 [f 26 1 4,l 27 26,m 28 10,i 29 10 27 28,L 30 10 29,w 11 (.alloc [O,O,.int .u8 0,O,O,O,O,O,.bool false,.int .u8 0]),s 10 11 30]) (.seq (r 6 [f 31 2 11,l 32 31,k 33 .eql 32 (.int .u8 2),m 34 33,g 34 false (m 35 1),g 34 false (f 36 0 11),g 34 false (l 37 36),g 34 false (c 38 177 [35,37]),u 39 34 38,m 40 39,g 40 true (m 41 2),g 40 true (f 42 0 11),g 40 true (l 43 42),g 40 true (c 44 177 [41,43]),g 40 true (t 45 44),v 46 40 45,m 47 46,g 47 true (m 48 3),g 47 true (f 49 5 11),g 47 true (l 50 49),g 47 true (f 51 6 11),g 47 true (l 52 51),g 47 true (c 53 176 [48,50,52]),v 54 47 53,m 12 54]) (.seq (.seq (r 7 [m 55 10,k 56 .add 55 I,m 13 56]) (.block 2 (.loop (.seq (.seq (r 8 [m 57 13,f 58 1 4,l 59 58,e 60 59,o 61 .lss 57 60]) (.cond (.t 61) .skip (.exit 2))) (.seq (.block 3 (R 10 [m 64 12,a [0] (m 65 64),a [1] (g 65 true (m 66 9)),a [1] (g 65 true (m 67 13)),a [2,3,1] (g 65 true (i 68 1 66 67)),a [4,1] (g 65 true (l 69 68)),a [5,1,1] (g 65 true (m 70 69)),a [6] (g 70 true (f 71 1 4)),a [7,6] (g 70 true (l 72 71)),a [6] (g 70 true (m 73 13)),a [8,9,6] (g 70 true (i 74 10 72 73)),a [10,6] (g 70 true (f 75 7 74)),a [11,6] (g 70 true (l 76 75)),a [6] (g 70 true (f 77 0 11)),a [13,6] (g 70 true (l 78 77)),a [12,14,6] (g 70 true (o 79 .eql 76 78)),a [6,15,1] (g 65 true (v 80 70 79)),a [16,1] (g 65 true (t 81 80)),a [1,17] (v 82 65 81),a [18,6,0,1,2,3,4,5,6,7,8,9,10,11,12,13,14,15,16,17,18] (m 12 82)])) (r 9 [m 62 13,k 63 .add 62 I,m 13 63])))))) (r 11 [m 83 9,m 84 10,m 85 12,i 86 1 83 84,s 1 86 85]))))) (r 4 [m 24 10,k 25 .sub 24 I,m 10 25])))))) (.seq (r 12 [m 87 9,m 8 87]) .ret)))
def Z6I:List RRes:=[.t 8]
theorem Z6J:PCt Tryz.prog 146 Tryz.f146 Z6H Z6I:=pcT Tryz.func146 rfl (by kernel_rfl) (by kernel_rfl) (by kernel_rfl)
open Qq in
def Z6K:RCode :=
 .seq (r 0 [b 3 0,n 6 O]) (.seq (.seq (r 1 [L 8 2 3,c 9 77 [8],m 7 9]) (.seq (r 2 [m 10 7,k 11 .neq 10 O]) (.cond (.t 11) (.seq (r 3 [m 12 7,m 6 12]) .ret) .skip))) (.seq (.seq (r 4 [L 13 2 3,m 14 1,c 15 175 [13,14],t 16 15]) (.cond (.t 16) (.seq (r 5 [n 6 (.int .i64 31)]) .ret) .skip)) (.seq (.seq (r 6 [m 17 2,w 18 (.call 176 [.t 17,.c I,.c (.int .i64 999)]),t 19 18]) (.cond (.t 19) (.seq (r 7 [n 6 (.int .i64 2)]) .ret) .skip)) (.seq (r 8 [n 6 O]) .ret))))
def Z6L:List RRes:=[.t 6]
theorem Z6M:PCt Tryz.prog 143 Tryz.f143 Z6K Z6L:=pcT Tryz.func143 rfl (by kernel_rfl) (by kernel_rfl) (by kernel_rfl)
open Qq in
def Z6N:RCode :=
 .seq (r 0 [b 2 0,b 3 1,n 4 (.bool false)]) (.seq (.seq (r 1 [f 6 0 2,L 7 1 6,f 8 0 3,L 9 1 8,c 10 137 [7,9],t 11 10,m 12 11,g 12 false (f 13 1 2),g 12 false (l 14 13),g 12 false (e 15 14),g 12 false (f 16 1 3),g 12 false (l 17 16),g 12 false (e 18 17),g 12 false (o 19 .neq 15 18),u 20 12 19]) (.cond (.t 20) (.seq (r 2 [n 4 (.bool false)]) .ret) .skip)) (.seq (.seq (r 3 [n 5 O]) (.block 0 (.loop (.seq (.seq (r 4 [m 21 5,f 22 1 2,l 23 22,e 24 23,o 25 .lss 21 24]) (.cond (.t 25) .skip (.exit 0))) (.seq (.block 1 (.seq (R 6 [f 28 1 2,a [0] (l 29 28),m 30 5,a [1,2] (i 31 10 29 30),a [3] (L 32 10 31),f 33 1 3,a [5] (l 34 33),m 35 5,a [6,7] (i 36 10 34 35),a [8] (L 37 10 36),a [4,9] (w 38 (.eqs true [.i,.i,.i,.i,.i,.i,.i,.i,.b,.i] (.t 32) (.t 37)))]) (.cond (.t 38) (.seq (r 7 [n 4 (.bool false)]) .ret) .skip))) (r 5 [m 26 5,k 27 .add 26 I,m 5 27])))))) (.seq (r 8 [n 4 (.bool true)]) .ret)))
def Z6O:List RRes:=[.t 4]
theorem Z6P:PCt Tryz.prog 79 Tryz.f79 Z6N Z6O:=pcT Tryz.func79 rfl (by kernel_rfl) (by kernel_rfl) (by kernel_rfl)
open Qq in
def Z6Q:RCode :=
 .seq (r 0 [b 1 0,w 2 (.alloc [.nils,.nils])]) (.seq (R 1 [f 3 0 1,a [0] (L 4 1 3),a [1] (c 5 126 [4]),w 6 (.bsl true 10 0 [] []),f 7 1 1,a [4] (l 8 7),a [3,5,2] (w 9 (.app 10 72 (.t 6) (.t 8))),a [2,6] (w 10 (.build [.nils,.nils] [(0,1,.t 5),(1,1,.t 9)])),a [7,6,0,1,2,3,4,5,6,7] (s 2 2 10)]) .ret)
def Z6R:List RRes:=[.c 2 true 2]
theorem Z6S:PCt Tryz.prog 68 Tryz.f68 Z6Q Z6R:=pcT Tryz.func68 rfl (by kernel_rfl) (by kernel_rfl) (by kernel_rfl)
open Qq in
def Z6T:RCode :=
 .seq (r 0 [b 1 0,n 2 (.bool false)]) (.seq (r 1 [f 3 0 1,L 4 1 3,c 5 125 [4],m 6 5,g 6 false (f 7 1 1),g 6 false (l 8 7),g 6 false (e 9 8),g 6 false (k 10 .gtr 9 (.int .i64 16)),u 11 6 10,m 2 11]) .ret)
def Z6U:List RRes:=[.t 2]
theorem Z6V:PCt Tryz.prog 67 Tryz.f67 Z6T Z6U:=pcT Tryz.func67 rfl (by kernel_rfl) (by kernel_rfl) (by kernel_rfl)
open Qq in
noncomputable def Z6W:RCode :=
 .seq (r 0 [b 1 0,n 2 .nilp,n 3 O]) (.scope (.seq (r 1 [L 16 1 1,w 17 (.build [.nils,.nils] [(0,1,.t 16)]),b 18 17,w 4 (.alloc [.nilp]),s 1 4 18]) (.seq (.seq (r 2 [f 19 0 1,l 20 19,e 21 20,w 22 (.bsl false 1 1 [O] [(0,.t 21)]),w 23 (.call 194 [.c I,.c (.int .i64 60),.t 22]),t 24 23]) (.cond (.t 24) (.seq (r 3 [n 2 .nilp,n 3 (.int .i64 20)]) .ret) .skip)) (.seq (.label 0) (.seq (.seq (r 4 [f 25 0 1,l 26 25,e 27 26,n 28 O]) (.block 0 (.loop (.seq (r 5 [o 29 .lss 28 27]) (.seq (.cond (.t 29) .skip (.exit 0)) (.seq (.block 1 (.seq (r 6 [m 30 28,i 31 5 26 28,L 32 5 31,w 6 (.alloc [O,O,.int .u8 0,.nils,.nils]),m 5 30,s 5 6 32]) (.seq (.seq (r 7 [w 33 (.load true 4 (.g 2)),n 34 O]) (.block 2 (.loop (.seq (r 8 [k 35 .lss 34 (.int .i64 4)]) (.seq (.cond (.t 35) .skip (.exit 2)) (.seq (.block 3 (.seq (r 9 [w 36 (.vop (.aidx true 4 1) [(.t 33),(.t 34)]),w 8 (.alloc [.nilf]),s 1 8 36]) (.seq (r 10 [f 37 0 8,l 38 37,L 39 5 6,w 40 (.callv (.t 38) [.t 39]),t 41 40]) (.cond (.t 41) (.seq (r 11 [n 2 .nilp,n 3 (.int .i64 20)]) .ret) .skip)))) (r 12 [k 42 .add 34 I,m 34 42]))))))) (.seq (.seq (r 13 [m 43 5,k 44 .gtr 43 O]) (.cond (.t 44) (.seq (r 14 [f 45 0 1,l 46 45,m 47 5,k 48 .sub 47 I,i 49 5 46 48,L 50 5 49,w 9 (.alloc [O,O,.int .u8 0,.nils,.nils]),s 5 9 50]) (.seq (r 15 [f 51 0 9,l 52 51,f 53 0 6,l 54 53,o 55 .eql 52 54]) (.cond (.t 55) (.seq (.seq (r 16 [f 56 1 9,l 57 56,k 58 .add 57 I,f 59 1 6,l 60 59,o 61 .neq 58 60,m 62 61,g 62 false (f 63 2 9),g 62 false (l 64 63),g 62 false (f 65 2 6),g 62 false (l 66 65),g 62 false (o 67 .neq 64 66),u 68 62 67]) (.cond (.t 68) (.seq (r 17 [n 2 .nilp,n 3 (.int .i64 20)]) .ret) .skip)) (.exit 1)) (.seq (r 18 [f 69 0 9,l 70 69,f 71 0 6,l 72 71,o 73 .gtr 70 72]) (.cond (.t 73) (.seq (r 19 [n 2 .nilp,n 3 (.int .i64 20)]) .ret) .skip))))) .skip)) (.seq (.seq (r 20 [f 74 1 6,l 75 74,k 76 .neq 75 I]) (.cond (.t 76) (.seq (r 21 [n 2 .nilp,n 3 (.int .i64 20)]) .ret) .skip)) (R 22 [l 77 4,l 78 4,a [1] (w 79 (.nilck (.t 78))),a [2] (f 80 1 79),a [3] (l 81 80),f 82 0 6,a [5] (l 83 82),a [6] (w 84 (.bsl false 1 1 [O] [(0,.t 83)])),a [4,7] (w 85 (.app 1 8 (.t 81) (.t 84))),a [0,0,1,2,3,4,5,6,7,8] (w 86 (.nilck (.t 77))),a [9,0,1,2,3,4,5,6,7,8] (f 87 1 86),a [10,8,8,0,1,2,3,4,5,6,7,8] (s 1 87 85)])))))) (r 23 [k 88 .add 28 I,m 28 88]))))))) (.seq (.seq (r 24 [l 89 4,w 90 (.nilck (.t 89)),f 91 1 90,l 92 91,e 93 92,k 94 .gtr 93 (.int .i64 20)]) (.cond (.t 94) (.seq (r 25 [n 2 .nilp,n 3 (.int .i64 20)]) .ret) .skip)) (.seq (.seq (r 26 [f 95 0 1,l 96 95,e 97 96,n 98 O]) (.block 4 (.loop (.seq (r 27 [o 99 .lss 98 97]) (.seq (.cond (.t 99) .skip (.exit 4)) (.seq (.block 5 (.seq (r 28 [i 100 5 96 98,L 101 5 100,w 11 (.alloc [O,O,.int .u8 0,.nils,.nils]),s 5 11 101]) (.seq (r 29 [f 102 3 11,l 103 102,w 104 (.mkf (.func 196) [] [.t 4]),c 105 195 [103,104]]) (.cond (.t 105) (.seq (r 30 [n 2 .nilp,n 3 (.int .i64 20)]) .ret) .skip)))) (r 31 [k 106 .add 98 I,m 98 106]))))))) (.seq (r 32 [l 108 4,c 109 198 [108],m 107 109,x 110 0 107,x 111 1 107,m 12 110,m 13 111]) (.seq (.seq (r 33 [m 112 13]) (.cond (.t 112) (.seq (r 34 [n 2 .nilp,n 3 (.int .i64 21)]) .ret) .skip)) (.seq (.raw (opnR Tryz.prog)) (.seq (r 40 [l 121 4,m 2 121,n 3 O]) .ret)))))))))))
def Z6X:List RRes:=[.t 2,.t 3]
theorem Z6Y:PCt Tryz.prog 168 Tryz.f168 Z6W Z6X:=pcT Tryz.func168 rfl (by kernel_rfl) (by kernel_rfl) (by kernel_rfl)
open Qq in
def Z6Z:RCode :=
 .seq (r 0 [b 3 0,b 4 1,n 6 (.bool false)]) (.seq (r 1 [m 7 2,w 8 (.mkf (.func 269) [] [.t 3,.t 4]),c 9 85 [7,8],t 10 9,m 6 10]) .ret)
def Z70:List RRes:=[.t 6]
theorem Z71:PCt Tryz.prog 268 Tryz.f268 Z6Z Z70:=pcT Tryz.func268 rfl (by kernel_rfl) (by kernel_rfl) (by kernel_rfl)
open Qq in
def Z72:RCode :=
 .seq (r 0 [n 4 (.bool false)]) (.seq (r 1 [m 5 0,l 6 1,o 7 .lss 5 6,m 8 7,g 8 false (m 9 0),g 8 false (l 10 2),g 8 false (o 11 .gtr 9 10),u 12 8 11,m 4 12]) .ret)
def Z73:List RRes:=[.t 4]
theorem Z74:PCt Tryz.prog 269 Tryz.f269 Z72 Z73:=pcT Tryz.func269 rfl (by kernel_rfl) (by kernel_rfl) (by kernel_rfl)
open Qq in
def Z75:RCode :=
 .seq (r 0 [n 4 (.bool false)]) (.seq (r 1 [m 5 0,m 6 1,c 7 142 [5,6],k 8 .geq 7 O,m 4 8]) .ret)
def Z76:List RRes:=[.t 4]
theorem Z77:PCt Tryz.prog 85 Tryz.f85 Z75 Z76:=pcT Tryz.func85 rfl (by kernel_rfl) (by kernel_rfl) (by kernel_rfl)
open Qq in
def Z78:RCode :=
 .seq (r 0 [n 4 O]) (.seq (.seq (r 1 [m 6 0,e 7 6,n 8 O]) (.block 0 (.loop (.seq (r 2 [o 9 .lss 8 7]) (.seq (.cond (.t 9) .skip (.exit 0)) (.seq (.block 1 (.seq (r 3 [m 10 8,m 5 10]) (.seq (r 4 [m 11 1,m 12 0,m 13 5,i 14 1 12 13,l 15 14,w 16 (.callv (.t 11) [.t 15])]) (.cond (.t 16) (.seq (r 5 [m 17 5,m 4 17]) .ret) .skip)))) (r 6 [k 18 .add 8 I,m 8 18]))))))) (.seq (r 7 [n 4 (.int .i64 (-1))]) .ret))
def Z79:List RRes:=[.t 4]
theorem Z7a:PCt Tryz.prog 142 Tryz.f142 Z78 Z79:=pcT Tryz.func142 rfl (by kernel_rfl) (by kernel_rfl) (by kernel_rfl)
open Qq in
def Z7b:RCode :=
 .seq (r 0 [b 1 0,n 2 O]) (.seq (.seq (r 1 [f 3 0 1,l 4 3,f 5 1 1,l 6 5,f 7 2 1,l 8 7,w 9 (.bsl false 1 3 [O,O,O] [(0,.t 4),(1,.t 6),(2,.t 8)]),w 10 (.call 268 [.c O,.c (.int .i64 1000000000),.t 9]),t 11 10,m 12 11,g 12 false (f 13 1 1),g 12 false (l 14 13),g 12 false (f 15 2 1),g 12 false (l 16 15),g 12 false (o 17 .gtr 14 16),u 18 12 17]) (.cond (.t 18) (.seq (r 2 [n 2 (.int .i64 10)]) .ret) .skip)) (.seq (r 3 [n 2 O]) .ret))
def Z7c:List RRes:=[.t 2]
theorem Z7d:PCt Tryz.prog 266 Tryz.f266 Z7b Z7c:=pcT Tryz.func266 rfl (by kernel_rfl) (by kernel_rfl) (by kernel_rfl)
open Qq in
def Z7e:RCode :=
 .seq (r 0 [b 3 0,b 4 1,n 6 (.bool false)]) (.seq (r 1 [m 7 2,w 8 (.mkf (.func 208) [] [.t 3,.t 4]),c 9 85 [7,8],t 10 9,m 6 10]) .ret)
def Z7f:List RRes:=[.t 6]
theorem Z7g:PCt Tryz.prog 194 Tryz.f194 Z7e Z7f:=pcT Tryz.func194 rfl (by kernel_rfl) (by kernel_rfl) (by kernel_rfl)
open Qq in
def Z7h:RCode :=
 .seq (r 0 [n 4 (.bool false)]) (.seq (r 1 [m 5 0,l 6 1,o 7 .lss 5 6,m 8 7,g 8 false (m 9 0),g 8 false (l 10 2),g 8 false (o 11 .gtr 9 10),u 12 8 11,m 4 12]) .ret)
def Z7i:List RRes:=[.t 4]
theorem Z7j:PCt Tryz.prog 208 Tryz.f208 Z7h Z7i:=pcT Tryz.func208 rfl (by kernel_rfl) (by kernel_rfl) (by kernel_rfl)
open Qq in
def Z7k:RCode :=
 .seq (r 0 [b 1 0,w 2 (.alloc [O,O])]) (.seq (r 1 [f 3 0 1,l 4 3,f 5 1 1,l 6 5,w 7 (.build [O,O] [(0,1,.t 4),(1,1,.t 6)]),s 2 2 7]) .ret)
def Z7l:List RRes:=[.c 2 true 2]
theorem Z7m:PCt Tryz.prog 251 Tryz.f251 Z7k Z7l:=pcT Tryz.func251 rfl (by kernel_rfl) (by kernel_rfl) (by kernel_rfl)
open Qq in
def Z7n:RCode :=
 .seq (r 0 [b 1 0,n 2 (.bool false)]) (.seq (r 1 [f 3 0 1,l 4 3,w 5 (.bsl false 1 1 [O] [(0,.t 4)]),w 6 (.call 194 [.c I,.c (.int .i64 9999),.t 5]),m 7 6,g 7 true (f 8 1 1),g 7 true (l 9 8),g 7 true (w 10 (.bsl false 1 1 [O] [(0,.t 9)])),g 7 true (w 11 (.call 194 [.c I,.c (.int .i64 8),.t 10])),v 12 7 11,m 2 12]) .ret)
def Z7o:List RRes:=[.t 2]
theorem Z7p:PCt Tryz.prog 260 Tryz.f260 Z7n Z7o:=pcT Tryz.func260 rfl (by kernel_rfl) (by kernel_rfl) (by kernel_rfl)
open Qq in
def Z7q:RCode :=
 .seq (r 0 [b 1 0,n 2 (.bool false)]) (.seq (.seq (r 1 [f 3 2 1,l 4 3,k 5 .eql 4 (.int .u8 1)]) (.cond (.t 5) (.seq (r 2 [f 6 3 1,l 7 6,e 8 7,w 9 (.bsl false 1 1 [O] [(0,.t 8)]),w 10 (.call 194 [.c I,.c (.int .i64 8),.t 9]),m 11 10,g 11 true (f 12 4 1),g 11 true (l 13 12),g 11 true (e 14 13),g 11 true (k 15 .eql 14 O),v 16 11 15,m 2 16]) .ret) .skip)) (.seq (r 3 [f 17 2 1,l 18 17,w 19 (.conv .i64 (.t 18)),w 20 (.bsl false 1 1 [O] [(0,.t 19)]),w 21 (.call 194 [.c (.int .i64 2),.c (.int .i64 3),.t 20]),m 22 21,g 22 true (f 23 4 1),g 22 true (l 24 23),g 22 true (e 25 24),g 22 true (k 26 .leq 25 (.int .i64 4)),v 27 22 26,m 28 27,g 28 true (f 29 3 1),g 28 true (l 30 29),g 28 true (e 31 30),g 28 true (k 32 .eql 31 O),v 33 28 32,m 2 33]) .ret))
def Z7r:List RRes:=[.t 2]
theorem Z7s:PCt Tryz.prog 261 Tryz.f261 Z7q Z7r:=pcT Tryz.func261 rfl (by kernel_rfl) (by kernel_rfl) (by kernel_rfl)
open Qq in
def Z7t:RCode :=
 .seq (r 0 [b 1 0,n 2 (.bool false)]) (.seq (.seq (r 1 [f 5 3 1,l 6 5,e 7 6,n 8 O]) (.block 0 (.loop (.seq (r 2 [o 9 .lss 8 7]) (.seq (.cond (.t 9) .skip (.exit 0)) (.seq (.block 1 (.seq (r 3 [m 10 8,i 11 2 6 8,L 12 2 11,w 4 (.alloc [O,O]),m 3 10,s 2 4 12]) (.seq (R 4 [f 13 0 4,a [0] (l 14 13),a [1] (w 15 (.bsl false 1 1 [O] [(0,.t 14)])),a [2] (w 16 (.call 194 [.c I,.c (.int .i64 9999),.t 15])),a [3] (t 17 16),a [4,3] (m 18 17),a [5] (g 18 false (f 19 1 4)),a [6,5] (g 18 false (l 20 19)),a [7,5] (g 18 false (w 21 (.bsl false 1 1 [O] [(0,.t 20)]))),a [8,5,5] (g 18 false (w 22 (.call 194 [.c I,.c (.int .i64 20),.t 21]))),a [9,5] (g 18 false (t 23 22)),a [5,10] (u 24 18 23),a [11,9] (m 25 24),a [12] (g 25 false (f 26 0 4)),a [13,12] (g 25 false (l 27 26)),a [12] (g 25 false (f 28 0 1)),a [15,12] (g 25 false (l 29 28)),a [14,16,12] (g 25 false (o 30 .eql 27 29)),a [12,17] (u 31 25 30),a [18,12] (m 32 31),a [19] (g 32 false (m 33 3)),a [20,19] (g 32 false (k 34 .gtr 33 O)),a [21,19,19] (g 32 false (m 35 34)),a [22] (g 35 true (f 36 3 1)),a [23,22] (g 35 true (l 37 36)),a [22] (g 35 true (m 38 3)),a [25,22] (g 35 true (k 39 .sub 38 I)),a [24,26,22] (g 35 true (i 40 2 37 39)),a [27,22] (g 35 true (f 41 0 40)),a [28,22] (g 35 true (l 42 41)),a [22] (g 35 true (f 43 0 4)),a [30,22] (g 35 true (l 44 43)),a [29,31,22] (g 35 true (o 45 .geq 42 44)),a [22,32,19] (g 32 false (v 46 35 45)),a [19,33] (u 47 32 46)]) (.cond (.t 47) (.seq (r 5 [n 2 (.bool false)]) .ret) .skip)))) (r 6 [k 48 .add 8 I,m 8 48]))))))) (.seq (r 7 [n 2 (.bool true)]) .ret))
def Z7u:List RRes:=[.t 2]
theorem Z7v:PCt Tryz.prog 262 Tryz.f262 Z7t Z7u:=pcT Tryz.func262 rfl (by kernel_rfl) (by kernel_rfl) (by kernel_rfl)
open Qq in
def Z7w:RCode :=
 .seq (r 0 [b 1 0,n 2 (.bool false)]) (.seq (r 1 [f 3 4 1,l 4 3,w 5 (.call 264 [.t 4,.c (.func (.func 265) [] [])]),t 6 5,m 2 6]) .ret)
def Z7x:List RRes:=[.t 2]
theorem Z7y:PCt Tryz.prog 263 Tryz.f263 Z7w Z7x:=pcT Tryz.func263 rfl (by kernel_rfl) (by kernel_rfl) (by kernel_rfl)
open Qq in
def Z7z:RCode :=
 .seq (r 0 [b 1 0,n 2 (.bool false)]) (.seq (r 1 [L 3 3 1,c 4 266 [3],k 5 .neq 4 O,m 2 5]) .ret)
def Z7A:List RRes:=[.t 2]
theorem Z7B:PCt Tryz.prog 265 Tryz.f265 Z7z Z7A:=pcT Tryz.func265 rfl (by kernel_rfl) (by kernel_rfl) (by kernel_rfl)
open Qq in
def Z7C:RCode :=
 .seq (r 0 [n 4 (.bool false)]) (.seq (r 1 [m 5 0,m 6 1,c 7 267 [5,6],k 8 .geq 7 O,m 4 8]) .ret)
def Z7D:List RRes:=[.t 4]
theorem Z7E:PCt Tryz.prog 264 Tryz.f264 Z7C Z7D:=pcT Tryz.func264 rfl (by kernel_rfl) (by kernel_rfl) (by kernel_rfl)
open Qq in
def Z7F:RCode :=
 .seq (r 0 [n 4 O]) (.seq (.seq (r 1 [m 6 0,e 7 6,n 8 O]) (.block 0 (.loop (.seq (r 2 [o 9 .lss 8 7]) (.seq (.cond (.t 9) .skip (.exit 0)) (.seq (.block 1 (.seq (r 3 [m 10 8,m 5 10]) (.seq (r 4 [m 11 1,m 12 0,m 13 5,i 14 3 12 13,L 15 3 14,w 16 (.callv (.t 11) [.t 15])]) (.cond (.t 16) (.seq (r 5 [m 17 5,m 4 17]) .ret) .skip)))) (r 6 [k 18 .add 8 I,m 8 18]))))))) (.seq (r 7 [n 4 (.int .i64 (-1))]) .ret))
def Z7G:List RRes:=[.t 4]
theorem Z7H:PCt Tryz.prog 267 Tryz.f267 Z7F Z7G:=pcT Tryz.func267 rfl (by kernel_rfl) (by kernel_rfl) (by kernel_rfl)
open Qq in
def Z7I:RCode :=
 .seq (r 0 [n 4 (.bool false)]) (.seq (r 1 [m 5 0,m 6 1,c 7 209 [5,6],k 8 .geq 7 O,m 4 8]) .ret)
def Z7J:List RRes:=[.t 4]
theorem Z7K:PCt Tryz.prog 195 Tryz.f195 Z7I Z7J:=pcT Tryz.func195 rfl (by kernel_rfl) (by kernel_rfl) (by kernel_rfl)
open Qq in
def Z7L:RCode :=
 .seq (r 0 [n 4 O]) (.seq (.seq (r 1 [m 6 0,e 7 6,n 8 O]) (.block 0 (.loop (.seq (r 2 [o 9 .lss 8 7]) (.seq (.cond (.t 9) .skip (.exit 0)) (.seq (.block 1 (.seq (r 3 [m 10 8,m 5 10]) (.seq (r 4 [m 11 1,m 12 0,m 13 5,i 14 2 12 13,L 15 2 14,w 16 (.callv (.t 11) [.t 15])]) (.cond (.t 16) (.seq (r 5 [m 17 5,m 4 17]) .ret) .skip)))) (r 6 [k 18 .add 8 I,m 8 18]))))))) (.seq (r 7 [n 4 (.int .i64 (-1))]) .ret))
def Z7M:List RRes:=[.t 4]
theorem Z7N:PCt Tryz.prog 209 Tryz.f209 Z7L Z7M:=pcT Tryz.func209 rfl (by kernel_rfl) (by kernel_rfl) (by kernel_rfl)
open Qq in
def Z7O:RCode :=
 .seq (r 0 [b 2 0,n 3 (.bool false)]) (.seq (r 1 [l 4 1,f 5 0 2,l 6 5,c 7 197 [4,6],t 8 7,m 3 8]) .ret)
def Z7P:List RRes:=[.t 3]
theorem Z7Q:PCt Tryz.prog 196 Tryz.f196 Z7O Z7P:=pcT Tryz.func196 rfl (by kernel_rfl) (by kernel_rfl) (by kernel_rfl)
open Qq in
def Z7R:RCode :=
 .seq (r 0 [n 4 (.bool false)]) (.seq (r 1 [m 8 0,w 9 (.nilck (.t 8)),f 10 1 9,l 11 10,m 12 1,c 13 210 [11,12],m 7 13,x 14 0 7,x 15 1 7,m 5 14,m 6 15]) (.seq (r 2 [m 16 6,m 4 16]) .ret))
def Z7S:List RRes:=[.t 4]
theorem Z7T:PCt Tryz.prog 197 Tryz.f197 Z7R Z7S:=pcT Tryz.func197 rfl (by kernel_rfl) (by kernel_rfl) (by kernel_rfl)
open Qq in
def Z7U:RCode :=
 .seq (r 0 [n 4 O,n 5 (.bool false)]) (.seq (r 1 [m 10 0,e 11 10,m 6 11]) (.seq (r 2 [m 12 6,n 7 O,m 8 12]) (.seq (.block 0 (.loop (.seq (.seq (r 3 [m 13 7,m 14 8,o 15 .lss 13 14]) (.cond (.t 15) .skip (.exit 0))) (.block 1 (.seq (r 4 [m 16 7,m 17 8,o 18 .add 16 17,w 19 (.conv .u64 (.t 18)),w 20 (.vop (.sh false) [(.t 19),(.c (.int .u64 1))]),w 21 (.conv .i64 (.t 20)),m 9 21]) (.seq (r 5 [m 22 0,m 23 9,i 24 1 22 23,l 25 24,m 26 1,c 27 189 [25,26]]) (.cond (.t 27) (r 6 [m 28 9,k 29 .add 28 I,m 7 29]) (r 7 [m 30 9,m 8 30])))))))) (.seq (r 8 [m 31 7,m 32 7,m 33 6,o 34 .lss 32 33,m 35 34,g 35 true (m 36 0),g 35 true (m 37 7),g 35 true (i 38 1 36 37),g 35 true (l 39 38),g 35 true (m 40 1),g 35 true (o 41 .eql 39 40),g 35 true (m 42 41),g 42 false (m 43 0),g 42 false (m 44 7),g 42 false (i 45 1 43 44),g 42 false (l 46 45),g 42 false (c 47 214 [46]),g 42 false (m 48 47),g 48 true (m 49 1),g 48 true (c 50 214 [49]),g 42 false (v 51 48 50),g 35 true (u 52 42 51),v 53 35 52,m 4 31,m 5 53]) .ret))))
def Z7V:List RRes:=[.t 4,.t 5]
theorem Z7W:PCt Tryz.prog 210 Tryz.f210 Z7U Z7V:=pcT Tryz.func210 rfl (by kernel_rfl) (by kernel_rfl) (by kernel_rfl)
open Qq in
def Z7X:RCode :=
 .seq (r 0 [n 4 (.bool false)]) (.seq (r 1 [m 5 0,c 6 157 [5],m 7 6,g 7 true (m 8 1),g 7 true (c 9 157 [8]),g 7 true (t 10 9),v 11 7 10,m 12 11,g 12 false (m 13 0),g 12 false (m 14 1),g 12 false (o 15 .lss 13 14),u 16 12 15,m 4 16]) .ret)
def Z7Y:List RRes:=[.t 4]
theorem Z7Z:PCt Tryz.prog 189 Tryz.f189 Z7X Z7Y:=pcT Tryz.func189 rfl (by kernel_rfl) (by kernel_rfl) (by kernel_rfl)
open Qq in
def Z80:RCode :=
 .seq (r 0 [n 2 (.bool false)]) (.seq (r 1 [m 3 0,m 4 0,o 5 .neq 3 4,m 2 5]) .ret)
def Z81:List RRes:=[.t 2]
theorem Z82:PCt Tryz.prog 157 Tryz.f157 Z80 Z81:=pcT Tryz.func157 rfl (by kernel_rfl) (by kernel_rfl) (by kernel_rfl)
open Qq in
def Z83:RCode :=
 .seq (r 0 [n 2 (.bool false)]) (.seq (r 1 [m 3 0,m 4 0,o 5 .neq 3 4,m 2 5]) .ret)
def Z84:List RRes:=[.t 2]
theorem Z85:PCt Tryz.prog 214 Tryz.f214 Z83 Z84:=pcT Tryz.func214 rfl (by kernel_rfl) (by kernel_rfl) (by kernel_rfl)
open Qq in
def Z86:RCode :=
 .seq (r 0 [n 4 O]) (.seq (r 1 [m 7 0,c 8 157 [7],m 5 8]) (.seq (r 2 [m 9 1,c 10 157 [9],m 6 10]) (.seq (.seq (r 3 [m 11 5]) (.cond (.t 11) (.seq (.seq (r 4 [m 12 6]) (.cond (.t 12) (.seq (r 5 [n 4 O]) .ret) .skip)) (.seq (r 6 [n 4 (.int .i64 (-1))]) .ret)) .skip)) (.seq (.seq (r 7 [m 13 6]) (.cond (.t 13) (.seq (r 8 [n 4 I]) .ret) .skip)) (.seq (.seq (r 9 [m 14 0,m 15 1,o 16 .lss 14 15]) (.cond (.t 16) (.seq (r 10 [n 4 (.int .i64 (-1))]) .ret) .skip)) (.seq (.seq (r 11 [m 17 0,m 18 1,o 19 .gtr 17 18]) (.cond (.t 19) (.seq (r 12 [n 4 I]) .ret) .skip)) (.seq (r 13 [n 4 O]) .ret)))))))
def Z87:List RRes:=[.t 4]
theorem Z88:PCt Tryz.prog 107 Tryz.f107 Z86 Z87:=pcT Tryz.func107 rfl (by kernel_rfl) (by kernel_rfl) (by kernel_rfl)
open Qq in
def Z89:RCode :=
 .seq (r 0 [n 6 O,n 7 (.bool false)]) (.seq (r 1 [m 12 0,e 13 12,m 8 13]) (.seq (r 2 [m 14 8,n 9 O,m 10 14]) (.seq (.block 0 (.loop (.seq (.seq (r 3 [m 15 9,m 16 10,o 17 .lss 15 16]) (.cond (.t 17) .skip (.exit 0))) (.block 1 (.seq (r 4 [m 18 9,m 19 10,o 20 .add 18 19,w 21 (.conv .u64 (.t 20)),w 22 (.vop (.sh false) [(.t 21),(.c (.int .u64 1))]),w 23 (.conv .i64 (.t 22)),m 11 23]) (.seq (r 5 [m 24 2,m 25 0,m 26 11,i 27 5 25 26,L 28 5 27,m 29 1,w 30 (.callv (.t 24) [.t 28,.t 29]),k 31 .lss 30 O]) (.cond (.t 31) (r 6 [m 32 11,k 33 .add 32 I,m 9 33]) (r 7 [m 34 11,m 10 34])))))))) (.seq (r 8 [m 35 9,m 36 9,m 37 8,o 38 .lss 36 37,m 39 38,g 39 true (m 40 2),g 39 true (m 41 0),g 39 true (m 42 9),g 39 true (i 43 5 41 42),g 39 true (L 44 5 43),g 39 true (m 45 1),g 39 true (w 46 (.callv (.t 40) [.t 44,.t 45])),g 39 true (k 47 .eql 46 O),v 48 39 47,m 6 35,m 7 48]) .ret))))
def Z8a:List RRes:=[.t 6,.t 7]
theorem Z8b:PCt Tryz.prog 216 Tryz.f216 Z89 Z8a:=pcT Tryz.func216 rfl (by kernel_rfl) (by kernel_rfl) (by kernel_rfl)
open Qq in
def Z8c:RCode :=
 .seq (r 0 [b 2 0,b 3 1,n 4 .nilf]) (.seq (r 1 [w 5 (.mkf (.func 215) [] [.t 2,.t 3]),m 4 5]) .ret)
def Z8d:List RRes:=[.t 4]
theorem Z8e:PCt Tryz.prog 211 Tryz.f211 Z8c Z8d:=pcT Tryz.func211 rfl (by kernel_rfl) (by kernel_rfl) (by kernel_rfl)
open Qq in
def Z8f:RCode :=
 .seq (r 0 [b 2 0,n 4 O]) (.seq (r 1 [f 5 0 2,l 6 5,m 7 1,c 8 107 [6,7],m 4 8]) .ret)
def Z8g:List RRes:=[.t 4]
theorem Z8h:PCt Tryz.prog 217 Tryz.f217 Z8f Z8g:=pcT Tryz.func217 rfl (by kernel_rfl) (by kernel_rfl) (by kernel_rfl)
open Qq in
def Z8i:RCode :=
 .seq (r 0 [b 3 1,w 4 (.alloc [O,O,.int .u8 0,.nils,.nils]),w 5 (.alloc [.bool false])]) (.seq (.seq (r 1 [m 7 0,f 8 0 3,l 9 8,c 10 211 [7,9]]) (.block 0 (.rngf (.t 10) [11] (r 2 [w 6 (.alloc [O,O,.int .u8 0,.nils,.nils]),s 5 6 11]) (.block 1 (.seq (R 3 [L 12 5 6,a [0] (c 13 251 [12]),L 14 2 3,a [1,2] (w 15 (.eqs false [.i,.i] (.t 13) (.t 14)))]) (.cond (.t 15) (.seq (r 4 [L 16 5 6,s 5 4 16,z (.store 1 (.t 5) (.c (.bool true)))]) .ret) .skip)))))) (.seq (r 5 [w 17 (.build [O,O,.int .u8 0,.nils,.nils] []),s 5 4 17,z (.store 1 (.t 5) (.c (.bool false)))]) .ret))
def Z8j:List RRes:=[.c 4 true 5,.c 5 false 1]
theorem Z8k:PCt Tryz.prog 249 Tryz.f249 Z8i Z8j:=pcT Tryz.func249 rfl (by kernel_rfl) (by kernel_rfl) (by kernel_rfl)
open Qq in
def Z8l:RCode :=
 .seq (r 0 [n 2 .nilm,n 3 (.bool false)]) (.seq (r 1 [w 15 (.mkmap),w 4 (.alloc [.nilm]),s 1 4 15]) (.seq (r 2 [w 16 (.mkmap),w 5 (.alloc [.nilm]),s 1 5 16]) (.seq (.seq (r 3 [m 17 0,w 18 (.nilck (.t 17)),f 19 1 18,l 20 19,e 21 20,n 22 O]) (.block 0 (.loop (.seq (r 4 [o 23 .lss 22 21]) (.seq (.cond (.t 23) .skip (.exit 0)) (.seq (.block 1 (.seq (r 5 [i 24 1 20 22,l 25 24,m 7 25]) (r 6 [l 26 5,m 27 7,z (.mupd (.i .i64) (.t 26) (.t 27) (.c (.bool true)))]))) (r 7 [k 28 .add 22 I,m 22 28]))))))) (.seq (.seq (r 8 [m 29 0,w 30 (.nilck (.t 29)),f 31 1 30,l 32 31,e 33 32,n 34 O]) (.block 2 (.loop (.seq (r 9 [o 35 .lss 34 33]) (.seq (.cond (.t 35) .skip (.exit 2)) (.seq (.block 3 (.seq (r 10 [m 36 0,w 37 (.nilck (.t 36)),f 38 1 37,l 39 38,e 40 39,n 41 O]) (.block 4 (.loop (.seq (r 11 [o 42 .lss 41 40]) (.seq (.cond (.t 42) .skip (.exit 4)) (.seq (.block 5 (.seq (r 12 [i 43 1 39 41,l 44 43,m 9 44]) (.seq (R 13 [l 45 5,m 46 9,a [0,1] (w 47 (.look (.i .i64) (.bool false) false (.t 45) (.t 46))),w 10 (.alloc [O]),w 11 (.alloc [.bool false]),a [3,3,4] (z (.store 1 (.t 10) (.c O))),a [4,2,5,0,1,2,3,4,5] (s 1 11 47)]) (.seq (.seq (r 14 [m 48 0,m 49 9,c 50 211 [48,49]]) (.block 6 (.rngf (.t 50) [51] (r 15 [w 12 (.alloc [O,O,.int .u8 0,.nils,.nils]),s 5 12 51]) (.block 7 (.seq (r 16 [f 52 3 12,l 53 52,e 54 53,n 55 O]) (.block 8 (.loop (.seq (r 17 [o 56 .lss 55 54]) (.seq (.cond (.t 56) .skip (.exit 8)) (.seq (.block 9 (.seq (r 18 [i 57 2 53 55,L 58 2 57,w 14 (.alloc [O,O]),s 2 14 58]) (.seq (r 19 [l 59 11,m 60 59,g 60 true (l 61 5),g 60 true (f 62 0 14),g 60 true (l 63 62),g 60 true (w 64 (.look (.i .i64) (.bool false) false (.t 61) (.t 63))),g 60 true (t 65 64),v 66 60 65,s 1 11 66]) (r 20 [l 67 10,l 68 4,f 69 0 14,l 70 69,w 71 (.look (.i .i64) O false (.t 68) (.t 70)),w 72 (.mx true (.t 67) [.t 71]),s 1 10 72])))) (r 21 [k 73 .add 55 I,m 55 73]))))))))))) (.seq (r 22 [l 74 11]) (.cond (.t 74) (.seq (r 23 [l 75 4,m 76 9,l 77 10,k 78 .add 77 I,z (.mupd (.i .i64) (.t 75) (.t 76) (.t 78))]) (r 24 [l 79 5,m 80 9,z (.mdel (.i .i64) (.t 79) (.t 80))])) .skip)))))) (r 25 [k 81 .add 41 I,m 41 81])))))))) (r 26 [k 82 .add 34 I,m 34 82]))))))) (.seq (r 27 [l 83 4,l 84 5,w 85 (.mlen (.t 84)),k 86 .gtr 85 O,m 2 83,m 3 86]) .ret)))))
def Z8m:List RRes:=[.t 2,.t 3]
theorem Z8n:PCt Tryz.prog 198 Tryz.f198 Z8l Z8m:=pcT Tryz.func198 rfl (by kernel_rfl) (by kernel_rfl) (by kernel_rfl)
open Qq in
def Z8o:RCode :=
 .seq (r 0 [b 1 0,w 2 (.alloc [O,O,.int .u8 0,.nils,.nils])]) (.seq (R 1 [f 3 3 1,a [0] (l 4 3),a [1] (w 5 (.calln 121 [.t 4])),f 6 4 1,a [3] (l 7 6),a [4,2] (w 8 (.calln 122 [.t 7])),a [0,1,2,3,4] (f 9 3 1),a [6,2,5,0,1,2,3,4] (s 1 9 5),a [0,1,2,3,4,5,6,7] (f 10 4 1),a [8,5,7,0,1,2,3,4,5,6,7] (s 1 10 8)]) (.seq (r 2 [L 11 5 1,s 5 2 11]) .ret))
def Z8p:List RRes:=[.c 2 true 5]
theorem Z8q:PCt Tryz.prog 250 Tryz.f250 Z8o Z8p:=pcT Tryz.func250 rfl (by kernel_rfl) (by kernel_rfl) (by kernel_rfl)
open Qq in
def Z8r:RCode :=
 .seq (r 0 [n 2 .nils]) (.seq (.seq (r 1 [m 3 0,w 4 (.vop (.eqn false) [(.t 3),(.c .nils)])]) (.cond (.t 4) (.seq (r 2 [n 2 .nils]) .ret) .skip)) (.seq (r 3 [w 5 (.bsl true 2 0 [] []),m 6 0,w 7 (.app 2 16 (.t 5) (.t 6)),m 2 7]) .ret))
def Z8s:List RRes:=[.t 2]
open Qq in
def Z8t:RCode :=
 .seq (r 0 [n 2 .nils]) (.seq (.seq (r 1 [m 3 0,w 4 (.vop (.eqn false) [(.t 3),(.c .nils)])]) (.cond (.t 4) (.seq (r 2 [n 2 .nils]) .ret) .skip)) (.seq (r 3 [w 5 (.bsl true 3 0 [] []),m 6 0,w 7 (.app 3 24 (.t 5) (.t 6)),m 2 7]) .ret))
def Z8u:List RRes:=[.t 2]
open Qq in
def Z8v:RCode :=
 .seq (r 0 [b 1 0,n 2 .nils,n 3 O]) (.seq (r 1 [L 7 1 1,c 8 168 [7],m 6 8,x 9 0 6,x 10 1 6,m 4 9,m 5 10]) (.seq (.seq (r 2 [m 11 5,k 12 .neq 11 O]) (.cond (.t 12) (.seq (r 3 [m 13 5,n 2 .nils,m 3 13]) .ret) .skip)) (.seq (r 4 [m 14 4,w 15 (.nilck (.t 14)),f 16 1 15,l 17 16,m 2 17,n 3 O]) .ret)))
def Z8w:List RRes:=[.t 2,.t 3]
theorem Z8x:PCt Tryz.prog 131 Tryz.f131 Z8v Z8w:=pcT Tryz.func131 rfl (by kernel_rfl) (by kernel_rfl) (by kernel_rfl)
open Qq in
def Z8y:RCode :=
 .seq (r 0 [b 2 0,b 3 1,w 4 (.alloc [O,O,.int .u8 0,.nils,.nils]),n 5 O]) (.seq (r 1 [L 11 1 2,c 12 168 [11],m 10 12,x 13 0 10,x 14 1 10,m 6 13,m 7 14]) (.seq (.seq (r 2 [m 15 7,k 16 .neq 15 O]) (.cond (.t 16) (.seq (r 3 [w 17 (.build [O,O,.int .u8 0,.nils,.nils] []),m 18 7,s 5 4 17,m 5 18]) .ret) .skip)) (.seq (r 4 [m 20 6,L 21 2 3,c 22 249 [20,21],m 19 22,x 23 0 19,x 24 1 19,w 8 (.alloc [O,O,.int .u8 0,.nils,.nils]),s 5 8 23,m 9 24]) (.seq (.seq (r 5 [m 25 9,t 26 25]) (.cond (.t 26) (.seq (r 6 [w 27 (.build [O,O,.int .u8 0,.nils,.nils] []),s 5 4 27,n 5 (.int .i64 6)]) .ret) .skip)) (.seq (r 7 [L 28 5 8,c 29 250 [28],s 5 4 29,n 5 O]) .ret)))))
def Z8z:List RRes:=[.c 4 true 5,.t 5]
theorem Z8A:PCt Tryz.prog 241 Tryz.f241 Z8y Z8z:=pcT Tryz.func241 rfl (by kernel_rfl) (by kernel_rfl) (by kernel_rfl)
open Qq in
def Z8B:RCode :=
 .seq (r 0 [n 6 (.bool false)]) (.seq (r 1 [m 7 0,m 8 1,o 9 .geq 7 8,m 10 9,g 10 true (m 11 0),g 10 true (m 12 2),g 10 true (o 13 .leq 11 12),v 14 10 13,m 6 14]) .ret)
def Z8C:List RRes:=[.t 6]
theorem Z8D:PCt Tryz.prog 218 Tryz.f218 Z8B Z8C:=pcT Tryz.func218 rfl (by kernel_rfl) (by kernel_rfl) (by kernel_rfl)
open Qq in
def Z8E:RCode :=
 .seq (r 0 [b 1 0,n 2 (.bool false)]) (.seq (r 1 [f 3 0 1,l 4 3,w 5 (.call 218 [.t 4,.c O,.c (.int .i64 1000000000)]),m 6 5,g 6 true (f 7 2 1),g 6 true (l 8 7),g 6 true (w 9 (.call 218 [.t 8,.c O,.c (.int .i64 1000000000)])),v 10 6 9,m 11 10,g 11 true (f 12 1 1),g 11 true (l 13 12),g 11 true (f 14 2 1),g 11 true (l 15 14),g 11 true (w 16 (.call 218 [.t 13,.c O,.t 15])),v 17 11 16,m 2 17]) .ret)
def Z8F:List RRes:=[.t 2]
theorem Z8G:PCt Tryz.prog 212 Tryz.f212 Z8E Z8F:=pcT Tryz.func212 rfl (by kernel_rfl) (by kernel_rfl) (by kernel_rfl)
open Qq in
def Z8H:RCode :=
 .seq (r 0 [n 6 (.bool false)]) (.seq (r 1 [m 7 0,m 8 1,o 9 .geq 7 8,m 10 9,g 10 true (m 11 0),g 10 true (m 12 2),g 10 true (o 13 .leq 11 12),v 14 10 13,m 6 14]) .ret)
def Z8I:List RRes:=[.t 6]
theorem Z8J:PCt Tryz.prog 199 Tryz.f199 Z8H Z8I:=pcT Tryz.func199 rfl (by kernel_rfl) (by kernel_rfl) (by kernel_rfl)
open Qq in
def Z8K:RCode :=
 .seq (r 0 [b 1 0,n 2 (.bool false)]) (.seq (.seq (r 1 [f 6 0 1,l 7 6,w 8 (.call 199 [.t 7,.c I,.c (.int .i64 9999)]),t 9 8,m 10 9,g 10 false (f 11 1 1),g 10 false (l 12 11),g 10 false (w 13 (.call 199 [.t 12,.c I,.c (.int .i64 8)])),g 10 false (t 14 13),u 15 10 14,m 16 15,g 16 false (f 17 2 1),g 16 false (l 18 17),g 16 false (w 19 (.conv .i64 (.t 18))),g 16 false (w 20 (.call 199 [.t 19,.c I,.c (.int .i64 3)])),g 16 false (t 21 20),u 22 16 21,m 23 22,g 23 false (f 24 2 1),g 23 false (l 25 24),g 23 false (k 26 .eql 25 (.int .u8 1)),g 23 false (m 27 26),g 27 true (f 28 3 1),g 27 true (l 29 28),g 27 true (e 30 29),g 27 true (w 31 (.call 199 [.t 30,.c I,.c (.int .i64 8)])),g 27 true (t 32 31),g 27 true (m 33 32),g 33 false (f 34 4 1),g 33 false (l 35 34),g 33 false (e 36 35),g 33 false (k 37 .gtr 36 O),g 27 true (u 38 33 37),g 23 false (v 39 27 38),u 40 23 39,m 41 40,g 41 false (f 42 2 1),g 41 false (l 43 42),g 41 false (k 44 .gtr 43 (.int .u8 1)),g 41 false (m 45 44),g 45 true (f 46 4 1),g 45 true (l 47 46),g 45 true (e 48 47),g 45 true (k 49 .gtr 48 (.int .i64 4)),g 45 true (m 50 49),g 50 false (f 51 3 1),g 50 false (l 52 51),g 50 false (e 53 52),g 50 false (k 54 .gtr 53 O),g 45 true (u 55 50 54),g 41 false (v 56 45 55),u 57 41 56]) (.cond (.t 57) (.seq (r 2 [n 2 (.bool false)]) .ret) .skip)) (.seq (.seq (r 3 [n 3 O]) (.block 0 (.loop (.seq (.seq (r 4 [m 58 3,f 59 3 1,l 60 59,e 61 60,o 62 .lss 58 61]) (.cond (.t 62) .skip (.exit 0))) (.seq (.block 1 (.seq (r 6 [f 65 3 1,l 66 65,m 67 3,i 68 2 66 67,L 69 2 68,w 4 (.alloc [O,O]),s 2 4 69]) (.seq (R 7 [f 70 0 4,a [0] (l 71 70),a [1] (w 72 (.call 199 [.t 71,.c I,.c (.int .i64 9999)])),a [2] (t 73 72),a [3,2] (m 74 73),a [4] (g 74 false (f 75 1 4)),a [5,4] (g 74 false (l 76 75)),a [6,4,4] (g 74 false (w 77 (.call 199 [.t 76,.c I,.c (.int .i64 20)]))),a [7,4] (g 74 false (t 78 77)),a [4,8] (u 79 74 78),a [9,7] (m 80 79),a [10] (g 80 false (f 81 0 4)),a [11,10] (g 80 false (l 82 81)),a [10] (g 80 false (f 83 0 1)),a [13,10] (g 80 false (l 84 83)),a [12,14,10] (g 80 false (o 85 .eql 82 84)),a [10,15] (u 86 80 85),a [16,10] (m 87 86),a [17] (g 87 false (m 88 3)),a [18,17] (g 87 false (k 89 .gtr 88 O)),a [19,17,17] (g 87 false (m 90 89)),a [20] (g 90 true (f 91 3 1)),a [21,20] (g 90 true (l 92 91)),a [20] (g 90 true (m 93 3)),a [23,20] (g 90 true (k 94 .sub 93 I)),a [22,24,20] (g 90 true (i 95 2 92 94)),a [25,20] (g 90 true (f 96 0 95)),a [26,20] (g 90 true (l 97 96)),a [20] (g 90 true (f 98 0 4)),a [28,20] (g 90 true (l 99 98)),a [27,29,20] (g 90 true (o 100 .geq 97 99)),a [20,30,17] (g 87 false (v 101 90 100)),a [17,31] (u 102 87 101)]) (.cond (.t 102) (.seq (r 8 [n 2 (.bool false)]) .ret) .skip)))) (r 5 [m 63 3,k 64 .add 63 I,m 3 64])))))) (.seq (.seq (r 9 [n 5 O]) (.block 2 (.loop (.seq (.seq (r 10 [m 103 5,f 104 4 1,l 105 104,e 106 105,o 107 .lss 103 106]) (.cond (.t 107) .skip (.exit 2))) (.seq (.block 3 (.seq (r 12 [f 110 4 1,l 111 110,m 112 5,i 113 3 111 112,L 114 3 113,c 115 212 [114],t 116 115]) (.cond (.t 116) (.seq (r 13 [n 2 (.bool false)]) .ret) .skip))) (r 11 [m 108 5,k 109 .add 108 I,m 5 109])))))) (.seq (r 14 [n 2 (.bool true)]) .ret))))
def Z8L:List RRes:=[.t 2]
theorem Z8M:PCt Tryz.prog 200 Tryz.f200 Z8K Z8L:=pcT Tryz.func200 rfl (by kernel_rfl) (by kernel_rfl) (by kernel_rfl)
open Qq in
def Z8N:RCode :=
 .seq (r 0 [b 1 0,n 2 .nils]) (.seq (r 1 [n 3 .nils]) (.seq (.seq (r 2 [n 4 O]) (.block 0 (.loop (.seq (.seq (r 3 [m 6 4,f 7 0 1,l 8 7,e 9 8,o 10 .lss 6 9]) (.cond (.t 10) .skip (.exit 0))) (.seq (.block 1 (.seq (r 5 [f 13 0 1,l 14 13,m 15 4,i 16 5 14 15,f 17 0 16,l 18 17,m 5 18]) (.seq (r 6 [m 19 4,k 20 .eql 19 O,m 21 20,g 21 false (f 22 0 1),g 21 false (l 23 22),g 21 false (m 24 4),g 21 false (k 25 .sub 24 I),g 21 false (i 26 5 23 25),g 21 false (f 27 0 26),g 21 false (l 28 27),g 21 false (m 29 5),g 21 false (o 30 .neq 28 29),u 31 21 30]) (.cond (.t 31) (r 7 [m 32 3,m 33 5,w 34 (.bsl false 1 1 [O] [(0,.t 33)]),w 35 (.app 1 8 (.t 32) (.t 34)),m 3 35]) .skip)))) (r 4 [m 11 4,k 12 .add 11 I,m 4 12])))))) (.seq (r 8 [m 36 3,m 2 36]) .ret)))
def Z8O:List RRes:=[.t 2]
theorem Z8P:PCt Tryz.prog 54 Tryz.f54 Z8N Z8O:=pcT Tryz.func54 rfl (by kernel_rfl) (by kernel_rfl) (by kernel_rfl)
open Qq in
def Z8Q:RCode :=
 .seq (r 0 [n 4 O]) (.seq (.seq (r 1 [n 5 O]) (.block 0 (.loop (.seq (.seq (r 2 [m 6 5,m 7 0,e 8 7,o 9 .lss 6 8]) (.cond (.t 9) .skip (.exit 0))) (.seq (.block 1 (.seq (r 4 [m 12 0,m 13 5,i 14 1 12 13,l 15 14,m 16 1,o 17 .eql 15 16]) (.cond (.t 17) (.seq (r 5 [m 18 5,m 4 18]) .ret) .skip))) (r 3 [m 10 5,k 11 .add 10 I,m 5 11])))))) (.seq (r 6 [n 4 (.int .i64 (-1))]) .ret))
def Z8R:List RRes:=[.t 4]
theorem Z8S:PCt Tryz.prog 64 Tryz.f64 Z8Q Z8R:=pcT Tryz.func64 rfl (by kernel_rfl) (by kernel_rfl) (by kernel_rfl)
open Qq in
def Z8T:RCode :=
 .seq (r 0 [b 1 0,n 2 (.bool false)]) (.seq (.seq (r 1 [f 9 0 1,l 10 9,e 11 10,w 12 (.call 199 [.t 11,.c I,.c (.int .i64 60)]),t 13 12]) (.cond (.t 13) (.seq (r 2 [n 2 (.bool false)]) .ret) .skip)) (.seq (.seq (r 3 [n 3 O]) (.block 0 (.loop (.seq (.seq (r 4 [m 14 3,f 15 0 1,l 16 15,e 17 16,o 18 .lss 14 17]) (.cond (.t 18) .skip (.exit 0))) (.seq (.block 1 (.seq (r 6 [f 21 0 1,l 22 21,m 23 3,i 24 5 22 23,L 25 5 24,w 4 (.alloc [O,O,.int .u8 0,.nils,.nils]),s 5 4 25]) (.seq (.seq (r 7 [L 26 5 4,c 27 200 [26],t 28 27]) (.cond (.t 28) (.seq (r 8 [n 2 (.bool false)]) .ret) .skip)) (.seq (r 9 [w 29 (.build [O,O,.int .u8 0,.nils,.nils] []),w 5 (.alloc [O,O,.int .u8 0,.nils,.nils]),s 5 5 29]) (.seq (.seq (r 10 [m 30 3,k 31 .gtr 30 O]) (.cond (.t 31) (r 11 [f 32 0 1,l 33 32,m 34 3,k 35 .sub 34 I,i 36 5 33 35,L 37 5 36,s 5 5 37]) .skip)) (.block 2 (.seq (r 12 [f 39 0 4,l 40 39,f 41 0 5,l 42 41,o 43 .lss 40 42,m 38 43]) (.cond (.t 38) (.seq (r 13 [n 2 (.bool false)]) .ret) (.seq (r 14 [f 45 0 4,l 46 45,f 47 0 5,l 48 47,o 49 .gtr 46 48,m 44 49]) (.cond (.t 44) (.seq (r 15 [f 50 1 4,l 51 50,k 52 .neq 51 I]) (.cond (.t 52) (.seq (r 16 [n 2 (.bool false)]) .ret) .skip)) (.seq (r 17 [f 54 1 4,l 55 54,f 56 1 5,l 57 56,k 58 .add 57 I,o 59 .neq 55 58,m 60 59,g 60 false (f 61 2 4),g 60 false (l 62 61),g 60 false (f 63 2 5),g 60 false (l 64 63),g 60 false (o 65 .neq 62 64),u 66 60 65,m 53 66]) (.cond (.t 53) (.seq (r 18 [n 2 (.bool false)]) .ret) .skip)))))))))))) (r 5 [m 19 3,k 20 .add 19 I,m 3 20])))))) (.seq (r 19 [L 67 1 1,c 68 54 [67],m 6 68]) (.seq (.seq (r 20 [n 7 O]) (.block 3 (.loop (.seq (.seq (r 21 [m 69 7,f 70 0 1,l 71 70,e 72 71,o 73 .lss 69 72]) (.cond (.t 73) .skip (.exit 3))) (.seq (.block 4 (.seq (r 23 [n 8 O]) (.block 5 (.loop (.seq (.seq (r 24 [m 76 8,f 77 0 1,l 78 77,m 79 7,i 80 5 78 79,f 81 3 80,l 82 81,e 83 82,o 84 .lss 76 83]) (.cond (.t 84) .skip (.exit 5))) (.seq (.block 6 (.seq (r 26 [m 87 6,f 88 0 1,l 89 88,m 90 7,i 91 5 89 90,f 92 3 91,l 93 92,m 94 8,i 95 2 93 94,f 96 0 95,l 97 96,c 98 64 [87,97],k 99 .lss 98 O]) (.cond (.t 99) (.seq (r 27 [n 2 (.bool false)]) .ret) .skip))) (r 25 [m 85 8,k 86 .add 85 I,m 8 86]))))))) (r 22 [m 74 7,k 75 .add 74 I,m 7 75])))))) (.seq (r 28 [m 100 6,e 101 100,k 102 .leq 101 (.int .i64 20),m 2 102]) .ret)))))
def Z8U:List RRes:=[.t 2]
theorem Z8V:PCt Tryz.prog 169 Tryz.f169 Z8T Z8U:=pcT Tryz.func169 rfl (by kernel_rfl) (by kernel_rfl) (by kernel_rfl)
open Qq in
def Z8W:RCode :=
 .seq (r 0 [b 1 0,n 2 .nils]) (.seq (r 1 [L 11 1 1,c 12 54 [11],m 3 12]) (.seq (r 2 [m 13 3,e 14 13,w 15 (.mksl 1 8 [O] (.t 14)),m 4 15]) (.seq (.seq (r 3 [n 5 O]) (.block 0 (.loop (.seq (.seq (r 4 [m 16 5,m 17 3,e 18 17,o 19 .leq 16 18]) (.cond (.t 19) .skip (.exit 0))) (.seq (.block 1 (.seq (r 6 [m 22 3,e 23 22,w 24 (.mksl 1 8 [O] (.t 23)),m 6 24]) (.seq (.seq (r 7 [n 7 O]) (.block 2 (.loop (.seq (.seq (r 8 [m 25 7,f 26 0 1,l 27 26,e 28 27,o 29 .lss 25 28]) (.cond (.t 29) .skip (.exit 2))) (.seq (.block 3 (.seq (r 10 [f 32 0 1,l 33 32,m 34 7,i 35 5 33 34,L 36 5 35,w 8 (.alloc [O,O,.int .u8 0,.nils,.nils]),s 5 8 36]) (.seq (r 11 [m 37 3,f 38 0 8,l 39 38,c 40 64 [37,39],m 9 40]) (.seq (r 12 [m 41 6,m 42 9,m 43 6,m 44 9,i 45 1 43 44,l 46 45,w 47 (.mx true (.t 46) [.c I]),i 48 1 41 42,s 1 48 47]) (.seq (r 13 [n 10 O]) (.block 4 (.loop (.seq (.seq (r 14 [m 49 10,f 50 3 8,l 51 50,e 52 51,o 53 .lss 49 52]) (.cond (.t 53) .skip (.exit 4))) (.seq (.block 5 (R 16 [m 56 6,m 57 9,m 58 6,m 59 9,a [2,3] (i 60 1 58 59),a [4] (l 61 60),m 62 4,m 63 3,f 64 3 8,a [8] (l 65 64),m 66 10,a [9,10] (i 67 2 65 66),a [11] (f 68 0 67),a [12] (l 69 68),a [7,13] (c 70 64 [63,69]),a [6,14] (i 71 1 62 70),a [15] (l 72 71),a [16] (w 73 (.bin .add (.c I) (.t 72))),a [5,17] (w 74 (.mx true (.t 61) [.t 73])),a [0,1,0,1,2,3,4,5,6,7,8,9,10,11,12,13,14,15,16,17,18] (i 75 1 56 57),a [19,18,14,0,1,2,3,4,5,6,7,8,9,10,11,12,13,14,15,16,17,18] (s 1 75 74)])) (r 15 [m 54 10,k 55 .add 54 I,m 10 55])))))))))) (r 9 [m 30 7,k 31 .add 30 I,m 7 31])))))) (r 17 [m 76 6,m 4 76])))) (r 5 [m 20 5,k 21 .add 20 I,m 5 21])))))) (.seq (r 18 [m 77 4,m 2 77]) .ret))))
def Z8X:List RRes:=[.t 2]
theorem Z8Y:PCt Tryz.prog 170 Tryz.f170 Z8W Z8X:=pcT Tryz.func170 rfl (by kernel_rfl) (by kernel_rfl) (by kernel_rfl)
open Qq in
def Z8Z:RCode :=
 .seq (r 0 [b 1 0,n 2 O]) (.seq (.seq (r 1 [L 6 1 1,c 7 169 [6],t 8 7]) (.cond (.t 8) (.seq (r 2 [n 2 (.int .i64 20)]) .ret) .skip)) (.seq (r 3 [L 9 1 1,c 10 170 [9],m 3 10]) (.seq (r 4 [n 4 O]) (.seq (.seq (r 5 [n 5 O]) (.block 0 (.loop (.seq (.seq (r 6 [m 11 5,m 12 3,e 13 12,o 14 .lss 11 13]) (.cond (.t 14) .skip (.exit 0))) (.seq (.block 1 (r 8 [m 17 4,m 18 3,m 19 5,i 20 1 18 19,l 21 20,w 22 (.mx true (.t 17) [.t 21]),m 4 22])) (r 7 [m 15 5,k 16 .add 15 I,m 5 16])))))) (.seq (.block 2 (.seq (r 9 [m 24 4,m 25 3,e 26 25,o 27 .gtr 24 26,m 23 27]) (.cond (.t 23) (.seq (r 10 [n 2 (.int .i64 21)]) .ret) (.seq (r 11 [m 29 4,k 30 .gtr 29 (.int .i64 6),m 28 30]) (.cond (.t 28) (.seq (r 12 [n 2 (.int .i64 20)]) .ret) .skip))))) (.seq (r 13 [n 2 O]) .ret))))))
def Z90:List RRes:=[.t 2]
theorem Z91:PCt Tryz.prog 133 Tryz.f133 Z8Z Z90:=pcT Tryz.func133 rfl (by kernel_rfl) (by kernel_rfl) (by kernel_rfl)
open Qq in
def Z92:RCode :=
 .seq (r 0 [b 2 0,b 3 1,w 4 (.alloc [O,O,.int .u8 0,.nils,.nils]),n 5 (.bool false)]) (.seq (.seq (r 1 [n 6 O]) (.block 0 (.loop (.seq (.seq (r 2 [m 8 6,f 9 0 2,l 10 9,e 11 10,o 12 .lss 8 11]) (.cond (.t 12) .skip (.exit 0))) (.seq (.block 1 (.seq (r 4 [f 15 0 2,l 16 15,m 17 6,i 18 5 16 17,L 19 5 18,w 7 (.alloc [O,O,.int .u8 0,.nils,.nils]),s 5 7 19]) (.seq (r 5 [f 20 0 7,l 21 20,f 22 0 3,l 23 22,o 24 .eql 21 23,m 25 24,g 25 true (f 26 1 7),g 25 true (l 27 26),g 25 true (f 28 1 3),g 25 true (l 29 28),g 25 true (o 30 .eql 27 29),v 31 25 30]) (.cond (.t 31) (.seq (r 6 [L 32 5 7,s 5 4 32,n 5 (.bool true)]) .ret) .skip)))) (r 3 [m 13 6,k 14 .add 13 I,m 6 14])))))) (.seq (r 7 [w 33 (.build [O,O,.int .u8 0,.nils,.nils] []),s 5 4 33,n 5 (.bool false)]) .ret))
def Z93:List RRes:=[.c 4 true 5,.t 5]
theorem Z94:PCt Tryz.prog 172 Tryz.f172 Z92 Z93:=pcT Tryz.func172 rfl (by kernel_rfl) (by kernel_rfl) (by kernel_rfl)
open Qq in
def Z95:RCode :=
 .seq (r 0 [n 4 (.bool false)]) (.seq (.seq (r 1 [m 6 0,e 7 6,m 8 1,e 9 8,o 10 .neq 7 9]) (.cond (.t 10) (.seq (r 2 [n 4 (.bool false)]) .ret) .skip)) (.seq (.seq (r 3 [n 5 O]) (.block 0 (.loop (.seq (.seq (r 4 [m 11 5,m 12 0,e 13 12,o 14 .lss 11 13]) (.cond (.t 14) .skip (.exit 0))) (.seq (.block 1 (.seq (R 6 [m 17 0,m 18 5,a [0,1] (i 19 1 17 18),a [2] (l 20 19),m 21 1,m 22 5,a [4,5] (i 23 1 21 22),a [6] (l 24 23),a [3,7] (o 25 .neq 20 24)]) (.cond (.t 25) (.seq (r 7 [n 4 (.bool false)]) .ret) .skip))) (r 5 [m 15 5,k 16 .add 15 I,m 5 16])))))) (.seq (r 8 [n 4 (.bool true)]) .ret)))
def Z96:List RRes:=[.t 4]
theorem Z97:PCt Tryz.prog 25 Tryz.f25 Z95 Z96:=pcT Tryz.func25 rfl (by kernel_rfl) (by kernel_rfl) (by kernel_rfl)
open Qq in
def Z98:RCode :=
 .seq (r 0 [n 4 (.bool false)]) (.seq (.seq (r 1 [m 6 0,e 7 6,m 8 1,e 9 8,o 10 .neq 7 9]) (.cond (.t 10) (.seq (r 2 [n 4 (.bool false)]) .ret) .skip)) (.seq (.seq (r 3 [n 5 O]) (.block 0 (.loop (.seq (.seq (r 4 [m 11 5,m 12 0,e 13 12,o 14 .lss 11 13]) (.cond (.t 14) .skip (.exit 0))) (.seq (.block 1 (.seq (R 6 [m 17 0,m 18 5,a [0,1] (i 19 2 17 18),a [2] (L 20 2 19),m 21 1,m 22 5,a [4,5] (i 23 2 21 22),a [6] (L 24 2 23),a [3,7] (w 25 (.eqs true [.i,.i] (.t 20) (.t 24)))]) (.cond (.t 25) (.seq (r 7 [n 4 (.bool false)]) .ret) .skip))) (r 5 [m 15 5,k 16 .add 15 I,m 5 16])))))) (.seq (r 8 [n 4 (.bool true)]) .ret)))
def Z99:List RRes:=[.t 4]
theorem Z9a:PCt Tryz.prog 201 Tryz.f201 Z98 Z99:=pcT Tryz.func201 rfl (by kernel_rfl) (by kernel_rfl) (by kernel_rfl)
open Qq in
def Z9b:RCode :=
 .seq (r 0 [b 2 0,b 3 1,n 4 (.bool false)]) (.seq (.seq (r 1 [f 6 0 2,l 7 6,f 8 0 3,l 9 8,o 10 .neq 7 9,m 11 10,g 11 false (f 12 1 2),g 11 false (l 13 12),g 11 false (f 14 1 3),g 11 false (l 15 14),g 11 false (o 16 .neq 13 15),u 17 11 16,m 18 17,g 18 false (f 19 2 2),g 18 false (l 20 19),g 18 false (f 21 2 3),g 18 false (l 22 21),g 18 false (o 23 .neq 20 22),u 24 18 23,m 25 24,g 25 false (f 26 3 2),g 25 false (l 27 26),g 25 false (f 28 3 3),g 25 false (l 29 28),g 25 false (c 30 201 [27,29]),g 25 false (t 31 30),u 32 25 31,m 33 32,g 33 false (f 34 4 2),g 33 false (l 35 34),g 33 false (e 36 35),g 33 false (f 37 4 3),g 33 false (l 38 37),g 33 false (e 39 38),g 33 false (o 40 .neq 36 39),u 41 33 40]) (.cond (.t 41) (.seq (r 2 [n 4 (.bool false)]) .ret) .skip)) (.seq (.seq (r 3 [n 5 O]) (.block 0 (.loop (.seq (.seq (r 4 [m 42 5,f 43 4 2,l 44 43,e 45 44,o 46 .lss 42 45]) (.cond (.t 46) .skip (.exit 0))) (.seq (.block 1 (.seq (R 6 [f 49 4 2,a [0] (l 50 49),m 51 5,a [1,2] (i 52 3 50 51),a [3] (L 53 3 52),f 54 4 3,a [5] (l 55 54),m 56 5,a [6,7] (i 57 3 55 56),a [8] (L 58 3 57),a [4,9] (w 59 (.eqs true [.i,.i,.i] (.t 53) (.t 58)))]) (.cond (.t 59) (.seq (r 7 [n 4 (.bool false)]) .ret) .skip))) (r 5 [m 47 5,k 48 .add 47 I,m 5 48])))))) (.seq (r 8 [n 4 (.bool true)]) .ret)))
def Z9c:List RRes:=[.t 4]
theorem Z9d:PCt Tryz.prog 173 Tryz.f173 Z9b Z9c:=pcT Tryz.func173 rfl (by kernel_rfl) (by kernel_rfl) (by kernel_rfl)
open Qq in
def Z9e:RCode :=
 .seq (r 0 [b 2 0,b 3 1,n 4 (.bool false)]) (.seq (.seq (r 1 [f 6 0 2,l 7 6,e 8 7,f 9 0 3,l 10 9,e 11 10,o 12 .neq 8 11]) (.cond (.t 12) (.seq (r 2 [n 4 (.bool false)]) .ret) .skip)) (.seq (.seq (r 3 [n 5 O]) (.block 0 (.loop (.seq (.seq (r 4 [m 13 5,f 14 0 2,l 15 14,e 16 15,o 17 .lss 13 16]) (.cond (.t 17) .skip (.exit 0))) (.seq (.block 1 (.seq (R 6 [f 20 0 2,a [0] (l 21 20),m 22 5,a [1,2] (i 23 5 21 22),a [3] (L 24 5 23),f 25 0 3,a [5] (l 26 25),m 27 5,a [6,7] (i 28 5 26 27),a [8] (L 29 5 28),a [4,9] (c 30 173 [24,29]),a [10] (t 31 30)]) (.cond (.t 31) (.seq (r 7 [n 4 (.bool false)]) .ret) .skip))) (r 5 [m 18 5,k 19 .add 18 I,m 5 19])))))) (.seq (r 8 [n 4 (.bool true)]) .ret)))
def Z9f:List RRes:=[.t 4]
theorem Z9g:PCt Tryz.prog 137 Tryz.f137 Z9e Z9f:=pcT Tryz.func137 rfl (by kernel_rfl) (by kernel_rfl) (by kernel_rfl)
open Qq in
def Z9h:RCode :=
 .seq (r 0 [b 1 0,w 2 (.alloc [O,O,.int .u8 0,.nils,.nils])]) (.seq (R 1 [w 3 (.bsl true 2 0 [] []),f 4 3 1,a [1] (l 5 4),a [0,2] (w 6 (.app 2 16 (.t 3) (.t 5))),w 7 (.bsl true 3 0 [] []),f 8 4 1,a [5] (l 9 8),a [4,6,3] (w 10 (.app 3 24 (.t 7) (.t 9))),a [0,1,2,3,5,6] (f 11 3 1),a [8,3,7,0,1,2,3,5,6] (s 1 11 6),a [0,1,2,3,4,5,6,7,8,9] (f 12 4 1),a [10,7,9,0,1,2,3,4,5,6,7,8,9] (s 1 12 10)]) (.seq (r 2 [L 13 5 1,s 5 2 13]) .ret))
def Z9i:List RRes:=[.c 2 true 5]
theorem Z9j:PCt Tryz.prog 167 Tryz.f167 Z9h Z9i:=pcT Tryz.func167 rfl (by kernel_rfl) (by kernel_rfl) (by kernel_rfl)
open Qq in
def Z9k:RCode :=
 .seq (r 0 [b 1 0,w 2 (.alloc [.nils])]) (.seq (r 1 [w 3 (.alloc [.nils])]) (.seq (.seq (r 2 [n 4 O]) (.block 0 (.loop (.seq (.seq (r 3 [m 5 4,f 6 0 1,l 7 6,e 8 7,o 9 .lss 5 8]) (.cond (.t 9) .skip (.exit 0))) (.seq (.block 1 (R 5 [f 12 0 3,a [0] (l 13 12),f 14 0 1,a [2] (l 15 14),m 16 4,a [3,4] (i 17 5 15 16),a [5] (L 18 5 17),a [6] (c 19 167 [18]),a [7] (w 20 (.bsl false 5 1 [O,O,.int .u8 0,.nils,.nils] [(0,.t 19)])),a [1,8,7] (w 21 (.app 5 72 (.t 13) (.t 20))),a [0,1,2,3,4,5,6,7,8,9] (f 22 0 3),a [10,9,9,0,1,2,3,4,5,6,7,8,9] (s 1 22 21)])) (r 4 [m 10 4,k 11 .add 10 I,m 4 11])))))) (.seq (r 6 [L 23 1 3,s 1 2 23]) .ret)))
def Z9l:List RRes:=[.c 2 true 1]
theorem Z9m:PCt Tryz.prog 126 Tryz.f126 Z9k Z9l:=pcT Tryz.func126 rfl (by kernel_rfl) (by kernel_rfl) (by kernel_rfl)
open Qq in
def Z9n:RCode :=
 .seq (r 0 [b 1 0,n 2 (.bool false)]) (.seq (.seq (r 1 [f 4 0 1,l 5 4,e 6 5,k 7 .gtr 6 (.int .i64 80)]) (.cond (.t 7) (.seq (r 2 [n 2 (.bool true)]) .ret) .skip)) (.seq (.seq (r 3 [n 3 O]) (.block 0 (.loop (.seq (.seq (r 4 [m 8 3,f 9 0 1,l 10 9,e 11 10,o 12 .lss 8 11]) (.cond (.t 12) .skip (.exit 0))) (.seq (.block 1 (.seq (r 6 [f 15 0 1,l 16 15,m 17 3,i 18 5 16 17,f 19 3 18,l 20 19,e 21 20,k 22 .gtr 21 (.int .i64 16),m 23 22,g 23 false (f 24 0 1),g 23 false (l 25 24),g 23 false (m 26 3),g 23 false (i 27 5 25 26),g 23 false (f 28 4 27),g 23 false (l 29 28),g 23 false (e 30 29),g 23 false (k 31 .gtr 30 (.int .i64 8)),u 32 23 31]) (.cond (.t 32) (.seq (r 7 [n 2 (.bool true)]) .ret) .skip))) (r 5 [m 13 3,k 14 .add 13 I,m 3 14])))))) (.seq (r 8 [n 2 (.bool false)]) .ret)))
def Z9o:List RRes:=[.t 2]
theorem Z9p:PCt Tryz.prog 125 Tryz.f125 Z9n Z9o:=pcT Tryz.func125 rfl (by kernel_rfl) (by kernel_rfl) (by kernel_rfl)
theorem mixed:Tryz.prog.follows .mixedOrders=true:=by kernel_rfl
theorem Qga {R:Run} {c:RCode} {F:Exit->St->Prop} {st:St} (h:GO Tryz.prog R 1000 (.run c) [] F st):AR Tryz.prog R c st F:=Yb mixed 1000 h
theorem Qgr {R:Run} {e:Exit} {ks:List KF} {F:Exit->St->Prop} {st:St} (h:GO Tryz.prog R 1000 (.out e) ks F st):RetP Tryz.prog R ks F e st:=Z2N mixed 1000 h
def inR (n lo hi:Int):Bool:=decide (lo<=n/\n<=hi)
theorem Yf {n:Int} (h0:-9223372036854775808<=n) (h1:n<=9223372036854775807):IntKind.i64.wrap n=n:=IntWalk.i64_in _ ⟨h0,h1⟩
def RndF (S:Nat->St) (I:Nat->Prop) (i:Nat) (Φ:Exit->St->Prop):Exit->St->Prop
 |.normal,st=>Ym st (S (i+1))/\I (i+1)
 |e,st=>Φ e st
def RndE (Φ:Exit->St->Prop):Exit->St->Prop
 |.normal,_=>False
 |e,st=>Φ e st
section
variable {P:Program} {R:Run} {st:St} {Φ:Exit->St->Prop} {S:Nat->St} {I:Nat->Prop} {i:Nat}
theorem Z9q:RndF S I i Φ .normal st=(Ym st (S (i+1))/\I (i+1)):=rfl
theorem Z9r:RndF S I i Φ .ret st=Φ .ret st:=rfl
theorem Z9s {j:Nat}:RndF S I i Φ (.exit j) st=Φ (.exit j) st:=rfl
theorem Z9t:RndE Φ .ret st=Φ .ret st:=rfl
theorem Z9u {j:Nat}:RndE Φ (.exit j) st=Φ (.exit j) st:=rfl
attribute [simp] Z9q Z9r Z9s Z9t Z9u
theorem Z9v {c:RCode} (S:Nat->St) (I:Nat->Prop) (N:Nat) (h0:Ym st (S 0)) (hi:I 0) (hr:∀ i,i<N->I i->AR P R c (S i) (RndF S I i Φ)) (he:I N->AR P R c (S N) (RndE Φ)):AR P R (.loop c) st Φ:=by
 refine Z1Q S (λi=>i<=N/\I i) (λi=>N-i) 0 h0 ⟨Nat.zero_le _,hi⟩ ?_;rintro i ⟨h1,h2⟩;by_cases h3:i<N
 . refine Z2D (hr i h3 h2) λe s hs=>?_
   cases e with
   |normal=>exact ⟨i+1,hs.1,⟨by omega,hs.2⟩,by show N-(i+1)<N-i;omega⟩
   |_=>exact hs
 . obtain rfl:i=N:=(by omega);refine Z2D (he h2) λe s hs=>?_
   cases e with
   |normal=>exact hs.elim
   |_=>exact hs
end
structure Iss where
 d:Int
 l:Int
 k:Int
 its:List (Int×Int)
 dms:List Dm
 deriving DecidableEq,Inhabited
def ia (n:Int):List AV:=[.int .i64 n]
def ita (p:Int×Int):List AV:=[.int .i64 p.1,.int .i64 p.2]
def dma (d:Dm):List AV:=[.int .i64 d.n,.int .i64 d.l,.int .i64 d.u]
def isa (x:Iss):List AV:=[.int .i64 x.d,.int .i64 x.l,.int .u8 x.k,.vsl (x.its.map ita),.vsl (x.dms.map dma)]
def rega (r:List Iss):AV:=.agg [.vsl (r.map isa)]
def Sml {α:Type} (l:List α):Prop:=l.length<=16777216
section
variable {G:Nat->Option (List AV)}
theorem Z9w (n lo hi:Int):PC Tryz.prog G 218 [.int .i64 n,.int .i64 lo,.int .i64 hi] (.bool (inR n lo hi)):=by
 (refine Z8D rfl λR hG hrd=>Yb mixed 1000 ?_;subst hG)
 by_cases h1:lo<=n <;> simp -implicitDefEqProofs[Z8B,Z8C,h1,inR]
theorem Z9x (n l u:Int):PC Tryz.prog G 212 [.agg [.int .i64 n,.int .i64 l,.int .i64 u]] (.bool (vd ⟨n,l,u⟩)):=by
 (refine Z8G rfl λR hG hrd=>Yb mixed 1000 ?_;subst hG)
 have e:vd ⟨n,l,u⟩=(inR n 0 1000000000&&(inR u 0 1000000000&&inR l 0 u)):=by
  unfold vd inR;rw[<- Bool.decide_and,<- Bool.decide_and];exact decide_eq_decide.2 (by simp only;omega)
 simp -implicitDefEqProofs[Z8E,Z8F,e];refine Qco (Z9w _ _ _) (by simp) ?_
 cases h1:inR n 0 1000000000
 . simp -implicitDefEqProofs
 . simp -implicitDefEqProofs;refine Qco (Z9w _ _ _) (by simp) ?_
   cases h2:inR u 0 1000000000
   . simp -implicitDefEqProofs
   . simp -implicitDefEqProofs;refine Qco (Z9w _ _ _) (by simp) ?_;simp -implicitDefEqProofs
theorem Z9y (n lo hi:Int):PC Tryz.prog G 199 [.int .i64 n,.int .i64 lo,.int .i64 hi] (.bool (inR n lo hi)):=by
 (refine Z8J rfl λR hG hrd=>Yb mixed 1000 ?_;subst hG)
 by_cases h1:lo<=n <;> simp -implicitDefEqProofs[Z8H,Z8I,h1,inR]
def idx (l:List Int) (n:Int):Int:=if n∈l then (l.idxOf n:Int) else -1
theorem Z9z {l:List Int} {n:Int} {i:Nat} (hi:i<l.length) (he:l[i]=n) (hb:∀ j (h:j<i),l[j]≠n):idx l n=i:=by
 have hm:n∈l:=(by rw[<- he];exact List.getElem_mem hi);rw[idx,if_pos hm];have h1:l.idxOf n<l.length:=List.idxOf_lt_length_iff.2 hm;have h2:l[l.idxOf n]=n:=List.getElem_idxOf h1;have h3:¬l.idxOf n<i:=λh=>hb _ h h2
 have h4:¬i<l.idxOf n:=λh=>by
  have:=List.not_of_lt_findIdx (p:=(· == n)) h;simp[he]at this
 congr 1;omega
theorem Z9A {l:List Int} {n:Int} (hb:∀ j (h:j<l.length),l[j]≠n):idx l n = -1:=by
 rw[idx,if_neg];intro hm;obtain ⟨j,h1,h2⟩:=List.getElem_of_mem hm;exact hb j h1 h2
theorem Z9B (l:List Int) (n:Int) (hl:Sml l):PC Tryz.prog G 64 [.vsl (l.map ia),.int .i64 n] (.int .i64 (idx l n)):=by
 (refine Z8S rfl λR hG hrd=>Yb mixed 1000 ?_;subst hG)
 simp -implicitDefEqProofs[Z8Q,Z8R];refine Z9v (λi=>⟨[(5,.int .i64 i),(0,.vsl (l.map ia)),(1,.int .i64 n)],[]⟩) (λi=>∀ j (h:j<l.length),j<i->l[j]≠n) l.length (by (first|exact Ym.tm (by simp[lk])|exact Ym.sub (by simp[lk,Ya,AV.keys]) (by simp[lk,Yc,Ya,AV.keys]))) (by simp) ?_ ?_
 . intro i hi he;refine Yb mixed 1000 ?_;unfold Sml at hl;have w1:IntKind.i64.wrap ((i:Int)+1)=((i+1:Nat):Int):=Yf (by omega) (by omega);by_cases h2:l[i]=n
   . simp -implicitDefEqProofs[hi,ia,h2];refine Z2N mixed 1000 ?_;simp -implicitDefEqProofs[Z9z hi h2 (λj h=>he j (by omega) h)]
   . simp -implicitDefEqProofs[hi,ia,h2,w1];refine ⟨(by (first|exact Ym.tm (by simp[lk])|exact Ym.sub (by simp[lk,Ya,AV.keys]) (by simp[lk,Yc,Ya,AV.keys]))),λj h1 h3=>?_⟩;by_cases e:j=i
     . subst e;exact h2
     . exact he j h1 (by omega)
 . intro he;refine Yb mixed 1000 ?_;simp -implicitDefEqProofs[];refine Z2N mixed 1000 ?_;simp -implicitDefEqProofs[Z9A (λj h=>he j h h)]
theorem Z9C (a b:List Int) (ha:Sml a):PC Tryz.prog G 25 [.vsl (a.map ia),.vsl (b.map ia)] (.bool (decide (a=b))):=by
 (refine Z97 rfl λR hG hrd=>Yb mixed 1000 ?_;subst hG)
 by_cases hl:a.length=b.length
 . have hl':(a.length:Int)=b.length:=(by omega);simp -implicitDefEqProofs[Z95,Z96,hl'];refine Z9v (λi=>⟨[(5,.int .i64 i),(0,.vsl (a.map ia)),(1,.vsl (b.map ia))],[]⟩) (λi=>∀ j (h:j<a.length),j<i->a[j]=b[j]) a.length (by (first|exact Ym.tm (by simp[lk])|exact Ym.sub (by simp[lk,Ya,AV.keys]) (by simp[lk,Yc,Ya,AV.keys]))) (by simp) ?_ ?_
   . intro i hi he;refine Yb mixed 1000 ?_;unfold Sml at ha;have hi2:i<b.length:=(by omega);have w1:IntKind.i64.wrap ((i:Int)+1)=((i+1:Nat):Int):=Yf (by omega) (by omega);by_cases h2:a[i]=b[i]
     . simp -implicitDefEqProofs[hi,hi2,ia,h2,w1];refine ⟨rfl,(by (first|exact Ym.tm (by simp[lk])|exact Ym.sub (by simp[lk,Ya,AV.keys]) (by simp[lk,Yc,Ya,AV.keys]))),λj h1 h3=>?_⟩;by_cases e:j=i
       . subst e;exact h2
       . exact he j h1 (by omega)
     . have h3:¬a=b:=λe=>h2 (by subst e;rfl)
       simp -implicitDefEqProofs[hi,hi2,ia,h2];refine ⟨rfl,?_⟩;refine Z2N mixed 1000 ?_;simp -implicitDefEqProofs[h3]
   . intro he;refine Yb mixed 1000 ?_;have h3:a=b:=List.ext_getElem hl λj h1 h2=>he j h1 h1
     simp -implicitDefEqProofs[];refine Z2N mixed 1000 ?_;simp -implicitDefEqProofs[h3]
 . have hl':¬(a.length:Int)=b.length:=(by omega);have h3:¬a=b:=λe=>hl (by rw[e])
   simp -implicitDefEqProofs[Z95,Z96,hl',h3]
end
def nz:AV->AV
 |.nils=>.vsl []
 |.agg xs=>.agg (xs.attach.map λ⟨x,_⟩=>nz x)
 |.tup xs=>.tup (xs.attach.map λ⟨x,_⟩=>nz x)
 |x=>x
theorem nz_at (xs:List AV):(xs.attach.map λ⟨x,_⟩=>nz x)=xs.map nz:=by
 have h:(xs.attach.map λ⟨x,_⟩=>nz x)=(xs.attach.map Subtype.val).map nz:=(by rw[List.map_map];rfl);rw[h,List.attach_map_subtype_val]
theorem Z9D (xs:List AV):nz (.agg xs) = .agg (xs.map nz):=by rw[nz,nz_at]
theorem Z9E (xs:List AV):nz (.tup xs) = .tup (xs.map nz):=by rw[nz,nz_at]
theorem PV.nz {M:Nat->Prop} {W:World} {x:AV} {v:Value} (h:PV M W x v):PV M W (nz x) v:=by
 induction h with
 |nils=>simp only[Go.Proofs.YtcdlimgkliklhaaGreatDoor.nz];exact .vsl [] none 0 1 0 0 (λ_ _=>undef) (Nat.le_refl _) (Nat.zero_le _) (λh=>absurd rfl h) (λ_=>⟨rfl,rfl⟩) (by simp) (by simp) (by simp)
 | agg xs us h1 hx ih =>
   rw[Z9D];refine .agg _ us (by simpa using h1) λi x u hi hu=>?_
   rw[List.getElem?_map,Option.map_eq_some_iff]at hi;obtain ⟨y,hy,rfl⟩:=hi;exact ih i y u hy hu
 | tup xs us h1 hx ih =>
   rw[Z9E];refine .tup _ us (by simpa using h1) λi x u hi hu=>?_
   rw[List.getElem?_map,Option.map_eq_some_iff]at hi;obtain ⟨y,hy,rfl⟩:=hi;exact ih i y u hy hu
 |hole=>simp only[Go.Proofs.YtcdlimgkliklhaaGreatDoor.nz];exact .hole
 |int k n=>simp only[Go.Proofs.YtcdlimgkliklhaaGreatDoor.nz];exact .int k n
 |bool b=>simp only[Go.Proofs.YtcdlimgkliklhaaGreatDoor.nz];exact .bool b
 |abool b=>simp only[Go.Proofs.YtcdlimgkliklhaaGreatDoor.nz];exact .abool b
 |str s=>simp only[Go.Proofs.YtcdlimgkliklhaaGreatDoor.nz];exact .str s
 |nilp=>simp only[Go.Proofs.YtcdlimgkliklhaaGreatDoor.nz];exact .nilp
 |nilm=>simp only[Go.Proofs.YtcdlimgkliklhaaGreatDoor.nz];exact .nilm
 |nilf=>simp only[Go.Proofs.YtcdlimgkliklhaaGreatDoor.nz];exact .nilf
 |vptr cells off b o f hb hM hc hr ih=>simp only[Go.Proofs.YtcdlimgkliklhaaGreatDoor.nz];exact .vptr cells off b o f hb hM hc hr
 |vsl rows a cap sz b o f hcap hmax ha hn hs hc hr ih=>simp only[Go.Proofs.YtcdlimgkliklhaaGreatDoor.nz];exact .vsl rows a cap sz b o f hcap hmax ha hn hs hc hr
 |func fn xs ys us vs h1 h2 hx hy ihx ihy=>simp only[Go.Proofs.YtcdlimgkliklhaaGreatDoor.nz];exact .func fn xs ys us vs h1 h2 hx hy
 |vmap kvs b es clock hb hM ho hs hn hk' hv ihk ihv=>simp only[Go.Proofs.YtcdlimgkliklhaaGreatDoor.nz];exact .vmap kvs b es clock hb hM ho hs hn hk' hv
theorem PC.nzR {P:Program} {G:Nat->Option (List AV)} {f:FuncId} {args:List AV} {v v':AV} (h:PC P G f args v) (e:nz v=v'):PC P G f args v':=by
 subst e;refine ⟨h.1,λM W vs hM hG hs hv=>(h.2 M W vs hM hG hs hv).mono ?_⟩;rintro e W' ⟨u,h1,h2,h3⟩;exact ⟨u,h1,h2.nz,h3⟩
theorem Z9F {a b:Int×Int} (h:¬a=b):(!decide (a.1=b.1) || !decide (a.2=b.2))=true:=by
 cases h5:(!decide (a.1=b.1) || !decide (a.2=b.2))
 . simp only[Bool.or_eq_false_iff,Bool.not_eq_false',decide_eq_true_eq]at h5;exact absurd (Prod.ext h5.1 h5.2) h
 . rfl
theorem dm_ne {a b:Dm} (h:¬a=b):(!decide (a.n=b.n)||(!decide (a.l=b.l) || !decide (a.u=b.u)))=true:=by
 cases h5:(!decide (a.n=b.n)||(!decide (a.l=b.l) || !decide (a.u=b.u)))
 . simp only[Bool.or_eq_false_iff,Bool.not_eq_false',decide_eq_true_eq]at h5
   cases a;cases b;simp_all
 . rfl
section
variable {G:Nat->Option (List AV)}
theorem Z9G (a b:List (Int×Int)) (ha:Sml a):PC Tryz.prog G 201 [.vsl (a.map ita),.vsl (b.map ita)] (.bool (decide (a=b))):=by
 (refine Z9a rfl λR hG hrd=>Qga ?_;subst hG)
 by_cases hl:a.length=b.length
 . have hl':(a.length:Int)=b.length:=(by omega);simp -implicitDefEqProofs[Z98,Z99,hl'];refine Z9v (λi=>⟨[(5,.int .i64 i),(0,.vsl (a.map ita)),(1,.vsl (b.map ita))],[]⟩) (λi=>∀ j (h:j<a.length),j<i->a[j]=b[j]) a.length (by (first|exact Ym.tm (by simp[lk])|exact Ym.sub (by simp[lk,Ya,AV.keys]) (by simp[lk,Yc,Ya,AV.keys]))) (by simp) ?_ ?_
   . intro i hi he;refine Qga ?_;unfold Sml at ha;have hi2:i<b.length:=(by omega);have w1:IntKind.i64.wrap ((i:Int)+1)=((i+1:Nat):Int):=Yf (by omega) (by omega);simp -implicitDefEqProofs[hi,hi2,ita];refine ⟨rfl,?_⟩;by_cases h2:a[i]=b[i]
     . simp -implicitDefEqProofs[h2,w1];refine ⟨(by (first|exact Ym.tm (by simp[lk])|exact Ym.sub (by simp[lk,Ya,AV.keys]) (by simp[lk,Yc,Ya,AV.keys]))),λj h1 h3=>?_⟩;by_cases e:j=i
       . subst e;exact h2
       . exact he j h1 (by omega)
     . have h3:¬a=b:=λe=>h2 (by subst e;rfl)
       rw[Z9F h2];simp -implicitDefEqProofs[];refine Qgr ?_;simp -implicitDefEqProofs[h3]
   . intro he;refine Qga ?_;have h3:a=b:=List.ext_getElem hl λj h1 h2=>he j h1 h1
     simp -implicitDefEqProofs[];refine Qgr ?_;simp -implicitDefEqProofs[h3]
 . have hl':¬(a.length:Int)=b.length:=(by omega);have h3:¬a=b:=λe=>hl (by rw[e])
   simp -implicitDefEqProofs[Z98,Z99,hl',h3]
theorem Z9H (a b:Iss) (h1:Sml a.its) (h2:Sml a.dms):PC Tryz.prog G 173 [.agg (isa a),.agg (isa b)] (.bool (decide (a=b))):=by
 (refine Z9d rfl λR hG hrd=>Qga ?_;subst hG)
 by_cases e1:a.d=b.d
 case neg =>
  have e:¬a=b:=λe=>e1 (by rw[e])
  simp -implicitDefEqProofs[Z9b,Z9c,isa,e1,e]
 by_cases e2:a.l=b.l
 case neg =>
  have e:¬a=b:=λe=>e2 (by rw[e])
  simp -implicitDefEqProofs[Z9b,Z9c,isa,e1,e2,e]
 by_cases e3:a.k=b.k
 case neg =>
  have e:¬a=b:=λe=>e3 (by rw[e])
  simp -implicitDefEqProofs[Z9b,Z9c,isa,e1,e2,e3,e]
 simp -implicitDefEqProofs[Z9b,Z9c,isa,e1,e2,e3];refine Qco (Z9G a.its b.its h1) (by simp) ?_;by_cases e4:a.its=b.its
 case neg =>
  have e:¬a=b:=λe=>e4 (by rw[e])
  simp -implicitDefEqProofs[e4,e]
 by_cases e5:a.dms.length=b.dms.length
 case neg =>
  have e5':¬(a.dms.length:Int)=b.dms.length:=(by omega);have e:¬a=b:=λe=>e5 (by rw[e])
  simp -implicitDefEqProofs[e4,e5',e]
 have e5':(a.dms.length:Int)=b.dms.length:=(by omega);simp -implicitDefEqProofs[e4,e5'];refine Z9v (λi=>⟨[(5,.int .i64 i),(2,.ptr 2 0),(3,.ptr 3 0)],[(2,.box (isa a)),(3,.box (isa b))]⟩) (λi=>∀ j (h:j<a.dms.length),j<i->a.dms[j]=b.dms[j]) a.dms.length (by (first|exact Ym.tm (by simp[lk,isa,e1,e2,e3,e4])|exact Ym.sub (by simp[lk,Ya,AV.keys,isa,e1,e2,e3,e4]) (by simp[lk,Yc,Ya,AV.keys,isa,e1,e2,e3,e4]))) (by simp) ?_ ?_
 . intro i hi he;refine Qga ?_;unfold Sml at h2;have hi2:i<b.dms.length:=(by omega);have w1:IntKind.i64.wrap ((i:Int)+1)=((i+1:Nat):Int):=Yf (by omega) (by omega);simp -implicitDefEqProofs[hi,hi2,isa,dma];refine ⟨rfl,?_⟩;by_cases h2:a.dms[i]=b.dms[i]
   . simp -implicitDefEqProofs[h2,w1];refine ⟨(by (first|exact Ym.tm (by simp[lk,isa,dma])|exact Ym.sub (by simp[lk,Ya,AV.keys,isa,dma]) (by simp[lk,Yc,Ya,AV.keys,isa,dma]))),λj h1 h3=>?_⟩;by_cases e:j=i
     . subst e;exact h2
     . exact he j h1 (by omega)
   . have h3:¬a=b:=λe=>h2 (by subst e;rfl)
     rw[dm_ne h2];simp -implicitDefEqProofs[];refine Qgr ?_;simp -implicitDefEqProofs[h3]
 . intro he;refine Qga ?_;have h3:a.dms=b.dms:=List.ext_getElem e5 λj h1 h2=>he j h1 h1
   have h4:a=b:=(by cases a;cases b;simp_all);simp -implicitDefEqProofs[isa];refine Qgr ?_;simp -implicitDefEqProofs[h4]
def SmlR (r:List Iss):Prop:=Sml r/\∀ x∈r,Sml x.its/\Sml x.dms
theorem Z9I (a b:List Iss) (ha:SmlR a):PC Tryz.prog G 137 [rega a,rega b] (.bool (decide (a=b))):=by
 (refine Z9g rfl λR hG hrd=>Qga ?_;subst hG)
 by_cases hl:a.length=b.length
 . have hl':(a.length:Int)=b.length:=(by omega);simp -implicitDefEqProofs[Z9e,Z9f,hl',rega];refine Z9v (λi=>⟨[(5,.int .i64 i),(2,.ptr 2 0),(3,.ptr 3 0)],[(2,.box [.vsl (a.map isa)]),(3,.box [.vsl (b.map isa)])]⟩) (λi=>∀ j (h:j<a.length),j<i->a[j]=b[j]) a.length (by (first|exact Ym.tm (by simp[lk])|exact Ym.sub (by simp[lk,Ya,AV.keys]) (by simp[lk,Yc,Ya,AV.keys]))) (by simp) ?_ ?_
   . intro i hi he;refine Qga ?_;have hs:=ha.1;unfold Sml at hs;have hi2:i<b.length:=(by omega);have w1:IntKind.i64.wrap ((i:Int)+1)=((i+1:Nat):Int):=Yf (by omega) (by omega);have hx:=ha.2 a[i] (List.getElem_mem hi);simp -implicitDefEqProofs[hi,hi2,isa];refine Qco (Z9H a[i] b[i] hx.1 hx.2) (by simp) ?_;simp -implicitDefEqProofs[];refine ⟨rfl,?_⟩;by_cases h2:a[i]=b[i]
     . simp -implicitDefEqProofs[h2,w1];refine ⟨(by (first|exact Ym.tm (by simp[lk])|exact Ym.sub (by simp[lk,Ya,AV.keys]) (by simp[lk,Yc,Ya,AV.keys]))),λj h1 h3=>?_⟩;by_cases e:j=i
       . subst e;exact h2
       . exact he j h1 (by omega)
     . have h3:¬a=b:=λe=>h2 (by subst e;rfl)
       simp -implicitDefEqProofs[h2];refine Qgr ?_;simp -implicitDefEqProofs[h3]
   . intro he;refine Qga ?_;have h3:a=b:=List.ext_getElem hl λj h1 h2=>he j h1 h1
     simp -implicitDefEqProofs[];refine Qgr ?_;simp -implicitDefEqProofs[h3]
 . have hl':¬(a.length:Int)=b.length:=(by omega);have h3:¬a=b:=λe=>hl (by rw[e])
   simp -implicitDefEqProofs[Z9e,Z9f,hl',h3,rega]
end
def at' (r:List Iss) (i:Nat):Iss:=r.getD i default
theorem at_eq {r:List Iss} {i:Nat} (h:i<r.length):at' r i=r[i]:=by simp[at',List.getD,h]
def newB (r:List Iss) (i:Nat):Bool:=i == 0 || !decide ((at' r (i-1)).d=(at' r i).d)
def numsN (r:List Iss):Nat->List Int
 |0=>[]
 |i+1=>if newB r i=true then numsN r i++[(at' r i).d] else numsN r i
def nums (r:List Iss):List Int:=numsN r r.length
theorem Z9J (r:List Iss):∀ i,(numsN r i).length<=i
 |0=>by simp[numsN]
 | i+1=>by
   have:=Z9J r i;simp only[numsN]
   split
   . simp;omega
   . omega
theorem Z9K (r:List Iss):∀ i,numsN r (i+1)≠[]
 |0=>by simp[numsN,newB]
 | i+1=>by
   have:=Z9K r i;rw[numsN]
   split
   . simp
   . exact this
def lastN (r:List Iss) (n:Int):Nat->Int
 |0=>0
 |i+1=>if (at' r i).d=n then max (lastN r n i) (at' r i).l else lastN r n i
def lastV (r:List Iss) (n:Int):Int:=lastN r n r.length
def findN (d l:Int):List Iss->Option Iss
 |[]=>none
 |x::r=>if x.d=d/\x.l=l then some x else findN d l r
def noIs:AV:=.agg [.int .i64 0,.int .i64 0,.int .u8 0,.nils,.nils]
def fndA:Option Iss->AV
 |some x=>.tup [.agg (isa x),.bool true]
 |none=>.tup [noIs,.bool false]
def Z9L (r:List Iss):Bool:=decide (80<r.length)||r.any λx=>decide (16<x.its.length)||decide (8<x.dms.length)
theorem Z9M {d l:Int}:∀ {r:List Iss} {i:Nat} (h:i<r.length),r[i].d=d->r[i].l=l->(∀ j (h:j<r.length),j<i->¬(r[j].d=d/\r[j].l=l))->findN d l r=some r[i]
 |x::r,0,h,h1,h2,_=>by simp only[findN];rw[if_pos ⟨h1,h2⟩];rfl
 | x::r,i+1,h,h1,h2,hb=>by
   simp only[findN];rw[if_neg (show ¬(x.d=d/\x.l=l) from hb 0 (by simp) (by omega))];exact Z9M (by simpa using h) h1 h2 λj hj hi=>hb (j+1) (by simpa using hj) (by omega)
theorem Z9N {d l:Int}:∀ {r:List Iss},(∀ j (h:j<r.length),¬(r[j].d=d/\r[j].l=l))->findN d l r=none
 |[],_=>rfl
 | x::r,hb=>by
   simp only[findN];rw[if_neg (show ¬(x.d=d/\x.l=l) from hb 0 (by simp))];exact Z9N λj hj=>hb (j+1) (by simpa using hj)
section
variable {G:Nat->Option (List AV)}
theorem Z9O (x:Iss) (h1:Sml x.its) (h2:Sml x.dms):PC Tryz.prog G 167 [.agg (isa x)] (.agg (isa x)):=by
 (refine Z9j rfl λR hG hrd=>Qga ?_;subst hG)
 unfold Sml at h1 h2;have b1:x.its.length*16<=70368744177664:=(by omega);have b2:x.dms.length*24<=70368744177664:=(by omega);have k1:(x.its.map ita).all (λr=>r.length == 2)=true:=(by simp[ita]);have k2:(x.its.map ita).all (λr=>r.all AV.one)=true:=(by simp[ita,AV.one]);have k3:(x.dms.map dma).all (λr=>r.length == 3)=true:=(by simp[dma]);have k4:(x.dms.map dma).all (λr=>r.all AV.one)=true:=(by simp[dma,AV.one]);have k5:(x.its.map ita).all (λr=>r.all AV.pure)=true:=(by simp[ita,AV.pure]);have k6:(x.dms.map dma).all (λr=>r.all AV.pure)=true:=(by simp[dma,AV.pure]);by_cases e1:x.its=[] <;> by_cases e2:x.dms=[]
 . simp -implicitDefEqProofs[Z9h,Z9i,isa,e1,e2]
   try rfl
 . simp -implicitDefEqProofs[Z9h,Z9i,isa,e1,e2,b2,k3,k4,k6]
   try rfl
 . simp -implicitDefEqProofs[Z9h,Z9i,isa,e1,e2,b1,k1,k2,k5]
   try rfl
 . simp -implicitDefEqProofs[Z9h,Z9i,isa,e1,e2,b1,b2,k1,k2,k3,k4,k5,k6]
   try rfl
theorem Z9P (r:List Iss) (h:Sml r):PC Tryz.prog G 125 [rega r] (.bool (Z9L r)):=by
 (refine Z9p rfl λR hG hrd=>Qga ?_;subst hG)
 unfold Sml at h;by_cases h1:80<r.length
 . have h1':(80:Int)<r.length:=(by omega);simp -implicitDefEqProofs[Z9n,Z9o,rega,h1',Z9L,h1]
 have h1':¬(80:Int)<r.length:=(by omega);simp -implicitDefEqProofs[Z9n,Z9o,rega,h1'];refine Z9v (λi=>⟨[(3,.int .i64 i),(1,.ptr 1 0)],[(1,.box [.vsl (r.map isa)])]⟩) (λi=>∀ j (h:j<r.length),j<i->r[j].its.length<=16/\r[j].dms.length<=8) r.length (by (first|exact Ym.tm (by simp[lk])|exact Ym.sub (by simp[lk,Ya,AV.keys]) (by simp[lk,Yc,Ya,AV.keys]))) (by simp) ?_ ?_
 . intro i hi he;refine Qga ?_;have w1:IntKind.i64.wrap ((i:Int)+1)=((i+1:Nat):Int):=Yf (by omega) (by omega)
   have bad:(16<r[i].its.length∨8<r[i].dms.length)->Z9L r=true:=λhb=>by
    simp only[Z9L,Bool.or_eq_true,List.any_eq_true,decide_eq_true_eq];exact .inr ⟨r[i],List.getElem_mem hi,hb⟩
   by_cases h2:16<r[i].its.length
   . have h2':(16:Int)<r[i].its.length:=(by omega);simp -implicitDefEqProofs[hi,isa,h2'];refine Qgr ?_;simp -implicitDefEqProofs[bad (.inl h2)]
   have h2':¬(16:Int)<r[i].its.length:=(by omega);by_cases h3:8<r[i].dms.length
   . have h3':(8:Int)<r[i].dms.length:=(by omega);simp -implicitDefEqProofs[hi,isa,h2',h3'];refine Qgr ?_;simp -implicitDefEqProofs[bad (.inr h3)]
   have h3':¬(8:Int)<r[i].dms.length:=(by omega);simp -implicitDefEqProofs[hi,isa,h2',h3',w1];refine ⟨(by (first|exact Ym.tm (by simp[lk])|exact Ym.sub (by simp[lk,Ya,AV.keys]) (by simp[lk,Yc,Ya,AV.keys]))),λj q1 q3=>?_⟩;by_cases e:j=i
   . subst e;exact ⟨by omega,by omega⟩
   . exact he j q1 (by omega)
 . intro he;refine Qga ?_
   have hg:Z9L r=false:=by
    simp only[Z9L,Bool.or_eq_false_iff,decide_eq_false_iff_not,h1,not_false_eq_true,true_and,List.any_eq_false,Bool.not_eq_true,Bool.or_eq_true,decide_eq_true_eq];intro x hx;obtain ⟨j,hj,rfl⟩:=List.getElem_of_mem hx;have:=he j hj hj;omega
   simp -implicitDefEqProofs[];refine Qgr ?_;simp -implicitDefEqProofs[hg]
theorem Z9Q (r:List Iss) (d l:Int) (h:Sml r):PC Tryz.prog G 172 [rega r,.agg [.int .i64 d,.int .i64 l]] (fndA (findN d l r)):=by
 (refine Z94 rfl λR hG hrd=>Qga ?_;subst hG)
 unfold Sml at h;simp -implicitDefEqProofs[Z92,Z93,rega];refine Z9v (λi=>⟨[(6,.int .i64 i),(2,.ptr 2 0),(3,.ptr 3 0),(4,.ptr 4 0)],[(2,.box [.vsl (r.map isa)]),(3,.box [.int .i64 d,.int .i64 l]),(4,.box [.int .i64 0,.int .i64 0,.int .u8 0,.nils,.nils])]⟩) (λi=>∀ j (h:j<r.length),j<i->¬(r[j].d=d/\r[j].l=l)) r.length (by (first|exact Ym.tm (by simp[lk])|exact Ym.sub (by simp[lk,Ya,AV.keys]) (by simp[lk,Yc,Ya,AV.keys]))) (by simp) ?_ ?_
 . intro i hi he;refine Qga ?_;have w1:IntKind.i64.wrap ((i:Int)+1)=((i+1:Nat):Int):=Yf (by omega) (by omega)
   have go:¬(r[i].d=d/\r[i].l=l)->∀ j (h:j<r.length),j<i+1->¬(r[j].d=d/\r[j].l=l):=λhb j q1 q2=>by
    by_cases e:j=i
    . subst e;exact hb
    . exact he j q1 (by omega)
   by_cases h2:r[i].d=d
   . by_cases h3:r[i].l=l
     . simp -implicitDefEqProofs[hi,isa,h2,h3];refine Qgr ?_;simp -implicitDefEqProofs[Z9M hi h2 h3 he,fndA,isa,h2,h3]
     . simp -implicitDefEqProofs[hi,isa,h2,h3,w1];exact ⟨(by (first|exact Ym.tm (by simp[lk])|exact Ym.sub (by simp[lk,Ya,AV.keys]) (by simp[lk,Yc,Ya,AV.keys]))),λj q1 q2 q3 q4=>go (λe=>h3 e.2) j q1 q2 ⟨q3,q4⟩⟩
   . simp -implicitDefEqProofs[hi,isa,h2,w1];exact ⟨(by (first|exact Ym.tm (by simp[lk])|exact Ym.sub (by simp[lk,Ya,AV.keys]) (by simp[lk,Yc,Ya,AV.keys]))),λj q1 q2 q3 q4=>go (λe=>h2 e.1) j q1 q2 ⟨q3,q4⟩⟩
 . intro he;refine Qga ?_;simp -implicitDefEqProofs[];refine Qgr ?_;simp -implicitDefEqProofs[Z9N (λj hj=>he j hj hj),fndA,noIs]
end
def itAt (x:Iss) (i:Nat):Int×Int:=x.its.getD i (0,0)
def itOk (x:Iss) (i:Nat):Bool:=inR (itAt x i).1 1 9999&&inR (itAt x i).2 1 20 && !decide ((itAt x i).1=x.d)&&(i == 0||decide ((itAt x (i-1)).1<(itAt x i).1))
def headB (x:Iss):Bool:=inR x.d 1 9999&&inR x.l 1 8&&inR x.k 1 3&&(if x.k=1 then inR x.its.length 1 8&&decide (x.dms.length=0) else decide (x.dms.length<=4)&&decide (x.its.length=0))
def issB (x:Iss):Bool:=headB x&&(List.range x.its.length).all (itOk x)&&x.dms.all vd
theorem Z9R {n:Nat} {p:Nat->Bool}:(List.range n).all p=true↔∀ j,j<n->p j=true:=by simp[List.all_eq_true]
section
variable {G:Nat->Option (List AV)}
def nuS (r:List Iss):Nat->St
 |0=>⟨[(4,.int .i64 0),(3,.nils),(1,.ptr 1 0)],[(1,.box [.vsl (r.map isa)])]⟩
 |i+1=>⟨[(4,.int .i64 (i+1:Nat)),(3,.osl 35 (numsN r (i+1)).length),(1,.ptr 1 0)],[(1,.box [.vsl (r.map isa)]),(35,.row 1 ((numsN r (i+1)).map ia))]⟩
theorem Z9S (r:List Iss) (h:Sml r) (h0:r≠[]):PC Tryz.prog G 54 [rega r] (.vsl ((nums r).map ia)):=by
 (refine Z8P rfl λR hG hrd=>Qga ?_;subst hG)
 unfold Sml at h;simp -implicitDefEqProofs[Z8N,Z8O,rega];refine Z9v (nuS r) (λ_=>True) r.length (by simp only[nuS];(first|exact Ym.tm (by simp[lk])|exact Ym.sub (by simp[lk,Ya,AV.keys]) (by simp[lk,Yc,Ya,AV.keys]))) trivial ?_ ?_
 . intro i hi he;refine Qga ?_;have e1:=at_eq hi
   cases i with
   | zero =>
     have hn:numsN r 1=[r[0].d]:=(by simp[numsN,newB,e1]);have w1:IntKind.i64.wrap 1=1:=rfl;simp -implicitDefEqProofs[nuS,hi,isa,w1];exact Ym.sub (by simp[lk,Ya,AV.keys,hn]) (by simp[lk,Yc,Ya,AV.keys,hn,ia])
   | succ i =>
     have w1:IntKind.i64.wrap ((i:Int)+1+1)=(i:Int)+1+1:=Yf (by omega) (by omega);have w2:IntKind.i64.wrap (i:Int)=(i:Int):=Yf (by omega) (by omega);have k1:(i:Int)+1<r.length:=(by omega);have k2:((i:Int)+1).toNat=i+1:=(by omega);have k3:(0:Int)<=(i:Int)+1:=(by omega);have k4:¬(i:Int)+1=0:=(by omega);have hi2:i<r.length:=(by omega);have e2:=at_eq hi2;have b1:=Z9J r (i+1);have b2:((numsN r (i+1)).length+1)*8<=70368744177664:=(by omega);by_cases h2:r[i].d=r[i+1].d
     . have hn:numsN r (i+1+1)=numsN r (i+1):=(by rw[numsN];simp[newB,e1,e2,h2]);simp -implicitDefEqProofs[nuS,hi,hi2,k1,k2,k3,k4,isa,w1,w2,h2];exact Ym.sub (by simp[lk,Ya,AV.keys,hn]) (by simp[lk,Yc,Ya,AV.keys,hn,ia])
     . have hn:numsN r (i+1+1)=numsN r (i+1)++[r[i+1].d]:=(by rw[numsN];simp[newB,e1,e2,h2]);simp -implicitDefEqProofs[nuS,hi,hi2,k1,k2,k3,k4,isa,w1,w2,h2,b2];exact Ym.sub (by simp[lk,Ya,AV.keys,hn]) (by simp[lk,Yc,Ya,AV.keys,hn,ia])
 . intro he;refine Qga ?_
   obtain ⟨n,hn⟩ : ∃ n,r.length=n+1:=⟨r.length-1,by
    have:r.length≠0:=(by simpa using h0);omega⟩
   have e:numsN r (n+1)=nums r:=(by rw[nums,hn]);have pu:((nums r).map ia).all (λx=>x.all AV.pure)=true:=(by simp[ia,AV.pure]);rw[hn];have k1:¬(n:Int)+1<n+1:=(by omega);simp -implicitDefEqProofs[nuS,e,hn,k1];refine Qgr ?_;simp -implicitDefEqProofs[pu]
theorem Z9T (x:Iss) (h1:Sml x.its) (h2:Sml x.dms) (hk:0<=x.k/\x.k<=255):PC Tryz.prog G 200 [.agg (isa x)] (.bool (issB x)):=by
 (refine Z8M rfl λR hG hrd=>Qga ?_;subst hG)
 unfold Sml at h1 h2;have wk:IntKind.i64.wrap x.k=x.k:=Yf (by omega) (by omega);have bad:headB x=false->issB x=false:=λe=>by simp[issB,e]
 simp -implicitDefEqProofs[Z8K,Z8L,isa];refine Qco (Z9y _ _ _) (by simp) ?_
 cases q1:inR x.d 1 9999
 . simp -implicitDefEqProofs[bad (by simp[headB,q1])]
 simp -implicitDefEqProofs[];refine Qco (Z9y _ _ _) (by simp) ?_
 cases q2:inR x.l 1 8
 . simp -implicitDefEqProofs[bad (by simp[headB,q2])]
 simp -implicitDefEqProofs[wk];refine Qco (Z9y _ _ _) (by simp) ?_
 cases q3:inR x.k 1 3
 . simp -implicitDefEqProofs[bad (by simp[headB,q3])]
 have q3':1<=x.k/\x.k<=3:=of_decide_eq_true q3;by_cases c1:x.k=1
 . simp -implicitDefEqProofs [c1];refine Qco (Z9y _ _ _) (by simp) ?_
   cases q4:inR x.its.length 1 8
   . simp -implicitDefEqProofs[bad (by simp[headB,q4,c1])]
   have n1:¬(1:Int)<1:=(by omega);by_cases q5:x.dms.length=0
   . have q5n : ¬0<x.dms.length:=(by omega);have hB:headB x=true:=(by simp[headB,q1,q2,c1,q4,q5];rfl);simp -implicitDefEqProofs[q5n,q5];refine Z9v (λi=>⟨[(3,.int .i64 i),(1,.ptr 1 0)],[(1,.box (isa x))]⟩) (λi=>∀ j,j<i->itOk x j=true) x.its.length (by (first|exact Ym.tm (by simp[lk,isa,c1])|exact Ym.sub (by simp[lk,Ya,AV.keys,isa,c1]) (by simp[lk,Yc,Ya,AV.keys,isa,c1]))) (by simp) ?_ ?_
     . intro i hi he;refine Qga ?_;have w1:IntKind.i64.wrap ((i:Int)+1)=((i+1:Nat):Int):=Yf (by omega) (by omega);have a1:itAt x i=x.its[i]:=by simp[itAt,List.getD,hi]
       have no:itOk x i=false->issB x=false:=λe=>by
        cases hI:issB x
        . rfl
        . simp only[issB,Bool.and_eq_true]at hI;rw[Z9R.1 hI.1.2 i hi]at e;cases e
       simp -implicitDefEqProofs[hi,isa,ita];refine Qco (Z9y _ _ _) (by simp) ?_
       cases p1:inR x.its[i].1 1 9999
       . simp -implicitDefEqProofs[];refine ⟨rfl,?_⟩;refine Qgr ?_;simp -implicitDefEqProofs[no (by simp[itOk,a1,p1])]
       simp -implicitDefEqProofs[];refine Qco (Z9y _ _ _) (by simp) ?_
       cases p2:inR x.its[i].2 1 20
       . simp -implicitDefEqProofs[];refine ⟨rfl,?_⟩;refine Qgr ?_;simp -implicitDefEqProofs[no (by simp[itOk,a1,p2])]
       by_cases p3:x.its[i].1=x.d
       . simp -implicitDefEqProofs[p3];refine ⟨rfl,?_⟩;refine Qgr ?_;simp -implicitDefEqProofs[no (by simp[itOk,a1,p3])]
       cases i with
       | zero =>
         have ok:itOk x 0=true:=(by simp[itOk,a1,p1,p2,p3]);have w0:IntKind.i64.wrap 1=1:=rfl;simp -implicitDefEqProofs[p3,w0];exact ⟨rfl,(by (first|exact Ym.tm (by simp[lk,isa])|exact Ym.sub (by simp[lk,Ya,AV.keys,isa]) (by simp[lk,Yc,Ya,AV.keys,isa]))),ok⟩
       | succ i =>
         have w2:IntKind.i64.wrap (i:Int)=(i:Int):=Yf (by omega) (by omega);have w3:IntKind.i64.wrap ((i:Int)+1+1)=(i:Int)+1+1:=Yf (by omega) (by omega);have k3:(0:Int)<(i:Int)+1:=(by omega);have hi2:i<x.its.length:=(by omega);have a2:itAt x i=x.its[i]:=(by simp[itAt,List.getD,hi2]);by_cases p4:x.its[i+1].1<=x.its[i].1
         . simp -implicitDefEqProofs[p3,k3,w2,hi2,ita,p4];refine ⟨rfl,?_⟩;refine Qgr ?_;simp -implicitDefEqProofs[no (by simp[itOk,a1,a2,p4])]
         . have ok:itOk x (i+1)=true:=(by simp[itOk,a1,a2,p1,p2,p3];omega);simp -implicitDefEqProofs[p3,k3,w2,w3,hi2,ita,p4];refine ⟨rfl,(by (first|exact Ym.tm (by simp[lk,isa])|exact Ym.sub (by simp[lk,Ya,AV.keys,isa]) (by simp[lk,Yc,Ya,AV.keys,isa]))),λj hj=>?_⟩;by_cases e:j=i+1
           . subst e;exact ok
           . exact he j (by omega)
     . intro he;refine Qga ?_;have hI:(List.range x.its.length).all (itOk x)=true:=Z9R.2 he;simp -implicitDefEqProofs[isa];refine Qgr ?_;simp -implicitDefEqProofs[];refine Z9v (λi=>⟨[(5,.int .i64 i),(1,.ptr 1 0)],[(1,.box (isa x))]⟩) (λi=>∀ j (h:j<x.dms.length),j<i->vd x.dms[j]=true) x.dms.length (by (first|exact Ym.tm (by simp[lk,isa])|exact Ym.sub (by simp[lk,Ya,AV.keys,isa]) (by simp[lk,Yc,Ya,AV.keys,isa]))) (by simp) ?_ ?_
       . intro i hi he;refine Qga ?_;have w1:IntKind.i64.wrap ((i:Int)+1)=((i+1:Nat):Int):=Yf (by omega) (by omega);simp -implicitDefEqProofs[hi,isa,dma];refine Qco (Z9x _ _ _) (by simp) ?_
         cases p1:vd x.dms[i]
         . have hn:issB x=false:=by
            cases hI2:issB x
            . rfl
            . simp only[issB,Bool.and_eq_true]at hI2;rw[List.all_eq_true.1 hI2.2 _ (List.getElem_mem hi)]at p1;cases p1
           have p1':vd ⟨x.dms[i].n,x.dms[i].l,x.dms[i].u⟩=false:=p1;simp -implicitDefEqProofs[p1'];refine Qgr ?_;simp -implicitDefEqProofs[hn]
         . have p1':vd ⟨x.dms[i].n,x.dms[i].l,x.dms[i].u⟩=true:=p1;simp -implicitDefEqProofs[p1',w1];refine ⟨(by (first|exact Ym.tm (by simp[lk,isa])|exact Ym.sub (by simp[lk,Ya,AV.keys,isa]) (by simp[lk,Yc,Ya,AV.keys,isa]))),λj h1 hj=>?_⟩;by_cases e:j=i
           . subst e;exact p1
           . exact he j h1 (by omega)
       . intro hd;refine Qga ?_
         have hD:x.dms.all vd=true:=List.all_eq_true.2 λy hy=>by
          obtain ⟨j,hj,rfl⟩:=List.getElem_of_mem hy;exact hd j hj hj
         have hT:issB x=true:=(by simp[issB,hB,hI,hD]);simp -implicitDefEqProofs[isa];refine Qgr ?_;simp -implicitDefEqProofs[hT]
   . have q5n:0<x.dms.length:=(by omega);simp -implicitDefEqProofs[q5n,bad (by simp[headB,q5,c1])]
 . have c2 : 1<x.k:=(by omega);by_cases q4:x.dms.length<=4
   case neg =>
    have q4n:4<x.dms.length:=(by omega);have q4i:(4:Int)<x.dms.length:=(by omega);simp -implicitDefEqProofs[c1,c2,q4n,q4i,bad (by simp[headB,q4,c1])]
   have q4n:¬4<x.dms.length:=(by omega);have q4i:¬(4:Int)<x.dms.length:=(by omega);by_cases q5:x.its.length=0
   . have q5n : ¬0<x.its.length:=(by omega);have hB:headB x=true:=(by simp[headB,q1,q2,q3,c1,q4,q5]);simp -implicitDefEqProofs[c1,c2,q4n,q4i,q5n,q5];refine Z9v (λi=>⟨[(3,.int .i64 i),(1,.ptr 1 0)],[(1,.box (isa x))]⟩) (λi=>∀ j,j<i->itOk x j=true) x.its.length (by (first|exact Ym.tm (by simp[lk,isa,c1])|exact Ym.sub (by simp[lk,Ya,AV.keys,isa,c1]) (by simp[lk,Yc,Ya,AV.keys,isa,c1]))) (by simp) ?_ ?_
     . intro i hi he;refine Qga ?_;have w1:IntKind.i64.wrap ((i:Int)+1)=((i+1:Nat):Int):=Yf (by omega) (by omega);have a1:itAt x i=x.its[i]:=by simp[itAt,List.getD,hi]
       have no:itOk x i=false->issB x=false:=λe=>by
        cases hI:issB x
        . rfl
        . simp only[issB,Bool.and_eq_true]at hI;rw[Z9R.1 hI.1.2 i hi]at e;cases e
       simp -implicitDefEqProofs[hi,isa,ita];refine Qco (Z9y _ _ _) (by simp) ?_
       cases p1:inR x.its[i].1 1 9999
       . simp -implicitDefEqProofs[];refine ⟨rfl,?_⟩;refine Qgr ?_;simp -implicitDefEqProofs[no (by simp[itOk,a1,p1])]
       simp -implicitDefEqProofs[];refine Qco (Z9y _ _ _) (by simp) ?_
       cases p2:inR x.its[i].2 1 20
       . simp -implicitDefEqProofs[];refine ⟨rfl,?_⟩;refine Qgr ?_;simp -implicitDefEqProofs[no (by simp[itOk,a1,p2])]
       by_cases p3:x.its[i].1=x.d
       . simp -implicitDefEqProofs[p3];refine ⟨rfl,?_⟩;refine Qgr ?_;simp -implicitDefEqProofs[no (by simp[itOk,a1,p3])]
       cases i with
       | zero =>
         have ok:itOk x 0=true:=(by simp[itOk,a1,p1,p2,p3]);have w0:IntKind.i64.wrap 1=1:=rfl;simp -implicitDefEqProofs[p3,w0];exact ⟨rfl,(by (first|exact Ym.tm (by simp[lk,isa])|exact Ym.sub (by simp[lk,Ya,AV.keys,isa]) (by simp[lk,Yc,Ya,AV.keys,isa]))),ok⟩
       | succ i =>
         have w2:IntKind.i64.wrap (i:Int)=(i:Int):=Yf (by omega) (by omega);have w3:IntKind.i64.wrap ((i:Int)+1+1)=(i:Int)+1+1:=Yf (by omega) (by omega);have k3:(0:Int)<(i:Int)+1:=(by omega);have hi2:i<x.its.length:=(by omega);have a2:itAt x i=x.its[i]:=(by simp[itAt,List.getD,hi2]);by_cases p4:x.its[i+1].1<=x.its[i].1
         . simp -implicitDefEqProofs[p3,k3,w2,hi2,ita,p4];refine ⟨rfl,?_⟩;refine Qgr ?_;simp -implicitDefEqProofs[no (by simp[itOk,a1,a2,p4])]
         . have ok:itOk x (i+1)=true:=(by simp[itOk,a1,a2,p1,p2,p3];omega);simp -implicitDefEqProofs[p3,k3,w2,w3,hi2,ita,p4];refine ⟨rfl,(by (first|exact Ym.tm (by simp[lk,isa])|exact Ym.sub (by simp[lk,Ya,AV.keys,isa]) (by simp[lk,Yc,Ya,AV.keys,isa]))),λj hj=>?_⟩;by_cases e:j=i+1
           . subst e;exact ok
           . exact he j (by omega)
     . intro he;refine Qga ?_;have hI:(List.range x.its.length).all (itOk x)=true:=Z9R.2 he;simp -implicitDefEqProofs[isa];refine Qgr ?_;simp -implicitDefEqProofs[];refine Z9v (λi=>⟨[(5,.int .i64 i),(1,.ptr 1 0)],[(1,.box (isa x))]⟩) (λi=>∀ j (h:j<x.dms.length),j<i->vd x.dms[j]=true) x.dms.length (by (first|exact Ym.tm (by simp[lk,isa])|exact Ym.sub (by simp[lk,Ya,AV.keys,isa]) (by simp[lk,Yc,Ya,AV.keys,isa]))) (by simp) ?_ ?_
       . intro i hi he;refine Qga ?_;have w1:IntKind.i64.wrap ((i:Int)+1)=((i+1:Nat):Int):=Yf (by omega) (by omega);simp -implicitDefEqProofs[hi,isa,dma];refine Qco (Z9x _ _ _) (by simp) ?_
         cases p1:vd x.dms[i]
         . have hn:issB x=false:=by
            cases hI2:issB x
            . rfl
            . simp only[issB,Bool.and_eq_true]at hI2;rw[List.all_eq_true.1 hI2.2 _ (List.getElem_mem hi)]at p1;cases p1
           have p1':vd ⟨x.dms[i].n,x.dms[i].l,x.dms[i].u⟩=false:=p1;simp -implicitDefEqProofs[p1'];refine Qgr ?_;simp -implicitDefEqProofs[hn]
         . have p1':vd ⟨x.dms[i].n,x.dms[i].l,x.dms[i].u⟩=true:=p1;simp -implicitDefEqProofs[p1',w1];refine ⟨(by (first|exact Ym.tm (by simp[lk,isa])|exact Ym.sub (by simp[lk,Ya,AV.keys,isa]) (by simp[lk,Yc,Ya,AV.keys,isa]))),λj h1 hj=>?_⟩;by_cases e:j=i
           . subst e;exact p1
           . exact he j h1 (by omega)
       . intro hd;refine Qga ?_
         have hD:x.dms.all vd=true:=List.all_eq_true.2 λy hy=>by
          obtain ⟨j,hj,rfl⟩:=List.getElem_of_mem hy;exact hd j hj hj
         have hT:issB x=true:=(by simp[issB,hB,hI,hD]);simp -implicitDefEqProofs[isa];refine Qgr ?_;simp -implicitDefEqProofs[hT]
   . have q5n:0<x.its.length:=(by omega);simp -implicitDefEqProofs[c1,c2,q4n,q4i,q5n,bad (by simp[headB,q5,c1])]
end
def Wf (r:List Iss):Prop:=SmlR r/\∀ x∈r,0<=x.k/\x.k<=255
def ordB (r:List Iss):Nat->Bool
 |0=>decide ((at' r 0).l=1)
 | i+1=>if (at' r (i+1)).d<(at' r i).d then false else if (at' r i).d<(at' r (i+1)).d then decide ((at' r (i+1)).l=1)
   else decide ((at' r (i+1)).l=(at' r i).l+1)&&decide ((at' r (i+1)).k=(at' r i).k)
def inB (r:List Iss):Bool:=r.all λx=>x.its.all λy=>decide (y.1∈nums r)
def ItsIn (r:List Iss) (x:Iss):Prop:=∀ y∈x.its,y.1∈nums r
def Z9U (r:List Iss):Bool:=inR r.length 1 60&&r.all issB&&(List.range r.length).all (ordB r)&&inB r&&decide ((nums r).length<=20)
theorem Z9V {r:List Iss} {i:Nat} (h:i<r.length) (e:issB r[i]=false):Z9U r=false:=by
 cases hI:Z9U r
 . rfl
 . simp only[Z9U,Bool.and_eq_true]at hI;rw[List.all_eq_true.1 hI.1.1.1.2 _ (List.getElem_mem h)]at e;cases e
theorem Z9W {r:List Iss} {i:Nat} (h:i<r.length) (e:ordB r i=false):Z9U r=false:=by
 cases hI:Z9U r
 . rfl
 . simp only[Z9U,Bool.and_eq_true]at hI;rw[Z9R.1 hI.1.1.2 i h]at e;cases e
theorem Z9X {r:List Iss} {i k:Nat} (h:i<r.length) (hk:k<r[i].its.length) (e:r[i].its[k].1 ∉ nums r):Z9U r=false:=by
 cases hI:Z9U r
 . rfl
 . simp only[Z9U,Bool.and_eq_true,inB]at hI;have:=List.all_eq_true.1 (List.all_eq_true.1 hI.1.2 _ (List.getElem_mem h)) _ (List.getElem_mem hk);exact absurd (of_decide_eq_true this) e
theorem Z9Y {l:List Int} {n:Int}:idx l n<0↔n ∉ l:=by
 unfold idx
 split
 . rename_i h;simp[h]
 . rename_i h;simp[h]
theorem Z9Z {l:List Int} {n:Int} (h:n∈l):∃ i:Nat,idx l n=i/\i<l.length/\l[i]? = some n:=by
 refine ⟨l.idxOf n,by rw[idx,if_pos h],List.idxOf_lt_length_iff.2 h,?_⟩;have h1:l.idxOf n<l.length:=List.idxOf_lt_length_iff.2 h;rw[List.getElem?_eq_getElem h1,List.getElem_idxOf h1]
theorem Za0 (r:List Iss):(nums r).length<=r.length:=Z9J r _
section
variable {G:Nat->Option (List AV)}
theorem Za1 (r:List Iss) (h:Wf r):PC Tryz.prog G 169 [rega r] (.bool (Z9U r)):=by
 (refine Z8V rfl λR hG hrd=>Qga ?_;subst hG)
 have hs:=h.1.1;unfold Sml at hs;simp -implicitDefEqProofs[Z8T,Z8U,rega];refine Qco (Z9y _ _ _) (by simp) ?_
 cases q1:inR r.length 1 60
 . simp -implicitDefEqProofs[show Z9U r=false by simp[Z9U,q1]]
 have q1':1<=r.length/\r.length<=60:=by
  have:=of_decide_eq_true q1;omega
 have hne:r≠[]:=(by intro e;subst e;simp at q1');simp -implicitDefEqProofs[];refine Z9v (λi=>⟨[(3,.int .i64 i),(1,.ptr 1 0)],[(1,.box [.vsl (r.map isa)])]⟩) (λi=>∀ j (h:j<r.length),j<i->issB r[j]=true/\ordB r j=true) r.length (by (first|exact Ym.tm (by simp[lk])|exact Ym.sub (by simp[lk,Ya,AV.keys]) (by simp[lk,Yc,Ya,AV.keys]))) (by simp) ?_ ?_
 . intro i hi he;refine Qga ?_;have w1:IntKind.i64.wrap ((i:Int)+1)=((i+1:Nat):Int):=Yf (by omega) (by omega);have a1:=at_eq hi;have hx:=h.1.2 r[i] (List.getElem_mem hi);have hk:=h.2 r[i] (List.getElem_mem hi)
   have go:issB r[i]=true->ordB r i=true->∀ j (h:j<r.length),j<i+1->issB r[j]=true/\ordB r j=true:=λg1 g2 j q1 q2=>by
    by_cases e:j=i
    . subst e;exact ⟨g1,g2⟩
    . exact he j q1 (by omega)
   simp -implicitDefEqProofs[hi,isa];refine Qco (Z9T r[i] hx.1 hx.2 hk) (by simp) ?_
   cases p1:issB r[i]
   . simp -implicitDefEqProofs[];refine Qgr ?_;simp -implicitDefEqProofs[Z9V hi p1]
   have hd:1<=r[i].d:=by
    have p2:=p1;simp only[issB,headB,Bool.and_eq_true,inR,decide_eq_true_eq]at p2;exact p2.1.1.1.1.1.1
   cases i with
   | zero =>
     have n1:¬r[0].d<(0:Int):=(by omega);have n2:(0:Int)<r[0].d:=(by omega);by_cases p3:r[0].l=1
     . have ok:ordB r 0=true:=(by simp[ordB,a1,p3]);have w0:IntKind.i64.wrap 1=1:=rfl;simp -implicitDefEqProofs[n1,n2,p3,w0];exact ⟨(by (first|exact Ym.tm (by simp[lk])|exact Ym.sub (by simp[lk,Ya,AV.keys]) (by simp[lk,Yc,Ya,AV.keys]))),λj q1 q2=>by subst q2;exact ⟨p1,ok⟩⟩
     . simp -implicitDefEqProofs[n1,n2,p3];refine Qgr ?_;simp -implicitDefEqProofs[Z9W hi (by simp[ordB,a1,p3])]
   | succ i =>
     have w2:IntKind.i64.wrap (i:Int)=(i:Int):=Yf (by omega) (by omega);have w3:IntKind.i64.wrap ((i:Int)+1+1)=(i:Int)+1+1:=Yf (by omega) (by omega);have k3:(0:Int)<(i:Int)+1:=(by omega);have hi2:i<r.length:=(by omega);have a2:=at_eq hi2;have bl:=(he i hi2 (by omega)).1;simp only[issB,headB,Bool.and_eq_true,inR,decide_eq_true_eq]at bl;have w4:IntKind.i64.wrap (r[i].l+1)=r[i].l+1:=Yf (by omega) (by omega);by_cases p3:r[i+1].d<r[i].d
     . simp -implicitDefEqProofs[k3,w2,hi2,isa,p3];refine Qgr ?_;simp -implicitDefEqProofs[Z9W hi (by simp[ordB,a1,a2,p3])]
     by_cases p4:r[i].d<r[i+1].d
     . by_cases p5:r[i+1].l=1
       . have ok:ordB r (i+1)=true:=(by simp[ordB,a1,a2,p3,p4,p5]);simp -implicitDefEqProofs[k3,w2,w3,hi2,isa,p3,p4,p5];exact ⟨(by (first|exact Ym.tm (by simp[lk])|exact Ym.sub (by simp[lk,Ya,AV.keys]) (by simp[lk,Yc,Ya,AV.keys]))),go p1 ok⟩
       . simp -implicitDefEqProofs[k3,w2,hi2,isa,p3,p4,p5];refine Qgr ?_;simp -implicitDefEqProofs[Z9W hi (by simp[ordB,a1,a2,p3,p4,p5])]
     by_cases p5:r[i+1].l=r[i].l+1
     case neg =>
      simp -implicitDefEqProofs[k3,w2,w4,hi2,isa,p3,p4,p5];refine Qgr ?_;simp -implicitDefEqProofs[Z9W hi (by simp[ordB,a1,a2,p3,p4,p5])]
     by_cases p6:r[i+1].k=r[i].k
     . have ok:ordB r (i+1)=true:=(by simp[ordB,a1,a2,p3,p4,p5,p6]);simp -implicitDefEqProofs[k3,w2,w3,w4,hi2,isa,p3,p4,p5,p6];exact ⟨(by (first|exact Ym.tm (by simp[lk])|exact Ym.sub (by simp[lk,Ya,AV.keys]) (by simp[lk,Yc,Ya,AV.keys]))),go p1 ok⟩
     . simp -implicitDefEqProofs[k3,w2,w4,hi2,isa,p3,p4,p5,p6];refine Qgr ?_;simp -implicitDefEqProofs[Z9W hi (by simp[ordB,a1,a2,p3,p4,p5,p6])]
 . intro he;refine Qga ?_
   have g1:r.all issB=true:=List.all_eq_true.2 λx hx=>by
    obtain ⟨j,hj,rfl⟩:=List.getElem_of_mem hx;exact (he j hj hj).1
   have g2:(List.range r.length).all (ordB r)=true:=Z9R.2 λj hj=>(he j hj hj).2
   have hns:Sml (nums r):=(by have:=Za0 r;unfold Sml;omega);simp -implicitDefEqProofs[];refine Qgr ?_;simp -implicitDefEqProofs[];refine Qco (Z9S r h.1.1 hne) (by simp) ?_;simp -implicitDefEqProofs[];refine Z9v (λi=>⟨[(7,.int .i64 i),(6,.vsl ((nums r).map ia)),(1,.ptr 1 0)],[(1,.box [.vsl (r.map isa)])]⟩) (λi=>∀ j (h:j<r.length),j<i->ItsIn r r[j]) r.length (by (first|exact Ym.tm (by simp[lk])|exact Ym.sub (by simp[lk,Ya,AV.keys]) (by simp[lk,Yc,Ya,AV.keys]))) (by simp) ?_ ?_
   . intro i hi hb;refine Qga ?_;have w1:IntKind.i64.wrap ((i:Int)+1)=((i+1:Nat):Int):=Yf (by omega) (by omega);have hx:=(h.1.2 r[i] (List.getElem_mem hi)).1;unfold Sml at hx;simp -implicitDefEqProofs[hi];refine Z9v (λk=>⟨[(8,.int .i64 k),(7,.int .i64 i),(6,.vsl ((nums r).map ia)),(1,.ptr 1 0)],[(1,.box [.vsl (r.map isa)])]⟩) (λk=>∀ j (h:j<r[i].its.length),j<k->r[i].its[j].1∈nums r) r[i].its.length (by (first|exact Ym.tm (by simp[lk])|exact Ym.sub (by simp[lk,Ya,AV.keys]) (by simp[lk,Yc,Ya,AV.keys]))) (by simp) ?_ ?_
     . intro k hk hc;refine Qga ?_;have w2:IntKind.i64.wrap ((k:Int)+1)=((k+1:Nat):Int):=Yf (by omega) (by omega);simp -implicitDefEqProofs[hi,isa,hk,ita];refine Qco (Z9B (nums r) _ hns) (by simp) ?_;by_cases p1:r[i].its[k].1∈nums r
       . have n1:¬idx (nums r) r[i].its[k].1<0:=λe=>Z9Y.1 e p1
         simp -implicitDefEqProofs[n1,w2];refine ⟨(by (first|exact Ym.tm (by simp[lk])|exact Ym.sub (by simp[lk,Ya,AV.keys]) (by simp[lk,Yc,Ya,AV.keys]))),λj q1 q2=>?_⟩;by_cases e:j=k
         . subst e;exact p1
         . exact hc j q1 (by omega)
       . have n1:idx (nums r) r[i].its[k].1<0:=Z9Y.2 p1;simp -implicitDefEqProofs[n1];refine Qgr ?_;simp -implicitDefEqProofs[];refine Qgr ?_;simp -implicitDefEqProofs[Z9X hi hk p1]
     . intro hc;refine Qga ?_;simp -implicitDefEqProofs[hi,isa];refine Qgr ?_;simp -implicitDefEqProofs[w1];refine ⟨(by (first|exact Ym.tm (by simp[lk])|exact Ym.sub (by simp[lk,Ya,AV.keys]) (by simp[lk,Yc,Ya,AV.keys]))),λj q1 q2=>?_⟩;by_cases e:j=i
       . subst e;intro y hy;obtain ⟨n,hn,rfl⟩:=List.getElem_of_mem hy;exact hc n hn hn
       . exact hb j q1 (by omega)
   . intro hb;refine Qga ?_
     have g3:inB r=true:=List.all_eq_true.2 λx hx=>List.all_eq_true.2 λy hy=>by
      obtain ⟨j,hj,rfl⟩:=List.getElem_of_mem hx;exact decide_eq_true (hb j hj hj y hy)
     have g4:Z9U r=decide ((nums r).length<=20):=(by simp[Z9U,q1,g1,g2,g3]);simp -implicitDefEqProofs[];refine Qgr ?_;simp -implicitDefEqProofs[g4];omega
end
def Ord (r:List Iss):Prop:=∀ i,i+1<r.length->(at' r i).d<=(at' r (i+1)).d
theorem Ord.mono {r:List Iss} (h:Ord r):∀ {i j:Nat},i<=j->j<r.length->(at' r i).d<=(at' r j).d:=by
 intro i j hij hj
 induction j with
 | zero => obtain rfl:i=0:=by omega
           exact Int.le_refl _
 | succ j ih =>
   by_cases e:i=j+1
   . subst e;exact Int.le_refl _
   . exact Int.le_trans (ih (by omega) (by omega)) (h j hj)
theorem Za2 {r:List Iss} (h:Z9U r=true):Ord r:=by
 intro i hi;simp only[Z9U,Bool.and_eq_true]at h;have:=Z9R.1 h.1.1.2 (i+1) hi;simp only[ordB]at this
 split at this
 . cases this
 . omega
theorem Za3 {r:List Iss} (h:Ord r):∀ i,i<=r.length->(numsN r i).Pairwise (· < ·)/\(∀ y∈numsN r i,∃ j,j<i/\(at' r j).d=y)/\∀ j,j<i->(at' r j).d∈numsN r i:=by
 intro i
 induction i with
 |zero=>intro _;simp[numsN]
 | succ i ih =>
   intro hi;obtain ⟨h1,h2,h3⟩:=ih (by omega);simp only[numsN]
   split
   . rename_i hb;refine ⟨List.pairwise_append.2 ⟨h1,by simp,λa ha b hb'=>?_⟩,λy hy=>?_,λj hj=>?_⟩
     . simp only[List.mem_singleton]at hb';subst hb';obtain ⟨j,hj,rfl⟩:=h2 a ha;simp only[newB,Bool.or_eq_true,beq_iff_eq,Bool.not_eq_true',decide_eq_false_iff_not]at hb;have m1:=h.mono (show j<=i-1 by omega) (by omega);have m2:=h.mono (show i-1<=i by omega) (by omega);rcases hb with hb|hb
       . omega
       . omega
     . rcases List.mem_append.1 hy with hy|hy
       . obtain ⟨j,hj,e⟩:=h2 y hy;exact ⟨j,by omega,e⟩
       . exact ⟨i,by omega,(List.mem_singleton.1 hy).symm⟩
     . by_cases e:j=i
       . subst e;simp
       . exact List.mem_append.2 (.inl (h3 j (by omega)))
   . rename_i hb;refine ⟨h1,λy hy=>?_,λj hj=>?_⟩
     . obtain ⟨j,hj,e⟩:=h2 y hy;exact ⟨j,by omega,e⟩
     . by_cases e:j=i
       . subst e;simp only[newB,Bool.or_eq_true,beq_iff_eq,Bool.not_eq_true',decide_eq_false_iff_not,not_or,Decidable.not_not]at hb;rw[<- hb.2];exact h3 _ (by omega)
       . exact h3 j (by omega)
theorem Za4 {r:List Iss} (h:Ord r):(nums r).Pairwise (· < ·):=(Za3 h _ (Nat.le_refl _)).1
theorem Za5 {r:List Iss} (h:Ord r):(nums r).Nodup:=(Za4 h).imp λh=>Int.ne_of_lt h
theorem Za6 {r:List Iss} (h:Ord r) {n:Int} (hn:n∈nums r):∃ i,∃ hi:i<r.length,r[i].d=n:=by
 obtain ⟨i,hi,e⟩:=(Za3 h _ (Nat.le_refl _)).2.1 n hn;exact ⟨i,hi,by rw[<- at_eq hi];exact e⟩
theorem Za7 {r:List Iss} (h:Ord r) {i:Nat} (hi:i<r.length):r[i].d∈nums r:=by
 have:=(Za3 h _ (Nat.le_refl _)).2.2 i hi
 rwa [at_eq hi]at this
def dvIt (f:Int->Int) (m:Int) (its:List (Int×Int)):Int:=its.foldl (λm y=>max m (1+f y.1)) m
def dvN (r:List Iss) (f:Int->Int) (n:Int):Nat->Int
 |0=>0
 |i+1=>if (at' r i).d=n then dvIt f (max (dvN r f n i) 1) (at' r i).its else dvN r f n i
def Dv (r:List Iss):Nat->Int->Int
 |0,_=>0
 |k+1,n=>dvN r (Dv r k) n r.length
theorem Za8 {f:Int->Int} {K:Int} (hf:∀ n,0<=f n/\f n<=K):∀ (its:List (Int×Int)) (m:Int),0<=m->m<=K+1->0<=dvIt f m its/\dvIt f m its<=K+1
 |[],m,h1,h2=>⟨h1,h2⟩
 | y::its,m,h1,h2=>by
   have:=hf y.1;exact Za8 hf its (max m (1+f y.1)) (by omega) (by omega)
theorem Za9 (r:List Iss) {f:Int->Int} {K:Int} (hK:0<=K) (hf:∀ n,0<=f n/\f n<=K) (n:Int):∀ i,0<=dvN r f n i/\dvN r f n i<=K+1
 |0=>by simp only[dvN];omega
 | i+1=>by
   have:=Za9 r hK hf n i;simp only[dvN]
   split
   . exact Za8 hf _ _ (by omega) (by omega)
   . exact this
theorem Dv_bd (r:List Iss):∀ k n,0<=Dv r k n/\Dv r k n<=k
 |0,n=>by simp[Dv]
 | k+1,n=>by
   have:=Za9 r (K:=(k:Int)) (by omega) (Dv_bd r k) n r.length;simp only[Dv];omega
def rowF (l:List Int) (g:Int->Int):List (List AV):=l.map λn=>[.int .i64 (g n)]
theorem Zaa {l:List Int} (hn:l.Nodup) {g:Int->Int} {j:Nat} {d v:Int} (hj:l[j]? = some d):(rowF l g).set j [.int .i64 v]=rowF l λn=>if n=d then v else g n:=by
 apply List.ext_getElem?
 intro i;obtain ⟨hlt,he⟩:=List.getElem?_eq_some_iff.1 hj;simp only[rowF,List.getElem?_set,List.getElem?_map,List.length_map];by_cases e:j=i
 . subst e;simp[hlt,he]
 . rw[if_neg e]
   cases hi:l[i]? with
   |none=>rfl
   | some x =>
     obtain ⟨hlt2,he2⟩:=List.getElem?_eq_some_iff.1 hi;have:x≠d:=λq=>e ((List.getElem_inj hn).1 (by rw[he,he2,q]))
     simp[this]
theorem Zab {l:List Int} {g:Int->Int}:(rowF l g).length=l.length:=by simp[rowF]
theorem Zac {l:List Int} {g:Int->Int}:(rowF l g).all (λr=>r.all AV.pure)=true:=by simp[rowF,AV.pure]
theorem Zad {l:List Int} {g:Int->Int} {p:List AV->Bool}:(rowF l g).all p=l.all λn=>p [.int .i64 (g n)]:=by simp[rowF,List.all_map,Function.comp_def]
attribute [simp] Zad
theorem Zae {l:List Int} {g:Int->Int} {j:Nat} (h:j<(rowF l g).length):(rowF l g)[j]=[.int .i64 (g (l[j]'(by simpa [rowF] using h)))]:=by simp[rowF]
attribute [simp] Zae Zab
theorem Zaf {l:List Int}:List.replicate l.length [AV.int .i64 0]=rowF l λ_=>0:=by
 simp only[rowF];induction l with
 |nil=>rfl
 |cons x l ih=>simp[List.replicate_succ,ih]
theorem Zag (f:Int->Int) (m:Int) (its:List (Int×Int)) (k:Nat) (h:k<its.length):dvIt f m (its.take (k+1))=max (dvIt f m (its.take k)) (1+f its[k].1):=by
 rw[List.take_succ_eq_append_getElem h,dvIt,List.foldl_append];rfl
theorem Zah {d:Int} {v v0:Int} {g:Int->Int}:(λn=>if n=d then v else if n=d then v0 else g n)=λn=>if n=d then v else g n:=by
 funext n;split <;> rfl
theorem Ym.trans {a b c:St} (h:Ym a b) (g:Ym b c):Ym a c:=λR x W s=>g R x W (h R x W s)
section
variable {G:Nat->Option (List AV)}
set_option maxRecDepth 8000 in
theorem Zai (r:List Iss) (h:Wf r) (hL:Z9U r=true):PC Tryz.prog G 170 [rega r] (.vsl (rowF (nums r) (Dv r ((nums r).length+1)))):=by
 (refine Z8Y rfl λR hG hrd=>Qga ?_;subst hG)
 have hs:=h.1.1;unfold Sml at hs;have hO:=Za2 hL;have hl:=Za0 r;have hnd:=Za5 hO;have hL2:=hL;simp only[Z9U,Bool.and_eq_true,inB,decide_eq_true_eq]at hL2;obtain ⟨⟨⟨⟨l1,l2⟩,l3⟩,l4⟩,l5⟩:=hL2;have l1':=of_decide_eq_true l1;have hne:r≠[]:=(by intro e;subst e;simp at l1');have hns:Sml (nums r):=(by unfold Sml;omega);simp -implicitDefEqProofs[Z8W,Z8X,rega];refine Qco (Z9S r h.1.1 hne) (by simp) ?_;have b1:((nums r).length:Int)<=16777216:=(by omega);simp -implicitDefEqProofs[b1,Zaf];refine Z9v (λk=>⟨[(5,.int .i64 k),(4,.vsl (rowF (nums r) (Dv r k))),(3,.vsl ((nums r).map ia)),(1,.ptr 1 0)],[(1,.box [.vsl (r.map isa)])]⟩) (λ_=>True) ((nums r).length+1) ?_ trivial ?_ ?_
 . refine Ym.trans (Ym.frz (λk=>k == 15) _) ?_;have e0:(λn=>Dv r 0 n)=λ_=>0:=rfl
   exact Ym.sub (by simp[lk,Ya,AV.keys,Yi,frzA,frzO,frz,Yh,St.get,Zab,Zac,Dv,Function.const]) (by simp[lk,Yc,Ya,AV.keys,Yi,frzA,frzO,frz]) (by simp[Yi,lk];try omega)
 . intro k hk _;refine Qga ?_;have k1:(k:Int)<=(nums r).length:=(by omega);simp -implicitDefEqProofs[k1,b1,Zaf];have bd:=Dv_bd r k;have hkb:(k:Int)<=61:=(by omega);refine Z9v (λi=>⟨[(7,.int .i64 i),(6,.osl 24 (nums r).length),(5,.int .i64 k),(4,.vsl (rowF (nums r) (Dv r k))),(3,.vsl ((nums r).map ia)),(1,.ptr 1 0)],[(1,.box [.vsl (r.map isa)]),(24,.row 1 (rowF (nums r) λn=>dvN r (Dv r k) n i))]⟩) (λ_=>True) r.length (by (first|exact Ym.tm (by simp[lk,dvN])|exact Ym.sub (by simp[lk,Ya,AV.keys,dvN]) (by simp[lk,Yc,Ya,AV.keys,dvN]))) trivial ?_ ?_
   . intro i hi _;refine Qga ?_;have w1:IntKind.i64.wrap ((i:Int)+1)=((i+1:Nat):Int):=Yf (by omega) (by omega);have a1:=at_eq hi;have hx:=(h.1.2 r[i] (List.getElem_mem hi)).1;unfold Sml at hx
     have hits:∀ m (hm:m<r[i].its.length),r[i].its[m].1∈nums r:=λm hm =>
      of_decide_eq_true (List.all_eq_true.1 (List.all_eq_true.1 l4 _ (List.getElem_mem hi)) _ (List.getElem_mem hm))
     simp -implicitDefEqProofs[hi,isa];refine Qco (Z9B (nums r) _ hns) (by simp) ?_;obtain ⟨j,hj,hlt,hget⟩:=Z9Z (Za7 hO hi);rw[hj];have hset:=λg v=>Zaa (g:=g) (v:=v) hnd hget
     have hgt:(nums r)[j]=r[i].d:=(List.getElem?_eq_some_iff.1 hget).2;simp -implicitDefEqProofs[hlt,hgt,hset]
     refine Z9v (λm=>⟨[(10,.int .i64 m),(9,.int .i64 j),(8,.ptr 8 0),(7,.int .i64 i),(6,.osl 24 (nums r).length),(5,.int .i64 k),(4,.vsl (rowF (nums r) (Dv r k))),(3,.vsl ((nums r).map ia)),(1,.ptr 1 0)],
      [(1,.box [.vsl (r.map isa)]),(8,.box (isa r[i])),(24,.row 1 (rowF (nums r) λn=>if n=r[i].d then dvIt (Dv r k) (max (dvN r (Dv r k) r[i].d i) 1) (r[i].its.take m) else dvN r (Dv r k) n i))]⟩) (λ_=>True) r[i].its.length (by (first|exact Ym.tm (by simp[lk,dvIt,isa])|exact Ym.sub (by simp[lk,Ya,AV.keys,dvIt,isa]) (by simp[lk,Yc,Ya,AV.keys,dvIt,isa]))) trivial ?_ ?_
     . intro m hm _;refine Qga ?_;have w2:IntKind.i64.wrap ((m:Int)+1)=((m+1:Nat):Int):=Yf (by omega) (by omega);obtain ⟨j2,hj2,hlt2,hget2⟩:=Z9Z (hits m hm);have hgt2:(nums r)[j2]=r[i].its[m].1:=(List.getElem?_eq_some_iff.1 hget2).2;have bd2:=bd r[i].its[m].1;have w3:IntKind.i64.wrap (1+Dv r k r[i].its[m].1)=1+Dv r k r[i].its[m].1:=Yf (by omega) (by omega);simp -implicitDefEqProofs[isa,hm,ita,hlt,hgt];refine Qco (Z9B (nums r) _ hns) (by simp) ?_;rw[hj2];have tk:=Zag (Dv r k) (max (dvN r (Dv r k) r[i].d i) 1) r[i].its m hm;simp -implicitDefEqProofs[hlt2,hgt2,w2,w3,hlt,hgt,hset,Zah];refine ⟨rfl,?_⟩;rw[<- tk]
       (first|exact Ym.tm (by simp[lk,isa])|exact Ym.sub (by simp[lk,Ya,AV.keys,isa]) (by simp[lk,Yc,Ya,AV.keys,isa]))
     . intro _;refine Qga ?_;simp -implicitDefEqProofs[isa];refine Qgr ?_;simp -implicitDefEqProofs[w1]
       have e:(λn=>if n=r[i].d then dvIt (Dv r k) (max (dvN r (Dv r k) r[i].d i) 1) r[i].its else dvN r (Dv r k) n i)=λn=>dvN r (Dv r k) n (i+1):=by
        funext n
        simp only[dvN,a1];by_cases q:r[i].d=n
        . subst q;simp
        . rw[if_neg q,if_neg (λe=>q e.symm)]
       rw[e]
       (first|exact Ym.tm (by simp[lk])|exact Ym.sub (by simp[lk,Ya,AV.keys]) (by simp[lk,Yc,Ya,AV.keys]))
   . intro _;refine Qga ?_;simp -implicitDefEqProofs[];refine Qgr ?_;have w1:IntKind.i64.wrap ((k:Int)+1)=((k+1:Nat):Int):=Yf (by omega) (by omega);simp -implicitDefEqProofs[w1];have e:(λn=>dvN r (Dv r k) n r.length)=Dv r (k+1):=rfl;rw[e];refine Ym.trans (Ym.frz (λk=>k == 24) _) ?_;exact Ym.sub (by simp[lk,Ya,AV.keys,Yi,frzA,frzO,frz,Yh,St.get,Zac]) (by simp[lk,Yc,Ya,AV.keys,Yi,frzA,frzO,frz]) (by simp[Yi,lk];try omega)
 . intro _;refine Qga ?_;have k1:¬((nums r).length:Int)+1<=(nums r).length:=(by omega);simp -implicitDefEqProofs[k1];refine Qgr ?_;simp -implicitDefEqProofs[]
end
theorem Zaj (r:List Iss):(rega r).pure=true:=by simp[rega,AV.pure]
attribute [simp] Zaj
def mostV (l:List Int) (g:Int->Int):Int:=l.foldl (λm n=>max m (g n)) 0
def chkV (r:List Iss):Int:=if Z9U r=true then
    if ((nums r).length:Int)<mostV (nums r) (Dv r ((nums r).length+1)) then 21 else if 6<mostV (nums r) (Dv r ((nums r).length+1)) then 20 else 0
 else 20
def zI:Iss:=⟨0,0,0,[],[]⟩
theorem Zak {d l:Int}:∀ {r:List Iss} {x:Iss},findN d l r=some x->x∈r/\x.d=d/\x.l=l
 |[],x,h=>by simp[findN]at h
 | y::r,x,h=>by
   simp only[findN]at h
   split at h
   . rename_i e;cases h;exact ⟨List.mem_cons_self ..,e⟩
   . obtain ⟨h1,h2⟩:=Zak h;exact ⟨List.mem_cons_of_mem _ h1,h2⟩
theorem Zal (l:List Int) (g:Int->Int) (k:Nat) (h:k<l.length):mostV (l.take (k+1)) g=max (mostV (l.take k) g) (g l[k]):=by
 rw[List.take_succ_eq_append_getElem h,mostV,List.foldl_append];rfl
section
variable {G:Nat->Option (List AV)}
theorem Zam (r:List Iss) (h:Wf r):PC Tryz.prog G 133 [rega r] (.int .i64 (chkV r)):=by
 (refine Z91 rfl λR hG hrd=>Qga ?_;subst hG)
 simp -implicitDefEqProofs[Z8Z,Z90,rega];refine Qco (Za1 r h) (by simp) ?_
 cases hL:Z9U r
 . simp -implicitDefEqProofs[show chkV r=20 by simp[chkV,hL]]
 simp -implicitDefEqProofs[];refine Qco (Zai r h hL) (by simp) ?_;have hs:=h.1.1;unfold Sml at hs;have hl:=Za0 r;simp -implicitDefEqProofs[];refine Z9v (λk=>⟨[(5,.int .i64 k),(4,.int .i64 (mostV ((nums r).take k) (Dv r ((nums r).length+1)))),(3,.vsl (rowF (nums r) (Dv r ((nums r).length+1)))),(1,.ptr 1 0)],[(1,.box [.vsl (r.map isa)])]⟩) (λ_=>True) (nums r).length (by (first|exact Ym.tm (by simp[lk,mostV])|exact Ym.sub (by simp[lk,Ya,AV.keys,mostV]) (by simp[lk,Yc,Ya,AV.keys,mostV]))) trivial ?_ ?_
 . intro k hk _;refine Qga ?_;have w1:IntKind.i64.wrap ((k:Int)+1)=((k+1:Nat):Int):=Yf (by omega) (by omega);have tk:=Zal (nums r) (Dv r ((nums r).length+1)) k hk;simp -implicitDefEqProofs[hk,w1];rw[<- tk]
   (first|exact Ym.tm (by simp[lk])|exact Ym.sub (by simp[lk,Ya,AV.keys]) (by simp[lk,Yc,Ya,AV.keys]))
 . intro _;refine Qga ?_;simp -implicitDefEqProofs[];refine Qgr ?_;generalize hm:mostV (nums r) (Dv r ((nums r).length+1))=m;by_cases q1:((nums r).length:Int)<m
   . simp -implicitDefEqProofs[q1,show chkV r=21 by simp[chkV,hL,hm,q1]]
   by_cases q2:6<m
   . simp -implicitDefEqProofs[q1,q2,show chkV r=20 by simp[chkV,hL,hm,q1,q2]]
   . simp -implicitDefEqProofs[q1,q2,show chkV r=0 by simp[chkV,hL,hm,q1,q2]]
end
def fstOf {α:Type} (p:α->Bool) (l:List α):Int:=match l.findIdx? p with|some i=>(i:Int)|none=>-1
theorem Zan {α:Type} {p:α->Bool} {l:List α} {i:Nat} (h:i<l.length) (hp:p l[i]=true) (hn:∀ j (h:j<l.length),j<i->p l[j]=false):fstOf p l=i:=by
 have:l.findIdx? p=some i:=by
  rw[List.findIdx?_eq_some_iff_getElem];refine ⟨h,hp,λj hj=>?_⟩;rw[hn j (by omega) hj];simp
 simp[fstOf,this]
theorem Zao {α:Type} {p:α->Bool} {l:List α} (hn:∀ j (h:j<l.length),p l[j]=false):fstOf p l = -1:=by
 have:l.findIdx? p=none:=List.findIdx?_eq_none_iff.2 λx hx=>by
  obtain ⟨j,hj,rfl⟩:=List.getElem_of_mem hx;exact hn j hj
 simp[fstOf,this]
theorem Zap {α:Type} (p:α->Bool) (l:List α):decide (0<=fstOf p l)=l.any p:=by
 unfold fstOf
 cases h:l.findIdx? p with
 | none =>
   have h2:=List.findIdx?_eq_none_iff.1 h;have:l.any p=false:=(by rw[<- Bool.not_eq_true,List.any_eq_true];rintro ⟨x,hx,hp⟩;rw[h2 x hx]at hp;cases hp);simp[this]
 | some i =>
   obtain ⟨h1,h2,-⟩:=List.findIdx?_eq_some_iff_getElem.1 h;have:l.any p=true:=List.any_eq_true.2 ⟨l[i],List.getElem_mem h1,h2⟩;simp[this]
section
variable {G:Nat->Option (List AV)}
theorem Zaq (g:Nat) (caps:List AV) (p:Int->Bool) (l:List Int) (hc:caps.all AV.pure=true) (hl:Sml l)
  (hg:∀ x∈l,PC Tryz.prog G g (.int .i64 x::caps) (.bool (p x))) :
  PC Tryz.prog G 142 [.vsl (l.map ia),.func (.func g) [] caps] (.int .i64 (fstOf p l)):=by
 (refine Z7a rfl λR hG hrd=>Qga ?_;subst hG)
 unfold Sml at hl;have hc2:∀ x∈caps,x.pure=true:=List.all_eq_true.1 hc;simp -implicitDefEqProofs[Z78,Z79];refine Z9v (λi=>⟨[(8,.int .i64 i),(7,.int .i64 l.length),(0,.vsl (l.map ia)),(1,.func (.func g) [] caps)],[]⟩) (λi=>∀ j (h:j<l.length),j<i->p l[j]=false) l.length (by (first|exact Ym.tm (by simp[lk])|exact Ym.sub (by simp[lk,Ya,AV.keys]) (by simp[lk,Yc,Ya,AV.keys]))) (by simp) ?_ ?_
 . intro i hi he;refine Qga ?_;have w1:IntKind.i64.wrap ((i:Int)+1)=((i+1:Nat):Int):=Yf (by omega) (by omega);simp -implicitDefEqProofs[hi,ia];refine Yd.of (hg _ (List.getElem_mem hi)) (by simpa [AV.pure] using hc2) ?_
   cases h3:p l[i]
   . simp -implicitDefEqProofs[w1];refine ⟨(by (first|exact Ym.tm (by simp[lk])|exact Ym.sub (by simp[lk,Ya,AV.keys]) (by simp[lk,Yc,Ya,AV.keys]))),λj q1 q2=>?_⟩;by_cases e:j=i
     . subst e;exact h3
     . exact he j q1 (by omega)
   . simp -implicitDefEqProofs;refine Qgr ?_;simp -implicitDefEqProofs[Zan hi h3 he]
 . intro he;refine Qga ?_;simp -implicitDefEqProofs[];refine Qgr ?_;simp -implicitDefEqProofs[Zao (p:=p) (l:=l) (λj hj=>he j hj hj)]
theorem Zar (g:Nat) (caps:List AV) (p:Int->Bool) (l:List Int) (hc:caps.all AV.pure=true) (hl:Sml l)
  (hg:∀ x∈l,PC Tryz.prog G g (.int .i64 x::caps) (.bool (p x))) :
  PC Tryz.prog G 85 [.vsl (l.map ia),.func (.func g) [] caps] (.bool (l.any p)):=by
 (refine Z77 rfl λR hG hrd=>Qga ?_;subst hG)
 simp -implicitDefEqProofs[Z75,Z76];have hc2:∀ x∈caps,x.pure=true:=List.all_eq_true.1 hc;refine Yd.of (Zaq g caps p l hc hl hg) (by simpa [AV.pure] using hc2) ?_;have e:=Zap p l;simp -implicitDefEqProofs[e]
theorem Zas (g:Nat) (caps:List AV) (p:(Int×Int)->Bool) (l:List (Int×Int)) (hc:caps.all AV.pure=true) (hl:Sml l)
  (hg:∀ x∈l,PC Tryz.prog G g (.agg [.int .i64 x.1,.int .i64 x.2]::caps) (.bool (p x))) :
  PC Tryz.prog G 209 [.vsl (l.map ita),.func (.func g) [] caps] (.int .i64 (fstOf p l)):=by
 (refine Z7N rfl λR hG hrd=>Qga ?_;subst hG)
 unfold Sml at hl;have hc2:∀ x∈caps,x.pure=true:=List.all_eq_true.1 hc;simp -implicitDefEqProofs[Z7L,Z7M];refine Z9v (λi=>⟨[(8,.int .i64 i),(7,.int .i64 l.length),(0,.vsl (l.map ita)),(1,.func (.func g) [] caps)],[]⟩) (λi=>∀ j (h:j<l.length),j<i->p l[j]=false) l.length (by (first|exact Ym.tm (by simp[lk])|exact Ym.sub (by simp[lk,Ya,AV.keys]) (by simp[lk,Yc,Ya,AV.keys]))) (by simp) ?_ ?_
 . intro i hi he;refine Qga ?_;have w1:IntKind.i64.wrap ((i:Int)+1)=((i+1:Nat):Int):=Yf (by omega) (by omega);simp -implicitDefEqProofs[hi,ita];refine Yd.of (hg _ (List.getElem_mem hi)) (by simpa [AV.pure] using hc2) ?_
   cases h3:p l[i]
   . simp -implicitDefEqProofs[w1];refine ⟨(by (first|exact Ym.tm (by simp[lk])|exact Ym.sub (by simp[lk,Ya,AV.keys]) (by simp[lk,Yc,Ya,AV.keys]))),λj q1 q2=>?_⟩;by_cases e:j=i
     . subst e;exact h3
     . exact he j q1 (by omega)
   . simp -implicitDefEqProofs;refine Qgr ?_;simp -implicitDefEqProofs[Zan hi h3 he]
 . intro he;refine Qga ?_;simp -implicitDefEqProofs[];refine Qgr ?_;simp -implicitDefEqProofs[Zao (p:=p) (l:=l) (λj hj=>he j hj hj)]
theorem Zat (g:Nat) (caps:List AV) (p:(Int×Int)->Bool) (l:List (Int×Int)) (hc:caps.all AV.pure=true) (hl:Sml l)
  (hg:∀ x∈l,PC Tryz.prog G g (.agg [.int .i64 x.1,.int .i64 x.2]::caps) (.bool (p x))) :
  PC Tryz.prog G 195 [.vsl (l.map ita),.func (.func g) [] caps] (.bool (l.any p)):=by
 (refine Z7K rfl λR hG hrd=>Qga ?_;subst hG)
 simp -implicitDefEqProofs[Z7I,Z7J];have hc2:∀ x∈caps,x.pure=true:=List.all_eq_true.1 hc;refine Yd.of (Zas g caps p l hc hl hg) (by simpa [AV.pure] using hc2) ?_;have e:=Zap p l;simp -implicitDefEqProofs[e]
theorem Zau (g:Nat) (caps:List AV) (p:Dm->Bool) (l:List Dm) (hc:caps.all AV.pure=true) (hl:Sml l)
  (hg:∀ x∈l,PC Tryz.prog G g (.agg [.int .i64 x.n,.int .i64 x.l,.int .i64 x.u]::caps) (.bool (p x))) :
  PC Tryz.prog G 267 [.vsl (l.map dma),.func (.func g) [] caps] (.int .i64 (fstOf p l)):=by
 (refine Z7H rfl λR hG hrd=>Qga ?_;subst hG)
 unfold Sml at hl;have hc2:∀ x∈caps,x.pure=true:=List.all_eq_true.1 hc;simp -implicitDefEqProofs[Z7F,Z7G];refine Z9v (λi=>⟨[(8,.int .i64 i),(7,.int .i64 l.length),(0,.vsl (l.map dma)),(1,.func (.func g) [] caps)],[]⟩) (λi=>∀ j (h:j<l.length),j<i->p l[j]=false) l.length (by (first|exact Ym.tm (by simp[lk])|exact Ym.sub (by simp[lk,Ya,AV.keys]) (by simp[lk,Yc,Ya,AV.keys]))) (by simp) ?_ ?_
 . intro i hi he;refine Qga ?_;have w1:IntKind.i64.wrap ((i:Int)+1)=((i+1:Nat):Int):=Yf (by omega) (by omega);simp -implicitDefEqProofs[hi,dma];refine Yd.of (hg _ (List.getElem_mem hi)) (by simpa [AV.pure] using hc2) ?_
   cases h3:p l[i]
   . simp -implicitDefEqProofs[w1];refine ⟨(by (first|exact Ym.tm (by simp[lk])|exact Ym.sub (by simp[lk,Ya,AV.keys]) (by simp[lk,Yc,Ya,AV.keys]))),λj q1 q2=>?_⟩;by_cases e:j=i
     . subst e;exact h3
     . exact he j q1 (by omega)
   . simp -implicitDefEqProofs;refine Qgr ?_;simp -implicitDefEqProofs[Zan hi h3 he]
 . intro he;refine Qga ?_;simp -implicitDefEqProofs[];refine Qgr ?_;simp -implicitDefEqProofs[Zao (p:=p) (l:=l) (λj hj=>he j hj hj)]
theorem Zav (g:Nat) (caps:List AV) (p:Dm->Bool) (l:List Dm) (hc:caps.all AV.pure=true) (hl:Sml l)
  (hg:∀ x∈l,PC Tryz.prog G g (.agg [.int .i64 x.n,.int .i64 x.l,.int .i64 x.u]::caps) (.bool (p x))) :
  PC Tryz.prog G 264 [.vsl (l.map dma),.func (.func g) [] caps] (.bool (l.any p)):=by
 (refine Z7E rfl λR hG hrd=>Qga ?_;subst hG)
 simp -implicitDefEqProofs[Z7C,Z7D];have hc2:∀ x∈caps,x.pure=true:=List.all_eq_true.1 hc;refine Yd.of (Zau g caps p l hc hl hg) (by simpa [AV.pure] using hc2) ?_;have e:=Zap p l;simp -implicitDefEqProofs[e]
theorem Zaw (n lo hi:Int):PC Tryz.prog G 269 [.int .i64 n,.vptr [.int .i64 lo] 0,.vptr [.int .i64 hi] 0] (.bool (!inR n lo hi)):=by
 (refine Z74 rfl λR hG hrd=>Qga ?_;subst hG)
 by_cases h1:n<lo
 . have h2:¬lo<=n:=(by omega);simp -implicitDefEqProofs[Z72,Z73,h1,h2,inR]
 . have h2:lo<=n:=(by omega);by_cases h3:hi<n
   . have h4:¬n<=hi:=(by omega);simp -implicitDefEqProofs[Z72,Z73,h1,h2,h3,h4,inR]
   . have h4:n<=hi:=(by omega);simp -implicitDefEqProofs[Z72,Z73,h1,h2,h3,h4,inR]
theorem Zax (n lo hi:Int):PC Tryz.prog G 208 [.int .i64 n,.vptr [.int .i64 lo] 0,.vptr [.int .i64 hi] 0] (.bool (!inR n lo hi)):=by
 (refine Z7j rfl λR hG hrd=>Qga ?_;subst hG)
 by_cases h1:n<lo
 . have h2:¬lo<=n:=(by omega);simp -implicitDefEqProofs[Z7h,Z7i,h1,h2,inR]
 . have h2:lo<=n:=(by omega);by_cases h3:hi<n
   . have h4:¬n<=hi:=(by omega);simp -implicitDefEqProofs[Z7h,Z7i,h1,h2,h3,h4,inR]
   . have h4:n<=hi:=(by omega);simp -implicitDefEqProofs[Z7h,Z7i,h1,h2,h3,h4,inR]
theorem Zay (lo hi:Int) (l:List Int) (hl:Sml l):PC Tryz.prog G 268 [.int .i64 lo,.int .i64 hi,.vsl (l.map ia)] (.bool (l.all λn=>inR n lo hi)):=by
 (refine Z71 rfl λR hG hrd=>Qga ?_;subst hG)
 simp -implicitDefEqProofs[Z6Z,Z70]
 (first|refine Yd.flat (Zar 269 [.vptr [.int .i64 lo] 0,.vptr [.int .i64 hi] 0] (λn=>!inR n lo hi) l (by simp[AV.pure]) hl (λn _=>Zaw n lo hi)) (by simp[AV.flat]) (by simp) ?_|refine Ye.flat (Zar 269 [.vptr [.int .i64 lo] 0,.vptr [.int .i64 hi] 0] (λn=>!inR n lo hi) l (by simp[AV.pure]) hl (λn _=>Zaw n lo hi)) (by simp[AV.flat]) (by simp) ?_)
 have e:(!l.any λn=>!inR n lo hi)=l.all λn=>inR n lo hi:=by simp[List.all_eq_not_any_not]
 simp -implicitDefEqProofs[e]
theorem Zaz (lo hi:Int) (n:Int):PC Tryz.prog G 194 [.int .i64 lo,.int .i64 hi,.vsl [[.int .i64 n]]] (.bool (inR n lo hi)):=by
 (refine Z7g rfl λR hG hrd=>Qga ?_;subst hG)
 simp -implicitDefEqProofs[Z7e,Z7f];refine Yd.flat (Zar 208 [.vptr [.int .i64 lo] 0,.vptr [.int .i64 hi] 0] (λn=>!inR n lo hi) [n] (by simp[AV.pure]) (by simp[Sml]) (λn _=>Zax n lo hi)) (by simp[AV.flat]) (by simp[ia]) ?_;simp -implicitDefEqProofs[]
theorem ZaA (d:Dm):PC Tryz.prog G 266 [.agg [.int .i64 d.n,.int .i64 d.l,.int .i64 d.u]] (.int .i64 (if vd d=true then 0 else 10)):=by
 (refine Z7d rfl λR hG hrd=>Qga ?_;subst hG)
 simp -implicitDefEqProofs[Z7b,Z7c];refine Qco (Zay 0 1000000000 [d.n,d.l,d.u] (by simp[Sml])) (by simp) ?_
 cases h1:[d.n,d.l,d.u].all λn=>inR n 0 1000000000
 . have e:vd d=false:=by
    refine decide_eq_false λh=>?_
    have:([d.n,d.l,d.u].all λn=>inR n 0 1000000000)=true:=by
     simp[inR];omega
    rw[this]at h1;cases h1
   simp -implicitDefEqProofs[e]
 . have h2:(0<=d.n/\d.n<=1000000000)/\(0<=d.l/\d.l<=1000000000)/\0<=d.u/\d.u<=1000000000:=by
    simpa [inR] using h1
   by_cases h3:d.u<d.l
   . have e:vd d=false:=decide_eq_false (by omega);simp -implicitDefEqProofs[e,h3]
   . have e:vd d=true:=decide_eq_true (by omega);simp -implicitDefEqProofs[e,h3]
theorem ZaB (x:Iss):PC Tryz.prog G 251 [.agg (isa x)] (.agg [.int .i64 x.d,.int .i64 x.l]):=by
 (refine Z7m rfl λR hG hrd=>Qga ?_;subst hG)
 simp -implicitDefEqProofs[Z7k,Z7l,isa]
def ck1 (x:Iss):Bool:=inR x.d 1 9999&&inR x.l 1 8
def ck2 (x:Iss):Bool:=if x.k=1 then inR x.its.length 1 8&&decide (x.dms.length=0) else inR x.k 2 3&&decide (x.dms.length<=4)&&decide (x.its.length=0)
def ck3 (x:Iss):Bool:=(List.range x.its.length).all (itOk x)
def ck4 (x:Iss):Bool:=x.dms.all vd
theorem ZaC (x:Iss):issB x=(ck1 x&&ck2 x&&ck3 x&&ck4 x):=by
 have e:headB x=(ck1 x&&ck2 x):=by
  unfold headB ck1 ck2;by_cases c1:x.k=1
  . have:inR x.k 1 3=true:=decide_eq_true (by omega);simp only[c1,if_true];rw[c1]at this;rw[this];simp
  . have:inR x.k 1 3=inR x.k 2 3:=decide_eq_decide.2 (by omega);simp only[c1,if_false,this,Bool.and_assoc]
 simp only[issB,e,ck3,ck4]
theorem ZaD (x:Iss):PC Tryz.prog G 260 [.agg (isa x)] (.bool (ck1 x)):=by
 (refine Z7p rfl λR hG hrd=>Qga ?_;subst hG)
 simp -implicitDefEqProofs[Z7n,Z7o,isa];refine Qco (Zaz _ _ _) (by simp) ?_
 cases q1:inR x.d 1 9999
 . simp -implicitDefEqProofs[ck1,q1]
 . simp -implicitDefEqProofs[];refine Qco (Zaz _ _ _) (by simp) ?_;simp -implicitDefEqProofs[ck1,q1]
theorem ZaE (x:Iss) (hk:0<=x.k/\x.k<=255):PC Tryz.prog G 261 [.agg (isa x)] (.bool (ck2 x)):=by
 (refine Z7s rfl λR hG hrd=>Qga ?_;subst hG)
 have wk:IntKind.i64.wrap x.k=x.k:=Yf (by omega) (by omega);by_cases c1:x.k=1
 . simp -implicitDefEqProofs[Z7q,Z7r,isa,c1];refine Qco (Zaz _ _ _) (by simp) ?_
   cases q1:inR x.its.length 1 8
   . simp -implicitDefEqProofs[ck2,c1,q1]
   . by_cases q2:x.dms.length=0 <;> simp -implicitDefEqProofs[ck2,c1,q1,q2]
 . simp -implicitDefEqProofs[Z7q,Z7r,isa,c1,wk];refine Qco (Zaz _ _ _) (by simp) ?_
   cases q1:inR x.k 2 3
   . simp -implicitDefEqProofs[ck2,c1,q1]
   by_cases q2:x.dms.length<=4
   . have q2i:(x.dms.length:Int)<=4:=(by omega);by_cases q3:x.its.length=0 <;> simp -implicitDefEqProofs[ck2,c1,q1,q2,q2i,q3]
   . have q2i:¬(x.dms.length:Int)<=4:=(by omega);simp -implicitDefEqProofs[ck2,c1,q1,q2,q2i]
theorem ZaF (x:Iss) (h1:Sml x.its):PC Tryz.prog G 262 [.agg (isa x)] (.bool (ck3 x)):=by
 (refine Z7v rfl λR hG hrd=>Qga ?_;subst hG)
 unfold Sml at h1;simp -implicitDefEqProofs[Z7t,Z7u,isa];refine Z9v (λi=>⟨[(8,.int .i64 i),(7,.int .i64 x.its.length),(6,.vsl (x.its.map ita)),(1,.ptr 1 0)],[(1,.box (isa x))]⟩) (λi=>∀ j,j<i->itOk x j=true) x.its.length (by (first|exact Ym.tm (by simp[lk,isa])|exact Ym.sub (by simp[lk,Ya,AV.keys,isa]) (by simp[lk,Yc,Ya,AV.keys,isa]))) (by simp) ?_ ?_
 . intro i hi he;refine Qga ?_;have w1:IntKind.i64.wrap ((i:Int)+1)=((i+1:Nat):Int):=Yf (by omega) (by omega);have a1:itAt x i=x.its[i]:=by simp[itAt,List.getD,hi]
   have no:itOk x i=false->ck3 x=false:=λe=>by
    cases hI:ck3 x
    . rfl
    . rw[Z9R.1 hI i hi]at e;cases e
   simp -implicitDefEqProofs[hi,isa,ita];refine Qco (Zaz _ _ _) (by simp) ?_
   cases p1:inR x.its[i].1 1 9999
   . simp -implicitDefEqProofs[];refine ⟨rfl,?_⟩;refine Qgr ?_;simp -implicitDefEqProofs[no (by simp[itOk,a1,p1])]
   simp -implicitDefEqProofs[];refine Qco (Zaz _ _ _) (by simp) ?_
   cases p2:inR x.its[i].2 1 20
   . simp -implicitDefEqProofs[];refine ⟨rfl,?_⟩;refine Qgr ?_;simp -implicitDefEqProofs[no (by simp[itOk,a1,p2])]
   by_cases p3:x.its[i].1=x.d
   . simp -implicitDefEqProofs[p3];refine ⟨rfl,?_⟩;refine Qgr ?_;simp -implicitDefEqProofs[no (by simp[itOk,a1,p3])]
   cases i with
   | zero =>
     have ok:itOk x 0=true:=(by simp[itOk,a1,p1,p2,p3]);have w0:IntKind.i64.wrap 1=1:=rfl;simp -implicitDefEqProofs[p3,w0];exact ⟨rfl,(by (first|exact Ym.tm (by simp[lk,isa])|exact Ym.sub (by simp[lk,Ya,AV.keys,isa]) (by simp[lk,Yc,Ya,AV.keys,isa]))),ok⟩
   | succ i =>
     have w2:IntKind.i64.wrap (i:Int)=(i:Int):=Yf (by omega) (by omega);have w3:IntKind.i64.wrap ((i:Int)+1+1)=(i:Int)+1+1:=Yf (by omega) (by omega);have k3:(0:Int)<(i:Int)+1:=(by omega);have hi2:i<x.its.length:=(by omega);have a2:itAt x i=x.its[i]:=(by simp[itAt,List.getD,hi2]);by_cases p4:x.its[i+1].1<=x.its[i].1
     . simp -implicitDefEqProofs[p3,k3,w2,hi2,ita,p4];refine ⟨rfl,?_⟩;refine Qgr ?_;simp -implicitDefEqProofs[no (by simp[itOk,a1,a2,p4])]
     . have ok:itOk x (i+1)=true:=(by simp[itOk,a1,a2,p1,p2,p3];omega);simp -implicitDefEqProofs[p3,k3,w2,w3,hi2,ita,p4];refine ⟨rfl,(by (first|exact Ym.tm (by simp[lk,isa])|exact Ym.sub (by simp[lk,Ya,AV.keys,isa]) (by simp[lk,Yc,Ya,AV.keys,isa]))),λj hj=>?_⟩;by_cases e:j=i+1
       . subst e;exact ok
       . exact he j (by omega)
 . intro he;refine Qga ?_;have hI:ck3 x=true:=Z9R.2 he;simp -implicitDefEqProofs[];refine Qgr ?_;simp -implicitDefEqProofs[hI]
theorem ZaG (d:Dm):PC Tryz.prog G 265 [.agg [.int .i64 d.n,.int .i64 d.l,.int .i64 d.u]] (.bool (!vd d)):=by
 (refine Z7B rfl λR hG hrd=>Qga ?_;subst hG)
 simp -implicitDefEqProofs[Z7z,Z7A];refine Qco (ZaA d) (by simp) ?_
 cases q:vd d <;> simp -implicitDefEqProofs[]
theorem ZaH (x:Iss) (h2:Sml x.dms):PC Tryz.prog G 263 [.agg (isa x)] (.bool (ck4 x)):=by
 (refine Z7y rfl λR hG hrd=>Qga ?_;subst hG)
 simp -implicitDefEqProofs[Z7w,Z7x,isa];refine Qco (Zav 265 [] (λd=>!vd d) x.dms rfl h2 (λd _=>ZaG d)) (by simp) ?_;have e:(!x.dms.any λd=>!vd d)=ck4 x:=(by simp[ck4,List.all_eq_not_any_not]);simp -implicitDefEqProofs[e]
end
def lowB (l:List Int) (n:Int):Nat:=l.countP (λx=>decide (x<n))
theorem ZaI (l:List Int) (n:Int):lowB l n<=l.length:=List.countP_le_length
theorem ZaJ {l:List Int} (hs:l.Pairwise (· <= ·)) (n:Int):∀ (i:Nat) (hi:i<l.length),i<lowB l n↔l[i]<n:=by
 induction l with
 |nil=>intro i hi;simp at hi
 | cons x l ih =>
   obtain ⟨h1,h2⟩:=List.pairwise_cons.1 hs;intro i hi;by_cases hx:x<n
   . have e:lowB (x::l) n=lowB l n+1:=(by simp[lowB,List.countP_cons,hx]);rw[e]
     cases i with
     |zero=>simp[hx]
     | succ i =>
       have:=ih h2 i (by simpa using hi);simp only[List.getElem_cons_succ];rw[<- this];omega
   . have z:lowB l n=0:=by
      unfold lowB;rw[List.countP_eq_zero];intro y hy;have:=h1 y hy;simp;omega
     have e:lowB (x::l) n=0:=by
      have:lowB (x::l) n=lowB l n:=(by simp[lowB,List.countP_cons,hx]);omega
     rw[e]
     have hge:∀ (i:Nat) (hi:i<(x::l).length),x<=(x::l)[i]:=λi hi=>by
      cases i with
      |zero=>exact Int.le_refl _
      |succ i=>exact h1 _ (List.getElem_mem _)
     have:=hge i hi
     constructor
     . intro h;omega
     . intro h;omega
theorem ZaK {l:List Int} (hs:l.Pairwise (· < ·)):l.Pairwise (· <= ·):=hs.imp λh=>Int.le_of_lt h
theorem ZaL {l:List Int} (hs:l.Pairwise (· <= ·)) (n:Int):n∈l↔l[lowB l n]? = some n:=by
 constructor
 . intro hm;obtain ⟨j,hj,he⟩:=List.getElem_of_mem hm;have h1:¬j<lowB l n:=λh=>by have:=(ZaJ hs n j hj).1 h;omega
   have h2:lowB l n<l.length:=(by omega);rw[List.getElem?_eq_getElem h2];have h3:¬l[lowB l n]<n:=λh=>by have:=(ZaJ hs n _ h2).2 h;omega
   have h4:l[lowB l n]<=l[j]:=by
    by_cases e:lowB l n=j
    . simp[e]
    . exact List.pairwise_iff_getElem.1 hs _ _ h2 hj (by omega)
   congr 1;omega
 . intro h;exact List.mem_of_getElem? h
theorem ZaM {i j:Nat} (h:i+j<=33554432):IntKind.i64.wrap ((IntKind.u64.wrap (IntKind.i64.wrap ((i:Int)+j))).fdiv (2 ^ (min 1 IntKind.u64.bits)))=(((i+j) / 2:Nat):Int):=by
 show IntKind.i64.wrap ((IntKind.u64.wrap (IntKind.i64.wrap ((i:Int)+j))).fdiv (2 ^ (min 1 64)))=(((i+j) / 2:Nat):Int);have e1:IntKind.i64.wrap ((i:Int)+j)=((i+j:Nat):Int):=by rw[Yf (by omega) (by omega)];omega
 have e2:IntKind.u64.wrap (((i+j:Nat):Int))=((i+j:Nat):Int):=by
  have:=IntWalk.u64_in (((i+j:Nat):Int)) ⟨by omega,by omega⟩;exact this
 rw[e1,e2]
 have e3:(((i+j:Nat):Int)).fdiv (2 ^ (min 1 64))=(((i+j) / 2:Nat):Int):=by
  rw[Int.fdiv_eq_ediv_of_nonneg _ (by decide)];simp
 rw[e3,Yf (by omega) (by omega)]
section
variable {G:Nat->Option (List AV)}
theorem ZaN (n:Int):PC Tryz.prog G 157 [.int .i64 n] (.bool false):=by
 (refine Z82 rfl λR hG hrd=>Qga ?_;subst hG)
 simp -implicitDefEqProofs[Z80,Z81]
theorem ZaO (n:Int):PC Tryz.prog G 214 [.int .i64 n] (.bool false):=by
 (refine Z85 rfl λR hG hrd=>Qga ?_;subst hG)
 simp -implicitDefEqProofs[Z83,Z84]
theorem ZaP (a b:Int):PC Tryz.prog G 189 [.int .i64 a,.int .i64 b] (.bool (decide (a<b))):=by
 (refine Z7Z rfl λR hG hrd=>Qga ?_;subst hG)
 by_cases h:a<b
 . simp -implicitDefEqProofs[Z7X,Z7Y,h]
   try refine Qco (ZaN a) (by simp) ?_
   try simp -implicitDefEqProofs[h]
 . simp -implicitDefEqProofs[Z7X,Z7Y,h]
   try refine Qco (ZaN a) (by simp) ?_
   try simp -implicitDefEqProofs[h]
theorem ZaQ (l:List Int) (n:Int) (hs:l.Pairwise (· <= ·)) (hl:Sml l):PC Tryz.prog G 210 [.vsl (l.map ia),.int .i64 n] (.tup [.int .i64 (lowB l n),.bool (decide (n∈l))]):=by
 (refine Z7W rfl λR hG hrd=>Qga ?_;subst hG)
 unfold Sml at hl;have hle:=ZaI l n;simp -implicitDefEqProofs[Z7U,Z7V];refine Z1Q (λp:Nat×Nat=>⟨[(8,.int .i64 p.2),(7,.int .i64 p.1),(6,.int .i64 l.length),(0,.vsl (l.map ia)),(1,.int .i64 n)],[]⟩) (λp=>p.1<=lowB l n/\lowB l n<=p.2/\p.2<=l.length) (λp=>p.2-p.1) (0,l.length) (by (first|exact Ym.tm (by simp[lk])|exact Ym.sub (by simp[lk,Ya,AV.keys]) (by simp[lk,Yc,Ya,AV.keys]))) ⟨by omega,hle,Nat.le_refl _⟩ ?_;rintro ⟨lo,hi⟩ ⟨h1,h2,h3⟩;simp only at h1 h2 h3;refine Qga ?_;by_cases h4:lo<hi
 . obtain ⟨m,hm⟩ : ∃ m,m=(lo+hi) / 2:=⟨_,rfl⟩;have hw:=ZaM (i:=lo) (j:=hi) (by omega);rw[<- hm]at hw;have m1:m<l.length:=(by omega);have w1:IntKind.i64.wrap ((m:Int)+1)=((m+1:Nat):Int):=Yf (by omega) (by omega);have hb:=ZaJ hs n m m1;by_cases h5:l[m]<n
   . simp -implicitDefEqProofs[h4,hw,m1,ia];refine Qco (ZaP _ _) (by simp) ?_;simp -implicitDefEqProofs[h5,w1];exact ⟨(m+1,hi),(by (first|exact Ym.tm (by simp[lk])|exact Ym.sub (by simp[lk,Ya,AV.keys]) (by simp[lk,Yc,Ya,AV.keys]))),⟨by have:=hb.2 h5;show m+1<=_;omega,h2,h3⟩,by show hi-(m+1)<hi-lo;omega⟩
   . simp -implicitDefEqProofs[h4,hw,m1,ia];refine Qco (ZaP _ _) (by simp) ?_;simp -implicitDefEqProofs[h5];exact ⟨(lo,m),(by (first|exact Ym.tm (by simp[lk])|exact Ym.sub (by simp[lk,Ya,AV.keys]) (by simp[lk,Yc,Ya,AV.keys]))),⟨h1,by have:¬m<lowB l n:=λh=>h5 (hb.1 h);show lowB l n<=m;omega,by show m<=_;omega⟩,by show m-lo<hi-lo;omega⟩
 . obtain rfl:lo=lowB l n:=(by omega);have hmem:=ZaL hs n;by_cases h5:lowB l n<l.length
   . by_cases h6:l[lowB l n]=n
     . have e:n∈l:=hmem.2 (by rw[List.getElem?_eq_getElem h5,h6]);simp -implicitDefEqProofs[h4];refine Qgr ?_;simp -implicitDefEqProofs[h5,ia,h6,e]
     . have e:¬n∈l:=λh=>h6 (by have:=hmem.1 h;rw[List.getElem?_eq_getElem h5]at this;exact Option.some.inj this)
       simp -implicitDefEqProofs[h4];refine Qgr ?_;simp -implicitDefEqProofs[h5,ia,h6];refine Qco (ZaO _) (by simp) ?_;simp -implicitDefEqProofs[e]
   . have e:¬n∈l:=λh=>by have:=hmem.1 h;rw[List.getElem?_eq_none (by omega)]at this;cases this
     simp -implicitDefEqProofs[h4];refine Qgr ?_;simp -implicitDefEqProofs[h5,e]
end
open Qq in
def ZaR:RCode :=
 .seq (R 0 [l 9 1,a [0] (w 10 (.nilck (.t 9))),a [1] (f 11 0 10),a [2] (f 12 0 11),a [3] (l 13 12),l 14 2,a [4,5] (w 15 (.call 216 [.t 13,.t 14,.c (.func (.func 217) [] [])])),a [6] (m 8 15),a [7] (x 16 0 8),a [7] (x 17 1 8),a [8,6,0,1,2,3,4,5,6,7,8] (m 4 16),a [9,10,0,1,2,3,4,5,6,7,8,9,10] (m 5 17)]) (.seq (r 1 [l 18 1,w 19 (.nilck (.t 18)),f 20 0 19,f 21 0 20,l 22 21,m 23 4,w 24 (.slc 5 (.t 22) (some (.t 23)) none),e 25 24,n 26 O]) (.block 0 (.loop (.seq (r 2 [o 27 .lss 26 25]) (.seq (.cond (.t 27) .skip (.exit 0)) (.seq (.block 1 (.seq (r 3 [i 28 5 24 26,L 29 5 28,w 7 (.alloc [O,O,.int .u8 0,.nils,.nils]),s 5 7 29]) (.seq (r 4 [f 30 0 7,l 31 30,l 32 2,o 33 .neq 31 32,m 34 33,g 34 false (m 35 0),g 34 false (L 36 5 7),g 34 false (w 37 (.callv (.t 35) [.t 36])),g 34 false (t 38 37),u 39 34 38]) (.cond (.t 39) .ret .skip)))) (r 5 [k 40 .add 26 I,m 26 40])))))))
section
variable {P:Program} {N:Nat} {c:Code}
theorem ZaS {a b:RCode} (h:Z1A P N c (.seq a b)=true):∃ c1 c2,c = .seq c1 c2/\Z1A P N c1 a=true/\Z1A P N c2 b=true:=by
 cases c <;> simp only[Z1A,Bool.false_eq_true,Bool.and_eq_true]at h
 exact ⟨_,_,rfl,h.1,h.2⟩
theorem ZaT {id:Nat} {a:RCode} (h:Z1A P N c (.block id a)=true):∃ c1,c = .block id c1/\Z1A P N c1 a=true:=by
 cases c <;> simp only[Z1A,Bool.false_eq_true,Bool.and_eq_true,beq_iff_eq]at h
 obtain ⟨rfl,h⟩:=h;exact ⟨_,rfl,h⟩
theorem ZaU {a:RCode} (h:Z1A P N c (.loop a)=true):∃ c1,c = .loop c1/\Z1A P N c1 a=true:=by
 cases c <;> simp only[Z1A,Bool.false_eq_true]at h
 exact ⟨_,rfl,h⟩
theorem ZaV {id:Nat} {rs:List ROper} (h:Z1A P N c (.reg id false rs)=true):∃ ops,c = .region id ops false/\allB2 (Z1z P N ops) ops.toList rs=true:=by
 cases c <;> simp only[Z1A,Bool.false_eq_true,Bool.and_eq_true,beq_iff_eq]at h
 obtain ⟨⟨⟨rfl,rfl⟩,h⟩,-⟩:=h;exact ⟨_,rfl,h⟩
end
section
variable {P:Program} {R:Run} {rd:Option Nat} {m:Nat} {ops:Array Oper} {Q:Exit->Act->World->Prop}
theorem ZaW (l2:List Nat):∀ (l:List Nat) (rs':List ROper) (st:St) (K:St->Prop) (a:Act) (W:World),
  (∀ (i:Nat) (r:ROper),rs'[i]? = some r->∃ (j:Nat) (o:Oper),l[i]? = some j/\ops[j]? = some o/\Z1z P R.N ops o r=true)->l.length=rs'.length->(∀ st' a' W',K st'->SR R st' a' W'->wpOpsIn (FW rd) m P ops Q l2 a' W') ->
  RW P R.G rs' st (λe s=>e = .normal/\K s)->SR R st a W->wpOpsIn (FW rd) m P ops Q (l++l2) a W:=by
 intro l
 induction l with
 | nil =>
   intro rs' st K a W hok hl hK hr hs
   cases rs' with
   |nil=>exact hK st a W hr.2 hs
   |cons r rs'=>simp at hl
 | cons j l ih =>
   intro rs' st K a W hok hl hK hr hs
   cases rs' with
   |nil=>simp at hl
   | cons r rs' =>
     obtain ⟨j',o,hj,ho,hk⟩:=hok 0 r rfl;simp at hj;subst hj
     have go:∀ (st':St) (a':Act) (W':World),RW P R.G rs' st' (λe s=>e = .normal/\K s)->SR R st' a' W'->wpOpsIn (FW rd) m P ops Q (l++l2) a' W':=λst' a' W' h2 hs' =>
      ih rs' st' K a' W' (λi r hi=>by simpa using hok (i+1) r (by simpa using hi)) (by simpa using hl) hK h2 hs'
     rw[List.cons_append,wpOpsIn_cons];rcases Z22 hr with ⟨st',h1,h2⟩ | ⟨hw,g,args,hi,hc⟩
     . exact Z26 h1 ho hk hs λa' W' hs'=>go st' a' W' h2 hs'
     . obtain ⟨κ,hκ⟩:=hs;have hk0:=hk;simp only[Z1z,Bool.and_eq_true,decide_eq_true_eq]at hk;obtain ⟨⟨⟨hd,hdn⟩,-⟩,-⟩:=hk;have hdn':∀ n,r.d=some n->n<R.N:=λn e=>by rw[e]at hdn;simpa using hdn
       refine Z25 hi hw ho hk0 hκ λvs ha=>?_
       rcases hc with ⟨v,st1,hc,hn⟩ | ⟨ch,hc,hn⟩
       . obtain ⟨h1,h2⟩:=hc R a W κ vs rfl hκ ha;refine ⟨h1,h2.mono ?_⟩;rintro e W' ⟨u,κ1,rfl,h3,h4⟩;refine go _ _ _ hn ⟨κ1,?_⟩;rw[hd];exact h3.putd hdn' h4
       . exact absurd hn.1 (by simp)
end
def ZaX (M:Nat->Prop) (W:World) (N:Nat) (rd:Option Nat):Run :=
 { G:=λ_=>none,M:=M,X:=λ_=>False,W0:=W,N:=N,E0:={ M:=M,loc:=λ_=>none,row:=λ_=>none },rd:=rd,nm:=true }
def TT' (M:Nat->Prop) (W:World) (t:List (Nat×AV)) (a:Act):Prop:=∀ n x,lk t n=some x->PV M W x (a.tmps.getD n Go.undef)
theorem ZaY {M:Nat->Prop} {W:World} {N:Nat} {rd:Option Nat} {t:List (Nat×AV)} {a:Act} (hM:∀ b,M b->b<W.heap.size) (hd:a.defers=[]) (hN:a.tmps.size=N) (ht:TT' M W t a):SR (ZaX M W N rd) ⟨t,[]⟩ a W:=by
 have hGM:∀ b,b<W.heap.size->¬M b->¬((⟨t,[]⟩ : St).env M (λ_=>none)).M b/\W.heap[b]? = W.heap[b]?:=λb _ h1=>⟨(by rintro (h2 | ⟨k,s,h2⟩) <;> first|exact h1 h2|cases h2),rfl⟩
 refine ⟨λ_=>none,⟨[],by simp[hd,ZaX],.nil,by simp,λ_=>rfl⟩,hN,λn x hx=>.pv ((ht n x hx).mono hGM (Nat.le_refl _)),(λk o ho=>by simp[St.get,lk]at ho),(λk p hk=>by cases hk),(λk k' b s s' hk=>by cases hk),hM,λ_ _ h=>h,Kp.refl _ _,(λg cs hg=>by cases hg),⟨Nat.le_refl _,hGM,λk p hk=>(by cases hk),λk sz m hk=>(by cases hk)⟩,λ_ _=>⟨rfl,rfl⟩⟩
theorem ZaZ {M:Nat->Prop} {W W':World} {N:Nat} {rd:Option Nat} {st:St} {a:Act} (h:SR (ZaX M W N rd) st a W') {t:List (Nat×AV)} (hw:Ym st ⟨t,[]⟩) (hp:∀ q∈t,q.2.pure=true) :
  a.defers=[]/\a.tmps.size=N/\TT' M W' t a/\Ext W W':=by
 obtain ⟨κ,hk⟩:=hw _ _ _ h;obtain ⟨cs,e,-,-,hz⟩:=hk.defers
 have hκ:∀ k,κ k=none:=λk=>by
  cases e:κ k with
  |none=>rfl
  |some p=>obtain ⟨o,ho⟩:=hk.dom k p e;simp[St.get,lk]at ho
 refine ⟨by rw[e,hz rfl];rfl,hk.size,λn x hx=>?_,⟨hk.kp.os,hk.kp.tape,hk.kp.output,hk.kp.size,λi hi=>hk.kp.block i hi (λh=>h)⟩⟩;refine ((hk.tm n x hx).toPV (hp (n,x) (Z4F hx))).mono (λb _ hb=>⟨λh=>hb (.inl h),rfl⟩) (Nat.le_refl _)
theorem Zb0 {P:Program} {R:Run} {st:St} {a:Act} {W:World} {κ:Nat->Option (Nat×Nat)} {rd:Option Nat} {m:Nat} {ops:Array Oper} {r:ROper} {j l:Nat} {o:Oper} {f y:RA} {K:Act->World->Prop} {Q:Exit->Act->World->Prop}
  (hr:r.op = .callv f [y]) (hf:evA R.G st f = .func (.yield l) [] []) (hw:wants st r.guard=some true) (ho:ops[j]? = some o) (hk:Z1z P R.N ops o r=true) (hκ:SK R st a W κ)
  (hc:∀ u,VR (st.env R.M κ) W (evA R.G st y) u->YieldAt (FW rd) (m-1) P l #[u] W fun
   |.returned v,W'=>K (a.put o.dst v) W'
   |.panicked ch,W'=>Q (.panic ch) a W'
   |.outgrown,_=>LetsOut Q):wpOpIn (FW rd) m P ops Q j K a W:=by
 simp only[Z1z,Bool.and_eq_true,decide_eq_true_eq]at hk;obtain ⟨⟨⟨hd,hdn⟩,hop⟩,hg⟩:=hk;unfold wpOpIn;simp only[ho];rw[if_pos (Z20 hκ hg hw)];rw[hr]at hop;simp only[Z1y,if_true,Z1x]at hop
 split at hop <;> try (simp at hop;done)
 . simp_all
 . simp_all
 . rename_i r0 x xs ats y' ys e1 e2;simp only[Bool.and_eq_true]at hop;simp only[ROp.callv.injEq]at e2;obtain ⟨rfl,rfl⟩:=e2;have hx:=hκ.ev hop.1;rw[hf]at hx;obtain ⟨us,vs,hv1,hv2,hv3⟩:=hx.func_inv
   obtain rfl:us = #[]:=by
    have:=hv2.1;rw[<- Array.toList_inj];exact List.length_eq_zero_iff.1 (by simpa using this)
   obtain rfl:vs = #[]:=by
    have:=hv3.1;rw[<- Array.toList_inj];exact List.length_eq_zero_iff.1 (by simpa using this)
   cases xs with
   |nil=>simp[allB2]at hop
   | cons z xs =>
     cases xs with
     |cons _ _=>simp[allB2]at hop
     | nil =>
       have hz:=hκ.ev (show okA z y=true by simpa [allB2] using hop.2);obtain ⟨fn,tmps,assign,body,h1,h2⟩:=hc _ hz;refine ⟨λ_ _=>trivial,?_⟩;rw[Oper.semAt_eq _ _ _ (λc e=>by rw[e1]at e;cases e)]
       have:(execOp a.eval o).run P W = .ok (.round l fn tmps assign body) W:=by
        rw[<- h1];simp[execOp,e1,resolve,hv1,Deferred.ofValue,invoke,Sem.run_bind]
       rw[this];exact ⟨Z24,h2⟩
def elsOf (r:List Iss) (n:Int):List AV:=(r.filter (λx=>decide (x.d=n))).map (λx=>.agg (isa x))
theorem Zb1 {n:Int}:∀ (l:List Iss),(l.map (·.d)).Pairwise (· <= ·)->(∀ x∈l,n<=x.d) ->
  (l.filter (λx=>decide (x.d=n))).length<=l.length/\(∀ i,i<(l.filter (λx=>decide (x.d=n))).length->(l.filter (λx=>decide (x.d=n)))[i]? = l[i]? /\ ∀ x,l[i]? = some x->x.d=n) /\
   ∀ x,l[(l.filter (λx=>decide (x.d=n))).length]? = some x->x.d≠n
 |[],_,_=>by simp
 | y :: l,hs,hg=>by
   simp only[List.map_cons,List.pairwise_cons]at hs;obtain ⟨h1,h2,h3⟩:=Zb1 l hs.2 λx hx=>hg x (List.mem_cons_of_mem _ hx)
   by_cases hy:y.d=n
   . have e:(y::l).filter (λx=>decide (x.d=n))=y::l.filter (λx=>decide (x.d=n)):=(by simp[hy]);rw[e];refine ⟨by simpa using h1,λi hi=>?_,λx hx=>h3 x (by simpa using hx)⟩
     cases i with
     |zero=>exact ⟨rfl,λx hx=>by simp at hx;subst hx;exact hy⟩
     |succ i=>exact ⟨by simpa using (h2 i (by simpa using hi)).1,λx hx=>(h2 i (by simpa using hi)).2 x (by simpa using hx)⟩
   . have gt:n<y.d:=by have:=hg y (List.mem_cons_self ..);omega
     have e:(y::l).filter (λx=>decide (x.d=n))=[]:=by
      rw[List.filter_eq_nil_iff];intro x hx;rcases List.mem_cons.1 hx with rfl|hx
      . simpa using hy
      . have:=hs.1 x.d (List.mem_map.2 ⟨x,hx,rfl⟩);simp;omega
     rw[e];refine ⟨by simp,by simp,λx hx=>?_⟩;simp at hx;subst hx;exact hy
theorem Zb2 {r:List Iss} {n:Int} (hs:(r.map (·.d)).Pairwise (· <= ·)):∃ cnt,cnt=(r.filter (λx=>decide (x.d=n))).length/\cnt<=(r.drop (lowB (r.map (·.d)) n)).length /\
  (∀ i,i<cnt->(r.filter (λx=>decide (x.d=n)))[i]? = (r.drop (lowB (r.map (·.d)) n))[i]? /\ ∀ x,(r.drop (lowB (r.map (·.d)) n))[i]? = some x->x.d=n)/\(∀ x,(r.drop (lowB (r.map (·.d)) n))[cnt]? = some x->x.d≠n):=by
 have e:r.filter (λx=>decide (x.d=n))=(r.drop (lowB (r.map (·.d)) n)).filter (λx=>decide (x.d=n)):=by
  conv=>lhs;rw[<- List.take_append_drop (lowB (r.map (·.d)) n) r]
  rw[List.filter_append]
  have:(r.take (lowB (r.map (·.d)) n)).filter (λx=>decide (x.d=n))=[]:=by
   rw[List.filter_eq_nil_iff];intro x hx;obtain ⟨i,hi,rfl⟩:=List.getElem_of_mem hx;simp only[List.length_take]at hi;have:=(ZaJ hs n i (by simp;omega)).1 (by omega);simp only[List.getElem_map]at this;simp only[List.getElem_take];simp;omega
  rw[this,List.nil_append]
 refine ⟨_,rfl,?_⟩;rw[e];refine Zb1 _ ?_ λx hx=>?_
 . rw[List.map_drop];exact hs.sublist (List.drop_sublist _ _)
 . obtain ⟨i,hi,rfl⟩:=List.getElem_of_mem hx;simp only[List.length_drop]at hi;have q:=ZaJ hs n (lowB (r.map (·.d)) n+i) (by simp;omega);simp only[List.getElem_map]at q;simp only[List.getElem_drop];by_cases h:r[lowB (r.map (·.d)) n+i].d<n
   . have:=q.2 h;omega
   . omega
section
variable {G:Nat->Option (List AV)}
theorem Zb3 (a b:Int):PC Tryz.prog G 107 [.int .i64 a,.int .i64 b] (.int .i64 (if a<b then -1 else if b<a then 1 else 0)):=by
 (refine Z88 rfl λR hG hrd=>Qga ?_;subst hG)
 by_cases h1:a<b
 . simp -implicitDefEqProofs[Z86,Z87];refine Qco (ZaN a) (by simp) ?_;simp -implicitDefEqProofs[];refine Qco (ZaN b) (by simp) ?_;simp -implicitDefEqProofs[h1]
 . by_cases h2:b<a
   . simp -implicitDefEqProofs[Z86,Z87];refine Qco (ZaN a) (by simp) ?_;simp -implicitDefEqProofs[];refine Qco (ZaN b) (by simp) ?_;simp -implicitDefEqProofs[h1,h2]
   . simp -implicitDefEqProofs[Z86,Z87];refine Qco (ZaN a) (by simp) ?_;simp -implicitDefEqProofs[];refine Qco (ZaN b) (by simp) ?_;simp -implicitDefEqProofs[h1,h2]
theorem Zb4 (x:Iss) (n:Int):PC Tryz.prog G 217 [.agg (isa x),.int .i64 n] (.int .i64 (if x.d<n then -1 else if n<x.d then 1 else 0)):=by
 (refine Z8h rfl λR hG hrd=>Qga ?_;subst hG)
 simp -implicitDefEqProofs[Z8f,Z8g,isa];refine Qco (Zb3 _ _) (by simp) ?_;simp -implicitDefEqProofs[]
theorem Zb5 (r:List Iss) (n:Int) (hs:(r.map (·.d)).Pairwise (· <= ·)) (hl:Sml r):∃ b,PC Tryz.prog G 216 [.vsl (r.map isa),.int .i64 n,.func (.func 217) [] []] (.tup [.int .i64 (lowB (r.map (·.d)) n),.bool b]):=by
 have hle:=ZaI (r.map (·.d)) n;simp only[List.length_map]at hle;refine ⟨if h:lowB (r.map (·.d)) n<r.length then decide ((if r[lowB (r.map (·.d)) n].d<n then (-1:Int) else if n<r[lowB (r.map (·.d)) n].d then 1 else 0)=0) else false,?_⟩
 (refine Z8b rfl λR hG hrd=>Qga ?_;subst hG)
 unfold Sml at hl;simp -implicitDefEqProofs[Z89,Z8a];refine Z1Q (λp:Nat×Nat=>⟨[(10,.int .i64 p.2),(9,.int .i64 p.1),(8,.int .i64 r.length),(0,.vsl (r.map isa)),(1,.int .i64 n),(2,.func (.func 217) [] [])],[]⟩) (λp=>p.1<=lowB (r.map (·.d)) n/\lowB (r.map (·.d)) n<=p.2/\p.2<=r.length) (λp=>p.2-p.1) (0,r.length) (by (first|exact Ym.tm (by simp[lk])|exact Ym.sub (by simp[lk,Ya,AV.keys]) (by simp[lk,Yc,Ya,AV.keys]))) ⟨by omega,hle,Nat.le_refl _⟩ ?_;rintro ⟨lo,hi⟩ ⟨h1,h2,h3⟩;simp only at h1 h2 h3;refine Qga ?_;by_cases h4:lo<hi
 . obtain ⟨m,hm⟩ : ∃ m,m=(lo+hi) / 2:=⟨_,rfl⟩;have hw:=ZaM (i:=lo) (j:=hi) (by omega);rw[<- hm]at hw;have m1:m<r.length:=(by omega);have w1:IntKind.i64.wrap ((m:Int)+1)=((m+1:Nat):Int):=Yf (by omega) (by omega);have hb:=ZaJ hs n m (by simpa using m1);simp only[List.getElem_map]at hb;by_cases h5:r[m].d<n
   . have c1:(-1:Int)<0:=(by omega);simp -implicitDefEqProofs[h4,hw,m1,isa];refine Qco (Zb4 r[m] n) (by simp) ?_;simp -implicitDefEqProofs[h5,w1];exact ⟨(m+1,hi),(by (first|exact Ym.tm (by simp[lk])|exact Ym.sub (by simp[lk,Ya,AV.keys]) (by simp[lk,Yc,Ya,AV.keys]))),⟨by have:=hb.2 h5;show m+1<=_;omega,h2,h3⟩,by show hi-(m+1)<hi-lo;omega⟩
   . simp -implicitDefEqProofs[h4,hw,m1,isa];refine Qco (Zb4 r[m] n) (by simp) ?_;by_cases h6:n<r[m].d
     . simp -implicitDefEqProofs[h5,h6];exact ⟨(lo,m),(by (first|exact Ym.tm (by simp[lk])|exact Ym.sub (by simp[lk,Ya,AV.keys]) (by simp[lk,Yc,Ya,AV.keys]))),⟨h1,by have:¬m<lowB (r.map (·.d)) n:=λh=>h5 (hb.1 h);show _<=m;omega,by show m<=_;omega⟩,by show m-lo<hi-lo;omega⟩
     . simp -implicitDefEqProofs[h5,h6];exact ⟨(lo,m),(by (first|exact Ym.tm (by simp[lk])|exact Ym.sub (by simp[lk,Ya,AV.keys]) (by simp[lk,Yc,Ya,AV.keys]))),⟨h1,by have:¬m<lowB (r.map (·.d)) n:=λh=>h5 (hb.1 h);show _<=m;omega,by show m<=_;omega⟩,by show m-lo<hi-lo;omega⟩
 . obtain rfl:lo=lowB (r.map (·.d)) n:=(by omega);by_cases h5:lowB (r.map (·.d)) n<r.length
   . simp -implicitDefEqProofs[h4];refine Qgr ?_;simp -implicitDefEqProofs[h5,isa];refine Qco (Zb4 r[lowB (r.map (·.d)) n] n) (by simp) ?_;simp -implicitDefEqProofs[]
   . simp -implicitDefEqProofs[h4];refine Qgr ?_;simp -implicitDefEqProofs[h5]
def issA:RCode->RCode
 |.seq a _=>a
 |c=>c
def Zb6:RCode->RCode
 |.seq _ b=>b
 |c=>c
def issB1 (c:RCode):RCode:=issA (Zb6 c)
def issB2 (c:RCode):RCode:=Zb6 (Zb6 c)
def issB3 (c:RCode):RCode:=match issB2 c with
 |.block _ b=>b
 |c=>c
def issL (c:RCode):RCode:=match issB3 c with
 |.loop b=>b
 |c=>c
def issBk:RCode->RCode
 |.block _ b=>b
 |c=>c
def Zb7:RCode->List ROper
 |.reg _ _ l=>l
 |_=>[]
def itS (seg:List Iss) (bk:AV) (n:Int) (l i:Nat):List (Nat×AV) :=
 [(26,.int .i64 i),(25,.int .i64 seg.length),(24,.vsl (seg.map isa)),(2,.vptr [.int .i64 n] 0),(1,.vptr [bk] 0),(0,.func (.yield l) [] [])]
theorem Zb8 (r:List Iss) (n:Int) (ds:AV) (hs:(r.map (·.d)).Pairwise (· <= ·)) (hl:Sml r):IterP Tryz.prog 215 [.vptr [.vptr [.vsl (r.map isa),ds] 0] 0,.vptr [.int .i64 n] 0] (elsOf r n):=by
 refine ⟨by kernel_rfl,?_⟩;intro n' l lb J K M W hn hJe hKe hJM hC hY h0;obtain ⟨cnt,hcnt,hc1,hc2,hc3⟩:=Zb2 (n:=n) hs;generalize hseg:r.drop (lowB (r.map (·.d)) n)=seg at hc1 hc2 hc3;have hsl:seg.length<=16777216:=(by rw[<- hseg];simp;unfold Sml at hl;omega);have hle:=ZaI (r.map (·.d)) n;simp only[List.length_map]at hle;unfold Sml at hl;have hel:(elsOf r n).length=cnt:=(by rw[hcnt];simp[elsOf]);obtain ⟨c,hc,hok⟩ : ∃ c,Tryz.f215.body=some c/\Z1A Tryz.prog Tryz.f215.ntmps c ZaR=true:=⟨_,rfl,by kernel_rfl⟩;obtain ⟨N,hN⟩ : ∃ N,N=Tryz.f215.ntmps:=⟨_,rfl⟩;have hN3:3<=N:=(by rw[hN];decide);rw[<- hN]at hok;refine callsIn_of_wp (F:=Fence.wide) Tryz.func215 hc trivial ?_ rfl
 have hres:∀ (tm:Array Value) (W':World),(results Tryz.f215 tm).run Tryz.prog W' = .ok (.tuple #[]) W':=λtm W'=>by
  have e:Tryz.f215.results = #[]:=rfl;simp[results,e,Sem.run_bind]
 obtain ⟨Q,hQ⟩ : ∃ Q,Q=bodyPost Tryz.prog Tryz.f215 (λe W'=>(∃ v,e = .returned v)/\((∃ M,J (elsOf r n).length M W')∨K W')):=⟨_,rfl⟩
 have hfin:∀ (a:Act) (W':World),a.defers=[]->((∃ M,J (elsOf r n).length M W')∨K W')->Q .ret a W'/\Q .normal a W':=λa W' hd h=>by
  rw[hQ];exact ⟨⟨hd,_,hres _ _,⟨_,rfl⟩,h⟩,⟨hd,_,hres _ _,⟨_,rfl⟩,h⟩⟩
 rw[<- hQ];have hwide:Fence.wide=FW none:=rfl;rw[hwide];obtain ⟨cA,c1,rfl,okA',ok1⟩:=ZaS (a:=issA ZaR) (b:=Zb6 ZaR) hok;obtain ⟨cB,c2,rfl,okB',ok2⟩:=ZaS (a:=issB1 ZaR) (b:=issB2 ZaR) ok1;obtain ⟨c3,rfl,ok3⟩:=ZaT (id:=0) (a:=issB3 ZaR) ok2;obtain ⟨c4,rfl,ok4⟩:=ZaU (a:=issL ZaR) ok3
 have hbk:∃ v1 v2,lb = #[v1,v2]/\PV M W (.vptr [.vptr [.vsl (r.map isa),ds] 0] 0) v1/\PV M W (.vptr [.int .i64 n] 0) v2:=by
  obtain ⟨h1,h2⟩:=hC
  match lb,h1,h2 with
  | ⟨[v1,v2]⟩,_,h2=>exact ⟨v1,v2,rfl,h2 0 _ v1 rfl rfl,h2 1 _ v2 rfl rfl⟩
 obtain ⟨v1,v2,rfl,hv1,hv2⟩:=hbk;obtain ⟨bk,hbk⟩ : ∃ bk,bk=AV.vptr [.vsl (r.map isa),ds] 0:=⟨_,rfl⟩;rw[<- hbk]at hv1
 have start:SR (ZaX M W N none) ⟨[(2,.vptr [.int .i64 n] 0),(1,.vptr [bk] 0),(0,.func (.yield l) [] [])],[]⟩ { tmps:=(#[.func (.yield l) #[] #[]] ++ #[v1,v2]:Array Value)++Array.replicate (N-3) Go.undef,defers:=[] } W:=by
  refine ZaY (hJM 0 M W h0) rfl (by simp;omega) λk x hx=>?_
  have g0:((#[.func (.yield l) #[] #[]] ++ #[v1,v2]:Array Value)++Array.replicate (N-3) Go.undef).getD 0 Go.undef = .func (.yield l) #[] #[]:=(by simp[Array.getD]);have g1:((#[.func (.yield l) #[] #[]] ++ #[v1,v2]:Array Value)++Array.replicate (N-3) Go.undef).getD 1 Go.undef=v1:=(by simp[Array.getD];omega);have g2:((#[.func (.yield l) #[] #[]] ++ #[v1,v2]:Array Value)++Array.replicate (N-3) Go.undef).getD 2 Go.undef=v2:=(by simp[Array.getD];omega);simp only[lk]at hx
  split at hx
  . rename_i e;subst e;cases hx;rw[g2];exact hv2
  . split at hx
    . rename_i e;subst e;cases hx;rw[g1];exact hv1
    . split at hx
      . rename_i e;subst e;cases hx;rw[g0];exact .func _ [] [] #[] #[] rfl rfl (by simp) (by simp)
      . cases hx
 have hact:({ tmps:=(#[.func (.yield l) #[] #[]] ++ #[v1,v2]:Array Value)++Array.replicate (Tryz.f215.ntmps-(#[.func (.yield l) #[] #[]] ++ #[v1,v2]:Array Value).size) Go.undef,defers:=[] }:Act)={ tmps:=(#[.func (.yield l) #[] #[]] ++ #[v1,v2]:Array Value)++Array.replicate (N-3) Go.undef,defers:=[] }:=(by rw[hN];rfl);rw[hact]
 have arA:AR Tryz.prog (ZaX M W N none) (issA ZaR) ⟨[(2,.vptr [.int .i64 n] 0),(1,.vptr [bk] 0),(0,.func (.yield l) [] [])],[]⟩ (λe s=>e = .normal/\Ym s ⟨[(4,.int .i64 (lowB (r.map (·.d)) n)),(2,.vptr [.int .i64 n] 0),(1,.vptr [bk] 0),(0,.func (.yield l) [] [])],[]⟩):=by
  obtain ⟨b,hb⟩:=Zb5 (G:=λ_=>none) r n hs hl;refine Qga ?_;simp -implicitDefEqProofs[issA,ZaR,hbk];refine Ye.of hb (by simp[AV.pure]) ?_;simp -implicitDefEqProofs[];exact ⟨rfl,(by (first|exact Ym.tm (by simp[lk])|exact Ym.sub (by simp[lk,Ya,AV.keys]) (by simp[lk,Yc,Ya,AV.keys])))⟩
 have hdr:List.drop (lowB (r.map (·.d)) n) (r.map isa)=seg.map isa:=(by rw[<- List.map_drop,hseg]);have hsg:seg.length=r.length-lowB (r.map (·.d)) n:=(by rw[<- hseg];simp);have htk:List.take r.length (r.map isa)=r.map isa:=List.take_of_length_le (by simp);have k5:(r.map isa).all (λr=>r.length == 5)=true:=by simp[isa]
 have arB:∀ R':Run,AR Tryz.prog R' (issB1 ZaR) ⟨[(4,.int .i64 (lowB (r.map (·.d)) n)),(2,.vptr [.int .i64 n] 0),(1,.vptr [bk] 0),(0,.func (.yield l) [] [])],[]⟩ (λe s=>e = .normal/\Ym s ⟨itS seg bk n l 0,[]⟩):=λR'=>by
  refine Qga ?_;simp -implicitDefEqProofs[issA,issB1,Zb6,ZaR,hbk,hle,k5,hdr];exact (by (first|exact Ym.tm (by simp[lk,itS,hsg,htk,hdr])|exact Ym.sub (by simp[lk,Ya,AV.keys,itS,hsg,htk,hdr]) (by simp[lk,Yc,Ya,AV.keys,itS,hsg,htk,hdr])))
 refine wpIn_seq (wpIn_mono (arA cA okA' _ _ W start) ?_);rintro e a1 W1 ⟨s1,⟨rfl,hw1⟩,hs1⟩;refine wpIn_seq (wpIn_mono (arB _ cB okB' _ a1 W1 (hw1 _ _ _ hs1)) ?_);rintro e a2 W2 ⟨s2,⟨rfl,hw2⟩,hs2⟩;obtain ⟨d2,n2,t2,e2⟩:=ZaZ hs2 hw2 (by simp[itS,AV.pure,hbk]);have hJ2:=hJe _ _ _ _ h0 e2;clear hs2 hw2 hs1 hw1 arA arB start hact;refine wpIn_block ?_;refine wpIn_loop_ghost (λm a A=>∃ i M,i<=cnt/\m=seg.length-i/\J i M A/\a.defers=[]/\a.tmps.size=N/\TT' M A (itS seg bk n l i) a) seg.length ⟨0,M,Nat.zero_le _,by simp,hJ2,d2,n2,t2⟩ ?_;clear hJ2 d2 n2 t2 e2 h0 hv1 hv2 hC;rintro m a A ⟨i,M,hi,rfl,hJ,hd,hn2,ht⟩;have hfr:SR (ZaX M A N none) ⟨itS seg bk n l i,[]⟩ a A:=ZaY (hJM i M A hJ) hd hn2 ht;by_cases hlt:i<seg.length
 case neg =>
  have hic:i=cnt:=(by omega);subst hic
  have ar:∀ R':Run,AR Tryz.prog R' (issL ZaR) ⟨itS seg bk n l i,[]⟩ (λe s=>e = .exit 0/\Ym s ⟨[],[]⟩):=λR'=>by
   refine Qga ?_;simp -implicitDefEqProofs[issL,issB3,issB2,Zb6,ZaR,itS,hlt];exact (by (first|exact Ym.tm (by simp[lk])|exact Ym.sub (by simp[lk,Ya,AV.keys]) (by simp[lk,Yc,Ya,AV.keys])))
  refine wpIn_mono (ar _ c4 ok4 _ a A hfr) ?_;rintro e a3 A3 ⟨s3,⟨rfl,hw3⟩,hs3⟩;obtain ⟨d3,-,-,e3⟩:=ZaZ hs3 hw3 (by simp);refine (hfin a3 A3 d3 (.inl ⟨M,?_⟩)).2;rw[hel];exact hJe _ _ _ _ hJ e3
 by_cases hd2:seg[i].d=n
 case neg =>
  have hic:i=cnt:=by
   by_cases e:i<cnt
   . exact absurd ((hc2 i e).2 _ (List.getElem?_eq_getElem hlt)) hd2
   . omega
  subst hic
  have ar:∀ R':Run,AR Tryz.prog R' (issL ZaR) ⟨itS seg bk n l i,[]⟩ (λe s=>e = .ret/\Ym s ⟨[],[]⟩):=λR'=>by
   refine Qga ?_;simp -implicitDefEqProofs[issL,issB3,issB2,Zb6,ZaR,itS,hlt,isa,hd2];exact (by (first|exact Ym.tm (by simp[lk])|exact Ym.sub (by simp[lk,Ya,AV.keys]) (by simp[lk,Yc,Ya,AV.keys])))
  refine wpIn_mono (ar _ c4 ok4 _ a A hfr) ?_;rintro e a3 A3 ⟨s3,⟨rfl,hw3⟩,hs3⟩;obtain ⟨d3,-,-,e3⟩:=ZaZ hs3 hw3 (by simp);refine (hfin a3 A3 d3 (.inl ⟨M,?_⟩)).1;rw[hel];exact hJe _ _ _ _ hJ e3
 have hic:i<cnt:=by
  by_cases e:i<cnt
  . exact e
  . exact absurd hd2 (hc3 _ (by rw[show cnt=i by omega];exact List.getElem?_eq_getElem hlt))
 have helt:(elsOf r n)[i]? = some (.agg (isa seg[i])):=by
  simp only[elsOf,List.getElem?_map,(hc2 i hic).1,List.getElem?_eq_getElem hlt,Option.map_some]
 obtain ⟨L,hL⟩ : ∃ L,L=issL ZaR:=⟨_,rfl⟩;obtain ⟨r2,q1,rfl,okr2,okq1⟩:=ZaS (a:=issA (issL ZaR)) (b:=Zb6 (issL ZaR)) ok4;obtain ⟨k1,q2,rfl,okk1,okq2⟩:=ZaS (a:=issA (Zb6 (issL ZaR))) (b:=Zb6 (Zb6 (issL ZaR))) okq1;obtain ⟨q3,r5,rfl,okq3,okr5⟩:=ZaS (a:=issA (Zb6 (Zb6 (issL ZaR)))) (b:=Zb6 (Zb6 (Zb6 (issL ZaR)))) okq2;obtain ⟨q4,rfl,okq4⟩:=ZaT (id:=1) (a:=issBk (issA (Zb6 (Zb6 (issL ZaR))))) okq3;obtain ⟨r3,q5,rfl,okr3,okq5⟩:=ZaS (a:=issA (issBk (issA (Zb6 (Zb6 (issL ZaR)))))) (b:=Zb6 (issBk (issA (Zb6 (Zb6 (issL ZaR)))))) okq4;obtain ⟨r4,k2,rfl,okr4,okk2⟩:=ZaS (a:=issA (Zb6 (issBk (issA (Zb6 (Zb6 (issL ZaR))))))) (b:=Zb6 (Zb6 (issBk (issA (Zb6 (Zb6 (issL ZaR))))))) okq5;obtain ⟨ops,rfl,hops⟩:=ZaV (id:=4) (rs:=Zb7 (issA (Zb6 (issBk (issA (Zb6 (Zb6 (issL ZaR)))))))) okr4;obtain ⟨hol,hoo⟩:=Zc hops;have hol:ops.size=10:=hol
 have ar2:AR Tryz.prog (ZaX M A N none) (issA (issL ZaR)) ⟨itS seg bk n l i,[]⟩ (λe s=>e = .normal/\Ym s ⟨(27,.bool true)::itS seg bk n l i,[]⟩):=by
  refine Qga ?_;simp -implicitDefEqProofs[issL,issB3,issB2,issA,Zb6,ZaR,itS,hlt];exact (by (first|exact Ym.tm (by simp[lk])|exact Ym.sub (by simp[lk,Ya,AV.keys]) (by simp[lk,Yc,Ya,AV.keys])))
 refine wpIn_seq (wpIn_mono (ar2 r2 okr2 _ a A hfr) ?_);rintro e b1 B1 ⟨s1,⟨rfl,w1⟩,hs1⟩
 have ark:AR Tryz.prog (ZaX M A N none) (issA (Zb6 (issL ZaR))) ⟨(27,.bool true)::itS seg bk n l i,[]⟩ (λe s=>e = .normal/\Ym s ⟨itS seg bk n l i,[]⟩):=by
  refine Qga ?_;simp -implicitDefEqProofs[issL,issB3,issB2,issA,Zb6,ZaR,itS];exact (by (first|exact Ym.tm (by simp[lk])|exact Ym.sub (by simp[lk,Ya,AV.keys]) (by simp[lk,Yc,Ya,AV.keys])))
 refine wpIn_seq (wpIn_mono (ark k1 okk1 _ b1 B1 (w1 _ _ _ hs1)) ?_);rintro e b2 B2 ⟨s2,⟨rfl,w2⟩,hs2⟩;refine wpIn_seq (wpIn_block ?_)
 have ar3:AR Tryz.prog (ZaX M A N none) (issA (issBk (issA (Zb6 (Zb6 (issL ZaR)))))) ⟨itS seg bk n l i,[]⟩ (λe s=>e = .normal/\Ym s ⟨(7,.ptr 7 0)::itS seg bk n l i,[(7,.box (isa seg[i]))]⟩):=by
  refine Qga ?_;simp -implicitDefEqProofs[issL,issB3,issB2,issA,Zb6,issBk,ZaR,itS,hlt,isa];exact (by (first|exact Ym.tm (by simp[lk])|exact Ym.sub (by simp[lk,Ya,AV.keys]) (by simp[lk,Yc,Ya,AV.keys])))
 refine wpIn_seq (wpIn_mono (ar3 r3 okr3 _ b2 B2 (w2 _ _ _ hs2)) ?_);rintro e b3 B3 ⟨s3,⟨rfl,w3⟩,hs3⟩;have hs3:=w3 _ _ _ hs3;clear hs1 hs2 w1 w2 w3 ar2 ark ar3;refine wpIn_seq (wpIn_region ?_);have hrg:List.range ops.size=[0,1,2,3,4,5,6]++[7,8,9]:=(by rw[hol];rfl);rw[hrg]
 have okAt:∀ (k:Nat) (r:ROper),(Zb7 (issA (Zb6 (issBk (issA (Zb6 (Zb6 (issL ZaR))))))))[k]? = some r->∃ o,ops[k]? = some o/\Z1z Tryz.prog N ops o r=true:=λk r hk=>by
  have hlt:k<ops.size:=by
   have:=(List.getElem?_eq_some_iff.1 hk).1;rw[hol];exact this
  exact ⟨ops[k],by simp[hlt],hoo k _ r (by simp[hlt]) hk⟩
 refine ZaW (R:=ZaX M A N none) [7,8,9] _ ((Zb7 (issA (Zb6 (issBk (issA (Zb6 (Zb6 (issL ZaR)))))))).take 7) ⟨(7,.ptr 7 0)::itS seg bk n l i,[(7,.box (isa seg[i]))]⟩
  (λs=>Ym s ⟨(36,.agg (isa seg[i]))::(35,.func (.yield l) [] [])::(34,.bool false)::itS seg bk n l i,[]⟩) b3 B3 ?_ rfl ?_ ?_ hs3
 . intro k r hk;rw[List.getElem?_take]at hk
   split at hk
   . rename_i h7;obtain ⟨o,h1,h2⟩:=okAt k r hk;refine ⟨k,o,?_,h1,h2⟩
     match k,h7 with
     |0,_|1,_|2,_|3,_|4,_|5,_|6,_=>rfl
   . cases hk
 . intro s4 b4 B4 w4 hs4;obtain ⟨κ4,hk4⟩:=w4 _ _ _ hs4;obtain ⟨d4,n4,t4,e4⟩:=ZaZ hs4 w4 (by simp[itS,AV.pure,hbk,isa]);obtain ⟨o7,ho7,hk7⟩:=okAt 7 _ rfl;rw[wpOpsIn_cons];refine Zb0 (R:=ZaX M A N none) (l:=l) (f:=.t 35) (y:=.t 36) rfl (by simp[evA,St.tmp,lk]) (by simp[wants,St.tmp,lk]) ho7 hk7 hk4 λu hu=>?_
   have hpu:PV M B4 (.agg (isa seg[i])) u:=by
    have h36:evA (ZaX M A N none).G ⟨(36,.agg (isa seg[i]))::(35,.func (.yield l) [] [])::(34,.bool false)::itS seg bk n l i,[]⟩ (.t 36) = .agg (isa seg[i]):=(by simp[evA,St.tmp,lk]);rw[h36]at hu;exact (hu.toPV (by simp[AV.pure,isa])).mono (λb _ hb=>⟨λh=>hb (.inl h),rfl⟩) (Nat.le_refl _)
   have hdst:o7.dst=some 37:=by
    simp only[Z1z,Bool.and_eq_true,decide_eq_true_eq]at hk7;exact hk7.1.1.1
   have h34:b4.tmps.getD 34 Go.undef = .bool false:=by
    have:=t4 34 (.bool false) (by simp[lk]);generalize b4.tmps.getD 34 Go.undef=v at this
    cases this;rfl
   have suffix:∀ (b:Bool) (T:List (Nat×AV)) (M':Nat->Prop) (A':World),(T=itS seg bk n l i∨T=[])->(∀ x,M' x->x<A'.heap.size)->TT' M' A' T b4->∀ (Qx:Exit->Act->World->Prop),
     (∀ a5 A5,SR (ZaX M' A' N none) ⟨(39,.bool (!b))::T,[]⟩ a5 A5->Qx .normal a5 A5)->wpOpsIn (FW none) n' Tryz.prog ops Qx [8,9] (b4.put (some 37) (.bool b)) A':=by
    intro b T M' A' hTT hM' hT Qx hQx;have n37:37<N:=by rw[hN];decide
    have hsr:SR (ZaX M' A' N none) ⟨(37,.bool b)::(34,.bool false)::T,[]⟩ (b4.put (some 37) (.bool b)) A':=by
     refine ZaY hM' d4 (by simpa [Act.put] using n4) λk x hx=>?_
     show PV M' A' x ((b4.tmps.setIfInBounds 37 (.bool b)).getD k Go.undef);simp only[lk]at hx
     split at hx
     . rename_i e;subst e
       cases hx
       have:(b4.tmps.setIfInBounds 37 (.bool b)).getD 37 Go.undef = .bool b:=(by simp[Array.getD,n4,n37]);rw[this];exact .bool b
     . rename_i e
       have h3:(b4.tmps.setIfInBounds 37 (.bool b)).getD k Go.undef=b4.tmps.getD k Go.undef:=by
        simp only[Array.getD_eq_getD_getElem?,Array.getElem?_setIfInBounds,if_neg e]
       rw[h3]
       split at hx
       . rename_i e2;subst e2;cases hx;rw[h34];exact .bool false
       . exact hT k x hx
    refine Z27 (R:=ZaX M' A' N none) [8,9] ((Zb7 (issA (Zb6 (issBk (issA (Zb6 (Zb6 (issL ZaR)))))))).drop 8) ⟨(37,.bool b)::(34,.bool false)::T,[]⟩
     (λe s=>e = .normal/\Ym s ⟨(39,.bool (!b))::T,[]⟩) Qx _ A' ?_ rfl ?_ ?_ hsr
    . intro k r hk;rw[List.getElem?_drop]at hk;obtain ⟨o,h1,h2⟩:=okAt (8+k) r hk
      have h7:k<2:=by
       have:=(List.getElem?_eq_some_iff.1 hk).1;have e:(Zb7 (issA (Zb6 (issBk (issA (Zb6 (Zb6 (issL ZaR)))))))).length=10:=rfl;omega
      refine ⟨8+k,o,?_,h1,h2⟩
      match k,h7 with
      |0,_|1,_=>rfl
    . rintro e s5 a5 A5 ⟨rfl,w5⟩ hs5;exact hQx a5 A5 (w5 _ _ _ hs5)
    . rcases hTT with rfl|rfl <;> cases b
      all_goals
       simp -implicitDefEqProofs[issL,issB3,issB2,issA,Zb6,issBk,Zb7,ZaR,itS];exact (by (first|exact Ym.tm (by simp[lk])|exact Ym.sub (by simp[lk,Ya,AV.keys]) (by simp[lk,Yc,Ya,AV.keys])))
   obtain ⟨fn,tm,asg,bo,y1,y2⟩:=hY i _ u M B4 (hJe _ _ _ _ hJ e4) helt hpu;refine ⟨fn,tm,asg,bo,y1,y2.mono ?_⟩;rintro e A' (⟨rfl,M',hJ',hSi⟩ | ⟨rfl,hK'⟩)
   . show wpOpsIn (FW none) n' Tryz.prog ops _ [8,9] (b4.put o7.dst (.bool true)) A';rw[hdst]
     have hT':TT' M' A' (itS seg bk n l i) b4:=λk x hx=>by
      refine (t4 k x ?_).mono hSi.2 hSi.1;simp only[lk];rw[if_neg (by rintro rfl;simp[itS,lk]at hx),if_neg (by rintro rfl;simp[itS,lk]at hx),if_neg (by rintro rfl;simp[itS,lk]at hx)];exact hx
     refine suffix true _ M' A' (.inl rfl) (hJM _ _ _ hJ') hT' _ λa5 A5 h5=>?_
     have ark2:AR Tryz.prog (ZaX M' A' N none) (Zb6 (Zb6 (issBk (issA (Zb6 (Zb6 (issL ZaR))))))) ⟨(39,.bool (!true))::itS seg bk n l i,[]⟩ (λe s=>e = .normal/\Ym s ⟨itS seg bk n l i,[]⟩):=by
      refine Qga ?_;simp -implicitDefEqProofs[issL,issB3,issB2,issA,Zb6,issBk,ZaR,itS];exact (by (first|exact Ym.tm (by simp[lk])|exact Ym.sub (by simp[lk,Ya,AV.keys]) (by simp[lk,Yc,Ya,AV.keys])))
     refine wpIn_mono (ark2 k2 okk2 _ a5 A5 h5) ?_;rintro e b6 B6 ⟨s6,⟨rfl,w6⟩,hs6⟩
     have ar5:AR Tryz.prog (ZaX M' A' N none) (Zb6 (Zb6 (Zb6 (issL ZaR)))) ⟨itS seg bk n l i,[]⟩ (λe s=>e = .normal/\Ym s ⟨itS seg bk n l (i+1),[]⟩):=by
      have w1:IntKind.i64.wrap ((i:Int)+1)=((i+1:Nat):Int):=Yf (by omega) (by omega);refine Qga ?_;simp -implicitDefEqProofs[issL,issB3,issB2,issA,Zb6,issBk,ZaR,itS,w1];exact (by (first|exact Ym.tm (by simp[lk])|exact Ym.sub (by simp[lk,Ya,AV.keys]) (by simp[lk,Yc,Ya,AV.keys])))
     refine wpIn_mono (ar5 r5 okr5 _ b6 B6 (w6 _ _ _ hs6)) ?_;rintro e b7 B7 ⟨s7,⟨rfl,w7⟩,hs7⟩;obtain ⟨d7,n7,t7,e7⟩:=ZaZ hs7 w7 (by simp[itS,AV.pure,hbk]);exact ⟨seg.length-(i+1),by omega,i+1,M',by omega,rfl,hJe _ _ _ _ hJ' e7,d7,n7,t7⟩
   . show wpOpsIn (FW none) n' Tryz.prog ops _ [8,9] (b4.put o7.dst (.bool false)) A';rw[hdst];refine suffix false [] (λ_=>False) A' (.inr rfl) (λ_ h=>h.elim) (λk x hx=>by simp[lk]at hx) _ λa5 A5 h5=>?_
     have ark2:AR Tryz.prog (ZaX (λ_=>False) A' N none) (Zb6 (Zb6 (issBk (issA (Zb6 (Zb6 (issL ZaR))))))) ⟨[(39,.bool (!false))],[]⟩ (λe s=>e = .ret/\Ym s ⟨[],[]⟩):=by
      refine Qga ?_;simp -implicitDefEqProofs[issL,issB3,issB2,issA,Zb6,issBk,ZaR];exact (by (first|exact Ym.tm (by simp[lk])|exact Ym.sub (by simp[lk,Ya,AV.keys]) (by simp[lk,Yc,Ya,AV.keys])))
     refine wpIn_mono (ark2 k2 okk2 _ a5 A5 h5) ?_;rintro e b6 B6 ⟨s6,⟨rfl,w6⟩,hs6⟩;obtain ⟨d6,-,-,e6⟩:=ZaZ hs6 w6 (by simp);exact (hfin b6 B6 d6 (.inr (hKe _ _ hK' e6))).1
 . simp -implicitDefEqProofs[issL,issB3,issB2,issA,Zb6,issBk,Zb7,ZaR,itS,isa,hd2];exact (by (first|exact Ym.tm (by simp[lk])|exact Ym.sub (by simp[lk,Ya,AV.keys]) (by simp[lk,Yc,Ya,AV.keys])))
end
def bkA (r:List Iss) (ds:List Int):AV:=.vptr [.vsl (r.map isa),.vsl (ds.map ia)] 0
theorem Zb9 (r:List Iss) (ds:List Int):(bkA r ds).pure=true:=by simp[bkA,AV.pure]
attribute [simp] Zb9
section
variable {G:Nat->Option (List AV)}
theorem Zba (r:List Iss) (ds:List Int) (n:Int) (hs:ds.Pairwise (· <= ·)) (hl:Sml ds):PC Tryz.prog G 197 [bkA r ds,.int .i64 n] (.bool (decide (n∈ds))):=by
 (refine Z7T rfl λR hG hrd=>Qga ?_;subst hG)
 simp -implicitDefEqProofs[Z7R,Z7S,bkA];refine Qco (ZaQ ds n hs hl) (by simp) ?_;simp -implicitDefEqProofs[]
theorem Zbb (r:List Iss) (ds:List Int) (y:Int×Int) (hs:ds.Pairwise (· <= ·)) (hl:Sml ds):PC Tryz.prog G 196 [.agg [.int .i64 y.1,.int .i64 y.2],.vptr [bkA r ds] 0] (.bool (!decide (y.1∈ds))):=by
 (refine Z7Q rfl λR hG hrd=>Qga ?_;subst hG)
 simp -implicitDefEqProofs[Z7O,Z7P];refine Qco (Zba r ds y.1 hs hl) (by simp) ?_;simp -implicitDefEqProofs[]
theorem Zbc (r:List Iss) (ds:List Int) (n:Int):PC Tryz.prog G 211 [bkA r ds,.int .i64 n] (.func (.func 215) [] [.vptr [bkA r ds] 0,.vptr [.int .i64 n] 0]):=by
 (refine Z8e rfl λR hG hrd=>Qga ?_;subst hG)
 simp -implicitDefEqProofs[Z8c,Z8d,bkA]
def cntV (r:List Iss) (n:Int):Int:=((r.filter (λx=>decide (x.d=n))).length:Nat)
theorem Zbd (r:List Iss) (ds:List Int) (d l:Int) (hs:(r.map (·.d)).Pairwise (· <= ·)) (hl:Sml r) (hu:∀ y∈r,findN y.d y.l r=some y):PC Tryz.prog G 249 [bkA r ds,.agg [.int .i64 d,.int .i64 l]] (fndA (findN d l r)):=by
 (refine Z8k rfl λR hG hrd=>Qga ?_;subst hG)
 simp -implicitDefEqProofs[Z8i,Z8j];refine Qco (Zbc r ds d) (by simp) ?_;simp -implicitDefEqProofs[]
 refine Z55 hrd (Zb8 r d (.vsl (ds.map ia)) hs hl) (by simp[evA,St.tmp,lk,bkA]) (by simp[AV.pure]) (λk=>k-1000) [(3,.ptr 1003 0),(4,.ptr 1004 0),(5,.ptr 1005 0)] (λ_=>[(1003,.box [.int .i64 d,.int .i64 l]),(1004,.box [.int .i64 0,.int .i64 0,.int .u8 0,.nils,.nils]),(1005,.box [.bool false])])
  [1003,1004,1005] (λk=>∀ j,j<k->∀ y,(r.filter (λx=>decide (x.d=d)))[j]? = some y->y.l≠l) (by simp) (λ_=>rfl) (by simp) (by simp) (by simp[Yl,St.set,putO,AObj.ren,AV.ren]) (by simp[Yc,Ya,AV.keys]) (by simp[lk,AV.ren,AV.keys]) ?_ ?_
 . intro k x hx hI R' hG hN
   obtain ⟨y,hy,rfl⟩ : ∃ y,(r.filter (λx=>decide (x.d=d)))[k]? = some y/\x = .agg (isa y):=by
    simp only[elsOf,List.getElem?_map,Option.map_eq_some_iff]at hx;obtain ⟨y,h1,h2⟩:=hx;exact ⟨y,h1,h2.symm⟩
   have hym:=List.mem_filter.1 (List.mem_of_getElem? hy);have hyd:y.d=d:=of_decide_eq_true hym.2;refine Qga ?_;simp -implicitDefEqProofs[isa];intro R'' hG'' hN'';refine Qga ?_;simp -implicitDefEqProofs[];refine Qco (ZaB y) (by simp) ?_;simp -implicitDefEqProofs[];refine ⟨rfl,?_⟩;by_cases e:y.l=l
   . simp -implicitDefEqProofs[hyd,e,RndB,Yi,newK,frzO,frzA,frz,AV.keys,Yl,AObj.ren,AV.ren];refine Qgr ?_
     have hf:findN d l r=some y:=by
      have:=hu y hym.1;rw[hyd,e]at this;exact this
     simp -implicitDefEqProofs[hf,fndA,isa,hyd,e]
   . simp -implicitDefEqProofs[hyd,e,RndB,Yi,newK,frzO,frzA,frz,AV.keys];intro j hj z hz;by_cases e2:j=k
     . subst e2;rw[hy]at hz;cases hz;exact e
     . exact hI j (by omega) z hz
 . intro hI
   have hn:findN d l r=none:=by
    cases hf:findN d l r with
    |none=>rfl
    | some y =>
      obtain ⟨h1,h2,h3⟩:=Zak hf;obtain ⟨j,hj,he⟩:=List.getElem_of_mem (show y∈r.filter (λx=>decide (x.d=d)) from List.mem_filter.2 ⟨h1,decide_eq_true h2⟩);exact absurd h3 (hI j (by simp[elsOf];exact hj) y (by rw[List.getElem?_eq_getElem hj,he]))
   simp -implicitDefEqProofs[Yl,AObj.ren,AV.ren];refine Qgr ?_;simp -implicitDefEqProofs[hn,fndA,noIs]
end
end Go.Proofs.YtcdlimgkliklhaaGreatDoor
