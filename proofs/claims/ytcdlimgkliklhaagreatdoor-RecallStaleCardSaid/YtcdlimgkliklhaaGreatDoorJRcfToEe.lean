/-
  The abstract machine's code of functions of the program, as a program of ours printed it; that it is theirs is proved beside each.
-/
import Derived.Test.YtcdlimgkliklhaaGreatDoorJAmLToAmXb
import Derived.Test.YtcdlimgkliklhaaGreatDoorProg
import Derived.IntWalk
set_option linter.all false
set_option linter.unusedSimpArgs false
set_option linter.unusedVariables false
set_option linter.unusedSectionVars false
namespace Go.Proofs.YtcdlimgkliklhaaGreatDoor
open Go.RowKit
open Qq in
def Z5u:RCode :=
 .seq (r 0 [b 2 0,n 3 (.bool false)]) (.seq (r 1 [f 4 2 1,l 5 4,f 6 2 2,l 7 6,o 8 .eql 5 7,m 9 8,g 9 false (f 10 3 1),g 9 false (f 11 0 10),g 9 false (l 12 11),g 9 false (f 13 3 2),g 9 false (f 14 0 13),g 9 false (l 15 14),g 9 false (o 16 .eql 12 15),u 17 9 16,m 3 17]) .ret)
def Z5v:List RRes:=[.t 3]
theorem Z5w:PCt Tryz.prog 154 Tryz.f154 Z5u Z5v:=pcT Tryz.func154 rfl (by kernel_rfl) (by kernel_rfl) (by kernel_rfl)
open Qq in
def Z5x:RCode :=
 .seq (r 0 [n 4 O]) (.seq (.seq (r 1 [m 6 0,e 7 6,n 8 O]) (.block 0 (.loop (.seq (r 2 [o 9 .lss 8 7]) (.seq (.cond (.t 9) .skip (.exit 0)) (.seq (.block 1 (.seq (r 3 [m 10 8,m 5 10]) (.seq (r 4 [m 11 1,m 12 0,m 13 5,i 14 7 12 13,L 15 7 14,w 16 (.callv (.t 11) [.t 15])]) (.cond (.t 16) (.seq (r 5 [m 17 5,m 4 17]) .ret) .skip)))) (r 6 [k 18 .add 8 I,m 8 18]))))))) (.seq (r 7 [n 4 (.int .i64 (-1))]) .ret))
def Z5y:List RRes:=[.t 4]
theorem Z5z:PCt Tryz.prog 180 Tryz.f180 Z5x Z5y:=pcT Tryz.func180 rfl (by kernel_rfl) (by kernel_rfl) (by kernel_rfl)
open Qq in
def Z5A:RCode :=
 .seq (r 0 [n 4 (.bool false)]) (.seq (r 1 [m 5 0,m 6 1,c 7 180 [5,6],k 8 .geq 7 O,m 4 8]) .ret)
def Z5B:List RRes:=[.t 4]
theorem Z5C:PCt Tryz.prog 153 Tryz.f153 Z5A Z5B:=pcT Tryz.func153 rfl (by kernel_rfl) (by kernel_rfl) (by kernel_rfl)
open Qq in
def Z5D:RCode :=
 .seq (r 0 [n 2 .nils]) (.seq (.seq (r 1 [m 3 0,w 4 (.vop (.eqn false) [(.t 3),(.c .nils)])]) (.cond (.t 4) (.seq (r 2 [n 2 .nils]) .ret) .skip)) (.seq (r 3 [w 5 (.bsl true 7 0 [] []),m 6 0,w 7 (.app 7 56 (.t 5) (.t 6)),m 2 7]) .ret))
def Z5E:List RRes:=[.t 2]
open Qq in
def Z5F:RCode :=
 .seq (r 0 [n 6 .nils]) (.seq (.seq (r 1 [m 10 1,k 11 .eql 10 O]) (.cond (.t 11) (.seq (r 2 [m 12 2,m 6 12]) .ret) .skip)) (.seq (.seq (r 3 [m 13 0,e 14 13,n 15 O]) (.block 0 (.loop (.seq (r 4 [o 16 .lss 15 14]) (.seq (.cond (.t 16) .skip (.exit 0)) (.seq (.block 1 (.seq (r 5 [m 17 15,i 18 7 13 15,L 19 7 18,w 8 (.alloc [O,O,O,O,O,O,.int .u8 0]),m 7 17,s 7 8 19]) (.seq (.seq (r 6 [m 20 2,w 21 (.mkf (.func 154) [] [.t 8]),c 22 153 [20,21]]) (.cond (.t 22) (.exit 1) .skip)) (.seq (R 7 [m 23 0,m 24 7,a [1] (k 25 .add 24 I),a [0,2] (w 26 (.slc 7 (.t 23) (some (.t 25)) none)),m 27 1,a [4] (k 28 .sub 27 I),m 29 2,a [6] (c 30 155 [29]),L 31 7 8,a [8] (w 32 (.bsl false 7 1 [O,O,O,O,O,O,.int .u8 0] [(0,.t 31)])),a [7,9,7] (w 33 (.app 7 56 (.t 30) (.t 32))),a [3,5,10,10] (c 34 97 [26,28,33]),a [11,11,0,1,2,3,4,5,6,7,8,9,10,11] (m 9 34)]) (.seq (r 8 [m 35 9,w 36 (.vop (.eqn true) [(.t 35),(.c .nils)])]) (.cond (.t 36) (.seq (r 9 [m 37 9,m 6 37]) .ret) .skip)))))) (r 10 [k 38 .add 15 I,m 15 38]))))))) (.seq (r 11 [n 6 .nils]) .ret)))
def Z5G:List RRes:=[.t 6]
theorem Z5H:PCt Tryz.prog 97 Tryz.f97 Z5F Z5G:=pcT Tryz.func97 rfl (by kernel_rfl) (by kernel_rfl) (by kernel_rfl)
open Qq in
def Z5I:RCode :=
 .seq (r 0 [b 5 0,n 10 .nils,n 11 (.bool false)]) (.seq (.seq (r 1 [m 19 3,k 20 .eql 19 O]) (.cond (.t 20) (.seq (r 2 [m 21 4,m 10 21,n 11 (.bool true)]) .ret) .skip)) (.seq (.seq (r 3 [m 22 2,m 12 22]) (.block 0 (.loop (.seq (.seq (r 4 [m 23 12,m 24 1,e 25 24,o 26 .lss 23 25]) (.cond (.t 26) .skip (.exit 0))) (.seq (.block 1 (.seq (R 6 [f 29 3 5,a [0] (l 30 29),m 31 1,m 32 12,a [2,3] (i 33 1 31 32),a [4] (l 34 33),a [1,5] (i 35 7 30 34),a [6] (L 36 7 35),w 13 (.alloc [O,O,O,O,O,O,.int .u8 0]),a [8,7,0,1,2,3,4,5,6,7,8] (s 7 13 36)]) (.seq (r 7 [n 14 (.bool true)]) (.seq (.seq (r 8 [n 15 O]) (.block 2 (.loop (.seq (.seq (r 9 [m 37 15,m 38 4,e 39 38,o 40 .lss 37 39]) (.cond (.t 40) .skip (.exit 2))) (.seq (.block 3 (.seq (R 11 [f 43 3 5,a [0] (l 44 43),m 45 4,m 46 15,a [2,3] (i 47 1 45 46),a [4] (l 48 47),a [1,5] (i 49 7 44 48),a [6] (L 50 7 49),w 16 (.alloc [O,O,O,O,O,O,.int .u8 0]),a [8,7,0,1,2,3,4,5,6,7,8] (s 7 16 50)]) (r 12 [m 51 14,m 52 51,g 52 true (f 53 2 13),g 52 true (l 54 53),g 52 true (f 55 2 16),g 52 true (l 56 55),g 52 true (o 57 .neq 54 56),v 58 52 57,m 59 58,g 59 true (f 60 3 13),g 59 true (f 61 0 60),g 59 true (l 62 61),g 59 true (f 63 3 16),g 59 true (f 64 0 63),g 59 true (l 65 64),g 59 true (o 66 .neq 62 65),v 67 59 66,m 14 67]))) (r 10 [m 41 15,k 42 .add 41 I,m 15 42])))))) (.seq (.seq (r 13 [m 68 14,t 69 68]) (.cond (.t 69) (.exit 1) .skip)) (.seq (R 14 [L 71 4 5,m 72 1,m 73 12,a [2] (k 74 .add 73 I),m 75 3,a [4] (k 76 .sub 75 I),w 77 (.bsl true 1 0 [] []),m 78 4,a [6,7] (w 79 (.app 1 8 (.t 77) (.t 78))),m 80 1,m 81 12,a [9,10] (i 82 1 80 81),a [11] (l 83 82),a [12] (w 84 (.bsl false 1 1 [O] [(0,.t 83)])),a [8,13,8] (w 85 (.app 1 8 (.t 79) (.t 84))),a [0,1,3,5,14,14] (c 86 99 [71,72,74,76,85]),a [15] (m 70 86),a [16] (x 87 0 70),a [16] (x 88 1 70),a [17,15,0,1,2,3,4,5,6,7,8,9,10,11,12,13,14,15,16,17] (m 17 87),a [18,19,0,1,2,3,4,5,6,7,8,9,10,11,12,13,14,15,16,17,18,19] (m 18 88)]) (.seq (r 15 [m 89 18]) (.cond (.t 89) (.seq (r 16 [m 90 17,m 10 90,n 11 (.bool true)]) .ret) .skip)))))))) (r 5 [m 27 12,k 28 .add 27 I,m 12 28])))))) (.seq (r 17 [n 10 .nils,n 11 (.bool false)]) .ret)))
def Z5J:List RRes:=[.t 10,.t 11]
theorem Z5K:PCt Tryz.prog 99 Tryz.f99 Z5I Z5J:=pcT Tryz.func99 rfl (by kernel_rfl) (by kernel_rfl) (by kernel_rfl)
open Qq in
def Z5L:RCode :=
 .seq (r 0 [b 3 1,w 4 (.alloc [.nils,.nils])]) (.seq (r 1 [w 5 (.alloc [.nils,.nils])]) (.seq (r 2 [w 6 (.alloc [.bool false]),z (.store 1 (.t 6) (.c (.bool false)))]) (.seq (.seq (r 3 [m 8 0]) (.block 0 (.rngf (.t 8) [9] (r 4 [w 7 (.alloc [.nils,.nils]),s 2 7 9]) (.block 1 (.seq (r 5 [l 10 6,t 11 10,m 12 11,g 12 false (l 13 3),g 12 false (L 14 2 7),g 12 false (L 15 2 5),g 12 false (w 16 (.callv (.t 13) [.t 14,.t 15])),g 12 false (k 17 .lss 16 O),u 18 12 17]) (.cond (.t 18) (r 6 [L 19 2 7,s 2 5 19,z (.store 1 (.t 6) (.c (.bool true)))]) .skip)))))) (.seq (r 7 [L 20 2 5,s 2 4 20]) .ret))))
def Z5M:List RRes:=[.c 4 true 2]
theorem Z5N:PCt Tryz.prog 148 Tryz.f148 Z5L Z5M:=pcT Tryz.func148 rfl (by kernel_rfl) (by kernel_rfl) (by kernel_rfl)
open Qq in
def Z5O:RCode :=
 .seq (r 0 [b 2 0,b 3 1,n 4 .nilf]) (.seq (r 1 [w 5 (.mkf (.func 179) [] [.t 2,.t 3]),m 4 5]) .ret)
def Z5P:List RRes:=[.t 4]
theorem Z5Q:PCt Tryz.prog 149 Tryz.f149 Z5O Z5P:=pcT Tryz.func149 rfl (by kernel_rfl) (by kernel_rfl) (by kernel_rfl)
open Qq in
noncomputable def Z5R:RCode :=
 .seq (r 0 [l 15 1,w 16 (.nilck (.t 15)),f 17 0 16,f 18 2 17,l 19 18,e 20 19,w 21 (.vop (.sh true) [(.c I),(.t 20)]),n 22 O]) (.block 0 (.loop (.seq (r 1 [o 23 .lss 22 21]) (.seq (.cond (.t 23) .skip (.exit 0)) (.seq (.block 1 (.seq (r 2 [m 24 22,m 4 24]) (.seq (r 3 [w 5 (.alloc [.nils,.nils])]) (.seq (r 4 [w 25 (.mkmap),m 6 25]) (.seq (.seq (r 5 [l 26 2,e 27 26,n 28 O]) (.block 2 (.loop (.seq (r 6 [o 29 .lss 28 27]) (.seq (.cond (.t 29) .skip (.exit 2)) (.seq (.block 3 (.seq (r 7 [i 30 7 26 28,L 31 7 30,w 8 (.alloc [O,O,O,O,O,O,.int .u8 0]),s 7 8 31]) (r 8 [m 32 6,f 33 0 8,l 34 33,L 35 7 8,z (.mupd (.i .i64) (.t 32) (.t 34) (.t 35))]))) (r 9 [k 36 .add 28 I,m 28 36]))))))) (.seq (.seq (r 10 [l 37 1,w 38 (.nilck (.t 37)),f 39 0 38,f 40 2 39,l 41 40,e 42 41,n 43 O]) (.block 4 (.loop (.seq (r 11 [o 44 .lss 43 42]) (.seq (.cond (.t 44) .skip (.exit 4)) (.seq (.block 5 (.seq (r 12 [m 45 43,i 46 4 41 43,L 47 4 46,w 10 (.alloc [O,O,O,.nils]),m 9 45,s 4 10 47]) (.seq (.seq (r 13 [m 48 4,m 49 9,w 50 (.vop (.sh false) [(.t 48),(.t 49)]),w 51 (.vop (.bits .and) [(.t 50),(.c I)]),k 52 .eql 51 O]) (.cond (.t 52) (.exit 5) .skip)) (.seq (r 14 [f 53 0 5,l 54 53,f 55 0 10,l 56 55,w 57 (.bsl false 1 1 [O] [(0,.t 56)]),w 58 (.app 1 8 (.t 54) (.t 57)),f 59 0 5,s 1 59 58]) (.seq (r 15 [l 60 2,e 61 60,n 62 O]) (.block 6 (.loop (.seq (r 16 [o 63 .lss 62 61]) (.seq (.cond (.t 63) .skip (.exit 6)) (.seq (.block 7 (.seq (r 17 [i 64 7 60 62,L 65 7 64,w 12 (.alloc [O,O,O,O,O,O,.int .u8 0]),s 7 12 65]) (.seq (r 18 [f 66 2 12,l 67 66,f 68 0 10,l 69 68,o 70 .eql 67 69]) (.cond (.t 70) (r 19 [m 71 6,f 72 0 12,l 73 72,z (.mdel (.i .i64) (.t 71) (.t 73))]) .skip)))) (r 20 [k 74 .add 62 I,m 62 74]))))))))))) (r 21 [k 75 .add 43 I,m 43 75]))))))) (.seq (.raw (rngV Tryz.prog [m 76 6] 76 77 78 79 80 81 [w 14 (.alloc [O,O,O,O,O,O,.int .u8 0]),s 7 14 81] [f 82 1 5,l 83 82,f 84 3 14,f 85 0 84,l 86 85,w 87 (.bsl false 1 1 [O] [(0,.t 86)]),w 88 (.app 1 8 (.t 83) (.t 87)),f 89 1 5,s 1 89 88])) (.seq (r 26 [f 90 1 5,l 91 90,c 92 115 [91]]) (.seq (r 27 [f 93 1 5,l 94 93,c 95 116 [94],f 96 1 5,s 1 96 95]) (.seq (r 28 [m 97 0,L 98 2 5,w 99 (.callv (.t 97) [.t 98]),t 100 99]) (.cond (.t 100) .ret .skip))))))))))) (r 29 [k 101 .add 22 I,m 22 101]))))))
open Qq in
def Z5S:RCode :=
 .seq (r 0 [n 4 (.bool false)]) (.seq (.seq (r 1 [m 6 0,e 7 6,m 8 1,e 9 8,o 10 .neq 7 9]) (.cond (.t 10) (.seq (r 2 [m 11 0,e 12 11,m 13 1,e 14 13,o 15 .lss 12 14,m 4 15]) .ret) .skip)) (.seq (.seq (r 3 [n 5 O]) (.block 0 (.loop (.seq (.seq (r 4 [m 16 5,m 17 0,e 18 17,o 19 .lss 16 18]) (.cond (.t 19) .skip (.exit 0))) (.seq (.block 1 (.seq (R 6 [m 22 0,m 23 5,a [0,1] (i 24 1 22 23),a [2] (l 25 24),m 26 1,m 27 5,a [4,5] (i 28 1 26 27),a [6] (l 29 28),a [3,7] (o 30 .neq 25 29)]) (.cond (.t 30) (.seq (R 7 [m 31 0,m 32 5,a [0,1] (i 33 1 31 32),a [2] (l 34 33),m 35 1,m 36 5,a [4,5] (i 37 1 35 36),a [6] (l 38 37),a [3,7] (o 39 .lss 34 38),a [8,0,1,2,3,4,5,6,7,8] (m 4 39)]) .ret) .skip))) (r 5 [m 20 5,k 21 .add 20 I,m 5 21])))))) (.seq (r 8 [n 4 (.bool false)]) .ret)))
def Z5T:List RRes:=[.t 4]
theorem Z5U:PCt Tryz.prog 55 Tryz.f55 Z5S Z5T:=pcT Tryz.func55 rfl (by kernel_rfl) (by kernel_rfl) (by kernel_rfl)
open Qq in
def Z5V:RCode :=
 .seq (r 0 [n 4 O]) (.seq (.seq (r 1 [m 9 0,e 10 9,n 11 O]) (.block 0 (.loop (.seq (r 2 [o 12 .lss 11 10]) (.seq (.cond (.t 12) .skip (.exit 0)) (.seq (.block 1 (.seq (r 3 [m 13 11,i 14 1 9 11,l 15 14,m 5 13,m 6 15]) (.seq (.seq (r 4 [m 16 5,m 17 1,e 18 17,o 19 .geq 16 18]) (.cond (.t 19) (.seq (r 5 [n 4 I]) .ret) .skip)) (.seq (r 6 [m 20 1,m 21 5,i 22 1 20 21,l 23 22,m 7 23]) (.seq (r 7 [m 24 6,m 25 7,c 26 107 [24,25],m 8 26]) (.seq (r 8 [m 27 8,k 28 .neq 27 O]) (.cond (.t 28) (.seq (r 9 [m 29 8,m 4 29]) .ret) .skip))))))) (r 10 [k 30 .add 11 I,m 11 30]))))))) (.seq (.seq (r 11 [m 31 0,e 32 31,m 33 1,e 34 33,o 35 .lss 32 34]) (.cond (.t 35) (.seq (r 12 [n 4 (.int .i64 (-1))]) .ret) .skip)) (.seq (r 13 [n 4 O]) .ret)))
def Z5W:List RRes:=[.t 4]
theorem Z5X:PCt Tryz.prog 152 Tryz.f152 Z5V Z5W:=pcT Tryz.func152 rfl (by kernel_rfl) (by kernel_rfl) (by kernel_rfl)
open Qq in
def Z5Y:RCode :=
 .seq (r 0 [b 1 0,n 2 O]) (.seq (r 1 [f 3 0 1,l 4 3,e 5 4,f 6 1 1,l 7 6,e 8 7,o 9 .add 5 8,m 2 9]) .ret)
def Z5Z:List RRes:=[.t 2]
theorem Z60:PCt Tryz.prog 98 Tryz.f98 Z5Y Z5Z:=pcT Tryz.func98 rfl (by kernel_rfl) (by kernel_rfl) (by kernel_rfl)
open Qq in
def Z61:RCode :=
 .seq (r 0 [b 2 0,b 3 1,n 4 O]) (.seq (R 1 [L 5 2 2,a [0] (c 6 98 [5]),L 7 2 3,a [2,1] (c 8 98 [7]),a [1,3] (o 9 .sub 6 8),f 10 0 2,a [5] (l 11 10),a [6] (e 12 11),f 13 0 3,a [8] (l 14 13),a [9] (e 15 14),a [7,10] (o 16 .sub 12 15),f 17 0 2,a [12] (l 18 17),f 19 0 3,a [14] (l 20 19),a [13,15,3] (c 21 152 [18,20]),a [4,11,16] (w 22 (.bsl false 1 3 [O,O,O] [(0,.t 9),(1,.t 16),(2,.t 21)])),a [17,16] (c 23 151 [22]),a [18,18,0,1,2,3,4,5,6,7,8,9,10,11,12,13,14,15,16,17,18] (m 4 23)]) .ret)
def Z62:List RRes:=[.t 4]
theorem Z63:PCt Tryz.prog 150 Tryz.f150 Z61 Z62:=pcT Tryz.func150 rfl (by kernel_rfl) (by kernel_rfl) (by kernel_rfl)
open Qq in
def Z64:RCode :=
 .seq (r 0 [w 4 (.alloc [.nils,.nils])]) (.seq (r 1 [m 5 0,m 6 1,c 7 149 [5,6],w 8 (.call 148 [.t 7,.c (.func (.func 150) [] [])]),s 2 4 8]) .ret)
def Z65:List RRes:=[.c 4 true 2]
theorem Z66:PCt Tryz.prog 95 Tryz.f95 Z64 Z65:=pcT Tryz.func95 rfl (by kernel_rfl) (by kernel_rfl) (by kernel_rfl)
open Qq in
def Z67:RCode :=
 .seq (r 0 [b 2 0,n 4 .nils]) (.seq (r 1 [n 5 .nils]) (.seq (.seq (r 2 [n 6 O]) (.block 0 (.loop (.seq (.seq (r 3 [m 8 6,f 9 3 2,l 10 9,e 11 10,o 12 .lss 8 11]) (.cond (.t 12) .skip (.exit 0))) (.seq (.block 1 (.seq (r 5 [f 15 3 2,l 16 15,m 17 6,i 18 7 16 17,L 19 7 18,w 7 (.alloc [O,O,O,O,O,O,.int .u8 0]),s 7 7 19]) (.seq (R 6 [L 20 7 7,m 21 1,a [0,1] (c 22 57 [20,21]),a [2,2] (m 23 22),a [3] (g 23 true (f 24 2 2)),a [4,3] (g 23 true (l 25 24)),a [3] (g 23 true (L 26 4 2)),a [3] (g 23 true (f 27 2 7)),a [7,3] (g 23 true (l 28 27)),a [6,8,3,3] (g 23 true (c 29 83 [26,28])),a [5,9,3] (g 23 true (i 30 4 25 29)),a [10,3] (g 23 true (f 31 3 30)),a [11,3] (g 23 true (l 32 31)),a [3] (g 23 true (f 33 3 7)),a [13,3] (g 23 true (f 34 0 33)),a [14,3] (g 23 true (l 35 34)),a [12,15,9,3] (g 23 true (c 36 104 [32,35])),a [3,16] (v 37 23 36),a [17,16] (m 38 37),a [18] (g 38 true (L 39 4 2)),a [18] (g 38 true (f 40 2 7)),a [20,18] (g 38 true (l 41 40)),a [18] (g 38 true (f 42 3 7)),a [22,18] (g 38 true (f 43 0 42)),a [23,18] (g 38 true (l 44 43)),a [19,21,24,18,18] (g 38 true (c 45 81 [39,41,44])),a [18] (g 38 true (f 46 3 7)),a [26,18] (g 38 true (f 47 1 46)),a [27,18] (g 38 true (l 48 47)),a [25,28,25,18] (g 38 true (c 49 104 [45,48])),a [29,18] (g 38 true (t 50 49)),a [18,30] (v 51 38 50)]) (.cond (.t 51) (r 7 [m 52 5,m 53 6,w 54 (.bsl false 1 1 [O] [(0,.t 53)]),w 55 (.app 1 8 (.t 52) (.t 54)),m 5 55]) .skip)))) (r 4 [m 13 6,k 14 .add 13 I,m 6 14])))))) (.seq (r 8 [m 56 5,m 4 56]) .ret)))
def Z68:List RRes:=[.t 4]
theorem Z69:PCt Tryz.prog 94 Tryz.f94 Z67 Z68:=pcT Tryz.func94 rfl (by kernel_rfl) (by kernel_rfl) (by kernel_rfl)
open Qq in
def Z6a:RCode :=
 .seq (r 0 [b 2 0,n 4 .nils]) (.seq (r 1 [n 5 .nils]) (.seq (.seq (r 2 [n 6 O]) (.block 0 (.loop (.seq (.seq (r 3 [m 7 6,m 8 1,e 9 8,o 10 .lss 7 9]) (.cond (.t 10) .skip (.exit 0))) (.seq (.block 1 (R 5 [m 13 5,f 14 3 2,a [1] (l 15 14),m 16 1,m 17 6,a [3,4] (i 18 1 16 17),a [5] (l 19 18),a [2,6] (i 20 7 15 19),a [7] (f 21 0 20),a [8] (l 22 21),a [9] (w 23 (.bsl false 1 1 [O] [(0,.t 22)])),a [0,10] (w 24 (.app 1 8 (.t 13) (.t 23))),a [11,11,0,1,2,3,4,5,6,7,8,9,10,11] (m 5 24)])) (r 4 [m 11 6,k 12 .add 11 I,m 6 12])))))) (.seq (r 6 [m 25 5,m 4 25]) .ret)))
def Z6b:List RRes:=[.t 4]
theorem Z6c:PCt Tryz.prog 93 Tryz.f93 Z6a Z6b:=pcT Tryz.func93 rfl (by kernel_rfl) (by kernel_rfl) (by kernel_rfl)
open Qq in
def Z6d:RCode :=
 .seq (r 0 [b 2 0,n 4 .nils,n 5 O]) (.seq (.seq (r 1 [L 7 4 2,m 8 1,w 9 (.call 92 [.t 7,.t 8,.c I]),m 6 9]) (.seq (r 2 [m 10 6,k 11 .neq 10 O]) (.cond (.t 11) (.seq (r 3 [m 12 6,n 4 .nils,m 5 12]) .ret) .skip))) (.seq (R 4 [L 13 4 2,L 14 4 2,m 15 1,a [1,2] (c 16 94 [14,15]),a [0,3,3] (c 17 93 [13,16]),a [4,4,0,1,2,3,4] (m 4 17),a [5,0,1,2,3,4,5] (n 5 O)]) .ret))
def Z6e:List RRes:=[.t 4,.t 5]
theorem Z6f:PCt Tryz.prog 35 Tryz.f35 Z6d Z6e:=pcT Tryz.func35 rfl (by kernel_rfl) (by kernel_rfl) (by kernel_rfl)
open Qq in
def Z6g:RCode :=
 .seq (r 0 [n 2 .nils]) (.seq (r 1 [n 3 .nils]) (.seq (.seq (r 2 [m 6 0,e 7 6,n 8 O]) (.block 0 (.loop (.seq (r 3 [o 9 .lss 8 7]) (.seq (.cond (.t 9) .skip (.exit 0)) (.seq (.block 1 (.seq (r 4 [i 10 7 6 8,L 11 7 10,w 5 (.alloc [O,O,O,O,O,O,.int .u8 0]),s 7 5 11]) (r 5 [m 12 3,f 13 0 5,l 14 13,w 15 (.bsl false 1 1 [O] [(0,.t 14)]),w 16 (.app 1 8 (.t 12) (.t 15)),m 3 16]))) (r 6 [k 17 .add 8 I,m 8 17]))))))) (.seq (r 7 [m 18 3,m 2 18]) .ret)))
def Z6h:List RRes:=[.t 2]
theorem Z6i:PCt Tryz.prog 90 Tryz.f90 Z6g Z6h:=pcT Tryz.func90 rfl (by kernel_rfl) (by kernel_rfl) (by kernel_rfl)
open Qq in
def Z6j:RCode :=
 .seq (r 0 [b 2 0,n 4 .nils]) (.seq (r 1 [w 10 (.mkmap),w 5 (.alloc [.nilm]),s 1 5 10]) (.seq (r 2 [w 6 (.alloc [.nils])]) (.seq (.seq (r 3 [l 11 2,m 12 1,c 13 70 [11,12]]) (.block 0 (.rngf (.t 13) [14,15] (r 4 [w 8 (.alloc [O,O,O,O,O,O,.int .u8 0]),s 7 8 15]) (.block 1 (.seq (.seq (R 5 [l 16 2,a [0] (w 17 (.nilck (.t 16))),a [1] (f 18 0 17),a [2] (f 19 2 18),a [3] (l 20 19),l 21 2,f 22 2 8,a [6] (l 23 22),a [5,7] (c 24 82 [21,23]),a [4,8] (i 25 4 20 24),a [9] (f 26 3 25),a [10] (l 27 26),f 28 3 8,a [12] (f 29 0 28),a [13] (l 30 29),a [11,14,8] (c 31 87 [27,30]),a [15] (t 32 31)]) (.cond (.t 32) (.exit 1) .skip)) (.seq (r 6 [f 33 2 8,l 34 33,f 35 3 8,f 36 0 35,l 37 36,w 38 (.build [O,O] [(0,1,.t 34),(1,1,.t 37)]),w 9 (.alloc [O,O]),s 2 9 38]) (.seq (.seq (r 7 [l 39 5,L 40 2 9,w 41 (.look (.ag [.i,.i]) .nils false (.t 39) (.t 40)),w 42 (.vop (.eqn false) [(.t 41),(.c .nils)])]) (.cond (.t 42) (R 8 [l 43 5,L 44 2 9,l 45 2,f 46 2 8,a [3] (l 47 46),f 48 3 8,a [5] (f 49 0 48),a [6] (l 50 49),a [2,4,7] (c 51 80 [45,47,50]),a [0,1,8,8,0,1,2,3,4,5,6,7,8] (z (.mupd (.ag [.i,.i]) (.t 43) (.t 44) (.t 51)))]) .skip)) (.seq (R 9 [l 52 5,L 53 2 9,a [0,1] (w 54 (.look (.ag [.i,.i]) .nils false (.t 52) (.t 53))),f 55 3 8,a [3] (f 56 1 55),a [4] (l 57 56),a [2,5] (c 58 87 [54,57]),a [6] (t 59 58)]) (.cond (.t 59) (r 10 [l 60 6,L 61 7 8,w 62 (.bsl false 7 1 [O,O,O,O,O,O,.int .u8 0] [(0,.t 61)]),w 63 (.app 7 56 (.t 60) (.t 62)),s 1 6 63]) .skip))))))))) (.seq (r 11 [l 64 6,m 4 64]) .ret))))
def Z6k:List RRes:=[.t 4]
theorem Z6l:PCt Tryz.prog 91 Tryz.f91 Z6j Z6k:=pcT Tryz.func91 rfl (by kernel_rfl) (by kernel_rfl) (by kernel_rfl)
open Qq in
def Z6m:RCode :=
 .seq (r 0 [b 2 0,n 4 .nils,n 5 O]) (.seq (r 1 [L 9 4 2,m 10 1,w 11 (.call 89 [.t 9,.t 10,.c I]),m 8 11,x 12 0 8,x 13 1 8,m 6 12,m 7 13]) (.seq (.seq (r 2 [m 14 7,k 15 .neq 14 O]) (.cond (.t 15) (.seq (r 3 [m 16 7,n 4 .nils,m 5 16]) .ret) .skip)) (.seq (r 4 [m 17 6,m 18 1,c 19 91 [17,18],c 20 90 [19],m 4 20,n 5 O]) .ret)))
def Z6n:List RRes:=[.t 4,.t 5]
theorem Z6o:PCt Tryz.prog 34 Tryz.f34 Z6m Z6n:=pcT Tryz.func34 rfl (by kernel_rfl) (by kernel_rfl) (by kernel_rfl)
open Qq in
def Z6p:RCode :=
 .seq (r 0 [b 4 0,n 8 .nilp,n 9 O]) (.seq (r 1 [L 13 2 4,m 14 1,m 15 2,c 16 117 [13,14,15],m 12 16,x 17 0 12,x 18 1 12,m 10 17,m 11 18]) (.seq (.seq (r 2 [m 19 11,k 20 .neq 19 O]) (.cond (.t 20) (.seq (r 3 [m 21 11,n 8 .nilp,m 9 21]) .ret) .skip)) (.seq (.seq (r 4 [m 22 10,w 23 (.nilck (.t 22)),f 24 2 23,l 25 24,m 26 3,c 27 87 [25,26],t 28 27]) (.cond (.t 28) (.seq (r 5 [n 8 .nilp,n 9 (.int .i64 6)]) .ret) .skip)) (.seq (r 6 [m 29 10,m 8 29,n 9 O]) .ret))))
def Z6q:List RRes:=[.t 8,.t 9]
theorem Z6r:PCt Tryz.prog 111 Tryz.f111 Z6p Z6q:=pcT Tryz.func111 rfl (by kernel_rfl) (by kernel_rfl) (by kernel_rfl)
open Qq in
def Z6s:RCode :=
 .seq (r 0 [b 1 0,n 2 .nilf]) (.seq (r 1 [w 3 (.mkf (.func 160) [] [.t 1]),m 2 3]) .ret)
def Z6t:List RRes:=[.t 2]
theorem Z6u:PCt Tryz.prog 112 Tryz.f112 Z6s Z6t:=pcT Tryz.func112 rfl (by kernel_rfl) (by kernel_rfl) (by kernel_rfl)
open Qq in
def Z6v:RCode :=
 .seq (r 0 [l 4 1,w 5 (.nilck (.t 4)),f 6 3 5,l 7 6,e 8 7,w 9 (.vop (.sh true) [(.c I),(.t 8)]),n 10 O]) (.block 0 (.loop (.seq (r 1 [o 11 .lss 10 9]) (.seq (.cond (.t 11) .skip (.exit 0)) (.seq (.block 1 (.seq (r 2 [m 12 10,m 3 12]) (.seq (r 3 [m 13 0,m 14 3,l 15 1,w 16 (.nilck (.t 15)),f 17 3 16,l 18 17,m 19 3,c 20 161 [18,19],w 21 (.callv (.t 13) [.t 14,.t 20]),t 22 21]) (.cond (.t 22) .ret .skip)))) (r 4 [k 23 .add 10 I,m 10 23]))))))
open Qq in
def Z6w:RCode :=
 .seq (r 0 [n 4 .nils]) (.seq (r 1 [n 5 .nils]) (.seq (.seq (r 2 [m 8 0,e 9 8,n 10 O]) (.block 0 (.loop (.seq (r 3 [o 11 .lss 10 9]) (.seq (.cond (.t 11) .skip (.exit 0)) (.seq (.block 1 (.seq (r 4 [m 12 10,i 13 1 8 10,l 14 13,m 6 12,m 7 14]) (.seq (r 5 [m 15 1,m 16 6,w 17 (.vop (.sh false) [(.t 15),(.t 16)]),w 18 (.vop (.bits .and) [(.t 17),(.c I)]),k 19 .eql 18 I]) (.cond (.t 19) (r 6 [m 20 5,m 21 7,w 22 (.bsl false 1 1 [O] [(0,.t 21)]),w 23 (.app 1 8 (.t 20) (.t 22)),m 5 23]) .skip)))) (r 7 [k 24 .add 10 I,m 10 24]))))))) (.seq (r 8 [m 25 5,m 4 25]) .ret)))
def Z6x:List RRes:=[.t 4]
theorem Z6y:PCt Tryz.prog 161 Tryz.f161 Z6w Z6x:=pcT Tryz.func161 rfl (by kernel_rfl) (by kernel_rfl) (by kernel_rfl)
open Qq in
def Z6z:RCode :=
 .seq (r 0 [b 3 0,b 4 1,b 5 2,n 6 .nils,n 7 O]) (.seq (r 1 [L 14 2 3,l 15 5,l 16 4,w 17 (.call 111 [.t 14,.c .nils,.t 15,.t 16]),m 13 17,x 18 0 13,x 19 1 13,w 8 (.alloc [.nilp]),s 1 8 18,m 9 19]) (.seq (.seq (r 2 [m 20 9,k 21 .neq 20 O]) (.cond (.t 21) (.seq (r 3 [m 22 9,n 6 .nils,m 7 22]) .ret) .skip)) (.seq (r 4 [w 10 (.alloc [.nils])]) (.seq (.seq (r 5 [l 23 8,c 24 112 [23]]) (.block 0 (.rngf (.t 24) [25,26] (r 6 [m 12 26]) (.block 1 (R 7 [l 27 10,l 28 8,l 29 8,m 30 12,l 31 5,a [2,3,4] (w 32 (.call 114 [.t 29,.t 30,.c .nils,.t 31])),l 33 4,a [1,5,6,5] (c 34 113 [28,32,33]),a [7] (w 35 (.field false 4 1 (.t 34))),a [8] (w 36 (.bsl false 1 1 [O] [(0,.t 35)])),a [0,9,7] (w 37 (.app 1 8 (.t 27) (.t 36))),a [10,10,0,1,2,3,4,5,6,7,8,9,10] (s 1 10 37)]))))) (.seq (r 8 [l 38 10,c 39 115 [38]]) (.seq (r 9 [l 40 10,c 41 116 [40],m 6 41,n 7 O]) .ret))))))
def Z6A:List RRes:=[.t 6,.t 7]
theorem Z6B:PCt Tryz.prog 61 Tryz.f61 Z6z Z6A:=pcT Tryz.func61 rfl (by kernel_rfl) (by kernel_rfl) (by kernel_rfl)
open Qq in
def Z6C:RCode :=
 .seq (r 0 [b 2 0,n 4 (.bool false)]) (.seq (r 1 [f 5 0 2,L 6 1 5,c 7 54 [6],m 8 1,c 9 177 [7,8],m 4 9]) .ret)
def Z6D:List RRes:=[.t 4]
theorem Z6E:PCt Tryz.prog 144 Tryz.f144 Z6C Z6D:=pcT Tryz.func144 rfl (by kernel_rfl) (by kernel_rfl) (by kernel_rfl)
open Qq in
def Z6F:RCode :=
 .seq (r 0 [b 3 0,n 6 .nils,n 7 O]) (.seq (.seq (r 1 [L 14 2 3,m 15 2,w 16 (.call 143 [.t 14,.c .nils,.t 15]),m 8 16]) (.seq (r 2 [m 17 8,k 18 .neq 17 O]) (.cond (.t 18) (.seq (r 3 [m 19 8,n 6 .nils,m 7 19]) .ret) .skip))) (.seq (.seq (r 4 [L 20 2 3,m 21 1,c 22 144 [20,21],t 23 22]) (.cond (.t 23) (.seq (r 5 [n 6 .nils,n 7 (.int .i64 6)]) .ret) .skip)) (.seq (r 6 [w 9 (.alloc [.bool false,.bool false,.bool false,.bool false,.bool false,.bool false,.bool false,.bool false,.bool false])]) (.seq (r 7 [L 24 2 3,c 25 62 [24],m 10 25]) (.seq (.seq (r 8 [n 11 O]) (.block 0 (.loop (.seq (.seq (r 9 [m 26 11,m 27 10,e 28 27,o 29 .lss 26 28]) (.cond (.t 29) .skip (.exit 0))) (.seq (.block 1 (R 11 [L 32 2 3,L 33 2 3,m 34 10,m 35 11,a [2,3] (i 36 1 34 35),a [4] (l 37 36),m 38 2,a [1,5,6] (w 39 (.call 146 [.t 33,.t 37,.c .nils,.t 38])),m 40 1,a [0,7,8,7] (c 41 145 [32,39,40]),a [9,0,1,2,3,4,5,6,7,8,9] (w 42 (.vop (.aaddr 9 1) [(.t 9),(.t 41)])),a [10,9,0,1,2,3,4,5,6,7,8,9] (z (.store 1 (.t 42) (.c (.bool true))))])) (r 10 [m 30 11,k 31 .add 30 I,m 11 31])))))) (.seq (r 12 [n 12 .nils]) (.seq (.seq (r 13 [n 13 I]) (.block 2 (.loop (.seq (.seq (r 14 [m 43 13,k 44 .lss 43 (.int .i64 9)]) (.cond (.t 44) .skip (.exit 2))) (.seq (.block 3 (.seq (r 16 [m 47 13,w 48 (.vop (.aaddr 9 1) [(.t 9),(.t 47)]),l 49 48]) (.cond (.t 49) (r 17 [m 50 12,m 51 13,w 52 (.bsl false 1 1 [O] [(0,.t 51)]),w 53 (.app 1 8 (.t 50) (.t 52)),m 12 53]) .skip))) (r 15 [m 45 13,k 46 .add 45 I,m 13 46])))))) (.seq (r 18 [m 54 12,m 6 54,n 7 O]) .ret))))))))
def Z6G:List RRes:=[.t 6,.t 7]
theorem Z6H:PCt Tryz.prog 88 Tryz.f88 Z6F Z6G:=pcT Tryz.func88 rfl (by kernel_rfl) (by kernel_rfl) (by kernel_rfl)
open Qq in
def Z6I:RCode :=
 .seq (r 0 [b 2 0,b 3 1,n 4 .nils]) (.seq (r 1 [f 9 1 3,l 10 9,w 11 (.bsl true 1 1 [O] [(0,.t 10)]),m 5 11]) (.seq (.seq (r 2 [n 6 O]) (.block 0 (.loop (.seq (.seq (r 3 [m 12 6,f 13 1 2,l 14 13,e 15 14,o 16 .lss 12 15]) (.cond (.t 16) .skip (.exit 0))) (.seq (.block 1 (.seq (.seq (r 5 [f 19 1 2,l 20 19,m 21 6,i 22 10 20 21,f 23 5 22,l 24 23,m 7 24]) (.seq (r 6 [m 25 7,f 26 1 3,l 27 26,f 28 2 3,l 29 28,c 30 147 [25,27,29]]) (.cond (.t 30) (r 7 [m 31 5,m 32 7,w 33 (.bsl false 1 1 [O] [(0,.t 32)]),w 34 (.app 1 8 (.t 31) (.t 33)),m 5 34]) .skip))) (.seq (r 8 [f 35 1 2,l 36 35,m 37 6,i 38 10 36 37,f 39 6 38,l 40 39,m 8 40]) (.seq (r 9 [m 41 8,f 42 2 3,l 43 42,o 44 .lss 41 43,m 45 44,g 45 true (m 46 8),g 45 true (k 47 .add 46 I),g 45 true (f 48 1 3),g 45 true (l 49 48),g 45 true (o 50 .geq 47 49),v 51 45 50]) (.cond (.t 51) (r 10 [m 52 5,m 53 8,k 54 .add 53 I,w 55 (.bsl false 1 1 [O] [(0,.t 54)]),w 56 (.app 1 8 (.t 52) (.t 55)),m 5 56]) .skip))))) (r 4 [m 17 6,k 18 .add 17 I,m 6 18])))))) (.seq (r 11 [m 57 5,m 4 57]) .ret)))
def Z6J:List RRes:=[.t 4]
theorem Z6K:PCt Tryz.prog 139 Tryz.f139 Z6I Z6J:=pcT Tryz.func139 rfl (by kernel_rfl) (by kernel_rfl) (by kernel_rfl)
open Qq in
def Z6L:RCode :=
 .seq (r 0 [b 3 0,n 6 .nils]) (.seq (r 1 [w 7 (.alloc [.bool false,.bool false,.bool false,.bool false,.bool false,.bool false,.bool false,.bool false,.bool false])]) (.seq (R 2 [f 16 2 3,a [0] (l 17 16),L 18 4 3,m 19 1,a [2,3] (c 20 83 [18,19]),a [1,4] (i 21 4 17 20),a [5] (L 22 4 21),w 8 (.alloc [O,O,O,.nils]),a [7,6,4,0,1,2,3,4,5,6,7] (s 4 8 22)]) (.seq (.seq (r 3 [f 23 3 8,l 24 23,m 25 2,c 26 104 [24,25]]) (.cond (.t 26) (.seq (r 4 [f 27 0 3,L 28 2 27,L 29 4 8,c 30 139 [28,29],m 9 30]) (.seq (r 5 [n 10 O]) (.block 0 (.loop (.seq (.seq (r 6 [m 31 10,m 32 9,e 33 32,o 34 .lss 31 33]) (.cond (.t 34) .skip (.exit 0))) (.seq (.block 1 (.seq (R 8 [f 38 0 3,a [0] (L 39 2 38),m 40 2,m 41 9,m 42 10,a [3,4] (i 43 1 41 42),a [5] (l 44 43),a [1,2,6] (c 45 88 [39,40,44]),a [7] (m 37 45),a [8] (x 46 0 37),a [8] (x 47 1 37),a [9,7,0,1,2,3,4,5,6,7,8,9] (m 11 46),a [10,11,0,1,2,3,4,5,6,7,8,9,10,11] (m 12 47)]) (.seq (r 9 [n 13 O]) (.block 2 (.loop (.seq (.seq (r 10 [m 48 13,m 49 11,e 50 49,o 51 .lss 48 50]) (.cond (.t 51) .skip (.exit 2))) (.seq (.block 3 (r 12 [m 54 11,m 55 13,i 56 1 54 55,l 57 56,w 58 (.vop (.aaddr 9 1) [(.t 7),(.t 57)]),z (.store 1 (.t 58) (.c (.bool true)))])) (r 11 [m 52 13,k 53 .add 52 I,m 13 53])))))))) (r 7 [m 35 10,k 36 .add 35 I,m 10 36]))))))) .skip)) (.seq (r 13 [n 14 .nils]) (.seq (.seq (r 14 [n 15 I]) (.block 4 (.loop (.seq (.seq (r 15 [m 59 15,k 60 .lss 59 (.int .i64 9)]) (.cond (.t 60) .skip (.exit 4))) (.seq (.block 5 (.seq (r 17 [m 63 15,w 64 (.vop (.aaddr 9 1) [(.t 7),(.t 63)]),l 65 64]) (.cond (.t 65) (r 18 [m 66 14,m 67 15,w 68 (.bsl false 1 1 [O] [(0,.t 67)]),w 69 (.app 1 8 (.t 66) (.t 68)),m 14 69]) .skip))) (r 16 [m 61 15,k 62 .add 61 I,m 15 62])))))) (.seq (r 19 [m 70 14,m 6 70]) .ret))))))
def Z6M:List RRes:=[.t 6]
theorem Z6N:PCt Tryz.prog 81 Tryz.f81 Z6L Z6M:=pcT Tryz.func81 rfl (by kernel_rfl) (by kernel_rfl) (by kernel_rfl)
open Qq in
def Z6O:RCode :=
 .seq (r 0 [n 6 .nils]) (.seq (R 1 [m 18 0,a [0] (w 19 (.nilck (.t 18))),a [1] (f 20 0 19),a [2] (f 21 2 20),a [3] (l 22 21),m 23 0,m 24 1,a [5,6] (c 25 82 [23,24]),a [4,7] (i 26 4 22 25),a [8] (L 27 4 26),w 7 (.alloc [O,O,O,.nils]),a [10,9,7,0,1,2,3,4,5,6,7,8,9,10] (s 4 7 27)]) (.seq (.seq (r 2 [f 28 3 7,l 29 28,m 30 2,c 31 87 [29,30],t 32 31]) (.cond (.t 32) (.seq (r 3 [n 6 .nils]) .ret) .skip)) (.seq (r 4 [f 33 1 7,l 34 33,w 35 (.bsl true 1 1 [O] [(0,.t 34)]),m 8 35]) (.seq (.seq (r 5 [m 36 0,w 37 (.nilck (.t 36)),f 38 0 37,f 39 0 38,f 40 1 39,l 41 40,e 42 41,n 43 O]) (.block 0 (.loop (.seq (r 6 [o 44 .lss 43 42]) (.seq (.cond (.t 44) .skip (.exit 0)) (.seq (.block 1 (.seq (r 7 [i 45 10 41 43,L 46 10 45,w 10 (.alloc [O,O,.int .u8 0,O,O,O,O,O,.bool false,.int .u8 0]),s 10 10 46]) (.seq (r 8 [f 47 5 10,l 48 47,f 49 6 10,l 50 49,k 51 .add 50 I,w 52 (.bsl false 1 2 [O,O] [(0,.t 48),(1,.t 51)]),e 53 52,n 54 O]) (.block 2 (.loop (.seq (r 9 [o 55 .lss 54 53]) (.seq (.cond (.t 55) .skip (.exit 2)) (.seq (.block 3 (.seq (r 10 [i 56 1 52 54,l 57 56,m 12 57]) (.seq (r 11 [f 58 1 7,l 59 58,f 60 2 7,l 61 60,m 62 12,w 63 (.bsl false 1 1 [O] [(0,.t 62)]),c 64 138 [59,61,63]]) (.cond (.t 64) (r 12 [m 65 8,m 66 12,w 67 (.bsl false 1 1 [O] [(0,.t 66)]),w 68 (.app 1 8 (.t 65) (.t 67)),m 8 68]) .skip)))) (r 13 [k 69 .add 54 I,m 54 69]))))))))) (r 14 [k 70 .add 43 I,m 43 70]))))))) (.seq (r 15 [n 13 .nils]) (.seq (.seq (r 16 [m 71 8,e 72 71,n 73 O]) (.block 4 (.loop (.seq (r 17 [o 74 .lss 73 72]) (.seq (.cond (.t 74) .skip (.exit 4)) (.seq (.block 5 (.seq (r 18 [i 75 1 71 73,l 76 75,m 15 76]) (.seq (r 19 [m 78 0,w 79 (.nilck (.t 78)),f 80 0 79,f 81 0 80,L 82 2 81,m 83 2,m 84 15,c 85 61 [82,83,84],m 77 85,x 86 0 77,x 87 1 77,m 16 86,m 17 87]) (r 20 [m 88 13,m 89 16,w 90 (.app 1 8 (.t 88) (.t 89)),m 13 90])))) (r 21 [k 91 .add 73 I,m 73 91]))))))) (.seq (r 22 [m 92 13,c 93 115 [92]]) (.seq (r 23 [m 94 13,c 95 116 [94],m 6 95]) .ret))))))))
def Z6P:List RRes:=[.t 6]
theorem Z6Q:PCt Tryz.prog 80 Tryz.f80 Z6O Z6P:=pcT Tryz.func80 rfl (by kernel_rfl) (by kernel_rfl) (by kernel_rfl)
open Qq in
def Z6R:RCode :=
 .seq (r 0 [w 6 (.alloc [O,O,.int .u8 0,O,O,O,O,O,.bool false,.int .u8 0])]) (.seq (.seq (r 1 [m 9 0,w 10 (.nilck (.t 9)),f 11 0 10,f 12 1 11,l 13 12,e 14 13,k 15 .sub 14 I,m 7 15]) (.block 0 (.loop (.seq (.seq (r 2 [m 16 7,k 17 .geq 16 O]) (.cond (.t 17) .skip (.exit 0))) (.seq (.block 1 (.seq (r 4 [m 20 0,w 21 (.nilck (.t 20)),f 22 0 21,f 23 1 22,l 24 23,m 25 7,i 26 10 24 25,L 27 10 26,w 8 (.alloc [O,O,.int .u8 0,O,O,O,O,O,.bool false,.int .u8 0]),s 10 8 27]) (.seq (r 5 [f 28 3 8,l 29 28,m 30 2,o 31 .eql 29 30,m 32 31,g 32 true (m 33 1),g 32 true (m 34 7),g 32 true (w 35 (.callv (.t 33) [.t 34])),v 36 32 35]) (.cond (.t 36) (.seq (r 6 [L 37 10 8,s 10 6 37]) .ret) .skip)))) (r 3 [m 18 7,k 19 .sub 18 I,m 7 19])))))) (.seq (r 7 [w 38 (.build [O,O,.int .u8 0,O,O,O,O,O,.bool false,.int .u8 0] [(4,1,.c I)]),s 10 6 38]) .ret))
def Z6S:List RRes:=[.c 6 true 10]
theorem Z6T {G:Nat->Option (List AV)} {objs objs':List (Nat×AObj)} {args:List AV} {v:AV} (hn:args.length<=Tryz.f113.ntmps) (h:∀ R:Run,R.G=G->R.Top->AR Tryz.prog R Z6R ⟨iniT 0 args,objs⟩ (FinB Z6S v objs')):PB Tryz.prog G 113 objs args v objs' :=
 PB_of Tryz.func113 rfl (by kernel_rfl) (rc:=Z6R) (by kernel_rfl) (rs:=Z6S) (by kernel_rfl) hn (λR _ hG hr=>h R hG hr)
open Qq in
def Z6U:RCode :=
 .seq (r 0 [b 3 0,n 6 O]) (.seq (.seq (r 1 [L 8 2 3,m 9 1,m 10 2,c 11 178 [8,9,10],m 7 11]) (.seq (r 2 [m 12 7,k 13 .geq 12 O]) (.cond (.t 13) (.seq (r 3 [f 14 1 3,l 15 14,m 16 7,i 17 10 15 16,f 18 4 17,l 19 18,m 6 19]) .ret) .skip))) (.seq (r 4 [n 6 I]) .ret))
def Z6V:List RRes:=[.t 6]
theorem Z6W:PCt Tryz.prog 145 Tryz.f145 Z6U Z6V:=pcT Tryz.func145 rfl (by kernel_rfl) (by kernel_rfl) (by kernel_rfl)
open Qq in
def Z6X:RCode :=
 .seq (r 0 [b 3 0,n 6 O]) (.seq (r 1 [n 7 (.int .i64 (-1))]) (.seq (.seq (r 2 [n 8 O]) (.block 0 (.loop (.seq (.seq (r 3 [m 9 8,m 10 1,e 11 10,o 12 .lss 9 11]) (.cond (.t 12) .skip (.exit 0))) (.seq (.block 1 (.seq (r 5 [m 15 1,m 16 8,i 17 1 15 16,l 18 17,m 19 18,g 19 true (f 20 1 3),g 19 true (l 21 20),g 19 true (m 22 8),g 19 true (i 23 10 21 22),g 19 true (f 24 3 23),g 19 true (l 25 24),g 19 true (m 26 2),g 19 true (o 27 .eql 25 26),v 28 19 27]) (.cond (.t 28) (r 6 [m 29 8,m 7 29]) .skip))) (r 4 [m 13 8,k 14 .add 13 I,m 8 14])))))) (.seq (r 7 [m 30 7,m 6 30]) .ret)))
def Z6Y:List RRes:=[.t 6]
theorem Z6Z:PCt Tryz.prog 178 Tryz.f178 Z6X Z6Y:=pcT Tryz.func178 rfl (by kernel_rfl) (by kernel_rfl) (by kernel_rfl)
open Qq in
def Z70:RCode :=
 .seq (r 0 [n 6 (.bool false)]) (.seq (r 1 [m 7 0,m 8 1,o 9 .geq 7 8,m 10 9,g 10 true (m 11 0),g 10 true (m 12 2),g 10 true (o 13 .leq 11 12),v 14 10 13,m 6 14]) .ret)
def Z71:List RRes:=[.t 6]
theorem Z72:PCt Tryz.prog 176 Tryz.f176 Z70 Z71:=pcT Tryz.func176 rfl (by kernel_rfl) (by kernel_rfl) (by kernel_rfl)
open Qq in
def Z73:RCode :=
 .seq (r 0 [b 2 0,n 4 (.bool false)]) (.seq (r 1 [f 12 1 2,l 13 12,m 14 1,i 15 10 13 14,L 16 10 15,w 5 (.alloc [O,O,.int .u8 0,O,O,O,O,O,.bool false,.int .u8 0]),s 10 5 16]) (.seq (.seq (r 2 [f 17 0 5,l 18 17,w 19 (.call 176 [.t 18,.c I,.c (.int .i64 9999)]),t 20 19,m 21 20,g 21 false (f 22 1 5),g 21 false (l 23 22),g 21 false (w 24 (.call 176 [.t 23,.c O,.c (.int .i64 14610)])),g 21 false (t 25 24),u 26 21 25,m 27 26,g 27 false (f 28 2 5),g 27 false (l 29 28),g 27 false (k 30 .gtr 29 (.int .u8 2)),u 31 27 30,m 32 31,g 32 false (f 33 5 5),g 32 false (l 34 33),g 32 false (f 35 6 5),g 32 false (l 36 35),g 32 false (w 37 (.call 176 [.t 34,.c I,.t 36])),g 32 false (t 38 37),u 39 32 38,m 40 39,g 40 false (f 41 6 5),g 40 false (l 42 41),g 40 false (k 43 .gtr 42 (.int .i64 999)),u 44 40 43,m 45 44,g 45 false (f 46 9 5),g 45 false (l 47 46),g 45 false (k 48 .gtr 47 (.int .u8 3)),u 49 45 48]) (.cond (.t 49) (.seq (r 3 [n 4 (.bool false)]) .ret) .skip)) (.seq (.seq (r 4 [f 50 3 5,l 51 50,k 52 .eql 51 O,m 53 52,g 53 true (f 54 4 5),g 53 true (l 55 54),g 53 true (k 56 .eql 55 O),v 57 53 56]) (.cond (.t 57) (.seq (r 5 [f 58 7 5,l 59 58,k 60 .eql 59 O]) (.cond (.t 60) (.seq (r 6 [n 4 (.bool false)]) .ret) .skip)) (.seq (r 7 [f 62 0 2,L 63 1 62,f 64 3 5,l 65 64,f 66 4 5,l 67 66,w 68 (.build [O,O] [(0,1,.t 65),(1,1,.t 67)]),c 69 172 [63,68],m 61 69,x 70 0 61,x 71 1 61,w 6 (.alloc [O,O,.int .u8 0,.nils,.nils]),s 5 6 70,m 7 71]) (.seq (r 8 [m 72 7,t 73 72]) (.cond (.t 73) (.seq (r 9 [n 4 (.bool false)]) .ret) .skip))))) (.seq (.seq (r 10 [f 74 4 5,l 75 74,k 76 .lss 75 (.int .i64 2),m 77 76,g 77 true (f 78 8 5),g 77 true (l 79 78),g 77 true (m 80 79),g 80 false (f 81 9 5),g 80 false (l 82 81),g 80 false (k 83 .gtr 82 (.int .u8 0)),g 77 true (u 84 80 83),v 85 77 84]) (.cond (.t 85) (.seq (r 11 [n 4 (.bool false)]) .ret) .skip)) (.seq (r 12 [f 86 7 5,l 87 86,k 88 .eql 87 O,m 8 88]) (.seq (.seq (r 13 [n 9 O]) (.block 0 (.loop (.seq (.seq (r 14 [m 89 9,m 90 1,o 91 .lss 89 90]) (.cond (.t 91) .skip (.exit 0))) (.seq (.block 1 (.seq (r 16 [f 94 1 2,l 95 94,m 96 9,i 97 10 95 96,L 98 10 97,w 10 (.alloc [O,O,.int .u8 0,O,O,O,O,O,.bool false,.int .u8 0]),s 10 10 98]) (.seq (.seq (r 17 [f 99 0 10,l 100 99,f 101 0 5,l 102 101,o 103 .eql 100 102]) (.cond (.t 103) (.seq (r 18 [n 4 (.bool false)]) .ret) .skip)) (r 19 [m 104 8,m 105 104,g 105 false (f 106 0 10),g 105 false (l 107 106),g 105 false (f 108 7 5),g 105 false (l 109 108),g 105 false (o 110 .eql 107 109),u 111 105 110,m 8 111])))) (r 15 [m 92 9,k 93 .add 92 I,m 9 93])))))) (.seq (.seq (r 20 [m 112 1,k 113 .eql 112 O]) (.cond (.t 113) (.seq (r 21 [m 114 8,m 4 114]) .ret) .skip)) (.seq (r 22 [f 115 1 2,l 116 115,m 117 1,k 118 .sub 117 I,i 119 10 116 118,L 120 10 119,w 11 (.alloc [O,O,.int .u8 0,O,O,O,O,O,.bool false,.int .u8 0]),s 10 11 120]) (.seq (r 23 [m 121 8,m 122 121,g 122 true (f 123 1 11),g 122 true (l 124 123),g 122 true (f 125 1 5),g 122 true (l 126 125),g 122 true (o 127 .lss 124 126),g 122 true (m 128 127),g 128 false (f 129 1 11),g 128 false (l 130 129),g 128 false (f 131 1 5),g 128 false (l 132 131),g 128 false (o 133 .eql 130 132),g 128 false (m 134 133),g 134 true (f 135 0 11),g 134 true (l 136 135),g 134 true (f 137 0 5),g 134 true (l 138 137),g 134 true (o 139 .lss 136 138),g 128 false (v 140 134 139),g 122 true (u 141 128 140),v 142 122 141,m 4 142]) .ret)))))))))
def Z74:List RRes:=[.t 4]
theorem Z75:PCt Tryz.prog 171 Tryz.f171 Z73 Z74:=pcT Tryz.func171 rfl (by kernel_rfl) (by kernel_rfl) (by kernel_rfl)
open Qq in
def Z76:RCode :=
 .seq (r 0 [b 1 0,n 2 (.bool false)]) (.seq (.seq (r 1 [f 5 1 1,l 6 5,e 7 6,k 8 .gtr 7 (.int .i64 12)]) (.cond (.t 8) (.seq (r 2 [n 2 (.bool false)]) .ret) .skip)) (.seq (r 3 [n 3 O]) (.seq (.seq (r 4 [n 4 O]) (.block 0 (.loop (.seq (.seq (r 5 [m 9 4,f 10 1 1,l 11 10,e 12 11,o 13 .lss 9 12]) (.cond (.t 13) .skip (.exit 0))) (.seq (.block 1 (.seq (.seq (r 7 [L 16 2 1,m 17 4,c 18 171 [16,17],t 19 18]) (.cond (.t 19) (.seq (r 8 [n 2 (.bool false)]) .ret) .skip)) (.seq (r 9 [f 20 1 1,l 21 20,m 22 4,i 23 10 21 22,f 24 2 23,l 25 24,k 26 .eql 25 (.int .u8 1)]) (.cond (.t 26) (r 10 [m 27 3,k 28 .add 27 I,m 3 28]) .skip)))) (r 6 [m 14 4,k 15 .add 14 I,m 4 15])))))) (.seq (r 11 [m 29 3,k 30 .leq 29 (.int .i64 5),m 2 30]) .ret))))
def Z77:List RRes:=[.t 2]
theorem Z78:PCt Tryz.prog 134 Tryz.f134 Z76 Z77:=pcT Tryz.func134 rfl (by kernel_rfl) (by kernel_rfl) (by kernel_rfl)
open Qq in
def Z79:RCode :=
 .seq (r 0 [b 1 0,n 2 O]) (.seq (.seq (r 1 [f 4 0 1,L 5 1 4,c 6 133 [5],m 3 6]) (.seq (r 2 [m 7 3,k 8 .neq 7 O]) (.cond (.t 8) (.seq (r 3 [m 9 3,m 2 9]) .ret) .skip))) (.seq (.seq (r 4 [L 10 2 1,c 11 134 [10],t 12 11]) (.cond (.t 12) (.seq (r 5 [n 2 (.int .i64 30)]) .ret) .skip)) (.seq (r 6 [n 2 O]) .ret)))
def Z7a:List RRes:=[.t 2]
theorem Z7b:PCt Tryz.prog 77 Tryz.f77 Z79 Z7a:=pcT Tryz.func77 rfl (by kernel_rfl) (by kernel_rfl) (by kernel_rfl)
open Qq in
def Z7c:RCode :=
 .seq (r 0 [b 1 0,n 2 .nils]) (.seq (r 1 [n 3 .nils]) (.seq (.seq (r 2 [n 4 O]) (.block 0 (.loop (.seq (.seq (r 3 [m 7 4,f 8 1 1,l 9 8,e 10 9,o 11 .lss 7 10]) (.cond (.t 11) .skip (.exit 0))) (.seq (.block 1 (.seq (.seq (r 5 [f 14 1 1,l 15 14,m 16 4,i 17 10 15 16,f 18 2 17,l 19 18,k 20 .neq 19 (.int .u8 1)]) (.cond (.t 20) (.exit 1) .skip)) (.seq (r 6 [m 21 3,m 22 4,w 23 (.bsl false 1 1 [O] [(0,.t 22)]),w 24 (.app 1 8 (.t 21) (.t 23)),m 3 24]) (.seq (r 7 [m 25 3,e 26 25,k 27 .sub 26 I,m 5 27]) (.block 2 (.loop (.seq (.seq (R 8 [m 28 5,a [0] (k 29 .gtr 28 O),a [1] (m 30 29),a [2] (g 30 true (f 31 1 1)),a [3,2] (g 30 true (l 32 31)),a [2] (g 30 true (m 33 3)),a [2] (g 30 true (m 34 5)),a [6,2] (g 30 true (k 35 .sub 34 I)),a [5,7,2] (g 30 true (i 36 1 33 35)),a [8,2] (g 30 true (l 37 36)),a [4,9,2] (g 30 true (i 38 10 32 37)),a [10,2] (g 30 true (f 39 0 38)),a [11,2] (g 30 true (l 40 39)),a [2] (g 30 true (f 41 1 1)),a [13,2] (g 30 true (l 42 41)),a [2] (g 30 true (m 43 3)),a [2] (g 30 true (m 44 5)),a [15,16,2] (g 30 true (i 45 1 43 44)),a [17,2] (g 30 true (l 46 45)),a [14,18,2] (g 30 true (i 47 10 42 46)),a [19,2] (g 30 true (f 48 0 47)),a [20,2] (g 30 true (l 49 48)),a [12,21,2] (g 30 true (o 50 .gtr 40 49)),a [2,22] (v 51 30 50)]) (.cond (.t 51) .skip (.exit 2))) (.seq (.block 3 (.seq (r 10 [m 54 3,m 55 5,i 56 1 54 55,l 57 56,m 6 57]) (.seq (r 11 [m 58 3,m 59 5,m 60 3,m 61 5,k 62 .sub 61 I,i 63 1 60 62,l 64 63,i 65 1 58 59,s 1 65 64]) (r 12 [m 66 3,m 67 5,k 68 .sub 67 I,m 69 6,i 70 1 66 68,s 1 70 69])))) (r 9 [m 52 5,k 53 .sub 52 I,m 5 53]))))))))) (r 4 [m 12 4,k 13 .add 12 I,m 4 13])))))) (.seq (r 13 [m 71 3,m 2 71]) .ret)))
def Z7d:List RRes:=[.t 2]
theorem Z7e:PCt Tryz.prog 65 Tryz.f65 Z7c Z7d:=pcT Tryz.func65 rfl (by kernel_rfl) (by kernel_rfl) (by kernel_rfl)
open Qq in
def Z7f:RCode :=
 .seq (r 0 [n 4 (.bool false)]) (.seq (.seq (r 1 [n 5 O]) (.block 0 (.loop (.seq (.seq (r 2 [m 6 5,m 7 0,e 8 7,o 9 .lss 6 8]) (.cond (.t 9) .skip (.exit 0))) (.seq (.block 1 (.seq (r 4 [m 12 0,m 13 5,i 14 1 12 13,l 15 14,m 16 1,o 17 .eql 15 16]) (.cond (.t 17) (.seq (r 5 [n 4 (.bool true)]) .ret) .skip))) (r 3 [m 10 5,k 11 .add 10 I,m 5 11])))))) (.seq (r 6 [n 4 (.bool false)]) .ret))
def Z7g:List RRes:=[.t 4]
theorem Z7h:PCt Tryz.prog 177 Tryz.f177 Z7f Z7g:=pcT Tryz.func177 rfl (by kernel_rfl) (by kernel_rfl) (by kernel_rfl)
open Qq in
def Z7i:RCode :=
 .seq (r 0 [b 2 0,n 4 (.bool false)]) (.seq (r 1 [n 5 .nils]) (.seq (r 2 [L 9 2 2,c 10 65 [9],m 6 10]) (.seq (.seq (r 3 [n 7 O]) (.block 0 (.loop (.seq (.seq (r 4 [m 11 7,m 12 6,e 13 12,o 14 .lss 11 13]) (.cond (.t 14) .skip (.exit 0))) (.seq (.block 1 (R 6 [m 17 5,f 18 1 2,a [1] (l 19 18),m 20 6,m 21 7,a [3,4] (i 22 1 20 21),a [5] (l 23 22),a [2,6] (i 24 10 19 23),a [7] (f 25 0 24),a [8] (l 26 25),a [9] (w 27 (.bsl false 1 1 [O] [(0,.t 26)])),a [0,10] (w 28 (.app 1 8 (.t 17) (.t 27))),a [11,11,0,1,2,3,4,5,6,7,8,9,10,11] (m 5 28)])) (r 5 [m 15 7,k 16 .add 15 I,m 7 16])))))) (.seq (.seq (r 7 [n 8 O]) (.block 2 (.loop (.seq (.seq (r 8 [m 29 8,m 30 1,e 31 30,o 32 .lss 29 31]) (.cond (.t 32) .skip (.exit 2))) (.seq (.block 3 (.seq (R 10 [m 35 5,m 36 1,m 37 8,a [1,2] (i 38 1 36 37),a [3] (l 39 38),a [0,4] (c 40 177 [35,39]),a [5] (t 41 40),a [6,5] (m 42 41),a [7] (g 42 false (m 43 8)),a [8,7] (g 42 false (k 44 .gtr 43 O)),a [9,7,7] (g 42 false (m 45 44)),a [10] (g 45 true (m 46 1)),a [10] (g 45 true (m 47 8)),a [11,12,10] (g 45 true (i 48 1 46 47)),a [13,10] (g 45 true (l 49 48)),a [10] (g 45 true (m 50 1)),a [10] (g 45 true (m 51 8)),a [16,10] (g 45 true (k 52 .sub 51 I)),a [15,17,10] (g 45 true (i 53 1 50 52)),a [18,10] (g 45 true (l 54 53)),a [14,19,10] (g 45 true (o 55 .leq 49 54)),a [10,20,7] (g 42 false (v 56 45 55)),a [7,21] (u 57 42 56)]) (.cond (.t 57) (.seq (r 11 [n 4 (.bool false)]) .ret) .skip))) (r 9 [m 33 8,k 34 .add 33 I,m 8 34])))))) (.seq (r 12 [n 4 (.bool true)]) .ret)))))
def Z7j:List RRes:=[.t 4]
theorem Z7k:PCt Tryz.prog 175 Tryz.f175 Z7i Z7j:=pcT Tryz.func175 rfl (by kernel_rfl) (by kernel_rfl) (by kernel_rfl)
open Qq in
def Z7l:RCode :=
 .seq (r 0 [b 4 0,n 8 .nils]) (.seq (r 1 [f 14 1 4,l 15 14,e 16 15,w 17 (.mksl 1 1 [.bool false] (.t 16)),m 9 17]) (.seq (.seq (r 2 [f 18 1 4,l 19 18,e 20 19,k 21 .sub 20 I,m 10 21]) (.block 0 (.loop (.seq (.seq (r 3 [m 22 10,k 23 .geq 22 O]) (.cond (.t 23) .skip (.exit 0))) (.seq (.block 1 (.seq (r 5 [f 26 1 4,l 27 26,m 28 10,i 29 10 27 28,L 30 10 29,w 11 (.alloc [O,O,.int .u8 0,O,O,O,O,O,.bool false,.int .u8 0]),s 10 11 30]) (.seq (r 6 [f 31 2 11,l 32 31,k 33 .eql 32 (.int .u8 2),m 34 33,g 34 false (m 35 1),g 34 false (f 36 0 11),g 34 false (l 37 36),g 34 false (c 38 177 [35,37]),u 39 34 38,m 40 39,g 40 true (m 41 2),g 40 true (f 42 0 11),g 40 true (l 43 42),g 40 true (c 44 177 [41,43]),g 40 true (t 45 44),v 46 40 45,m 47 46,g 47 true (m 48 3),g 47 true (f 49 5 11),g 47 true (l 50 49),g 47 true (f 51 6 11),g 47 true (l 52 51),g 47 true (c 53 176 [48,50,52]),v 54 47 53,m 12 54]) (.seq (.seq (r 7 [m 55 10,k 56 .add 55 I,m 13 56]) (.block 2 (.loop (.seq (.seq (r 8 [m 57 13,f 58 1 4,l 59 58,e 60 59,o 61 .lss 57 60]) (.cond (.t 61) .skip (.exit 2))) (.seq (.block 3 (R 10 [m 64 12,a [0] (m 65 64),a [1] (g 65 true (m 66 9)),a [1] (g 65 true (m 67 13)),a [2,3,1] (g 65 true (i 68 1 66 67)),a [4,1] (g 65 true (l 69 68)),a [5,1,1] (g 65 true (m 70 69)),a [6] (g 70 true (f 71 1 4)),a [7,6] (g 70 true (l 72 71)),a [6] (g 70 true (m 73 13)),a [8,9,6] (g 70 true (i 74 10 72 73)),a [10,6] (g 70 true (f 75 7 74)),a [11,6] (g 70 true (l 76 75)),a [6] (g 70 true (f 77 0 11)),a [13,6] (g 70 true (l 78 77)),a [12,14,6] (g 70 true (o 79 .eql 76 78)),a [6,15,1] (g 65 true (v 80 70 79)),a [16,1] (g 65 true (t 81 80)),a [1,17] (v 82 65 81),a [18,6,0,1,2,3,4,5,6,7,8,9,10,11,12,13,14,15,16,17,18] (m 12 82)])) (r 9 [m 62 13,k 63 .add 62 I,m 13 63])))))) (r 11 [m 83 9,m 84 10,m 85 12,i 86 1 83 84,s 1 86 85]))))) (r 4 [m 24 10,k 25 .sub 24 I,m 10 25])))))) (.seq (r 12 [m 87 9,m 8 87]) .ret)))
def Z7m:List RRes:=[.t 8]
theorem Z7n:PCt Tryz.prog 146 Tryz.f146 Z7l Z7m:=pcT Tryz.func146 rfl (by kernel_rfl) (by kernel_rfl) (by kernel_rfl)
open Qq in
def Z7o:RCode :=
 .seq (r 0 [b 3 0,n 6 O]) (.seq (.seq (r 1 [L 8 2 3,c 9 77 [8],m 7 9]) (.seq (r 2 [m 10 7,k 11 .neq 10 O]) (.cond (.t 11) (.seq (r 3 [m 12 7,m 6 12]) .ret) .skip))) (.seq (.seq (r 4 [L 13 2 3,m 14 1,c 15 175 [13,14],t 16 15]) (.cond (.t 16) (.seq (r 5 [n 6 (.int .i64 31)]) .ret) .skip)) (.seq (.seq (r 6 [m 17 2,w 18 (.call 176 [.t 17,.c I,.c (.int .i64 999)]),t 19 18]) (.cond (.t 19) (.seq (r 7 [n 6 (.int .i64 2)]) .ret) .skip)) (.seq (r 8 [n 6 O]) .ret))))
def Z7p:List RRes:=[.t 6]
theorem Z7q:PCt Tryz.prog 143 Tryz.f143 Z7o Z7p:=pcT Tryz.func143 rfl (by kernel_rfl) (by kernel_rfl) (by kernel_rfl)
open Qq in
def Z7r:RCode :=
 .seq (r 0 [b 2 0,b 3 1,n 4 (.bool false)]) (.seq (.seq (r 1 [f 6 0 2,L 7 1 6,f 8 0 3,L 9 1 8,c 10 137 [7,9],t 11 10,m 12 11,g 12 false (f 13 1 2),g 12 false (l 14 13),g 12 false (e 15 14),g 12 false (f 16 1 3),g 12 false (l 17 16),g 12 false (e 18 17),g 12 false (o 19 .neq 15 18),u 20 12 19]) (.cond (.t 20) (.seq (r 2 [n 4 (.bool false)]) .ret) .skip)) (.seq (.seq (r 3 [n 5 O]) (.block 0 (.loop (.seq (.seq (r 4 [m 21 5,f 22 1 2,l 23 22,e 24 23,o 25 .lss 21 24]) (.cond (.t 25) .skip (.exit 0))) (.seq (.block 1 (.seq (R 6 [f 28 1 2,a [0] (l 29 28),m 30 5,a [1,2] (i 31 10 29 30),a [3] (L 32 10 31),f 33 1 3,a [5] (l 34 33),m 35 5,a [6,7] (i 36 10 34 35),a [8] (L 37 10 36),a [4,9] (w 38 (.eqs true [.i,.i,.i,.i,.i,.i,.i,.i,.b,.i] (.t 32) (.t 37)))]) (.cond (.t 38) (.seq (r 7 [n 4 (.bool false)]) .ret) .skip))) (r 5 [m 26 5,k 27 .add 26 I,m 5 27])))))) (.seq (r 8 [n 4 (.bool true)]) .ret)))
def Z7s:List RRes:=[.t 4]
theorem Z7t:PCt Tryz.prog 79 Tryz.f79 Z7r Z7s:=pcT Tryz.func79 rfl (by kernel_rfl) (by kernel_rfl) (by kernel_rfl)
open Qq in
def Z7u:RCode :=
 .seq (r 0 [b 1 0,w 2 (.alloc [.nils,.nils])]) (.seq (R 1 [f 3 0 1,a [0] (L 4 1 3),a [1] (c 5 126 [4]),w 6 (.bsl true 10 0 [] []),f 7 1 1,a [4] (l 8 7),a [3,5,2] (w 9 (.app 10 72 (.t 6) (.t 8))),a [2,6] (w 10 (.build [.nils,.nils] [(0,1,.t 5),(1,1,.t 9)])),a [7,6,0,1,2,3,4,5,6,7] (s 2 2 10)]) .ret)
def Z7v:List RRes:=[.c 2 true 2]
theorem Z7w:PCt Tryz.prog 68 Tryz.f68 Z7u Z7v:=pcT Tryz.func68 rfl (by kernel_rfl) (by kernel_rfl) (by kernel_rfl)
open Qq in
def Z7x:RCode :=
 .seq (r 0 [b 1 0,n 2 (.bool false)]) (.seq (r 1 [f 3 0 1,L 4 1 3,c 5 125 [4],m 6 5,g 6 false (f 7 1 1),g 6 false (l 8 7),g 6 false (e 9 8),g 6 false (k 10 .gtr 9 (.int .i64 16)),u 11 6 10,m 2 11]) .ret)
def Z7y:List RRes:=[.t 2]
theorem Z7z:PCt Tryz.prog 67 Tryz.f67 Z7x Z7y:=pcT Tryz.func67 rfl (by kernel_rfl) (by kernel_rfl) (by kernel_rfl)
open Qq in
noncomputable def Z7A:RCode :=
 .seq (r 0 [b 1 0,n 2 .nilp,n 3 O]) (.scope (.seq (r 1 [L 16 1 1,w 17 (.build [.nils,.nils] [(0,1,.t 16)]),b 18 17,w 4 (.alloc [.nilp]),s 1 4 18]) (.seq (.seq (r 2 [f 19 0 1,l 20 19,e 21 20,w 22 (.bsl false 1 1 [O] [(0,.t 21)]),w 23 (.call 194 [.c I,.c (.int .i64 60),.t 22]),t 24 23]) (.cond (.t 24) (.seq (r 3 [n 2 .nilp,n 3 (.int .i64 20)]) .ret) .skip)) (.seq (.label 0) (.seq (.seq (r 4 [f 25 0 1,l 26 25,e 27 26,n 28 O]) (.block 0 (.loop (.seq (r 5 [o 29 .lss 28 27]) (.seq (.cond (.t 29) .skip (.exit 0)) (.seq (.block 1 (.seq (r 6 [m 30 28,i 31 5 26 28,L 32 5 31,w 6 (.alloc [O,O,.int .u8 0,.nils,.nils]),m 5 30,s 5 6 32]) (.seq (.seq (r 7 [w 33 (.load true 4 (.g 2)),n 34 O]) (.block 2 (.loop (.seq (r 8 [k 35 .lss 34 (.int .i64 4)]) (.seq (.cond (.t 35) .skip (.exit 2)) (.seq (.block 3 (.seq (r 9 [w 36 (.vop (.aidx true 4 1) [(.t 33),(.t 34)]),w 8 (.alloc [.nilf]),s 1 8 36]) (.seq (r 10 [f 37 0 8,l 38 37,L 39 5 6,w 40 (.callv (.t 38) [.t 39]),t 41 40]) (.cond (.t 41) (.seq (r 11 [n 2 .nilp,n 3 (.int .i64 20)]) .ret) .skip)))) (r 12 [k 42 .add 34 I,m 34 42]))))))) (.seq (.seq (r 13 [m 43 5,k 44 .gtr 43 O]) (.cond (.t 44) (.seq (r 14 [f 45 0 1,l 46 45,m 47 5,k 48 .sub 47 I,i 49 5 46 48,L 50 5 49,w 9 (.alloc [O,O,.int .u8 0,.nils,.nils]),s 5 9 50]) (.seq (r 15 [f 51 0 9,l 52 51,f 53 0 6,l 54 53,o 55 .eql 52 54]) (.cond (.t 55) (.seq (.seq (r 16 [f 56 1 9,l 57 56,k 58 .add 57 I,f 59 1 6,l 60 59,o 61 .neq 58 60,m 62 61,g 62 false (f 63 2 9),g 62 false (l 64 63),g 62 false (f 65 2 6),g 62 false (l 66 65),g 62 false (o 67 .neq 64 66),u 68 62 67]) (.cond (.t 68) (.seq (r 17 [n 2 .nilp,n 3 (.int .i64 20)]) .ret) .skip)) (.exit 1)) (.seq (r 18 [f 69 0 9,l 70 69,f 71 0 6,l 72 71,o 73 .gtr 70 72]) (.cond (.t 73) (.seq (r 19 [n 2 .nilp,n 3 (.int .i64 20)]) .ret) .skip))))) .skip)) (.seq (.seq (r 20 [f 74 1 6,l 75 74,k 76 .neq 75 I]) (.cond (.t 76) (.seq (r 21 [n 2 .nilp,n 3 (.int .i64 20)]) .ret) .skip)) (R 22 [l 77 4,l 78 4,a [1] (w 79 (.nilck (.t 78))),a [2] (f 80 1 79),a [3] (l 81 80),f 82 0 6,a [5] (l 83 82),a [6] (w 84 (.bsl false 1 1 [O] [(0,.t 83)])),a [4,7] (w 85 (.app 1 8 (.t 81) (.t 84))),a [0,0,1,2,3,4,5,6,7,8] (w 86 (.nilck (.t 77))),a [9,0,1,2,3,4,5,6,7,8] (f 87 1 86),a [10,8,8,0,1,2,3,4,5,6,7,8] (s 1 87 85)])))))) (r 23 [k 88 .add 28 I,m 28 88]))))))) (.seq (.seq (r 24 [l 89 4,w 90 (.nilck (.t 89)),f 91 1 90,l 92 91,e 93 92,k 94 .gtr 93 (.int .i64 20)]) (.cond (.t 94) (.seq (r 25 [n 2 .nilp,n 3 (.int .i64 20)]) .ret) .skip)) (.seq (.seq (r 26 [f 95 0 1,l 96 95,e 97 96,n 98 O]) (.block 4 (.loop (.seq (r 27 [o 99 .lss 98 97]) (.seq (.cond (.t 99) .skip (.exit 4)) (.seq (.block 5 (.seq (r 28 [i 100 5 96 98,L 101 5 100,w 11 (.alloc [O,O,.int .u8 0,.nils,.nils]),s 5 11 101]) (.seq (r 29 [f 102 3 11,l 103 102,w 104 (.mkf (.func 196) [] [.t 4]),c 105 195 [103,104]]) (.cond (.t 105) (.seq (r 30 [n 2 .nilp,n 3 (.int .i64 20)]) .ret) .skip)))) (r 31 [k 106 .add 98 I,m 98 106]))))))) (.seq (r 32 [l 108 4,c 109 198 [108],m 107 109,x 110 0 107,x 111 1 107,m 12 110,m 13 111]) (.seq (.seq (r 33 [m 112 13]) (.cond (.t 112) (.seq (r 34 [n 2 .nilp,n 3 (.int .i64 21)]) .ret) .skip)) (.seq (.raw (opnR Tryz.prog)) (.seq (r 40 [l 121 4,m 2 121,n 3 O]) .ret)))))))))))
def Z7B:List RRes:=[.t 2,.t 3]
theorem Z7C:PCt Tryz.prog 168 Tryz.f168 Z7A Z7B:=pcT Tryz.func168 rfl (by kernel_rfl) (by kernel_rfl) (by kernel_rfl)
open Qq in
def Z7D:RCode :=
 .seq (r 0 [b 3 0,b 4 1,n 6 (.bool false)]) (.seq (r 1 [m 7 2,w 8 (.mkf (.func 269) [] [.t 3,.t 4]),c 9 85 [7,8],t 10 9,m 6 10]) .ret)
def Z7E:List RRes:=[.t 6]
theorem Z7F:PCt Tryz.prog 268 Tryz.f268 Z7D Z7E:=pcT Tryz.func268 rfl (by kernel_rfl) (by kernel_rfl) (by kernel_rfl)
open Qq in
def Z7G:RCode :=
 .seq (r 0 [n 4 (.bool false)]) (.seq (r 1 [m 5 0,l 6 1,o 7 .lss 5 6,m 8 7,g 8 false (m 9 0),g 8 false (l 10 2),g 8 false (o 11 .gtr 9 10),u 12 8 11,m 4 12]) .ret)
def Z7H:List RRes:=[.t 4]
theorem Z7I:PCt Tryz.prog 269 Tryz.f269 Z7G Z7H:=pcT Tryz.func269 rfl (by kernel_rfl) (by kernel_rfl) (by kernel_rfl)
open Qq in
def Z7J:RCode :=
 .seq (r 0 [n 4 (.bool false)]) (.seq (r 1 [m 5 0,m 6 1,c 7 142 [5,6],k 8 .geq 7 O,m 4 8]) .ret)
def Z7K:List RRes:=[.t 4]
theorem Z7L:PCt Tryz.prog 85 Tryz.f85 Z7J Z7K:=pcT Tryz.func85 rfl (by kernel_rfl) (by kernel_rfl) (by kernel_rfl)
open Qq in
def Z7M:RCode :=
 .seq (r 0 [n 4 O]) (.seq (.seq (r 1 [m 6 0,e 7 6,n 8 O]) (.block 0 (.loop (.seq (r 2 [o 9 .lss 8 7]) (.seq (.cond (.t 9) .skip (.exit 0)) (.seq (.block 1 (.seq (r 3 [m 10 8,m 5 10]) (.seq (r 4 [m 11 1,m 12 0,m 13 5,i 14 1 12 13,l 15 14,w 16 (.callv (.t 11) [.t 15])]) (.cond (.t 16) (.seq (r 5 [m 17 5,m 4 17]) .ret) .skip)))) (r 6 [k 18 .add 8 I,m 8 18]))))))) (.seq (r 7 [n 4 (.int .i64 (-1))]) .ret))
def Z7N:List RRes:=[.t 4]
theorem Z7O:PCt Tryz.prog 142 Tryz.f142 Z7M Z7N:=pcT Tryz.func142 rfl (by kernel_rfl) (by kernel_rfl) (by kernel_rfl)
open Qq in
def Z7P:RCode :=
 .seq (r 0 [b 1 0,n 2 O]) (.seq (.seq (r 1 [f 3 0 1,l 4 3,f 5 1 1,l 6 5,f 7 2 1,l 8 7,w 9 (.bsl false 1 3 [O,O,O] [(0,.t 4),(1,.t 6),(2,.t 8)]),w 10 (.call 268 [.c O,.c (.int .i64 1000000000),.t 9]),t 11 10,m 12 11,g 12 false (f 13 1 1),g 12 false (l 14 13),g 12 false (f 15 2 1),g 12 false (l 16 15),g 12 false (o 17 .gtr 14 16),u 18 12 17]) (.cond (.t 18) (.seq (r 2 [n 2 (.int .i64 10)]) .ret) .skip)) (.seq (r 3 [n 2 O]) .ret))
def Z7Q:List RRes:=[.t 2]
theorem Z7R:PCt Tryz.prog 266 Tryz.f266 Z7P Z7Q:=pcT Tryz.func266 rfl (by kernel_rfl) (by kernel_rfl) (by kernel_rfl)
open Qq in
def Z7S:RCode :=
 .seq (r 0 [b 3 0,b 4 1,n 6 (.bool false)]) (.seq (r 1 [m 7 2,w 8 (.mkf (.func 208) [] [.t 3,.t 4]),c 9 85 [7,8],t 10 9,m 6 10]) .ret)
def Z7T:List RRes:=[.t 6]
theorem Z7U:PCt Tryz.prog 194 Tryz.f194 Z7S Z7T:=pcT Tryz.func194 rfl (by kernel_rfl) (by kernel_rfl) (by kernel_rfl)
open Qq in
def Z7V:RCode :=
 .seq (r 0 [n 4 (.bool false)]) (.seq (r 1 [m 5 0,l 6 1,o 7 .lss 5 6,m 8 7,g 8 false (m 9 0),g 8 false (l 10 2),g 8 false (o 11 .gtr 9 10),u 12 8 11,m 4 12]) .ret)
def Z7W:List RRes:=[.t 4]
theorem Z7X:PCt Tryz.prog 208 Tryz.f208 Z7V Z7W:=pcT Tryz.func208 rfl (by kernel_rfl) (by kernel_rfl) (by kernel_rfl)
open Qq in
def Z7Y:RCode :=
 .seq (r 0 [b 1 0,w 2 (.alloc [O,O])]) (.seq (r 1 [f 3 0 1,l 4 3,f 5 1 1,l 6 5,w 7 (.build [O,O] [(0,1,.t 4),(1,1,.t 6)]),s 2 2 7]) .ret)
def Z7Z:List RRes:=[.c 2 true 2]
theorem Z80:PCt Tryz.prog 251 Tryz.f251 Z7Y Z7Z:=pcT Tryz.func251 rfl (by kernel_rfl) (by kernel_rfl) (by kernel_rfl)
open Qq in
def Z81:RCode :=
 .seq (r 0 [b 1 0,n 2 (.bool false)]) (.seq (r 1 [f 3 0 1,l 4 3,w 5 (.bsl false 1 1 [O] [(0,.t 4)]),w 6 (.call 194 [.c I,.c (.int .i64 9999),.t 5]),m 7 6,g 7 true (f 8 1 1),g 7 true (l 9 8),g 7 true (w 10 (.bsl false 1 1 [O] [(0,.t 9)])),g 7 true (w 11 (.call 194 [.c I,.c (.int .i64 8),.t 10])),v 12 7 11,m 2 12]) .ret)
def Z82:List RRes:=[.t 2]
theorem Z83:PCt Tryz.prog 260 Tryz.f260 Z81 Z82:=pcT Tryz.func260 rfl (by kernel_rfl) (by kernel_rfl) (by kernel_rfl)
open Qq in
def Z84:RCode :=
 .seq (r 0 [b 1 0,n 2 (.bool false)]) (.seq (.seq (r 1 [f 3 2 1,l 4 3,k 5 .eql 4 (.int .u8 1)]) (.cond (.t 5) (.seq (r 2 [f 6 3 1,l 7 6,e 8 7,w 9 (.bsl false 1 1 [O] [(0,.t 8)]),w 10 (.call 194 [.c I,.c (.int .i64 8),.t 9]),m 11 10,g 11 true (f 12 4 1),g 11 true (l 13 12),g 11 true (e 14 13),g 11 true (k 15 .eql 14 O),v 16 11 15,m 2 16]) .ret) .skip)) (.seq (r 3 [f 17 2 1,l 18 17,w 19 (.conv .i64 (.t 18)),w 20 (.bsl false 1 1 [O] [(0,.t 19)]),w 21 (.call 194 [.c (.int .i64 2),.c (.int .i64 3),.t 20]),m 22 21,g 22 true (f 23 4 1),g 22 true (l 24 23),g 22 true (e 25 24),g 22 true (k 26 .leq 25 (.int .i64 4)),v 27 22 26,m 28 27,g 28 true (f 29 3 1),g 28 true (l 30 29),g 28 true (e 31 30),g 28 true (k 32 .eql 31 O),v 33 28 32,m 2 33]) .ret))
def Z85:List RRes:=[.t 2]
theorem Z86:PCt Tryz.prog 261 Tryz.f261 Z84 Z85:=pcT Tryz.func261 rfl (by kernel_rfl) (by kernel_rfl) (by kernel_rfl)
open Qq in
def Z87:RCode :=
 .seq (r 0 [b 1 0,n 2 (.bool false)]) (.seq (.seq (r 1 [f 5 3 1,l 6 5,e 7 6,n 8 O]) (.block 0 (.loop (.seq (r 2 [o 9 .lss 8 7]) (.seq (.cond (.t 9) .skip (.exit 0)) (.seq (.block 1 (.seq (r 3 [m 10 8,i 11 2 6 8,L 12 2 11,w 4 (.alloc [O,O]),m 3 10,s 2 4 12]) (.seq (R 4 [f 13 0 4,a [0] (l 14 13),a [1] (w 15 (.bsl false 1 1 [O] [(0,.t 14)])),a [2] (w 16 (.call 194 [.c I,.c (.int .i64 9999),.t 15])),a [3] (t 17 16),a [4,3] (m 18 17),a [5] (g 18 false (f 19 1 4)),a [6,5] (g 18 false (l 20 19)),a [7,5] (g 18 false (w 21 (.bsl false 1 1 [O] [(0,.t 20)]))),a [8,5,5] (g 18 false (w 22 (.call 194 [.c I,.c (.int .i64 20),.t 21]))),a [9,5] (g 18 false (t 23 22)),a [5,10] (u 24 18 23),a [11,9] (m 25 24),a [12] (g 25 false (f 26 0 4)),a [13,12] (g 25 false (l 27 26)),a [12] (g 25 false (f 28 0 1)),a [15,12] (g 25 false (l 29 28)),a [14,16,12] (g 25 false (o 30 .eql 27 29)),a [12,17] (u 31 25 30),a [18,12] (m 32 31),a [19] (g 32 false (m 33 3)),a [20,19] (g 32 false (k 34 .gtr 33 O)),a [21,19,19] (g 32 false (m 35 34)),a [22] (g 35 true (f 36 3 1)),a [23,22] (g 35 true (l 37 36)),a [22] (g 35 true (m 38 3)),a [25,22] (g 35 true (k 39 .sub 38 I)),a [24,26,22] (g 35 true (i 40 2 37 39)),a [27,22] (g 35 true (f 41 0 40)),a [28,22] (g 35 true (l 42 41)),a [22] (g 35 true (f 43 0 4)),a [30,22] (g 35 true (l 44 43)),a [29,31,22] (g 35 true (o 45 .geq 42 44)),a [22,32,19] (g 32 false (v 46 35 45)),a [19,33] (u 47 32 46)]) (.cond (.t 47) (.seq (r 5 [n 2 (.bool false)]) .ret) .skip)))) (r 6 [k 48 .add 8 I,m 8 48]))))))) (.seq (r 7 [n 2 (.bool true)]) .ret))
def Z88:List RRes:=[.t 2]
theorem Z89:PCt Tryz.prog 262 Tryz.f262 Z87 Z88:=pcT Tryz.func262 rfl (by kernel_rfl) (by kernel_rfl) (by kernel_rfl)
open Qq in
def Z8a:RCode :=
 .seq (r 0 [b 1 0,n 2 (.bool false)]) (.seq (r 1 [f 3 4 1,l 4 3,w 5 (.call 264 [.t 4,.c (.func (.func 265) [] [])]),t 6 5,m 2 6]) .ret)
def Z8b:List RRes:=[.t 2]
theorem Z8c:PCt Tryz.prog 263 Tryz.f263 Z8a Z8b:=pcT Tryz.func263 rfl (by kernel_rfl) (by kernel_rfl) (by kernel_rfl)
open Qq in
def Z8d:RCode :=
 .seq (r 0 [b 1 0,n 2 (.bool false)]) (.seq (r 1 [L 3 3 1,c 4 266 [3],k 5 .neq 4 O,m 2 5]) .ret)
def Z8e:List RRes:=[.t 2]
theorem Z8f:PCt Tryz.prog 265 Tryz.f265 Z8d Z8e:=pcT Tryz.func265 rfl (by kernel_rfl) (by kernel_rfl) (by kernel_rfl)
open Qq in
def Z8g:RCode :=
 .seq (r 0 [n 4 (.bool false)]) (.seq (r 1 [m 5 0,m 6 1,c 7 267 [5,6],k 8 .geq 7 O,m 4 8]) .ret)
def Z8h:List RRes:=[.t 4]
theorem Z8i:PCt Tryz.prog 264 Tryz.f264 Z8g Z8h:=pcT Tryz.func264 rfl (by kernel_rfl) (by kernel_rfl) (by kernel_rfl)
open Qq in
def Z8j:RCode :=
 .seq (r 0 [n 4 O]) (.seq (.seq (r 1 [m 6 0,e 7 6,n 8 O]) (.block 0 (.loop (.seq (r 2 [o 9 .lss 8 7]) (.seq (.cond (.t 9) .skip (.exit 0)) (.seq (.block 1 (.seq (r 3 [m 10 8,m 5 10]) (.seq (r 4 [m 11 1,m 12 0,m 13 5,i 14 3 12 13,L 15 3 14,w 16 (.callv (.t 11) [.t 15])]) (.cond (.t 16) (.seq (r 5 [m 17 5,m 4 17]) .ret) .skip)))) (r 6 [k 18 .add 8 I,m 8 18]))))))) (.seq (r 7 [n 4 (.int .i64 (-1))]) .ret))
def Z8k:List RRes:=[.t 4]
theorem Z8l:PCt Tryz.prog 267 Tryz.f267 Z8j Z8k:=pcT Tryz.func267 rfl (by kernel_rfl) (by kernel_rfl) (by kernel_rfl)
open Qq in
def Z8m:RCode :=
 .seq (r 0 [n 4 (.bool false)]) (.seq (r 1 [m 5 0,m 6 1,c 7 209 [5,6],k 8 .geq 7 O,m 4 8]) .ret)
def Z8n:List RRes:=[.t 4]
theorem Z8o:PCt Tryz.prog 195 Tryz.f195 Z8m Z8n:=pcT Tryz.func195 rfl (by kernel_rfl) (by kernel_rfl) (by kernel_rfl)
open Qq in
def Z8p:RCode :=
 .seq (r 0 [n 4 O]) (.seq (.seq (r 1 [m 6 0,e 7 6,n 8 O]) (.block 0 (.loop (.seq (r 2 [o 9 .lss 8 7]) (.seq (.cond (.t 9) .skip (.exit 0)) (.seq (.block 1 (.seq (r 3 [m 10 8,m 5 10]) (.seq (r 4 [m 11 1,m 12 0,m 13 5,i 14 2 12 13,L 15 2 14,w 16 (.callv (.t 11) [.t 15])]) (.cond (.t 16) (.seq (r 5 [m 17 5,m 4 17]) .ret) .skip)))) (r 6 [k 18 .add 8 I,m 8 18]))))))) (.seq (r 7 [n 4 (.int .i64 (-1))]) .ret))
def Z8q:List RRes:=[.t 4]
theorem Z8r:PCt Tryz.prog 209 Tryz.f209 Z8p Z8q:=pcT Tryz.func209 rfl (by kernel_rfl) (by kernel_rfl) (by kernel_rfl)
open Qq in
def Z8s:RCode :=
 .seq (r 0 [b 2 0,n 3 (.bool false)]) (.seq (r 1 [l 4 1,f 5 0 2,l 6 5,c 7 197 [4,6],t 8 7,m 3 8]) .ret)
def Z8t:List RRes:=[.t 3]
theorem Z8u:PCt Tryz.prog 196 Tryz.f196 Z8s Z8t:=pcT Tryz.func196 rfl (by kernel_rfl) (by kernel_rfl) (by kernel_rfl)
open Qq in
def Z8v:RCode :=
 .seq (r 0 [n 4 (.bool false)]) (.seq (r 1 [m 8 0,w 9 (.nilck (.t 8)),f 10 1 9,l 11 10,m 12 1,c 13 210 [11,12],m 7 13,x 14 0 7,x 15 1 7,m 5 14,m 6 15]) (.seq (r 2 [m 16 6,m 4 16]) .ret))
def Z8w:List RRes:=[.t 4]
theorem Z8x:PCt Tryz.prog 197 Tryz.f197 Z8v Z8w:=pcT Tryz.func197 rfl (by kernel_rfl) (by kernel_rfl) (by kernel_rfl)
open Qq in
def Z8y:RCode :=
 .seq (r 0 [n 4 O,n 5 (.bool false)]) (.seq (r 1 [m 10 0,e 11 10,m 6 11]) (.seq (r 2 [m 12 6,n 7 O,m 8 12]) (.seq (.block 0 (.loop (.seq (.seq (r 3 [m 13 7,m 14 8,o 15 .lss 13 14]) (.cond (.t 15) .skip (.exit 0))) (.block 1 (.seq (r 4 [m 16 7,m 17 8,o 18 .add 16 17,w 19 (.conv .u64 (.t 18)),w 20 (.vop (.sh false) [(.t 19),(.c (.int .u64 1))]),w 21 (.conv .i64 (.t 20)),m 9 21]) (.seq (r 5 [m 22 0,m 23 9,i 24 1 22 23,l 25 24,m 26 1,c 27 189 [25,26]]) (.cond (.t 27) (r 6 [m 28 9,k 29 .add 28 I,m 7 29]) (r 7 [m 30 9,m 8 30])))))))) (.seq (r 8 [m 31 7,m 32 7,m 33 6,o 34 .lss 32 33,m 35 34,g 35 true (m 36 0),g 35 true (m 37 7),g 35 true (i 38 1 36 37),g 35 true (l 39 38),g 35 true (m 40 1),g 35 true (o 41 .eql 39 40),g 35 true (m 42 41),g 42 false (m 43 0),g 42 false (m 44 7),g 42 false (i 45 1 43 44),g 42 false (l 46 45),g 42 false (c 47 214 [46]),g 42 false (m 48 47),g 48 true (m 49 1),g 48 true (c 50 214 [49]),g 42 false (v 51 48 50),g 35 true (u 52 42 51),v 53 35 52,m 4 31,m 5 53]) .ret))))
def Z8z:List RRes:=[.t 4,.t 5]
theorem Z8A:PCt Tryz.prog 210 Tryz.f210 Z8y Z8z:=pcT Tryz.func210 rfl (by kernel_rfl) (by kernel_rfl) (by kernel_rfl)
open Qq in
def Z8B:RCode :=
 .seq (r 0 [n 4 (.bool false)]) (.seq (r 1 [m 5 0,c 6 157 [5],m 7 6,g 7 true (m 8 1),g 7 true (c 9 157 [8]),g 7 true (t 10 9),v 11 7 10,m 12 11,g 12 false (m 13 0),g 12 false (m 14 1),g 12 false (o 15 .lss 13 14),u 16 12 15,m 4 16]) .ret)
def Z8C:List RRes:=[.t 4]
theorem Z8D:PCt Tryz.prog 189 Tryz.f189 Z8B Z8C:=pcT Tryz.func189 rfl (by kernel_rfl) (by kernel_rfl) (by kernel_rfl)
open Qq in
def Z8E:RCode :=
 .seq (r 0 [n 2 (.bool false)]) (.seq (r 1 [m 3 0,m 4 0,o 5 .neq 3 4,m 2 5]) .ret)
def Z8F:List RRes:=[.t 2]
theorem Z8G:PCt Tryz.prog 157 Tryz.f157 Z8E Z8F:=pcT Tryz.func157 rfl (by kernel_rfl) (by kernel_rfl) (by kernel_rfl)
open Qq in
def Z8H:RCode :=
 .seq (r 0 [n 2 (.bool false)]) (.seq (r 1 [m 3 0,m 4 0,o 5 .neq 3 4,m 2 5]) .ret)
def Z8I:List RRes:=[.t 2]
theorem Z8J:PCt Tryz.prog 214 Tryz.f214 Z8H Z8I:=pcT Tryz.func214 rfl (by kernel_rfl) (by kernel_rfl) (by kernel_rfl)
open Qq in
def Z8K:RCode :=
 .seq (r 0 [n 4 O]) (.seq (r 1 [m 7 0,c 8 157 [7],m 5 8]) (.seq (r 2 [m 9 1,c 10 157 [9],m 6 10]) (.seq (.seq (r 3 [m 11 5]) (.cond (.t 11) (.seq (.seq (r 4 [m 12 6]) (.cond (.t 12) (.seq (r 5 [n 4 O]) .ret) .skip)) (.seq (r 6 [n 4 (.int .i64 (-1))]) .ret)) .skip)) (.seq (.seq (r 7 [m 13 6]) (.cond (.t 13) (.seq (r 8 [n 4 I]) .ret) .skip)) (.seq (.seq (r 9 [m 14 0,m 15 1,o 16 .lss 14 15]) (.cond (.t 16) (.seq (r 10 [n 4 (.int .i64 (-1))]) .ret) .skip)) (.seq (.seq (r 11 [m 17 0,m 18 1,o 19 .gtr 17 18]) (.cond (.t 19) (.seq (r 12 [n 4 I]) .ret) .skip)) (.seq (r 13 [n 4 O]) .ret)))))))
def Z8L:List RRes:=[.t 4]
theorem Z8M:PCt Tryz.prog 107 Tryz.f107 Z8K Z8L:=pcT Tryz.func107 rfl (by kernel_rfl) (by kernel_rfl) (by kernel_rfl)
open Qq in
def Z8N:RCode :=
 .seq (r 0 [n 6 O,n 7 (.bool false)]) (.seq (r 1 [m 12 0,e 13 12,m 8 13]) (.seq (r 2 [m 14 8,n 9 O,m 10 14]) (.seq (.block 0 (.loop (.seq (.seq (r 3 [m 15 9,m 16 10,o 17 .lss 15 16]) (.cond (.t 17) .skip (.exit 0))) (.block 1 (.seq (r 4 [m 18 9,m 19 10,o 20 .add 18 19,w 21 (.conv .u64 (.t 20)),w 22 (.vop (.sh false) [(.t 21),(.c (.int .u64 1))]),w 23 (.conv .i64 (.t 22)),m 11 23]) (.seq (r 5 [m 24 2,m 25 0,m 26 11,i 27 5 25 26,L 28 5 27,m 29 1,w 30 (.callv (.t 24) [.t 28,.t 29]),k 31 .lss 30 O]) (.cond (.t 31) (r 6 [m 32 11,k 33 .add 32 I,m 9 33]) (r 7 [m 34 11,m 10 34])))))))) (.seq (r 8 [m 35 9,m 36 9,m 37 8,o 38 .lss 36 37,m 39 38,g 39 true (m 40 2),g 39 true (m 41 0),g 39 true (m 42 9),g 39 true (i 43 5 41 42),g 39 true (L 44 5 43),g 39 true (m 45 1),g 39 true (w 46 (.callv (.t 40) [.t 44,.t 45])),g 39 true (k 47 .eql 46 O),v 48 39 47,m 6 35,m 7 48]) .ret))))
def Z8O:List RRes:=[.t 6,.t 7]
theorem Z8P:PCt Tryz.prog 216 Tryz.f216 Z8N Z8O:=pcT Tryz.func216 rfl (by kernel_rfl) (by kernel_rfl) (by kernel_rfl)
open Qq in
def Z8Q:RCode :=
 .seq (r 0 [b 2 0,b 3 1,n 4 .nilf]) (.seq (r 1 [w 5 (.mkf (.func 215) [] [.t 2,.t 3]),m 4 5]) .ret)
def Z8R:List RRes:=[.t 4]
theorem Z8S:PCt Tryz.prog 211 Tryz.f211 Z8Q Z8R:=pcT Tryz.func211 rfl (by kernel_rfl) (by kernel_rfl) (by kernel_rfl)
open Qq in
def Z8T:RCode :=
 .seq (r 0 [b 2 0,n 4 O]) (.seq (r 1 [f 5 0 2,l 6 5,m 7 1,c 8 107 [6,7],m 4 8]) .ret)
def Z8U:List RRes:=[.t 4]
theorem Z8V:PCt Tryz.prog 217 Tryz.f217 Z8T Z8U:=pcT Tryz.func217 rfl (by kernel_rfl) (by kernel_rfl) (by kernel_rfl)
open Qq in
def Z8W:RCode :=
 .seq (r 0 [b 3 1,w 4 (.alloc [O,O,.int .u8 0,.nils,.nils]),w 5 (.alloc [.bool false])]) (.seq (.seq (r 1 [m 7 0,f 8 0 3,l 9 8,c 10 211 [7,9]]) (.block 0 (.rngf (.t 10) [11] (r 2 [w 6 (.alloc [O,O,.int .u8 0,.nils,.nils]),s 5 6 11]) (.block 1 (.seq (R 3 [L 12 5 6,a [0] (c 13 251 [12]),L 14 2 3,a [1,2] (w 15 (.eqs false [.i,.i] (.t 13) (.t 14)))]) (.cond (.t 15) (.seq (r 4 [L 16 5 6,s 5 4 16,z (.store 1 (.t 5) (.c (.bool true)))]) .ret) .skip)))))) (.seq (r 5 [w 17 (.build [O,O,.int .u8 0,.nils,.nils] []),s 5 4 17,z (.store 1 (.t 5) (.c (.bool false)))]) .ret))
def Z8X:List RRes:=[.c 4 true 5,.c 5 false 1]
theorem Z8Y:PCt Tryz.prog 249 Tryz.f249 Z8W Z8X:=pcT Tryz.func249 rfl (by kernel_rfl) (by kernel_rfl) (by kernel_rfl)
open Qq in
def Z8Z:RCode :=
 .seq (r 0 [n 2 .nilm,n 3 (.bool false)]) (.seq (r 1 [w 15 (.mkmap),w 4 (.alloc [.nilm]),s 1 4 15]) (.seq (r 2 [w 16 (.mkmap),w 5 (.alloc [.nilm]),s 1 5 16]) (.seq (.seq (r 3 [m 17 0,w 18 (.nilck (.t 17)),f 19 1 18,l 20 19,e 21 20,n 22 O]) (.block 0 (.loop (.seq (r 4 [o 23 .lss 22 21]) (.seq (.cond (.t 23) .skip (.exit 0)) (.seq (.block 1 (.seq (r 5 [i 24 1 20 22,l 25 24,m 7 25]) (r 6 [l 26 5,m 27 7,z (.mupd (.i .i64) (.t 26) (.t 27) (.c (.bool true)))]))) (r 7 [k 28 .add 22 I,m 22 28]))))))) (.seq (.seq (r 8 [m 29 0,w 30 (.nilck (.t 29)),f 31 1 30,l 32 31,e 33 32,n 34 O]) (.block 2 (.loop (.seq (r 9 [o 35 .lss 34 33]) (.seq (.cond (.t 35) .skip (.exit 2)) (.seq (.block 3 (.seq (r 10 [m 36 0,w 37 (.nilck (.t 36)),f 38 1 37,l 39 38,e 40 39,n 41 O]) (.block 4 (.loop (.seq (r 11 [o 42 .lss 41 40]) (.seq (.cond (.t 42) .skip (.exit 4)) (.seq (.block 5 (.seq (r 12 [i 43 1 39 41,l 44 43,m 9 44]) (.seq (R 13 [l 45 5,m 46 9,a [0,1] (w 47 (.look (.i .i64) (.bool false) false (.t 45) (.t 46))),w 10 (.alloc [O]),w 11 (.alloc [.bool false]),a [3,3,4] (z (.store 1 (.t 10) (.c O))),a [4,2,5,0,1,2,3,4,5] (s 1 11 47)]) (.seq (.seq (r 14 [m 48 0,m 49 9,c 50 211 [48,49]]) (.block 6 (.rngf (.t 50) [51] (r 15 [w 12 (.alloc [O,O,.int .u8 0,.nils,.nils]),s 5 12 51]) (.block 7 (.seq (r 16 [f 52 3 12,l 53 52,e 54 53,n 55 O]) (.block 8 (.loop (.seq (r 17 [o 56 .lss 55 54]) (.seq (.cond (.t 56) .skip (.exit 8)) (.seq (.block 9 (.seq (r 18 [i 57 2 53 55,L 58 2 57,w 14 (.alloc [O,O]),s 2 14 58]) (.seq (r 19 [l 59 11,m 60 59,g 60 true (l 61 5),g 60 true (f 62 0 14),g 60 true (l 63 62),g 60 true (w 64 (.look (.i .i64) (.bool false) false (.t 61) (.t 63))),g 60 true (t 65 64),v 66 60 65,s 1 11 66]) (r 20 [l 67 10,l 68 4,f 69 0 14,l 70 69,w 71 (.look (.i .i64) O false (.t 68) (.t 70)),w 72 (.mx true (.t 67) [.t 71]),s 1 10 72])))) (r 21 [k 73 .add 55 I,m 55 73]))))))))))) (.seq (r 22 [l 74 11]) (.cond (.t 74) (.seq (r 23 [l 75 4,m 76 9,l 77 10,k 78 .add 77 I,z (.mupd (.i .i64) (.t 75) (.t 76) (.t 78))]) (r 24 [l 79 5,m 80 9,z (.mdel (.i .i64) (.t 79) (.t 80))])) .skip)))))) (r 25 [k 81 .add 41 I,m 41 81])))))))) (r 26 [k 82 .add 34 I,m 34 82]))))))) (.seq (r 27 [l 83 4,l 84 5,w 85 (.mlen (.t 84)),k 86 .gtr 85 O,m 2 83,m 3 86]) .ret)))))
def Z90:List RRes:=[.t 2,.t 3]
theorem Z91:PCt Tryz.prog 198 Tryz.f198 Z8Z Z90:=pcT Tryz.func198 rfl (by kernel_rfl) (by kernel_rfl) (by kernel_rfl)
open Qq in
def Z92:RCode :=
 .seq (r 0 [b 1 0,w 2 (.alloc [O,O,.int .u8 0,.nils,.nils])]) (.seq (R 1 [f 3 3 1,a [0] (l 4 3),a [1] (w 5 (.calln 121 [.t 4])),f 6 4 1,a [3] (l 7 6),a [4,2] (w 8 (.calln 122 [.t 7])),a [0,1,2,3,4] (f 9 3 1),a [6,2,5,0,1,2,3,4] (s 1 9 5),a [0,1,2,3,4,5,6,7] (f 10 4 1),a [8,5,7,0,1,2,3,4,5,6,7] (s 1 10 8)]) (.seq (r 2 [L 11 5 1,s 5 2 11]) .ret))
def Z93:List RRes:=[.c 2 true 5]
theorem Z94:PCt Tryz.prog 250 Tryz.f250 Z92 Z93:=pcT Tryz.func250 rfl (by kernel_rfl) (by kernel_rfl) (by kernel_rfl)
open Qq in
def Z95:RCode :=
 .seq (r 0 [n 2 .nils]) (.seq (.seq (r 1 [m 3 0,w 4 (.vop (.eqn false) [(.t 3),(.c .nils)])]) (.cond (.t 4) (.seq (r 2 [n 2 .nils]) .ret) .skip)) (.seq (r 3 [w 5 (.bsl true 2 0 [] []),m 6 0,w 7 (.app 2 16 (.t 5) (.t 6)),m 2 7]) .ret))
def Z96:List RRes:=[.t 2]
open Qq in
def Z97:RCode :=
 .seq (r 0 [n 2 .nils]) (.seq (.seq (r 1 [m 3 0,w 4 (.vop (.eqn false) [(.t 3),(.c .nils)])]) (.cond (.t 4) (.seq (r 2 [n 2 .nils]) .ret) .skip)) (.seq (r 3 [w 5 (.bsl true 3 0 [] []),m 6 0,w 7 (.app 3 24 (.t 5) (.t 6)),m 2 7]) .ret))
def Z98:List RRes:=[.t 2]
open Qq in
def Z99:RCode :=
 .seq (r 0 [b 1 0,n 2 .nils,n 3 O]) (.seq (r 1 [L 7 1 1,c 8 168 [7],m 6 8,x 9 0 6,x 10 1 6,m 4 9,m 5 10]) (.seq (.seq (r 2 [m 11 5,k 12 .neq 11 O]) (.cond (.t 12) (.seq (r 3 [m 13 5,n 2 .nils,m 3 13]) .ret) .skip)) (.seq (r 4 [m 14 4,w 15 (.nilck (.t 14)),f 16 1 15,l 17 16,m 2 17,n 3 O]) .ret)))
def Z9a:List RRes:=[.t 2,.t 3]
theorem Z9b:PCt Tryz.prog 131 Tryz.f131 Z99 Z9a:=pcT Tryz.func131 rfl (by kernel_rfl) (by kernel_rfl) (by kernel_rfl)
open Qq in
def Z9c:RCode :=
 .seq (r 0 [b 2 0,b 3 1,w 4 (.alloc [O,O,.int .u8 0,.nils,.nils]),n 5 O]) (.seq (r 1 [L 11 1 2,c 12 168 [11],m 10 12,x 13 0 10,x 14 1 10,m 6 13,m 7 14]) (.seq (.seq (r 2 [m 15 7,k 16 .neq 15 O]) (.cond (.t 16) (.seq (r 3 [w 17 (.build [O,O,.int .u8 0,.nils,.nils] []),m 18 7,s 5 4 17,m 5 18]) .ret) .skip)) (.seq (r 4 [m 20 6,L 21 2 3,c 22 249 [20,21],m 19 22,x 23 0 19,x 24 1 19,w 8 (.alloc [O,O,.int .u8 0,.nils,.nils]),s 5 8 23,m 9 24]) (.seq (.seq (r 5 [m 25 9,t 26 25]) (.cond (.t 26) (.seq (r 6 [w 27 (.build [O,O,.int .u8 0,.nils,.nils] []),s 5 4 27,n 5 (.int .i64 6)]) .ret) .skip)) (.seq (r 7 [L 28 5 8,c 29 250 [28],s 5 4 29,n 5 O]) .ret)))))
def Z9d:List RRes:=[.c 4 true 5,.t 5]
theorem Z9e:PCt Tryz.prog 241 Tryz.f241 Z9c Z9d:=pcT Tryz.func241 rfl (by kernel_rfl) (by kernel_rfl) (by kernel_rfl)
open Qq in
def Z9f:RCode :=
 .seq (r 0 [n 6 (.bool false)]) (.seq (r 1 [m 7 0,m 8 1,o 9 .geq 7 8,m 10 9,g 10 true (m 11 0),g 10 true (m 12 2),g 10 true (o 13 .leq 11 12),v 14 10 13,m 6 14]) .ret)
def Z9g:List RRes:=[.t 6]
theorem Z9h:PCt Tryz.prog 218 Tryz.f218 Z9f Z9g:=pcT Tryz.func218 rfl (by kernel_rfl) (by kernel_rfl) (by kernel_rfl)
open Qq in
def Z9i:RCode :=
 .seq (r 0 [b 1 0,n 2 (.bool false)]) (.seq (r 1 [f 3 0 1,l 4 3,w 5 (.call 218 [.t 4,.c O,.c (.int .i64 1000000000)]),m 6 5,g 6 true (f 7 2 1),g 6 true (l 8 7),g 6 true (w 9 (.call 218 [.t 8,.c O,.c (.int .i64 1000000000)])),v 10 6 9,m 11 10,g 11 true (f 12 1 1),g 11 true (l 13 12),g 11 true (f 14 2 1),g 11 true (l 15 14),g 11 true (w 16 (.call 218 [.t 13,.c O,.t 15])),v 17 11 16,m 2 17]) .ret)
def Z9j:List RRes:=[.t 2]
theorem Z9k:PCt Tryz.prog 212 Tryz.f212 Z9i Z9j:=pcT Tryz.func212 rfl (by kernel_rfl) (by kernel_rfl) (by kernel_rfl)
open Qq in
def Z9l:RCode :=
 .seq (r 0 [n 6 (.bool false)]) (.seq (r 1 [m 7 0,m 8 1,o 9 .geq 7 8,m 10 9,g 10 true (m 11 0),g 10 true (m 12 2),g 10 true (o 13 .leq 11 12),v 14 10 13,m 6 14]) .ret)
def Z9m:List RRes:=[.t 6]
theorem Z9n:PCt Tryz.prog 199 Tryz.f199 Z9l Z9m:=pcT Tryz.func199 rfl (by kernel_rfl) (by kernel_rfl) (by kernel_rfl)
open Qq in
def Z9o:RCode :=
 .seq (r 0 [b 1 0,n 2 (.bool false)]) (.seq (.seq (r 1 [f 6 0 1,l 7 6,w 8 (.call 199 [.t 7,.c I,.c (.int .i64 9999)]),t 9 8,m 10 9,g 10 false (f 11 1 1),g 10 false (l 12 11),g 10 false (w 13 (.call 199 [.t 12,.c I,.c (.int .i64 8)])),g 10 false (t 14 13),u 15 10 14,m 16 15,g 16 false (f 17 2 1),g 16 false (l 18 17),g 16 false (w 19 (.conv .i64 (.t 18))),g 16 false (w 20 (.call 199 [.t 19,.c I,.c (.int .i64 3)])),g 16 false (t 21 20),u 22 16 21,m 23 22,g 23 false (f 24 2 1),g 23 false (l 25 24),g 23 false (k 26 .eql 25 (.int .u8 1)),g 23 false (m 27 26),g 27 true (f 28 3 1),g 27 true (l 29 28),g 27 true (e 30 29),g 27 true (w 31 (.call 199 [.t 30,.c I,.c (.int .i64 8)])),g 27 true (t 32 31),g 27 true (m 33 32),g 33 false (f 34 4 1),g 33 false (l 35 34),g 33 false (e 36 35),g 33 false (k 37 .gtr 36 O),g 27 true (u 38 33 37),g 23 false (v 39 27 38),u 40 23 39,m 41 40,g 41 false (f 42 2 1),g 41 false (l 43 42),g 41 false (k 44 .gtr 43 (.int .u8 1)),g 41 false (m 45 44),g 45 true (f 46 4 1),g 45 true (l 47 46),g 45 true (e 48 47),g 45 true (k 49 .gtr 48 (.int .i64 4)),g 45 true (m 50 49),g 50 false (f 51 3 1),g 50 false (l 52 51),g 50 false (e 53 52),g 50 false (k 54 .gtr 53 O),g 45 true (u 55 50 54),g 41 false (v 56 45 55),u 57 41 56]) (.cond (.t 57) (.seq (r 2 [n 2 (.bool false)]) .ret) .skip)) (.seq (.seq (r 3 [n 3 O]) (.block 0 (.loop (.seq (.seq (r 4 [m 58 3,f 59 3 1,l 60 59,e 61 60,o 62 .lss 58 61]) (.cond (.t 62) .skip (.exit 0))) (.seq (.block 1 (.seq (r 6 [f 65 3 1,l 66 65,m 67 3,i 68 2 66 67,L 69 2 68,w 4 (.alloc [O,O]),s 2 4 69]) (.seq (R 7 [f 70 0 4,a [0] (l 71 70),a [1] (w 72 (.call 199 [.t 71,.c I,.c (.int .i64 9999)])),a [2] (t 73 72),a [3,2] (m 74 73),a [4] (g 74 false (f 75 1 4)),a [5,4] (g 74 false (l 76 75)),a [6,4,4] (g 74 false (w 77 (.call 199 [.t 76,.c I,.c (.int .i64 20)]))),a [7,4] (g 74 false (t 78 77)),a [4,8] (u 79 74 78),a [9,7] (m 80 79),a [10] (g 80 false (f 81 0 4)),a [11,10] (g 80 false (l 82 81)),a [10] (g 80 false (f 83 0 1)),a [13,10] (g 80 false (l 84 83)),a [12,14,10] (g 80 false (o 85 .eql 82 84)),a [10,15] (u 86 80 85),a [16,10] (m 87 86),a [17] (g 87 false (m 88 3)),a [18,17] (g 87 false (k 89 .gtr 88 O)),a [19,17,17] (g 87 false (m 90 89)),a [20] (g 90 true (f 91 3 1)),a [21,20] (g 90 true (l 92 91)),a [20] (g 90 true (m 93 3)),a [23,20] (g 90 true (k 94 .sub 93 I)),a [22,24,20] (g 90 true (i 95 2 92 94)),a [25,20] (g 90 true (f 96 0 95)),a [26,20] (g 90 true (l 97 96)),a [20] (g 90 true (f 98 0 4)),a [28,20] (g 90 true (l 99 98)),a [27,29,20] (g 90 true (o 100 .geq 97 99)),a [20,30,17] (g 87 false (v 101 90 100)),a [17,31] (u 102 87 101)]) (.cond (.t 102) (.seq (r 8 [n 2 (.bool false)]) .ret) .skip)))) (r 5 [m 63 3,k 64 .add 63 I,m 3 64])))))) (.seq (.seq (r 9 [n 5 O]) (.block 2 (.loop (.seq (.seq (r 10 [m 103 5,f 104 4 1,l 105 104,e 106 105,o 107 .lss 103 106]) (.cond (.t 107) .skip (.exit 2))) (.seq (.block 3 (.seq (r 12 [f 110 4 1,l 111 110,m 112 5,i 113 3 111 112,L 114 3 113,c 115 212 [114],t 116 115]) (.cond (.t 116) (.seq (r 13 [n 2 (.bool false)]) .ret) .skip))) (r 11 [m 108 5,k 109 .add 108 I,m 5 109])))))) (.seq (r 14 [n 2 (.bool true)]) .ret))))
def Z9p:List RRes:=[.t 2]
theorem Z9q:PCt Tryz.prog 200 Tryz.f200 Z9o Z9p:=pcT Tryz.func200 rfl (by kernel_rfl) (by kernel_rfl) (by kernel_rfl)
open Qq in
def Z9r:RCode :=
 .seq (r 0 [b 1 0,n 2 .nils]) (.seq (r 1 [n 3 .nils]) (.seq (.seq (r 2 [n 4 O]) (.block 0 (.loop (.seq (.seq (r 3 [m 6 4,f 7 0 1,l 8 7,e 9 8,o 10 .lss 6 9]) (.cond (.t 10) .skip (.exit 0))) (.seq (.block 1 (.seq (r 5 [f 13 0 1,l 14 13,m 15 4,i 16 5 14 15,f 17 0 16,l 18 17,m 5 18]) (.seq (r 6 [m 19 4,k 20 .eql 19 O,m 21 20,g 21 false (f 22 0 1),g 21 false (l 23 22),g 21 false (m 24 4),g 21 false (k 25 .sub 24 I),g 21 false (i 26 5 23 25),g 21 false (f 27 0 26),g 21 false (l 28 27),g 21 false (m 29 5),g 21 false (o 30 .neq 28 29),u 31 21 30]) (.cond (.t 31) (r 7 [m 32 3,m 33 5,w 34 (.bsl false 1 1 [O] [(0,.t 33)]),w 35 (.app 1 8 (.t 32) (.t 34)),m 3 35]) .skip)))) (r 4 [m 11 4,k 12 .add 11 I,m 4 12])))))) (.seq (r 8 [m 36 3,m 2 36]) .ret)))
def Z9s:List RRes:=[.t 2]
theorem Z9t:PCt Tryz.prog 54 Tryz.f54 Z9r Z9s:=pcT Tryz.func54 rfl (by kernel_rfl) (by kernel_rfl) (by kernel_rfl)
open Qq in
def Z9u:RCode :=
 .seq (r 0 [n 4 O]) (.seq (.seq (r 1 [n 5 O]) (.block 0 (.loop (.seq (.seq (r 2 [m 6 5,m 7 0,e 8 7,o 9 .lss 6 8]) (.cond (.t 9) .skip (.exit 0))) (.seq (.block 1 (.seq (r 4 [m 12 0,m 13 5,i 14 1 12 13,l 15 14,m 16 1,o 17 .eql 15 16]) (.cond (.t 17) (.seq (r 5 [m 18 5,m 4 18]) .ret) .skip))) (r 3 [m 10 5,k 11 .add 10 I,m 5 11])))))) (.seq (r 6 [n 4 (.int .i64 (-1))]) .ret))
def Z9v:List RRes:=[.t 4]
theorem Z9w:PCt Tryz.prog 64 Tryz.f64 Z9u Z9v:=pcT Tryz.func64 rfl (by kernel_rfl) (by kernel_rfl) (by kernel_rfl)
open Qq in
def Z9x:RCode :=
 .seq (r 0 [b 1 0,n 2 (.bool false)]) (.seq (.seq (r 1 [f 9 0 1,l 10 9,e 11 10,w 12 (.call 199 [.t 11,.c I,.c (.int .i64 60)]),t 13 12]) (.cond (.t 13) (.seq (r 2 [n 2 (.bool false)]) .ret) .skip)) (.seq (.seq (r 3 [n 3 O]) (.block 0 (.loop (.seq (.seq (r 4 [m 14 3,f 15 0 1,l 16 15,e 17 16,o 18 .lss 14 17]) (.cond (.t 18) .skip (.exit 0))) (.seq (.block 1 (.seq (r 6 [f 21 0 1,l 22 21,m 23 3,i 24 5 22 23,L 25 5 24,w 4 (.alloc [O,O,.int .u8 0,.nils,.nils]),s 5 4 25]) (.seq (.seq (r 7 [L 26 5 4,c 27 200 [26],t 28 27]) (.cond (.t 28) (.seq (r 8 [n 2 (.bool false)]) .ret) .skip)) (.seq (r 9 [w 29 (.build [O,O,.int .u8 0,.nils,.nils] []),w 5 (.alloc [O,O,.int .u8 0,.nils,.nils]),s 5 5 29]) (.seq (.seq (r 10 [m 30 3,k 31 .gtr 30 O]) (.cond (.t 31) (r 11 [f 32 0 1,l 33 32,m 34 3,k 35 .sub 34 I,i 36 5 33 35,L 37 5 36,s 5 5 37]) .skip)) (.block 2 (.seq (r 12 [f 39 0 4,l 40 39,f 41 0 5,l 42 41,o 43 .lss 40 42,m 38 43]) (.cond (.t 38) (.seq (r 13 [n 2 (.bool false)]) .ret) (.seq (r 14 [f 45 0 4,l 46 45,f 47 0 5,l 48 47,o 49 .gtr 46 48,m 44 49]) (.cond (.t 44) (.seq (r 15 [f 50 1 4,l 51 50,k 52 .neq 51 I]) (.cond (.t 52) (.seq (r 16 [n 2 (.bool false)]) .ret) .skip)) (.seq (r 17 [f 54 1 4,l 55 54,f 56 1 5,l 57 56,k 58 .add 57 I,o 59 .neq 55 58,m 60 59,g 60 false (f 61 2 4),g 60 false (l 62 61),g 60 false (f 63 2 5),g 60 false (l 64 63),g 60 false (o 65 .neq 62 64),u 66 60 65,m 53 66]) (.cond (.t 53) (.seq (r 18 [n 2 (.bool false)]) .ret) .skip)))))))))))) (r 5 [m 19 3,k 20 .add 19 I,m 3 20])))))) (.seq (r 19 [L 67 1 1,c 68 54 [67],m 6 68]) (.seq (.seq (r 20 [n 7 O]) (.block 3 (.loop (.seq (.seq (r 21 [m 69 7,f 70 0 1,l 71 70,e 72 71,o 73 .lss 69 72]) (.cond (.t 73) .skip (.exit 3))) (.seq (.block 4 (.seq (r 23 [n 8 O]) (.block 5 (.loop (.seq (.seq (r 24 [m 76 8,f 77 0 1,l 78 77,m 79 7,i 80 5 78 79,f 81 3 80,l 82 81,e 83 82,o 84 .lss 76 83]) (.cond (.t 84) .skip (.exit 5))) (.seq (.block 6 (.seq (r 26 [m 87 6,f 88 0 1,l 89 88,m 90 7,i 91 5 89 90,f 92 3 91,l 93 92,m 94 8,i 95 2 93 94,f 96 0 95,l 97 96,c 98 64 [87,97],k 99 .lss 98 O]) (.cond (.t 99) (.seq (r 27 [n 2 (.bool false)]) .ret) .skip))) (r 25 [m 85 8,k 86 .add 85 I,m 8 86]))))))) (r 22 [m 74 7,k 75 .add 74 I,m 7 75])))))) (.seq (r 28 [m 100 6,e 101 100,k 102 .leq 101 (.int .i64 20),m 2 102]) .ret)))))
def Z9y:List RRes:=[.t 2]
theorem Z9z:PCt Tryz.prog 169 Tryz.f169 Z9x Z9y:=pcT Tryz.func169 rfl (by kernel_rfl) (by kernel_rfl) (by kernel_rfl)
open Qq in
def Z9A:RCode :=
 .seq (r 0 [b 1 0,n 2 .nils]) (.seq (r 1 [L 11 1 1,c 12 54 [11],m 3 12]) (.seq (r 2 [m 13 3,e 14 13,w 15 (.mksl 1 8 [O] (.t 14)),m 4 15]) (.seq (.seq (r 3 [n 5 O]) (.block 0 (.loop (.seq (.seq (r 4 [m 16 5,m 17 3,e 18 17,o 19 .leq 16 18]) (.cond (.t 19) .skip (.exit 0))) (.seq (.block 1 (.seq (r 6 [m 22 3,e 23 22,w 24 (.mksl 1 8 [O] (.t 23)),m 6 24]) (.seq (.seq (r 7 [n 7 O]) (.block 2 (.loop (.seq (.seq (r 8 [m 25 7,f 26 0 1,l 27 26,e 28 27,o 29 .lss 25 28]) (.cond (.t 29) .skip (.exit 2))) (.seq (.block 3 (.seq (r 10 [f 32 0 1,l 33 32,m 34 7,i 35 5 33 34,L 36 5 35,w 8 (.alloc [O,O,.int .u8 0,.nils,.nils]),s 5 8 36]) (.seq (r 11 [m 37 3,f 38 0 8,l 39 38,c 40 64 [37,39],m 9 40]) (.seq (r 12 [m 41 6,m 42 9,m 43 6,m 44 9,i 45 1 43 44,l 46 45,w 47 (.mx true (.t 46) [.c I]),i 48 1 41 42,s 1 48 47]) (.seq (r 13 [n 10 O]) (.block 4 (.loop (.seq (.seq (r 14 [m 49 10,f 50 3 8,l 51 50,e 52 51,o 53 .lss 49 52]) (.cond (.t 53) .skip (.exit 4))) (.seq (.block 5 (R 16 [m 56 6,m 57 9,m 58 6,m 59 9,a [2,3] (i 60 1 58 59),a [4] (l 61 60),m 62 4,m 63 3,f 64 3 8,a [8] (l 65 64),m 66 10,a [9,10] (i 67 2 65 66),a [11] (f 68 0 67),a [12] (l 69 68),a [7,13] (c 70 64 [63,69]),a [6,14] (i 71 1 62 70),a [15] (l 72 71),a [16] (w 73 (.bin .add (.c I) (.t 72))),a [5,17] (w 74 (.mx true (.t 61) [.t 73])),a [0,1,0,1,2,3,4,5,6,7,8,9,10,11,12,13,14,15,16,17,18] (i 75 1 56 57),a [19,18,14,0,1,2,3,4,5,6,7,8,9,10,11,12,13,14,15,16,17,18] (s 1 75 74)])) (r 15 [m 54 10,k 55 .add 54 I,m 10 55])))))))))) (r 9 [m 30 7,k 31 .add 30 I,m 7 31])))))) (r 17 [m 76 6,m 4 76])))) (r 5 [m 20 5,k 21 .add 20 I,m 5 21])))))) (.seq (r 18 [m 77 4,m 2 77]) .ret))))
def Z9B:List RRes:=[.t 2]
theorem Z9C:PCt Tryz.prog 170 Tryz.f170 Z9A Z9B:=pcT Tryz.func170 rfl (by kernel_rfl) (by kernel_rfl) (by kernel_rfl)
open Qq in
def Z9D:RCode :=
 .seq (r 0 [b 1 0,n 2 O]) (.seq (.seq (r 1 [L 6 1 1,c 7 169 [6],t 8 7]) (.cond (.t 8) (.seq (r 2 [n 2 (.int .i64 20)]) .ret) .skip)) (.seq (r 3 [L 9 1 1,c 10 170 [9],m 3 10]) (.seq (r 4 [n 4 O]) (.seq (.seq (r 5 [n 5 O]) (.block 0 (.loop (.seq (.seq (r 6 [m 11 5,m 12 3,e 13 12,o 14 .lss 11 13]) (.cond (.t 14) .skip (.exit 0))) (.seq (.block 1 (r 8 [m 17 4,m 18 3,m 19 5,i 20 1 18 19,l 21 20,w 22 (.mx true (.t 17) [.t 21]),m 4 22])) (r 7 [m 15 5,k 16 .add 15 I,m 5 16])))))) (.seq (.block 2 (.seq (r 9 [m 24 4,m 25 3,e 26 25,o 27 .gtr 24 26,m 23 27]) (.cond (.t 23) (.seq (r 10 [n 2 (.int .i64 21)]) .ret) (.seq (r 11 [m 29 4,k 30 .gtr 29 (.int .i64 6),m 28 30]) (.cond (.t 28) (.seq (r 12 [n 2 (.int .i64 20)]) .ret) .skip))))) (.seq (r 13 [n 2 O]) .ret))))))
def Z9E:List RRes:=[.t 2]
theorem Z9F:PCt Tryz.prog 133 Tryz.f133 Z9D Z9E:=pcT Tryz.func133 rfl (by kernel_rfl) (by kernel_rfl) (by kernel_rfl)
open Qq in
def Z9G:RCode :=
 .seq (r 0 [b 2 0,b 3 1,w 4 (.alloc [O,O,.int .u8 0,.nils,.nils]),n 5 (.bool false)]) (.seq (.seq (r 1 [n 6 O]) (.block 0 (.loop (.seq (.seq (r 2 [m 8 6,f 9 0 2,l 10 9,e 11 10,o 12 .lss 8 11]) (.cond (.t 12) .skip (.exit 0))) (.seq (.block 1 (.seq (r 4 [f 15 0 2,l 16 15,m 17 6,i 18 5 16 17,L 19 5 18,w 7 (.alloc [O,O,.int .u8 0,.nils,.nils]),s 5 7 19]) (.seq (r 5 [f 20 0 7,l 21 20,f 22 0 3,l 23 22,o 24 .eql 21 23,m 25 24,g 25 true (f 26 1 7),g 25 true (l 27 26),g 25 true (f 28 1 3),g 25 true (l 29 28),g 25 true (o 30 .eql 27 29),v 31 25 30]) (.cond (.t 31) (.seq (r 6 [L 32 5 7,s 5 4 32,n 5 (.bool true)]) .ret) .skip)))) (r 3 [m 13 6,k 14 .add 13 I,m 6 14])))))) (.seq (r 7 [w 33 (.build [O,O,.int .u8 0,.nils,.nils] []),s 5 4 33,n 5 (.bool false)]) .ret))
def Z9H:List RRes:=[.c 4 true 5,.t 5]
theorem Z9I:PCt Tryz.prog 172 Tryz.f172 Z9G Z9H:=pcT Tryz.func172 rfl (by kernel_rfl) (by kernel_rfl) (by kernel_rfl)
open Qq in
def Z9J:RCode :=
 .seq (r 0 [n 4 (.bool false)]) (.seq (.seq (r 1 [m 6 0,e 7 6,m 8 1,e 9 8,o 10 .neq 7 9]) (.cond (.t 10) (.seq (r 2 [n 4 (.bool false)]) .ret) .skip)) (.seq (.seq (r 3 [n 5 O]) (.block 0 (.loop (.seq (.seq (r 4 [m 11 5,m 12 0,e 13 12,o 14 .lss 11 13]) (.cond (.t 14) .skip (.exit 0))) (.seq (.block 1 (.seq (R 6 [m 17 0,m 18 5,a [0,1] (i 19 1 17 18),a [2] (l 20 19),m 21 1,m 22 5,a [4,5] (i 23 1 21 22),a [6] (l 24 23),a [3,7] (o 25 .neq 20 24)]) (.cond (.t 25) (.seq (r 7 [n 4 (.bool false)]) .ret) .skip))) (r 5 [m 15 5,k 16 .add 15 I,m 5 16])))))) (.seq (r 8 [n 4 (.bool true)]) .ret)))
def Z9K:List RRes:=[.t 4]
theorem Z9L:PCt Tryz.prog 25 Tryz.f25 Z9J Z9K:=pcT Tryz.func25 rfl (by kernel_rfl) (by kernel_rfl) (by kernel_rfl)
open Qq in
def Z9M:RCode :=
 .seq (r 0 [n 4 (.bool false)]) (.seq (.seq (r 1 [m 6 0,e 7 6,m 8 1,e 9 8,o 10 .neq 7 9]) (.cond (.t 10) (.seq (r 2 [n 4 (.bool false)]) .ret) .skip)) (.seq (.seq (r 3 [n 5 O]) (.block 0 (.loop (.seq (.seq (r 4 [m 11 5,m 12 0,e 13 12,o 14 .lss 11 13]) (.cond (.t 14) .skip (.exit 0))) (.seq (.block 1 (.seq (R 6 [m 17 0,m 18 5,a [0,1] (i 19 2 17 18),a [2] (L 20 2 19),m 21 1,m 22 5,a [4,5] (i 23 2 21 22),a [6] (L 24 2 23),a [3,7] (w 25 (.eqs true [.i,.i] (.t 20) (.t 24)))]) (.cond (.t 25) (.seq (r 7 [n 4 (.bool false)]) .ret) .skip))) (r 5 [m 15 5,k 16 .add 15 I,m 5 16])))))) (.seq (r 8 [n 4 (.bool true)]) .ret)))
def Z9N:List RRes:=[.t 4]
theorem Z9O:PCt Tryz.prog 201 Tryz.f201 Z9M Z9N:=pcT Tryz.func201 rfl (by kernel_rfl) (by kernel_rfl) (by kernel_rfl)
open Qq in
def Z9P:RCode :=
 .seq (r 0 [b 2 0,b 3 1,n 4 (.bool false)]) (.seq (.seq (r 1 [f 6 0 2,l 7 6,f 8 0 3,l 9 8,o 10 .neq 7 9,m 11 10,g 11 false (f 12 1 2),g 11 false (l 13 12),g 11 false (f 14 1 3),g 11 false (l 15 14),g 11 false (o 16 .neq 13 15),u 17 11 16,m 18 17,g 18 false (f 19 2 2),g 18 false (l 20 19),g 18 false (f 21 2 3),g 18 false (l 22 21),g 18 false (o 23 .neq 20 22),u 24 18 23,m 25 24,g 25 false (f 26 3 2),g 25 false (l 27 26),g 25 false (f 28 3 3),g 25 false (l 29 28),g 25 false (c 30 201 [27,29]),g 25 false (t 31 30),u 32 25 31,m 33 32,g 33 false (f 34 4 2),g 33 false (l 35 34),g 33 false (e 36 35),g 33 false (f 37 4 3),g 33 false (l 38 37),g 33 false (e 39 38),g 33 false (o 40 .neq 36 39),u 41 33 40]) (.cond (.t 41) (.seq (r 2 [n 4 (.bool false)]) .ret) .skip)) (.seq (.seq (r 3 [n 5 O]) (.block 0 (.loop (.seq (.seq (r 4 [m 42 5,f 43 4 2,l 44 43,e 45 44,o 46 .lss 42 45]) (.cond (.t 46) .skip (.exit 0))) (.seq (.block 1 (.seq (R 6 [f 49 4 2,a [0] (l 50 49),m 51 5,a [1,2] (i 52 3 50 51),a [3] (L 53 3 52),f 54 4 3,a [5] (l 55 54),m 56 5,a [6,7] (i 57 3 55 56),a [8] (L 58 3 57),a [4,9] (w 59 (.eqs true [.i,.i,.i] (.t 53) (.t 58)))]) (.cond (.t 59) (.seq (r 7 [n 4 (.bool false)]) .ret) .skip))) (r 5 [m 47 5,k 48 .add 47 I,m 5 48])))))) (.seq (r 8 [n 4 (.bool true)]) .ret)))
def Z9Q:List RRes:=[.t 4]
theorem Z9R:PCt Tryz.prog 173 Tryz.f173 Z9P Z9Q:=pcT Tryz.func173 rfl (by kernel_rfl) (by kernel_rfl) (by kernel_rfl)
open Qq in
def Z9S:RCode :=
 .seq (r 0 [b 2 0,b 3 1,n 4 (.bool false)]) (.seq (.seq (r 1 [f 6 0 2,l 7 6,e 8 7,f 9 0 3,l 10 9,e 11 10,o 12 .neq 8 11]) (.cond (.t 12) (.seq (r 2 [n 4 (.bool false)]) .ret) .skip)) (.seq (.seq (r 3 [n 5 O]) (.block 0 (.loop (.seq (.seq (r 4 [m 13 5,f 14 0 2,l 15 14,e 16 15,o 17 .lss 13 16]) (.cond (.t 17) .skip (.exit 0))) (.seq (.block 1 (.seq (R 6 [f 20 0 2,a [0] (l 21 20),m 22 5,a [1,2] (i 23 5 21 22),a [3] (L 24 5 23),f 25 0 3,a [5] (l 26 25),m 27 5,a [6,7] (i 28 5 26 27),a [8] (L 29 5 28),a [4,9] (c 30 173 [24,29]),a [10] (t 31 30)]) (.cond (.t 31) (.seq (r 7 [n 4 (.bool false)]) .ret) .skip))) (r 5 [m 18 5,k 19 .add 18 I,m 5 19])))))) (.seq (r 8 [n 4 (.bool true)]) .ret)))
def Z9T:List RRes:=[.t 4]
theorem Z9U:PCt Tryz.prog 137 Tryz.f137 Z9S Z9T:=pcT Tryz.func137 rfl (by kernel_rfl) (by kernel_rfl) (by kernel_rfl)
open Qq in
def Z9V:RCode :=
 .seq (r 0 [b 1 0,w 2 (.alloc [O,O,.int .u8 0,.nils,.nils])]) (.seq (R 1 [w 3 (.bsl true 2 0 [] []),f 4 3 1,a [1] (l 5 4),a [0,2] (w 6 (.app 2 16 (.t 3) (.t 5))),w 7 (.bsl true 3 0 [] []),f 8 4 1,a [5] (l 9 8),a [4,6,3] (w 10 (.app 3 24 (.t 7) (.t 9))),a [0,1,2,3,5,6] (f 11 3 1),a [8,3,7,0,1,2,3,5,6] (s 1 11 6),a [0,1,2,3,4,5,6,7,8,9] (f 12 4 1),a [10,7,9,0,1,2,3,4,5,6,7,8,9] (s 1 12 10)]) (.seq (r 2 [L 13 5 1,s 5 2 13]) .ret))
def Z9W:List RRes:=[.c 2 true 5]
theorem Z9X:PCt Tryz.prog 167 Tryz.f167 Z9V Z9W:=pcT Tryz.func167 rfl (by kernel_rfl) (by kernel_rfl) (by kernel_rfl)
open Qq in
def Z9Y:RCode :=
 .seq (r 0 [b 1 0,w 2 (.alloc [.nils])]) (.seq (r 1 [w 3 (.alloc [.nils])]) (.seq (.seq (r 2 [n 4 O]) (.block 0 (.loop (.seq (.seq (r 3 [m 5 4,f 6 0 1,l 7 6,e 8 7,o 9 .lss 5 8]) (.cond (.t 9) .skip (.exit 0))) (.seq (.block 1 (R 5 [f 12 0 3,a [0] (l 13 12),f 14 0 1,a [2] (l 15 14),m 16 4,a [3,4] (i 17 5 15 16),a [5] (L 18 5 17),a [6] (c 19 167 [18]),a [7] (w 20 (.bsl false 5 1 [O,O,.int .u8 0,.nils,.nils] [(0,.t 19)])),a [1,8,7] (w 21 (.app 5 72 (.t 13) (.t 20))),a [0,1,2,3,4,5,6,7,8,9] (f 22 0 3),a [10,9,9,0,1,2,3,4,5,6,7,8,9] (s 1 22 21)])) (r 4 [m 10 4,k 11 .add 10 I,m 4 11])))))) (.seq (r 6 [L 23 1 3,s 1 2 23]) .ret)))
def Z9Z:List RRes:=[.c 2 true 1]
theorem Za0:PCt Tryz.prog 126 Tryz.f126 Z9Y Z9Z:=pcT Tryz.func126 rfl (by kernel_rfl) (by kernel_rfl) (by kernel_rfl)
open Qq in
def Za1:RCode :=
 .seq (r 0 [b 1 0,n 2 (.bool false)]) (.seq (.seq (r 1 [f 4 0 1,l 5 4,e 6 5,k 7 .gtr 6 (.int .i64 80)]) (.cond (.t 7) (.seq (r 2 [n 2 (.bool true)]) .ret) .skip)) (.seq (.seq (r 3 [n 3 O]) (.block 0 (.loop (.seq (.seq (r 4 [m 8 3,f 9 0 1,l 10 9,e 11 10,o 12 .lss 8 11]) (.cond (.t 12) .skip (.exit 0))) (.seq (.block 1 (.seq (r 6 [f 15 0 1,l 16 15,m 17 3,i 18 5 16 17,f 19 3 18,l 20 19,e 21 20,k 22 .gtr 21 (.int .i64 16),m 23 22,g 23 false (f 24 0 1),g 23 false (l 25 24),g 23 false (m 26 3),g 23 false (i 27 5 25 26),g 23 false (f 28 4 27),g 23 false (l 29 28),g 23 false (e 30 29),g 23 false (k 31 .gtr 30 (.int .i64 8)),u 32 23 31]) (.cond (.t 32) (.seq (r 7 [n 2 (.bool true)]) .ret) .skip))) (r 5 [m 13 3,k 14 .add 13 I,m 3 14])))))) (.seq (r 8 [n 2 (.bool false)]) .ret)))
def Za2:List RRes:=[.t 2]
theorem Za3:PCt Tryz.prog 125 Tryz.f125 Za1 Za2:=pcT Tryz.func125 rfl (by kernel_rfl) (by kernel_rfl) (by kernel_rfl)
theorem mixed:Tryz.prog.follows .mixedOrders=true:=by kernel_rfl
theorem Qga {R:Run} {c:RCode} {F:Exit->St->Prop} {st:St} (h:GO Tryz.prog R 1000 (.run c) [] F st):AR Tryz.prog R c st F:=Yb mixed 1000 h
theorem Qgr {R:Run} {e:Exit} {ks:List KF} {F:Exit->St->Prop} {st:St} (h:GO Tryz.prog R 1000 (.out e) ks F st):RetP Tryz.prog R ks F e st:=Z2S mixed 1000 h
def inR (n lo hi:Int):Bool:=decide (lo<=n/\n<=hi)
theorem Yf {n:Int} (h0:-9223372036854775808<=n) (h1:n<=9223372036854775807):IntKind.i64.wrap n=n:=IntWalk.i64_in _ ⟨h0,h1⟩
def RndF (S:Nat->St) (I:Nat->Prop) (i:Nat) (Φ:Exit->St->Prop):Exit->St->Prop
 |.normal,st=>Ym st (S (i+1))/\I (i+1)
 |e,st=>Φ e st
def RndE (Φ:Exit->St->Prop):Exit->St->Prop
 |.normal,_=>False
 |e,st=>Φ e st
section
variable {P:Program} {R:Run} {st:St} {Φ:Exit->St->Prop} {S:Nat->St} {I:Nat->Prop} {i:Nat}
theorem Za4:RndF S I i Φ .normal st=(Ym st (S (i+1))/\I (i+1)):=rfl
theorem Za5:RndF S I i Φ .ret st=Φ .ret st:=rfl
theorem Za6 {j:Nat}:RndF S I i Φ (.exit j) st=Φ (.exit j) st:=rfl
theorem Za7:RndE Φ .ret st=Φ .ret st:=rfl
theorem Za8 {j:Nat}:RndE Φ (.exit j) st=Φ (.exit j) st:=rfl
attribute [simp] Za4 Za5 Za6 Za7 Za8
theorem Za9 {c:RCode} (S:Nat->St) (I:Nat->Prop) (N:Nat) (h0:Ym st (S 0)) (hi:I 0) (hr:∀ i,i<N->I i->AR P R c (S i) (RndF S I i Φ)) (he:I N->AR P R c (S N) (RndE Φ)):AR P R (.loop c) st Φ:=by
 refine Z1Q S (λi=>i<=N/\I i) (λi=>N-i) 0 h0 ⟨W1f _,hi⟩ ?_;rintro i ⟨h1,h2⟩;by_cases h3:i<N
 . refine Z2I (hr i h3 h2) λe s hs=>?_
   cases e with
   |normal=>exact ⟨i+1,hs.1,⟨by omega,hs.2⟩,by show N-(i+1)<N-i;omega⟩
   |_=>exact hs
 . obtain rfl:i=N:=(by omega);refine Z2I (he h2) λe s hs=>?_
   cases e with
   |normal=>exact hs.elim
   |_=>exact hs
end
structure Iss where
 d:Int
 l:Int
 k:Int
 its:List (Int×Int)
 dms:List Dm
 deriving DecidableEq,Inhabited
def ia (n:Int):List AV:=[.int .i64 n]
def ita (p:Int×Int):List AV:=[.int .i64 p.1,.int .i64 p.2]
def dma (d:Dm):List AV:=[.int .i64 d.n,.int .i64 d.l,.int .i64 d.u]
def isa (x:Iss):List AV:=[.int .i64 x.d,.int .i64 x.l,.int .u8 x.k,.vsl (x.its.map ita),.vsl (x.dms.map dma)]
def rega (r:List Iss):AV:=.agg [.vsl (r.map isa)]
def Sml {α:Type} (l:List α):Prop:=l.length<=16777216
section
variable {G:Nat->Option (List AV)}
theorem Zaa (n lo hi:Int):PC Tryz.prog G 218 [.int .i64 n,.int .i64 lo,.int .i64 hi] (.bool (inR n lo hi)):=by
 (refine Z9h rfl λR hG hrd=>Yb mixed 1000 ?_;subst hG)
 by_cases h1:lo<=n <;> simp -implicitDefEqProofs[Z9f,Z9g,h1,inR]
theorem Zab (n l u:Int):PC Tryz.prog G 212 [.agg [.int .i64 n,.int .i64 l,.int .i64 u]] (.bool (vd ⟨n,l,u⟩)):=by
 (refine Z9k rfl λR hG hrd=>Yb mixed 1000 ?_;subst hG)
 have e:vd ⟨n,l,u⟩=(inR n 0 1000000000&&(inR u 0 1000000000&&inR l 0 u)):=by
  unfold vd inR;rw[<- Bool.decide_and,<- Bool.decide_and];exact decide_eq_decide.2 (by simp only;omega)
 simp -implicitDefEqProofs[Z9i,Z9j,e];refine Qco (Zaa _ _ _) (by simp) ?_
 cases h1:inR n 0 1000000000
 . simp -implicitDefEqProofs
 . simp -implicitDefEqProofs;refine Qco (Zaa _ _ _) (by simp) ?_
   cases h2:inR u 0 1000000000
   . simp -implicitDefEqProofs
   . simp -implicitDefEqProofs;refine Qco (Zaa _ _ _) (by simp) ?_;simp -implicitDefEqProofs
theorem Zac (n lo hi:Int):PC Tryz.prog G 199 [.int .i64 n,.int .i64 lo,.int .i64 hi] (.bool (inR n lo hi)):=by
 (refine Z9n rfl λR hG hrd=>Yb mixed 1000 ?_;subst hG)
 by_cases h1:lo<=n <;> simp -implicitDefEqProofs[Z9l,Z9m,h1,inR]
def idx (l:List Int) (n:Int):Int:=if n∈l then (l.idxOf n:Int) else -1
theorem Zad {l:List Int} {n:Int} {i:Nat} (hi:i<l.length) (he:l[i]=n) (hb:∀ j (h:j<i),l[j]≠n):idx l n=i:=by
 have hm:n∈l:=(by rw[<- he];exact W0e hi);rw[idx,if_pos hm];have h1:l.idxOf n<l.length:=List.idxOf_lt_length_iff.2 hm;have h2:l[l.idxOf n]=n:=List.getElem_idxOf h1;have h3:¬l.idxOf n<i:=λh=>hb _ h h2
 have h4:¬i<l.idxOf n:=λh=>by
  have:=List.not_of_lt_findIdx (p:=(· == n)) h;simp[he]at this
 congr 1;omega
theorem Zae {l:List Int} {n:Int} (hb:∀ j (h:j<l.length),l[j]≠n):idx l n = -1:=by
 rw[idx,if_neg];intro hm;obtain ⟨j,h1,h2⟩:=W0k hm;exact hb j h1 h2
theorem Zaf (l:List Int) (n:Int) (hl:Sml l):PC Tryz.prog G 64 [.vsl (l.map ia),.int .i64 n] (.int .i64 (idx l n)):=by
 (refine Z9w rfl λR hG hrd=>Yb mixed 1000 ?_;subst hG)
 simp -implicitDefEqProofs[Z9u,Z9v];refine Za9 (λi=>⟨[(5,.int .i64 i),(0,.vsl (l.map ia)),(1,.int .i64 n)],[]⟩) (λi=>∀ j (h:j<l.length),j<i->l[j]≠n) l.length (by (first|exact Ym.tm (by simp[lk])|exact Ym.sub (by simp[lk,Ya,AV.keys]) (by simp[lk,Yc,Ya,AV.keys]))) (by simp) ?_ ?_
 . intro i hi he;refine Yb mixed 1000 ?_;unfold Sml at hl;have w1:IntKind.i64.wrap ((i:Int)+1)=((i+1:Nat):Int):=Yf (by omega) (by omega);by_cases h2:l[i]=n
   . simp -implicitDefEqProofs[hi,ia,h2];refine Z2S mixed 1000 ?_;simp -implicitDefEqProofs[Zad hi h2 (λj h=>he j (by omega) h)]
   . simp -implicitDefEqProofs[hi,ia,h2,w1];refine ⟨(by (first|exact Ym.tm (by simp[lk])|exact Ym.sub (by simp[lk,Ya,AV.keys]) (by simp[lk,Yc,Ya,AV.keys]))),λj h1 h3=>?_⟩;by_cases e:j=i
     . subst e;exact h2
     . exact he j h1 (by omega)
 . intro he;refine Yb mixed 1000 ?_;simp -implicitDefEqProofs[];refine Z2S mixed 1000 ?_;simp -implicitDefEqProofs[Zae (λj h=>he j h h)]
theorem Zag (a b:List Int) (ha:Sml a):PC Tryz.prog G 25 [.vsl (a.map ia),.vsl (b.map ia)] (.bool (decide (a=b))):=by
 (refine Z9L rfl λR hG hrd=>Yb mixed 1000 ?_;subst hG)
 by_cases hl:a.length=b.length
 . have hl':(a.length:Int)=b.length:=(by omega);simp -implicitDefEqProofs[Z9J,Z9K,hl'];refine Za9 (λi=>⟨[(5,.int .i64 i),(0,.vsl (a.map ia)),(1,.vsl (b.map ia))],[]⟩) (λi=>∀ j (h:j<a.length),j<i->a[j]=b[j]) a.length (by (first|exact Ym.tm (by simp[lk])|exact Ym.sub (by simp[lk,Ya,AV.keys]) (by simp[lk,Yc,Ya,AV.keys]))) (by simp) ?_ ?_
   . intro i hi he;refine Yb mixed 1000 ?_;unfold Sml at ha;have hi2:i<b.length:=(by omega);have w1:IntKind.i64.wrap ((i:Int)+1)=((i+1:Nat):Int):=Yf (by omega) (by omega);by_cases h2:a[i]=b[i]
     . simp -implicitDefEqProofs[hi,hi2,ia,h2,w1];refine ⟨rfl,(by (first|exact Ym.tm (by simp[lk])|exact Ym.sub (by simp[lk,Ya,AV.keys]) (by simp[lk,Yc,Ya,AV.keys]))),λj h1 h3=>?_⟩;by_cases e:j=i
       . subst e;exact h2
       . exact he j h1 (by omega)
     . have h3:¬a=b:=λe=>h2 (by subst e;rfl)
       simp -implicitDefEqProofs[hi,hi2,ia,h2];refine ⟨rfl,?_⟩;refine Z2S mixed 1000 ?_;simp -implicitDefEqProofs[h3]
   . intro he;refine Yb mixed 1000 ?_;have h3:a=b:=W1J hl λj h1 h2=>he j h1 h1
     simp -implicitDefEqProofs[];refine Z2S mixed 1000 ?_;simp -implicitDefEqProofs[h3]
 . have hl':¬(a.length:Int)=b.length:=(by omega);have h3:¬a=b:=λe=>hl (by rw[e])
   simp -implicitDefEqProofs[Z9J,Z9K,hl',h3]
end
def nz:AV->AV
 |.nils=>.vsl []
 |.agg xs=>.agg (xs.attach.map λ⟨x,_⟩=>nz x)
 |.tup xs=>.tup (xs.attach.map λ⟨x,_⟩=>nz x)
 |x=>x
theorem nz_at (xs:List AV):(xs.attach.map λ⟨x,_⟩=>nz x)=xs.map nz:=by
 have h:(xs.attach.map λ⟨x,_⟩=>nz x)=(xs.attach.map Subtype.val).map nz:=(by rw[W10];rfl);rw[h,List.attach_map_subtype_val]
theorem Zah (xs:List AV):nz (.agg xs) = .agg (xs.map nz):=by rw[nz,nz_at]
theorem Zai (xs:List AV):nz (.tup xs) = .tup (xs.map nz):=by rw[nz,nz_at]
theorem PV.nz {M:Nat->Prop} {W:World} {x:AV} {v:Value} (h:PV M W x v):PV M W (nz x) v:=by
 induction h with
 |nils=>simp only[Go.Proofs.YtcdlimgkliklhaaGreatDoor.nz];exact .vsl [] none 0 1 0 0 (λ_ _=>undef) (W0f _) (W1f _) (λh=>absurd rfl h) (λ_=>⟨rfl,rfl⟩) (by simp) (by simp) (by simp)
 | agg xs us h1 hx ih =>
   rw[Zah];refine .agg _ us (by simpa using h1) λi x u hi hu=>?_
   rw[W09,W04]at hi;obtain ⟨y,hy,rfl⟩:=hi;exact ih i y u hy hu
 | tup xs us h1 hx ih =>
   rw[Zai];refine .tup _ us (by simpa using h1) λi x u hi hu=>?_
   rw[W09,W04]at hi;obtain ⟨y,hy,rfl⟩:=hi;exact ih i y u hy hu
 |hole=>simp only[Go.Proofs.YtcdlimgkliklhaaGreatDoor.nz];exact .hole
 |int k n=>simp only[Go.Proofs.YtcdlimgkliklhaaGreatDoor.nz];exact .int k n
 |bool b=>simp only[Go.Proofs.YtcdlimgkliklhaaGreatDoor.nz];exact .bool b
 |abool b=>simp only[Go.Proofs.YtcdlimgkliklhaaGreatDoor.nz];exact .abool b
 |str s=>simp only[Go.Proofs.YtcdlimgkliklhaaGreatDoor.nz];exact .str s
 |nilp=>simp only[Go.Proofs.YtcdlimgkliklhaaGreatDoor.nz];exact .nilp
 |nilm=>simp only[Go.Proofs.YtcdlimgkliklhaaGreatDoor.nz];exact .nilm
 |nilf=>simp only[Go.Proofs.YtcdlimgkliklhaaGreatDoor.nz];exact .nilf
 |vptr cells off b o f hb hM hc hr ih=>simp only[Go.Proofs.YtcdlimgkliklhaaGreatDoor.nz];exact .vptr cells off b o f hb hM hc hr
 |vsl rows a cap sz b o f hcap hmax ha hn hs hc hr ih=>simp only[Go.Proofs.YtcdlimgkliklhaaGreatDoor.nz];exact .vsl rows a cap sz b o f hcap hmax ha hn hs hc hr
 |func fn xs ys us vs h1 h2 hx hy ihx ihy=>simp only[Go.Proofs.YtcdlimgkliklhaaGreatDoor.nz];exact .func fn xs ys us vs h1 h2 hx hy
 |vmap kvs b es clock hb hM ho hs hn hk' hv ihk ihv=>simp only[Go.Proofs.YtcdlimgkliklhaaGreatDoor.nz];exact .vmap kvs b es clock hb hM ho hs hn hk' hv
theorem PC.nzR {P:Program} {G:Nat->Option (List AV)} {f:FuncId} {args:List AV} {v v':AV} (h:PC P G f args v) (e:nz v=v'):PC P G f args v':=by
 subst e;refine ⟨h.1,λM W vs hM hG hs hv=>(h.2 M W vs hM hG hs hv).mono ?_⟩;rintro e W' ⟨u,h1,h2,h3⟩;exact ⟨u,h1,h2.nz,h3⟩
theorem Zaj {a b:Int×Int} (h:¬a=b):(!decide (a.1=b.1) || !decide (a.2=b.2))=true:=by
 cases h5:(!decide (a.1=b.1) || !decide (a.2=b.2))
 . simp only[W1U,Bool.not_eq_false',W0b]at h5;exact absurd (Prod.ext h5.1 h5.2) h
 . rfl
theorem dm_ne {a b:Dm} (h:¬a=b):(!decide (a.n=b.n)||(!decide (a.l=b.l) || !decide (a.u=b.u)))=true:=by
 cases h5:(!decide (a.n=b.n)||(!decide (a.l=b.l) || !decide (a.u=b.u)))
 . simp only[W1U,Bool.not_eq_false',W0b]at h5
   cases a;cases b;simp_all
 . rfl
section
variable {G:Nat->Option (List AV)}
theorem Zak (a b:List (Int×Int)) (ha:Sml a):PC Tryz.prog G 201 [.vsl (a.map ita),.vsl (b.map ita)] (.bool (decide (a=b))):=by
 (refine Z9O rfl λR hG hrd=>Qga ?_;subst hG)
 by_cases hl:a.length=b.length
 . have hl':(a.length:Int)=b.length:=(by omega);simp -implicitDefEqProofs[Z9M,Z9N,hl'];refine Za9 (λi=>⟨[(5,.int .i64 i),(0,.vsl (a.map ita)),(1,.vsl (b.map ita))],[]⟩) (λi=>∀ j (h:j<a.length),j<i->a[j]=b[j]) a.length (by (first|exact Ym.tm (by simp[lk])|exact Ym.sub (by simp[lk,Ya,AV.keys]) (by simp[lk,Yc,Ya,AV.keys]))) (by simp) ?_ ?_
   . intro i hi he;refine Qga ?_;unfold Sml at ha;have hi2:i<b.length:=(by omega);have w1:IntKind.i64.wrap ((i:Int)+1)=((i+1:Nat):Int):=Yf (by omega) (by omega);simp -implicitDefEqProofs[hi,hi2,ita];refine ⟨rfl,?_⟩;by_cases h2:a[i]=b[i]
     . simp -implicitDefEqProofs[h2,w1];refine ⟨(by (first|exact Ym.tm (by simp[lk])|exact Ym.sub (by simp[lk,Ya,AV.keys]) (by simp[lk,Yc,Ya,AV.keys]))),λj h1 h3=>?_⟩;by_cases e:j=i
       . subst e;exact h2
       . exact he j h1 (by omega)
     . have h3:¬a=b:=λe=>h2 (by subst e;rfl)
       rw[Zaj h2];simp -implicitDefEqProofs[];refine Qgr ?_;simp -implicitDefEqProofs[h3]
   . intro he;refine Qga ?_;have h3:a=b:=W1J hl λj h1 h2=>he j h1 h1
     simp -implicitDefEqProofs[];refine Qgr ?_;simp -implicitDefEqProofs[h3]
 . have hl':¬(a.length:Int)=b.length:=(by omega);have h3:¬a=b:=λe=>hl (by rw[e])
   simp -implicitDefEqProofs[Z9M,Z9N,hl',h3]
theorem Zal (a b:Iss) (h1:Sml a.its) (h2:Sml a.dms):PC Tryz.prog G 173 [.agg (isa a),.agg (isa b)] (.bool (decide (a=b))):=by
 (refine Z9R rfl λR hG hrd=>Qga ?_;subst hG)
 by_cases e1:a.d=b.d
 case neg =>
  have e:¬a=b:=λe=>e1 (by rw[e])
  simp -implicitDefEqProofs[Z9P,Z9Q,isa,e1,e]
 by_cases e2:a.l=b.l
 case neg =>
  have e:¬a=b:=λe=>e2 (by rw[e])
  simp -implicitDefEqProofs[Z9P,Z9Q,isa,e1,e2,e]
 by_cases e3:a.k=b.k
 case neg =>
  have e:¬a=b:=λe=>e3 (by rw[e])
  simp -implicitDefEqProofs[Z9P,Z9Q,isa,e1,e2,e3,e]
 simp -implicitDefEqProofs[Z9P,Z9Q,isa,e1,e2,e3];refine Qco (Zak a.its b.its h1) (by simp) ?_;by_cases e4:a.its=b.its
 case neg =>
  have e:¬a=b:=λe=>e4 (by rw[e])
  simp -implicitDefEqProofs[e4,e]
 by_cases e5:a.dms.length=b.dms.length
 case neg =>
  have e5':¬(a.dms.length:Int)=b.dms.length:=(by omega);have e:¬a=b:=λe=>e5 (by rw[e])
  simp -implicitDefEqProofs[e4,e5',e]
 have e5':(a.dms.length:Int)=b.dms.length:=(by omega);simp -implicitDefEqProofs[e4,e5'];refine Za9 (λi=>⟨[(5,.int .i64 i),(2,.ptr 2 0),(3,.ptr 3 0)],[(2,.box (isa a)),(3,.box (isa b))]⟩) (λi=>∀ j (h:j<a.dms.length),j<i->a.dms[j]=b.dms[j]) a.dms.length (by (first|exact Ym.tm (by simp[lk,isa,e1,e2,e3,e4])|exact Ym.sub (by simp[lk,Ya,AV.keys,isa,e1,e2,e3,e4]) (by simp[lk,Yc,Ya,AV.keys,isa,e1,e2,e3,e4]))) (by simp) ?_ ?_
 . intro i hi he;refine Qga ?_;unfold Sml at h2;have hi2:i<b.dms.length:=(by omega);have w1:IntKind.i64.wrap ((i:Int)+1)=((i+1:Nat):Int):=Yf (by omega) (by omega);simp -implicitDefEqProofs[hi,hi2,isa,dma];refine ⟨rfl,?_⟩;by_cases h2:a.dms[i]=b.dms[i]
   . simp -implicitDefEqProofs[h2,w1];refine ⟨(by (first|exact Ym.tm (by simp[lk,isa,dma])|exact Ym.sub (by simp[lk,Ya,AV.keys,isa,dma]) (by simp[lk,Yc,Ya,AV.keys,isa,dma]))),λj h1 h3=>?_⟩;by_cases e:j=i
     . subst e;exact h2
     . exact he j h1 (by omega)
   . have h3:¬a=b:=λe=>h2 (by subst e;rfl)
     rw[dm_ne h2];simp -implicitDefEqProofs[];refine Qgr ?_;simp -implicitDefEqProofs[h3]
 . intro he;refine Qga ?_;have h3:a.dms=b.dms:=W1J e5 λj h1 h2=>he j h1 h1
   have h4:a=b:=(by cases a;cases b;simp_all);simp -implicitDefEqProofs[isa];refine Qgr ?_;simp -implicitDefEqProofs[h4]
def SmlR (r:List Iss):Prop:=Sml r/\∀ x∈r,Sml x.its/\Sml x.dms
theorem Zam (a b:List Iss) (ha:SmlR a):PC Tryz.prog G 137 [rega a,rega b] (.bool (decide (a=b))):=by
 (refine Z9U rfl λR hG hrd=>Qga ?_;subst hG)
 by_cases hl:a.length=b.length
 . have hl':(a.length:Int)=b.length:=(by omega);simp -implicitDefEqProofs[Z9S,Z9T,hl',rega];refine Za9 (λi=>⟨[(5,.int .i64 i),(2,.ptr 2 0),(3,.ptr 3 0)],[(2,.box [.vsl (a.map isa)]),(3,.box [.vsl (b.map isa)])]⟩) (λi=>∀ j (h:j<a.length),j<i->a[j]=b[j]) a.length (by (first|exact Ym.tm (by simp[lk])|exact Ym.sub (by simp[lk,Ya,AV.keys]) (by simp[lk,Yc,Ya,AV.keys]))) (by simp) ?_ ?_
   . intro i hi he;refine Qga ?_;have hs:=ha.1;unfold Sml at hs;have hi2:i<b.length:=(by omega);have w1:IntKind.i64.wrap ((i:Int)+1)=((i+1:Nat):Int):=Yf (by omega) (by omega);have hx:=ha.2 a[i] (W0e hi);simp -implicitDefEqProofs[hi,hi2,isa];refine Qco (Zal a[i] b[i] hx.1 hx.2) (by simp) ?_;simp -implicitDefEqProofs[];refine ⟨rfl,?_⟩;by_cases h2:a[i]=b[i]
     . simp -implicitDefEqProofs[h2,w1];refine ⟨(by (first|exact Ym.tm (by simp[lk])|exact Ym.sub (by simp[lk,Ya,AV.keys]) (by simp[lk,Yc,Ya,AV.keys]))),λj h1 h3=>?_⟩;by_cases e:j=i
       . subst e;exact h2
       . exact he j h1 (by omega)
     . have h3:¬a=b:=λe=>h2 (by subst e;rfl)
       simp -implicitDefEqProofs[h2];refine Qgr ?_;simp -implicitDefEqProofs[h3]
   . intro he;refine Qga ?_;have h3:a=b:=W1J hl λj h1 h2=>he j h1 h1
     simp -implicitDefEqProofs[];refine Qgr ?_;simp -implicitDefEqProofs[h3]
 . have hl':¬(a.length:Int)=b.length:=(by omega);have h3:¬a=b:=λe=>hl (by rw[e])
   simp -implicitDefEqProofs[Z9S,Z9T,hl',h3,rega]
end
def at' (r:List Iss) (i:Nat):Iss:=r.getD i default
theorem at_eq {r:List Iss} {i:Nat} (h:i<r.length):at' r i=r[i]:=by simp[at',List.getD,h]
def newB (r:List Iss) (i:Nat):Bool:=i == 0 || !decide ((at' r (i-1)).d=(at' r i).d)
def numsN (r:List Iss):Nat->List Int
 |0=>[]
 |i+1=>if newB r i=true then numsN r i++[(at' r i).d] else numsN r i
def nums (r:List Iss):List Int:=numsN r r.length
theorem Zan (r:List Iss):∀ i,(numsN r i).length<=i
 |0=>by simp[numsN]
 | i+1=>by
   have:=Zan r i;simp only[numsN]
   split
   . simp;omega
   . omega
def lastN (r:List Iss) (n:Int):Nat->Int
 |0=>0
 |i+1=>if (at' r i).d=n then max (lastN r n i) (at' r i).l else lastN r n i
def lastV (r:List Iss) (n:Int):Int:=lastN r n r.length
def findN (d l:Int):List Iss->Option Iss
 |[]=>none
 |x::r=>if x.d=d/\x.l=l then some x else findN d l r
def noIs:AV:=.agg [.int .i64 0,.int .i64 0,.int .u8 0,.nils,.nils]
def fndA:Option Iss->AV
 |some x=>.tup [.agg (isa x),.bool true]
 |none=>.tup [noIs,.bool false]
def Zao (r:List Iss):Bool:=decide (80<r.length)||r.any λx=>decide (16<x.its.length)||decide (8<x.dms.length)
theorem Zap {d l:Int}:∀ {r:List Iss} {i:Nat} (h:i<r.length),r[i].d=d->r[i].l=l->(∀ j (h:j<r.length),j<i->¬(r[j].d=d/\r[j].l=l))->findN d l r=some r[i]
 |x::r,0,h,h1,h2,_=>by simp only[findN];rw[if_pos ⟨h1,h2⟩];rfl
 | x::r,i+1,h,h1,h2,hb=>by
   simp only[findN];rw[if_neg (show ¬(x.d=d/\x.l=l) from hb 0 (by simp) (by omega))];exact Zap (by simpa using h) h1 h2 λj hj hi=>hb (j+1) (by simpa using hj) (by omega)
theorem Zaq {d l:Int}:∀ {r:List Iss},(∀ j (h:j<r.length),¬(r[j].d=d/\r[j].l=l))->findN d l r=none
 |[],_=>rfl
 | x::r,hb=>by
   simp only[findN];rw[if_neg (show ¬(x.d=d/\x.l=l) from hb 0 (by simp))];exact Zaq λj hj=>hb (j+1) (by simpa using hj)
section
variable {G:Nat->Option (List AV)}
theorem Zar (x:Iss) (h1:Sml x.its) (h2:Sml x.dms):PC Tryz.prog G 167 [.agg (isa x)] (.agg (isa x)):=by
 (refine Z9X rfl λR hG hrd=>Qga ?_;subst hG)
 unfold Sml at h1 h2;have b1:x.its.length*16<=70368744177664:=(by omega);have b2:x.dms.length*24<=70368744177664:=(by omega);have k1:(x.its.map ita).all (λr=>r.length == 2)=true:=(by simp[ita]);have k2:(x.its.map ita).all (λr=>r.all AV.one)=true:=(by simp[ita,AV.one]);have k3:(x.dms.map dma).all (λr=>r.length == 3)=true:=(by simp[dma]);have k4:(x.dms.map dma).all (λr=>r.all AV.one)=true:=(by simp[dma,AV.one]);have k5:(x.its.map ita).all (λr=>r.all AV.pure)=true:=(by simp[ita,AV.pure]);have k6:(x.dms.map dma).all (λr=>r.all AV.pure)=true:=(by simp[dma,AV.pure]);by_cases e1:x.its=[] <;> by_cases e2:x.dms=[]
 . simp -implicitDefEqProofs[Z9V,Z9W,isa,e1,e2]
   try rfl
 . simp -implicitDefEqProofs[Z9V,Z9W,isa,e1,e2,b2,k3,k4,k6]
   try rfl
 . simp -implicitDefEqProofs[Z9V,Z9W,isa,e1,e2,b1,k1,k2,k5]
   try rfl
 . simp -implicitDefEqProofs[Z9V,Z9W,isa,e1,e2,b1,b2,k1,k2,k3,k4,k5,k6]
   try rfl
theorem Zas (r:List Iss) (h:Sml r):PC Tryz.prog G 125 [rega r] (.bool (Zao r)):=by
 (refine Za3 rfl λR hG hrd=>Qga ?_;subst hG)
 unfold Sml at h;by_cases h1:80<r.length
 . have h1':(80:Int)<r.length:=(by omega);simp -implicitDefEqProofs[Za1,Za2,rega,h1',Zao,h1]
 have h1':¬(80:Int)<r.length:=(by omega);simp -implicitDefEqProofs[Za1,Za2,rega,h1'];refine Za9 (λi=>⟨[(3,.int .i64 i),(1,.ptr 1 0)],[(1,.box [.vsl (r.map isa)])]⟩) (λi=>∀ j (h:j<r.length),j<i->r[j].its.length<=16/\r[j].dms.length<=8) r.length (by (first|exact Ym.tm (by simp[lk])|exact Ym.sub (by simp[lk,Ya,AV.keys]) (by simp[lk,Yc,Ya,AV.keys]))) (by simp) ?_ ?_
 . intro i hi he;refine Qga ?_;have w1:IntKind.i64.wrap ((i:Int)+1)=((i+1:Nat):Int):=Yf (by omega) (by omega)
   have bad:(16<r[i].its.length∨8<r[i].dms.length)->Zao r=true:=λhb=>by
    simp only[Zao,W0T,W14,W0b];exact .inr ⟨r[i],W0e hi,hb⟩
   by_cases h2:16<r[i].its.length
   . have h2':(16:Int)<r[i].its.length:=(by omega);simp -implicitDefEqProofs[hi,isa,h2'];refine Qgr ?_;simp -implicitDefEqProofs[bad (.inl h2)]
   have h2':¬(16:Int)<r[i].its.length:=(by omega);by_cases h3:8<r[i].dms.length
   . have h3':(8:Int)<r[i].dms.length:=(by omega);simp -implicitDefEqProofs[hi,isa,h2',h3'];refine Qgr ?_;simp -implicitDefEqProofs[bad (.inr h3)]
   have h3':¬(8:Int)<r[i].dms.length:=(by omega);simp -implicitDefEqProofs[hi,isa,h2',h3',w1];refine ⟨(by (first|exact Ym.tm (by simp[lk])|exact Ym.sub (by simp[lk,Ya,AV.keys]) (by simp[lk,Yc,Ya,AV.keys]))),λj q1 q3=>?_⟩;by_cases e:j=i
   . subst e;exact ⟨by omega,by omega⟩
   . exact he j q1 (by omega)
 . intro he;refine Qga ?_
   have hg:Zao r=false:=by
    simp only[Zao,W1U,W1b,h1,not_false_eq_true,true_and,W27,Bool.not_eq_true,W0T,W0b];intro x hx;obtain ⟨j,hj,rfl⟩:=W0k hx;have:=he j hj hj;omega
   simp -implicitDefEqProofs[];refine Qgr ?_;simp -implicitDefEqProofs[hg]
theorem Zat (r:List Iss) (d l:Int) (h:Sml r):PC Tryz.prog G 172 [rega r,.agg [.int .i64 d,.int .i64 l]] (fndA (findN d l r)):=by
 (refine Z9I rfl λR hG hrd=>Qga ?_;subst hG)
 unfold Sml at h;simp -implicitDefEqProofs[Z9G,Z9H,rega];refine Za9 (λi=>⟨[(6,.int .i64 i),(2,.ptr 2 0),(3,.ptr 3 0),(4,.ptr 4 0)],[(2,.box [.vsl (r.map isa)]),(3,.box [.int .i64 d,.int .i64 l]),(4,.box [.int .i64 0,.int .i64 0,.int .u8 0,.nils,.nils])]⟩) (λi=>∀ j (h:j<r.length),j<i->¬(r[j].d=d/\r[j].l=l)) r.length (by (first|exact Ym.tm (by simp[lk])|exact Ym.sub (by simp[lk,Ya,AV.keys]) (by simp[lk,Yc,Ya,AV.keys]))) (by simp) ?_ ?_
 . intro i hi he;refine Qga ?_;have w1:IntKind.i64.wrap ((i:Int)+1)=((i+1:Nat):Int):=Yf (by omega) (by omega)
   have go:¬(r[i].d=d/\r[i].l=l)->∀ j (h:j<r.length),j<i+1->¬(r[j].d=d/\r[j].l=l):=λhb j q1 q2=>by
    by_cases e:j=i
    . subst e;exact hb
    . exact he j q1 (by omega)
   by_cases h2:r[i].d=d
   . by_cases h3:r[i].l=l
     . simp -implicitDefEqProofs[hi,isa,h2,h3];refine Qgr ?_;simp -implicitDefEqProofs[Zap hi h2 h3 he,fndA,isa,h2,h3]
     . simp -implicitDefEqProofs[hi,isa,h2,h3,w1];exact ⟨(by (first|exact Ym.tm (by simp[lk])|exact Ym.sub (by simp[lk,Ya,AV.keys]) (by simp[lk,Yc,Ya,AV.keys]))),λj q1 q2 q3 q4=>go (λe=>h3 e.2) j q1 q2 ⟨q3,q4⟩⟩
   . simp -implicitDefEqProofs[hi,isa,h2,w1];exact ⟨(by (first|exact Ym.tm (by simp[lk])|exact Ym.sub (by simp[lk,Ya,AV.keys]) (by simp[lk,Yc,Ya,AV.keys]))),λj q1 q2 q3 q4=>go (λe=>h2 e.1) j q1 q2 ⟨q3,q4⟩⟩
 . intro he;refine Qga ?_;simp -implicitDefEqProofs[];refine Qgr ?_;simp -implicitDefEqProofs[Zaq (λj hj=>he j hj hj),fndA,noIs]
end
def itAt (x:Iss) (i:Nat):Int×Int:=x.its.getD i (0,0)
def itOk (x:Iss) (i:Nat):Bool:=inR (itAt x i).1 1 9999&&inR (itAt x i).2 1 20 && !decide ((itAt x i).1=x.d)&&(i == 0||decide ((itAt x (i-1)).1<(itAt x i).1))
def headB (x:Iss):Bool:=inR x.d 1 9999&&inR x.l 1 8&&inR x.k 1 3&&(if x.k=1 then inR x.its.length 1 8&&decide (x.dms.length=0) else decide (x.dms.length<=4)&&decide (x.its.length=0))
def issB (x:Iss):Bool:=headB x&&(List.range x.its.length).all (itOk x)&&x.dms.all vd
theorem Zau {n:Nat} {p:Nat->Bool}:(List.range n).all p=true↔∀ j,j<n->p j=true:=by simp[W03]
section
variable {G:Nat->Option (List AV)}
def nuS (r:List Iss):Nat->St
 |0=>⟨[(4,.int .i64 0),(3,.nils),(1,.ptr 1 0)],[(1,.box [.vsl (r.map isa)])]⟩
 |i+1=>⟨[(4,.int .i64 (i+1:Nat)),(3,.osl 35 (numsN r (i+1)).length),(1,.ptr 1 0)],[(1,.box [.vsl (r.map isa)]),(35,.row 1 ((numsN r (i+1)).map ia))]⟩
theorem Zav (r:List Iss) (h:Sml r) (h0:r≠[]):PC Tryz.prog G 54 [rega r] (.vsl ((nums r).map ia)):=by
 (refine Z9t rfl λR hG hrd=>Qga ?_;subst hG)
 unfold Sml at h;simp -implicitDefEqProofs[Z9r,Z9s,rega];refine Za9 (nuS r) (λ_=>True) r.length (by simp only[nuS];(first|exact Ym.tm (by simp[lk])|exact Ym.sub (by simp[lk,Ya,AV.keys]) (by simp[lk,Yc,Ya,AV.keys]))) trivial ?_ ?_
 . intro i hi he;refine Qga ?_;have e1:=at_eq hi
   cases i with
   | zero =>
     have hn:numsN r 1=[r[0].d]:=(by simp[numsN,newB,e1]);have w1:IntKind.i64.wrap 1=1:=rfl;simp -implicitDefEqProofs[nuS,hi,isa,w1];exact Ym.sub (by simp[lk,Ya,AV.keys,hn]) (by simp[lk,Yc,Ya,AV.keys,hn,ia])
   | succ i =>
     have w1:IntKind.i64.wrap ((i:Int)+1+1)=(i:Int)+1+1:=Yf (by omega) (by omega);have w2:IntKind.i64.wrap (i:Int)=(i:Int):=Yf (by omega) (by omega);have k1:(i:Int)+1<r.length:=(by omega);have k2:((i:Int)+1).toNat=i+1:=(by omega);have k3:(0:Int)<=(i:Int)+1:=(by omega);have k4:¬(i:Int)+1=0:=(by omega);have hi2:i<r.length:=(by omega);have e2:=at_eq hi2;have b1:=Zan r (i+1);have b2:((numsN r (i+1)).length+1)*8<=70368744177664:=(by omega);by_cases h2:r[i].d=r[i+1].d
     . have hn:numsN r (i+1+1)=numsN r (i+1):=(by rw[numsN];simp[newB,e1,e2,h2]);simp -implicitDefEqProofs[nuS,hi,hi2,k1,k2,k3,k4,isa,w1,w2,h2];exact Ym.sub (by simp[lk,Ya,AV.keys,hn]) (by simp[lk,Yc,Ya,AV.keys,hn,ia])
     . have hn:numsN r (i+1+1)=numsN r (i+1)++[r[i+1].d]:=(by rw[numsN];simp[newB,e1,e2,h2]);simp -implicitDefEqProofs[nuS,hi,hi2,k1,k2,k3,k4,isa,w1,w2,h2,b2];exact Ym.sub (by simp[lk,Ya,AV.keys,hn]) (by simp[lk,Yc,Ya,AV.keys,hn,ia])
 . intro he;refine Qga ?_
   obtain ⟨n,hn⟩ : ∃ n,r.length=n+1:=⟨r.length-1,by
    have:r.length≠0:=(by simpa using h0);omega⟩
   have e:numsN r (n+1)=nums r:=(by rw[nums,hn]);have pu:((nums r).map ia).all (λx=>x.all AV.pure)=true:=(by simp[ia,AV.pure]);rw[hn];have k1:¬(n:Int)+1<n+1:=(by omega);simp -implicitDefEqProofs[nuS,e,hn,k1];refine Qgr ?_;simp -implicitDefEqProofs[pu]
theorem Zaw (x:Iss) (h1:Sml x.its) (h2:Sml x.dms) (hk:0<=x.k/\x.k<=255):PC Tryz.prog G 200 [.agg (isa x)] (.bool (issB x)):=by
 (refine Z9q rfl λR hG hrd=>Qga ?_;subst hG)
 unfold Sml at h1 h2;have wk:IntKind.i64.wrap x.k=x.k:=Yf (by omega) (by omega);have bad:headB x=false->issB x=false:=λe=>by simp[issB,e]
 simp -implicitDefEqProofs[Z9o,Z9p,isa];refine Qco (Zac _ _ _) (by simp) ?_
 cases q1:inR x.d 1 9999
 . simp -implicitDefEqProofs[bad (by simp[headB,q1])]
 simp -implicitDefEqProofs[];refine Qco (Zac _ _ _) (by simp) ?_
 cases q2:inR x.l 1 8
 . simp -implicitDefEqProofs[bad (by simp[headB,q2])]
 simp -implicitDefEqProofs[wk];refine Qco (Zac _ _ _) (by simp) ?_
 cases q3:inR x.k 1 3
 . simp -implicitDefEqProofs[bad (by simp[headB,q3])]
 have q3':1<=x.k/\x.k<=3:=W0X q3;by_cases c1:x.k=1
 . simp -implicitDefEqProofs [c1];refine Qco (Zac _ _ _) (by simp) ?_
   cases q4:inR x.its.length 1 8
   . simp -implicitDefEqProofs[bad (by simp[headB,q4,c1])]
   have n1:¬(1:Int)<1:=(by omega);by_cases q5:x.dms.length=0
   . have q5n : ¬0<x.dms.length:=(by omega);have hB:headB x=true:=(by simp[headB,q1,q2,c1,q4,q5];rfl);simp -implicitDefEqProofs[q5n,q5];refine Za9 (λi=>⟨[(3,.int .i64 i),(1,.ptr 1 0)],[(1,.box (isa x))]⟩) (λi=>∀ j,j<i->itOk x j=true) x.its.length (by (first|exact Ym.tm (by simp[lk,isa,c1])|exact Ym.sub (by simp[lk,Ya,AV.keys,isa,c1]) (by simp[lk,Yc,Ya,AV.keys,isa,c1]))) (by simp) ?_ ?_
     . intro i hi he;refine Qga ?_;have w1:IntKind.i64.wrap ((i:Int)+1)=((i+1:Nat):Int):=Yf (by omega) (by omega);have a1:itAt x i=x.its[i]:=by simp[itAt,List.getD,hi]
       have no:itOk x i=false->issB x=false:=λe=>by
        cases hI:issB x
        . rfl
        . simp only[issB,W01]at hI;rw[Zau.1 hI.1.2 i hi]at e;cases e
       simp -implicitDefEqProofs[hi,isa,ita];refine Qco (Zac _ _ _) (by simp) ?_
       cases p1:inR x.its[i].1 1 9999
       . simp -implicitDefEqProofs[];refine ⟨rfl,?_⟩;refine Qgr ?_;simp -implicitDefEqProofs[no (by simp[itOk,a1,p1])]
       simp -implicitDefEqProofs[];refine Qco (Zac _ _ _) (by simp) ?_
       cases p2:inR x.its[i].2 1 20
       . simp -implicitDefEqProofs[];refine ⟨rfl,?_⟩;refine Qgr ?_;simp -implicitDefEqProofs[no (by simp[itOk,a1,p2])]
       by_cases p3:x.its[i].1=x.d
       . simp -implicitDefEqProofs[p3];refine ⟨rfl,?_⟩;refine Qgr ?_;simp -implicitDefEqProofs[no (by simp[itOk,a1,p3])]
       cases i with
       | zero =>
         have ok:itOk x 0=true:=(by simp[itOk,a1,p1,p2,p3]);have w0:IntKind.i64.wrap 1=1:=rfl;simp -implicitDefEqProofs[p3,w0];exact ⟨rfl,(by (first|exact Ym.tm (by simp[lk,isa])|exact Ym.sub (by simp[lk,Ya,AV.keys,isa]) (by simp[lk,Yc,Ya,AV.keys,isa]))),ok⟩
       | succ i =>
         have w2:IntKind.i64.wrap (i:Int)=(i:Int):=Yf (by omega) (by omega);have w3:IntKind.i64.wrap ((i:Int)+1+1)=(i:Int)+1+1:=Yf (by omega) (by omega);have k3:(0:Int)<(i:Int)+1:=(by omega);have hi2:i<x.its.length:=(by omega);have a2:itAt x i=x.its[i]:=(by simp[itAt,List.getD,hi2]);by_cases p4:x.its[i+1].1<=x.its[i].1
         . simp -implicitDefEqProofs[p3,k3,w2,hi2,ita,p4];refine ⟨rfl,?_⟩;refine Qgr ?_;simp -implicitDefEqProofs[no (by simp[itOk,a1,a2,p4])]
         . have ok:itOk x (i+1)=true:=(by simp[itOk,a1,a2,p1,p2,p3];omega);simp -implicitDefEqProofs[p3,k3,w2,w3,hi2,ita,p4];refine ⟨rfl,(by (first|exact Ym.tm (by simp[lk,isa])|exact Ym.sub (by simp[lk,Ya,AV.keys,isa]) (by simp[lk,Yc,Ya,AV.keys,isa]))),λj hj=>?_⟩;by_cases e:j=i+1
           . subst e;exact ok
           . exact he j (by omega)
     . intro he;refine Qga ?_;have hI:(List.range x.its.length).all (itOk x)=true:=Zau.2 he;simp -implicitDefEqProofs[isa];refine Qgr ?_;simp -implicitDefEqProofs[];refine Za9 (λi=>⟨[(5,.int .i64 i),(1,.ptr 1 0)],[(1,.box (isa x))]⟩) (λi=>∀ j (h:j<x.dms.length),j<i->vd x.dms[j]=true) x.dms.length (by (first|exact Ym.tm (by simp[lk,isa])|exact Ym.sub (by simp[lk,Ya,AV.keys,isa]) (by simp[lk,Yc,Ya,AV.keys,isa]))) (by simp) ?_ ?_
       . intro i hi he;refine Qga ?_;have w1:IntKind.i64.wrap ((i:Int)+1)=((i+1:Nat):Int):=Yf (by omega) (by omega);simp -implicitDefEqProofs[hi,isa,dma];refine Qco (Zab _ _ _) (by simp) ?_
         cases p1:vd x.dms[i]
         . have hn:issB x=false:=by
            cases hI2:issB x
            . rfl
            . simp only[issB,W01]at hI2;rw[W03.1 hI2.2 _ (W0e hi)]at p1;cases p1
           have p1':vd ⟨x.dms[i].n,x.dms[i].l,x.dms[i].u⟩=false:=p1;simp -implicitDefEqProofs[p1'];refine Qgr ?_;simp -implicitDefEqProofs[hn]
         . have p1':vd ⟨x.dms[i].n,x.dms[i].l,x.dms[i].u⟩=true:=p1;simp -implicitDefEqProofs[p1',w1];refine ⟨(by (first|exact Ym.tm (by simp[lk,isa])|exact Ym.sub (by simp[lk,Ya,AV.keys,isa]) (by simp[lk,Yc,Ya,AV.keys,isa]))),λj h1 hj=>?_⟩;by_cases e:j=i
           . subst e;exact p1
           . exact he j h1 (by omega)
       . intro hd;refine Qga ?_
         have hD:x.dms.all vd=true:=W03.2 λy hy=>by
          obtain ⟨j,hj,rfl⟩:=W0k hy;exact hd j hj hj
         have hT:issB x=true:=(by simp[issB,hB,hI,hD]);simp -implicitDefEqProofs[isa];refine Qgr ?_;simp -implicitDefEqProofs[hT]
   . have q5n:0<x.dms.length:=(by omega);simp -implicitDefEqProofs[q5n,bad (by simp[headB,q5,c1])]
 . have c2 : 1<x.k:=(by omega);by_cases q4:x.dms.length<=4
   case neg =>
    have q4n:4<x.dms.length:=(by omega);have q4i:(4:Int)<x.dms.length:=(by omega);simp -implicitDefEqProofs[c1,c2,q4n,q4i,bad (by simp[headB,q4,c1])]
   have q4n:¬4<x.dms.length:=(by omega);have q4i:¬(4:Int)<x.dms.length:=(by omega);by_cases q5:x.its.length=0
   . have q5n : ¬0<x.its.length:=(by omega);have hB:headB x=true:=(by simp[headB,q1,q2,q3,c1,q4,q5]);simp -implicitDefEqProofs[c1,c2,q4n,q4i,q5n,q5];refine Za9 (λi=>⟨[(3,.int .i64 i),(1,.ptr 1 0)],[(1,.box (isa x))]⟩) (λi=>∀ j,j<i->itOk x j=true) x.its.length (by (first|exact Ym.tm (by simp[lk,isa,c1])|exact Ym.sub (by simp[lk,Ya,AV.keys,isa,c1]) (by simp[lk,Yc,Ya,AV.keys,isa,c1]))) (by simp) ?_ ?_
     . intro i hi he;refine Qga ?_;have w1:IntKind.i64.wrap ((i:Int)+1)=((i+1:Nat):Int):=Yf (by omega) (by omega);have a1:itAt x i=x.its[i]:=by simp[itAt,List.getD,hi]
       have no:itOk x i=false->issB x=false:=λe=>by
        cases hI:issB x
        . rfl
        . simp only[issB,W01]at hI;rw[Zau.1 hI.1.2 i hi]at e;cases e
       simp -implicitDefEqProofs[hi,isa,ita];refine Qco (Zac _ _ _) (by simp) ?_
       cases p1:inR x.its[i].1 1 9999
       . simp -implicitDefEqProofs[];refine ⟨rfl,?_⟩;refine Qgr ?_;simp -implicitDefEqProofs[no (by simp[itOk,a1,p1])]
       simp -implicitDefEqProofs[];refine Qco (Zac _ _ _) (by simp) ?_
       cases p2:inR x.its[i].2 1 20
       . simp -implicitDefEqProofs[];refine ⟨rfl,?_⟩;refine Qgr ?_;simp -implicitDefEqProofs[no (by simp[itOk,a1,p2])]
       by_cases p3:x.its[i].1=x.d
       . simp -implicitDefEqProofs[p3];refine ⟨rfl,?_⟩;refine Qgr ?_;simp -implicitDefEqProofs[no (by simp[itOk,a1,p3])]
       cases i with
       | zero =>
         have ok:itOk x 0=true:=(by simp[itOk,a1,p1,p2,p3]);have w0:IntKind.i64.wrap 1=1:=rfl;simp -implicitDefEqProofs[p3,w0];exact ⟨rfl,(by (first|exact Ym.tm (by simp[lk,isa])|exact Ym.sub (by simp[lk,Ya,AV.keys,isa]) (by simp[lk,Yc,Ya,AV.keys,isa]))),ok⟩
       | succ i =>
         have w2:IntKind.i64.wrap (i:Int)=(i:Int):=Yf (by omega) (by omega);have w3:IntKind.i64.wrap ((i:Int)+1+1)=(i:Int)+1+1:=Yf (by omega) (by omega);have k3:(0:Int)<(i:Int)+1:=(by omega);have hi2:i<x.its.length:=(by omega);have a2:itAt x i=x.its[i]:=(by simp[itAt,List.getD,hi2]);by_cases p4:x.its[i+1].1<=x.its[i].1
         . simp -implicitDefEqProofs[p3,k3,w2,hi2,ita,p4];refine ⟨rfl,?_⟩;refine Qgr ?_;simp -implicitDefEqProofs[no (by simp[itOk,a1,a2,p4])]
         . have ok:itOk x (i+1)=true:=(by simp[itOk,a1,a2,p1,p2,p3];omega);simp -implicitDefEqProofs[p3,k3,w2,w3,hi2,ita,p4];refine ⟨rfl,(by (first|exact Ym.tm (by simp[lk,isa])|exact Ym.sub (by simp[lk,Ya,AV.keys,isa]) (by simp[lk,Yc,Ya,AV.keys,isa]))),λj hj=>?_⟩;by_cases e:j=i+1
           . subst e;exact ok
           . exact he j (by omega)
     . intro he;refine Qga ?_;have hI:(List.range x.its.length).all (itOk x)=true:=Zau.2 he;simp -implicitDefEqProofs[isa];refine Qgr ?_;simp -implicitDefEqProofs[];refine Za9 (λi=>⟨[(5,.int .i64 i),(1,.ptr 1 0)],[(1,.box (isa x))]⟩) (λi=>∀ j (h:j<x.dms.length),j<i->vd x.dms[j]=true) x.dms.length (by (first|exact Ym.tm (by simp[lk,isa])|exact Ym.sub (by simp[lk,Ya,AV.keys,isa]) (by simp[lk,Yc,Ya,AV.keys,isa]))) (by simp) ?_ ?_
       . intro i hi he;refine Qga ?_;have w1:IntKind.i64.wrap ((i:Int)+1)=((i+1:Nat):Int):=Yf (by omega) (by omega);simp -implicitDefEqProofs[hi,isa,dma];refine Qco (Zab _ _ _) (by simp) ?_
         cases p1:vd x.dms[i]
         . have hn:issB x=false:=by
            cases hI2:issB x
            . rfl
            . simp only[issB,W01]at hI2;rw[W03.1 hI2.2 _ (W0e hi)]at p1;cases p1
           have p1':vd ⟨x.dms[i].n,x.dms[i].l,x.dms[i].u⟩=false:=p1;simp -implicitDefEqProofs[p1'];refine Qgr ?_;simp -implicitDefEqProofs[hn]
         . have p1':vd ⟨x.dms[i].n,x.dms[i].l,x.dms[i].u⟩=true:=p1;simp -implicitDefEqProofs[p1',w1];refine ⟨(by (first|exact Ym.tm (by simp[lk,isa])|exact Ym.sub (by simp[lk,Ya,AV.keys,isa]) (by simp[lk,Yc,Ya,AV.keys,isa]))),λj h1 hj=>?_⟩;by_cases e:j=i
           . subst e;exact p1
           . exact he j h1 (by omega)
       . intro hd;refine Qga ?_
         have hD:x.dms.all vd=true:=W03.2 λy hy=>by
          obtain ⟨j,hj,rfl⟩:=W0k hy;exact hd j hj hj
         have hT:issB x=true:=(by simp[issB,hB,hI,hD]);simp -implicitDefEqProofs[isa];refine Qgr ?_;simp -implicitDefEqProofs[hT]
   . have q5n:0<x.its.length:=(by omega);simp -implicitDefEqProofs[c1,c2,q4n,q4i,q5n,bad (by simp[headB,q5,c1])]
end
def Wf (r:List Iss):Prop:=SmlR r/\∀ x∈r,0<=x.k/\x.k<=255
def ordB (r:List Iss):Nat->Bool
 |0=>decide ((at' r 0).l=1)
 | i+1=>if (at' r (i+1)).d<(at' r i).d then false else if (at' r i).d<(at' r (i+1)).d then decide ((at' r (i+1)).l=1)
   else decide ((at' r (i+1)).l=(at' r i).l+1)&&decide ((at' r (i+1)).k=(at' r i).k)
def inB (r:List Iss):Bool:=r.all λx=>x.its.all λy=>decide (y.1∈nums r)
def ItsIn (r:List Iss) (x:Iss):Prop:=∀ y∈x.its,y.1∈nums r
def Zax (r:List Iss):Bool:=inR r.length 1 60&&r.all issB&&(List.range r.length).all (ordB r)&&inB r&&decide ((nums r).length<=20)
theorem Zay {r:List Iss} {i:Nat} (h:i<r.length) (e:issB r[i]=false):Zax r=false:=by
 cases hI:Zax r
 . rfl
 . simp only[Zax,W01]at hI;rw[W03.1 hI.1.1.1.2 _ (W0e h)]at e;cases e
theorem Zaz {r:List Iss} {i:Nat} (h:i<r.length) (e:ordB r i=false):Zax r=false:=by
 cases hI:Zax r
 . rfl
 . simp only[Zax,W01]at hI;rw[Zau.1 hI.1.1.2 i h]at e;cases e
theorem ZaA {r:List Iss} {i k:Nat} (h:i<r.length) (hk:k<r[i].its.length) (e:r[i].its[k].1 ∉ nums r):Zax r=false:=by
 cases hI:Zax r
 . rfl
 . simp only[Zax,W01,inB]at hI;have:=W03.1 (W03.1 hI.1.2 _ (W0e h)) _ (W0e hk);exact absurd (W0X this) e
theorem ZaB {l:List Int} {n:Int}:idx l n<0↔n ∉ l:=by
 unfold idx
 split
 . rename_i h;simp[h]
 . rename_i h;simp[h]
theorem ZaC {l:List Int} {n:Int} (h:n∈l):∃ i:Nat,idx l n=i/\i<l.length/\l[i]? = some n:=by
 refine ⟨l.idxOf n,by rw[idx,if_pos h],List.idxOf_lt_length_iff.2 h,?_⟩;have h1:l.idxOf n<l.length:=List.idxOf_lt_length_iff.2 h;rw[W07 h1,List.getElem_idxOf h1]
theorem ZaD (r:List Iss):(nums r).length<=r.length:=Zan r _
section
variable {G:Nat->Option (List AV)}
theorem ZaE (r:List Iss) (h:Wf r):PC Tryz.prog G 169 [rega r] (.bool (Zax r)):=by
 (refine Z9z rfl λR hG hrd=>Qga ?_;subst hG)
 have hs:=h.1.1;unfold Sml at hs;simp -implicitDefEqProofs[Z9x,Z9y,rega];refine Qco (Zac _ _ _) (by simp) ?_
 cases q1:inR r.length 1 60
 . simp -implicitDefEqProofs[show Zax r=false by simp[Zax,q1]]
 have q1':1<=r.length/\r.length<=60:=by
  have:=W0X q1;omega
 have hne:r≠[]:=(by intro e;subst e;simp at q1');simp -implicitDefEqProofs[];refine Za9 (λi=>⟨[(3,.int .i64 i),(1,.ptr 1 0)],[(1,.box [.vsl (r.map isa)])]⟩) (λi=>∀ j (h:j<r.length),j<i->issB r[j]=true/\ordB r j=true) r.length (by (first|exact Ym.tm (by simp[lk])|exact Ym.sub (by simp[lk,Ya,AV.keys]) (by simp[lk,Yc,Ya,AV.keys]))) (by simp) ?_ ?_
 . intro i hi he;refine Qga ?_;have w1:IntKind.i64.wrap ((i:Int)+1)=((i+1:Nat):Int):=Yf (by omega) (by omega);have a1:=at_eq hi;have hx:=h.1.2 r[i] (W0e hi);have hk:=h.2 r[i] (W0e hi)
   have go:issB r[i]=true->ordB r i=true->∀ j (h:j<r.length),j<i+1->issB r[j]=true/\ordB r j=true:=λg1 g2 j q1 q2=>by
    by_cases e:j=i
    . subst e;exact ⟨g1,g2⟩
    . exact he j q1 (by omega)
   simp -implicitDefEqProofs[hi,isa];refine Qco (Zaw r[i] hx.1 hx.2 hk) (by simp) ?_
   cases p1:issB r[i]
   . simp -implicitDefEqProofs[];refine Qgr ?_;simp -implicitDefEqProofs[Zay hi p1]
   have hd:1<=r[i].d:=by
    have p2:=p1;simp only[issB,headB,W01,inR,W0b]at p2;exact p2.1.1.1.1.1.1
   cases i with
   | zero =>
     have n1:¬r[0].d<(0:Int):=(by omega);have n2:(0:Int)<r[0].d:=(by omega);by_cases p3:r[0].l=1
     . have ok:ordB r 0=true:=(by simp[ordB,a1,p3]);have w0:IntKind.i64.wrap 1=1:=rfl;simp -implicitDefEqProofs[n1,n2,p3,w0];exact ⟨(by (first|exact Ym.tm (by simp[lk])|exact Ym.sub (by simp[lk,Ya,AV.keys]) (by simp[lk,Yc,Ya,AV.keys]))),λj q1 q2=>by subst q2;exact ⟨p1,ok⟩⟩
     . simp -implicitDefEqProofs[n1,n2,p3];refine Qgr ?_;simp -implicitDefEqProofs[Zaz hi (by simp[ordB,a1,p3])]
   | succ i =>
     have w2:IntKind.i64.wrap (i:Int)=(i:Int):=Yf (by omega) (by omega);have w3:IntKind.i64.wrap ((i:Int)+1+1)=(i:Int)+1+1:=Yf (by omega) (by omega);have k3:(0:Int)<(i:Int)+1:=(by omega);have hi2:i<r.length:=(by omega);have a2:=at_eq hi2;have bl:=(he i hi2 (by omega)).1;simp only[issB,headB,W01,inR,W0b]at bl;have w4:IntKind.i64.wrap (r[i].l+1)=r[i].l+1:=Yf (by omega) (by omega);by_cases p3:r[i+1].d<r[i].d
     . simp -implicitDefEqProofs[k3,w2,hi2,isa,p3];refine Qgr ?_;simp -implicitDefEqProofs[Zaz hi (by simp[ordB,a1,a2,p3])]
     by_cases p4:r[i].d<r[i+1].d
     . by_cases p5:r[i+1].l=1
       . have ok:ordB r (i+1)=true:=(by simp[ordB,a1,a2,p3,p4,p5]);simp -implicitDefEqProofs[k3,w2,w3,hi2,isa,p3,p4,p5];exact ⟨(by (first|exact Ym.tm (by simp[lk])|exact Ym.sub (by simp[lk,Ya,AV.keys]) (by simp[lk,Yc,Ya,AV.keys]))),go p1 ok⟩
       . simp -implicitDefEqProofs[k3,w2,hi2,isa,p3,p4,p5];refine Qgr ?_;simp -implicitDefEqProofs[Zaz hi (by simp[ordB,a1,a2,p3,p4,p5])]
     by_cases p5:r[i+1].l=r[i].l+1
     case neg =>
      simp -implicitDefEqProofs[k3,w2,w4,hi2,isa,p3,p4,p5];refine Qgr ?_;simp -implicitDefEqProofs[Zaz hi (by simp[ordB,a1,a2,p3,p4,p5])]
     by_cases p6:r[i+1].k=r[i].k
     . have ok:ordB r (i+1)=true:=(by simp[ordB,a1,a2,p3,p4,p5,p6]);simp -implicitDefEqProofs[k3,w2,w3,w4,hi2,isa,p3,p4,p5,p6];exact ⟨(by (first|exact Ym.tm (by simp[lk])|exact Ym.sub (by simp[lk,Ya,AV.keys]) (by simp[lk,Yc,Ya,AV.keys]))),go p1 ok⟩
     . simp -implicitDefEqProofs[k3,w2,w4,hi2,isa,p3,p4,p5,p6];refine Qgr ?_;simp -implicitDefEqProofs[Zaz hi (by simp[ordB,a1,a2,p3,p4,p5,p6])]
 . intro he;refine Qga ?_
   have g1:r.all issB=true:=W03.2 λx hx=>by
    obtain ⟨j,hj,rfl⟩:=W0k hx;exact (he j hj hj).1
   have g2:(List.range r.length).all (ordB r)=true:=Zau.2 λj hj=>(he j hj hj).2
   have hns:Sml (nums r):=(by have:=ZaD r;unfold Sml;omega);simp -implicitDefEqProofs[];refine Qgr ?_;simp -implicitDefEqProofs[];refine Qco (Zav r h.1.1 hne) (by simp) ?_;simp -implicitDefEqProofs[];refine Za9 (λi=>⟨[(7,.int .i64 i),(6,.vsl ((nums r).map ia)),(1,.ptr 1 0)],[(1,.box [.vsl (r.map isa)])]⟩) (λi=>∀ j (h:j<r.length),j<i->ItsIn r r[j]) r.length (by (first|exact Ym.tm (by simp[lk])|exact Ym.sub (by simp[lk,Ya,AV.keys]) (by simp[lk,Yc,Ya,AV.keys]))) (by simp) ?_ ?_
   . intro i hi hb;refine Qga ?_;have w1:IntKind.i64.wrap ((i:Int)+1)=((i+1:Nat):Int):=Yf (by omega) (by omega);have hx:=(h.1.2 r[i] (W0e hi)).1;unfold Sml at hx;simp -implicitDefEqProofs[hi];refine Za9 (λk=>⟨[(8,.int .i64 k),(7,.int .i64 i),(6,.vsl ((nums r).map ia)),(1,.ptr 1 0)],[(1,.box [.vsl (r.map isa)])]⟩) (λk=>∀ j (h:j<r[i].its.length),j<k->r[i].its[j].1∈nums r) r[i].its.length (by (first|exact Ym.tm (by simp[lk])|exact Ym.sub (by simp[lk,Ya,AV.keys]) (by simp[lk,Yc,Ya,AV.keys]))) (by simp) ?_ ?_
     . intro k hk hc;refine Qga ?_;have w2:IntKind.i64.wrap ((k:Int)+1)=((k+1:Nat):Int):=Yf (by omega) (by omega);simp -implicitDefEqProofs[hi,isa,hk,ita];refine Qco (Zaf (nums r) _ hns) (by simp) ?_;by_cases p1:r[i].its[k].1∈nums r
       . have n1:¬idx (nums r) r[i].its[k].1<0:=λe=>ZaB.1 e p1
         simp -implicitDefEqProofs[n1,w2];refine ⟨(by (first|exact Ym.tm (by simp[lk])|exact Ym.sub (by simp[lk,Ya,AV.keys]) (by simp[lk,Yc,Ya,AV.keys]))),λj q1 q2=>?_⟩;by_cases e:j=k
         . subst e;exact p1
         . exact hc j q1 (by omega)
       . have n1:idx (nums r) r[i].its[k].1<0:=ZaB.2 p1;simp -implicitDefEqProofs[n1];refine Qgr ?_;simp -implicitDefEqProofs[];refine Qgr ?_;simp -implicitDefEqProofs[ZaA hi hk p1]
     . intro hc;refine Qga ?_;simp -implicitDefEqProofs[hi,isa];refine Qgr ?_;simp -implicitDefEqProofs[w1];refine ⟨(by (first|exact Ym.tm (by simp[lk])|exact Ym.sub (by simp[lk,Ya,AV.keys]) (by simp[lk,Yc,Ya,AV.keys]))),λj q1 q2=>?_⟩;by_cases e:j=i
       . subst e;intro y hy;obtain ⟨n,hn,rfl⟩:=W0k hy;exact hc n hn hn
       . exact hb j q1 (by omega)
   . intro hb;refine Qga ?_
     have g3:inB r=true:=W03.2 λx hx=>W03.2 λy hy=>by
      obtain ⟨j,hj,rfl⟩:=W0k hx;exact W0M (hb j hj hj y hy)
     have g4:Zax r=decide ((nums r).length<=20):=(by simp[Zax,q1,g1,g2,g3]);simp -implicitDefEqProofs[];refine Qgr ?_;simp -implicitDefEqProofs[g4];omega
end
def Ord (r:List Iss):Prop:=∀ i,i+1<r.length->(at' r i).d<=(at' r (i+1)).d
theorem Ord.mono {r:List Iss} (h:Ord r):∀ {i j:Nat},i<=j->j<r.length->(at' r i).d<=(at' r j).d:=by
 intro i j hij hj
 induction j with
 | zero => obtain rfl:i=0:=by omega
           exact W1Z _
 | succ j ih =>
   by_cases e:i=j+1
   . subst e;exact W1Z _
   . exact Int.le_trans (ih (by omega) (by omega)) (h j hj)
theorem ZaF {r:List Iss} (h:Zax r=true):Ord r:=by
 intro i hi;simp only[Zax,W01]at h;have:=Zau.1 h.1.1.2 (i+1) hi;simp only[ordB]at this
 split at this
 . cases this
 . omega
theorem ZaG {r:List Iss} (h:Ord r):∀ i,i<=r.length->(numsN r i).Pairwise (· < ·)/\(∀ y∈numsN r i,∃ j,j<i/\(at' r j).d=y)/\∀ j,j<i->(at' r j).d∈numsN r i:=by
 intro i
 induction i with
 |zero=>intro _;simp[numsN]
 | succ i ih =>
   intro hi;obtain ⟨h1,h2,h3⟩:=ih (by omega);simp only[numsN]
   split
   . rename_i hb;refine ⟨W29.2 ⟨h1,by simp,λa ha b hb'=>?_⟩,λy hy=>?_,λj hj=>?_⟩
     . simp only[W0B]at hb';subst hb';obtain ⟨j,hj,rfl⟩:=h2 a ha;simp only[newB,W0T,W0A,W1C,W1b]at hb;have m1:=h.mono (show j<=i-1 by omega) (by omega);have m2:=h.mono (show i-1<=i by omega) (by omega);rcases hb with hb|hb
       . omega
       . omega
     . rcases W0h.1 hy with hy|hy
       . obtain ⟨j,hj,e⟩:=h2 y hy;exact ⟨j,by omega,e⟩
       . exact ⟨i,by omega,(W0B.1 hy).symm⟩
     . by_cases e:j=i
       . subst e;simp
       . exact W0h.2 (.inl (h3 j (by omega)))
   . rename_i hb;refine ⟨h1,λy hy=>?_,λj hj=>?_⟩
     . obtain ⟨j,hj,e⟩:=h2 y hy;exact ⟨j,by omega,e⟩
     . by_cases e:j=i
       . subst e;simp only[newB,W0T,W0A,W1C,W1b,not_or,Decidable.not_not]at hb;rw[<- hb.2];exact h3 _ (by omega)
       . exact h3 j (by omega)
theorem ZaH {r:List Iss} (h:Ord r):(nums r).Pairwise (· < ·):=(ZaG h _ (W0f _)).1
theorem ZaI {r:List Iss} (h:Ord r):(nums r).Nodup:=(ZaH h).imp λh=>Int.ne_of_lt h
theorem ZaJ {r:List Iss} (h:Ord r) {n:Int} (hn:n∈nums r):∃ i,∃ hi:i<r.length,r[i].d=n:=by
 obtain ⟨i,hi,e⟩:=(ZaG h _ (W0f _)).2.1 n hn;exact ⟨i,hi,by rw[<- at_eq hi];exact e⟩
theorem ZaK {r:List Iss} (h:Ord r) {i:Nat} (hi:i<r.length):r[i].d∈nums r:=by
 have:=(ZaG h _ (W0f _)).2.2 i hi
 rwa [at_eq hi]at this
def dvIt (f:Int->Int) (m:Int) (its:List (Int×Int)):Int:=its.foldl (λm y=>max m (1+f y.1)) m
def dvN (r:List Iss) (f:Int->Int) (n:Int):Nat->Int
 |0=>0
 |i+1=>if (at' r i).d=n then dvIt f (max (dvN r f n i) 1) (at' r i).its else dvN r f n i
def Dv (r:List Iss):Nat->Int->Int
 |0,_=>0
 |k+1,n=>dvN r (Dv r k) n r.length
theorem ZaL {f:Int->Int} {K:Int} (hf:∀ n,0<=f n/\f n<=K):∀ (its:List (Int×Int)) (m:Int),0<=m->m<=K+1->0<=dvIt f m its/\dvIt f m its<=K+1
 |[],m,h1,h2=>⟨h1,h2⟩
 | y::its,m,h1,h2=>by
   have:=hf y.1;exact ZaL hf its (max m (1+f y.1)) (by omega) (by omega)
theorem ZaM (r:List Iss) {f:Int->Int} {K:Int} (hK:0<=K) (hf:∀ n,0<=f n/\f n<=K) (n:Int):∀ i,0<=dvN r f n i/\dvN r f n i<=K+1
 |0=>by simp only[dvN];omega
 | i+1=>by
   have:=ZaM r hK hf n i;simp only[dvN]
   split
   . exact ZaL hf _ _ (by omega) (by omega)
   . exact this
theorem Dv_bd (r:List Iss):∀ k n,0<=Dv r k n/\Dv r k n<=k
 |0,n=>by simp[Dv]
 | k+1,n=>by
   have:=ZaM r (K:=(k:Int)) (by omega) (Dv_bd r k) n r.length;simp only[Dv];omega
def rowF (l:List Int) (g:Int->Int):List (List AV):=l.map λn=>[.int .i64 (g n)]
theorem ZaN {l:List Int} (hn:l.Nodup) {g:Int->Int} {j:Nat} {d v:Int} (hj:l[j]? = some d):(rowF l g).set j [.int .i64 v]=rowF l λn=>if n=d then v else g n:=by
 apply List.ext_getElem?
 intro i;obtain ⟨hlt,he⟩:=W02.1 hj;simp only[rowF,W2q,W09,W0N];by_cases e:j=i
 . subst e;simp[hlt,he]
 . rw[if_neg e]
   cases hi:l[i]? with
   |none=>rfl
   | some x =>
     obtain ⟨hlt2,he2⟩:=W02.1 hi;have:x≠d:=λq=>e ((List.getElem_inj hn).1 (by rw[he,he2,q]))
     simp[this]
theorem ZaO {l:List Int} {g:Int->Int}:(rowF l g).length=l.length:=by simp[rowF]
theorem ZaP {l:List Int} {g:Int->Int}:(rowF l g).all (λr=>r.all AV.pure)=true:=by simp[rowF,AV.pure]
theorem ZaQ {l:List Int} {g:Int->Int} {p:List AV->Bool}:(rowF l g).all p=l.all λn=>p [.int .i64 (g n)]:=by simp[rowF,List.all_map,W0y]
attribute [simp] ZaQ
theorem ZaR {l:List Int} {g:Int->Int} {j:Nat} (h:j<(rowF l g).length):(rowF l g)[j]=[.int .i64 (g (l[j]'(by simpa [rowF] using h)))]:=by simp[rowF]
attribute [simp] ZaR ZaO
theorem ZaS {l:List Int}:List.replicate l.length [AV.int .i64 0]=rowF l λ_=>0:=by
 simp only[rowF];induction l with
 |nil=>rfl
 |cons x l ih=>simp[List.replicate_succ,ih]
theorem ZaT (f:Int->Int) (m:Int) (its:List (Int×Int)) (k:Nat) (h:k<its.length):dvIt f m (its.take (k+1))=max (dvIt f m (its.take k)) (1+f its[k].1):=by
 rw[W08 h,dvIt,W1q];rfl
theorem ZaU {d:Int} {v v0:Int} {g:Int->Int}:(λn=>if n=d then v else if n=d then v0 else g n)=λn=>if n=d then v else g n:=by
 funext n;split <;> rfl
theorem Ym.trans {a b c:St} (h:Ym a b) (g:Ym b c):Ym a c:=λR x W s=>g R x W (h R x W s)
section
variable {G:Nat->Option (List AV)}
set_option maxRecDepth 8000 in
theorem ZaV (r:List Iss) (h:Wf r) (hL:Zax r=true):PC Tryz.prog G 170 [rega r] (.vsl (rowF (nums r) (Dv r ((nums r).length+1)))):=by
 (refine Z9C rfl λR hG hrd=>Qga ?_;subst hG)
 have hs:=h.1.1;unfold Sml at hs;have hO:=ZaF hL;have hl:=ZaD r;have hnd:=ZaI hO;have hL2:=hL;simp only[Zax,W01,inB,W0b]at hL2;obtain ⟨⟨⟨⟨l1,l2⟩,l3⟩,l4⟩,l5⟩:=hL2;have l1':=W0X l1;have hne:r≠[]:=(by intro e;subst e;simp at l1');have hns:Sml (nums r):=(by unfold Sml;omega);simp -implicitDefEqProofs[Z9A,Z9B,rega];refine Qco (Zav r h.1.1 hne) (by simp) ?_;have b1:((nums r).length:Int)<=16777216:=(by omega);simp -implicitDefEqProofs[b1,ZaS];refine Za9 (λk=>⟨[(5,.int .i64 k),(4,.vsl (rowF (nums r) (Dv r k))),(3,.vsl ((nums r).map ia)),(1,.ptr 1 0)],[(1,.box [.vsl (r.map isa)])]⟩) (λ_=>True) ((nums r).length+1) ?_ trivial ?_ ?_
 . refine Ym.trans (Ym.frz (λk=>k == 15) _) ?_;have e0:(λn=>Dv r 0 n)=λ_=>0:=rfl
   exact Ym.sub (by simp[lk,Ya,AV.keys,Yi,frzA,frzO,frz,Yh,St.get,ZaO,ZaP,Dv,Function.const]) (by simp[lk,Yc,Ya,AV.keys,Yi,frzA,frzO,frz]) (by simp[Yi,lk];try omega)
 . intro k hk _;refine Qga ?_;have k1:(k:Int)<=(nums r).length:=(by omega);simp -implicitDefEqProofs[k1,b1,ZaS];have bd:=Dv_bd r k;have hkb:(k:Int)<=61:=(by omega);refine Za9 (λi=>⟨[(7,.int .i64 i),(6,.osl 24 (nums r).length),(5,.int .i64 k),(4,.vsl (rowF (nums r) (Dv r k))),(3,.vsl ((nums r).map ia)),(1,.ptr 1 0)],[(1,.box [.vsl (r.map isa)]),(24,.row 1 (rowF (nums r) λn=>dvN r (Dv r k) n i))]⟩) (λ_=>True) r.length (by (first|exact Ym.tm (by simp[lk,dvN])|exact Ym.sub (by simp[lk,Ya,AV.keys,dvN]) (by simp[lk,Yc,Ya,AV.keys,dvN]))) trivial ?_ ?_
   . intro i hi _;refine Qga ?_;have w1:IntKind.i64.wrap ((i:Int)+1)=((i+1:Nat):Int):=Yf (by omega) (by omega);have a1:=at_eq hi;have hx:=(h.1.2 r[i] (W0e hi)).1;unfold Sml at hx
     have hits:∀ m (hm:m<r[i].its.length),r[i].its[m].1∈nums r:=λm hm =>
      W0X (W03.1 (W03.1 l4 _ (W0e hi)) _ (W0e hm))
     simp -implicitDefEqProofs[hi,isa];refine Qco (Zaf (nums r) _ hns) (by simp) ?_;obtain ⟨j,hj,hlt,hget⟩:=ZaC (ZaK hO hi);rw[hj];have hset:=λg v=>ZaN (g:=g) (v:=v) hnd hget
     have hgt:(nums r)[j]=r[i].d:=(W02.1 hget).2;simp -implicitDefEqProofs[hlt,hgt,hset]
     refine Za9 (λm=>⟨[(10,.int .i64 m),(9,.int .i64 j),(8,.ptr 8 0),(7,.int .i64 i),(6,.osl 24 (nums r).length),(5,.int .i64 k),(4,.vsl (rowF (nums r) (Dv r k))),(3,.vsl ((nums r).map ia)),(1,.ptr 1 0)],
      [(1,.box [.vsl (r.map isa)]),(8,.box (isa r[i])),(24,.row 1 (rowF (nums r) λn=>if n=r[i].d then dvIt (Dv r k) (max (dvN r (Dv r k) r[i].d i) 1) (r[i].its.take m) else dvN r (Dv r k) n i))]⟩) (λ_=>True) r[i].its.length (by (first|exact Ym.tm (by simp[lk,dvIt,isa])|exact Ym.sub (by simp[lk,Ya,AV.keys,dvIt,isa]) (by simp[lk,Yc,Ya,AV.keys,dvIt,isa]))) trivial ?_ ?_
     . intro m hm _;refine Qga ?_;have w2:IntKind.i64.wrap ((m:Int)+1)=((m+1:Nat):Int):=Yf (by omega) (by omega);obtain ⟨j2,hj2,hlt2,hget2⟩:=ZaC (hits m hm);have hgt2:(nums r)[j2]=r[i].its[m].1:=(W02.1 hget2).2;have bd2:=bd r[i].its[m].1;have w3:IntKind.i64.wrap (1+Dv r k r[i].its[m].1)=1+Dv r k r[i].its[m].1:=Yf (by omega) (by omega);simp -implicitDefEqProofs[isa,hm,ita,hlt,hgt];refine Qco (Zaf (nums r) _ hns) (by simp) ?_;rw[hj2];have tk:=ZaT (Dv r k) (max (dvN r (Dv r k) r[i].d i) 1) r[i].its m hm;simp -implicitDefEqProofs[hlt2,hgt2,w2,w3,hlt,hgt,hset,ZaU];refine ⟨rfl,?_⟩;rw[<- tk]
       (first|exact Ym.tm (by simp[lk,isa])|exact Ym.sub (by simp[lk,Ya,AV.keys,isa]) (by simp[lk,Yc,Ya,AV.keys,isa]))
     . intro _;refine Qga ?_;simp -implicitDefEqProofs[isa];refine Qgr ?_;simp -implicitDefEqProofs[w1]
       have e:(λn=>if n=r[i].d then dvIt (Dv r k) (max (dvN r (Dv r k) r[i].d i) 1) r[i].its else dvN r (Dv r k) n i)=λn=>dvN r (Dv r k) n (i+1):=by
        funext n
        simp only[dvN,a1];by_cases q:r[i].d=n
        . subst q;simp
        . rw[if_neg q,if_neg (λe=>q e.symm)]
       rw[e]
       (first|exact Ym.tm (by simp[lk])|exact Ym.sub (by simp[lk,Ya,AV.keys]) (by simp[lk,Yc,Ya,AV.keys]))
   . intro _;refine Qga ?_;simp -implicitDefEqProofs[];refine Qgr ?_;have w1:IntKind.i64.wrap ((k:Int)+1)=((k+1:Nat):Int):=Yf (by omega) (by omega);simp -implicitDefEqProofs[w1];have e:(λn=>dvN r (Dv r k) n r.length)=Dv r (k+1):=rfl;rw[e];refine Ym.trans (Ym.frz (λk=>k == 24) _) ?_;exact Ym.sub (by simp[lk,Ya,AV.keys,Yi,frzA,frzO,frz,Yh,St.get,ZaP]) (by simp[lk,Yc,Ya,AV.keys,Yi,frzA,frzO,frz]) (by simp[Yi,lk];try omega)
 . intro _;refine Qga ?_;have k1:¬((nums r).length:Int)+1<=(nums r).length:=(by omega);simp -implicitDefEqProofs[k1];refine Qgr ?_;simp -implicitDefEqProofs[]
end
theorem ZaW (r:List Iss):(rega r).pure=true:=by simp[rega,AV.pure]
attribute [simp] ZaW
def mostV (l:List Int) (g:Int->Int):Int:=l.foldl (λm n=>max m (g n)) 0
def chkV (r:List Iss):Int:=if Zax r=true then
    if ((nums r).length:Int)<mostV (nums r) (Dv r ((nums r).length+1)) then 21 else if 6<mostV (nums r) (Dv r ((nums r).length+1)) then 20 else 0
 else 20
def zI:Iss:=⟨0,0,0,[],[]⟩
theorem ZaX {d l:Int}:∀ {r:List Iss} {x:Iss},findN d l r=some x->x∈r/\x.d=d/\x.l=l
 |[],x,h=>by simp[findN]at h
 | y::r,x,h=>by
   simp only[findN]at h
   split at h
   . rename_i e;cases h;exact ⟨W0H ..,e⟩
   . obtain ⟨h1,h2⟩:=ZaX h;exact ⟨W0z _ h1,h2⟩
theorem ZaY (l:List Int) (g:Int->Int) (k:Nat) (h:k<l.length):mostV (l.take (k+1)) g=max (mostV (l.take k) g) (g l[k]):=by
 rw[W08 h,mostV,W1q];rfl
section
variable {G:Nat->Option (List AV)}
theorem ZaZ (r:List Iss) (h:Wf r):PC Tryz.prog G 133 [rega r] (.int .i64 (chkV r)):=by
 (refine Z9F rfl λR hG hrd=>Qga ?_;subst hG)
 simp -implicitDefEqProofs[Z9D,Z9E,rega];refine Qco (ZaE r h) (by simp) ?_
 cases hL:Zax r
 . simp -implicitDefEqProofs[show chkV r=20 by simp[chkV,hL]]
 simp -implicitDefEqProofs[];refine Qco (ZaV r h hL) (by simp) ?_;have hs:=h.1.1;unfold Sml at hs;have hl:=ZaD r;simp -implicitDefEqProofs[];refine Za9 (λk=>⟨[(5,.int .i64 k),(4,.int .i64 (mostV ((nums r).take k) (Dv r ((nums r).length+1)))),(3,.vsl (rowF (nums r) (Dv r ((nums r).length+1)))),(1,.ptr 1 0)],[(1,.box [.vsl (r.map isa)])]⟩) (λ_=>True) (nums r).length (by (first|exact Ym.tm (by simp[lk,mostV])|exact Ym.sub (by simp[lk,Ya,AV.keys,mostV]) (by simp[lk,Yc,Ya,AV.keys,mostV]))) trivial ?_ ?_
 . intro k hk _;refine Qga ?_;have w1:IntKind.i64.wrap ((k:Int)+1)=((k+1:Nat):Int):=Yf (by omega) (by omega);have tk:=ZaY (nums r) (Dv r ((nums r).length+1)) k hk;simp -implicitDefEqProofs[hk,w1];rw[<- tk]
   (first|exact Ym.tm (by simp[lk])|exact Ym.sub (by simp[lk,Ya,AV.keys]) (by simp[lk,Yc,Ya,AV.keys]))
 . intro _;refine Qga ?_;simp -implicitDefEqProofs[];refine Qgr ?_;generalize hm:mostV (nums r) (Dv r ((nums r).length+1))=m;by_cases q1:((nums r).length:Int)<m
   . simp -implicitDefEqProofs[q1,show chkV r=21 by simp[chkV,hL,hm,q1]]
   by_cases q2:6<m
   . simp -implicitDefEqProofs[q1,q2,show chkV r=20 by simp[chkV,hL,hm,q1,q2]]
   . simp -implicitDefEqProofs[q1,q2,show chkV r=0 by simp[chkV,hL,hm,q1,q2]]
end
def fstOf {α:Type} (p:α->Bool) (l:List α):Int:=match l.findIdx? p with|some i=>(i:Int)|none=>-1
theorem Zb0 {α:Type} {p:α->Bool} {l:List α} {i:Nat} (h:i<l.length) (hp:p l[i]=true) (hn:∀ j (h:j<l.length),j<i->p l[j]=false):fstOf p l=i:=by
 have:l.findIdx? p=some i:=by
  rw[W1A];refine ⟨h,hp,λj hj=>?_⟩;rw[hn j (by omega) hj];simp
 simp[fstOf,this]
theorem Zb1 {α:Type} {p:α->Bool} {l:List α} (hn:∀ j (h:j<l.length),p l[j]=false):fstOf p l = -1:=by
 have:l.findIdx? p=none:=W1G.2 λx hx=>by
  obtain ⟨j,hj,rfl⟩:=W0k hx;exact hn j hj
 simp[fstOf,this]
theorem Zb2 {α:Type} (p:α->Bool) (l:List α):decide (0<=fstOf p l)=l.any p:=by
 unfold fstOf
 cases h:l.findIdx? p with
 | none =>
   have h2:=W1G.1 h;have:l.any p=false:=(by rw[<- Bool.not_eq_true,W14];rintro ⟨x,hx,hp⟩;rw[h2 x hx]at hp;cases hp);simp[this]
 | some i =>
   obtain ⟨h1,h2,-⟩:=W1A.1 h;have:l.any p=true:=W14.2 ⟨l[i],W0e h1,h2⟩;simp[this]
section
variable {G:Nat->Option (List AV)}
theorem Zb3 (g:Nat) (caps:List AV) (p:Int->Bool) (l:List Int) (hc:caps.all AV.pure=true) (hl:Sml l)
  (hg:∀ x∈l,PC Tryz.prog G g (.int .i64 x::caps) (.bool (p x))) :
  PC Tryz.prog G 142 [.vsl (l.map ia),.func (.func g) [] caps] (.int .i64 (fstOf p l)):=by
 (refine Z7O rfl λR hG hrd=>Qga ?_;subst hG)
 unfold Sml at hl;have hc2:∀ x∈caps,x.pure=true:=W03.1 hc;simp -implicitDefEqProofs[Z7M,Z7N];refine Za9 (λi=>⟨[(8,.int .i64 i),(7,.int .i64 l.length),(0,.vsl (l.map ia)),(1,.func (.func g) [] caps)],[]⟩) (λi=>∀ j (h:j<l.length),j<i->p l[j]=false) l.length (by (first|exact Ym.tm (by simp[lk])|exact Ym.sub (by simp[lk,Ya,AV.keys]) (by simp[lk,Yc,Ya,AV.keys]))) (by simp) ?_ ?_
 . intro i hi he;refine Qga ?_;have w1:IntKind.i64.wrap ((i:Int)+1)=((i+1:Nat):Int):=Yf (by omega) (by omega);simp -implicitDefEqProofs[hi,ia];refine Yd.of (hg _ (W0e hi)) (by simpa [AV.pure] using hc2) ?_
   cases h3:p l[i]
   . simp -implicitDefEqProofs[w1];refine ⟨(by (first|exact Ym.tm (by simp[lk])|exact Ym.sub (by simp[lk,Ya,AV.keys]) (by simp[lk,Yc,Ya,AV.keys]))),λj q1 q2=>?_⟩;by_cases e:j=i
     . subst e;exact h3
     . exact he j q1 (by omega)
   . simp -implicitDefEqProofs;refine Qgr ?_;simp -implicitDefEqProofs[Zb0 hi h3 he]
 . intro he;refine Qga ?_;simp -implicitDefEqProofs[];refine Qgr ?_;simp -implicitDefEqProofs[Zb1 (p:=p) (l:=l) (λj hj=>he j hj hj)]
theorem Zb4 (g:Nat) (caps:List AV) (p:Int->Bool) (l:List Int) (hc:caps.all AV.pure=true) (hl:Sml l)
  (hg:∀ x∈l,PC Tryz.prog G g (.int .i64 x::caps) (.bool (p x))) :
  PC Tryz.prog G 85 [.vsl (l.map ia),.func (.func g) [] caps] (.bool (l.any p)):=by
 (refine Z7L rfl λR hG hrd=>Qga ?_;subst hG)
 simp -implicitDefEqProofs[Z7J,Z7K];have hc2:∀ x∈caps,x.pure=true:=W03.1 hc;refine Yd.of (Zb3 g caps p l hc hl hg) (by simpa [AV.pure] using hc2) ?_;have e:=Zb2 p l;simp -implicitDefEqProofs[e]
theorem Zb5 (g:Nat) (caps:List AV) (p:(Int×Int)->Bool) (l:List (Int×Int)) (hc:caps.all AV.pure=true) (hl:Sml l)
  (hg:∀ x∈l,PC Tryz.prog G g (.agg [.int .i64 x.1,.int .i64 x.2]::caps) (.bool (p x))) :
  PC Tryz.prog G 209 [.vsl (l.map ita),.func (.func g) [] caps] (.int .i64 (fstOf p l)):=by
 (refine Z8r rfl λR hG hrd=>Qga ?_;subst hG)
 unfold Sml at hl;have hc2:∀ x∈caps,x.pure=true:=W03.1 hc;simp -implicitDefEqProofs[Z8p,Z8q];refine Za9 (λi=>⟨[(8,.int .i64 i),(7,.int .i64 l.length),(0,.vsl (l.map ita)),(1,.func (.func g) [] caps)],[]⟩) (λi=>∀ j (h:j<l.length),j<i->p l[j]=false) l.length (by (first|exact Ym.tm (by simp[lk])|exact Ym.sub (by simp[lk,Ya,AV.keys]) (by simp[lk,Yc,Ya,AV.keys]))) (by simp) ?_ ?_
 . intro i hi he;refine Qga ?_;have w1:IntKind.i64.wrap ((i:Int)+1)=((i+1:Nat):Int):=Yf (by omega) (by omega);simp -implicitDefEqProofs[hi,ita];refine Yd.of (hg _ (W0e hi)) (by simpa [AV.pure] using hc2) ?_
   cases h3:p l[i]
   . simp -implicitDefEqProofs[w1];refine ⟨(by (first|exact Ym.tm (by simp[lk])|exact Ym.sub (by simp[lk,Ya,AV.keys]) (by simp[lk,Yc,Ya,AV.keys]))),λj q1 q2=>?_⟩;by_cases e:j=i
     . subst e;exact h3
     . exact he j q1 (by omega)
   . simp -implicitDefEqProofs;refine Qgr ?_;simp -implicitDefEqProofs[Zb0 hi h3 he]
 . intro he;refine Qga ?_;simp -implicitDefEqProofs[];refine Qgr ?_;simp -implicitDefEqProofs[Zb1 (p:=p) (l:=l) (λj hj=>he j hj hj)]
theorem Zb6 (g:Nat) (caps:List AV) (p:(Int×Int)->Bool) (l:List (Int×Int)) (hc:caps.all AV.pure=true) (hl:Sml l)
  (hg:∀ x∈l,PC Tryz.prog G g (.agg [.int .i64 x.1,.int .i64 x.2]::caps) (.bool (p x))) :
  PC Tryz.prog G 195 [.vsl (l.map ita),.func (.func g) [] caps] (.bool (l.any p)):=by
 (refine Z8o rfl λR hG hrd=>Qga ?_;subst hG)
 simp -implicitDefEqProofs[Z8m,Z8n];have hc2:∀ x∈caps,x.pure=true:=W03.1 hc;refine Yd.of (Zb5 g caps p l hc hl hg) (by simpa [AV.pure] using hc2) ?_;have e:=Zb2 p l;simp -implicitDefEqProofs[e]
theorem Zb7 (g:Nat) (caps:List AV) (p:Dm->Bool) (l:List Dm) (hc:caps.all AV.pure=true) (hl:Sml l)
  (hg:∀ x∈l,PC Tryz.prog G g (.agg [.int .i64 x.n,.int .i64 x.l,.int .i64 x.u]::caps) (.bool (p x))) :
  PC Tryz.prog G 267 [.vsl (l.map dma),.func (.func g) [] caps] (.int .i64 (fstOf p l)):=by
 (refine Z8l rfl λR hG hrd=>Qga ?_;subst hG)
 unfold Sml at hl;have hc2:∀ x∈caps,x.pure=true:=W03.1 hc;simp -implicitDefEqProofs[Z8j,Z8k];refine Za9 (λi=>⟨[(8,.int .i64 i),(7,.int .i64 l.length),(0,.vsl (l.map dma)),(1,.func (.func g) [] caps)],[]⟩) (λi=>∀ j (h:j<l.length),j<i->p l[j]=false) l.length (by (first|exact Ym.tm (by simp[lk])|exact Ym.sub (by simp[lk,Ya,AV.keys]) (by simp[lk,Yc,Ya,AV.keys]))) (by simp) ?_ ?_
 . intro i hi he;refine Qga ?_;have w1:IntKind.i64.wrap ((i:Int)+1)=((i+1:Nat):Int):=Yf (by omega) (by omega);simp -implicitDefEqProofs[hi,dma];refine Yd.of (hg _ (W0e hi)) (by simpa [AV.pure] using hc2) ?_
   cases h3:p l[i]
   . simp -implicitDefEqProofs[w1];refine ⟨(by (first|exact Ym.tm (by simp[lk])|exact Ym.sub (by simp[lk,Ya,AV.keys]) (by simp[lk,Yc,Ya,AV.keys]))),λj q1 q2=>?_⟩;by_cases e:j=i
     . subst e;exact h3
     . exact he j q1 (by omega)
   . simp -implicitDefEqProofs;refine Qgr ?_;simp -implicitDefEqProofs[Zb0 hi h3 he]
 . intro he;refine Qga ?_;simp -implicitDefEqProofs[];refine Qgr ?_;simp -implicitDefEqProofs[Zb1 (p:=p) (l:=l) (λj hj=>he j hj hj)]
theorem Zb8 (g:Nat) (caps:List AV) (p:Dm->Bool) (l:List Dm) (hc:caps.all AV.pure=true) (hl:Sml l)
  (hg:∀ x∈l,PC Tryz.prog G g (.agg [.int .i64 x.n,.int .i64 x.l,.int .i64 x.u]::caps) (.bool (p x))) :
  PC Tryz.prog G 264 [.vsl (l.map dma),.func (.func g) [] caps] (.bool (l.any p)):=by
 (refine Z8i rfl λR hG hrd=>Qga ?_;subst hG)
 simp -implicitDefEqProofs[Z8g,Z8h];have hc2:∀ x∈caps,x.pure=true:=W03.1 hc;refine Yd.of (Zb7 g caps p l hc hl hg) (by simpa [AV.pure] using hc2) ?_;have e:=Zb2 p l;simp -implicitDefEqProofs[e]
theorem Zb9 (n lo hi:Int):PC Tryz.prog G 269 [.int .i64 n,.vptr [.int .i64 lo] 0,.vptr [.int .i64 hi] 0] (.bool (!inR n lo hi)):=by
 (refine Z7I rfl λR hG hrd=>Qga ?_;subst hG)
 by_cases h1:n<lo
 . have h2:¬lo<=n:=(by omega);simp -implicitDefEqProofs[Z7G,Z7H,h1,h2,inR]
 . have h2:lo<=n:=(by omega);by_cases h3:hi<n
   . have h4:¬n<=hi:=(by omega);simp -implicitDefEqProofs[Z7G,Z7H,h1,h2,h3,h4,inR]
   . have h4:n<=hi:=(by omega);simp -implicitDefEqProofs[Z7G,Z7H,h1,h2,h3,h4,inR]
theorem Zba (n lo hi:Int):PC Tryz.prog G 208 [.int .i64 n,.vptr [.int .i64 lo] 0,.vptr [.int .i64 hi] 0] (.bool (!inR n lo hi)):=by
 (refine Z7X rfl λR hG hrd=>Qga ?_;subst hG)
 by_cases h1:n<lo
 . have h2:¬lo<=n:=(by omega);simp -implicitDefEqProofs[Z7V,Z7W,h1,h2,inR]
 . have h2:lo<=n:=(by omega);by_cases h3:hi<n
   . have h4:¬n<=hi:=(by omega);simp -implicitDefEqProofs[Z7V,Z7W,h1,h2,h3,h4,inR]
   . have h4:n<=hi:=(by omega);simp -implicitDefEqProofs[Z7V,Z7W,h1,h2,h3,h4,inR]
theorem Zbb (lo hi:Int) (l:List Int) (hl:Sml l):PC Tryz.prog G 268 [.int .i64 lo,.int .i64 hi,.vsl (l.map ia)] (.bool (l.all λn=>inR n lo hi)):=by
 (refine Z7F rfl λR hG hrd=>Qga ?_;subst hG)
 simp -implicitDefEqProofs[Z7D,Z7E]
 (first|refine Yd.flat (Zb4 269 [.vptr [.int .i64 lo] 0,.vptr [.int .i64 hi] 0] (λn=>!inR n lo hi) l (by simp[AV.pure]) hl (λn _=>Zb9 n lo hi)) (by simp[AV.flat]) (by simp) ?_|refine Ye.flat (Zb4 269 [.vptr [.int .i64 lo] 0,.vptr [.int .i64 hi] 0] (λn=>!inR n lo hi) l (by simp[AV.pure]) hl (λn _=>Zb9 n lo hi)) (by simp[AV.flat]) (by simp) ?_)
 have e:(!l.any λn=>!inR n lo hi)=l.all λn=>inR n lo hi:=by simp[W2m]
 simp -implicitDefEqProofs[e]
theorem Zbc (lo hi:Int) (n:Int):PC Tryz.prog G 194 [.int .i64 lo,.int .i64 hi,.vsl [[.int .i64 n]]] (.bool (inR n lo hi)):=by
 (refine Z7U rfl λR hG hrd=>Qga ?_;subst hG)
 simp -implicitDefEqProofs[Z7S,Z7T];refine Yd.flat (Zb4 208 [.vptr [.int .i64 lo] 0,.vptr [.int .i64 hi] 0] (λn=>!inR n lo hi) [n] (by simp[AV.pure]) (by simp[Sml]) (λn _=>Zba n lo hi)) (by simp[AV.flat]) (by simp[ia]) ?_;simp -implicitDefEqProofs[]
theorem Zbd (d:Dm):PC Tryz.prog G 266 [.agg [.int .i64 d.n,.int .i64 d.l,.int .i64 d.u]] (.int .i64 (if vd d=true then 0 else 10)):=by
 (refine Z7R rfl λR hG hrd=>Qga ?_;subst hG)
 simp -implicitDefEqProofs[Z7P,Z7Q];refine Qco (Zbb 0 1000000000 [d.n,d.l,d.u] (by simp[Sml])) (by simp) ?_
 cases h1:[d.n,d.l,d.u].all λn=>inR n 0 1000000000
 . have e:vd d=false:=by
    refine W0S λh=>?_
    have:([d.n,d.l,d.u].all λn=>inR n 0 1000000000)=true:=by
     simp[inR];omega
    rw[this]at h1;cases h1
   simp -implicitDefEqProofs[e]
 . have h2:(0<=d.n/\d.n<=1000000000)/\(0<=d.l/\d.l<=1000000000)/\0<=d.u/\d.u<=1000000000:=by
    simpa [inR] using h1
   by_cases h3:d.u<d.l
   . have e:vd d=false:=W0S (by omega);simp -implicitDefEqProofs[e,h3]
   . have e:vd d=true:=W0M (by omega);simp -implicitDefEqProofs[e,h3]
theorem Zbe (x:Iss):PC Tryz.prog G 251 [.agg (isa x)] (.agg [.int .i64 x.d,.int .i64 x.l]):=by
 (refine Z80 rfl λR hG hrd=>Qga ?_;subst hG)
 simp -implicitDefEqProofs[Z7Y,Z7Z,isa]
def ck1 (x:Iss):Bool:=inR x.d 1 9999&&inR x.l 1 8
def ck2 (x:Iss):Bool:=if x.k=1 then inR x.its.length 1 8&&decide (x.dms.length=0) else inR x.k 2 3&&decide (x.dms.length<=4)&&decide (x.its.length=0)
def ck3 (x:Iss):Bool:=(List.range x.its.length).all (itOk x)
def ck4 (x:Iss):Bool:=x.dms.all vd
theorem Zbf (x:Iss):issB x=(ck1 x&&ck2 x&&ck3 x&&ck4 x):=by
 have e:headB x=(ck1 x&&ck2 x):=by
  unfold headB ck1 ck2;by_cases c1:x.k=1
  . have:inR x.k 1 3=true:=W0M (by omega);simp only[c1,if_true];rw[c1]at this;rw[this];simp
  . have:inR x.k 1 3=inR x.k 2 3:=decide_eq_decide.2 (by omega);simp only[c1,if_false,this,Bool.and_assoc]
 simp only[issB,e,ck3,ck4]
theorem Zbg (x:Iss):PC Tryz.prog G 260 [.agg (isa x)] (.bool (ck1 x)):=by
 (refine Z83 rfl λR hG hrd=>Qga ?_;subst hG)
 simp -implicitDefEqProofs[Z81,Z82,isa];refine Qco (Zbc _ _ _) (by simp) ?_
 cases q1:inR x.d 1 9999
 . simp -implicitDefEqProofs[ck1,q1]
 . simp -implicitDefEqProofs[];refine Qco (Zbc _ _ _) (by simp) ?_;simp -implicitDefEqProofs[ck1,q1]
theorem Zbh (x:Iss) (hk:0<=x.k/\x.k<=255):PC Tryz.prog G 261 [.agg (isa x)] (.bool (ck2 x)):=by
 (refine Z86 rfl λR hG hrd=>Qga ?_;subst hG)
 have wk:IntKind.i64.wrap x.k=x.k:=Yf (by omega) (by omega);by_cases c1:x.k=1
 . simp -implicitDefEqProofs[Z84,Z85,isa,c1];refine Qco (Zbc _ _ _) (by simp) ?_
   cases q1:inR x.its.length 1 8
   . simp -implicitDefEqProofs[ck2,c1,q1]
   . by_cases q2:x.dms.length=0 <;> simp -implicitDefEqProofs[ck2,c1,q1,q2]
 . simp -implicitDefEqProofs[Z84,Z85,isa,c1,wk];refine Qco (Zbc _ _ _) (by simp) ?_
   cases q1:inR x.k 2 3
   . simp -implicitDefEqProofs[ck2,c1,q1]
   by_cases q2:x.dms.length<=4
   . have q2i:(x.dms.length:Int)<=4:=(by omega);by_cases q3:x.its.length=0 <;> simp -implicitDefEqProofs[ck2,c1,q1,q2,q2i,q3]
   . have q2i:¬(x.dms.length:Int)<=4:=(by omega);simp -implicitDefEqProofs[ck2,c1,q1,q2,q2i]
theorem Zbi (x:Iss) (h1:Sml x.its):PC Tryz.prog G 262 [.agg (isa x)] (.bool (ck3 x)):=by
 (refine Z89 rfl λR hG hrd=>Qga ?_;subst hG)
 unfold Sml at h1;simp -implicitDefEqProofs[Z87,Z88,isa];refine Za9 (λi=>⟨[(8,.int .i64 i),(7,.int .i64 x.its.length),(6,.vsl (x.its.map ita)),(1,.ptr 1 0)],[(1,.box (isa x))]⟩) (λi=>∀ j,j<i->itOk x j=true) x.its.length (by (first|exact Ym.tm (by simp[lk,isa])|exact Ym.sub (by simp[lk,Ya,AV.keys,isa]) (by simp[lk,Yc,Ya,AV.keys,isa]))) (by simp) ?_ ?_
 . intro i hi he;refine Qga ?_;have w1:IntKind.i64.wrap ((i:Int)+1)=((i+1:Nat):Int):=Yf (by omega) (by omega);have a1:itAt x i=x.its[i]:=by simp[itAt,List.getD,hi]
   have no:itOk x i=false->ck3 x=false:=λe=>by
    cases hI:ck3 x
    . rfl
    . rw[Zau.1 hI i hi]at e;cases e
   simp -implicitDefEqProofs[hi,isa,ita];refine Qco (Zbc _ _ _) (by simp) ?_
   cases p1:inR x.its[i].1 1 9999
   . simp -implicitDefEqProofs[];refine ⟨rfl,?_⟩;refine Qgr ?_;simp -implicitDefEqProofs[no (by simp[itOk,a1,p1])]
   simp -implicitDefEqProofs[];refine Qco (Zbc _ _ _) (by simp) ?_
   cases p2:inR x.its[i].2 1 20
   . simp -implicitDefEqProofs[];refine ⟨rfl,?_⟩;refine Qgr ?_;simp -implicitDefEqProofs[no (by simp[itOk,a1,p2])]
   by_cases p3:x.its[i].1=x.d
   . simp -implicitDefEqProofs[p3];refine ⟨rfl,?_⟩;refine Qgr ?_;simp -implicitDefEqProofs[no (by simp[itOk,a1,p3])]
   cases i with
   | zero =>
     have ok:itOk x 0=true:=(by simp[itOk,a1,p1,p2,p3]);have w0:IntKind.i64.wrap 1=1:=rfl;simp -implicitDefEqProofs[p3,w0];exact ⟨rfl,(by (first|exact Ym.tm (by simp[lk,isa])|exact Ym.sub (by simp[lk,Ya,AV.keys,isa]) (by simp[lk,Yc,Ya,AV.keys,isa]))),ok⟩
   | succ i =>
     have w2:IntKind.i64.wrap (i:Int)=(i:Int):=Yf (by omega) (by omega);have w3:IntKind.i64.wrap ((i:Int)+1+1)=(i:Int)+1+1:=Yf (by omega) (by omega);have k3:(0:Int)<(i:Int)+1:=(by omega);have hi2:i<x.its.length:=(by omega);have a2:itAt x i=x.its[i]:=(by simp[itAt,List.getD,hi2]);by_cases p4:x.its[i+1].1<=x.its[i].1
     . simp -implicitDefEqProofs[p3,k3,w2,hi2,ita,p4];refine ⟨rfl,?_⟩;refine Qgr ?_;simp -implicitDefEqProofs[no (by simp[itOk,a1,a2,p4])]
     . have ok:itOk x (i+1)=true:=(by simp[itOk,a1,a2,p1,p2,p3];omega);simp -implicitDefEqProofs[p3,k3,w2,w3,hi2,ita,p4];refine ⟨rfl,(by (first|exact Ym.tm (by simp[lk,isa])|exact Ym.sub (by simp[lk,Ya,AV.keys,isa]) (by simp[lk,Yc,Ya,AV.keys,isa]))),λj hj=>?_⟩;by_cases e:j=i+1
       . subst e;exact ok
       . exact he j (by omega)
 . intro he;refine Qga ?_;have hI:ck3 x=true:=Zau.2 he;simp -implicitDefEqProofs[];refine Qgr ?_;simp -implicitDefEqProofs[hI]
theorem Zbj (d:Dm):PC Tryz.prog G 265 [.agg [.int .i64 d.n,.int .i64 d.l,.int .i64 d.u]] (.bool (!vd d)):=by
 (refine Z8f rfl λR hG hrd=>Qga ?_;subst hG)
 simp -implicitDefEqProofs[Z8d,Z8e];refine Qco (Zbd d) (by simp) ?_
 cases q:vd d <;> simp -implicitDefEqProofs[]
theorem Zbk (x:Iss) (h2:Sml x.dms):PC Tryz.prog G 263 [.agg (isa x)] (.bool (ck4 x)):=by
 (refine Z8c rfl λR hG hrd=>Qga ?_;subst hG)
 simp -implicitDefEqProofs[Z8a,Z8b,isa];refine Qco (Zb8 265 [] (λd=>!vd d) x.dms rfl h2 (λd _=>Zbj d)) (by simp) ?_;have e:(!x.dms.any λd=>!vd d)=ck4 x:=(by simp[ck4,W2m]);simp -implicitDefEqProofs[e]
end
def lowB (l:List Int) (n:Int):Nat:=l.countP (λx=>decide (x<n))
theorem Zbl (l:List Int) (n:Int):lowB l n<=l.length:=List.countP_le_length
theorem Zbm {l:List Int} (hs:l.Pairwise (· <= ·)) (n:Int):∀ (i:Nat) (hi:i<l.length),i<lowB l n↔l[i]<n:=by
 induction l with
 |nil=>intro i hi;simp at hi
 | cons x l ih =>
   obtain ⟨h1,h2⟩:=W1l.1 hs;intro i hi;by_cases hx:x<n
   . have e:lowB (x::l) n=lowB l n+1:=(by simp[lowB,W2c,hx]);rw[e]
     cases i with
     |zero=>simp[hx]
     | succ i =>
       have:=ih h2 i (by simpa using hi);simp only[List.getElem_cons_succ];rw[<- this];omega
   . have z:lowB l n=0:=by
      unfold lowB;rw[List.countP_eq_zero];intro y hy;have:=h1 y hy;simp;omega
     have e:lowB (x::l) n=0:=by
      have:lowB (x::l) n=lowB l n:=(by simp[lowB,W2c,hx]);omega
     rw[e]
     have hge:∀ (i:Nat) (hi:i<(x::l).length),x<=(x::l)[i]:=λi hi=>by
      cases i with
      |zero=>exact W1Z _
      |succ i=>exact h1 _ (W0e _)
     have:=hge i hi
     constructor
     . intro h;omega
     . intro h;omega
theorem Zbn {l:List Int} (hs:l.Pairwise (· < ·)):l.Pairwise (· <= ·):=hs.imp λh=>Int.le_of_lt h
theorem Zbo {l:List Int} (hs:l.Pairwise (· <= ·)) (n:Int):n∈l↔l[lowB l n]? = some n:=by
 constructor
 . intro hm;obtain ⟨j,hj,he⟩:=W0k hm;have h1:¬j<lowB l n:=λh=>by have:=(Zbm hs n j hj).1 h;omega
   have h2:lowB l n<l.length:=(by omega);rw[W07 h2];have h3:¬l[lowB l n]<n:=λh=>by have:=(Zbm hs n _ h2).2 h;omega
   have h4:l[lowB l n]<=l[j]:=by
    by_cases e:lowB l n=j
    . simp[e]
    . exact W0Y.1 hs _ _ h2 hj (by omega)
   congr 1;omega
 . intro h;exact W0d h
theorem Zbp {i j:Nat} (h:i+j<=33554432):IntKind.i64.wrap ((IntKind.u64.wrap (IntKind.i64.wrap ((i:Int)+j))).fdiv (2 ^ (min 1 IntKind.u64.bits)))=(((i+j) / 2:Nat):Int):=by
 show IntKind.i64.wrap ((IntKind.u64.wrap (IntKind.i64.wrap ((i:Int)+j))).fdiv (2 ^ (min 1 64)))=(((i+j) / 2:Nat):Int);have e1:IntKind.i64.wrap ((i:Int)+j)=((i+j:Nat):Int):=by rw[Yf (by omega) (by omega)];omega
 have e2:IntKind.u64.wrap (((i+j:Nat):Int))=((i+j:Nat):Int):=by
  have:=IntWalk.u64_in (((i+j:Nat):Int)) ⟨by omega,by omega⟩;exact this
 rw[e1,e2]
 have e3:(((i+j:Nat):Int)).fdiv (2 ^ (min 1 64))=(((i+j) / 2:Nat):Int):=by
  rw[Int.fdiv_eq_ediv_of_nonneg _ (by decide)];simp
 rw[e3,Yf (by omega) (by omega)]
section
variable {G:Nat->Option (List AV)}
theorem Zbq (n:Int):PC Tryz.prog G 157 [.int .i64 n] (.bool false):=by
 (refine Z8G rfl λR hG hrd=>Qga ?_;subst hG)
 simp -implicitDefEqProofs[Z8E,Z8F]
theorem Zbr (n:Int):PC Tryz.prog G 214 [.int .i64 n] (.bool false):=by
 (refine Z8J rfl λR hG hrd=>Qga ?_;subst hG)
 simp -implicitDefEqProofs[Z8H,Z8I]
theorem Zbs (a b:Int):PC Tryz.prog G 189 [.int .i64 a,.int .i64 b] (.bool (decide (a<b))):=by
 (refine Z8D rfl λR hG hrd=>Qga ?_;subst hG)
 by_cases h:a<b
 . simp -implicitDefEqProofs[Z8B,Z8C,h]
   try refine Qco (Zbq a) (by simp) ?_
   try simp -implicitDefEqProofs[h]
 . simp -implicitDefEqProofs[Z8B,Z8C,h]
   try refine Qco (Zbq a) (by simp) ?_
   try simp -implicitDefEqProofs[h]
theorem Zbt (l:List Int) (n:Int) (hs:l.Pairwise (· <= ·)) (hl:Sml l):PC Tryz.prog G 210 [.vsl (l.map ia),.int .i64 n] (.tup [.int .i64 (lowB l n),.bool (decide (n∈l))]):=by
 (refine Z8A rfl λR hG hrd=>Qga ?_;subst hG)
 unfold Sml at hl;have hle:=Zbl l n;simp -implicitDefEqProofs[Z8y,Z8z];refine Z1Q (λp:Nat×Nat=>⟨[(8,.int .i64 p.2),(7,.int .i64 p.1),(6,.int .i64 l.length),(0,.vsl (l.map ia)),(1,.int .i64 n)],[]⟩) (λp=>p.1<=lowB l n/\lowB l n<=p.2/\p.2<=l.length) (λp=>p.2-p.1) (0,l.length) (by (first|exact Ym.tm (by simp[lk])|exact Ym.sub (by simp[lk,Ya,AV.keys]) (by simp[lk,Yc,Ya,AV.keys]))) ⟨by omega,hle,W0f _⟩ ?_;rintro ⟨lo,hi⟩ ⟨h1,h2,h3⟩;simp only at h1 h2 h3;refine Qga ?_;by_cases h4:lo<hi
 . obtain ⟨m,hm⟩ : ∃ m,m=(lo+hi) / 2:=⟨_,rfl⟩;have hw:=Zbp (i:=lo) (j:=hi) (by omega);rw[<- hm]at hw;have m1:m<l.length:=(by omega);have w1:IntKind.i64.wrap ((m:Int)+1)=((m+1:Nat):Int):=Yf (by omega) (by omega);have hb:=Zbm hs n m m1;by_cases h5:l[m]<n
   . simp -implicitDefEqProofs[h4,hw,m1,ia];refine Qco (Zbs _ _) (by simp) ?_;simp -implicitDefEqProofs[h5,w1];exact ⟨(m+1,hi),(by (first|exact Ym.tm (by simp[lk])|exact Ym.sub (by simp[lk,Ya,AV.keys]) (by simp[lk,Yc,Ya,AV.keys]))),⟨by have:=hb.2 h5;show m+1<=_;omega,h2,h3⟩,by show hi-(m+1)<hi-lo;omega⟩
   . simp -implicitDefEqProofs[h4,hw,m1,ia];refine Qco (Zbs _ _) (by simp) ?_;simp -implicitDefEqProofs[h5];exact ⟨(lo,m),(by (first|exact Ym.tm (by simp[lk])|exact Ym.sub (by simp[lk,Ya,AV.keys]) (by simp[lk,Yc,Ya,AV.keys]))),⟨h1,by have:¬m<lowB l n:=λh=>h5 (hb.1 h);show lowB l n<=m;omega,by show m<=_;omega⟩,by show m-lo<hi-lo;omega⟩
 . obtain rfl:lo=lowB l n:=(by omega);have hmem:=Zbo hs n;by_cases h5:lowB l n<l.length
   . by_cases h6:l[lowB l n]=n
     . have e:n∈l:=hmem.2 (by rw[W07 h5,h6]);simp -implicitDefEqProofs[h4];refine Qgr ?_;simp -implicitDefEqProofs[h5,ia,h6,e]
     . have e:¬n∈l:=λh=>h6 (by have:=hmem.1 h;rw[W07 h5]at this;exact W1M this)
       simp -implicitDefEqProofs[h4];refine Qgr ?_;simp -implicitDefEqProofs[h5,ia,h6];refine Qco (Zbr _) (by simp) ?_;simp -implicitDefEqProofs[e]
   . have e:¬n∈l:=λh=>by have:=hmem.1 h;rw[W26 (by omega)]at this;cases this
     simp -implicitDefEqProofs[h4];refine Qgr ?_;simp -implicitDefEqProofs[h5,e]
end
open Qq in
def Zbu:RCode :=
 .seq (R 0 [l 9 1,a [0] (w 10 (.nilck (.t 9))),a [1] (f 11 0 10),a [2] (f 12 0 11),a [3] (l 13 12),l 14 2,a [4,5] (w 15 (.call 216 [.t 13,.t 14,.c (.func (.func 217) [] [])])),a [6] (m 8 15),a [7] (x 16 0 8),a [7] (x 17 1 8),a [8,6,0,1,2,3,4,5,6,7,8] (m 4 16),a [9,10,0,1,2,3,4,5,6,7,8,9,10] (m 5 17)]) (.seq (r 1 [l 18 1,w 19 (.nilck (.t 18)),f 20 0 19,f 21 0 20,l 22 21,m 23 4,w 24 (.slc 5 (.t 22) (some (.t 23)) none),e 25 24,n 26 O]) (.block 0 (.loop (.seq (r 2 [o 27 .lss 26 25]) (.seq (.cond (.t 27) .skip (.exit 0)) (.seq (.block 1 (.seq (r 3 [i 28 5 24 26,L 29 5 28,w 7 (.alloc [O,O,.int .u8 0,.nils,.nils]),s 5 7 29]) (.seq (r 4 [f 30 0 7,l 31 30,l 32 2,o 33 .neq 31 32,m 34 33,g 34 false (m 35 0),g 34 false (L 36 5 7),g 34 false (w 37 (.callv (.t 35) [.t 36])),g 34 false (t 38 37),u 39 34 38]) (.cond (.t 39) .ret .skip)))) (r 5 [k 40 .add 26 I,m 26 40])))))))
section
variable {P:Program} {N:Nat} {c:Code}
theorem Zbv {a b:RCode} (h:Z1A P N c (.seq a b)=true):∃ c1 c2,c = .seq c1 c2/\Z1A P N c1 a=true/\Z1A P N c2 b=true:=by
 cases c <;> simp only[Z1A,W05,W01]at h
 exact ⟨_,_,rfl,h.1,h.2⟩
theorem Zbw {id:Nat} {a:RCode} (h:Z1A P N c (.block id a)=true):∃ c1,c = .block id c1/\Z1A P N c1 a=true:=by
 cases c <;> simp only[Z1A,W05,W01,W0A]at h
 obtain ⟨rfl,h⟩:=h;exact ⟨_,rfl,h⟩
theorem Zbx {a:RCode} (h:Z1A P N c (.loop a)=true):∃ c1,c = .loop c1/\Z1A P N c1 a=true:=by
 cases c <;> simp only[Z1A,W05]at h
 exact ⟨_,rfl,h⟩
theorem Zby {id:Nat} {rs:List ROper} (h:Z1A P N c (.reg id false rs)=true):∃ ops,c = .region id ops false/\allB2 (Z1z P N ops) ops.toList rs=true:=by
 cases c <;> simp only[Z1A,W05,W01,W0A]at h
 obtain ⟨⟨⟨rfl,rfl⟩,h⟩,-⟩:=h;exact ⟨_,rfl,h⟩
end
section
variable {P:Program} {R:Run} {rd:Option Nat} {m:Nat} {ops:Array Oper} {Q:Exit->Act->World->Prop}
theorem Zbz (l2:List Nat):∀ (l:List Nat) (rs':List ROper) (st:St) (K:St->Prop) (a:Act) (W:World),
  (∀ (i:Nat) (r:ROper),rs'[i]? = some r->∃ (j:Nat) (o:Oper),l[i]? = some j/\ops[j]? = some o/\Z1z P R.N ops o r=true)->l.length=rs'.length->(∀ st' a' W',K st'->SR R st' a' W'->wpOpsIn (FW rd) m P ops Q l2 a' W') ->
  RW P R.G rs' st (λe s=>e = .normal/\K s)->SR R st a W->wpOpsIn (FW rd) m P ops Q (l++l2) a W:=by
 intro l
 induction l with
 | nil =>
   intro rs' st K a W hok hl hK hr hs
   cases rs' with
   |nil=>exact hK st a W hr.2 hs
   |cons r rs'=>simp at hl
 | cons j l ih =>
   intro rs' st K a W hok hl hK hr hs
   cases rs' with
   |nil=>simp at hl
   | cons r rs' =>
     obtain ⟨j',o,hj,ho,hk⟩:=hok 0 r rfl;simp at hj;subst hj
     have go:∀ (st':St) (a':Act) (W':World),RW P R.G rs' st' (λe s=>e = .normal/\K s)->SR R st' a' W'->wpOpsIn (FW rd) m P ops Q (l++l2) a' W':=λst' a' W' h2 hs' =>
      ih rs' st' K a' W' (λi r hi=>by simpa using hok (i+1) r (by simpa using hi)) (by simpa using hl) hK h2 hs'
     rw[W1e,wpOpsIn_cons];rcases Z22 hr with ⟨st',h1,h2⟩ | ⟨hw,g,args,hi,hc⟩
     . exact Z26 h1 ho hk hs λa' W' hs'=>go st' a' W' h2 hs'
     . obtain ⟨κ,hκ⟩:=hs;have hk0:=hk;simp only[Z1z,W01,W0b]at hk;obtain ⟨⟨⟨hd,hdn⟩,-⟩,-⟩:=hk;have hdn':∀ n,r.d=some n->n<R.N:=λn e=>by rw[e]at hdn;simpa using hdn
       refine Z25 hi hw ho hk0 hκ λvs ha=>?_
       rcases hc with ⟨v,st1,hc,hn⟩ | ⟨ch,hc,hn⟩
       . obtain ⟨h1,h2⟩:=hc R a W κ vs rfl hκ ha;refine ⟨h1,h2.mono ?_⟩;rintro e W' ⟨u,κ1,rfl,h3,h4⟩;refine go _ _ _ hn ⟨κ1,?_⟩;rw[hd];exact h3.putd hdn' h4
       . exact absurd hn.1 (by simp)
end
def ZbA (M:Nat->Prop) (W:World) (N:Nat) (rd:Option Nat):Run :=
 { G:=λ_=>none,M:=M,X:=λ_=>False,W0:=W,N:=N,E0:={ M:=M,loc:=λ_=>none,row:=λ_=>none },rd:=rd,nm:=true }
def TT' (M:Nat->Prop) (W:World) (t:List (Nat×AV)) (a:Act):Prop:=∀ n x,lk t n=some x->PV M W x (a.tmps.getD n Go.undef)
theorem ZbB {M:Nat->Prop} {W:World} {N:Nat} {rd:Option Nat} {t:List (Nat×AV)} {a:Act} (hM:∀ b,M b->b<W.heap.size) (hd:a.defers=[]) (hN:a.tmps.size=N) (ht:TT' M W t a):SR (ZbA M W N rd) ⟨t,[]⟩ a W:=by
 have hGM:∀ b,b<W.heap.size->¬M b->¬((⟨t,[]⟩ : St).env M (λ_=>none)).M b/\W.heap[b]? = W.heap[b]?:=λb _ h1=>⟨(by rintro (h2 | ⟨k,s,h2⟩) <;> first|exact h1 h2|cases h2),rfl⟩
 refine ⟨λ_=>none,⟨[],by simp[hd,ZbA],.nil,by simp,λ_=>rfl⟩,hN,λn x hx=>.pv ((ht n x hx).mono hGM (W0f _)),(λk o ho=>by simp[St.get,lk]at ho),(λk p hk=>by cases hk),(λk k' b s s' hk=>by cases hk),hM,λ_ _ h=>h,Kp.refl _ _,(λg cs hg=>by cases hg),⟨W0f _,hGM,λk p hk=>(by cases hk),λk sz m hk=>(by cases hk)⟩,λ_ _=>⟨rfl,rfl⟩⟩
theorem ZbC {M:Nat->Prop} {W W':World} {N:Nat} {rd:Option Nat} {st:St} {a:Act} (h:SR (ZbA M W N rd) st a W') {t:List (Nat×AV)} (hw:Ym st ⟨t,[]⟩) (hp:∀ q∈t,q.2.pure=true) :
  a.defers=[]/\a.tmps.size=N/\TT' M W' t a/\Ext W W':=by
 obtain ⟨κ,hk⟩:=hw _ _ _ h;obtain ⟨cs,e,-,-,hz⟩:=hk.defers
 have hκ:∀ k,κ k=none:=λk=>by
  cases e:κ k with
  |none=>rfl
  |some p=>obtain ⟨o,ho⟩:=hk.dom k p e;simp[St.get,lk]at ho
 refine ⟨by rw[e,hz rfl];rfl,hk.size,λn x hx=>?_,⟨hk.kp.os,hk.kp.tape,hk.kp.output,hk.kp.size,λi hi=>hk.kp.block i hi (λh=>h)⟩⟩;refine ((hk.tm n x hx).toPV (hp (n,x) (Z4K hx))).mono (λb _ hb=>⟨λh=>hb (.inl h),rfl⟩) (W0f _)
theorem ZbD {P:Program} {R:Run} {st:St} {a:Act} {W:World} {κ:Nat->Option (Nat×Nat)} {rd:Option Nat} {m:Nat} {ops:Array Oper} {r:ROper} {j l:Nat} {o:Oper} {f y:RA} {K:Act->World->Prop} {Q:Exit->Act->World->Prop}
  (hr:r.op = .callv f [y]) (hf:evA R.G st f = .func (.yield l) [] []) (hw:wants st r.guard=some true) (ho:ops[j]? = some o) (hk:Z1z P R.N ops o r=true) (hκ:SK R st a W κ)
  (hc:∀ u,VR (st.env R.M κ) W (evA R.G st y) u->YieldAt (FW rd) (m-1) P l #[u] W fun
   |.returned v,W'=>K (a.put o.dst v) W'
   |.panicked ch,W'=>Q (.panic ch) a W'
   |.outgrown,_=>LetsOut Q):wpOpIn (FW rd) m P ops Q j K a W:=by
 simp only[Z1z,W01,W0b]at hk;obtain ⟨⟨⟨hd,hdn⟩,hop⟩,hg⟩:=hk;unfold wpOpIn;simp only[ho];rw[if_pos (Z20 hκ hg hw)];rw[hr]at hop;simp only[Z1y,if_true,Z1x]at hop
 split at hop <;> try (simp at hop;done)
 . simp_all
 . simp_all
 . rename_i r0 x xs ats y' ys e1 e2;simp only[W01]at hop;simp only[ROp.callv.injEq]at e2;obtain ⟨rfl,rfl⟩:=e2;have hx:=hκ.ev hop.1;rw[hf]at hx;obtain ⟨us,vs,hv1,hv2,hv3⟩:=hx.func_inv
   obtain rfl:us = #[]:=by
    have:=hv2.1;rw[<- W16];exact W0l.1 (by simpa using this)
   obtain rfl:vs = #[]:=by
    have:=hv3.1;rw[<- W16];exact W0l.1 (by simpa using this)
   cases xs with
   |nil=>simp[allB2]at hop
   | cons z xs =>
     cases xs with
     |cons _ _=>simp[allB2]at hop
     | nil =>
       have hz:=hκ.ev (show okA z y=true by simpa [allB2] using hop.2);obtain ⟨fn,tmps,assign,body,h1,h2⟩:=hc _ hz;refine ⟨λ_ _=>trivial,?_⟩;rw[Oper.semAt_eq _ _ _ (λc e=>by rw[e1]at e;cases e)]
       have:(execOp a.eval o).run P W = .ok (.round l fn tmps assign body) W:=by
        rw[<- h1];simp[execOp,e1,resolve,hv1,Deferred.ofValue,invoke,Sem.run_bind]
       rw[this];exact ⟨Z24,h2⟩
def elsOf (r:List Iss) (n:Int):List AV:=(r.filter (λx=>decide (x.d=n))).map (λx=>.agg (isa x))
theorem ZbE {n:Int}:∀ (l:List Iss),(l.map (·.d)).Pairwise (· <= ·)->(∀ x∈l,n<=x.d) ->
  (l.filter (λx=>decide (x.d=n))).length<=l.length/\(∀ i,i<(l.filter (λx=>decide (x.d=n))).length->(l.filter (λx=>decide (x.d=n)))[i]? = l[i]? /\ ∀ x,l[i]? = some x->x.d=n) /\
   ∀ x,l[(l.filter (λx=>decide (x.d=n))).length]? = some x->x.d≠n
 |[],_,_=>by simp
 | y :: l,hs,hg=>by
   simp only[W0F,W1l]at hs;obtain ⟨h1,h2,h3⟩:=ZbE l hs.2 λx hx=>hg x (W0z _ hx)
   by_cases hy:y.d=n
   . have e:(y::l).filter (λx=>decide (x.d=n))=y::l.filter (λx=>decide (x.d=n)):=(by simp[hy]);rw[e];refine ⟨by simpa using h1,λi hi=>?_,λx hx=>h3 x (by simpa using hx)⟩
     cases i with
     |zero=>exact ⟨rfl,λx hx=>by simp at hx;subst hx;exact hy⟩
     |succ i=>exact ⟨by simpa using (h2 i (by simpa using hi)).1,λx hx=>(h2 i (by simpa using hi)).2 x (by simpa using hx)⟩
   . have gt:n<y.d:=by have:=hg y (W0H ..);omega
     have e:(y::l).filter (λx=>decide (x.d=n))=[]:=by
      rw[W2o];intro x hx;rcases W0g.1 hx with rfl|hx
      . simpa using hy
      . have:=hs.1 x.d (W0i.2 ⟨x,hx,rfl⟩);simp;omega
     rw[e];refine ⟨by simp,by simp,λx hx=>?_⟩;simp at hx;subst hx;exact hy
theorem ZbF {r:List Iss} {n:Int} (hs:(r.map (·.d)).Pairwise (· <= ·)):∃ cnt,cnt=(r.filter (λx=>decide (x.d=n))).length/\cnt<=(r.drop (lowB (r.map (·.d)) n)).length /\
  (∀ i,i<cnt->(r.filter (λx=>decide (x.d=n)))[i]? = (r.drop (lowB (r.map (·.d)) n))[i]? /\ ∀ x,(r.drop (lowB (r.map (·.d)) n))[i]? = some x->x.d=n)/\(∀ x,(r.drop (lowB (r.map (·.d)) n))[cnt]? = some x->x.d≠n):=by
 have e:r.filter (λx=>decide (x.d=n))=(r.drop (lowB (r.map (·.d)) n)).filter (λx=>decide (x.d=n)):=by
  conv=>lhs;rw[<- W11 (lowB (r.map (·.d)) n) r]
  rw[W1a]
  have:(r.take (lowB (r.map (·.d)) n)).filter (λx=>decide (x.d=n))=[]:=by
   rw[W2o];intro x hx;obtain ⟨i,hi,rfl⟩:=W0k hx;simp only[W15]at hi;have:=(Zbm hs n i (by simp;omega)).1 (by omega);simp only[W1w]at this;simp only[W1W];simp;omega
  rw[this,W18]
 refine ⟨_,rfl,?_⟩;rw[e];refine ZbE _ ?_ λx hx=>?_
 . rw[List.map_drop];exact hs.sublist (List.drop_sublist _ _)
 . obtain ⟨i,hi,rfl⟩:=W0k hx;simp only[List.length_drop]at hi;have q:=Zbm hs n (lowB (r.map (·.d)) n+i) (by simp;omega);simp only[W1w]at q;simp only[List.getElem_drop];by_cases h:r[lowB (r.map (·.d)) n+i].d<n
   . have:=q.2 h;omega
   . omega
section
variable {G:Nat->Option (List AV)}
theorem ZbG (a b:Int):PC Tryz.prog G 107 [.int .i64 a,.int .i64 b] (.int .i64 (if a<b then -1 else if b<a then 1 else 0)):=by
 (refine Z8M rfl λR hG hrd=>Qga ?_;subst hG)
 by_cases h1:a<b
 . simp -implicitDefEqProofs[Z8K,Z8L];refine Qco (Zbq a) (by simp) ?_;simp -implicitDefEqProofs[];refine Qco (Zbq b) (by simp) ?_;simp -implicitDefEqProofs[h1]
 . by_cases h2:b<a
   . simp -implicitDefEqProofs[Z8K,Z8L];refine Qco (Zbq a) (by simp) ?_;simp -implicitDefEqProofs[];refine Qco (Zbq b) (by simp) ?_;simp -implicitDefEqProofs[h1,h2]
   . simp -implicitDefEqProofs[Z8K,Z8L];refine Qco (Zbq a) (by simp) ?_;simp -implicitDefEqProofs[];refine Qco (Zbq b) (by simp) ?_;simp -implicitDefEqProofs[h1,h2]
theorem ZbH (x:Iss) (n:Int):PC Tryz.prog G 217 [.agg (isa x),.int .i64 n] (.int .i64 (if x.d<n then -1 else if n<x.d then 1 else 0)):=by
 (refine Z8V rfl λR hG hrd=>Qga ?_;subst hG)
 simp -implicitDefEqProofs[Z8T,Z8U,isa];refine Qco (ZbG _ _) (by simp) ?_;simp -implicitDefEqProofs[]
theorem ZbI (r:List Iss) (n:Int) (hs:(r.map (·.d)).Pairwise (· <= ·)) (hl:Sml r):∃ b,PC Tryz.prog G 216 [.vsl (r.map isa),.int .i64 n,.func (.func 217) [] []] (.tup [.int .i64 (lowB (r.map (·.d)) n),.bool b]):=by
 have hle:=Zbl (r.map (·.d)) n;simp only[W0N]at hle;refine ⟨if h:lowB (r.map (·.d)) n<r.length then decide ((if r[lowB (r.map (·.d)) n].d<n then (-1:Int) else if n<r[lowB (r.map (·.d)) n].d then 1 else 0)=0) else false,?_⟩
 (refine Z8P rfl λR hG hrd=>Qga ?_;subst hG)
 unfold Sml at hl;simp -implicitDefEqProofs[Z8N,Z8O];refine Z1Q (λp:Nat×Nat=>⟨[(10,.int .i64 p.2),(9,.int .i64 p.1),(8,.int .i64 r.length),(0,.vsl (r.map isa)),(1,.int .i64 n),(2,.func (.func 217) [] [])],[]⟩) (λp=>p.1<=lowB (r.map (·.d)) n/\lowB (r.map (·.d)) n<=p.2/\p.2<=r.length) (λp=>p.2-p.1) (0,r.length) (by (first|exact Ym.tm (by simp[lk])|exact Ym.sub (by simp[lk,Ya,AV.keys]) (by simp[lk,Yc,Ya,AV.keys]))) ⟨by omega,hle,W0f _⟩ ?_;rintro ⟨lo,hi⟩ ⟨h1,h2,h3⟩;simp only at h1 h2 h3;refine Qga ?_;by_cases h4:lo<hi
 . obtain ⟨m,hm⟩ : ∃ m,m=(lo+hi) / 2:=⟨_,rfl⟩;have hw:=Zbp (i:=lo) (j:=hi) (by omega);rw[<- hm]at hw;have m1:m<r.length:=(by omega);have w1:IntKind.i64.wrap ((m:Int)+1)=((m+1:Nat):Int):=Yf (by omega) (by omega);have hb:=Zbm hs n m (by simpa using m1);simp only[W1w]at hb;by_cases h5:r[m].d<n
   . have c1:(-1:Int)<0:=(by omega);simp -implicitDefEqProofs[h4,hw,m1,isa];refine Qco (ZbH r[m] n) (by simp) ?_;simp -implicitDefEqProofs[h5,w1];exact ⟨(m+1,hi),(by (first|exact Ym.tm (by simp[lk])|exact Ym.sub (by simp[lk,Ya,AV.keys]) (by simp[lk,Yc,Ya,AV.keys]))),⟨by have:=hb.2 h5;show m+1<=_;omega,h2,h3⟩,by show hi-(m+1)<hi-lo;omega⟩
   . simp -implicitDefEqProofs[h4,hw,m1,isa];refine Qco (ZbH r[m] n) (by simp) ?_;by_cases h6:n<r[m].d
     . simp -implicitDefEqProofs[h5,h6];exact ⟨(lo,m),(by (first|exact Ym.tm (by simp[lk])|exact Ym.sub (by simp[lk,Ya,AV.keys]) (by simp[lk,Yc,Ya,AV.keys]))),⟨h1,by have:¬m<lowB (r.map (·.d)) n:=λh=>h5 (hb.1 h);show _<=m;omega,by show m<=_;omega⟩,by show m-lo<hi-lo;omega⟩
     . simp -implicitDefEqProofs[h5,h6];exact ⟨(lo,m),(by (first|exact Ym.tm (by simp[lk])|exact Ym.sub (by simp[lk,Ya,AV.keys]) (by simp[lk,Yc,Ya,AV.keys]))),⟨h1,by have:¬m<lowB (r.map (·.d)) n:=λh=>h5 (hb.1 h);show _<=m;omega,by show m<=_;omega⟩,by show m-lo<hi-lo;omega⟩
 . obtain rfl:lo=lowB (r.map (·.d)) n:=(by omega);by_cases h5:lowB (r.map (·.d)) n<r.length
   . simp -implicitDefEqProofs[h4];refine Qgr ?_;simp -implicitDefEqProofs[h5,isa];refine Qco (ZbH r[lowB (r.map (·.d)) n] n) (by simp) ?_;simp -implicitDefEqProofs[]
   . simp -implicitDefEqProofs[h4];refine Qgr ?_;simp -implicitDefEqProofs[h5]
def issA:RCode->RCode
 |.seq a _=>a
 |c=>c
def ZbJ:RCode->RCode
 |.seq _ b=>b
 |c=>c
def issB1 (c:RCode):RCode:=issA (ZbJ c)
def issB2 (c:RCode):RCode:=ZbJ (ZbJ c)
def issB3 (c:RCode):RCode:=match issB2 c with
 |.block _ b=>b
 |c=>c
def issL (c:RCode):RCode:=match issB3 c with
 |.loop b=>b
 |c=>c
def issBk:RCode->RCode
 |.block _ b=>b
 |c=>c
def ZbK:RCode->List ROper
 |.reg _ _ l=>l
 |_=>[]
def itS (seg:List Iss) (bk:AV) (n:Int) (l i:Nat):List (Nat×AV) :=
 [(26,.int .i64 i),(25,.int .i64 seg.length),(24,.vsl (seg.map isa)),(2,.vptr [.int .i64 n] 0),(1,.vptr [bk] 0),(0,.func (.yield l) [] [])]
theorem ZbL (r:List Iss) (n:Int) (ds:AV) (hs:(r.map (·.d)).Pairwise (· <= ·)) (hl:Sml r):IterP Tryz.prog 215 [.vptr [.vptr [.vsl (r.map isa),ds] 0] 0,.vptr [.int .i64 n] 0] (elsOf r n):=by
 refine ⟨by kernel_rfl,?_⟩;intro n' l lb J K M W hn hJe hKe hJM hC hY h0;obtain ⟨cnt,hcnt,hc1,hc2,hc3⟩:=ZbF (n:=n) hs;generalize hseg:r.drop (lowB (r.map (·.d)) n)=seg at hc1 hc2 hc3;have hsl:seg.length<=16777216:=(by rw[<- hseg];simp;unfold Sml at hl;omega);have hle:=Zbl (r.map (·.d)) n;simp only[W0N]at hle;unfold Sml at hl;have hel:(elsOf r n).length=cnt:=(by rw[hcnt];simp[elsOf]);obtain ⟨c,hc,hok⟩ : ∃ c,Tryz.f215.body=some c/\Z1A Tryz.prog Tryz.f215.ntmps c Zbu=true:=⟨_,rfl,by kernel_rfl⟩;obtain ⟨N,hN⟩ : ∃ N,N=Tryz.f215.ntmps:=⟨_,rfl⟩;have hN3:3<=N:=(by rw[hN];decide);rw[<- hN]at hok;refine callsIn_of_wp (F:=Fence.wide) Tryz.func215 hc trivial ?_ rfl
 have hres:∀ (tm:Array Value) (W':World),(results Tryz.f215 tm).run Tryz.prog W' = .ok (.tuple #[]) W':=λtm W'=>by
  have e:Tryz.f215.results = #[]:=rfl;simp[results,e,Sem.run_bind]
 obtain ⟨Q,hQ⟩ : ∃ Q,Q=bodyPost Tryz.prog Tryz.f215 (λe W'=>(∃ v,e = .returned v)/\((∃ M,J (elsOf r n).length M W')∨K W')):=⟨_,rfl⟩
 have hfin:∀ (a:Act) (W':World),a.defers=[]->((∃ M,J (elsOf r n).length M W')∨K W')->Q .ret a W'/\Q .normal a W':=λa W' hd h=>by
  rw[hQ];exact ⟨⟨hd,_,hres _ _,⟨_,rfl⟩,h⟩,⟨hd,_,hres _ _,⟨_,rfl⟩,h⟩⟩
 rw[<- hQ];have hwide:Fence.wide=FW none:=rfl;rw[hwide];obtain ⟨cA,c1,rfl,okA',ok1⟩:=Zbv (a:=issA Zbu) (b:=ZbJ Zbu) hok;obtain ⟨cB,c2,rfl,okB',ok2⟩:=Zbv (a:=issB1 Zbu) (b:=issB2 Zbu) ok1;obtain ⟨c3,rfl,ok3⟩:=Zbw (id:=0) (a:=issB3 Zbu) ok2;obtain ⟨c4,rfl,ok4⟩:=Zbx (a:=issL Zbu) ok3
 have hbk:∃ v1 v2,lb = #[v1,v2]/\PV M W (.vptr [.vptr [.vsl (r.map isa),ds] 0] 0) v1/\PV M W (.vptr [.int .i64 n] 0) v2:=by
  obtain ⟨h1,h2⟩:=hC
  match lb,h1,h2 with
  | ⟨[v1,v2]⟩,_,h2=>exact ⟨v1,v2,rfl,h2 0 _ v1 rfl rfl,h2 1 _ v2 rfl rfl⟩
 obtain ⟨v1,v2,rfl,hv1,hv2⟩:=hbk;obtain ⟨bk,hbk⟩ : ∃ bk,bk=AV.vptr [.vsl (r.map isa),ds] 0:=⟨_,rfl⟩;rw[<- hbk]at hv1
 have start:SR (ZbA M W N none) ⟨[(2,.vptr [.int .i64 n] 0),(1,.vptr [bk] 0),(0,.func (.yield l) [] [])],[]⟩ { tmps:=(#[.func (.yield l) #[] #[]] ++ #[v1,v2]:Array Value)++Array.replicate (N-3) Go.undef,defers:=[] } W:=by
  refine ZbB (hJM 0 M W h0) rfl (by simp;omega) λk x hx=>?_
  have g0:((#[.func (.yield l) #[] #[]] ++ #[v1,v2]:Array Value)++Array.replicate (N-3) Go.undef).getD 0 Go.undef = .func (.yield l) #[] #[]:=(by simp[Array.getD]);have g1:((#[.func (.yield l) #[] #[]] ++ #[v1,v2]:Array Value)++Array.replicate (N-3) Go.undef).getD 1 Go.undef=v1:=(by simp[Array.getD];omega);have g2:((#[.func (.yield l) #[] #[]] ++ #[v1,v2]:Array Value)++Array.replicate (N-3) Go.undef).getD 2 Go.undef=v2:=(by simp[Array.getD];omega);simp only[lk]at hx
  split at hx
  . rename_i e;subst e;cases hx;rw[g2];exact hv2
  . split at hx
    . rename_i e;subst e;cases hx;rw[g1];exact hv1
    . split at hx
      . rename_i e;subst e;cases hx;rw[g0];exact .func _ [] [] #[] #[] rfl rfl (by simp) (by simp)
      . cases hx
 have hact:({ tmps:=(#[.func (.yield l) #[] #[]] ++ #[v1,v2]:Array Value)++Array.replicate (Tryz.f215.ntmps-(#[.func (.yield l) #[] #[]] ++ #[v1,v2]:Array Value).size) Go.undef,defers:=[] }:Act)={ tmps:=(#[.func (.yield l) #[] #[]] ++ #[v1,v2]:Array Value)++Array.replicate (N-3) Go.undef,defers:=[] }:=(by rw[hN];rfl);rw[hact]
 have arA:AR Tryz.prog (ZbA M W N none) (issA Zbu) ⟨[(2,.vptr [.int .i64 n] 0),(1,.vptr [bk] 0),(0,.func (.yield l) [] [])],[]⟩ (λe s=>e = .normal/\Ym s ⟨[(4,.int .i64 (lowB (r.map (·.d)) n)),(2,.vptr [.int .i64 n] 0),(1,.vptr [bk] 0),(0,.func (.yield l) [] [])],[]⟩):=by
  obtain ⟨b,hb⟩:=ZbI (G:=λ_=>none) r n hs hl;refine Qga ?_;simp -implicitDefEqProofs[issA,Zbu,hbk];refine Ye.of hb (by simp[AV.pure]) ?_;simp -implicitDefEqProofs[];exact ⟨rfl,(by (first|exact Ym.tm (by simp[lk])|exact Ym.sub (by simp[lk,Ya,AV.keys]) (by simp[lk,Yc,Ya,AV.keys])))⟩
 have hdr:List.drop (lowB (r.map (·.d)) n) (r.map isa)=seg.map isa:=(by rw[<- List.map_drop,hseg]);have hsg:seg.length=r.length-lowB (r.map (·.d)) n:=(by rw[<- hseg];simp);have htk:List.take r.length (r.map isa)=r.map isa:=W0J (by simp);have k5:(r.map isa).all (λr=>r.length == 5)=true:=by simp[isa]
 have arB:∀ R':Run,AR Tryz.prog R' (issB1 Zbu) ⟨[(4,.int .i64 (lowB (r.map (·.d)) n)),(2,.vptr [.int .i64 n] 0),(1,.vptr [bk] 0),(0,.func (.yield l) [] [])],[]⟩ (λe s=>e = .normal/\Ym s ⟨itS seg bk n l 0,[]⟩):=λR'=>by
  refine Qga ?_;simp -implicitDefEqProofs[issA,issB1,ZbJ,Zbu,hbk,hle,k5,hdr];exact (by (first|exact Ym.tm (by simp[lk,itS,hsg,htk,hdr])|exact Ym.sub (by simp[lk,Ya,AV.keys,itS,hsg,htk,hdr]) (by simp[lk,Yc,Ya,AV.keys,itS,hsg,htk,hdr])))
 refine wpIn_seq (wpIn_mono (arA cA okA' _ _ W start) ?_);rintro e a1 W1 ⟨s1,⟨rfl,hw1⟩,hs1⟩;refine wpIn_seq (wpIn_mono (arB _ cB okB' _ a1 W1 (hw1 _ _ _ hs1)) ?_);rintro e a2 W2 ⟨s2,⟨rfl,hw2⟩,hs2⟩;obtain ⟨d2,n2,t2,e2⟩:=ZbC hs2 hw2 (by simp[itS,AV.pure,hbk]);have hJ2:=hJe _ _ _ _ h0 e2;clear hs2 hw2 hs1 hw1 arA arB start hact;refine wpIn_block ?_;refine wpIn_loop_ghost (λm a A=>∃ i M,i<=cnt/\m=seg.length-i/\J i M A/\a.defers=[]/\a.tmps.size=N/\TT' M A (itS seg bk n l i) a) seg.length ⟨0,M,W1f _,by simp,hJ2,d2,n2,t2⟩ ?_;clear hJ2 d2 n2 t2 e2 h0 hv1 hv2 hC;rintro m a A ⟨i,M,hi,rfl,hJ,hd,hn2,ht⟩;have hfr:SR (ZbA M A N none) ⟨itS seg bk n l i,[]⟩ a A:=ZbB (hJM i M A hJ) hd hn2 ht;by_cases hlt:i<seg.length
 case neg =>
  have hic:i=cnt:=(by omega);subst hic
  have ar:∀ R':Run,AR Tryz.prog R' (issL Zbu) ⟨itS seg bk n l i,[]⟩ (λe s=>e = .exit 0/\Ym s ⟨[],[]⟩):=λR'=>by
   refine Qga ?_;simp -implicitDefEqProofs[issL,issB3,issB2,ZbJ,Zbu,itS,hlt];exact (by (first|exact Ym.tm (by simp[lk])|exact Ym.sub (by simp[lk,Ya,AV.keys]) (by simp[lk,Yc,Ya,AV.keys])))
  refine wpIn_mono (ar _ c4 ok4 _ a A hfr) ?_;rintro e a3 A3 ⟨s3,⟨rfl,hw3⟩,hs3⟩;obtain ⟨d3,-,-,e3⟩:=ZbC hs3 hw3 (by simp);refine (hfin a3 A3 d3 (.inl ⟨M,?_⟩)).2;rw[hel];exact hJe _ _ _ _ hJ e3
 by_cases hd2:seg[i].d=n
 case neg =>
  have hic:i=cnt:=by
   by_cases e:i<cnt
   . exact absurd ((hc2 i e).2 _ (W07 hlt)) hd2
   . omega
  subst hic
  have ar:∀ R':Run,AR Tryz.prog R' (issL Zbu) ⟨itS seg bk n l i,[]⟩ (λe s=>e = .ret/\Ym s ⟨[],[]⟩):=λR'=>by
   refine Qga ?_;simp -implicitDefEqProofs[issL,issB3,issB2,ZbJ,Zbu,itS,hlt,isa,hd2];exact (by (first|exact Ym.tm (by simp[lk])|exact Ym.sub (by simp[lk,Ya,AV.keys]) (by simp[lk,Yc,Ya,AV.keys])))
  refine wpIn_mono (ar _ c4 ok4 _ a A hfr) ?_;rintro e a3 A3 ⟨s3,⟨rfl,hw3⟩,hs3⟩;obtain ⟨d3,-,-,e3⟩:=ZbC hs3 hw3 (by simp);refine (hfin a3 A3 d3 (.inl ⟨M,?_⟩)).1;rw[hel];exact hJe _ _ _ _ hJ e3
 have hic:i<cnt:=by
  by_cases e:i<cnt
  . exact e
  . exact absurd hd2 (hc3 _ (by rw[show cnt=i by omega];exact W07 hlt))
 have helt:(elsOf r n)[i]? = some (.agg (isa seg[i])):=by
  simp only[elsOf,W09,(hc2 i hic).1,W07 hlt,W0m]
 obtain ⟨L,hL⟩ : ∃ L,L=issL Zbu:=⟨_,rfl⟩;obtain ⟨r2,q1,rfl,okr2,okq1⟩:=Zbv (a:=issA (issL Zbu)) (b:=ZbJ (issL Zbu)) ok4;obtain ⟨k1,q2,rfl,okk1,okq2⟩:=Zbv (a:=issA (ZbJ (issL Zbu))) (b:=ZbJ (ZbJ (issL Zbu))) okq1;obtain ⟨q3,r5,rfl,okq3,okr5⟩:=Zbv (a:=issA (ZbJ (ZbJ (issL Zbu)))) (b:=ZbJ (ZbJ (ZbJ (issL Zbu)))) okq2;obtain ⟨q4,rfl,okq4⟩:=Zbw (id:=1) (a:=issBk (issA (ZbJ (ZbJ (issL Zbu))))) okq3;obtain ⟨r3,q5,rfl,okr3,okq5⟩:=Zbv (a:=issA (issBk (issA (ZbJ (ZbJ (issL Zbu)))))) (b:=ZbJ (issBk (issA (ZbJ (ZbJ (issL Zbu)))))) okq4;obtain ⟨r4,k2,rfl,okr4,okk2⟩:=Zbv (a:=issA (ZbJ (issBk (issA (ZbJ (ZbJ (issL Zbu))))))) (b:=ZbJ (ZbJ (issBk (issA (ZbJ (ZbJ (issL Zbu))))))) okq5;obtain ⟨ops,rfl,hops⟩:=Zby (id:=4) (rs:=ZbK (issA (ZbJ (issBk (issA (ZbJ (ZbJ (issL Zbu)))))))) okr4;obtain ⟨hol,hoo⟩:=Zc hops;have hol:ops.size=10:=hol
 have ar2:AR Tryz.prog (ZbA M A N none) (issA (issL Zbu)) ⟨itS seg bk n l i,[]⟩ (λe s=>e = .normal/\Ym s ⟨(27,.bool true)::itS seg bk n l i,[]⟩):=by
  refine Qga ?_;simp -implicitDefEqProofs[issL,issB3,issB2,issA,ZbJ,Zbu,itS,hlt];exact (by (first|exact Ym.tm (by simp[lk])|exact Ym.sub (by simp[lk,Ya,AV.keys]) (by simp[lk,Yc,Ya,AV.keys])))
 refine wpIn_seq (wpIn_mono (ar2 r2 okr2 _ a A hfr) ?_);rintro e b1 B1 ⟨s1,⟨rfl,w1⟩,hs1⟩
 have ark:AR Tryz.prog (ZbA M A N none) (issA (ZbJ (issL Zbu))) ⟨(27,.bool true)::itS seg bk n l i,[]⟩ (λe s=>e = .normal/\Ym s ⟨itS seg bk n l i,[]⟩):=by
  refine Qga ?_;simp -implicitDefEqProofs[issL,issB3,issB2,issA,ZbJ,Zbu,itS];exact (by (first|exact Ym.tm (by simp[lk])|exact Ym.sub (by simp[lk,Ya,AV.keys]) (by simp[lk,Yc,Ya,AV.keys])))
 refine wpIn_seq (wpIn_mono (ark k1 okk1 _ b1 B1 (w1 _ _ _ hs1)) ?_);rintro e b2 B2 ⟨s2,⟨rfl,w2⟩,hs2⟩;refine wpIn_seq (wpIn_block ?_)
 have ar3:AR Tryz.prog (ZbA M A N none) (issA (issBk (issA (ZbJ (ZbJ (issL Zbu)))))) ⟨itS seg bk n l i,[]⟩ (λe s=>e = .normal/\Ym s ⟨(7,.ptr 7 0)::itS seg bk n l i,[(7,.box (isa seg[i]))]⟩):=by
  refine Qga ?_;simp -implicitDefEqProofs[issL,issB3,issB2,issA,ZbJ,issBk,Zbu,itS,hlt,isa];exact (by (first|exact Ym.tm (by simp[lk])|exact Ym.sub (by simp[lk,Ya,AV.keys]) (by simp[lk,Yc,Ya,AV.keys])))
 refine wpIn_seq (wpIn_mono (ar3 r3 okr3 _ b2 B2 (w2 _ _ _ hs2)) ?_);rintro e b3 B3 ⟨s3,⟨rfl,w3⟩,hs3⟩;have hs3:=w3 _ _ _ hs3;clear hs1 hs2 w1 w2 w3 ar2 ark ar3;refine wpIn_seq (wpIn_region ?_);have hrg:List.range ops.size=[0,1,2,3,4,5,6]++[7,8,9]:=(by rw[hol];rfl);rw[hrg]
 have okAt:∀ (k:Nat) (r:ROper),(ZbK (issA (ZbJ (issBk (issA (ZbJ (ZbJ (issL Zbu))))))))[k]? = some r->∃ o,ops[k]? = some o/\Z1z Tryz.prog N ops o r=true:=λk r hk=>by
  have hlt:k<ops.size:=by
   have:=(W02.1 hk).1;rw[hol];exact this
  exact ⟨ops[k],by simp[hlt],hoo k _ r (by simp[hlt]) hk⟩
 refine Zbz (R:=ZbA M A N none) [7,8,9] _ ((ZbK (issA (ZbJ (issBk (issA (ZbJ (ZbJ (issL Zbu)))))))).take 7) ⟨(7,.ptr 7 0)::itS seg bk n l i,[(7,.box (isa seg[i]))]⟩
  (λs=>Ym s ⟨(36,.agg (isa seg[i]))::(35,.func (.yield l) [] [])::(34,.bool false)::itS seg bk n l i,[]⟩) b3 B3 ?_ rfl ?_ ?_ hs3
 . intro k r hk;rw[W1m]at hk
   split at hk
   . rename_i h7;obtain ⟨o,h1,h2⟩:=okAt k r hk;refine ⟨k,o,?_,h1,h2⟩
     match k,h7 with
     |0,_|1,_|2,_|3,_|4,_|5,_|6,_=>rfl
   . cases hk
 . intro s4 b4 B4 w4 hs4;obtain ⟨κ4,hk4⟩:=w4 _ _ _ hs4;obtain ⟨d4,n4,t4,e4⟩:=ZbC hs4 w4 (by simp[itS,AV.pure,hbk,isa]);obtain ⟨o7,ho7,hk7⟩:=okAt 7 _ rfl;rw[wpOpsIn_cons];refine ZbD (R:=ZbA M A N none) (l:=l) (f:=.t 35) (y:=.t 36) rfl (by simp[evA,St.tmp,lk]) (by simp[wants,St.tmp,lk]) ho7 hk7 hk4 λu hu=>?_
   have hpu:PV M B4 (.agg (isa seg[i])) u:=by
    have h36:evA (ZbA M A N none).G ⟨(36,.agg (isa seg[i]))::(35,.func (.yield l) [] [])::(34,.bool false)::itS seg bk n l i,[]⟩ (.t 36) = .agg (isa seg[i]):=(by simp[evA,St.tmp,lk]);rw[h36]at hu;exact (hu.toPV (by simp[AV.pure,isa])).mono (λb _ hb=>⟨λh=>hb (.inl h),rfl⟩) (W0f _)
   have hdst:o7.dst=some 37:=by
    simp only[Z1z,W01,W0b]at hk7;exact hk7.1.1.1
   have h34:b4.tmps.getD 34 Go.undef = .bool false:=by
    have:=t4 34 (.bool false) (by simp[lk]);generalize b4.tmps.getD 34 Go.undef=v at this
    cases this;rfl
   have suffix:∀ (b:Bool) (T:List (Nat×AV)) (M':Nat->Prop) (A':World),(T=itS seg bk n l i∨T=[])->(∀ x,M' x->x<A'.heap.size)->TT' M' A' T b4->∀ (Qx:Exit->Act->World->Prop),
     (∀ a5 A5,SR (ZbA M' A' N none) ⟨(39,.bool (!b))::T,[]⟩ a5 A5->Qx .normal a5 A5)->wpOpsIn (FW none) n' Tryz.prog ops Qx [8,9] (b4.put (some 37) (.bool b)) A':=by
    intro b T M' A' hTT hM' hT Qx hQx;have n37:37<N:=by rw[hN];decide
    have hsr:SR (ZbA M' A' N none) ⟨(37,.bool b)::(34,.bool false)::T,[]⟩ (b4.put (some 37) (.bool b)) A':=by
     refine ZbB hM' d4 (by simpa [Act.put] using n4) λk x hx=>?_
     show PV M' A' x ((b4.tmps.setIfInBounds 37 (.bool b)).getD k Go.undef);simp only[lk]at hx
     split at hx
     . rename_i e;subst e
       cases hx
       have:(b4.tmps.setIfInBounds 37 (.bool b)).getD 37 Go.undef = .bool b:=(by simp[Array.getD,n4,n37]);rw[this];exact .bool b
     . rename_i e
       have h3:(b4.tmps.setIfInBounds 37 (.bool b)).getD k Go.undef=b4.tmps.getD k Go.undef:=by
        simp only[W0a,W0p,if_neg e]
       rw[h3]
       split at hx
       . rename_i e2;subst e2;cases hx;rw[h34];exact .bool false
       . exact hT k x hx
    refine Z27 (R:=ZbA M' A' N none) [8,9] ((ZbK (issA (ZbJ (issBk (issA (ZbJ (ZbJ (issL Zbu)))))))).drop 8) ⟨(37,.bool b)::(34,.bool false)::T,[]⟩
     (λe s=>e = .normal/\Ym s ⟨(39,.bool (!b))::T,[]⟩) Qx _ A' ?_ rfl ?_ ?_ hsr
    . intro k r hk;rw[W13]at hk;obtain ⟨o,h1,h2⟩:=okAt (8+k) r hk
      have h7:k<2:=by
       have:=(W02.1 hk).1;have e:(ZbK (issA (ZbJ (issBk (issA (ZbJ (ZbJ (issL Zbu)))))))).length=10:=rfl;omega
      refine ⟨8+k,o,?_,h1,h2⟩
      match k,h7 with
      |0,_|1,_=>rfl
    . rintro e s5 a5 A5 ⟨rfl,w5⟩ hs5;exact hQx a5 A5 (w5 _ _ _ hs5)
    . rcases hTT with rfl|rfl <;> cases b
      all_goals
       simp -implicitDefEqProofs[issL,issB3,issB2,issA,ZbJ,issBk,ZbK,Zbu,itS];exact (by (first|exact Ym.tm (by simp[lk])|exact Ym.sub (by simp[lk,Ya,AV.keys]) (by simp[lk,Yc,Ya,AV.keys])))
   obtain ⟨fn,tm,asg,bo,y1,y2⟩:=hY i _ u M B4 (hJe _ _ _ _ hJ e4) helt hpu;refine ⟨fn,tm,asg,bo,y1,y2.mono ?_⟩;rintro e A' (⟨rfl,M',hJ',hSi⟩ | ⟨rfl,hK'⟩)
   . show wpOpsIn (FW none) n' Tryz.prog ops _ [8,9] (b4.put o7.dst (.bool true)) A';rw[hdst]
     have hT':TT' M' A' (itS seg bk n l i) b4:=λk x hx=>by
      refine (t4 k x ?_).mono hSi.2 hSi.1;simp only[lk];rw[if_neg (by rintro rfl;simp[itS,lk]at hx),if_neg (by rintro rfl;simp[itS,lk]at hx),if_neg (by rintro rfl;simp[itS,lk]at hx)];exact hx
     refine suffix true _ M' A' (.inl rfl) (hJM _ _ _ hJ') hT' _ λa5 A5 h5=>?_
     have ark2:AR Tryz.prog (ZbA M' A' N none) (ZbJ (ZbJ (issBk (issA (ZbJ (ZbJ (issL Zbu))))))) ⟨(39,.bool (!true))::itS seg bk n l i,[]⟩ (λe s=>e = .normal/\Ym s ⟨itS seg bk n l i,[]⟩):=by
      refine Qga ?_;simp -implicitDefEqProofs[issL,issB3,issB2,issA,ZbJ,issBk,Zbu,itS];exact (by (first|exact Ym.tm (by simp[lk])|exact Ym.sub (by simp[lk,Ya,AV.keys]) (by simp[lk,Yc,Ya,AV.keys])))
     refine wpIn_mono (ark2 k2 okk2 _ a5 A5 h5) ?_;rintro e b6 B6 ⟨s6,⟨rfl,w6⟩,hs6⟩
     have ar5:AR Tryz.prog (ZbA M' A' N none) (ZbJ (ZbJ (ZbJ (issL Zbu)))) ⟨itS seg bk n l i,[]⟩ (λe s=>e = .normal/\Ym s ⟨itS seg bk n l (i+1),[]⟩):=by
      have w1:IntKind.i64.wrap ((i:Int)+1)=((i+1:Nat):Int):=Yf (by omega) (by omega);refine Qga ?_;simp -implicitDefEqProofs[issL,issB3,issB2,issA,ZbJ,issBk,Zbu,itS,w1];exact (by (first|exact Ym.tm (by simp[lk])|exact Ym.sub (by simp[lk,Ya,AV.keys]) (by simp[lk,Yc,Ya,AV.keys])))
     refine wpIn_mono (ar5 r5 okr5 _ b6 B6 (w6 _ _ _ hs6)) ?_;rintro e b7 B7 ⟨s7,⟨rfl,w7⟩,hs7⟩;obtain ⟨d7,n7,t7,e7⟩:=ZbC hs7 w7 (by simp[itS,AV.pure,hbk]);exact ⟨seg.length-(i+1),by omega,i+1,M',by omega,rfl,hJe _ _ _ _ hJ' e7,d7,n7,t7⟩
   . show wpOpsIn (FW none) n' Tryz.prog ops _ [8,9] (b4.put o7.dst (.bool false)) A';rw[hdst];refine suffix false [] (λ_=>False) A' (.inr rfl) (λ_ h=>h.elim) (λk x hx=>by simp[lk]at hx) _ λa5 A5 h5=>?_
     have ark2:AR Tryz.prog (ZbA (λ_=>False) A' N none) (ZbJ (ZbJ (issBk (issA (ZbJ (ZbJ (issL Zbu))))))) ⟨[(39,.bool (!false))],[]⟩ (λe s=>e = .ret/\Ym s ⟨[],[]⟩):=by
      refine Qga ?_;simp -implicitDefEqProofs[issL,issB3,issB2,issA,ZbJ,issBk,Zbu];exact (by (first|exact Ym.tm (by simp[lk])|exact Ym.sub (by simp[lk,Ya,AV.keys]) (by simp[lk,Yc,Ya,AV.keys])))
     refine wpIn_mono (ark2 k2 okk2 _ a5 A5 h5) ?_;rintro e b6 B6 ⟨s6,⟨rfl,w6⟩,hs6⟩;obtain ⟨d6,-,-,e6⟩:=ZbC hs6 w6 (by simp);exact (hfin b6 B6 d6 (.inr (hKe _ _ hK' e6))).1
 . simp -implicitDefEqProofs[issL,issB3,issB2,issA,ZbJ,issBk,ZbK,Zbu,itS,isa,hd2];exact (by (first|exact Ym.tm (by simp[lk])|exact Ym.sub (by simp[lk,Ya,AV.keys]) (by simp[lk,Yc,Ya,AV.keys])))
end
def bkA (r:List Iss) (ds:List Int):AV:=.vptr [.vsl (r.map isa),.vsl (ds.map ia)] 0
theorem ZbM (r:List Iss) (ds:List Int):(bkA r ds).pure=true:=by simp[bkA,AV.pure]
attribute [simp] ZbM
section
variable {G:Nat->Option (List AV)}
theorem ZbN (r:List Iss) (ds:List Int) (n:Int) (hs:ds.Pairwise (· <= ·)) (hl:Sml ds):PC Tryz.prog G 197 [bkA r ds,.int .i64 n] (.bool (decide (n∈ds))):=by
 (refine Z8x rfl λR hG hrd=>Qga ?_;subst hG)
 simp -implicitDefEqProofs[Z8v,Z8w,bkA];refine Qco (Zbt ds n hs hl) (by simp) ?_;simp -implicitDefEqProofs[]
theorem ZbO (r:List Iss) (ds:List Int) (y:Int×Int) (hs:ds.Pairwise (· <= ·)) (hl:Sml ds):PC Tryz.prog G 196 [.agg [.int .i64 y.1,.int .i64 y.2],.vptr [bkA r ds] 0] (.bool (!decide (y.1∈ds))):=by
 (refine Z8u rfl λR hG hrd=>Qga ?_;subst hG)
 simp -implicitDefEqProofs[Z8s,Z8t];refine Qco (ZbN r ds y.1 hs hl) (by simp) ?_;simp -implicitDefEqProofs[]
theorem ZbP (r:List Iss) (ds:List Int) (n:Int):PC Tryz.prog G 211 [bkA r ds,.int .i64 n] (.func (.func 215) [] [.vptr [bkA r ds] 0,.vptr [.int .i64 n] 0]):=by
 (refine Z8S rfl λR hG hrd=>Qga ?_;subst hG)
 simp -implicitDefEqProofs[Z8Q,Z8R,bkA]
def cntV (r:List Iss) (n:Int):Int:=((r.filter (λx=>decide (x.d=n))).length:Nat)
theorem ZbQ (r:List Iss) (ds:List Int) (d l:Int) (hs:(r.map (·.d)).Pairwise (· <= ·)) (hl:Sml r) (hu:∀ y∈r,findN y.d y.l r=some y):PC Tryz.prog G 249 [bkA r ds,.agg [.int .i64 d,.int .i64 l]] (fndA (findN d l r)):=by
 (refine Z8Y rfl λR hG hrd=>Qga ?_;subst hG)
 simp -implicitDefEqProofs[Z8W,Z8X];refine Qco (ZbP r ds d) (by simp) ?_;simp -implicitDefEqProofs[]
 refine Z5a hrd (ZbL r d (.vsl (ds.map ia)) hs hl) (by simp[evA,St.tmp,lk,bkA]) (by simp[AV.pure]) (λk=>k-1000) [(3,.ptr 1003 0),(4,.ptr 1004 0),(5,.ptr 1005 0)] (λ_=>[(1003,.box [.int .i64 d,.int .i64 l]),(1004,.box [.int .i64 0,.int .i64 0,.int .u8 0,.nils,.nils]),(1005,.box [.bool false])])
  [1003,1004,1005] (λk=>∀ j,j<k->∀ y,(r.filter (λx=>decide (x.d=d)))[j]? = some y->y.l≠l) (by simp) (λ_=>rfl) (by simp) (by simp) (by simp[Yl,St.set,putO,AObj.ren,AV.ren]) (by simp[Yc,Ya,AV.keys]) (by simp[lk,AV.ren,AV.keys]) ?_ ?_
 . intro k x hx hI R' hG hN
   obtain ⟨y,hy,rfl⟩ : ∃ y,(r.filter (λx=>decide (x.d=d)))[k]? = some y/\x = .agg (isa y):=by
    simp only[elsOf,W09,W04]at hx;obtain ⟨y,h1,h2⟩:=hx;exact ⟨y,h1,h2.symm⟩
   have hym:=W0G.1 (W0d hy);have hyd:y.d=d:=W0X hym.2;refine Qga ?_;simp -implicitDefEqProofs[isa];intro R'' hG'' hN'';refine Qga ?_;simp -implicitDefEqProofs[];refine Qco (Zbe y) (by simp) ?_;simp -implicitDefEqProofs[];refine ⟨rfl,?_⟩;by_cases e:y.l=l
   . simp -implicitDefEqProofs[hyd,e,RndB,Yi,newK,frzO,frzA,frz,AV.keys,Yl,AObj.ren,AV.ren];refine Qgr ?_
     have hf:findN d l r=some y:=by
      have:=hu y hym.1;rw[hyd,e]at this;exact this
     simp -implicitDefEqProofs[hf,fndA,isa,hyd,e]
   . simp -implicitDefEqProofs[hyd,e,RndB,Yi,newK,frzO,frzA,frz,AV.keys];intro j hj z hz;by_cases e2:j=k
     . subst e2;rw[hy]at hz;cases hz;exact e
     . exact hI j (by omega) z hz
 . intro hI
   have hn:findN d l r=none:=by
    cases hf:findN d l r with
    |none=>rfl
    | some y =>
      obtain ⟨h1,h2,h3⟩:=ZaX hf;obtain ⟨j,hj,he⟩:=W0k (show y∈r.filter (λx=>decide (x.d=d)) from W0G.2 ⟨h1,W0M h2⟩);exact absurd h3 (hI j (by simp[elsOf];exact hj) y (by rw[W07 hj,he]))
   simp -implicitDefEqProofs[Yl,AObj.ren,AV.ren];refine Qgr ?_;simp -implicitDefEqProofs[hn,fndA,noIs]
end
end Go.Proofs.YtcdlimgkliklhaaGreatDoor
