/-
  The abstract machine's code of functions of the program, as a program of ours printed it; that it is theirs is proved beside each.
-/
import Derived.Test.YtpkfmfkccbnnjaaGreatDoorJAmPToAmR
import Derived.Test.YtpkfmfkccbnnjaaGreatDoorProg
import Derived.Test.YtpkfmfkccbnnjaaGreatDoorJEdToNl
import Derived.Test.YtpkfmfkccbnnjaaGreatDoorJRcTToEc
set_option linter.all false
set_option linter.unusedSimpArgs false
set_option linter.unusedVariables false
set_option linter.unusedSectionVars false
namespace Go.Proofs.YtpkfmfkccbnnjaaGreatDoor
open Go.RowKit
open Qq in
def Zfs:RCode :=
 .seq (r 0 [b 3 0,b 4 1,n 6 (.bool false)]) (.seq (r 1 [m 7 2,w 8 (.mkf (.func 159) [] [.t 3,.t 4]),c 9 77 [7,8],t 10 9,m 6 10]) .ret)
def Zft:List RRes:=[.t 6]
theorem Zfu:PCt Tryz.prog 136 Tryz.f136 Zfs Zft:=pcT Tryz.func136 rfl (by kernel_rfl) (by kernel_rfl) (by kernel_rfl)
open Qq in
def Zfv:RCode :=
 .seq (r 0 [n 4 (.bool false)]) (.seq (r 1 [m 5 0,l 6 1,o 7 .lss 5 6,m 8 7,g 8 false (m 9 0),g 8 false (l 10 2),g 8 false (o 11 .gtr 9 10),u 12 8 11,m 4 12]) .ret)
def Zfw:List RRes:=[.t 4]
theorem Zfx:PCt Tryz.prog 159 Tryz.f159 Zfv Zfw:=pcT Tryz.func159 rfl (by kernel_rfl) (by kernel_rfl) (by kernel_rfl)
open Qq in
def Zfy:RCode :=
 .seq (r 0 [b 2 0,n 4 (.bool false)]) (.seq (r 1 [f 5 1 2,l 6 5,m 7 1,i 8 10 6 7,f 9 0 8,l 10 9,w 11 (.bsl false 1 1 [O] [(0,.t 10)]),w 12 (.call 136 [.c I,.c (.int .i64 9999),.t 11]),m 13 12,g 13 true (f 14 1 2),g 13 true (l 15 14),g 13 true (m 16 1),g 13 true (i 17 10 15 16),g 13 true (f 18 1 17),g 13 true (l 19 18),g 13 true (w 20 (.bsl false 1 1 [O] [(0,.t 19)])),g 13 true (w 21 (.call 136 [.c O,.c (.int .i64 14610),.t 20])),v 22 13 21,m 4 22]) .ret)
def Zfz:List RRes:=[.t 4]
theorem ZfA:PCt Tryz.prog 203 Tryz.f203 Zfy Zfz:=pcT Tryz.func203 rfl (by kernel_rfl) (by kernel_rfl) (by kernel_rfl)
open Qq in
def ZfB:RCode :=
 .seq (r 0 [b 2 0,n 4 (.bool false)]) (.seq (r 1 [f 5 1 2,l 6 5,m 7 1,i 8 10 6 7,f 9 2 8,l 10 9,k 11 .leq 10 (.int .u8 2),m 12 11,g 12 true (f 13 1 2),g 12 true (l 14 13),g 12 true (m 15 1),g 12 true (i 16 10 14 15),g 12 true (f 17 9 16),g 12 true (l 18 17),g 12 true (k 19 .leq 18 (.int .u8 3)),v 20 12 19,m 4 20]) .ret)
def ZfC:List RRes:=[.t 4]
theorem ZfD:PCt Tryz.prog 204 Tryz.f204 ZfB ZfC:=pcT Tryz.func204 rfl (by kernel_rfl) (by kernel_rfl) (by kernel_rfl)
open Qq in
def ZfE:RCode :=
 .seq (r 0 [b 2 0,n 4 (.bool false)]) (.seq (r 1 [f 6 1 2,l 7 6,m 8 1,i 9 10 7 8,L 10 10 9,w 5 (.alloc [O,O,.int .u8 0,O,O,O,O,O,.bool false,.int .u8 0]),s 10 5 10]) (.seq (r 2 [f 11 5 5,l 12 11,f 13 6 5,l 14 13,w 15 (.bsl false 1 2 [O,O] [(0,.t 12),(1,.t 14)]),w 16 (.call 136 [.c I,.c (.int .i64 999),.t 15]),m 17 16,g 17 true (f 18 5 5),g 17 true (l 19 18),g 17 true (f 20 6 5),g 17 true (l 21 20),g 17 true (o 22 .leq 19 21),v 23 17 22,m 4 23]) .ret))
def ZfF:List RRes:=[.t 4]
theorem ZfG:PCt Tryz.prog 205 Tryz.f205 ZfE ZfF:=pcT Tryz.func205 rfl (by kernel_rfl) (by kernel_rfl) (by kernel_rfl)
open Qq in
def ZfH:RCode :=
 .seq (r 0 [b 2 0,n 4 (.bool false)]) (.seq (r 1 [f 8 1 2,l 9 8,m 10 1,i 11 10 9 10,L 12 10 11,w 5 (.alloc [O,O,.int .u8 0,O,O,O,O,O,.bool false,.int .u8 0]),s 10 5 12]) (.seq (.seq (r 2 [w 13 (.build [O,O] []),f 14 3 5,l 15 14,f 16 4 5,l 17 16,w 18 (.build [O,O] [(0,1,.t 15),(1,1,.t 17)]),w 19 (.eqs false [.i,.i] (.t 13) (.t 18))]) (.cond (.t 19) (.seq (r 3 [f 20 7 5,l 21 20,k 22 .neq 21 O,m 4 22]) .ret) .skip)) (.seq (r 4 [f 24 0 2,L 25 1 24,f 26 3 5,l 27 26,f 28 4 5,l 29 28,w 30 (.build [O,O] [(0,1,.t 27),(1,1,.t 29)]),c 31 207 [25,30],m 23 31,x 32 0 23,x 33 1 23,w 6 (.alloc [O,O,.int .u8 0,.nils,.nils]),s 5 6 32,m 7 33]) (.seq (r 5 [m 34 7,k 35 .eql 34 O,m 4 35]) .ret))))
def ZfI:List RRes:=[.t 4]
theorem ZfJ:PCt Tryz.prog 206 Tryz.f206 ZfH ZfI:=pcT Tryz.func206 rfl (by kernel_rfl) (by kernel_rfl) (by kernel_rfl)
open Qq in
def ZfK:RCode :=
 .seq (r 0 [b 2 0,n 4 (.bool false)]) (.seq (r 1 [f 6 1 2,l 7 6,m 8 1,i 9 10 7 8,L 10 10 9,w 5 (.alloc [O,O,.int .u8 0,O,O,O,O,O,.bool false,.int .u8 0]),s 10 5 10]) (.seq (r 2 [f 11 4 5,l 12 11,k 13 .geq 12 (.int .i64 2),m 14 13,g 14 false (f 15 8 5),g 14 false (l 16 15),g 14 false (t 17 16),g 14 false (m 18 17),g 18 true (f 19 9 5),g 18 true (l 20 19),g 18 true (k 21 .eql 20 (.int .u8 0)),g 14 false (v 22 18 21),u 23 14 22,m 4 23]) .ret))
def ZfL:List RRes:=[.t 4]
theorem ZfM:PCt Tryz.prog 208 Tryz.f208 ZfK ZfL:=pcT Tryz.func208 rfl (by kernel_rfl) (by kernel_rfl) (by kernel_rfl)
open Qq in
def ZfN:RCode :=
 .seq (r 0 [b 2 0,n 4 (.bool false)]) (.seq (r 1 [f 6 1 2,l 7 6,m 8 1,i 9 10 7 8,L 10 10 9,w 5 (.alloc [O,O,.int .u8 0,O,O,O,O,O,.bool false,.int .u8 0]),s 10 5 10]) (.seq (r 2 [f 11 7 5,l 12 11,k 13 .eql 12 O,m 14 13,g 14 false (f 15 1 2),g 14 false (l 16 15),g 14 false (m 17 1),g 14 false (w 18 (.slc 10 (.t 16) none (some (.t 17)))),g 14 false (w 19 (.mkf (.func 211) [] [.t 5])),g 14 false (c 20 210 [18,19]),u 21 14 20,m 4 21]) .ret))
def ZfO:List RRes:=[.t 4]
theorem ZfP:PCt Tryz.prog 209 Tryz.f209 ZfN ZfO:=pcT Tryz.func209 rfl (by kernel_rfl) (by kernel_rfl) (by kernel_rfl)
open Qq in
def ZfQ:RCode :=
 .seq (r 0 [b 2 0,n 3 (.bool false)]) (.seq (r 1 [f 4 0 2,l 5 4,f 6 7 1,l 7 6,o 8 .eql 5 7,m 3 8]) .ret)
def ZfR:List RRes:=[.t 3]
theorem ZfS:PCt Tryz.prog 211 Tryz.f211 ZfQ ZfR:=pcT Tryz.func211 rfl (by kernel_rfl) (by kernel_rfl) (by kernel_rfl)
open Qq in
def ZfT:RCode :=
 .seq (r 0 [b 2 0,b 3 1,n 4 (.bool false)]) (.seq (r 1 [f 5 1 2,l 6 5,l 7 3,w 8 (.slc 10 (.t 6) none (some (.t 7))),w 9 (.mkf (.func 213) [] [.t 2,.t 3]),c 10 210 [8,9],t 11 10,m 4 11]) .ret)
def ZfU:List RRes:=[.t 4]
theorem ZfV:PCt Tryz.prog 212 Tryz.f212 ZfT ZfU:=pcT Tryz.func212 rfl (by kernel_rfl) (by kernel_rfl) (by kernel_rfl)
open Qq in
def ZfW:RCode :=
 .seq (r 0 [b 3 0,n 4 (.bool false)]) (.seq (R 1 [f 5 0 3,a [0] (l 6 5),f 7 1 1,a [2] (l 8 7),l 9 2,a [3,4] (i 10 10 8 9),a [5] (f 11 0 10),a [6] (l 12 11),a [1,7] (o 13 .eql 6 12),a [8,0,1,2,3,4,5,6,7,8] (m 4 13)]) .ret)
def ZfX:List RRes:=[.t 4]
theorem ZfY:PCt Tryz.prog 213 Tryz.f213 ZfW ZfX:=pcT Tryz.func213 rfl (by kernel_rfl) (by kernel_rfl) (by kernel_rfl)
open Qq in
def ZfZ:RCode :=
 .seq (r 0 [b 2 0,n 4 (.bool false)]) (.seq (R 1 [m 5 1,a [0] (k 6 .eql 5 O),a [1] (m 7 6),a [2] (g 7 false (f 8 1 2)),a [3,2] (g 7 false (l 9 8)),a [2] (g 7 false (m 10 1)),a [5,2] (g 7 false (k 11 .sub 10 I)),a [4,6,2] (g 7 false (i 12 10 9 11)),a [7,2] (g 7 false (f 13 1 12)),a [8,2] (g 7 false (l 14 13)),a [2] (g 7 false (f 15 1 2)),a [10,2] (g 7 false (l 16 15)),a [2] (g 7 false (m 17 1)),a [11,12,2] (g 7 false (i 18 10 16 17)),a [13,2] (g 7 false (f 19 1 18)),a [14,2] (g 7 false (l 20 19)),a [9,15,2,2] (g 7 false (c 21 112 [14,20])),a [2] (g 7 false (f 22 1 2)),a [17,2] (g 7 false (l 23 22)),a [2] (g 7 false (m 24 1)),a [19,2] (g 7 false (k 25 .sub 24 I)),a [18,20,2] (g 7 false (i 26 10 23 25)),a [21,2] (g 7 false (f 27 0 26)),a [22,2] (g 7 false (l 28 27)),a [2] (g 7 false (f 29 1 2)),a [24,2] (g 7 false (l 30 29)),a [2] (g 7 false (m 31 1)),a [25,26,2] (g 7 false (i 32 10 30 31)),a [27,2] (g 7 false (f 33 0 32)),a [28,2] (g 7 false (l 34 33)),a [23,29,16,2] (g 7 false (c 35 112 [28,34])),a [16,30,2] (g 7 false (w 36 (.bsl false 1 2 [O,O] [(0,.t 21),(1,.t 35)]))),a [31,30,2] (g 7 false (c 37 111 [36])),a [32,2] (g 7 false (k 38 .lss 37 O)),a [2,33] (u 39 7 38),a [34,32,0,1,2,3,4,5,6,7,8,9,10,11,12,13,14,15,16,17,18,19,20,21,22,23,24,25,26,27,28,29,30,31,32,33,34] (m 4 39)]) .ret)
def Zg0:List RRes:=[.t 4]
theorem Zg1:PCt Tryz.prog 214 Tryz.f214 ZfZ Zg0:=pcT Tryz.func214 rfl (by kernel_rfl) (by kernel_rfl) (by kernel_rfl)
open Qq in
def Zg2:RCode :=
 .seq (r 0 [b 1 0,n 2 .nilp,n 3 O]) (.scope (.seq (r 1 [f 13 0 1,L 14 1 13,c 15 70 [14],m 12 15,x 16 0 12,x 17 1 12,m 4 16,m 5 17]) (.seq (.seq (r 2 [m 18 5,k 19 .neq 18 O]) (.cond (.t 19) (.seq (r 3 [m 20 5,n 2 .nilp,m 3 20]) .ret) .skip)) (.seq (.seq (r 4 [f 21 1 1,l 22 21,e 23 22,k 24 .gtr 23 (.int .i64 12)]) (.cond (.t 24) (.seq (r 5 [n 2 .nilp,n 3 (.int .i64 30)]) .ret) .skip)) (.seq (r 6 [L 25 2 1,m 26 4,w 27 (.build [.nils,.nils,.nils,.nils] [(0,2,.t 25),(2,1,.t 26)]),b 28 27,m 6 28]) (.seq (r 7 [n 7 (.bool false)]) (.seq (.label 0) (.seq (.seq (r 8 [f 29 1 1,l 30 29,e 31 30,n 32 O]) (.block 0 (.loop (.seq (r 9 [o 33 .lss 32 31]) (.seq (.cond (.t 33) .skip (.exit 0)) (.seq (.block 1 (.seq (r 10 [m 34 32,i 35 10 30 32,L 36 10 35,w 9 (.alloc [O,O,.int .u8 0,O,O,O,O,O,.bool false,.int .u8 0]),m 8 34,s 10 9 36]) (.seq (.seq (r 11 [w 37 (.load true 8 (.g 2)),n 38 O]) (.block 2 (.loop (.seq (r 12 [k 39 .lss 38 (.int .i64 8)]) (.seq (.cond (.t 39) .skip (.exit 2)) (.seq (.block 3 (.seq (r 13 [w 40 (.vop (.aidx true 8 1) [(.t 37),(.t 38)]),w 11 (.alloc [.nilf]),s 1 11 40]) (.seq (r 14 [f 41 0 11,l 42 41,L 43 2 1,m 44 8,w 45 (.callv (.t 42) [.t 43,.t 44]),t 46 45]) (.cond (.t 46) (.seq (r 15 [n 7 (.bool true)]) (.exit 0)) .skip)))) (r 16 [k 47 .add 38 I,m 38 47]))))))) (.seq (r 17 [f 48 2 9,l 49 48,k 50 .eql 49 (.int .u8 1)]) (.cond (.t 50) (R 18 [m 51 6,m 52 6,a [1] (w 53 (.nilck (.t 52))),a [2] (f 54 3 53),a [3] (l 55 54),f 56 0 9,a [5] (l 57 56),a [6] (w 58 (.bsl false 1 1 [O] [(0,.t 57)])),a [4,7] (w 59 (.app 1 8 (.t 55) (.t 58))),a [0,0,1,2,3,4,5,6,7,8] (w 60 (.nilck (.t 51))),a [9,0,1,2,3,4,5,6,7,8] (f 61 3 60),a [10,8,8,0,1,2,3,4,5,6,7,8] (s 1 61 59)]) .skip))))) (r 19 [k 62 .add 32 I,m 32 62]))))))) (.seq (.seq (r 20 [m 63 7,m 64 63,g 64 false (m 65 6),g 64 false (w 66 (.nilck (.t 65))),g 64 false (f 67 3 66),g 64 false (l 68 67),g 64 false (e 69 68),g 64 false (k 70 .gtr 69 (.int .i64 5)),u 71 64 70]) (.cond (.t 71) (.seq (r 21 [n 2 .nilp,n 3 (.int .i64 30)]) .ret) .skip)) (.seq (r 22 [m 72 6,w 73 (.nilck (.t 72)),f 74 3 73,l 75 74,c 76 54 [75]]) (.seq (r 23 [m 77 6,m 2 77,n 3 O]) .ret)))))))))))
def Zg3:List RRes:=[.t 2,.t 3]
theorem Zg4:PCt Tryz.prog 107 Tryz.f107 Zg2 Zg3:=pcT Tryz.func107 rfl (by kernel_rfl) (by kernel_rfl) (by kernel_rfl)
open Qq in
def Zg5:RCode :=
 .seq (r 0 [b 1 0,n 2 O]) (.seq (r 1 [L 6 2 1,c 7 107 [6],m 5 7,x 8 0 5,x 9 1 5,m 3 8,m 4 9]) (.seq (r 2 [m 10 4,m 2 10]) .ret))
def Zg6:List RRes:=[.t 2]
theorem Zg7:PCt Tryz.prog 75 Tryz.f75 Zg5 Zg6:=pcT Tryz.func75 rfl (by kernel_rfl) (by kernel_rfl) (by kernel_rfl)
open Qq in
def Zg8:RCode :=
 .seq (r 0 [n 4 O]) (.seq (r 1 [w 10 (.mkmap),m 5 10]) (.seq (.seq (r 2 [m 11 0,w 12 (.nilck (.t 11)),f 13 3 12,l 14 13,e 15 14,n 16 O]) (.block 0 (.loop (.seq (r 3 [o 17 .lss 16 15]) (.seq (.cond (.t 17) .skip (.exit 0)) (.seq (.block 1 (.seq (r 4 [i 18 1 14 16,l 19 18,m 7 19]) (r 5 [m 20 5,m 21 7,z (.mupd (.i .i64) (.t 20) (.t 21) (.c (.bool true)))]))) (r 6 [k 22 .add 16 I,m 16 22]))))))) (.seq (.seq (r 7 [m 23 1,e 24 23,n 25 O]) (.block 2 (.loop (.seq (r 8 [o 26 .lss 25 24]) (.seq (.cond (.t 26) .skip (.exit 2)) (.seq (.block 3 (.seq (r 9 [m 27 25,i 28 1 23 25,l 29 28,m 8 27,m 9 29]) (.seq (.seq (r 10 [m 30 5,m 31 9,w 32 (.look (.i .i64) (.bool false) false (.t 30) (.t 31)),t 33 32,m 34 33,g 34 false (m 35 8),g 34 false (k 36 .gtr 35 O),g 34 false (m 37 36),g 37 true (m 38 1),g 37 true (m 39 8),g 37 true (k 40 .sub 39 I),g 37 true (i 41 1 38 40),g 37 true (l 42 41),g 37 true (m 43 9),g 37 true (o 44 .gtr 42 43),g 34 false (v 45 37 44),u 46 34 45]) (.cond (.t 46) (.seq (r 11 [n 4 (.int .i64 31)]) .ret) .skip)) (r 12 [m 47 5,m 48 9,z (.mdel (.i .i64) (.t 47) (.t 48))])))) (r 13 [k 49 .add 25 I,m 25 49]))))))) (.seq (r 14 [n 4 O]) .ret))))
def Zg9:List RRes:=[.t 4]
theorem Zga:PCt Tryz.prog 135 Tryz.f135 Zg8 Zg9:=pcT Tryz.func135 rfl (by kernel_rfl) (by kernel_rfl) (by kernel_rfl)
open Qq in
def Zgb:RCode :=
 .seq (r 0 [b 3 0,n 6 .nilp,n 7 O]) (.seq (r 1 [L 12 2 3,c 13 107 [12],m 11 13,x 14 0 11,x 15 1 11,m 8 14,m 9 15]) (.seq (.seq (r 2 [m 16 9,k 17 .neq 16 O]) (.cond (.t 17) (.seq (r 3 [m 18 9,n 6 .nilp,m 7 18]) .ret) .skip)) (.seq (.seq (r 4 [m 19 8,m 20 1,c 21 135 [19,20],m 10 21]) (.seq (r 5 [m 22 10,k 23 .neq 22 O]) (.cond (.t 23) (.seq (r 6 [m 24 10,n 6 .nilp,m 7 24]) .ret) .skip))) (.seq (.seq (r 7 [m 25 2,w 26 (.bsl false 1 1 [O] [(0,.t 25)]),w 27 (.call 136 [.c I,.c (.int .i64 999),.t 26]),t 28 27]) (.cond (.t 28) (.seq (r 8 [n 6 .nilp,n 7 (.int .i64 2)]) .ret) .skip)) (.seq (r 9 [m 29 8,m 6 29,n 7 O]) .ret)))))
def Zgc:List RRes:=[.t 6,.t 7]
theorem Zgd:PCt Tryz.prog 101 Tryz.f101 Zgb Zgc:=pcT Tryz.func101 rfl (by kernel_rfl) (by kernel_rfl) (by kernel_rfl)
open Qq in
def Zge:RCode :=
 .seq (r 0 [b 4 0,b 5 1,b 6 2,b 7 3,n 8 .nilf]) (.seq (r 1 [w 11 (.mkmap),w 9 (.alloc [.nilm]),s 1 9 11]) (.seq (r 2 [w 10 (.alloc [.nilf])]) (.seq (r 3 [w 12 (.mkf (.func 147) [] [.t 9,.t 4,.t 5,.t 6,.t 7,.t 10]),s 1 10 12]) (.seq (r 4 [l 13 10,m 8 13]) .ret))))
def Zgf:List RRes:=[.t 8]
open Qq in
def Zgg:RCode :=
 .seq (r 0 [n 8 (.bool false)]) (.seq (.seq (r 1 [l 15 1,m 16 0,w 17 (.look (.i .i64) (.bool false) true (.t 15) (.t 16)),m 14 17,x 18 0 14,x 19 1 14,m 9 18,m 10 19]) (.seq (r 2 [m 20 10]) (.cond (.t 20) (.seq (r 3 [m 21 9,m 8 21]) .ret) .skip))) (.seq (r 4 [l 22 2,w 23 (.nilck (.t 22)),f 24 0 23,f 25 1 24,l 26 25,m 27 0,i 28 10 26 27,L 29 10 28,w 11 (.alloc [O,O,.int .u8 0,O,O,O,O,O,.bool false,.int .u8 0]),s 10 11 29]) (.seq (r 5 [f 30 2 11,l 31 30,k 32 .eql 31 (.int .u8 2),m 33 32,g 33 false (l 34 3),g 33 false (f 35 0 11),g 33 false (l 36 35),g 33 false (c 37 148 [34,36]),u 38 33 37,m 39 38,g 39 true (l 40 4),g 39 true (f 41 0 11),g 39 true (l 42 41),g 39 true (c 43 148 [40,42]),g 39 true (t 44 43),v 45 39 44,m 46 45,g 46 true (f 47 5 11),g 46 true (l 48 47),g 46 true (f 49 6 11),g 46 true (l 50 49),g 46 true (l 51 5),g 46 true (w 52 (.bsl false 1 1 [O] [(0,.t 51)])),g 46 true (c 53 136 [48,50,52]),v 54 46 53,m 12 54]) (.seq (.seq (r 6 [m 55 0,k 56 .add 55 I,m 13 56]) (.block 0 (.loop (.seq (.seq (r 7 [m 57 12,m 58 57,g 58 true (m 59 13),g 58 true (l 60 2),g 58 true (w 61 (.nilck (.t 60))),g 58 true (f 62 0 61),g 58 true (f 63 1 62),g 58 true (l 64 63),g 58 true (e 65 64),g 58 true (o 66 .lss 59 65),v 67 58 66]) (.cond (.t 67) .skip (.exit 0))) (.seq (.block 1 (R 9 [l 70 2,a [0] (w 71 (.nilck (.t 70))),a [1] (f 72 0 71),a [2] (f 73 1 72),a [3] (l 74 73),m 75 13,a [4,5] (i 76 10 74 75),a [6] (f 77 7 76),a [7] (l 78 77),f 79 0 11,a [9] (l 80 79),a [8,10] (o 81 .neq 78 80),a [11] (m 82 81),a [12] (g 82 false (l 83 6)),a [12] (g 82 false (m 84 13)),a [13,14,12,12] (g 82 false (w 85 (.callv (.t 83) [.t 84]))),a [15,12] (g 82 false (t 86 85)),a [12,16] (u 87 82 86),a [17,15,0,1,2,3,4,5,6,7,8,9,10,11,12,13,14,15,16,17] (m 12 87)])) (r 8 [m 68 13,k 69 .add 68 I,m 13 69])))))) (.seq (r 10 [l 88 1,m 89 0,m 90 12,z (.mupd (.i .i64) (.t 88) (.t 89) (.t 90))]) (.seq (r 11 [m 91 12,m 8 91]) .ret))))))
def Zgh:List RRes:=[.t 8]
theorem Zgi {G:Nat→Option (List AV)} {objs objs':List (Nat×AObj)} {args:List AV} {v:AV} (hn:args.length≤Tryz.f147.ntmps) (h:∀ R:Run,R.G=G→R.Top→AR Tryz.prog R Zgg ⟨iniT 0 args,objs⟩ (FinB Zgh v objs')):PB Tryz.prog G 147 objs args v objs' :=
 PB_of Tryz.func147 rfl (by kernel_rfl) (rc:=Zgg) (by kernel_rfl) (rs:=Zgh) (by kernel_rfl) hn (fun R _ hG hr=>h R hG hr)
open Qq in
def Zgj:RCode :=
 .seq (r 0 [b 3 0,n 6 .nils,n 7 O]) (.seq (r 1 [L 14 2 3,m 15 1,m 16 2,c 17 101 [14,15,16],m 13 17,x 18 0 13,x 19 1 13,m 8 18,m 9 19]) (.seq (.seq (r 2 [m 20 9,k 21 .neq 20 O]) (.cond (.t 21) (.seq (r 3 [m 22 9,n 6 .nils,m 7 22]) .ret) .skip)) (.seq (r 4 [m 23 8,m 24 1,m 25 2,w 26 (.call 114 [.t 23,.t 24,.c .nils,.t 25]),m 10 26]) (.seq (r 5 [n 11 .nils]) (.seq (.seq (r 6 [f 27 1 3,l 28 27,e 29 28,n 30 O]) (.block 0 (.loop (.seq (r 7 [o 31 .lss 30 29]) (.seq (.cond (.t 31) .skip (.exit 0)) (.seq (.block 1 (.seq (r 8 [m 32 30,m 12 32]) (.seq (r 9 [m 33 10,m 34 12,w 35 (.callv (.t 33) [.t 34])]) (.cond (.t 35) (r 10 [m 36 11,f 37 1 3,l 38 37,m 39 12,i 40 10 38 39,f 41 0 40,l 42 41,w 43 (.bsl false 1 1 [O] [(0,.t 42)]),w 44 (.app 1 8 (.t 36) (.t 43)),m 11 44]) .skip)))) (r 11 [k 45 .add 30 I,m 30 45]))))))) (.seq (r 12 [m 46 11,m 6 46,n 7 O]) .ret))))))
def Zgk:List RRes:=[.t 6,.t 7]
theorem Zgl:PCt Tryz.prog 79 Tryz.f79 Zgj Zgk:=pcT Tryz.func79 rfl (by kernel_rfl) (by kernel_rfl) (by kernel_rfl)
open Qq in
def Zgm:RCode :=
 .seq (r 0 [n 4 (.bool false)]) (.seq (r 1 [m 5 0,m 6 1,c 7 217 [5,6],k 8 .geq 7 O,m 4 8]) .ret)
def Zgn:List RRes:=[.t 4]
theorem Zgo:PCt Tryz.prog 210 Tryz.f210 Zgm Zgn:=pcT Tryz.func210 rfl (by kernel_rfl) (by kernel_rfl) (by kernel_rfl)
open Qq in
def Zgp:RCode :=
 .seq (r 0 [n 4 O]) (.seq (.seq (r 1 [m 6 0,e 7 6,n 8 O]) (.block 0 (.loop (.seq (r 2 [o 9 .lss 8 7]) (.seq (.cond (.t 9) .skip (.exit 0)) (.seq (.block 1 (.seq (r 3 [m 10 8,m 5 10]) (.seq (r 4 [m 11 1,m 12 0,m 13 5,i 14 10 12 13,L 15 10 14,w 16 (.callv (.t 11) [.t 15])]) (.cond (.t 16) (.seq (r 5 [m 17 5,m 4 17]) .ret) .skip)))) (r 6 [k 18 .add 8 I,m 8 18]))))))) (.seq (r 7 [n 4 (.int .i64 (-1))]) .ret))
def Zgq:List RRes:=[.t 4]
theorem Zgr:PCt Tryz.prog 217 Tryz.f217 Zgp Zgq:=pcT Tryz.func217 rfl (by kernel_rfl) (by kernel_rfl) (by kernel_rfl)
open Qq in
def Zgs:RCode :=
 .seq (r 0 [n 4 (.bool false)]) (.seq (r 1 [m 5 0,m 6 1,c 7 165 [5,6],k 8 .geq 7 O,m 4 8]) .ret)
def Zgt:List RRes:=[.t 4]
theorem Zgu:PCt Tryz.prog 148 Tryz.f148 Zgs Zgt:=pcT Tryz.func148 rfl (by kernel_rfl) (by kernel_rfl) (by kernel_rfl)
open Qq in
def Zgv:RCode :=
 .seq (r 0 [n 4 O]) (.seq (.seq (r 1 [m 6 0,e 7 6,n 8 O]) (.block 0 (.loop (.seq (r 2 [o 9 .lss 8 7]) (.seq (.cond (.t 9) .skip (.exit 0)) (.seq (.block 1 (.seq (r 3 [m 10 8,m 5 10]) (.seq (r 4 [m 11 1,m 12 0,m 13 5,i 14 1 12 13,l 15 14,o 16 .eql 11 15]) (.cond (.t 16) (.seq (r 5 [m 17 5,m 4 17]) .ret) .skip)))) (r 6 [k 18 .add 8 I,m 8 18]))))))) (.seq (r 7 [n 4 (.int .i64 (-1))]) .ret))
def Zgw:List RRes:=[.t 4]
theorem Zgx:PCt Tryz.prog 165 Tryz.f165 Zgv Zgw:=pcT Tryz.func165 rfl (by kernel_rfl) (by kernel_rfl) (by kernel_rfl)
open Qq in
def Zgy:RCode :=
 .seq (r 0 [m 3 0,e 4 3,m 2 4]) (r 1 [m 5 0,m 6 2,m 7 2,w 8 (.conv .u64 (.t 7)),c 9 92 [8],w 10 (.call 91 [.t 5,.c O,.t 6,.t 9])])
def Zgz:List RRes:=[]
theorem ZgA:PCt Tryz.prog 54 Tryz.f54 Zgy Zgz:=pcT Tryz.func54 rfl (by kernel_rfl) (by kernel_rfl) (by kernel_rfl)
theorem ZgB {G:Nat→Option (List AV)} {objs objs':List (Nat×AObj)} {args:List AV} {v:AV} (hn:args.length≤Tryz.f54.ntmps) (h:∀ R:Run,R.G=G→R.Top→AR Tryz.prog R Zgy ⟨iniT 0 args,objs⟩ (FinB Zgz v objs')):PB Tryz.prog G 54 objs args v objs' :=
 PB_of Tryz.func54 rfl (by kernel_rfl) (rc:=Zgy) (by kernel_rfl) (rs:=Zgz) (by kernel_rfl) hn (fun R _ hG hr=>h R hG hr)
open Qq in
def ZgC:RCode :=
 .seq (r 0 [n 8 (.bool true)]) (.seq (r 1 [n 9 (.bool true)]) (.block 0 (.loop (.block 1 (.seq (r 2 [m 19 2,m 20 1,o 21 .sub 19 20,m 10 21]) (.seq (.seq (r 3 [m 22 10,k 23 .leq 22 (.int .i64 12)]) (.cond (.t 23) (.seq (r 4 [m 24 0,m 25 1,m 26 2,c 27 122 [24,25,26]]) .ret) .skip)) (.seq (.seq (r 5 [m 28 3,k 29 .eql 28 O]) (.cond (.t 29) (.seq (r 6 [m 30 0,m 31 1,m 32 2,c 33 123 [30,31,32]]) .ret) .skip)) (.seq (.seq (r 7 [m 34 8,t 35 34]) (.cond (.t 35) (.seq (r 8 [m 36 0,m 37 1,m 38 2,c 39 124 [36,37,38]]) (r 9 [m 40 3,k 41 .sub 40 I,m 3 41])) .skip)) (.seq (r 10 [m 43 0,m 44 1,m 45 2,c 46 125 [43,44,45],m 42 46,x 47 0 42,x 48 1 42,m 11 47,m 12 48]) (.seq (.seq (r 11 [m 49 12,k 50 .eql 49 (.int .i64 2)]) (.cond (.t 50) (.seq (r 12 [m 51 0,m 52 1,m 53 2,c 54 126 [51,52,53]]) (.seq (r 13 [m 55 2,k 56 .sub 55 I,m 57 11,m 58 1,o 59 .sub 57 58,o 60 .sub 56 59,m 11 60]) (r 14 [n 12 I]))) .skip)) (.seq (.seq (r 15 [m 61 8,m 62 61,g 62 true (m 63 9),v 64 62 63,m 65 64,g 65 true (m 66 12),g 65 true (k 67 .eql 66 I),v 68 65 67]) (.cond (.t 68) (.seq (r 16 [m 69 0,m 70 1,m 71 2,c 72 127 [69,70,71]]) (.cond (.t 72) .ret .skip)) .skip)) (.seq (.seq (R 17 [m 73 1,a [0] (k 74 .gtr 73 O),a [1] (m 75 74),a [2] (g 75 true (m 76 0)),a [2] (g 75 true (m 77 1)),a [4,2] (g 75 true (k 78 .sub 77 I)),a [3,5,2] (g 75 true (i 79 1 76 78)),a [6,2] (g 75 true (l 80 79)),a [2] (g 75 true (m 81 0)),a [2] (g 75 true (m 82 11)),a [8,9,2] (g 75 true (i 83 1 81 82)),a [10,2] (g 75 true (l 84 83)),a [7,11,2,2] (g 75 true (c 85 128 [80,84])),a [12,2] (g 75 true (t 86 85)),a [2,13] (v 87 75 86)]) (.cond (.t 87) (.seq (r 18 [m 88 0,m 89 1,m 90 2,m 91 11,c 92 129 [88,89,90,91],m 13 92]) (.seq (r 19 [m 93 13,m 1 93]) (.exit 1))) .skip)) (.seq (r 20 [m 95 0,m 96 1,m 97 2,m 98 11,c 99 130 [95,96,97,98],m 94 99,x 100 0 94,x 101 1 94,m 14 100,m 15 101]) (.seq (r 21 [m 102 15,m 9 102]) (.seq (r 22 [m 103 14,m 104 1,o 105 .sub 103 104,m 106 2,m 107 14,o 108 .sub 106 107,m 16 105,m 17 108]) (.seq (r 23 [m 109 10,k 110 .quo 109 (.int .i64 8),m 18 110]) (.seq (r 24 [m 111 16,m 112 17,o 113 .lss 111 112]) (.cond (.t 113) (.seq (r 25 [m 114 16,m 115 18,o 116 .geq 114 115,m 8 116]) (.seq (r 26 [m 117 0,m 118 1,m 119 14,m 120 3,c 121 91 [117,118,119,120]]) (r 27 [m 122 14,k 123 .add 122 I,m 1 123]))) (.seq (r 28 [m 124 17,m 125 18,o 126 .geq 124 125,m 8 126]) (.seq (r 29 [m 127 0,m 128 14,k 129 .add 128 I,m 130 2,m 131 3,c 132 91 [127,129,130,131]]) (r 30 [m 133 14,m 2 133])))))))))))))))))))))
def ZgD:List RRes:=[]
theorem ZgE:PCt Tryz.prog 91 Tryz.f91 ZgC ZgD:=pcT Tryz.func91 rfl (by kernel_rfl) (by kernel_rfl) (by kernel_rfl)
theorem ZgF {G:Nat→Option (List AV)} {objs objs':List (Nat×AObj)} {args:List AV} {v:AV} (hn:args.length≤Tryz.f91.ntmps) (h:∀ R:Run,R.G=G→R.Top→AR Tryz.prog R ZgC ⟨iniT 0 args,objs⟩ (FinB ZgD v objs')):PB Tryz.prog G 91 objs args v objs' :=
 PB_of Tryz.func91 rfl (by kernel_rfl) (rc:=ZgC) (by kernel_rfl) (rs:=ZgD) (by kernel_rfl) hn (fun R _ hG hr=>h R hG hr)
open Qq in
def ZgG:RCode :=
 .seq (r 0 [m 8 1,k 9 .add 8 I,m 6 9]) (.block 0 (.loop (.seq (.seq (r 1 [m 10 6,m 11 2,o 12 .lss 10 11]) (.cond (.t 12) .skip (.exit 0))) (.seq (.block 1 (.seq (r 3 [m 15 6,m 7 15]) (.block 2 (.loop (.seq (.seq (R 4 [m 16 7,m 17 1,a [0,1] (o 18 .gtr 16 17),a [2] (m 19 18),a [3] (g 19 true (m 20 0)),a [3] (g 19 true (m 21 7)),a [4,5,3] (g 19 true (i 22 1 20 21)),a [6,3] (g 19 true (l 23 22)),a [3] (g 19 true (m 24 0)),a [3] (g 19 true (m 25 7)),a [9,3] (g 19 true (k 26 .sub 25 I)),a [8,10,3] (g 19 true (i 27 1 24 26)),a [11,3] (g 19 true (l 28 27)),a [7,12,3,3] (g 19 true (c 29 128 [23,28])),a [3,13] (v 30 19 29)]) (.cond (.t 30) .skip (.exit 2))) (.seq (.block 3 (R 6 [m 33 0,m 34 7,m 35 0,m 36 7,a [3] (k 37 .sub 36 I),m 38 0,m 39 7,a [6] (k 40 .sub 39 I),a [5,7] (i 41 1 38 40),a [8] (l 42 41),m 43 0,m 44 7,a [10,11] (i 45 1 43 44),a [12] (l 46 45),a [0,1,0,1,5,6,7,8,9,13] (i 47 1 33 34),a [14,9,0,1,5,6,7,8,9,13] (s 1 47 42),a [2,4,0,1,2,3,4,5,6,7,8,9,10,11,12,13,14,15] (i 48 1 35 37),a [16,13,15,0,1,2,3,4,5,6,7,8,9,10,11,12,13,14,15] (s 1 48 46)])) (r 5 [m 31 7,k 32 .sub 31 I,m 7 32]))))))) (r 2 [m 13 6,k 14 .add 13 I,m 6 14])))))
def ZgH:List RRes:=[]
theorem ZgI:PCt Tryz.prog 122 Tryz.f122 ZgG ZgH:=pcT Tryz.func122 rfl (by kernel_rfl) (by kernel_rfl) (by kernel_rfl)
theorem ZgJ {G:Nat→Option (List AV)} {objs objs':List (Nat×AObj)} {args:List AV} {v:AV} (hn:args.length≤Tryz.f122.ntmps) (h:∀ R:Run,R.G=G→R.Top→AR Tryz.prog R ZgG ⟨iniT 0 args,objs⟩ (FinB ZgH v objs')):PB Tryz.prog G 122 objs args v objs' :=
 PB_of Tryz.func122 rfl (by kernel_rfl) (rc:=ZgG) (by kernel_rfl) (rs:=ZgH) (by kernel_rfl) hn (fun R _ hG hr=>h R hG hr)
open Qq in
def ZgK:RCode :=
 .seq (r 0 [n 2 O]) (.seq (r 1 [n 3 O]) (.seq (.seq (r 2 [m 6 0,e 7 6,n 8 O]) (.block 0 (.loop (.seq (r 3 [o 9 .lss 8 7]) (.seq (.cond (.t 9) .skip (.exit 0)) (.seq (.block 1 (.seq (r 4 [i 10 1 6 8,l 11 10,m 5 11]) (.seq (r 5 [m 12 5,m 13 3,o 14 .neq 12 13]) (.cond (.t 14) (.seq (r 6 [m 15 5,m 2 15]) .ret) .skip)))) (r 7 [k 16 .add 8 I,m 8 16]))))))) (.seq (r 8 [m 17 3,m 2 17]) .ret)))
def ZgL:List RRes:=[.t 2]
theorem ZgM:PCt Tryz.prog 111 Tryz.f111 ZgK ZgL:=pcT Tryz.func111 rfl (by kernel_rfl) (by kernel_rfl) (by kernel_rfl)
open Qq in
def ZgN:RCode :=
 .seq (r 0 [n 2 O]) (.seq (.cond (.c (.bool false)) (.seq (r 1 [m 3 0,w 4 (.conv .u32 (.t 3)),c 5 131 [4],m 2 5]) .ret) .skip) (.seq (r 2 [m 6 0,c 7 132 [6],m 2 7]) .ret))
def ZgO:List RRes:=[.t 2]
theorem ZgP:PCt Tryz.prog 92 Tryz.f92 ZgN ZgO:=pcT Tryz.func92 rfl (by kernel_rfl) (by kernel_rfl) (by kernel_rfl)
open Qq in
def ZgQ:RCode :=
 .seq (r 0 [n 2 O]) (.seq (.seq (r 1 [m 3 0,k 4 .geq 3 (.int .u64 4294967296)]) (.cond (.t 4) (.seq (r 2 [m 5 0,w 6 (.vop (.sh false) [(.t 5),(.c (.int .u64 32))]),m 0 6]) (r 3 [n 2 (.int .i64 32)])) .skip)) (.seq (.seq (r 4 [m 7 0,k 8 .geq 7 (.int .u64 65536)]) (.cond (.t 8) (.seq (r 5 [m 9 0,w 10 (.vop (.sh false) [(.t 9),(.c (.int .u64 16))]),m 0 10]) (r 6 [m 11 2,k 12 .add 11 (.int .i64 16),m 2 12])) .skip)) (.seq (.seq (r 7 [m 13 0,k 14 .geq 13 (.int .u64 256)]) (.cond (.t 14) (.seq (r 8 [m 15 0,w 16 (.vop (.sh false) [(.t 15),(.c (.int .u64 8))]),m 0 16]) (r 9 [m 17 2,k 18 .add 17 (.int .i64 8),m 2 18])) .skip)) (.seq (r 10 [m 19 2,m 20 0,w 21 (.conv .u8 (.t 20)),w 22 (.vop .sidx [(.c (.str ⟨#[0,1,2,2,3,3,3,3,4,4,4,4,4,4,4,4,5,5,5,5,5,5,5,5,5,5,5,5,5,5,5,5,6,6,6,6,6,6,6,6,6,6,6,6,6,6,6,6,6,6,6,6,6,6,6,6,6,6,6,6,6,6,6,6,7,7,7,7,7,7,7,7,7,7,7,7,7,7,7,7,7,7,7,7,7,7,7,7,7,7,7,7,7,7,7,7,7,7,7,7,7,7,7,7,7,7,7,7,7,7,7,7,7,7,7,7,7,7,7,7,7,7,7,7,7,7,7,7,8,8,8,8,8,8,8,8,8,8,8,8,8,8,8,8,8,8,8,8,8,8,8,8,8,8,8,8,8,8,8,8,8,8,8,8,8,8,8,8,8,8,8,8,8,8,8,8,8,8,8,8,8,8,8,8,8,8,8,8,8,8,8,8,8,8,8,8,8,8,8,8,8,8,8,8,8,8,8,8,8,8,8,8,8,8,8,8,8,8,8,8,8,8,8,8,8,8,8,8,8,8,8,8,8,8,8,8,8,8,8,8,8,8,8,8,8,8,8,8,8,8,8,8,8,8,8,8]⟩)),(.t 21)]),w 23 (.conv .i64 (.t 22)),o 24 .add 19 23,m 2 24]) .ret))))
def ZgR:List RRes:=[.t 2]
theorem ZgS:PCt Tryz.prog 132 Tryz.f132 ZgQ ZgR:=pcT Tryz.func132 rfl (by kernel_rfl) (by kernel_rfl) (by kernel_rfl)
theorem ZgT (l:List Iss):(l.map isa).all (fun r=>r.all AV.pure)=true:=by simp [isa,AV.pure]
section
variable {G:Nat→Option (List AV)}
theorem ZgU (x:Iss) (h1:Sml x.its) (h2:Sml x.dms):PC Tryz.prog G 216 [.agg (isa x)] (.agg (isa x)):=by
 have p1:(x.its.map ita).all (fun r=>r.all AV.pure)=true:=by simp [ita,AV.pure]
 have p2:(x.dms.map dma).all (fun r=>r.all AV.pure)=true:=by simp [dma,AV.pure]
 (refine Z9X rfl fun R hG hrd=>GO_AR mixed 1000 ?_;subst hG)
 by_cases e1:x.its=[] <;> by_cases e2:x.dms=[]
 · simp -implicitDefEqProofs [Z9V,Z9W,isa,e1,e2]
   refine Z2P.of Zdc (by simp) ?_
   simp -implicitDefEqProofs []
   refine Z2P.of Zdd (by simp) ?_
   simp -implicitDefEqProofs []
   exact rfl
 · simp -implicitDefEqProofs [Z9V,Z9W,isa,e1]
   refine Z2P.of Zdc (by simp) ?_
   simp -implicitDefEqProofs []
   refine Z2P.new (Zdb _ e2 h2) (by simp) (by simp [lk,St.get]) ?_
   simp -implicitDefEqProofs [p2]
   exact rfl
 · simp -implicitDefEqProofs [Z9V,Z9W,isa,e2]
   refine Z2P.new (Zda _ e1 h1) (by simp) (by simp [lk,St.get]) ?_
   simp -implicitDefEqProofs []
   refine Z2P.of Zdd (by simp) ?_
   simp -implicitDefEqProofs [p1]
   exact rfl
 · simp -implicitDefEqProofs [Z9V,Z9W,isa]
   refine Z2P.new (Zda _ e1 h1) (by simp) (by simp [lk,St.get]) ?_
   simp -implicitDefEqProofs []
   refine Z2P.new (Zdb _ e2 h2) (by simp) (by simp [lk,St.get]) ?_
   simp -implicitDefEqProofs [p1,p2]
   exact rfl
theorem at_pc (hG:GC G) (r:List Iss) (d l:Int) (h:Wf r):PC Tryz.prog G 207 [rega r,.agg [.int .i64 d,.int .i64 l]] (.tup [.agg (isa (atP r d l).1),.int .i64 (atP r d l).2]):=by
 by_cases e:openV r=0
 case neg =>
  refine PC.nzR (v:=.tup [.agg [.int .i64 0,.int .i64 0,.int .u8 0,.nils,.nils],.int .i64 (openV r)]) ?_ (by simp [nz,atP,e,zI,isa])
  (refine Za7 rfl fun R hG hrd=>GO_AR mixed 1000 ?_;subst hG)
  simp -implicitDefEqProofs [Za5,Za6,rega]
  (first|refine CallK.of (Zdi hG r h) (by simp) ?_|refine CallD.of (Zdi hG r h) (by simp) ?_)
  simp -implicitDefEqProofs [openA,e]
 have hL:=Zdj e
 have hO:=Zby hL
 cases hf:findN d l r with
 | none =>
   refine PC.nzR (v:=.tup [.agg [.int .i64 0,.int .i64 0,.int .u8 0,.nils,.nils],.int .i64 6]) ?_ (by simp [nz,atP,e,hf,zI,isa])
   (refine Za7 rfl fun R hG hrd=>GO_AR mixed 1000 ?_;subst hG)
   simp -implicitDefEqProofs [Za5,Za6,rega]
   (first|refine CallK.of (Zdi hG r h) (by simp) ?_|refine CallD.of (Zdi hG r h) (by simp) ?_)
   simp -implicitDefEqProofs [openA,e]
   (first|refine CallK.of (ZcJ r (nums r) d l (Zdm hO) h.1.1 (Zdo hL)) (by simp) ?_|refine CallD.of (ZcJ r (nums r) d l (Zdm hO) h.1.1 (Zdo hL)) (by simp) ?_)
   simp -implicitDefEqProofs [hf,fndA,noIs]
 | some x =>
   have ev:atP r d l=(x,0):=by simp [atP,e,hf]
   have hx:=h.1.2 x (ZbQ hf).1
   have ex:isa x=[.int .i64 x.d,.int .i64 x.l,.int .u8 x.k,.vsl (x.its.map ita),.vsl (x.dms.map dma)]:=rfl
   have cp:=ZgU (G:=G) x hx.1 hx.2
   rw [ev]
   rw [ex]at cp
   (refine Za7 rfl fun R hG hrd=>GO_AR mixed 1000 ?_;subst hG)
   simp -implicitDefEqProofs [Za5,Za6,rega]
   (first|refine CallK.of (Zdi hG r h) (by simp) ?_|refine CallD.of (Zdi hG r h) (by simp) ?_)
   simp -implicitDefEqProofs [openA,e]
   (first|refine CallK.of (ZcJ r (nums r) d l (Zdm hO) h.1.1 (Zdo hL)) (by simp) ?_|refine CallD.of (ZcJ r (nums r) d l (Zdm hO) h.1.1 (Zdo hL)) (by simp) ?_)
   simp -implicitDefEqProofs [hf,fndA,ex]
   (first|refine CallK.of (cp) (by simp) ?_|refine CallD.of (cp) (by simp) ?_)
   simp -implicitDefEqProofs [ex]
end
section
variable {G:Nat→Option (List AV)}
theorem ZgV (n lo hi:Int):PC Tryz.prog G 159 [.int .i64 n,.vptr [.int .i64 lo] 0,.vptr [.int .i64 hi] 0] (.bool (!inR n lo hi)):=by
 (refine Zfx rfl fun R hG hrd=>GO_AR mixed 1000 ?_;subst hG)
 by_cases h1:n<lo
 · have h2:¬lo≤n:=by omega
   simp -implicitDefEqProofs [Zfv,Zfw,h1,h2,inR]
 · have h2:lo≤n:=by omega
   by_cases h3:hi<n
   · have h4:¬n≤hi:=by omega
     simp -implicitDefEqProofs [Zfv,Zfw,h1,h2,h3,h4,inR]
   · have h4:n≤hi:=by omega
     simp -implicitDefEqProofs [Zfv,Zfw,h1,h2,h3,h4,inR]
theorem ZgW (lo hi:Int) (l:List Int) (hl:Sml l):PC Tryz.prog G 136 [.int .i64 lo,.int .i64 hi,.vsl (l.map ia)] (.bool (l.all fun n=>inR n lo hi)):=by
 (refine Zfu rfl fun R hG hrd=>GO_AR mixed 1000 ?_;subst hG)
 simp -implicitDefEqProofs [Zfs,Zft]
 (first|refine CallK.flat (ZbX 159 [.vptr [.int .i64 lo] 0,.vptr [.int .i64 hi] 0] (fun n=>!inR n lo hi) l (by simp [AV.pure]) hl (fun n _=>ZgV n lo hi)) (by simp [AV.flat]) (by simp) ?_|refine CallD.flat (ZbX 159 [.vptr [.int .i64 lo] 0,.vptr [.int .i64 hi] 0] (fun n=>!inR n lo hi) l (by simp [AV.pure]) hl (fun n _=>ZgV n lo hi)) (by simp [AV.flat]) (by simp) ?_)
 have e:(!l.any fun n=>!inR n lo hi)=l.all fun n=>inR n lo hi:=by simp [List.all_eq_not_any_not]
 simp -implicitDefEqProofs [e]
theorem ZgX (lo hi n:Int):PC Tryz.prog G 136 [.int .i64 lo,.int .i64 hi,.vsl [[.int .i64 n]]] (.bool (inR n lo hi)):=by
 have h:=ZgW (G:=G) lo hi [n] (by simp [Sml])
 simpa [ia] using h
theorem ZgY (lo hi n m:Int):PC Tryz.prog G 136 [.int .i64 lo,.int .i64 hi,.vsl [[.int .i64 n],[.int .i64 m]]] (.bool (inR n lo hi&&inR m lo hi)):=by
 have h:=ZgW (G:=G) lo hi [n,m] (by simp [Sml])
 simpa [ia] using h
theorem ZgZ (g:Nat) (caps:List AV) (p:Nte→Bool) (l:List Nte) (hc:caps.all AV.pure=true) (hl:Sml l)
  (hg:∀ x∈l,PC Tryz.prog G g (.agg (na x)::caps) (.bool (p x))) :
  PC Tryz.prog G 217 [.vsl (l.map na),.func (.func g) [] caps] (.int .i64 (fstOf p l)):=by
 (refine Zgr rfl fun R hG hrd=>GO_AR mixed 1000 ?_;subst hG)
 unfold Sml at hl
 have hc2:∀ x∈caps,x.pure=true:=List.all_eq_true.1 hc
 simp -implicitDefEqProofs [Zgp,Zgq]
 refine Zb2 (fun i=>⟨[(8,.int .i64 i),(7,.int .i64 l.length),(0,.vsl (l.map na)),(1,.func (.func g) [] caps)],[]⟩) (fun i=>∀ j (h:j<l.length),j<i→p l[j]=false) l.length (by (first|exact Weak.tm (by simp [lk])|exact Weak.sub (by simp [lk,keptA,AV.keys]) (by simp [lk,keptO,keptA,AV.keys]))) (by simp) ?_ ?_
 · intro i hi he
   refine GO_AR mixed 1000 ?_
   have w1:IntKind.i64.wrap ((i:Int)+1)=((i+1:Nat):Int):=wrapI (by omega) (by omega)
   have hgi:=hg _ (List.getElem_mem hi)
   have hln:(na l[i]).length=10:=rfl
   have htk:(na l[i]).take 10=na l[i]:=rfl
   simp -implicitDefEqProofs [hi,hln,htk]
   refine CallK.of hgi (by simpa [AV.pure,na] using hc2) ?_
   cases h3:p l[i]
   · simp -implicitDefEqProofs [w1]
     refine ⟨(by (first|exact Weak.tm (by simp [lk])|exact Weak.sub (by simp [lk,keptA,AV.keys]) (by simp [lk,keptO,keptA,AV.keys]))),fun j q1 q2=>?_⟩
     by_cases e:j=i
     · subst e;exact h3
     · exact he j q1 (by omega)
   · simp -implicitDefEqProofs
     refine Z2N mixed 1000 ?_
     simp -implicitDefEqProofs [ZbT hi h3 he]
 · intro he
   refine GO_AR mixed 1000 ?_
   simp -implicitDefEqProofs []
   refine Z2N mixed 1000 ?_
   simp -implicitDefEqProofs [ZbU (p:=p) (l:=l) (fun j hj=>he j hj hj)]
theorem Zh0 (g:Nat) (caps:List AV) (p:Nte→Bool) (l:List Nte) (hc:caps.all AV.pure=true) (hl:Sml l)
  (hg:∀ x∈l,PC Tryz.prog G g (.agg (na x)::caps) (.bool (p x))) :
  PC Tryz.prog G 210 [.vsl (l.map na),.func (.func g) [] caps] (.bool (l.any p)):=by
 (refine Zgo rfl fun R hG hrd=>GO_AR mixed 1000 ?_;subst hG)
 simp -implicitDefEqProofs [Zgm,Zgn]
 have hc2:∀ x∈caps,x.pure=true:=List.all_eq_true.1 hc
 refine CallK.of (ZgZ g caps p l hc hl hg) (by simpa [AV.pure] using hc2) ?_
 have e:=ZbV p l
 simp -implicitDefEqProofs [e]
theorem Zh1 (a b:Int):PC Tryz.prog G 111 [.vsl [[.int .i64 a],[.int .i64 b]]] (.int .i64 (if a=0 then b else a)):=by
 (refine ZgM rfl fun R hG hrd=>GO_AR mixed 1000 ?_;subst hG)
 simp -implicitDefEqProofs [ZgK,ZgL]
 refine Zb2 (fun i=>⟨[(8,.int .i64 i),(7,.int .i64 2),(6,.vsl [[.int .i64 a],[.int .i64 b]]),(3,.int .i64 0)],[]⟩) (fun i=>(0<i→a=0)∧(1<i→b=0)) 2 (by (first|exact Weak.tm (by simp [lk])|exact Weak.sub (by simp [lk,keptA,AV.keys]) (by simp [lk,keptO,keptA,AV.keys]))) (by simp) ?_ ?_
 · intro i hi he
   refine GO_AR mixed 1000 ?_
   match i,hi,he with
   | 0,_,_ =>
     have w1:IntKind.i64.wrap 1=1:=rfl
     by_cases h:a=0
     · simp -implicitDefEqProofs [h,w1]
       (first|exact Weak.tm (by simp [lk])|exact Weak.sub (by simp [lk,keptA,AV.keys]) (by simp [lk,keptO,keptA,AV.keys]))
     · simp -implicitDefEqProofs [h]
       refine Z2N mixed 1000 ?_
       simp -implicitDefEqProofs [h]
   | 1,_,he =>
     have h0:=he.1 (by omega)
     have w1:IntKind.i64.wrap 2=2:=rfl
     by_cases h:b=0
     · simp -implicitDefEqProofs [h,w1]
       exact ⟨(by (first|exact Weak.tm (by simp [lk])|exact Weak.sub (by simp [lk,keptA,AV.keys]) (by simp [lk,keptO,keptA,AV.keys]))),h0⟩
     · simp -implicitDefEqProofs [h]
       refine Z2N mixed 1000 ?_
       simp -implicitDefEqProofs [h,h0]
 · rintro ⟨h0,h1⟩
   refine GO_AR mixed 1000 ?_
   have e0:=h0 (by omega)
   have e1:=h1 (by omega)
   simp -implicitDefEqProofs []
   refine Z2N mixed 1000 ?_
   simp -implicitDefEqProofs [e0,e1]
theorem Zh2 (x y:Nte):PC Tryz.prog G 211 [.agg (na y),.vptr (na x) 0] (.bool (decide (y.nu=x.ca))):=by
 (refine ZfS rfl fun R hG hrd=>GO_AR mixed 1000 ?_;subst hG)
 simp -implicitDefEqProofs [ZfQ,ZfR,na]
section
variable (r:List Iss) (l:List Nte) (i:Nat) (hi:i<l.length) (hw:WfN l) (hr:Wf r)
include hi hw hr
theorem Zh3:PC Tryz.prog G 203 [.agg [.vsl (r.map isa),.vsl (l.map na)],.int .i64 i] (.bool (cN1 (nAt l i))):=by
 rw [ZdR hi]
 (refine ZfA rfl fun R hG hrd=>GO_AR mixed 1000 ?_;subst hG)
 simp -implicitDefEqProofs [Zfy,Zfz,hi,na]
 (first|refine CallK.of (ZgX 1 9999 l[i].nu) (by simp) ?_|refine CallD.of (ZgX 1 9999 l[i].nu) (by simp) ?_)
 cases h1:inR l[i].nu 1 9999
 · simp -implicitDefEqProofs [cN1,h1]
 simp -implicitDefEqProofs [hi,na]
 (first|refine CallK.of (ZgX 0 14610 l[i].dy) (by simp) ?_|refine CallD.of (ZgX 0 14610 l[i].dy) (by simp) ?_)
 simp -implicitDefEqProofs [cN1,h1]
theorem Zh4:PC Tryz.prog G 204 [.agg [.vsl (r.map isa),.vsl (l.map na)],.int .i64 i] (.bool (cN2 (nAt l i))):=by
 rw [ZdR hi]
 (refine ZfD rfl fun R hG hrd=>GO_AR mixed 1000 ?_;subst hG)
 by_cases h1:l[i].sg≤2 <;> by_cases h2:l[i].wy≤3 <;> simp -implicitDefEqProofs [ZfB,ZfC,hi,na,cN2,h1,h2]
theorem Zh5:PC Tryz.prog G 205 [.agg [.vsl (r.map isa),.vsl (l.map na)],.int .i64 i] (.bool (cN3 (nAt l i))):=by
 rw [ZdR hi]
 (refine ZfG rfl fun R hG hrd=>GO_AR mixed 1000 ?_;subst hG)
 simp -implicitDefEqProofs [ZfE,ZfF,hi,na]
 (first|refine CallK.of (ZgY 1 999 l[i].fr l[i].tu) (by simp) ?_|refine CallD.of (ZgY 1 999 l[i].fr l[i].tu) (by simp) ?_)
 cases h1:inR l[i].fr 1 999&&inR l[i].tu 1 999
 · simp -implicitDefEqProofs [cN3,h1]
 · by_cases h2:l[i].fr≤l[i].tu <;> simp -implicitDefEqProofs [cN3,h1,h2]
end
section
variable (hG:GC G) (r:List Iss) (l:List Nte) (i:Nat) (hi:i<l.length) (hw:WfN l) (hr:Wf r)
include hi hw hr
include hG in
theorem Zh6 (ho:openV r=0):PC Tryz.prog G 206 [.agg [.vsl (r.map isa),.vsl (l.map na)],.int .i64 i] (.bool (cN4 r (nAt l i))):=by
 rw [ZdR hi]
 have ha:=at_pc hG r l[i].dr l[i].lt hr
 rw [rega]at ha
 obtain ⟨x,hxx⟩ : ∃ x,x=l[i]:=⟨_,rfl⟩
 rw [← hxx]at ha ⊢
 have hlx:l[i]=x:=hxx.symm
 have hna:na x=[.int .i64 x.nu,.int .i64 x.dy,.int .u8 x.sg,.int .i64 x.dr,.int .i64 x.lt,.int .i64 x.fr,.int .i64 x.tu,.int .i64 x.ca,.bool x.up,.int .u8 x.wy]:=rfl
 have he:(atP r x.dr x.lt).2=0↔(findN x.dr x.lt r).isSome=true:=by
  unfold atP
  rw [if_pos ho]
  cases findN x.dr x.lt r <;> simp
 (refine ZfJ rfl fun R hG hrd=>GO_AR mixed 1000 ?_;subst hG)
 by_cases hz:x.dr=0∧x.lt=0
 · simp -implicitDefEqProofs [ZfH,ZfI,hi,hlx,hna,hz.1,hz.2,cN4]
 · have hz1:¬(0=x.dr∧0=x.lt):=fun h=>hz ⟨h.1.symm,h.2.symm⟩
   have e4:cN4 r x=decide ((atP r x.dr x.lt).2=0):=by
    rw [cN4,if_neg hz]
    cases q:(findN x.dr x.lt r).isSome
    · rw [eq_comm,decide_eq_false_iff_not,he,q];simp
    · rw [eq_comm,decide_eq_true_eq,he,q]
   rw [e4]
   have ey:isa (atP r x.dr x.lt).1=[.int .i64 (atP r x.dr x.lt).1.d,.int .i64 (atP r x.dr x.lt).1.l,.int .u8 (atP r x.dr x.lt).1.k,.vsl ((atP r x.dr x.lt).1.its.map ita),.vsl ((atP r x.dr x.lt).1.dms.map dma)]:=rfl
   rw [ey]at ha
   generalize atP r x.dr x.lt=v at *
   by_cases q1:x.dr=0
   · have q2:¬x.lt=0:=fun h=>hz ⟨q1,h⟩
     have q2':¬0=x.lt:=fun h=>q2 h.symm
     rw [q1]at ha
     simp -implicitDefEqProofs [ZfH,ZfI,hi,hlx,hna,q1,q2,q2']
     (first|refine CallK.of (ha) (by simp) ?_|refine CallD.of (ha) (by simp) ?_)
     simp -implicitDefEqProofs []
   · have q1':¬0=x.dr:=fun h=>q1 h.symm
     simp -implicitDefEqProofs [ZfH,ZfI,hi,hlx,hna,q1,q1']
     (first|refine CallK.of (ha) (by simp) ?_|refine CallD.of (ha) (by simp) ?_)
     simp -implicitDefEqProofs []
theorem Zh7:PC Tryz.prog G 208 [.agg [.vsl (r.map isa),.vsl (l.map na)],.int .i64 i] (.bool (cN5 (nAt l i))):=by
 rw [ZdR hi]
 (refine ZfM rfl fun R hG hrd=>GO_AR mixed 1000 ?_;subst hG)
 by_cases h1:2≤l[i].lt
 · simp -implicitDefEqProofs [ZfK,ZfL,hi,na,cN5,h1]
 · cases h2:l[i].up
   · by_cases h3:l[i].wy=0 <;> simp -implicitDefEqProofs [ZfK,ZfL,hi,na,cN5,h1,h2,h3]
   · simp -implicitDefEqProofs [ZfK,ZfL,hi,na,cN5,h1,h2]
theorem Zh8:PC Tryz.prog G 209 [.agg [.vsl (r.map isa),.vsl (l.map na)],.int .i64 i] (.bool (cN6 l i (nAt l i))):=by
 have hl:=hw.1
 unfold Sml at hl
 rw [ZdR hi]
 obtain ⟨x,hxx⟩ : ∃ x,x=l[i]:=⟨_,rfl⟩
 rw [← hxx]
 have hlx:l[i]=x:=hxx.symm
 have hna:na x=[.int .i64 x.nu,.int .i64 x.dy,.int .u8 x.sg,.int .i64 x.dr,.int .i64 x.lt,.int .i64 x.fr,.int .i64 x.tu,.int .i64 x.ca,.bool x.up,.int .u8 x.wy]:=rfl
 have hc:=Zh0 (G:=G) 211 [.vptr (na x) 0] (fun y=>decide (y.nu=x.ca)) (l.take i) (by simp [AV.pure,na]) (by unfold Sml;simp;omega) (fun y _=>Zh2 x y)
 have i1:i≤l.length:=by omega
 have bl:∀ x:Nte,(na x).length=10:=fun _=>rfl
 rw [List.map_take]at hc
 have pu:∀ x∈List.take i (List.map na l),∀ y∈x,y.pure=true:=fun x hx y hy=>by
  obtain ⟨z,-,rfl⟩:=List.mem_map.1 (List.mem_of_mem_take hx)
  simp only [na,List.mem_cons,List.not_mem_nil,or_false]at hy
  rcases hy with rfl|rfl|rfl|rfl|rfl|rfl|rfl|rfl|rfl|rfl <;> simp [AV.pure]
 (refine ZfP rfl fun R hG hrd=>GO_AR mixed 1000 ?_;subst hG)
 by_cases h1:x.ca=0
 · simp -implicitDefEqProofs [ZfN,ZfO,hi,hlx,hna,cN6,h1]
 · simp -implicitDefEqProofs [ZfN,ZfO,hi,hlx,hna,cN6,h1,i1,bl]
   rw [hna]at hc
   refine CallK.flat hc (by simp [AV.flat]) (by simp) ?_
   simp -implicitDefEqProofs []
theorem Zh9:PC Tryz.prog G 214 [.agg [.vsl (r.map isa),.vsl (l.map na)],.int .i64 i] (.bool (cN8 l i (nAt l i))):=by
 have hl:=hw.1
 unfold Sml at hl
 cases i with
 | zero =>
   (refine Zg1 rfl fun R hG hrd=>GO_AR mixed 1000 ?_;subst hG)
   simp -implicitDefEqProofs [ZfZ,Zg0,cN8]
   rfl
 | succ k =>
   have hk:k<l.length:=by omega
   have w1:IntKind.i64.wrap ((k:Int)+1-1)=(k:Int):=by rw [wrapI (by omega) (by omega)];omega
   have w2:IntKind.i64.wrap (k:Int)=(k:Int):=wrapI (by omega) (by omega)
   have i0:¬(k:Int)+1=0:=by omega
   have k1:(0:Int)≤(k:Int)+1:=by omega
   have k2:((k:Int)+1).toNat=k+1:=by omega
   have e8:cN8 l (k+1) (nAt l (k+1))=(decide (l[k].dy<l[k+1].dy)||(decide (l[k].dy=l[k+1].dy)&&decide (l[k].nu<l[k+1].nu))):=by rw [cN8,ZdR hk,ZdR hi]
   have hc1:=Zcz (G:=G) l[k].dy l[k+1].dy
   have hc2:=Zcz (G:=G) l[k].nu l[k+1].nu
   have hR:∀ a b:AV,(List.range 2).map (fun i=>List.take 1 (List.drop i [a,b]))=[[a],[b]]:=fun _ _=>rfl
   obtain ⟨a,b,ha,hb,hv⟩ : ∃ a b:Int,(if l[k].dy<l[k+1].dy then (-1:Int) else if l[k+1].dy<l[k].dy then 1 else 0)=a∧(if l[k].nu<l[k+1].nu then (-1:Int) else if l[k+1].nu<l[k].nu then 1 else 0)=b∧decide ((if a=0 then b else a)<0)=(decide (l[k].dy<l[k+1].dy)||(decide (l[k].dy=l[k+1].dy)&&decide (l[k].nu<l[k+1].nu))):=by
    refine ⟨_,_,rfl,rfl,?_⟩
    rcases Int.lt_trichotomy l[k].dy l[k+1].dy with q|q|q
    · simp [q]
    · rw [q]
      rcases Int.lt_trichotomy l[k].nu l[k+1].nu with q2|q2|q2
      · simp [q2]
      · rw [q2];simp
      · have:¬l[k].nu<l[k+1].nu:=by omega
        simp [q2,this]
    · have h1:¬l[k].dy<l[k+1].dy:=by omega
      have h2:¬l[k].dy=l[k+1].dy:=by omega
      simp [q,h1,h2]
   rw [ha]at hc1
   rw [hb]at hc2
   have ho:=Zh1 (G:=G) a b
   rw [e8,← hv]
   clear hv
   generalize (if a=0 then b else a)=c at *
   (refine Zg1 rfl fun R hG hrd=>GO_AR mixed 1000 ?_;subst hG)
   simp -implicitDefEqProofs [ZfZ,Zg0,hi,hk,w1,w2,i0,k1,k2,na]
   (first|refine CallK.of (hc1) (by simp) ?_|refine CallD.of (hc1) (by simp) ?_)
   simp -implicitDefEqProofs [hi,hk,w1,w2,i0,k1,k2,na]
   (first|refine CallK.of (hc2) (by simp) ?_|refine CallD.of (hc2) (by simp) ?_)
   simp -implicitDefEqProofs [hR]
   (first|refine CallK.of (ho) (by simp) ?_|refine CallD.of (ho) (by simp) ?_)
   simp -implicitDefEqProofs []
   rfl
theorem Zha (y:Nte):PC Tryz.prog G 213 [.agg (na y),.vptr [.vsl (r.map isa),.vsl (l.map na)] 0,.vptr [.int .i64 i] 0] (.bool (decide (y.nu=(nAt l i).nu))):=by
 rw [ZdR hi]
 (refine ZfY rfl fun R hG hrd=>GO_AR mixed 1000 ?_;subst hG)
 simp -implicitDefEqProofs [ZfW,ZfX,na,hi]
 rfl
theorem Zhb:PC Tryz.prog G 212 [.agg [.vsl (r.map isa),.vsl (l.map na)],.int .i64 i] (.bool (cN7 l i (nAt l i))):=by
 have hl:=hw.1
 unfold Sml at hl
 have hc:=Zh0 (G:=G) 213 [.vptr [.vsl (r.map isa),.vsl (l.map na)] 0,.vptr [.int .i64 i] 0] (fun y=>decide (y.nu=(nAt l i).nu)) (l.take i) (by simp [AV.pure,isa,na]) (by unfold Sml;simp;omega) (fun y _=>Zha r l i hi hw hr y)
 have i1:i≤l.length:=by omega
 have bl:∀ x:Nte,(na x).length=10:=fun _=>rfl
 rw [List.map_take]at hc
 have pu:∀ x∈List.take i (List.map na l),∀ y∈x,y.pure=true:=fun x hx y hy=>by
  obtain ⟨z,-,rfl⟩:=List.mem_map.1 (List.mem_of_mem_take hx)
  simp only [na,List.mem_cons,List.not_mem_nil,or_false]at hy
  rcases hy with rfl|rfl|rfl|rfl|rfl|rfl|rfl|rfl|rfl|rfl <;> simp [AV.pure]
 have pn:(l.map na).all (fun r=>r.all AV.pure)=true:=by simp [na,AV.pure]
 have pi:=ZgT r
 have e7:cN7 l i (nAt l i) = !(l.take i).any fun y=>decide (y.nu=(nAt l i).nu):=rfl
 rw [e7]
 (refine ZfV rfl fun R hG hrd=>GO_AR mixed 1000 ?_;subst hG)
 simp -implicitDefEqProofs [ZfT,ZfU,i1,bl]
 refine CallK.flat hc (by simp [AV.flat]) (by simp [pn,pi]) ?_
 simp -implicitDefEqProofs []
end
end
theorem Zhc (ok:Nat→Bool) (st:St) (l:List Int):frzO ok st (.row 1 (l.map ia)) = .row 1 (l.map ia):=by
 simp only [frzO,List.map_map]
 congr 2
 funext p;simp [ia,frzA,frz,AV.keys]
theorem Zhd (ρ:Nat→Nat) (l:List Int):AObj.ren ρ (.row 1 (l.map ia)) = .row 1 (l.map ia):=by
 simp only [AObj.ren,List.map_map]
 congr 2
 funext p;simp [ia,AV.ren]
theorem Zhe (o:List (Nat×AObj)) (l:List Int):keptO o (.row 1 (l.map ia))=true:=by
 simp only [keptO,List.all_eq_true,List.mem_map]
 rintro x ⟨y,-,rfl⟩ v hv
 simp only [ia,List.mem_singleton]at hv
 subst hv
 simp [keptA,AV.keys]
def Zhf (S:ByteArray):RCode:=.seq (.reg 0 false [{ d:=some 2,op:=.mov (.c (.int .i64 0)) }]) (.seq (.seq (.reg 1 false [{ d:=some 3,op:=.mov (.t 0) },{ d:=some 4,op:=.bin .geq (.t 3) (.c (.int .u64 4294967296)) }]) (.cond (.t 4) (.seq (.reg 2 false [{ d:=some 5,op:=.mov (.t 0) },{ d:=some 6,op:=.vop (.sh false) [(.t 5),(.c (.int .u64 32))] },{ d:=some 0,op:=.mov (.t 6) }]) (.reg 3 false [{ d:=some 2,op:=.mov (.c (.int .i64 32)) }])) (.skip))) (.seq (.seq (.reg 4 false [{ d:=some 7,op:=.mov (.t 0) },{ d:=some 8,op:=.bin .geq (.t 7) (.c (.int .u64 65536)) }]) (.cond (.t 8) (.seq (.reg 5 false [{ d:=some 9,op:=.mov (.t 0) },{ d:=some 10,op:=.vop (.sh false) [(.t 9),(.c (.int .u64 16))] },{ d:=some 0,op:=.mov (.t 10) }]) (.reg 6 false [{ d:=some 11,op:=.mov (.t 2) },{ d:=some 12,op:=.bin .add (.t 11) (.c (.int .i64 16)) },{ d:=some 2,op:=.mov (.t 12) }])) (.skip))) (.seq (.seq (.reg 7 false [{ d:=some 13,op:=.mov (.t 0) },{ d:=some 14,op:=.bin .geq (.t 13) (.c (.int .u64 256)) }]) (.cond (.t 14) (.seq (.reg 8 false [{ d:=some 15,op:=.mov (.t 0) },{ d:=some 16,op:=.vop (.sh false) [(.t 15),(.c (.int .u64 8))] },{ d:=some 0,op:=.mov (.t 16) }]) (.reg 9 false [{ d:=some 17,op:=.mov (.t 2) },{ d:=some 18,op:=.bin .add (.t 17) (.c (.int .i64 8)) },{ d:=some 2,op:=.mov (.t 18) }])) (.skip))) (.seq (.reg 10 false [{ d:=some 19,op:=.mov (.t 2) },{ d:=some 20,op:=.mov (.t 0) },{ d:=some 21,op:=.conv .u8 (.t 20) },{ d:=some 22,op:=.vop .sidx [(.c (.str S)),(.t 21)] },{ d:=some 23,op:=.conv .i64 (.t 22) },{ d:=some 24,op:=.bin .add (.t 19) (.t 23) },{ d:=some 2,op:=.mov (.t 24) }]) (.ret))))) 
section
variable {G:Nat→Option (List AV)}
set_option maxHeartbeats 1000000 in
theorem Zhg (l:List Int) (a b:Nat) (h1:a≤b) (h2:b≤l.length) (h3:l.length≤1000) :
  PB Tryz.prog G 122 [(1000,.row 1 (l.map ia))] [.osl 1000 l.length,.int .i64 a,.int .i64 b] (.tup []) [(1000,.row 1 ((srtI l a b).map ia))]:=by
 (refine ZgJ (Nat.le_of_ble_eq_true rfl) fun R hG hrd=>GO_AR mixed 1000 ?_;subst hG)
 have w1:IntKind.i64.wrap ((a:Int)+1)=a+1:=wrapI (by omega) (by omega)
 simp -implicitDefEqProofs [ZgG,ZgH,w1]
 refine Zb2 (fun i=>⟨[(6,.int .i64 ((a:Int)+1+i)),(0,.osl 1000 l.length),(1,.int .i64 a),(2,.int .i64 b)],[(1000,.row 1 ((srtI l a (a+1+i)).map ia))]⟩) (fun i=>True) (b-(a+1)) ?_ trivial ?_ ?_
 · rw [Ze8 (by omega) (by omega)]
   (refine Weak.sub (by simp [lk,keptA,AV.keys]) ?_;simp only [Wkl,Zhe,and_true];(try simp [lk,keptO,keptA,AV.keys]))
 · intro i hi _
   refine GO_AR mixed 1000 ?_
   have k1:(a:Int)+1+i<b:=by omega
   simp -implicitDefEqProofs [k1]
   have hI:a+1+i<l.length:=by omega
   have z:=Zea (l:=l) (a:=a) (i:=a+1+i) (by omega) hI
   have z0:a+1+i-a=i+1:=by omega
   rw [z0]at z
   rw [z]
   have hat:=fun p (hp:p+1≤a+1+i-a)=>Zed (l:=l) (a:=a) (i:=a+1+i) (p:=p) (by omega) hI hp
   have hend:=fun p=>Zee (l:=l) (a:=a) (i:=a+1+i) (p:=p) (by omega) hI
   have hln:=fun p (hp:p≤a+1+i-a)=>Zeb (l:=l) (a:=a) (i:=a+1+i) (p:=p) (by omega) hI hp
   have hsl:=Ze9 (l:=l) (a:=a) (i:=a+1+i) (by omega)
   generalize hsg:sortI ((l.take (a+1+i)).drop a)=s at *
   generalize hxx:l[a+1+i]=x at *
   refine Z1Q (fun p:Nat=>⟨[(7,.int .i64 ((a:Int)+p)),(6,.int .i64 ((a:Int)+1+i)),(0,.osl 1000 l.length),(1,.int .i64 a),(2,.int .i64 b)],[(1000,.row 1 ((mvI l a (a+1+i) p).map ia))]⟩)
    (fun p=>p≤i+1∧∀ y∈s.drop p,x<y) (fun p=>p) (i+1) ?_ ⟨Nat.le_refl _,fun y hy=>by rw [List.drop_of_length_le (by omega)]at hy;cases hy⟩ ?_
   · have e9:(a:Int)+1+i=(a:Int)+(i+1:Nat):=by omega
     rw [e9]
     (refine Weak.sub (by simp [lk,keptA,AV.keys]) ?_;simp only [Wkl,Zhe,and_true];(try simp [lk,keptO,keptA,AV.keys]))
   · rintro p ⟨hp,hd⟩
     refine GO_AR mixed 1000 ?_
     cases p with
     | zero =>
       have k2:¬(a:Int)<a:=by omega
       simp -implicitDefEqProofs []
       refine ⟨rfl,?_⟩
       refine Z2N mixed 1000 ?_
       have w3:IntKind.i64.wrap ((a:Int)+1+i+1)=(a:Int)+1+(i+1):=by rw [wrapI (by omega) (by omega)];omega
       have he:=hend 0 (Nat.zero_le _) hd (fun q hq=>by omega)
       have he2:a+1+i+1=a+1+(i+1):=by omega
       rw [he2]at he
       rw [he]
       simp -implicitDefEqProofs [w3]
       (refine Weak.sub (by simp [lk,keptA,AV.keys]) ?_;simp only [Wkl,Zhe,and_true];(try simp [lk,keptO,keptA,AV.keys]))
     | succ p =>
       obtain ⟨y,hy0,hy1,hy2,hy3,hy4⟩:=hat p (by omega)
       have hl2:=hln (p+1) (by omega)
       have k2:(a:Int)<(a:Int)+(p+1):=by omega
       have k3:((a:Int)+(p+1)).toNat=a+p+1:=by omega
       have w2:IntKind.i64.wrap ((a:Int)+(p+1)-1)=(a:Int)+p:=by rw [wrapI (by omega) (by omega)];omega
       have k4:((a:Int)+p).toNat=a+p:=by omega
       have k5:a+p+1<l.length:=by omega
       have k6:a+p<l.length:=by omega
       have k7:(0:Int)≤(a:Int)+(p+1):=by omega
       have k8:(0:Int)≤(a:Int)+p:=by omega
       have he:=hend (p+1) (by omega) hd
       generalize mvI l a (a+1+i) (p+1)=Q at *
       obtain ⟨q1,g1⟩:=List.getElem?_eq_some_iff.1 hy1
       obtain ⟨q2,g2⟩:=List.getElem?_eq_some_iff.1 hy2
       have hls:=Zcl (G:=R.G) x y
       simp -implicitDefEqProofs [k2,k3,w2,k4,k5,k6,k7,k8,g1,g2,hl2,ia]
       (first|refine CallK.of (hls) (by simp) ?_|refine CallD.of (hls) (by simp) ?_)
       by_cases hlt:x<y
       · simp -implicitDefEqProofs [hlt,k3,w2,k4,k5,k6,k7,k8,g1,g2,hl2,ia]
         refine ⟨rfl,rfl,p,?_,⟨by omega,fun u hu=>?_⟩,Nat.lt_succ_self _⟩
         · have e1:∀ z:Int,[AV.int .i64 z]=ia z:=fun _=>rfl
           rw [e1,e1,← List.map_set,← List.map_set,hy3]
           (refine Weak.sub (by simp [lk,keptA,AV.keys]) ?_;simp only [Wkl,Zhe,and_true];(try simp [lk,keptO,keptA,AV.keys]))
         · obtain ⟨hps,gs⟩:=List.getElem?_eq_some_iff.1 hy0
           rw [List.drop_eq_getElem_cons hps,gs]at hu
           rcases List.mem_cons.1 hu with rfl|hu
           · exact hlt
           · exact hd u hu
       · simp -implicitDefEqProofs [hlt]
         refine ⟨rfl,?_⟩
         refine Z2N mixed 1000 ?_
         have w3:IntKind.i64.wrap ((a:Int)+1+i+1)=(a:Int)+1+(i+1):=by rw [wrapI (by omega) (by omega)];omega
         have he:=he (fun q hq u hu hk=>by
          have:q=p:=by omega
          subst this
          rw [hy0]at hu
          cases hu
          exact hlt hk)
         have he2:a+1+i+1=a+1+(i+1):=by omega
         rw [he2]at he
         rw [he]
         simp -implicitDefEqProofs [w3]
         (refine Weak.sub (by simp [lk,keptA,AV.keys]) ?_;simp only [Wkl,Zhe,and_true];(try simp [lk,keptO,keptA,AV.keys]))
 · intro _
   refine GO_AR mixed 1000 ?_
   have k1:¬(a:Int)+1+(b-(a+1):Nat)<b:=by omega
   have e:srtI l a (a+1+(b-(a+1)))=srtI l a b:=by
    rcases Nat.lt_or_ge a b with h|h
    · congr 1;omega
    · rw [Ze8 (by omega) (by omega),Ze8 (by omega) (by omega)]
   rw [e]
   simp -implicitDefEqProofs [k1]
   refine Z2N mixed 1000 ?_
   simp -implicitDefEqProofs []
   refine ⟨[],rfl,rfl,?_⟩
   simp [frzSt,newK,Zhc]
theorem Zhh (l:List Int):srtI l 0 l.length=sortI l:=by simp [srtI]
theorem Zhi (l:List Int) (m:Int) (h3:l.length≤12) :
  PB Tryz.prog G 91 [(1000,.row 1 (l.map ia))] [.osl 1000 l.length,.int .i64 0,.int .i64 l.length,.int .i64 m] (.tup []) [(1000,.row 1 ((sortI l).map ia))]:=by
 have hp:=Zhg (G:=G) l 0 l.length (Nat.zero_le _) (Nat.le_refl _) (by omega)
 rw [Zhh]at hp
 (refine ZgF (Nat.le_of_ble_eq_true rfl) fun R hG hrd=>GO_AR mixed 1000 ?_;subst hG)
 have w1:IntKind.i64.wrap (l.length:Int)=(l.length:Int):=wrapI (by omega) (by omega)
 have k1:(l.length:Int)≤12:=by omega
 simp -implicitDefEqProofs [ZgC,ZgD]
 refine Z1Q (fun _:Unit=>⟨[(0,.osl 1000 l.length),(1,.int .i64 0),(2,.int .i64 l.length)],[(1000,.row 1 (l.map ia))]⟩) (fun _=>True) (fun _=>0) () ?_ trivial ?_
 · (refine Weak.sub (by simp [lk,keptA,AV.keys]) ?_;simp only [Wkl,Zhe,and_true];(try simp [lk,keptO,keptA,AV.keys]))
 rintro ⟨⟩ -
 refine GO_AR mixed 1000 ?_
 simp -implicitDefEqProofs [w1,k1,h3]
 refine CallK.sem (Z1B.byref hp id (by simp) (by simp) (by simp [St.get,lk,Zhd]) (by simp [Zhe]) (by simp [keptA,AV.keys,lk]) rfl (by simp [AV.ren]) rfl rfl) ?_
 simp -implicitDefEqProofs [setsB,Zhd]
 refine Z2N mixed 1000 ?_
 simp -implicitDefEqProofs []
 refine ⟨[],rfl,rfl,?_⟩
 simp [frzSt,newK,Zhc]
set_option maxRecDepth 100000 in
theorem Zhj (n:Nat) (h:n≤12):∃ v:Int,PC Tryz.prog G 132 [.int .u64 n] (.int .i64 v):=by
 have k1:¬(4294967296:Int)≤n:=by omega
 have k2:¬(65536:Int)≤n:=by omega
 have k3:¬(256:Int)≤n:=by omega
 obtain ⟨S,hS,hz⟩ : ∃ S,ZgQ=Zhf S∧S.size=256:=⟨_,rfl,rfl⟩
 have hn:n<S.size:=by omega
 obtain ⟨c,hc⟩ : ∃ c,S[n]? = some c:=⟨S[n],getElem?_pos S n hn⟩
 have w1:IntKind.u8.wrap (n:Int)=(n:Int):=by
  match n,h with
  |0,_=>rfl
  |1,_=>rfl
  |2,_=>rfl
  |3,_=>rfl
  |4,_=>rfl
  |5,_=>rfl
  |6,_=>rfl
  |7,_=>rfl
  |8,_=>rfl
  |9,_=>rfl
  |10,_=>rfl
  |11,_=>rfl
  |12,_=>rfl
 refine ⟨IntKind.i64.wrap (0+IntKind.i64.wrap (c.toNat:Int)),?_⟩
 refine ZgS rfl fun R hG hrd=>?_
 rw [hS]
 refine GO_AR mixed 1000 ?_
 simp -implicitDefEqProofs [Zhf,ZgR,k1,k2,k3,w1,hc]
theorem Zhk (n:Nat) (h:n≤12):∃ v:Int,PC Tryz.prog G 92 [.int .u64 n] (.int .i64 v):=by
 obtain ⟨v,hv⟩:=Zhj (G:=G) n h
 refine ⟨v,?_⟩
 (refine ZgP rfl fun R hG hrd=>GO_AR mixed 1000 ?_;subst hG)
 simp -implicitDefEqProofs [ZgN,ZgO]
 (first|refine CallK.of (hv) (by simp) ?_|refine CallD.of (hv) (by simp) ?_)
 simp -implicitDefEqProofs []
theorem Zhl (l:List Int) (h3:l.length≤12) :
  PB Tryz.prog G 54 [(1000,.row 1 (l.map ia))] [.osl 1000 l.length] (.tup []) [(1000,.row 1 ((sortI l).map ia))]:=by
 obtain ⟨v,hv⟩:=Zhk (G:=G) l.length h3
 have hp:=Zhi (G:=G) l v h3
 (refine ZgB (Nat.le_of_ble_eq_true rfl) fun R hG hrd=>GO_AR mixed 1000 ?_;subst hG)
 have w1:IntKind.u64.wrap (l.length:Int)=(l.length:Int):=IntWalk.u64_in _ ⟨by omega,by omega⟩
 simp -implicitDefEqProofs [Zgy,Zgz,w1]
 (first|refine CallK.of (hv) (by simp) ?_|refine CallD.of (hv) (by simp) ?_)
 simp -implicitDefEqProofs []
 refine CallK.sem (Z1B.byref hp id (by simp) (by simp) (by simp [St.get,lk,Zhd]) (by simp [Zhe]) (by simp [keptA,AV.keys,lk]) rfl (by simp [AV.ren]) rfl rfl) ?_
 simp -implicitDefEqProofs [setsB,Zhd]
 refine ⟨[],rfl,rfl,?_⟩
 simp [frzSt,newK,Zhc]
theorem Zhm:PC Tryz.prog G 122 [.nils,.int .i64 0,.int .i64 0] (.tup []):=by
 (refine ZgI rfl fun R hG hrd=>GO_AR mixed 1000 ?_;subst hG)
 have w1:IntKind.i64.wrap 1=1:=rfl
 simp -implicitDefEqProofs [ZgG,ZgH,w1]
 refine Z1Q (fun _:Unit=>⟨[(6,.int .i64 1),(2,.int .i64 0)],[]⟩) (fun _=>True) (fun _=>0) () (by (first|exact Weak.tm (by simp [lk])|exact Weak.sub (by simp [lk,keptA,AV.keys]) (by simp [lk,keptO,keptA,AV.keys]))) trivial ?_
 rintro ⟨⟩ -
 refine GO_AR mixed 1000 ?_
 simp -implicitDefEqProofs []
 refine Z2N mixed 1000 ?_
 simp -implicitDefEqProofs []
theorem Zhn (m:Int):PC Tryz.prog G 91 [.nils,.int .i64 0,.int .i64 0,.int .i64 m] (.tup []):=by
 (refine ZgE rfl fun R hG hrd=>GO_AR mixed 1000 ?_;subst hG)
 have w1:IntKind.i64.wrap 0=0:=rfl
 simp -implicitDefEqProofs [ZgC,ZgD]
 refine Z1Q (fun _:Unit=>⟨[(0,.nils),(1,.int .i64 0),(2,.int .i64 0)],[]⟩) (fun _=>True) (fun _=>0) () (by (first|exact Weak.tm (by simp [lk])|exact Weak.sub (by simp [lk,keptA,AV.keys]) (by simp [lk,keptO,keptA,AV.keys]))) trivial ?_
 rintro ⟨⟩ -
 refine GO_AR mixed 1000 ?_
 simp -implicitDefEqProofs [w1]
 (first|refine CallK.of (Zhm) (by simp) ?_|refine CallD.of (Zhm) (by simp) ?_)
 simp -implicitDefEqProofs []
 refine Z2N mixed 1000 ?_
 simp -implicitDefEqProofs []
theorem Zho:PC Tryz.prog G 54 [.nils] (.tup []):=by
 obtain ⟨v,hv⟩:=Zhk (G:=G) 0 (by omega)
 have w1:IntKind.u64.wrap 0=0:=rfl
 (refine ZgA rfl fun R hG hrd=>GO_AR mixed 1000 ?_;subst hG)
 simp -implicitDefEqProofs [Zgy,Zgz,w1]
 (first|refine CallK.of (hv) (by simp) ?_|refine CallD.of (hv) (by simp) ?_)
 simp -implicitDefEqProofs []
 (first|refine CallK.of (Zhn v) (by simp) ?_|refine CallD.of (Zhn v) (by simp) ?_)
 simp -implicitDefEqProofs []
end
def K8n:List AV:=[.func (.func 203) [] [],.func (.func 204) [] [],.func (.func 205) [] [],.func (.func 206) [] [],.func (.func 208) [] [],.func (.func 209) [] [],.func (.func 212) [] [],.func (.func 214) [] []]
def GN (G:Nat→Option (List AV)):Prop:=G 2=some K8n
def ckK (r:List Iss) (l:List Nte) (i:Nat):Nat→Bool
 |0=>cN1 (nAt l i)
 |1=>cN2 (nAt l i)
 |2=>cN3 (nAt l i)
 |3=>cN4 r (nAt l i)
 |4=>cN5 (nAt l i)
 |5=>cN6 l i (nAt l i)
 |6=>cN7 l i (nAt l i)
 |_=>cN8 l i (nAt l i)
theorem Zhp {r:List Iss} {l:List Nte} {i:Nat}:noteB r l i=true↔∀ j,j<8→ckK r l i j=true:=by
 simp only [noteB,Bool.and_eq_true]
 constructor
 · rintro ⟨⟨⟨⟨⟨⟨⟨h1,h2⟩,h3⟩,h4⟩,h5⟩,h6⟩,h7⟩,h8⟩ j hj
   match j,hj with
   |0,_=>exact h1
   |1,_=>exact h2
   |2,_=>exact h3
   |3,_=>exact h4
   |4,_=>exact h5
   |5,_=>exact h6
   |6,_=>exact h7
   |7,_=>exact h8
 · intro h
   exact ⟨⟨⟨⟨⟨⟨⟨h 0 (by omega),h 1 (by omega)⟩,h 2 (by omega)⟩,h 3 (by omega)⟩,h 4 (by omega)⟩,h 5 (by omega)⟩,h 6 (by omega)⟩,h 7 (by omega)⟩
def opA (l:List Nte):AV:=if opU l=[] then .nils else .vsl ((sortI (opU l)).map ia)
def fileA (r:List Iss) (l:List Nte):AV:=.vptr [.vsl (r.map isa),.vsl (l.map na),.vsl ((nums r).map ia),opA l] 0
def opdA (r:List Iss) (l:List Nte):AV:=.tup [if chN r l=0 then fileA r l else .nilp,.int .i64 (chN r l)]
def onu (l:List Nte) (i:Nat):List Int:=(opN l i).map (·.nu)
theorem Zhq {l:List Nte} {i:Nat} (h:i<l.length):onu l (i+1)=if l[i].sg=1 then onu l i++[l[i].nu] else onu l i:=by
 unfold onu;rw [ZdS h];split
 · rw [List.map_append];rfl
 · rfl
theorem Zhr (l:List Nte) (i:Nat):(onu l i).length≤i:=by unfold onu;rw [List.length_map];exact ZdT l i
def opdT (l:List Nte):List (Nat×AV):=[(31,.int .i64 l.length),(30,.vsl (l.map na)),(6,.ptr 28 0),(7,.bool false),(1,.ptr 1 0)]
def opdO (r:List Iss) (l:List Nte) (i:Nat):List (Nat×AObj):=if onu l i=[] then [(1,.box [.vsl (r.map isa),.vsl (l.map na)]),(28,.box [.vsl (r.map isa),.vsl (l.map na),.vsl ((nums r).map ia),.nils])]
 else [(1,.box [.vsl (r.map isa),.vsl (l.map na)]),(28,.box [.vsl (r.map isa),.vsl (l.map na),.vsl ((nums r).map ia),.osl 59 (onu l i).length]),(59,.row 1 ((onu l i).map ia))]
def opdS (r:List Iss) (l:List Nte) (i:Nat):St:=⟨(32,.int .i64 i)::opdT l,opdO r l i⟩
def opdI (r:List Iss) (l:List Nte) (i:Nat) (x:Nte) (j:Nat):St:=⟨(38,.int .i64 j)::(37,.agg K8n)::(8,.int .i64 i)::(9,.ptr 9 0)::(32,.int .i64 i)::opdT l,(9,.box (na x))::opdO r l i⟩
section
variable {G:Nat→Option (List AV)}
theorem kNall (hG:GC G) {r:List Iss} {l:List Nte} {i:Nat} (hi:i<l.length) (hw:WfN l) (hr:Wf r) (ho:openV r=0) (j:Nat) (hj:j<8) :
  ∃ f,(K8n.drop j).take 1=[.func (.func f) [] []]∧PC Tryz.prog G f [.agg [.vsl (r.map isa),.vsl (l.map na)],.int .i64 i] (.bool (ckK r l i j)):=by
 match j,hj with
 |0,_=>exact ⟨_,rfl,Zh3 r l i hi hw hr⟩
 |1,_=>exact ⟨_,rfl,Zh4 r l i hi hw hr⟩
 |2,_=>exact ⟨_,rfl,Zh5 r l i hi hw hr⟩
 |3,_=>exact ⟨_,rfl,Zh6 hG r l i hi hw hr ho⟩
 |4,_=>exact ⟨_,rfl,Zh7 r l i hi hw hr⟩
 |5,_=>exact ⟨_,rfl,Zh8 r l i hi hw hr⟩
 |6,_=>exact ⟨_,rfl,Zhb r l i hi hw hr⟩
 |7,_=>exact ⟨_,rfl,Zh9 r l i hi hw hr⟩
set_option maxHeartbeats 4000000 in
theorem Zhs (hG:GC G) (hN:GN G) (r:List Iss) (l:List Nte) (hw:WfN l) (hr:Wf r):PC Tryz.prog G 107 [.agg [.vsl (r.map isa),.vsl (l.map na)]] (opdA r l):=by
 have hl:=hw.1
 unfold Sml at hl
 have hd:=Zdp hG r hr
 rw [rega]at hd
 unfold GN at hN
 (refine Zg4 rfl fun R hG hrd=>GO_AR mixed 1000 ?_;subst hG)
 by_cases ho:openV r=0
 case neg =>
  have e:chN r l=openV r:=by rw [chN,if_neg ho]
  simp -implicitDefEqProofs [Zg2,Zg3]
  (first|refine CallK.of (hd) (by simp) ?_|refine CallD.of (hd) (by simp) ?_)
  simp -implicitDefEqProofs [ho,opdA,e]
 rw [if_pos ho,ho]at hd
 by_cases h12:12<l.length
 · have h12':(12:Int)<l.length:=by omega
   have hB:ZdU r l=false:=by
    have:¬l.length≤12:=by omega
    simp [ZdU,this]
   have e:chN r l=30:=by rw [chN,if_pos ho,hB];rfl
   simp -implicitDefEqProofs [Zg2,Zg3]
   (first|refine CallK.of (hd) (by simp) ?_|refine CallD.of (hd) (by simp) ?_)
   simp -implicitDefEqProofs [opdA,e,h12,h12']
 have h12':¬(12:Int)<l.length:=by omega
 simp -implicitDefEqProofs [Zg2,Zg3]
 (first|refine CallK.of (hd) (by simp) ?_|refine CallD.of (hd) (by simp) ?_)
 simp -implicitDefEqProofs [h12,h12']
 refine Zb2 (opdS r l) (fun i=>∀ j,j<i→noteB r l j=true) l.length ?_ (by simp) ?_ ?_
 · have e0:onu l 0=[]:=rfl
   simp only [opdS,opdO,opdT,e0,if_true]
   (refine Weak.sub (by simp [lk,keptA,AV.keys]) ?_;simp only [Wkl,and_true];(try simp [lk,keptO,keptA,AV.keys]))
 · intro i hi he
   refine GO_AR mixed 1000 ?_
   obtain ⟨x,hxx⟩ : ∃ x,x=l[i]:=⟨_,rfl⟩
   have hlx:l[i]=x:=hxx.symm
   have hna:na x=[.int .i64 x.nu,.int .i64 x.dy,.int .u8 x.sg,.int .i64 x.dr,.int .i64 x.lt,.int .i64 x.fr,.int .i64 x.tu,.int .i64 x.ca,.bool x.up,.int .u8 x.wy]:=rfl
   have hk:=kNall hG hi hw hr ho
   have wi:IntKind.i64.wrap ((i:Int)+1)=(i:Int)+1:=wrapI (by omega) (by omega)
   have sc:=Zhq hi
   have ol:=Zhr l i
   rw [hlx]at sc
   have t8:K8n.take 8=K8n:=rfl
   have l8:K8n.length=8:=rfl
   by_cases c:onu l i=[]
   case' pos =>
    simp -implicitDefEqProofs [opdS,opdO,opdT,c,hi,hlx,hna,hN,t8,l8]
   case' neg =>
    simp -implicitDefEqProofs [opdS,opdO,opdT,c,hi,hlx,hna,hN,t8,l8]
   all_goals
    refine Zb2 (opdI r l i x) (fun j=>∀ k,k<j→ckK r l i k=true) 8 ?_ (by simp) ?_ ?_
    · simp only [opdI,opdO,opdT,c,if_true,if_false]
      ((try simp only [hna,K8n]);refine Weak.sub (by simp [lk,keptA,AV.keys,hna,K8n]) ?_;simp only [hna,K8n,Wkl,Zhe,and_true];(try simp [lk,keptO,keptA,AV.keys,hna,K8n]))
    · intro j hj hJ
      refine GO_AR mixed 1000 ?_
      obtain ⟨f,hf1,hf2⟩:=hk j hj
      have wj:IntKind.i64.wrap ((j:Int)+1)=(j:Int)+1:=wrapI (by omega) (by omega)
      have j1:(j:Int)<8:=by omega
      have j2:j+1≤8:=by omega
      have j3:j≤7:=by omega
      simp -implicitDefEqProofs [opdI,opdO,opdT,c,j1,j2,j3,l8,hf1,hj]
      (first|refine CallK.of (hf2) (by simp) ?_|refine CallD.of (hf2) (by simp) ?_)
      cases hb:ckK r l i j
      · have hB:ZdU r l=false:=by
         cases q:ZdU r l
         · rfl
         · simp only [ZdU,Bool.and_eq_true]at q
           have h1:=Zbn.1 q.1.2 i hi
           have h2:=Zhp.1 h1 j hj
           rw [hb]at h2;cases h2
        have e:chN r l=30:=by rw [chN,if_pos ho,hB];rfl
        simp -implicitDefEqProofs []
        refine Z2N mixed 1000 ?_
        simp -implicitDefEqProofs []
        refine Z2N mixed 1000 ?_
        simp -implicitDefEqProofs [opdA,e]
      · simp -implicitDefEqProofs [wj]
        refine ⟨?_,fun k hk=>?_⟩
        · simp only [opdI,opdO,opdT,c,if_true,if_false]
          ((try simp only [hna,K8n]);refine Weak.sub (by simp [lk,keptA,AV.keys,hna,K8n]) ?_;simp only [hna,K8n,Wkl,Zhe,and_true];(try simp [lk,keptO,keptA,AV.keys,hna,K8n]))
        · rcases Nat.lt_or_ge k j with h1|h1
          · exact hJ k h1
          · obtain rfl:k=j:=by omega
            exact hb
    · intro hJ
      refine GO_AR mixed 1000 ?_
      have hnb:noteB r l i=true:=Zhp.2 hJ
      have he2:∀ j,j<i+1→noteB r l j=true:=fun j hj=>by
       rcases Nat.lt_or_ge j i with h1|h1
       · exact he j h1
       · obtain rfl:j=i:=by omega
         exact hnb
      have bb:((onu l i).length+1)*8≤70368744177664:=by omega
      simp -implicitDefEqProofs [opdI,opdO,opdT,c]
      refine Z2N mixed 1000 ?_
      by_cases q:x.sg=1
      · rw [if_pos q]at sc
        have hne:onu l (i+1)≠[]:=by rw [sc];simp
        simp -implicitDefEqProofs [hna,q,bb,wi]
        refine ⟨rfl,?_,he2⟩
        simp only [opdS,opdO,opdT,hne,if_false]
        have e1:(onu l (i+1)).map ia=(onu l i).map ia++[[AV.int .i64 x.nu]]:=by rw [sc,List.map_append];rfl
        have e2:(onu l (i+1)).length=(onu l i).length+1:=by rw [sc];simp
        first
         |(rw [c,List.nil_append]at sc;rw [sc];((try simp only [ia]);refine Weak.sub (by simp [lk,keptA,AV.keys,ia]) ?_;simp only [ia,Wkl,and_true];(try simp [lk,keptO,keptA,AV.keys,ia]));done)
         |(rw [← e1,e2];(refine Weak.sub (by simp [lk,keptA,AV.keys]) ?_;simp only [Wkl,Zhe,and_true];(try simp [lk,keptO,keptA,AV.keys]));done)
      · rw [if_neg q]at sc
        simp -implicitDefEqProofs [hna,q,wi]
        refine ⟨?_,he2⟩
        simp only [opdS,opdO,opdT,sc,c,if_true,if_false]
        (refine Weak.sub (by simp [lk,keptA,AV.keys]) ?_;simp only [Wkl,Zhe,and_true];(try simp [lk,keptO,keptA,AV.keys]))
 · intro he
   refine GO_AR mixed 1000 ?_
   have hall:(List.range l.length).all (noteB r l)=true:=Zbn.2 he
   have hu:onu l l.length=opU l:=rfl
   have hul:=Zhr l l.length
   have hln:(onu l l.length).length=(opN l l.length).length:=by simp [onu]
   have hB:ZdU r l=decide ((opN l l.length).length≤5):=by
    have h2:l.length≤12:=by omega
    simp [ZdU,hall,h2]
   rw [← hln]at hB
   by_cases c:onu l l.length=[]
   · have hB2:ZdU r l=true:=by rw [hB,c];rfl
     have e:chN r l=0:=by rw [chN,if_pos ho,hB2];rfl
     have ea:opA l = .nils:=by rw [opA,← hu,if_pos c]
     simp -implicitDefEqProofs [opdS,opdO,opdT,c]
     refine Z2N mixed 1000 ?_
     simp -implicitDefEqProofs []
     (first|refine CallK.of (Zho) (by simp) ?_|refine CallD.of (Zho) (by simp) ?_)
     simp -implicitDefEqProofs [opdA,e,fileA,ea]
   · by_cases h5:5<(onu l l.length).length
     · have h5':(5:Int)<(onu l l.length).length:=by omega
       have hB2:ZdU r l=false:=by rw [hB];exact decide_eq_false (by omega)
       have e:chN r l=30:=by rw [chN,if_pos ho,hB2];rfl
       simp -implicitDefEqProofs [opdS,opdO,opdT,c]
       refine Z2N mixed 1000 ?_
       simp -implicitDefEqProofs [h5,h5',opdA,e]
     · have h5':¬(5:Int)<(onu l l.length).length:=by omega
       have hB2:ZdU r l=true:=by rw [hB];exact decide_eq_true (by omega)
       have e:chN r l=0:=by rw [chN,if_pos ho,hB2];rfl
       have ea:opA l = .vsl ((sortI (opU l)).map ia):=by rw [opA,← hu,if_neg c]
       have hsp:=Zhl (G:=R.G) (onu l l.length) (by omega)
       have pu:((sortI (opU l)).map ia).all (fun r=>r.all AV.pure)=true:=by simp [ia,AV.pure]
       have sl:(sortI (opU l)).length=(onu l l.length).length:=by rw [Ze6,← hu]
       simp -implicitDefEqProofs [opdS,opdO,opdT,c]
       refine Z2N mixed 1000 ?_
       simp -implicitDefEqProofs [h5,h5']
       refine CallK.sem (Z1B.byref hsp (fun _=>59) (by simp) (by simp) (by simp [St.get,lk,Zhd]) (by simp [Zhe]) (by simp [keptA,AV.keys,lk]) rfl (by simp [AV.ren]) rfl rfl) ?_
       rw [hu]
       rw [hu]at sl
       simp -implicitDefEqProofs [setsB,Zhd,opdA,e,fileA,ea,pu,sl]
end
def lfS (U s:List Int) (i:Nat):List Int:=U.filter fun n=>!decide (n∈s.take i)
theorem Zht {U s:List Int} {i:Nat} (hi:i<s.length) (hU:U.Nodup):(lfS U s i).erase s[i]=lfS U s (i+1):=by
 have hn:(lfS U s i).Nodup:=hU.filter _
 rw [hn.erase_eq_filter]
 unfold lfS
 rw [List.filter_filter]
 refine List.filter_congr fun n _=>?_
 have hm:n∈s.take (i+1)↔(n∈s.take i∨n=s[i]):=by rw [List.take_succ_eq_append_getElem hi,List.mem_append,List.mem_singleton]
 by_cases e:n=s[i]
 · rw [decide_eq_true (hm.2 (.inr e)),bne_eq_false_iff_eq.2 e];rfl
 · by_cases e2:n∈s.take i
   · rw [decide_eq_true (hm.2 (.inl e2)),decide_eq_true e2];simp
   · rw [decide_eq_false (fun h=>(hm.1 h).elim e2 e),decide_eq_false e2];simp [e]
def truI (l:List Nte) (s:List Int) (i:Nat):Prop:=∀ j,j<i→s.getD j 0∈opU l∧(0<j→s.getD (j-1) 0<s.getD j 0)
theorem Zhu {l:List Nte} {s:List Int} {i:Nat} (h:truI l s i):∀ a b,a<b→b<i→s.getD a 0<s.getD b 0
 |a,0,h1,_=>by omega
 | a,b+1,h1,h2=>by
   have h3:=(h (b+1) h2).2 (by omega)
   rw [Nat.add_sub_cancel]at h3
   rcases Nat.lt_or_ge a b with h4|h4
   · have:=Zhu h a b h4 (by omega);omega
   · obtain rfl:a=b:=by omega
     exact h3
theorem Zhv {l:List Nte} {U s:List Int} {i:Nat} (hU:∀ n,n∈U↔n∈opU l) (hi:i<s.length) (h:truI l s i):(s[i]∈lfS U s i∧(0<i→s.getD (i-1) 0≤s[i]))↔truI l s (i+1):=by
 have eg:∀ j,∀ hj:j<s.length,s.getD j 0=s[j]:=fun j hj=>by simp [List.getD_eq_getElem?_getD,hj]
 unfold lfS
 rw [List.mem_filter,hU]
 constructor
 · rintro ⟨⟨h1,h2⟩,h3⟩ j hj
   rcases Nat.lt_or_ge j i with h4|h4
   · exact h j h4
   · obtain rfl:j=i:=by omega
     rw [eg j hi]
     refine ⟨h1,fun h0=>?_⟩
     have h5:=h3 h0
     have hj1:j-1<s.length:=by omega
     have h6:s.getD (j-1) 0≠s[j]:=fun e=>by
      have:s[j]∈s.take j:=by rw [← e,eg _ hj1];rw [List.mem_take_iff_getElem];exact ⟨j-1,by omega,rfl⟩
      simp [this]at h2
     omega
 · intro h1
   have h2:=h1 i (by omega)
   rw [eg i hi]at h2
   refine ⟨⟨h2.1,?_⟩,fun h0=>Int.le_of_lt (h2.2 h0)⟩
   have:s[i] ∉ s.take i:=fun hm=>by
    obtain ⟨j,hj,e⟩:=List.mem_take_iff_getElem.1 hm
    have:=Zhu h1 j i (by omega) (by omega)
    rw [eg i hi,eg j (by omega)]at this
    omega
   simp [this]
theorem Zhw {l:List Nte} {s:List Int}:truB l s=true↔truI l s s.length:=by
 unfold truB truI
 rw [Zbn]
 refine forall_congr' fun j=>forall_congr' fun hj=>?_
 rw [Bool.and_eq_true,decide_eq_true_eq]
 refine and_congr_right fun _=>?_
 cases j with
 |zero=>simp
 |succ j=>simp
section
variable {G:Nat→Option (List AV)}
theorem Zhx (l:List Int) (n:Int) (h:Sml l):PC Tryz.prog G 165 [.vsl (l.map ia),.int .i64 n] (.int .i64 (idx l n)):=by
 (refine Zgx rfl fun R hG hrd=>GO_AR mixed 1000 ?_;subst hG)
 unfold Sml at h
 simp -implicitDefEqProofs [Zgv,Zgw]
 refine Zb2 (fun i=>⟨[(8,.int .i64 i),(7,.int .i64 l.length),(0,.vsl (l.map ia)),(1,.int .i64 n)],[]⟩) (fun i=>n ∉ l.take i) l.length (by (first|exact Weak.tm (by simp [lk])|exact Weak.sub (by simp [lk,keptA,AV.keys]) (by simp [lk,keptO,keptA,AV.keys]))) (by simp) ?_ ?_
 · intro i hi he
   refine GO_AR mixed 1000 ?_
   have w1:IntKind.i64.wrap ((i:Int)+1)=(i:Int)+1:=wrapI (by omega) (by omega)
   by_cases e:n=l[i]
   · have hm:n∈l:=e ▸ List.getElem_mem hi
     have hix:l.idxOf n=i:=by
      have hs:=List.take_append_drop i l
      rw [List.drop_eq_getElem_cons hi]at hs
      rw [← hs,List.idxOf_append,if_neg he,List.idxOf_cons]
      simp [e];omega
     have e2:idx l n=i:=by rw [idx,if_pos hm,hix]
     simp -implicitDefEqProofs [hi,ia,e]
     refine Z2N mixed 1000 ?_
     rw [e]at e2
     simp -implicitDefEqProofs [e2]
   · simp -implicitDefEqProofs [hi,ia,e,w1]
     refine ⟨by (first|exact Weak.tm (by simp [lk])|exact Weak.sub (by simp [lk,keptA,AV.keys]) (by simp [lk,keptO,keptA,AV.keys])),?_⟩
     rw [List.take_succ_eq_append_getElem hi,List.mem_append,List.mem_singleton]
     exact fun h=>h.elim he e
 · intro he
   rw [List.take_length]at he
   refine GO_AR mixed 1000 ?_
   have e2:idx l n = -1:=by rw [idx,if_neg he]
   simp -implicitDefEqProofs []
   refine Z2N mixed 1000 ?_
   simp -implicitDefEqProofs [e2]
theorem Zhy (l:List Int) (n:Int) (h:Sml l):PC Tryz.prog G 148 [.vsl (l.map ia),.int .i64 n] (.bool (decide (n∈l))):=by
 have hc:=Zhx (G:=G) l n h
 have e:decide (0≤idx l n)=decide (n∈l):=by
  have:=Zbu (l:=l) (n:=n)
  by_cases h:n∈l
  · rw [decide_eq_true h,decide_eq_true];have:¬idx l n<0:=fun h2=>(this.1 h2) h
    omega
  · rw [decide_eq_false h,decide_eq_false];have:=this.2 h
    omega
 (refine Zgu rfl fun R hG hrd=>GO_AR mixed 1000 ?_;subst hG)
 simp -implicitDefEqProofs [Zgs,Zgt]
 (first|refine CallK.of (hc) (by simp) ?_|refine CallD.of (hc) (by simp) ?_)
 simp -implicitDefEqProofs [e]
theorem Zhz (o:List (Nat×AObj)) (l:List Int):keptO o (.mp (lfA l))=true:=by
 simp only [keptO,List.all_eq_true,lfA,List.mem_map]
 rintro _ ⟨y,-,rfl⟩
 simp [keptA,AV.keys]
set_option maxHeartbeats 1000000 in
theorem ZhA (r:List Iss) (l:List Nte) (s:List Int) (hs:Sml s) (hU:(opU l).Nodup) (hl:(opU l).length≤12):PC Tryz.prog G 135 [fileA r l,.vsl (s.map ia)] (.int .i64 (if truB l s=true then 0 else 31)):=by
 unfold Sml at hs
 have hUs:(sortI (opU l)).Nodup:=(Ze2 _).symm.nodup hU
 have hsl:=Ze6 (opU l)
 obtain ⟨S,hS⟩ : ∃ S,S=sortI (opU l):=⟨_,rfl⟩
 have hSm:∀ n,n∈S↔n∈opU l:=fun n=>by rw [hS];exact Ze7
 rw [← hS]at hUs hsl
 have hO:(S=[]∧opA l = .nils)∨(S≠[]∧opA l = .vsl (S.map ia)):=by
  by_cases c:opU l=[]
  · exact .inl ⟨List.length_eq_zero_iff.1 (by rw [hsl,c];rfl),by rw [opA,if_pos c]⟩
  · exact .inr ⟨fun e=>c (List.length_eq_zero_iff.1 (by rw [← hsl,e];rfl)),by rw [opA,if_neg c,hS]⟩
 have key : ∀ R:Run,R.G=G→R.Top→∀ (rc:RCode),rc=dropZ 3 Zg8→AR Tryz.prog R rc ⟨[(5,.mp 10),(1,.vsl (s.map ia))],[(10,.mp (lfA S))]⟩ (Fin Zg9 (.int .i64 (if truB l s=true then 0 else 31))):=fun R _ _ rc hrc=>by
  subst hrc
  refine GO_AR mixed 1000 ?_
  simp -implicitDefEqProofs [dropZ,Zg8]
  refine Zb2 (fun i=>⟨[(25,.int .i64 i),(24,.int .i64 s.length),(23,.vsl (s.map ia)),(5,.mp 10),(1,.vsl (s.map ia))],[(10,.mp (lfA (lfS S s i)))]⟩) (fun i=>truI l s i) s.length ?_ (fun j hj=>by omega) ?_ ?_
  · have e0:lfS S s 0=S:=by unfold lfS;simp
    ((try simp only [e0]);refine Weak.sub (by simp [lk,keptA,AV.keys,e0]) ?_;simp only [e0,Wkl,Zhz,and_true];(try simp [lk,keptO,keptA,AV.keys,e0]))
  · intro i hi hI
    refine GO_AR mixed 1000 ?_
    have wi:IntKind.i64.wrap ((i:Int)+1)=(i:Int)+1:=wrapI (by omega) (by omega)
    have gl:=ZcO s[i] (lfS S s i)
    have st:=Zhv hSm hi hI
    have le:=Zht (s:=s) hi hUs
    have no:¬truI l s (i+1)→truB l s=false:=fun h=>by
     cases q:truB l s
     · rfl
     · exact absurd (fun j hj=>Zhw.1 q j (by omega)) h
    by_cases hm:s[i]∈lfS S s i
    · rw [if_pos hm]at gl
      have dl:=ZcR hm
      rw [le]at dl
      cases i with
      | zero =>
        have w1:IntKind.i64.wrap 1=1:=rfl
        have h1:=st.1 ⟨hm,fun h=>by omega⟩
        simp -implicitDefEqProofs [hi,ia,gl,dl,w1]
        refine ⟨?_,h1⟩
        (refine Weak.sub (by simp [lk,keptA,AV.keys]) ?_;simp only [Wkl,Zhz,and_true];(try simp [lk,keptO,keptA,AV.keys]))
      | succ k =>
        have hk:k<s.length:=by omega
        have k1:(k:Int)+1<s.length:=by omega
        have k2:((k:Int)+1).toNat=k+1:=by omega
        have k3:(0:Int)≤(k:Int)+1:=by omega
        have k4:(0:Int)<(k:Int)+1:=by omega
        have wk:IntKind.i64.wrap ((k:Int)+1-1)=(k:Int):=by rw [wrapI (by omega) (by omega)];omega
        have wk2:IntKind.i64.wrap (k:Int)=(k:Int):=wrapI (by omega) (by omega)
        have wk3:IntKind.i64.wrap ((k:Int)+1+1)=(k:Int)+1+1:=wrapI (by omega) (by omega)
        have eg:s.getD (k+1-1) 0=s[k]:=by simp [List.getD_eq_getElem?_getD,hk]
        rw [eg]at st
        by_cases hlt:s[k+1]<s[k]
        · have hB:=no fun h=>by have:=(st.2 h).2 (by omega);omega
          simp -implicitDefEqProofs [hi,hk,ia,gl,k1,k2,k3,k4,wk,wk2,hlt]
          refine Z2N mixed 1000 ?_
          simp -implicitDefEqProofs [hB,Zg9]
        · have h1:=st.1 ⟨hm,fun _=>by omega⟩
          simp -implicitDefEqProofs [hi,hk,ia,gl,k1,k2,k3,k4,wk,wk2,wk3,hlt,dl]
          refine ⟨?_,h1⟩
          (refine Weak.sub (by simp [lk,keptA,AV.keys]) ?_;simp only [Wkl,Zhz,and_true];(try simp [lk,keptO,keptA,AV.keys]))
    · rw [if_neg hm]at gl
      have hB:=no fun h=>hm (st.2 h).1
      simp -implicitDefEqProofs [hi,ia,gl]
      refine Z2N mixed 1000 ?_
      simp -implicitDefEqProofs [hB,Zg9]
  · intro hI
    have hB:=Zhw.2 hI
    refine GO_AR mixed 1000 ?_
    simp -implicitDefEqProofs []
    refine Z2N mixed 1000 ?_
    simp -implicitDefEqProofs [hB,Zg9]
 refine Zga rfl fun R hG hrd=>?_
 have key:=key R hG hrd _ rfl
 rcases hO with ⟨h1,h2⟩ | ⟨h1,h2⟩
 · refine GO_AR mixed 1000 ?_
   simp -implicitDefEqProofs [Zg8,fileA,h2]
   refine Zb2 (fun i=>⟨[(16,.int .i64 i),(15,.int .i64 0),(5,.mp 10),(1,.vsl (s.map ia))],[(10,.mp (lfA S))]⟩) (fun _=>True) 0 ?_ trivial (fun i hi=>by omega) ?_
   · have e0:lfA []=[]:=rfl
     ((try simp only [h1,e0]);refine Weak.sub (by simp [lk,keptA,AV.keys,h1,e0]) ?_;simp only [h1,e0,Wkl,Zhz,and_true];(try simp [lk,keptO,keptA,AV.keys,h1,e0]))
   · intro _
     refine GO_AR mixed 1000 ?_
     simp -implicitDefEqProofs []
     refine Z2N mixed 2 ?_
     simp -implicitDefEqProofs []
     refine GOz (Z2M ?_ key)
     (refine Weak.sub (by simp [lk,keptA,AV.keys]) ?_;simp only [Wkl,Zhz,and_true];(try simp [lk,keptO,keptA,AV.keys]))
 · refine GO_AR mixed 1000 ?_
   simp -implicitDefEqProofs [Zg8,fileA,h2]
   refine Zb2 (fun i=>⟨[(16,.int .i64 i),(15,.int .i64 S.length),(14,.vsl (S.map ia)),(5,.mp 10),(1,.vsl (s.map ia))],[(10,.mp (lfA (S.take i)))]⟩) (fun _=>True) S.length ?_ trivial ?_ ?_
   · have e0:lfA []=[]:=rfl
     ((try simp only [List.take_zero,e0]);refine Weak.sub (by simp [lk,keptA,AV.keys,List.take_zero,e0]) ?_;simp only [List.take_zero,e0,Wkl,Zhz,and_true];(try simp [lk,keptO,keptA,AV.keys,List.take_zero,e0]))
   · intro i hi _
     refine GO_AR mixed 1000 ?_
     have wi:IntKind.i64.wrap ((i:Int)+1)=(i:Int)+1:=wrapI (by omega) (by omega)
     have hni:S[i] ∉ S.take i:=fun hm=>by
      obtain ⟨j,hj,e⟩:=List.mem_take_iff_getElem.1 hm
      have:=(List.nodup_iff_pairwise_ne.1 hUs)
      have:=List.pairwise_iff_getElem.1 this j i (by omega) hi (by omega)
      exact this e
     have pl:=ZcP hni
     have e1:S.take i++[S[i]]=S.take (i+1):=(List.take_succ_eq_append_getElem hi).symm
     rw [e1]at pl
     simp -implicitDefEqProofs [hi,ia,pl,wi]
     (refine Weak.sub (by simp [lk,keptA,AV.keys]) ?_;simp only [Wkl,Zhz,and_true];(try simp [lk,keptO,keptA,AV.keys]))
   · intro _
     refine GO_AR mixed 1000 ?_
     simp -implicitDefEqProofs []
     refine Z2N mixed 2 ?_
     simp -implicitDefEqProofs []
     refine GOz (Z2M ?_ key)
     ((try simp only [List.take_length]);refine Weak.sub (by simp [lk,keptA,AV.keys,List.take_length]) ?_;simp only [List.take_length,Wkl,Zhz,and_true];(try simp [lk,keptO,keptA,AV.keys,List.take_length]))
end
section
variable {G:Nat→Option (List AV)}
end
section
variable {G:Nat→Option (List AV)}
end
theorem ZhB (o:List (Nat×AObj)) (l:List Int):keptO o (.mp (lfA l))=true:=by
 simp only [keptO,List.all_eq_true,lfA,List.mem_map]
 rintro x ⟨y,-,rfl⟩
 simp [keptA,AV.keys]
section
variable {G:Nat→Option (List AV)}
end
def mpP {α:Type} (n:Int) (v:α):List (Int×α)→List (Int×α)
 |[]=>[(n,v)]
 |p::l=>if n=p.1 then (n,v)::l else p::mpP n v l
theorem ZhC {α:Type} (n:Int) (v:α):∀ (l:List (Int×α)) (m:Int),mlk m (mpP n v l)=if m=n then some v else mlk m l
 |[],m=>by simp [mpP,mlk]
 | p :: l,m=>by
   have ih:=ZhC n v l m
   simp only [mpP]
   by_cases e:n=p.1
   · rw [if_pos e]
     simp only [mlk]
     by_cases e2:m=n
     · rw [if_pos e2,if_pos e2]
     · rw [if_neg e2,if_neg e2,if_neg (by rw [← e];exact e2)]
   · rw [if_neg e]
     simp only [mlk]
     by_cases e2:m=p.1
     · rw [if_pos e2,if_pos e2,if_neg (by rintro rfl;exact e e2)]
     · rw [if_neg e2,if_neg e2];exact ih
theorem ZhD {α:Type} (f:α→AV) (n:Int) (v:α):∀ l:List (Int×α),∃ o:Option Nat,(KK.i .i64).find (.int .i64 n) (mpA f l)=some o∧match o with
  |some j=>mpP n v l=l.set j (n,v)
  |none=>mpP n v l=l++[(n,v)]
 |[]=>⟨none,rfl,rfl⟩
 | p :: r=>by
   obtain ⟨o,h1,h2⟩:=ZhD f n v r
   by_cases e:n=p.1
   · exact ⟨some 0,by simp [mpA,KK.find,KK.eq,e],by simp [mpP,e]⟩
   · refine ⟨o.map (· + 1),?_,?_⟩
     · simp only [mpA,List.map_cons,KK.find,KK.eq,and_self,if_true,e,decide_false]
       rw [show r.map (fun p=>(AV.int .i64 p.1,f p.2))=mpA f r from rfl,h1];rfl
     · cases o with
       |none=>simp only [Option.map_none,mpP,if_neg e,h2];rfl
       |some j=>simp only [Option.map_some,mpP,if_neg e,h2];rfl
theorem ZhE {α:Type} (f:α→AV) (n:Int) (v:α) (l:List (Int×α)):(KK.i .i64).put (.int .i64 n) (f v) (mpA f l)=some (mpA f (mpP n v l)):=by
 obtain ⟨o,h1,h2⟩:=ZhD f n v l
 have hi:(KK.i .i64).is (.int .i64 n)=true:=by simp [KK.is]
 unfold KK.put
 rw [if_pos hi,h1]
 cases o with
 |none=>simp only [h2];simp [mpA]
 |some j=>rw [h2];simp [mpA,List.map_set]
section
variable {G:Nat→Option (List AV)}
end
def ifK (s w:List Int) (m:Int) (l:List Nte):Nat→Nat→List (Int×Bool)→List (Int×Bool)
 |0,_,K=>K
 |n+1,i,K=>if (mlk (i:Int) K).isSome=true then K else mpP (i:Int) (fB s w m l i) ((List.range (l.length-(i+1))).foldl (fun K j=>if (gwB (bsF s w m) (fun x y=>decide (y.ca=x.nu)) l (nAt l i) i (i+1+j)&&decide ((nAt l (i+1+j)).ca=(nAt l i).nu))=true then ifK s w m l n (i+1+j) K else K) K)
def stK (s w:List Int) (m:Int) (l:List Nte) (n i:Nat) (K:List (Int×Bool)) (j:Nat):List (Int×Bool):=if (gwB (bsF s w m) (fun x y=>decide (y.ca=x.nu)) l (nAt l i) i (i+1+j)&&decide ((nAt l (i+1+j)).ca=(nAt l i).nu))=true then ifK s w m l n (i+1+j) K else K
def lpK (s w:List Int) (m:Int) (l:List Nte) (n i:Nat) (K:List (Int×Bool)) (j:Nat):List (Int×Bool):=(List.range j).foldl (stK s w m l n i) K
theorem ZhF {s w:List Int} {m:Int} {l:List Nte} {n i:Nat} {K:List (Int×Bool)}:ifK s w m l (n+1) i K=if (mlk (i:Int) K).isSome=true then K else mpP (i:Int) (fB s w m l i) (lpK s w m l n i K (l.length-(i+1))):=rfl
theorem ZhG {s w:List Int} {m:Int} {l:List Nte} {n i j:Nat} {K:List (Int×Bool)}:lpK s w m l n i K (j+1)=stK s w m l n i (lpK s w m l n i K j) j:=by rw [lpK,List.range_succ,List.foldl_append];rfl
def OkK (s w:List Int) (m:Int) (l:List Nte) (K:List (Int×Bool)):Prop:=∀ (i:Nat) (b:Bool),mlk (i:Int) K=some b→b=fB s w m l i
theorem ZhH {s w:List Int} {m:Int} {l:List Nte}:∀ (n i:Nat) {K:List (Int×Bool)},OkK s w m l K→OkK s w m l (ifK s w m l n i K)
 |0,_,_,h=>h
 | n + 1,i,K,h=>by
   rw [ZhF]
   split
   · exact h
   · have key:∀ j,OkK s w m l (lpK s w m l n i K j):=by
      intro j
      induction j with
      |zero=>exact h
      | succ j ih =>
        rw [ZhG,stK]
        split
        · exact ZhH n _ ih
        · exact ih
     intro k b hb
     rw [ZhC]at hb
     split at hb
     · rename_i e
       have e:k=i:=by omega
       subst e
       exact (Option.some.inj hb).symm
     · exact key _ k b hb
theorem ZhI {s w:List Int} {m:Int} {l:List Nte} {n i:Nat} {K:List (Int×Bool)} (h:OkK s w m l K):∀ j,OkK s w m l (lpK s w m l n i K j)
 |0=>h
 | j+1=>by
   rw [ZhG,stK]
   split
   · exact ZhH n _ (ZhI h j)
   · exact ZhI h j
theorem ZhJ {α:Type} {p:α→Bool} {h:α→α→Bool} {l:List α} {x:α} {i:Nat}:∀ {k j:Nat},i<k→k≤j→j≤l.length→gwB p h l x i k=false→gwB p h l x i j=false
 |k,0,h1,h2,_,_=>by omega
 | k,j+1,h1,h2,h3,h4=>by
   rcases Nat.lt_or_ge k (j+1) with h5|h5
   · rw [ZdZ (by omega) (by omega),ZhJ h1 (by omega:k≤j) (by omega) h4];rfl
   · obtain rfl:k=j+1:=by omega
     exact h4
theorem ZhK {s w:List Int} {m:Int} {l:List Nte} {n i:Nat} {K:List (Int×Bool)} {j:Nat} (hj:gwB (bsF s w m) (fun x y=>decide (y.ca=x.nu)) l (nAt l i) i (i+1+j)=false):∀ j',j≤j'→i+1+j'≤l.length→lpK s w m l n i K j'=lpK s w m l n i K j
 | 0, h, _ => by obtain rfl:j=0:=by omega
                 rfl
 | j'+1,h,h2=>by
   rcases Nat.lt_or_ge j (j'+1) with h5|h5
   · rw [ZhG,stK,ZhJ (by omega) (by omega:i+1+j≤i+1+j') (by omega) hj]
     exact ZhK hj j' (by omega) (by omega)
   · obtain rfl:j=j'+1:=by omega
     rfl
theorem ZhL (o:List (Nat×AObj)) (l:List (Int×Bool)):keptO o (.mp (mpA AV.bool l))=true:=by
 simp only [keptO,List.all_eq_true,mpA,List.mem_map]
 rintro _ ⟨y,-,rfl⟩
 simp [keptA,AV.keys]
theorem ZhM (ρ:Nat→Nat) (l:List (Int×Bool)):(mpA AV.bool l).map (fun p=>(p.1.ren ρ,p.2.ren ρ))=mpA AV.bool l:=by
 simp [mpA,Function.comp_def,AV.ren]
theorem ZhN (ok:Nat→Bool) (st:St) (l:List (Int×Bool)):frzO ok st (.mp (mpA AV.bool l)) = .mp (mpA AV.bool l):=by
 simp only [frzO,mpA,List.map_map]
 congr 1
 refine List.map_congr_left fun p _=>?_
 simp [frzA,frz,AV.keys]
def fcO (F sV wV:AV) (m:Int) (K:List (Int×Bool)):List (Nat×AObj) :=
 [(1009,.box [.mp 1011]),(1004,.box [F]),(1005,.box [sV]),(1006,.box [wV]),(1007,.box [.int .i64 m]),(1010,.box [.func (.func 147) [] [.ptr 1009 0,.ptr 1004 0,.ptr 1005 0,.ptr 1006 0,.ptr 1007 0,.ptr 1010 0]]),(1011,.mp (mpA AV.bool K))]
def fcC:List AV:=[.ptr 1009 0,.ptr 1004 0,.ptr 1005 0,.ptr 1006 0,.ptr 1007 0,.ptr 1010 0]
section
variable {G:Nat→Option (List AV)}
def liA (nl:Bool) (s:List Int):AV:=if nl=true∧s=[] then .nils else .vsl (s.map ia)
theorem ZhO (nl:Bool) (s:List Int):(liA nl s).pure=true:=by unfold liA;split <;> simp [AV.pure,ia]
theorem ZhP (nl:Bool) (s:List Int):(liA nl s).keys=[]:=by unfold liA;split <;> simp [AV.keys]
theorem ZhQ (ok:Nat→Bool) (st:St) (nl:Bool) (s:List Int):frz ok st 6 (liA nl s)=some (liA nl s):=by unfold liA;split <;> simp [frz,AV.keys]
theorem ZhR (ρ:Nat→Nat) (nl:Bool) (s:List Int):(liA nl s).ren ρ=liA nl s:=by unfold liA;split <;> simp [AV.ren]
theorem ZhS (ok:Nat→Bool) (st:St) (xs:List AV):frzO ok st (.box xs) = .box (xs.map (frzA ok st)):=rfl
theorem ZhT (n:Int):PC Tryz.prog G 148 [.nils,.int .i64 n] (.bool false):=by
 have hi:PC Tryz.prog G 165 [.nils,.int .i64 n] (.int .i64 (-1)):=by
  (refine Zgx rfl fun R hG hrd=>GO_AR mixed 1000 ?_;subst hG)
  simp -implicitDefEqProofs [Zgv,Zgw]
  refine Zb2 (fun i=>⟨[(8,.int .i64 i),(7,.int .i64 0)],[]⟩) (fun i=>True) 0 (by (first|exact Weak.tm (by simp [lk])|exact Weak.sub (by simp [lk,keptA,AV.keys]) (by simp [lk,keptO,keptA,AV.keys]))) trivial (fun i hi=>by omega) ?_
  intro _
  refine GO_AR mixed 1000 ?_
  simp -implicitDefEqProofs []
  refine Z2N mixed 1000 ?_
  simp -implicitDefEqProofs []
 (refine Zgu rfl fun R hG hrd=>GO_AR mixed 1000 ?_;subst hG)
 simp -implicitDefEqProofs [Zgs,Zgt]
 (first|refine CallK.of (hi) (by simp) ?_|refine CallD.of (hi) (by simp) ?_)
 simp -implicitDefEqProofs []
theorem ZhU (nl:Bool) (s:List Int) (n:Int) (h:Sml s):PC Tryz.prog G 148 [liA nl s,.int .i64 n] (.bool (decide (n∈s))):=by
 unfold liA
 split
 · rename_i e;rw [e.2];exact ZhT n
 · exact Zhy s n h
set_option maxHeartbeats 4000000 in
theorem is_pb (r:List Iss) (l:List Nte) (ns nw:Bool) (s w:List Int) (m:Int) (hl:l.length≤12) (hs:Sml s) (hw:Sml w):∀ (n i:Nat) (K:List (Int×Bool)),i<l.length→l.length-i≤n→OkK s w m l K →
  PB Tryz.prog G 147 (fcO (fileA r l) (liA ns s) (liA nw w) m K) (.int .i64 i::fcC) (.bool (fB s w m l i)) (fcO (fileA r l) (liA ns s) (liA nw w) m (ifK s w m l n i K))
 |0,i,K,hi,hn,_=>by omega
 | n + 1, i, K,hi,hn,hK=>by
   have hrec:=fun k K h1 h2 h3=>is_pb r l ns nw s w m hl hs hw n k K h1 h2 h3
   have gK:=Zfk AV.bool (i:Int) K
   have hx:=ZdR hi
   have c1:=ZhU (G:=G) ns s (nAt l i).nu hs
   have c2:=ZhU (G:=G) nw w (nAt l i).nu hw
   have c3:=ZgX (G:=G) (nAt l i).fr (nAt l i).tu m
   have fe:=ZdX (p:=bsF s w m) (h:=fun x y:Nte=>decide (y.ca=x.nu)) hi
   have k1:=ZhP ns s
   have k2:=ZhP nw w
   have p1:=ZhO ns s
   have p2:=ZhO nw w
   have r1:=fun ρ=>ZhR ρ ns s
   have r2:=fun ρ=>ZhR ρ nw w
   have f1:=fun ok st=>ZhQ ok st ns s
   have f2:=fun ok st=>ZhQ ok st nw w
   rw [ZhF]
   generalize liA ns s=sV at *
   generalize liA nw w=wV at *
   have hF:fileA r l = .vptr [.vsl (r.map isa),.vsl (l.map na),.vsl ((nums r).map ia),opA l] 0:=rfl
   have fF:∀ ok st,frz ok st 6 (fileA r l)=some (fileA r l):=fun ok st=>by rw [hF];simp [frz,AV.keys]
   have kF:(fileA r l).keys=[]:=by rw [hF];simp [AV.keys]
   refine Zgi (Nat.le_of_ble_eq_true rfl) fun R hG hrd=>?_
   subst hG
   cases q:mlk (i:Int) K with
   | some b =>
     have eb:=hK i b q
     rw [q]at gK
     refine GO_AR mixed 1000 ?_
     simp -implicitDefEqProofs [Zgg,Zgh,fcO,fcC,gK,eb]
     simp -implicitDefEqProofs [FinB,frzSt,newK,ZhN,ZhS,frzA,frz,fF,f1,f2,tupV,Z29,Zgh]
   | none =>
     rw [q]at gK
     have hna:na (nAt l i)=[.int .i64 (nAt l i).nu,.int .i64 (nAt l i).dy,.int .u8 (nAt l i).sg,.int .i64 (nAt l i).dr,.int .i64 (nAt l i).lt,.int .i64 (nAt l i).fr,.int .i64 (nAt l i).tu,.int .i64 (nAt l i).ca,.bool (nAt l i).up,.int .u8 (nAt l i).wy]:=rfl
     rw [← hx]at fe
     have lok:=fun j=>ZhI (n:=n) (i:=i) hK j
     have lsu:=fun j=>ZhG (s:=s) (w:=w) (m:=m) (l:=l) (n:=n) (i:=i) (j:=j) (K:=K)
     have lst:=fun j=>ZhK (s:=s) (w:=w) (m:=m) (l:=l) (n:=n) (i:=i) (K:=K) (j:=j)
     unfold stK at lsu
     have gb:=ZdY (p:=bsF s w m) (h:=fun x y:Nte=>decide (y.ca=x.nu)) (l:=l) (x:=nAt l i) (i:=i)
     have gs:=fun k=>ZdZ (p:=bsF s w m) (h:=fun x y:Nte=>decide (y.ca=x.nu)) (l:=l) (x:=nAt l i) (i:=i) (k:=k)
     have gst:=fun k j (h1:i<k) (h2:k≤j) (h3:j≤l.length)=>ZhJ (p:=bsF s w m) (h:=fun x y:Nte=>decide (y.ca=x.nu)) (l:=l) (x:=nAt l i) h1 h2 h3
     have fbs:fB s w m l i=gwB (bsF s w m) (fun x y=>decide (y.ca=x.nu)) l (nAt l i) i l.length:=fe
     rw [fbs]
     have pm:=fun b K=>ZhE AV.bool (i:Int) b K
     generalize hxx:nAt l i=x at *
     have hlx:l[i]=x:=hx.symm
     unfold Zgg
     refine ZeZ (S:=⟨[(0,.int .i64 i),(1,.ptr 1009 0),(2,.ptr 1004 0),(3,.ptr 1005 0),(4,.ptr 1006 0),(5,.ptr 1007 0),(6,.ptr 1010 0)],fcO (.vptr [.vsl (r.map isa),.vsl (l.map na),.vsl ((nums r).map ia),opA l] 0) sV wV m K⟩) (GO_AR mixed 1000 ?_) ?_
     · simp -implicitDefEqProofs [fcO,fcC,hF]
       ((try simp only [ZhL,k1,k2]);refine Weak.sub (by simp [lk,keptA,AV.keys,ZhL,k1,k2]) ?_;simp only [ZhL,k1,k2,Wkl,and_true];(try simp [lk,keptO,keptA,AV.keys,ZhL,k1,k2]))
     refine ZeZ (S:=⟨[(0,.int .i64 i),(1,.ptr 1009 0),(2,.ptr 1004 0),(3,.ptr 1005 0),(4,.ptr 1006 0),(5,.ptr 1007 0),(6,.ptr 1010 0)],fcO (.vptr [.vsl (r.map isa),.vsl (l.map na),.vsl ((nums r).map ia),opA l] 0) sV wV m K⟩) (GO_AR mixed 1000 ?_) ?_
     · simp -implicitDefEqProofs [fcO,gK]
       ((try simp only [ZhL,k1,k2]);refine Weak.sub (by simp [lk,keptA,AV.keys,ZhL,k1,k2]) ?_;simp only [ZhL,k1,k2,Wkl,and_true];(try simp [lk,keptO,keptA,AV.keys,ZhL,k1,k2]))
     refine ZeZ (S:=⟨[(0,.int .i64 i),(1,.ptr 1009 0),(2,.ptr 1004 0),(3,.ptr 1005 0),(4,.ptr 1006 0),(5,.ptr 1007 0),(6,.ptr 1010 0),(11,.ptr 11 0)],(11,.box (na x))::fcO (.vptr [.vsl (r.map isa),.vsl (l.map na),.vsl ((nums r).map ia),opA l] 0) sV wV m K⟩) (GO_AR mixed 1000 ?_) ?_
     · simp -implicitDefEqProofs [fcO,hi,hlx,hna]
       ((try simp only [ZhL,k1,k2,hna]);refine Weak.sub (by simp [lk,keptA,AV.keys,ZhL,k1,k2,hna]) ?_;simp only [ZhL,k1,k2,hna,Wkl,and_true];(try simp [lk,keptO,keptA,AV.keys,ZhL,k1,k2,hna]))
     refine ZeZ (S:=⟨[(0,.int .i64 i),(1,.ptr 1009 0),(2,.ptr 1004 0),(3,.ptr 1005 0),(4,.ptr 1006 0),(5,.ptr 1007 0),(6,.ptr 1010 0),(11,.ptr 11 0),(12,.bool (bsF s w m x))],(11,.box (na x))::fcO (.vptr [.vsl (r.map isa),.vsl (l.map na),.vsl ((nums r).map ia),opA l] 0) sV wV m K⟩) (GO_AR mixed 1000 ?_) ?_
     · unfold bsF
       have go3:∀ b:Bool,(decide (x.sg=2)||decide (x.nu∈s))=b→True:=fun _ _=>trivial
       by_cases e1:x.sg=2
       · simp -implicitDefEqProofs [fcO,hna,e1,p1,p2]
         refine CallK.of c2 (by simp [p2,AV.pure]) ?_
         by_cases e2:x.nu∈w
         · simp -implicitDefEqProofs [e2,p1,p2]
           ((try simp only [ZhL,k1,k2,fcO]);refine Weak.sub (by simp [lk,keptA,AV.keys,ZhL,k1,k2,fcO]) ?_;simp only [ZhL,k1,k2,fcO,Wkl,and_true];(try simp [lk,keptO,keptA,AV.keys,ZhL,k1,k2,fcO]))
         · simp -implicitDefEqProofs [e2,p1,p2]
           (first|refine CallK.of (c3) (by simp) ?_|refine CallD.of (c3) (by simp) ?_)
           simp -implicitDefEqProofs []
           ((try simp only [ZhL,k1,k2,fcO]);refine Weak.sub (by simp [lk,keptA,AV.keys,ZhL,k1,k2,fcO]) ?_;simp only [ZhL,k1,k2,fcO,Wkl,and_true];(try simp [lk,keptO,keptA,AV.keys,ZhL,k1,k2,fcO]))
       · simp -implicitDefEqProofs [fcO,hna,e1,p1,p2]
         refine CallK.of c1 (by simp [p1,AV.pure]) ?_
         by_cases e3:x.nu∈s
         · simp -implicitDefEqProofs [e3,p1,p2]
           refine CallK.of c2 (by simp [p2,AV.pure]) ?_
           by_cases e2:x.nu∈w
           · simp -implicitDefEqProofs [e2,p1,p2]
             ((try simp only [ZhL,k1,k2,fcO]);refine Weak.sub (by simp [lk,keptA,AV.keys,ZhL,k1,k2,fcO]) ?_;simp only [ZhL,k1,k2,fcO,Wkl,and_true];(try simp [lk,keptO,keptA,AV.keys,ZhL,k1,k2,fcO]))
           · simp -implicitDefEqProofs [e2,p1,p2]
             (first|refine CallK.of (c3) (by simp) ?_|refine CallD.of (c3) (by simp) ?_)
             simp -implicitDefEqProofs []
             ((try simp only [ZhL,k1,k2,fcO]);refine Weak.sub (by simp [lk,keptA,AV.keys,ZhL,k1,k2,fcO]) ?_;simp only [ZhL,k1,k2,fcO,Wkl,and_true];(try simp [lk,keptO,keptA,AV.keys,ZhL,k1,k2,fcO]))
         · simp -implicitDefEqProofs [e3,p1,p2]
           ((try simp only [ZhL,k1,k2,fcO]);refine Weak.sub (by simp [lk,keptA,AV.keys,ZhL,k1,k2,fcO]) ?_;simp only [ZhL,k1,k2,fcO,Wkl,and_true];(try simp [lk,keptO,keptA,AV.keys,ZhL,k1,k2,fcO]))
     rw [← gb]
     have w1:IntKind.i64.wrap ((i:Int)+1)=((i+1:Nat):Int):=wrapI (by omega) (by omega)
     refine ZeZ (S:=⟨[(0,.int .i64 i),(1,.ptr 1009 0),(12,.bool (gwB (bsF s w m) (fun x y=>decide (y.ca=x.nu)) l x i l.length))],fcO (.vptr [.vsl (r.map isa),.vsl (l.map na),.vsl ((nums r).map ia),opA l] 0) sV wV m (lpK s w m l n i K (l.length-(i+1)))⟩) (GO_AR mixed 1000 ?_) ?_
     · simp -implicitDefEqProofs [w1]
       refine Z1Q (fun k=>⟨[(0,.int .i64 i),(1,.ptr 1009 0),(2,.ptr 1004 0),(3,.ptr 1005 0),(4,.ptr 1006 0),(5,.ptr 1007 0),(6,.ptr 1010 0),(11,.ptr 11 0),(12,.bool (gwB (bsF s w m) (fun x y=>decide (y.ca=x.nu)) l x i k)),(13,.int .i64 (k:Int))],(11,.box (na x))::fcO (.vptr [.vsl (r.map isa),.vsl (l.map na),.vsl ((nums r).map ia),opA l] 0) sV wV m (lpK s w m l n i K (k-(i+1)))⟩) (fun k=>i+1≤k∧k≤l.length) (fun k=>l.length-k) (i+1) (by ((try simp only [ZhL,k1,k2,fcO,lpK,List.range_zero,List.foldl_nil,hna,Nat.sub_self]);refine Weak.sub (by simp [lk,keptA,AV.keys,ZhL,k1,k2,fcO,lpK,List.range_zero,List.foldl_nil,hna,Nat.sub_self]) ?_;simp only [ZhL,k1,k2,fcO,lpK,List.range_zero,List.foldl_nil,hna,Nat.sub_self,Wkl,and_true];(try simp [lk,keptO,keptA,AV.keys,ZhL,k1,k2,fcO,lpK,List.range_zero,List.foldl_nil,hna,Nat.sub_self]))) ⟨by omega,by omega⟩ ?_
       rintro k ⟨hk1,hk2⟩
       have gst':=gst k l.length hk1 hk2 (Nat.le_refl _)
       have lst':=lst (k-(i+1)) 
       rw [show i+1+(k-(i+1))=k by omega]at lst'
       by_cases hb:gwB (bsF s w m) (fun x y=>decide (y.ca=x.nu)) l x i k=true
       · rcases Nat.lt_or_ge k l.length with h5|h5
         · have w2:IntKind.i64.wrap ((k:Int)+1)=(((k+1:Nat)):Int):=by rw [wrapI (by omega) (by omega)];omega
           have hnj:na (nAt l k)=[.int .i64 (nAt l k).nu,.int .i64 (nAt l k).dy,.int .u8 (nAt l k).sg,.int .i64 (nAt l k).dr,.int .i64 (nAt l k).lt,.int .i64 (nAt l k).fr,.int .i64 (nAt l k).tu,.int .i64 (nAt l k).ca,.bool (nAt l k).up,.int .u8 (nAt l k).wy]:=rfl
           have hy:=ZdR h5
           have hg:=gs k (by omega) h5
           have hr:=hrec k (lpK s w m l n i K (k-(i+1))) h5 (by omega) (lok _)
           have hls:=lsu (k-(i+1))
           rw [show i+1+(k-(i+1))=k by omega,show k-(i+1)+1=k+1-(i+1) by omega]at hls
           rw [hb,Bool.true_and]at hg hls
           rw [← hy]at hg
           change _ = !(fB s w m l k&&_) at hg
           generalize hyy:nAt l k=y at *
           have hly:l[k]=y:=hy.symm
           by_cases h6:y.ca=x.nu
           · simp only [h6,decide_true,Bool.and_true,if_true]at hg hls
             rw [fcO,hF]at hr
             refine GO_AR mixed 9 ?_
             simp -implicitDefEqProofs [hb,h5,hna,h6,fcO,hly,hnj]
             refine GO0 (Z5j mixed 15 (by decide) ?_)
             simp -implicitDefEqProofs [hb,h5,hna,h6,fcO,hly,hnj]
             refine ⟨rfl,CallK.sem (Z1B.byref hr id (by simp) (by simp) (by simp [St.get,lk,AV.ren,AObj.ren,ZhM,r1,r2]) (by simp only [List.mem_cons,List.not_mem_nil,or_false,forall_eq_or_imp,forall_eq,ZhL,and_true];simp [lk,keptO,keptA,AV.keys,k1,k2]) (by simp [keptA,AV.keys,lk,rega,fcC]) rfl (by simp [AV.ren,rega,fcC]) rfl rfl) ?_⟩
             simp -implicitDefEqProofs [setsB,fcO,AV.ren,AObj.ren,ZhM,r1,r2]
             refine Z2N mixed 1000 ?_
             simp -implicitDefEqProofs [w2]
             refine ⟨k+1,?_,⟨by omega,by omega⟩,(by show l.length-(k+1)<l.length-k;omega)⟩
             simp only [hg,hls]
             ((try simp only [ZhL,k1,k2,hna]);refine Weak.sub (by simp [lk,keptA,AV.keys,ZhL,k1,k2,hna]) ?_;simp only [ZhL,k1,k2,hna,Wkl,and_true];(try simp [lk,keptO,keptA,AV.keys,ZhL,k1,k2,hna]))
           · simp only [h6,decide_false,Bool.and_false,Bool.not_false,Bool.false_eq_true,if_false]at hg hls
             refine GO_AR mixed 1000 ?_
             simp -implicitDefEqProofs [hb,h5,hna,h6,fcO,hly,hnj,w2]
             refine ⟨rfl,k+1,?_,⟨by omega,by omega⟩,(by show l.length-(k+1)<l.length-k;omega)⟩
             simp only [hg,hls]
             ((try simp only [ZhL,k1,k2,hna]);refine Weak.sub (by simp [lk,keptA,AV.keys,ZhL,k1,k2,hna]) ?_;simp only [ZhL,k1,k2,hna,Wkl,and_true];(try simp [lk,keptO,keptA,AV.keys,ZhL,k1,k2,hna]))
         · obtain rfl:k=l.length:=by omega
           refine GO_AR mixed 1000 ?_
           simp -implicitDefEqProofs [hb,fcO]
           refine Z2N mixed 1000 ?_
           simp -implicitDefEqProofs []
           ((try simp only [ZhL,k1,k2,hna]);refine Weak.sub (by simp [lk,keptA,AV.keys,ZhL,k1,k2,hna]) ?_;simp only [ZhL,k1,k2,hna,Wkl,and_true];(try simp [lk,keptO,keptA,AV.keys,ZhL,k1,k2,hna]))
       · have hb:gwB (bsF s w m) (fun x y=>decide (y.ca=x.nu)) l x i k=false:=by simpa using hb
         have e1:=lst' hb (l.length-(i+1)) (by omega) (by omega)
         rw [e1,gst' hb]
         refine GO_AR mixed 1000 ?_
         simp -implicitDefEqProofs [hb,fcO]
         refine Z2N mixed 1000 ?_
         simp -implicitDefEqProofs []
         ((try simp only [ZhL,k1,k2,hna]);refine Weak.sub (by simp [lk,keptA,AV.keys,ZhL,k1,k2,hna]) ?_;simp only [ZhL,k1,k2,hna,Wkl,and_true];(try simp [lk,keptO,keptA,AV.keys,ZhL,k1,k2,hna]))
     refine GO_AR mixed 1000 ?_
     have pm':=pm (gwB (bsF s w m) (fun x y=>decide (y.ca=x.nu)) l x i l.length) (lpK s w m l n i K (l.length-(i+1)))
     simp -implicitDefEqProofs [fcO,pm']
     simp -implicitDefEqProofs [FinB,frzSt,newK,ZhN,ZhS,frzA,frz,hF,f1,f2,tupV,Z29,Zgh]
end
theorem ZhV {r:List Iss} {l:List Nte} (h:ZdU r l=true):(l.map (·.nu)).Nodup:=by
 simp only [ZdU,Bool.and_eq_true]at h
 have h1:=Zbn.1 h.1.2
 rw [List.nodup_iff_pairwise_ne,List.pairwise_map,List.pairwise_iff_getElem]
 intro i j hi hj hij e
 have h2:=h1 j hj
 simp only [noteB,Bool.and_eq_true]at h2
 have h3:=h2.1.2
 simp only [cN7,Bool.not_eq_true',List.any_eq_false]at h3
 refine h3 l[i] (List.mem_take_iff_getElem.2 ⟨i,by omega,rfl⟩) ?_
 rw [ZdR hj];simpa using e
theorem ZhW {r:List Iss} {l:List Nte} (h:ZdU r l=true):(opU l).Nodup∧(opU l).length≤12:=by
 refine ⟨?_,?_⟩
 · exact List.Sublist.nodup (by unfold opU opN;rw [List.take_length];exact (List.filter_sublist).map _) (ZhV h)
 · simp only [ZdU,Bool.and_eq_true,decide_eq_true_eq]at h
   have:=h.2
   unfold opU;rw [List.length_map];omega
section
variable {G:Nat→Option (List AV)}
theorem ZhX (r:List Iss) (l:List Nte):(fileA r l).pure=true:=by unfold fileA opA;split <;> simp [AV.pure,isa,na]
theorem ZhY (ok:Nat→Bool) (st:St) (r:List Iss) (l:List Nte):snapF ok st 6 (fileA r l)=some (fileA r l):=by
 have h:=ZhX r l
 unfold fileA at *
 simp [snapF,h]
theorem ZhZ (r:List Iss) (l:List Nte):(fileA r l).one=true:=by unfold fileA;simp [AV.one,AV.known]
theorem Zi0 (hG:GC G) (hN:GN G) (r:List Iss) (l:List Nte) (hw:WfN l) (hr:Wf r):PC Tryz.prog G 75 [.agg [.vsl (r.map isa),.vsl (l.map na)]] (.int .i64 (chN r l)):=by
 have ho:=Zhs hG hN r l hw hr
 unfold opdA at ho
 (refine Zg7 rfl fun R hG hrd=>GO_AR mixed 1000 ?_;subst hG)
 simp -implicitDefEqProofs [Zg5,Zg6]
 (first|refine CallK.of (ho) (by simp) ?_|refine CallD.of (ho) (by simp) ?_)
 simp -implicitDefEqProofs []
def askA (r:List Iss) (l:List Nte) (s:List Int) (m:Int):AV:=.tup [if asN r l s m=0 then fileA r l else .nilp,.int .i64 (asN r l s m)]
theorem Zi1 (hG:GC G) (hN:GN G) (r:List Iss) (l:List Nte) (s:List Int) (m:Int) (hw:WfN l) (hr:Wf r) (hs:Sml s):PC Tryz.prog G 101 [.agg [.vsl (r.map isa),.vsl (l.map na)],.vsl (s.map ia),.int .i64 m] (askA r l s m):=by
 have ho:=Zhs hG hN r l hw hr
 have hi:=ZgX (G:=G) 1 999 m
 unfold opdA at ho
 (refine Zgd rfl fun R hG hrd=>GO_AR mixed 1000 ?_;subst hG)
 unfold askA asN
 by_cases h0:chN r l=0
 · have hB:ZdU r l=true:=by
    unfold chN at h0
    split at h0
    · cases q:ZdU r l
      · rw [q]at h0;cases h0
      · rfl
    · rename_i e;exact absurd h0 e
   have hU:=ZhW hB
   have ht:=ZhA (G:=R.G) r l s hs hU.1 hU.2
   have hp:=ZhX r l
   have sn:=fun ok st=>ZhY ok st r l
   have h1:=ZhZ r l
   rw [if_pos h0,h0]at ho
   generalize fileA r l=F at *
   simp -implicitDefEqProofs [Zgb,Zgc]
   (first|refine CallK.of (ho) (by simp) ?_|refine CallD.of (ho) (by simp) ?_)
   simp -implicitDefEqProofs [h0]
   refine CallK.of ht (by simp [hp,AV.pure]) ?_
   cases q:truB l s
   · simp -implicitDefEqProofs [q]
   · simp -implicitDefEqProofs [q]
     (first|refine CallK.of (hi) (by simp) ?_|refine CallD.of (hi) (by simp) ?_)
     cases q2:inR m 1 999
     · simp -implicitDefEqProofs [q2]
     · simp -implicitDefEqProofs [q2,hp,sn]
 · rw [if_neg h0]at ho
   simp -implicitDefEqProofs [Zgb,Zgc]
   (first|refine CallK.of (ho) (by simp) ?_|refine CallD.of (ho) (by simp) ?_)
   simp -implicitDefEqProofs [h0]
def ffC:AV:=.func (.func 147) [] [.ptr 9 0,.ptr 4 0,.ptr 5 0,.ptr 6 0,.ptr 7 0,.ptr 10 0]
def ffO (F sV wV:AV) (m:Int):List (Nat×AObj):=[(4,.box [F]),(5,.box [sV]),(6,.box [wV]),(7,.box [.int .i64 m]),(11,.mp []),(9,.box [.mp 11]),(10,.box [ffC])]
def ffK (k:Nat):Bool:=decide (k<1000) && !(k == 4||k == 5||k == 6||k == 7||k == 9||k == 10||k == 11)
theorem Zi2 (r:List Iss) (l:List Nte) (ns nw:Bool) (s w:List Int) (m:Int):PB Tryz.prog G 114 [] [fileA r l,liA ns s,liA nw w,.int .i64 m] ffC (ffO (fileA r l) (liA ns s) (liA nw w) m):=by
 have hF:fileA r l = .vptr [.vsl (r.map isa),.vsl (l.map na),.vsl ((nums r).map ia),opA l] 0:=rfl
 have hc:∀ (b:Bool) (s:List Int),liA b s = .nils∨liA b s = .vsl (s.map ia):=fun b s=>by unfold liA;split;exact .inl rfl;exact .inr rfl
 refine Z5e ffK (by intro k hk;simp [ffK]at hk;omega) Tryz.func114 rfl (by kernel_rfl) (rc:=Zge) (by kernel_rfl) (rs:=Zgf) (by kernel_rfl) (Nat.le_of_ble_eq_true rfl) fun R _ hG hrd=>GO_AR mixed 1000 ?_
 rw [hF]
 rcases hc ns s with h1|h1 <;> rcases hc nw w with h2|h2 <;> rw [h1,h2]
 · simp -implicitDefEqProofs [Zge,Zgf]
   simp -implicitDefEqProofs [FinO,frzSt,ffK,ZhS,frzO,frzA,frz,snapL,AV.keys,tupV,Z29,ffC,ffO]
 · simp -implicitDefEqProofs [Zge,Zgf]
   simp -implicitDefEqProofs [FinO,frzSt,ffK,ZhS,frzO,frzA,frz,snapL,AV.keys,tupV,Z29,ffC,ffO]
 · simp -implicitDefEqProofs [Zge,Zgf]
   simp -implicitDefEqProofs [FinO,frzSt,ffK,ZhS,frzO,frzA,frz,snapL,AV.keys,tupV,Z29,ffC,ffO]
 · simp -implicitDefEqProofs [Zge,Zgf]
   simp -implicitDefEqProofs [FinO,frzSt,ffK,ZhS,frzO,frzA,frz,snapL,AV.keys,tupV,Z29,ffC,ffO]
def frK (s w:List Int) (m:Int) (l:List Nte) (i:Nat):List (Int×Bool):=(List.range i).foldl (fun K j=>ifK s w m l l.length j K) []
theorem Zi3 {s w:List Int} {m:Int} {l:List Nte} {i:Nat}:frK s w m l (i+1)=ifK s w m l l.length i (frK s w m l i):=by rw [frK,List.range_succ,List.foldl_append];rfl
theorem Zi4 {s w:List Int} {m:Int} {l:List Nte}:∀ i,OkK s w m l (frK s w m l i)
 |0=>fun _ _ h=>by cases h
 |i+1=>by rw [Zi3];exact ZhH _ _ (Zi4 i)
def fcQ (F sV wV:AV) (m:Int) (K:List (Int×Bool)):List (Nat×AObj) :=
 [(204,.box [F]),(205,.box [sV]),(206,.box [wV]),(207,.box [.int .i64 m]),(211,.mp (mpA AV.bool K)),(209,.box [.mp 211]),(210,.box [.func (.func 147) [] [.ptr 209 0,.ptr 204 0,.ptr 205 0,.ptr 206 0,.ptr 207 0,.ptr 210 0]])]
def fcS (r:List Iss) (l:List Nte) (s:List Int) (m:Int) (i:Nat):St :=
 if fcN s [] m l i=[] then ⟨[(30,.int .i64 i),(29,.int .i64 l.length),(3,.ptr 3 0),(10,.func (.func 147) [] [.ptr 209 0,.ptr 204 0,.ptr 205 0,.ptr 206 0,.ptr 207 0,.ptr 210 0]),(11,.nils)],(3,.box [.vsl (r.map isa),.vsl (l.map na)])::fcQ (fileA r l) (.vsl (s.map ia)) .nils m (frK s [] m l i)⟩
 else ⟨[(30,.int .i64 i),(29,.int .i64 l.length),(3,.ptr 3 0),(10,.func (.func 147) [] [.ptr 209 0,.ptr 204 0,.ptr 205 0,.ptr 206 0,.ptr 207 0,.ptr 210 0]),(11,.osl 44 (fcN s [] m l i).length)],(44,.row 1 ((fcN s [] m l i).map ia))::(3,.box [.vsl (r.map isa),.vsl (l.map na)])::fcQ (fileA r l) (.vsl (s.map ia)) .nils m (frK s [] m l i)⟩
def fcA (r:List Iss) (l:List Nte) (s:List Int) (m:Int):AV:=.tup [orNil ((fcE r l s m).1.map ia),.int .i64 (fcE r l s m).2]
set_option maxHeartbeats 1000000 in
theorem Zi5 (hG:GC G) (hN:GN G) (r:List Iss) (l:List Nte) (s:List Int) (m:Int) (hw:WfN l) (hr:Wf r) (hs:Sml s):PC Tryz.prog G 79 [.agg [.vsl (r.map isa),.vsl (l.map na)],.vsl (s.map ia),.int .i64 m] (fcA r l s m):=by
 have ha:=Zi1 hG hN r l s m hw hr hs
 have hl:=hw.1
 unfold Sml at hl
 unfold askA at ha
 refine Zgl rfl fun R hG hrd=>?_
 subst hG
 refine GO_AR mixed 1000 ?_
 unfold fcA fcE
 by_cases h0:asN r l s m=0
 · have hB:ZdU r l=true:=by
    unfold asN at h0
    split at h0
    · rename_i h1
      unfold chN at h1
      split at h1
      · cases q:ZdU r l
        · rw [q]at h1;cases h1
        · rfl
      · rename_i e;exact absurd h1 e
    · rename_i e;exact absurd h0 e
   have hl12:l.length≤12:=by simp only [ZdU,Bool.and_eq_true,decide_eq_true_eq]at hB;exact hB.1.1
   have hf:=Zi2 (G:=R.G) r l false true s [] m
   have hI:=fun i hi=>is_pb (G:=R.G) r l false true s [] m hl12 hs (by simp [Sml]) l.length i (frK s [] m l i) hi (by omega) (Zi4 i)
   have e1:liA false s = .vsl (s.map ia):=by simp [liA]
   have e2:liA true [] = .nils:=by simp [liA]
   rw [e1,e2]at hf hI
   rw [if_pos h0,h0]at ha
   rw [if_pos h0]
   have hp:=ZhX r l
   have kF:(fileA r l).keys=[]:=AV.pure_keys _ hp
   have rF:=fun ρ=>AV.ren_pure (ρ:=ρ) (fileA r l) hp
   simp -implicitDefEqProofs [Zgj,Zgk]
   (first|refine CallK.of (ha) (by simp) ?_|refine CallD.of (ha) (by simp) ?_)
   simp -implicitDefEqProofs [h0]
   refine CallK.sem (Z1B.objs hf (fun k=>k+200) (by simp [ffO]) (by simp [ffO,St.get,lk]) (by simp [hp,AV.pure]) rfl rfl) ?_
   simp -implicitDefEqProofs [setsB,ffO,ffC,AV.ren,AObj.ren,rF]
   refine Zb2 (fcS r l s m) (fun _=>True) l.length ?_ trivial ?_ ?_
   · have e0:fcN s [] m l 0=[]:=by simp [fcN]
     have e3:frK s [] m l 0=[]:=rfl
     have e4:mpA AV.bool []=[]:=rfl
     simp only [fcS,fcQ,e0,e3,e4,if_true]
     ((try simp only [kF]);refine Weak.sub (by simp [lk,keptA,AV.keys,kF]) ?_;simp only [kF,Wkl,and_true];(try simp [lk,keptO,keptA,AV.keys,kF]))
   · intro i hi _
     have hI:=hI i hi
     rw [← Zi3]at hI
     unfold fcO at hI
     have hx:=ZdR hi
     have hnx:na (nAt l i)=[.int .i64 (nAt l i).nu,.int .i64 (nAt l i).dy,.int .u8 (nAt l i).sg,.int .i64 (nAt l i).dr,.int .i64 (nAt l i).lt,.int .i64 (nAt l i).fr,.int .i64 (nAt l i).tu,.int .i64 (nAt l i).ca,.bool (nAt l i).up,.int .u8 (nAt l i).wy]:=rfl
     have sc:=Ze0 (s:=s) (w:=[]) (m:=m) hi
     have bb:((fcN s [] m l i).length+1)*8≤70368744177664:=by have:=Ze1 s [] m l i;omega
     have wi:IntKind.i64.wrap ((i:Int)+1)=(i:Int)+1:=wrapI (by omega) (by omega)
     rw [← hx]at sc
     generalize hxx:nAt l i=x at *
     have hlx:l[i]=x:=hx.symm
     have e5:=fun K=>ZhM (fun k=>k-800) K
     have fin:∀ (b:Bool),b=fB s [] m l i→(b=true→fcN s [] m l (i+1)=fcN s [] m l i++[x.nu])∧(b=false→fcN s [] m l (i+1)=fcN s [] m l i):=fun b hb=>by
      subst hb
      exact ⟨fun h=>by rw [sc,if_pos h],fun h=>by rw [sc,h];rfl⟩
     refine GO_AR mixed 1000 ?_
     by_cases c:fcN s [] m l i=[]
     case' pos=>simp -implicitDefEqProofs [fcS,fcQ,c,hi]
     case' neg=>simp -implicitDefEqProofs [fcS,fcQ,c,hi]
     all_goals
      refine CallK.sem (Z1B.byref hI (fun k=>k-800) (by simp) (by simp) (by simp [St.get,lk,AV.ren,AObj.ren,ZhM,rF,ia]) (by simp only [List.mem_cons,List.not_mem_nil,or_false,forall_eq_or_imp,forall_eq,ZhL,and_true];simp [lk,keptO,keptA,AV.keys,kF]) (by simp [keptA,AV.keys,lk,rega,fcC]) rfl (by simp [AV.ren,rega,fcC]) rfl rfl) ?_
      simp -implicitDefEqProofs [setsB,AV.ren,AObj.ren,ZhM,rF]
      cases hb:fB s [] m l i
      · have e:=(fin false hb.symm).2 rfl
        simp -implicitDefEqProofs [wi]
        simp only [fcS,fcQ,e,c,if_true,if_false]
        ((try simp only [kF]);refine Weak.sub (by simp [lk,keptA,AV.keys,kF]) ?_;simp only [kF,Wkl,ZhL,Zhe,and_true];(try simp [lk,keptO,keptA,AV.keys,kF]))
      · have e:=(fin true hb.symm).1 rfl
        have hne:fcN s [] m l (i+1)≠[]:=by rw [e];simp
        simp -implicitDefEqProofs [hi,hlx,hnx,bb,wi]
        simp only [fcS,fcQ,hne,if_false]
        have e1:(fcN s [] m l (i+1)).map ia=(fcN s [] m l i).map ia++[[AV.int .i64 x.nu]]:=by rw [e,List.map_append];rfl
        have e2:(fcN s [] m l (i+1)).length=(fcN s [] m l i).length+1:=by rw [e];simp
        first
         |(rw [c,List.nil_append]at e;rw [e];((try simp only [ia,kF]);refine Weak.sub (by simp [lk,keptA,AV.keys,ia,kF]) ?_;simp only [ia,kF,Wkl,ZhL,and_true];(try simp [lk,keptO,keptA,AV.keys,ia,kF]));done)
         |(rw [← e1,e2];((try simp only [kF]);refine Weak.sub (by simp [lk,keptA,AV.keys,kF]) ?_;simp only [kF,Wkl,Zhe,ZhL,and_true];(try simp [lk,keptO,keptA,AV.keys,kF]));done)
   · intro _
     refine GO_AR mixed 1000 ?_
     by_cases c:fcN s [] m l l.length=[]
     · simp -implicitDefEqProofs [fcS,fcQ,c]
       refine Z2N mixed 1000 ?_
       simp -implicitDefEqProofs [orNil]
     · simp -implicitDefEqProofs [fcS,fcQ,c]
       refine Z2N mixed 1000 ?_
       simp -implicitDefEqProofs [orNil,c,ia]
 · rw [if_neg h0]at ha
   rw [if_neg h0]
   simp -implicitDefEqProofs [Zgj,Zgk]
   (first|refine CallK.of (ha) (by simp) ?_|refine CallD.of (ha) (by simp) ?_)
   simp -implicitDefEqProofs [h0,orNil]
end
def nuI (l:List Nte):List Int:=(opI l l.length).map fun j=>(nAt l j).nu
theorem Zi6 {l:List Nte} {n:Int}:n∈nuI l↔n∈opU l:=Zf9
theorem Zi7 (l:List Nte):(nuI l).length=(opI l l.length).length:=List.length_map _
def tkN (l:List Nte) (j:Nat):List (List AV):=((nuI l).take j).map ia
theorem Zi8 (o:List (Nat×AObj)) (l:List Nte) (j:Nat):keptO o (.row 1 (tkN l j))=true:=Zhe o _
theorem Zi9 {l:List Nte} {j:Nat} (h:j≤(nuI l).length):(tkN l j).length=j:=by simp [tkN];omega
theorem Zia {l:List Nte}:tkN l (nuI l).length=(nuI l).map ia:=by rw [tkN,List.take_length]
section
variable {G:Nat→Option (List AV)}
theorem Zib (nl:Bool) (s:List Int) (n:Int) (h:Sml s):PC Tryz.prog G 115 [liA nl s,.int .i64 n] (.bool (decide (n∈s))):=by
 unfold liA
 split
 · rename_i e
   rw [e.2]
   (refine ZeA rfl fun R hG hrd=>GO_AR mixed 1000 ?_;subst hG)
   simp -implicitDefEqProofs [Zey,Zez]
   refine Zb2 (fun i=>⟨[(5,.int .i64 i),(0,.nils),(1,.int .i64 n)],[]⟩) (fun i=>True) 0 (by (first|exact Weak.tm (by simp [lk])|exact Weak.sub (by simp [lk,keptA,AV.keys]) (by simp [lk,keptO,keptA,AV.keys]))) trivial (fun i hi=>by omega) ?_
   intro _
   refine GO_AR mixed 1000 ?_
   simp -implicitDefEqProofs []
   refine Z2N mixed 1000 ?_
   simp -implicitDefEqProofs []
 · exact Zf2 s n h
def tuS (r:List Iss) (l:List Nte) (s:List Int) (j:Nat):St :=
 if j=0 then ⟨[(7,.int .i64 0),(6,.vsl ((opI l l.length).map ja)),(5,.nils),(2,.ptr 2 0),(1,.vsl (s.map ia))],[(2,.box [.vsl (r.map isa),.vsl (l.map na)])]⟩
 else ⟨[(7,.int .i64 j),(6,.vsl ((opI l l.length).map ja)),(5,.osl 28 j),(2,.ptr 2 0),(1,.vsl (s.map ia))],[(28,.row 1 (tkN l j)),(2,.box [.vsl (r.map isa),.vsl (l.map na)])]⟩
set_option maxHeartbeats 1000000 in
theorem Zic (r:List Iss) (l:List Nte) (s:List Int) (hl:l.length≤12) (hs:Sml s):PC Tryz.prog G 82 [.agg [.vsl (r.map isa),.vsl (l.map na)],.vsl (s.map ia)] (.bool (truB l s)):=by
 have ho:=Zfr (G:=G) r l hl
 have hh:=fun n=>Zib (G:=G) true (nuI l) n (by unfold Sml;rw [Zi7];have:=Zf5 l l.length;omega)
 have hln:=Zf5 l l.length
 have hlt:=Zf7 l l.length
 have hnl:=Zi7 l
 have hmem:=fun n=>Zi6 (l:=l) (n:=n)
 have hnat:∀ j,(h:j<(opI l l.length).length)→(nuI l)[j]'(by rw [hnl];exact h)=(nAt l (opI l l.length)[j]).nu:=fun j h=>by simp [nuI]
 unfold Sml at hs
 have key : ∀ R:Run,R.G=G→R.Top→∀ (rc:RCode),rc=dropZ 4 ZeB→AR Tryz.prog R rc ⟨[(5,liA true (nuI l)),(1,.vsl (s.map ia))],[]⟩ (Fin ZeC (.bool (truB l s))):=fun R hG _ rc hrc=>by
  subst hrc
  subst hG
  refine GO_AR mixed 1000 ?_
  have pN:=ZhO true (nuI l)
  have kN:=ZhP true (nuI l)
  simp -implicitDefEqProofs [dropZ,ZeB]
  generalize liA true (nuI l)=nV at *
  refine Zb2 (fun i=>⟨[(8,.int .i64 i),(5,nV),(1,.vsl (s.map ia))],[]⟩) (fun i=>∀ j,j<i→s.getD j 0∈opU l∧(0<j→s.getD (j-1) 0<s.getD j 0)) s.length ?_ (fun j hj=>by omega) ?_ ?_
  · ((try simp only [kN]);refine Weak.sub (by simp [lk,keptA,AV.keys,kN]) ?_;simp only [kN,Wkl,and_true];(try simp [lk,keptO,keptA,AV.keys,kN]))
  · intro i hi hI
    refine GO_AR mixed 1000 ?_
    have wi:IntKind.i64.wrap ((i:Int)+1)=(i:Int)+1:=wrapI (by omega) (by omega)
    have eg:∀ j,∀ hj:j<s.length,s.getD j 0=s[j]:=fun j hj=>by simp [List.getD_eq_getElem?_getD,hj]
    have no:¬(s[i]∈opU l∧(0<i→s.getD (i-1) 0<s[i]))→truB l s=false:=fun h=>by
     cases q:truB l s
     · rfl
     · have h2:=Zhw.1 q i hi
       rw [eg i hi]at h2
       exact absurd h2 h
    have yes:(s[i]∈opU l∧(0<i→s.getD (i-1) 0<s[i]))→∀ j,j<i+1→s.getD j 0∈opU l∧(0<j→s.getD (j-1) 0<s.getD j 0):=fun h j hj=>by
     rcases Nat.lt_or_ge j i with h4|h4
     · exact hI j h4
     · obtain rfl:j=i:=by omega
       rw [eg j hi];exact h
    have hh:=hh s[i]
    have hmm:=hmem s[i]
    by_cases hm:s[i]∈opU l
    · have d:decide (s[i]∈nuI l)=true:=by simpa using hmm.2 hm
      rw [d]at hh
      cases i with
      | zero =>
        have w1:IntKind.i64.wrap 1=1:=rfl
        have h1:=yes ⟨hm,fun h=>by omega⟩
        simp -implicitDefEqProofs [hi,ia]
        refine CallD.of hh (by simp [pN,AV.pure]) ?_
        simp -implicitDefEqProofs [w1,kN]
        refine ⟨rfl,?_,?_⟩
        · ((try simp only [kN]);refine Weak.sub (by simp [lk,keptA,AV.keys,kN]) ?_;simp only [kN,Wkl,and_true];(try simp [lk,keptO,keptA,AV.keys,kN]))
        · simpa using h1
      | succ k =>
        have hk:k<s.length:=by omega
        have k1:(k:Int)+1<s.length:=by omega
        have k2:((k:Int)+1).toNat=k+1:=by omega
        have k3:(0:Int)≤(k:Int)+1:=by omega
        have k4:(0:Int)<(k:Int)+1:=by omega
        have wk2:IntKind.i64.wrap (k:Int)=(k:Int):=wrapI (by omega) (by omega)
        have wk3:IntKind.i64.wrap ((k:Int)+1+1)=(k:Int)+1+1:=wrapI (by omega) (by omega)
        have eg:s.getD (k+1-1) 0=s[k]:=by simp [List.getD_eq_getElem?_getD,hk]
        rw [eg]at no yes
        simp -implicitDefEqProofs [hi,hk,ia,k1,k2,k3,k4]
        refine CallD.of hh (by simp [pN,AV.pure]) ?_
        by_cases hlt:s[k+1]≤s[k]
        · have hB:=no fun h=>by have:=h.2 (by omega);omega
          simp -implicitDefEqProofs [hi,hk,ia,k1,k2,k3,k4,wk2,hlt,kN]
          refine ⟨rfl,?_⟩
          refine Z2N mixed 1000 ?_
          simp -implicitDefEqProofs [hB,ZeC]
        · have h1:=yes ⟨hm,fun _=>by omega⟩
          simp -implicitDefEqProofs [hi,hk,ia,k1,k2,k3,k4,wk2,wk3,hlt,kN]
          refine ⟨rfl,?_,h1⟩
          ((try simp only [kN]);refine Weak.sub (by simp [lk,keptA,AV.keys,kN]) ?_;simp only [kN,Wkl,and_true];(try simp [lk,keptO,keptA,AV.keys,kN]))
    · have d:decide (s[i]∈nuI l)=false:=by simpa using fun h=>hm (hmm.1 h)
      rw [d]at hh
      have hB:=no fun h=>hm h.1
      simp -implicitDefEqProofs [hi,ia]
      refine CallD.of hh (by simp [pN,AV.pure]) ?_
      simp -implicitDefEqProofs [kN]
      refine ⟨rfl,?_⟩
      refine Z2N mixed 1000 ?_
      simp -implicitDefEqProofs [hB,ZeC]
  · intro hI
    have hB:=Zhw.2 hI
    refine GO_AR mixed 1000 ?_
    simp -implicitDefEqProofs []
    refine Z2N mixed 1000 ?_
    simp -implicitDefEqProofs [hB,ZeC]
 refine ZeD rfl fun R hG hrd=>?_
 subst hG
 refine GO_AR mixed 9 ?_
 simp -implicitDefEqProofs [ZeB]
 (first|refine CallK.of (ho) (by simp) ?_|refine CallD.of (ho) (by simp) ?_)
 simp -implicitDefEqProofs []
 have key:=key R rfl hrd _ rfl
 unfold orNil
 by_cases c:opI l l.length=[]
 · have c':nuI l=[]:=by rw [nuI,c];rfl
   have e2:liA true (nuI l) = .nils:=by rw [c'];simp [liA]
   rw [e2]at key
   refine Z2L mixed 1000 ?_
   simp -implicitDefEqProofs [c]
   refine Zb2 (fun i=>⟨[(7,.int .i64 i),(6,.nils),(5,.nils),(1,.vsl (s.map ia))],[]⟩) (fun _=>True) 0 ?_ trivial (fun i hi=>by omega) ?_
   · (refine Weak.sub (by simp [lk,keptA,AV.keys]) ?_;simp only [Wkl,and_true];(try simp [lk,keptO,keptA,AV.keys]))
   · intro _
     refine GO_AR mixed 1000 ?_
     simp -implicitDefEqProofs []
     refine Z2N mixed 2 ?_
     simp -implicitDefEqProofs []
     refine GOz (Z2M ?_ key)
     (refine Weak.sub (by simp [lk,keptA,AV.keys]) ?_;simp only [Wkl,and_true];(try simp [lk,keptO,keptA,AV.keys]))
 · have c':nuI l≠[]:=fun h=>c (List.map_eq_nil_iff.1 h)
   have e2:liA true (nuI l) = .vsl ((nuI l).map ia):=by simp [liA,c']
   rw [e2]at key
   refine Z2L mixed 1000 ?_
   simp -implicitDefEqProofs [c]
   refine Zb2 (tuS r l s) (fun _=>True) (nuI l).length ?_ trivial ?_ ?_
   · simp only [tuS,if_true]
     (refine Weak.sub (by simp [lk,keptA,AV.keys]) ?_;simp only [Wkl,and_true];(try simp [lk,keptO,keptA,AV.keys]))
   · intro j hj _
     have hj':j<(opI l l.length).length:=by omega
     have wj:IntKind.i64.wrap ((j:Int)+1)=(j:Int)+1:=wrapI (by omega) (by omega)
     have hna:=hnat j hj'
     have hkl:=(hlt _ (List.getElem_mem hj')).1
     have tk:=List.take_succ_eq_append_getElem hj
     have tl:=Zi9 (l:=l) (j:=j) (by omega)
     rw [hna]at tk
     have tk:tkN l (j+1)=tkN l j++[[.int .i64 (nAt l (opI l l.length)[j]).nu]]:=by unfold tkN;rw [tk,List.map_append];rfl
     generalize hkk:(opI l l.length)[j]=k at *
     have hlk:l[k]=nAt l k:=(ZdR hkl).symm
     have hnk:na (nAt l k)=[.int .i64 (nAt l k).nu,.int .i64 (nAt l k).dy,.int .u8 (nAt l k).sg,.int .i64 (nAt l k).dr,.int .i64 (nAt l k).lt,.int .i64 (nAt l k).fr,.int .i64 (nAt l k).tu,.int .i64 (nAt l k).ca,.bool (nAt l k).up,.int .u8 (nAt l k).wy]:=rfl
     have bb:((j:Int)+1)*8≤70368744177664:=by omega
     have bb2:(j+1)*8≤70368744177664:=by omega
     refine GO_AR mixed 1000 ?_
     cases j with
     | zero =>
       have w1:IntKind.i64.wrap 1=1:=rfl
       simp -implicitDefEqProofs [tuS,hj',hkk,ja,hkl,hlk,hnk,w1]
       refine ⟨rfl,?_⟩
       have e0:tkN l 0=[]:=by simp [tkN]
       rw [e0,List.nil_append]at tk
       rw [tk]
       ((try simp only [ja]);refine Weak.sub (by simp [lk,keptA,AV.keys,ja]) ?_;simp only [ja,Wkl,and_true];(try simp [lk,keptO,keptA,AV.keys,ja]))
     | succ i =>
       have k1:(i:Int)+1<(opI l l.length).length:=by omega
       have wk3:IntKind.i64.wrap ((i:Int)+1+1)=(i:Int)+1+1:=wrapI (by omega) (by omega)
       have k2:((i:Int)+1).toNat=i+1:=by omega
       have k3:(0:Int)≤(i:Int)+1:=by omega
       simp -implicitDefEqProofs [tuS,hj',hkk,ja,hkl,hlk,hnk,tl,bb,bb2,k1,k2,k3,wk3]
       refine ⟨rfl,?_⟩
       rw [← tk]
       ((try simp only [ja]);refine Weak.sub (by simp [lk,keptA,AV.keys,ja]) ?_;simp only [ja,Wkl,Zi8,and_true];(try simp [lk,keptO,keptA,AV.keys,ja]))
   · intro _
     refine GO_AR mixed 1000 ?_
     simp -implicitDefEqProofs [tuS,hnl,c]
     refine Z2N mixed 2 ?_
     simp -implicitDefEqProofs []
     refine GOz (Z2M (Weak.trans (Weak.frz (fun k=>k == 28) _) ?_) key)
     rw [← hnl,Zia]
     ((try simp only [frzSt,frzA,frzO,frz,snapF,snapL,St.get,ia]);refine Weak.sub (by simp [lk,keptA,AV.keys,frzSt,frzA,frzO,frz,snapF,snapL,St.get,ia]) ?_;simp only [frzSt,frzA,frzO,frz,snapF,snapL,St.get,ia,Wkl,and_true];(try simp [lk,keptO,keptA,AV.keys,frzSt,frzA,frzO,frz,snapF,snapL,St.get,ia]))
def rbK (f:Nat→Bool) (n k:Nat):List Bool:=(List.range n).map fun j=>decide (k≤j)&&f j
theorem Zid {f:Nat→Bool} {n k:Nat}:(rbK f n k).length=n:=by simp [rbK]
theorem Zie {f:Nat→Bool} {n k j:Nat} (h:k≤j) (h2:j<n):(rbK f n k)[j]? = some (f j):=by
 rw [List.getElem?_eq_getElem (by rw [Zid];exact h2)]
 simp [rbK,h]
theorem Zif {f:Nat→Bool} {n k:Nat}:(rbK f n (k+1)).set k (f k)=rbK f n k:=by
 refine List.ext_getElem (by simp [rbK]) fun j h1 h2=>?_
 rw [List.getElem_set]
 split
 · rename_i e;subst e;simp [rbK]
 · rename_i e
   have:decide (k+1≤j)=decide (k≤j):=by rw [decide_eq_decide];omega
   simp only [rbK,List.getElem_map,List.getElem_range,this]
def ba (b:Bool):List AV:=[.bool b]
theorem Zig (o:List (Nat×AObj)) (l:List Bool):keptO o (.row 1 (l.map ba))=true:=by
 simp only [keptO,List.all_eq_true,List.mem_map]
 rintro x ⟨y,-,rfl⟩ v hv
 simp only [ba,List.mem_singleton]at hv
 subst hv
 simp [keptA,AV.keys]
theorem Zih {f:Nat→Bool} {n:Nat}:(rbK f n n).map ba=List.replicate n [.bool false]:=by
 refine List.ext_getElem (by simp [rbK]) fun j h1 h2=>?_
 have:¬n≤j:=by simp at h2;omega
 simp [rbK,ba,this]
set_option maxHeartbeats 2000000 in
theorem Zii (r:List Iss) (l:List Nte) (ns nw:Bool) (s w:List Int) (m:Int) (hl:l.length≤12) (hs:Sml s) (hw:Sml w) :
  PC Tryz.prog G 116 [.agg [.vsl (r.map isa),.vsl (l.map na)],liA ns s,liA nw w,.int .i64 m] (.vsl ((rbK (fB s w m l) l.length 0).map ba)):=by
 have c1:=fun n=>Zib (G:=G) ns s n hs
 have c2:=fun n=>Zib (G:=G) nw w n hw
 have c3:=fun n lo hi=>Zf1 (G:=G) n lo hi
 have k1:=ZhP ns s
 have k2:=ZhP nw w
 have p1:=ZhO ns s
 have p2:=ZhO nw w
 generalize liA ns s=sV at *
 generalize liA nw w=wV at *
 refine ZeG rfl fun R hG hrd=>?_
 subst hG
 refine GO_AR mixed 1000 ?_
 have b1:(l.length:Int)≤16777216:=by omega
 have rep:=Zih (f:=fB s w m l) (n:=l.length)
 have rln:=fun k=>Zid (f:=fB s w m l) (n:=l.length) (k:=k)
 have w0:IntKind.i64.wrap ((l.length:Int)-1)=(l.length:Int)-1:=wrapI (by omega) (by omega)
 simp -implicitDefEqProofs [ZeE,ZeF,b1,← rep,w0]
 refine Z1Q (fun k:Nat=>⟨[(10,.int .i64 ((k:Int)-1)),(9,.osl 17 l.length),(4,.ptr 4 0),(1,sV),(2,wV),(3,.int .i64 m)],[(17,.row 1 ((rbK (fB s w m l) l.length k).map ba)),(4,.box [.vsl (r.map isa),.vsl (l.map na)])]⟩) (fun k=>k≤l.length) (fun k=>k) l.length ?_ (Nat.le_refl _) ?_
 · ((try simp only [k1,k2]);refine Weak.sub (by simp [lk,keptA,AV.keys,k1,k2]) ?_;simp only [k1,k2,Wkl,Zig,and_true];(try simp [lk,keptO,keptA,AV.keys,k1,k2]))
 · intro k hk
   cases k with
   | zero =>
     have rl0:=rln 0
     refine GO_AR mixed 1000 ?_
     simp -implicitDefEqProofs []
     refine Z2N mixed 1000 ?_
     simp -implicitDefEqProofs [ba,rl0]
   | succ k =>
     have hi:k<l.length:=hk
     have hx:=ZdR hi
     have hnx:na (nAt l k)=[.int .i64 (nAt l k).nu,.int .i64 (nAt l k).dy,.int .u8 (nAt l k).sg,.int .i64 (nAt l k).dr,.int .i64 (nAt l k).lt,.int .i64 (nAt l k).fr,.int .i64 (nAt l k).tu,.int .i64 (nAt l k).ca,.bool (nAt l k).up,.int .u8 (nAt l k).wy]:=rfl
     have fe:=ZdX (p:=bsF s w m) (h:=fun x y:Nte=>decide (y.ca=x.nu)) hi
     rw [← hx]at fe
     have gb:=ZdY (p:=bsF s w m) (h:=fun x y:Nte=>decide (y.ca=x.nu)) (l:=l) (x:=nAt l k) (i:=k)
     have gs:=fun j=>ZdZ (p:=bsF s w m) (h:=fun x y:Nte=>decide (y.ca=x.nu)) (l:=l) (x:=nAt l k) (i:=k) (k:=j)
     have fbs:fB s w m l k=gwB (bsF s w m) (fun x y=>decide (y.ca=x.nu)) l (nAt l k) k l.length:=fe
     have rat:=fun j (h:k+1≤j) (h2:j<l.length)=>Zie (f:=fB s w m l) h h2
     have rst:=Zif (f:=fB s w m l) (n:=l.length) (k:=k)
     have rln1:=rln (k+1)
     rw [fbs]at rst
     have c1:=c1 (nAt l k).nu
     have c2:=c2 (nAt l k).nu
     have c3:=c3 m (nAt l k).fr (nAt l k).tu
     have w1:IntKind.i64.wrap ((k:Int)+1)=((k+1:Nat):Int):=wrapI (by omega) (by omega)
     generalize hxx:nAt l k=x at *
     have hlx:l[k]=x:=hx.symm
     generalize hQQ:rbK (fB s w m l) l.length (k+1)=Q at *
     refine GO_AR mixed 13 ?_
     simp -implicitDefEqProofs [hi,hlx,hnx]
     refine Zff (S:=⟨[(10,.int .i64 k),(11,.ptr 11 0),(12,.bool (bsF s w m x)),(9,.osl 17 l.length),(4,.ptr 4 0),(1,sV),(2,wV),(3,.int .i64 m)],[(11,.box (na x)),(17,.row 1 (Q.map ba)),(4,.box [.vsl (r.map isa),.vsl (l.map na)])]⟩) (GO_AR mixed 1000 ?_) ?_
     · unfold bsF
       by_cases e1:x.sg=2
       · simp -implicitDefEqProofs [hnx,e1]
         refine CallK.of c2 (by simp [p2,AV.pure]) ?_
         by_cases e2:x.nu∈w
         · simp -implicitDefEqProofs [e2]
           ((try simp only [k1,k2,hnx]);refine Weak.sub (by simp [lk,keptA,AV.keys,k1,k2,hnx]) ?_;simp only [k1,k2,hnx,Wkl,Zig,and_true];(try simp [lk,keptO,keptA,AV.keys,k1,k2,hnx]))
         · simp -implicitDefEqProofs [e2]
           (first|refine CallK.of (c3) (by simp) ?_|refine CallD.of (c3) (by simp) ?_)
           simp -implicitDefEqProofs []
           ((try simp only [k1,k2,hnx]);refine Weak.sub (by simp [lk,keptA,AV.keys,k1,k2,hnx]) ?_;simp only [k1,k2,hnx,Wkl,Zig,and_true];(try simp [lk,keptO,keptA,AV.keys,k1,k2,hnx]))
       · simp -implicitDefEqProofs [hnx,e1]
         refine CallK.of c1 (by simp [p1,AV.pure]) ?_
         by_cases e3:x.nu∈s
         · simp -implicitDefEqProofs [e3]
           refine CallK.of c2 (by simp [p2,AV.pure]) ?_
           by_cases e2:x.nu∈w
           · simp -implicitDefEqProofs [e2]
             ((try simp only [k1,k2,hnx]);refine Weak.sub (by simp [lk,keptA,AV.keys,k1,k2,hnx]) ?_;simp only [k1,k2,hnx,Wkl,Zig,and_true];(try simp [lk,keptO,keptA,AV.keys,k1,k2,hnx]))
           · simp -implicitDefEqProofs [e2]
             (first|refine CallK.of (c3) (by simp) ?_|refine CallD.of (c3) (by simp) ?_)
             simp -implicitDefEqProofs []
             ((try simp only [k1,k2,hnx]);refine Weak.sub (by simp [lk,keptA,AV.keys,k1,k2,hnx]) ?_;simp only [k1,k2,hnx,Wkl,Zig,and_true];(try simp [lk,keptO,keptA,AV.keys,k1,k2,hnx]))
         · simp -implicitDefEqProofs [e3]
           ((try simp only [k1,k2,hnx]);refine Weak.sub (by simp [lk,keptA,AV.keys,k1,k2,hnx]) ?_;simp only [k1,k2,hnx,Wkl,Zig,and_true];(try simp [lk,keptO,keptA,AV.keys,k1,k2,hnx]))
     rw [← gb]
     refine GO_AR mixed 1000 ?_
     simp -implicitDefEqProofs [w1]
     refine Z1Q (fun p:Nat=>⟨[(13,.int .i64 (p:Int)),(10,.int .i64 k),(11,.ptr 11 0),(12,.bool (gwB (bsF s w m) (fun x y=>decide (y.ca=x.nu)) l x k p)),(9,.osl 17 l.length),(4,.ptr 4 0),(1,sV),(2,wV),(3,.int .i64 m)],[(11,.box (na x)),(17,.row 1 (Q.map ba)),(4,.box [.vsl (r.map isa),.vsl (l.map na)])]⟩) (fun p=>k+1≤p∧p≤l.length) (fun p=>l.length-p) (k+1) ?_ ⟨Nat.le_refl _,hi⟩ ?_
     · ((try simp only [k1,k2,hnx]);refine Weak.sub (by simp [lk,keptA,AV.keys,k1,k2,hnx]) ?_;simp only [k1,k2,hnx,Wkl,Zig,and_true];(try simp [lk,keptO,keptA,AV.keys,k1,k2,hnx]))
     · rintro p ⟨hp1,hp2⟩
       refine GO_AR mixed 1000 ?_
       rcases Nat.lt_or_ge p l.length with h5|h5
       · have hrat:=rat p hp1 h5
         obtain ⟨q1,g1⟩:=List.getElem?_eq_some_iff.1 hrat
         have hg:=gs p (by omega) h5
         have hy:=ZdR h5
         have hny:na (nAt l p)=[.int .i64 (nAt l p).nu,.int .i64 (nAt l p).dy,.int .u8 (nAt l p).sg,.int .i64 (nAt l p).dr,.int .i64 (nAt l p).lt,.int .i64 (nAt l p).fr,.int .i64 (nAt l p).tu,.int .i64 (nAt l p).ca,.bool (nAt l p).up,.int .u8 (nAt l p).wy]:=rfl
         have w2:IntKind.i64.wrap ((p:Int)+1)=(p:Int)+1:=wrapI (by omega) (by omega)
         rw [← hy]at hg
         replace hg:_=(_ && !(fB s w m l p&&_)):=hg
         generalize hyy:nAt l p=y at *
         have hly:l[p]=y:=hy.symm
         generalize fB s w m l p=fb at *
         cases hb:gwB (bsF s w m) (fun x y=>decide (y.ca=x.nu)) l x k p
         · rw [hb,Bool.false_and]at hg
           simp -implicitDefEqProofs [hb,h5,hnx,w2]
           refine ⟨rfl,p+1,?_,⟨by omega,h5⟩,(by show l.length-(p+1)<l.length-p;omega)⟩
           simp only [hg]
           ((try simp only [k1,k2,hnx]);refine Weak.sub (by simp [lk,keptA,AV.keys,k1,k2,hnx]) ?_;simp only [k1,k2,hnx,Wkl,Zig,and_true];(try simp [lk,keptO,keptA,AV.keys,k1,k2,hnx]))
         · rw [hb,Bool.true_and]at hg
           cases fb
           · rw [Bool.false_and,Bool.not_false]at hg
             simp -implicitDefEqProofs [hb,h5,hnx,w2,rln1,g1,ba]
             refine ⟨rfl,p+1,?_,⟨by omega,h5⟩,(by show l.length-(p+1)<l.length-p;omega)⟩
             simp only [hg]
             ((try simp only [k1,k2,hnx]);refine Weak.sub (by simp [lk,keptA,AV.keys,k1,k2,hnx]) ?_;simp only [k1,k2,hnx,Wkl,Zig,and_true];(try simp [lk,keptO,keptA,AV.keys,k1,k2,hnx]))
           · rw [Bool.true_and]at hg
             simp -implicitDefEqProofs [hb,h5,hnx,w2,rln1,g1,ba,hly,hny]
             refine ⟨rfl,p+1,?_,⟨by omega,h5⟩,(by show l.length-(p+1)<l.length-p;omega)⟩
             simp only [hg]
             ((try simp only [k1,k2,hnx]);refine Weak.sub (by simp [lk,keptA,AV.keys,k1,k2,hnx]) ?_;simp only [k1,k2,hnx,Wkl,Zig,and_true];(try simp [lk,keptO,keptA,AV.keys,k1,k2,hnx]))
       · obtain rfl:p=l.length:=by omega
         simp -implicitDefEqProofs []
         refine Z2N mixed 1000 ?_
         have e1:∀ b:Bool,[AV.bool b]=ba b:=fun _=>rfl
         have wk:IntKind.i64.wrap ((k:Int)-1)=(k:Int)-1:=wrapI (by omega) (by omega)
         simp -implicitDefEqProofs [hi,rln1,ba,wk]
         refine Z2N mixed 1000 ?_
         simp -implicitDefEqProofs [wk]
         refine ⟨k,?_,by omega,Nat.lt_succ_self _⟩
         simp only [e1]
         rw [← List.map_set,rst]
         ((try simp only [k1,k2,hnx]);refine Weak.sub (by simp [lk,keptA,AV.keys,k1,k2,hnx]) ?_;simp only [k1,k2,hnx,Wkl,Zig,and_true];(try simp [lk,keptO,keptA,AV.keys,k1,k2,hnx]))
end
theorem Zij {r:List Iss} {l:List Nte} (h:chN r l=0):ZdU r l=true:=by
 unfold chN at h
 split at h
 · cases q:ZdU r l
   · rw [q]at h;cases h
   · rfl
 · rename_i e;exact absurd h e
theorem Zik {r:List Iss} {l:List Nte} {s:List Int} {m:Int} (h:asN r l s m=0):chN r l=0∧truB l s=true∧inR m 1 999=true:=by
 unfold asN at h
 split at h
 · rename_i h1
   split at h
   · rename_i h2
     split at h
     · rename_i h3;exact ⟨h1,h2,h3⟩
     · cases h
   · cases h
 · rename_i e;exact absurd h e
theorem Zil {r:List Iss} {l:List Nte} (h:ZdU r l=true):l.length≤12:=by simp only [ZdU,Bool.and_eq_true,decide_eq_true_eq]at h;exact h.1.1
section
variable {G:Nat→Option (List AV)}
theorem Zim (r:List Iss) (l:List Nte) (s:List Int) (m:Int) (hw:WfN l) (hr:Wf r) (hs:Sml s):PC Tryz.prog G 104 [.agg [.vsl (r.map isa),.vsl (l.map na)],.vsl (s.map ia),.int .i64 m] (.int .i64 (asN r l s m)):=by
 have hc:=Zfe (G:=G) r l hw hr
 have hi:=Zf1 (G:=G) m 1 999
 (refine ZeJ rfl fun R hG hrd=>GO_AR mixed 1000 ?_;subst hG)
 unfold asN
 by_cases h0:chN r l=0
 · have ht:=Zic (G:=R.G) r l s (Zil (Zij h0)) hs
   simp -implicitDefEqProofs [ZeH,ZeI]
   (first|refine CallK.of (hc) (by simp) ?_|refine CallD.of (hc) (by simp) ?_)
   simp -implicitDefEqProofs [h0]
   (first|refine CallK.of (ht) (by simp) ?_|refine CallD.of (ht) (by simp) ?_)
   cases q:truB l s
   · simp -implicitDefEqProofs []
   · simp -implicitDefEqProofs []
     (first|refine CallK.of (hi) (by simp) ?_|refine CallD.of (hi) (by simp) ?_)
     cases q2:inR m 1 999
     · simp -implicitDefEqProofs []
     · simp -implicitDefEqProofs []
 · simp -implicitDefEqProofs [ZeH,ZeI]
   (first|refine CallK.of (hc) (by simp) ?_|refine CallD.of (hc) (by simp) ?_)
   simp -implicitDefEqProofs [h0]
def foS3 (r:List Iss) (l:List Nte) (s:List Int) (m:Int) (i:Nat):St :=
 if fcN s [] m l i=[] then ⟨[(11,.int .i64 i),(10,.vsl ((rbK (fB s [] m l) l.length 0).map ba)),(9,.nils),(3,.ptr 3 0)],[(3,.box [.vsl (r.map isa),.vsl (l.map na)])]⟩
 else ⟨[(11,.int .i64 i),(10,.vsl ((rbK (fB s [] m l) l.length 0).map ba)),(9,.osl 41 (fcN s [] m l i).length),(3,.ptr 3 0)],[(41,.row 1 ((fcN s [] m l i).map ia)),(3,.box [.vsl (r.map isa),.vsl (l.map na)])]⟩
set_option maxHeartbeats 1000000 in
theorem Zin (r:List Iss) (l:List Nte) (s:List Int) (m:Int) (hw:WfN l) (hr:Wf r) (hs:Sml s):PC Tryz.prog G 84 [.agg [.vsl (r.map isa),.vsl (l.map na)],.vsl (s.map ia),.int .i64 m] (fcA r l s m):=by
 have ha:=Zim (G:=G) r l s m hw hr hs
 refine ZeM rfl fun R hG hrd=>?_
 subst hG
 refine GO_AR mixed 1000 ?_
 unfold fcA fcE
 by_cases h0:asN r l s m=0
 · have hl12:=Zil (Zij (Zik h0).1)
   have hf:=Zii (G:=R.G) r l false true s [] m hl12 hs (by simp [Sml])
   have e1:liA false s = .vsl (s.map ia):=by simp [liA]
   have e2:liA true [] = .nils:=by simp [liA]
   rw [e1,e2]at hf
   rw [h0]at ha
   rw [if_pos h0]
   simp -implicitDefEqProofs [ZeK,ZeL]
   (first|refine CallK.of (ha) (by simp) ?_|refine CallD.of (ha) (by simp) ?_)
   simp -implicitDefEqProofs []
   (first|refine CallK.of (hf) (by simp) ?_|refine CallD.of (hf) (by simp) ?_)
   simp -implicitDefEqProofs []
   refine Zb2 (foS3 r l s m) (fun _=>True) l.length ?_ trivial ?_ ?_
   · have e0:fcN s [] m l 0=[]:=by simp [fcN]
     simp only [foS3,e0,if_true]
     ((try simp only [ba]);refine Weak.sub (by simp [lk,keptA,AV.keys,ba]) ?_;simp only [ba,Wkl,and_true];(try simp [lk,keptO,keptA,AV.keys,ba]))
   · intro i hi _
     have hrat:=Zie (f:=fB s [] m l) (Nat.zero_le i) hi
     have rl0:=Zid (f:=fB s [] m l) (n:=l.length) (k:=0)
     obtain ⟨q1,g1⟩:=List.getElem?_eq_some_iff.1 hrat
     have hx:=ZdR hi
     have hnx:na (nAt l i)=[.int .i64 (nAt l i).nu,.int .i64 (nAt l i).dy,.int .u8 (nAt l i).sg,.int .i64 (nAt l i).dr,.int .i64 (nAt l i).lt,.int .i64 (nAt l i).fr,.int .i64 (nAt l i).tu,.int .i64 (nAt l i).ca,.bool (nAt l i).up,.int .u8 (nAt l i).wy]:=rfl
     have sc:=Ze0 (s:=s) (w:=[]) (m:=m) hi
     have bb:((fcN s [] m l i).length+1)*8≤70368744177664:=by have:=Ze1 s [] m l i;omega
     have wi:IntKind.i64.wrap ((i:Int)+1)=(i:Int)+1:=wrapI (by omega) (by omega)
     rw [← hx]at sc
     have hlx:l[i]=nAt l i:=hx.symm
     have hff:∀ b,fB s [] m l i=b→True:=fun _ _=>trivial
     cases hb:fB s [] m l i
     · rw [hb]at sc g1
       have e:fcN s [] m l (i+1)=fcN s [] m l i:=sc
       by_cases c:fcN s [] m l i=[]
       all_goals
        refine GO_AR mixed 1000 ?_
        simp only [foS3,c,if_true,if_false]
        simp -implicitDefEqProofs [hi,rl0,g1,ba,wi]
        simp only [foS3,e,c,if_true,if_false]
        (refine Weak.sub (by simp [lk,keptA,AV.keys]) ?_;simp only [Wkl,Zig,Zhe,and_true];(try simp [lk,keptO,keptA,AV.keys]))
     · rw [hb]at sc g1
       have e:fcN s [] m l (i+1)=fcN s [] m l i++[(nAt l i).nu]:=sc
       have hne:fcN s [] m l (i+1)≠[]:=by rw [e];simp
       by_cases c:fcN s [] m l i=[]
       all_goals
        refine GO_AR mixed 1000 ?_
        simp only [foS3,c,if_true,if_false]
        simp -implicitDefEqProofs [hi,rl0,g1,ba,wi,hlx,hnx,bb]
        simp only [foS3,hne,if_false]
        have e1:(fcN s [] m l (i+1)).map ia=(fcN s [] m l i).map ia++[[AV.int .i64 (nAt l i).nu]]:=by rw [e,List.map_append];rfl
        have e2:(fcN s [] m l (i+1)).length=(fcN s [] m l i).length+1:=by rw [e];simp
        first
         |(rw [c,List.nil_append]at e;rw [e];((try simp only [ia]);refine Weak.sub (by simp [lk,keptA,AV.keys,ia]) ?_;simp only [ia,Wkl,and_true];(try simp [lk,keptO,keptA,AV.keys,ia]));done)
         |(rw [← e1,e2];(refine Weak.sub (by simp [lk,keptA,AV.keys]) ?_;simp only [Wkl,Zhe,and_true];(try simp [lk,keptO,keptA,AV.keys]));done)
   · intro _
     have rl0:=Zid (f:=fB s [] m l) (n:=l.length) (k:=0)
     refine GO_AR mixed 1000 ?_
     by_cases c:fcN s [] m l l.length=[]
     · simp -implicitDefEqProofs [foS3,c,rl0]
       refine Z2N mixed 1000 ?_
       simp -implicitDefEqProofs [orNil]
     · simp -implicitDefEqProofs [foS3,c,rl0]
       refine Z2N mixed 1000 ?_
       simp -implicitDefEqProofs [orNil,c,ia]
 · rw [if_neg h0]
   simp -implicitDefEqProofs [ZeK,ZeL]
   (first|refine CallK.of (ha) (by simp) ?_|refine CallD.of (ha) (by simp) ?_)
   simp -implicitDefEqProofs [h0,orNil]
end
section
variable {G:Nat→Option (List AV)}
theorem Zio (n lo hi:Int):PC Tryz.prog G 43 [.int .i64 n,.int .i64 lo,.int .i64 hi] (.bool (inR n lo hi)):=by
 (refine Z7J rfl fun R hG hrd=>GO_AR mixed 1000 ?_;subst hG)
 by_cases h1:lo≤n <;> by_cases h2:n≤hi <;> simp -implicitDefEqProofs [Z7H,Z7I,inR,h1,h2]
theorem Zip (l:List Int) (n:Int) (h:Sml l):PC Tryz.prog G 85 [.vsl (l.map ia),.int .i64 n] (.bool (decide (n∈l))):=by
 (refine Z7M rfl fun R hG hrd=>GO_AR mixed 1000 ?_;subst hG)
 unfold Sml at h
 simp -implicitDefEqProofs [Z7K,Z7L]
 refine Zb2 (fun i=>⟨[(5,.int .i64 i),(0,.vsl (l.map ia)),(1,.int .i64 n)],[]⟩) (fun i=>∀ j (h:j<l.length),j<i→¬l[j]=n) l.length (by (first|exact Weak.tm (by simp [lk])|exact Weak.sub (by simp [lk,keptA,AV.keys]) (by simp [lk,keptO,keptA,AV.keys]))) (by simp) ?_ ?_
 · intro i hi he
   refine GO_AR mixed 1000 ?_
   have w1:IntKind.i64.wrap ((i:Int)+1)=(i:Int)+1:=wrapI (by omega) (by omega)
   by_cases e:l[i]=n
   · have hm:n∈l:=e ▸ List.getElem_mem hi
     simp -implicitDefEqProofs [hi,ia,e]
     refine Z2N mixed 1000 ?_
     simp -implicitDefEqProofs [hm]
   · simp -implicitDefEqProofs [hi,ia,e,w1]
     refine ⟨by (first|exact Weak.tm (by simp [lk])|exact Weak.sub (by simp [lk,keptA,AV.keys]) (by simp [lk,keptO,keptA,AV.keys])),fun j hj hji=>?_⟩
     rcases Nat.lt_or_ge j i with h2|h2
     · exact he j hj h2
     · obtain rfl:j=i:=by omega
       exact e
 · intro he
   refine GO_AR mixed 1000 ?_
   have hm:¬n∈l:=fun hm=>by
    obtain ⟨j,hj,e⟩:=List.getElem_of_mem hm
    exact he j hj hj e
   simp -implicitDefEqProofs []
   refine Z2N mixed 1000 ?_
   simp -implicitDefEqProofs [hm]
theorem Ziq (r:List Iss) (d l:Int) (hr:Sml r):PC Tryz.prog G 93 [.agg [.vsl (r.map isa)],.agg [.int .i64 d,.int .i64 l]] (.bool (knB r d l)):=by
 have hf:=Zbm (G:=G) r d l hr
 rw [rega]at hf
 unfold knB
 (refine Z7P rfl fun R hG hrd=>GO_AR mixed 1000 ?_;subst hG)
 cases q:findN d l r with
 | some y =>
   rw [q]at hf
   simp -implicitDefEqProofs [Z7N,Z7O]
   (first|refine CallK.of (hf) (by simp) ?_|refine CallD.of (hf) (by simp) ?_)
   simp -implicitDefEqProofs [fndA,isa]
 | none =>
   rw [q]at hf
   simp -implicitDefEqProofs [Z7N,Z7O]
   (first|refine CallK.of (hf) (by simp) ?_|refine CallD.of (hf) (by simp) ?_)
   simp -implicitDefEqProofs [fndA,noIs]
theorem Zir {x y:Nte} (h:x≠y):(!decide (x.nu=y.nu)||(!decide (x.dy=y.dy)||(!decide (x.sg=y.sg)||(!decide (x.dr=y.dr)||(!decide (x.lt=y.lt)||(!decide (x.fr=y.fr)||(!decide (x.tu=y.tu)||(!decide (x.ca=y.ca)||(!(x.up == y.up) || !decide (x.wy=y.wy))))))))))=true:=by
 cases q:(!decide (x.nu=y.nu)||(!decide (x.dy=y.dy)||(!decide (x.sg=y.sg)||(!decide (x.dr=y.dr)||(!decide (x.lt=y.lt)||(!decide (x.fr=y.fr)||(!decide (x.tu=y.tu)||(!decide (x.ca=y.ca)||(!(x.up == y.up) || !decide (x.wy=y.wy))))))))))
 · refine absurd ?_ h
   simp at q
   cases x;cases y;simp_all
 · rfl
theorem Zis {x y:Rul} (h:x≠y):(!decide (x.nu=y.nu)||(!decide (x.dy=y.dy)||(!decide (x.fd=y.fd)||(!decide (x.fl=y.fl)||(!decide (x.td=y.td)||(!decide (x.tl=y.tl)||(!(x.bo == y.bo) || !decide (x.br=y.br))))))))=true:=by
 cases q:(!decide (x.nu=y.nu)||(!decide (x.dy=y.dy)||(!decide (x.fd=y.fd)||(!decide (x.fl=y.fl)||(!decide (x.td=y.td)||(!decide (x.tl=y.tl)||(!(x.bo == y.bo) || !decide (x.br=y.br))))))))
 · refine absurd ?_ h
   simp at q
   cases x;cases y;simp_all
 · rfl
theorem Zit {x y:Stq} (h:x≠y):(!decide (x.fd=y.fd)||(!decide (x.fl=y.fl)||(!decide (x.td=y.td)||(!decide (x.tl=y.tl)||(!decide (x.nu=y.nu) || !(x.nt == y.nt))))))=true:=by
 cases q:(!decide (x.fd=y.fd)||(!decide (x.fl=y.fl)||(!decide (x.td=y.td)||(!decide (x.tl=y.tl)||(!decide (x.nu=y.nu) || !(x.nt == y.nt))))))
 · refine absurd ?_ h
   simp at q
   cases x;cases y;simp_all
 · rfl
theorem Ziu (a b:List Iss) (l k:List Nte) (ha:SmlR a) (hl:Sml l):PC Tryz.prog G 52 [.agg [.vsl (a.map isa),.vsl (l.map na)],.agg [.vsl (b.map isa),.vsl (k.map na)]] (.bool (decide (a=b∧l=k))):=by
 have hs:=Zbf (G:=G) a b ha
 rw [rega,rega]at hs
 unfold Sml at hl
 (refine ZeP rfl fun R hG hrd=>GO_AR mixed 1000 ?_;subst hG)
 simp -implicitDefEqProofs [ZeN,ZeO]
 (first|refine CallK.of (hs) (by simp) ?_|refine CallD.of (hs) (by simp) ?_)
 by_cases h1:a=b
 · by_cases h2:l.length=k.length
   · have h2':(l.length:Int)=k.length:=by omega
     simp -implicitDefEqProofs [h1,h2']
     refine Zb2 (fun i=>⟨[(5,.int .i64 i),(2,.ptr 2 0),(3,.ptr 3 0)],[(2,.box [.vsl (b.map isa),.vsl (l.map na)]),(3,.box [.vsl (b.map isa),.vsl (k.map na)])]⟩) (fun i=>∀ j (h:j<l.length),j<i→l[j]=k[j]) l.length (by subst h1;(first|exact Weak.tm (by simp [lk])|exact Weak.sub (by simp [lk,keptA,AV.keys]) (by simp [lk,keptO,keptA,AV.keys]))) (by simp) ?_ ?_
     · intro i hi he
       have hi2:i<k.length:=by omega
       have w1:IntKind.i64.wrap ((i:Int)+1)=(i:Int)+1:=wrapI (by omega) (by omega)
       refine GO_AR mixed 1000 ?_
       by_cases h2:l[i]=k[i]
       · simp -implicitDefEqProofs [hi,hi2,na,w1,h2]
         refine ⟨rfl,by (first|exact Weak.tm (by simp [lk])|exact Weak.sub (by simp [lk,keptA,AV.keys]) (by simp [lk,keptO,keptA,AV.keys])),fun j h1 h3=>?_⟩
         by_cases e:j=i
         · subst e;exact h2
         · exact he j h1 (by omega)
       · have h3:¬l=k:=fun e=>h2 (by subst e;rfl)
         have ne:=Zir h2
         simp -implicitDefEqProofs [hi,hi2,na,w1,ne]
         refine ⟨rfl,?_⟩
         refine Z2N mixed 1000 ?_
         simp -implicitDefEqProofs [h3]
     · intro he
       have h3:l=k:=List.ext_getElem h2 fun j h1 h2=>he j h1 h1
       refine GO_AR mixed 1000 ?_
       simp -implicitDefEqProofs []
       refine Z2N mixed 1000 ?_
       simp -implicitDefEqProofs [h3,h1]
   · have h2':¬(l.length:Int)=k.length:=by omega
     have h3:¬l=k:=fun e=>h2 (by rw [e])
     simp -implicitDefEqProofs [h1,h2',h3]
 · simp -implicitDefEqProofs [h1]
theorem Ziv (r:List Iss) (l:List Nte) (h:Sml r):PC Tryz.prog G 38 [.agg [.vsl (r.map isa),.vsl (l.map na)]] (.bool (Zbh r||decide (16<l.length))):=by
 have hg:=Zbl (G:=G) r h
 rw [rega]at hg
 (refine ZeV rfl fun R hG hrd=>GO_AR mixed 1000 ?_;subst hG)
 simp -implicitDefEqProofs [ZeT,ZeU]
 (first|refine CallK.of (hg) (by simp) ?_|refine CallD.of (hg) (by simp) ?_)
 cases q:Zbh r
 · have e:decide ((16:Int)<l.length)=decide (16<l.length):=by rw [decide_eq_decide];omega
   simp -implicitDefEqProofs [e]
 · simp -implicitDefEqProofs []
theorem Ziw (r:List Iss) (l:List Nte) (q:List Rul) (h:Sml r):PC Tryz.prog G 7 [swa r l q] (.bool (Zbh r||decide (16<l.length)||decide (20<q.length))):=by
 have hg:=Ziv (G:=G) r l h
 (refine Z8s rfl fun R hG hrd=>GO_AR mixed 1000 ?_;subst hG)
 simp -implicitDefEqProofs [Z8q,Z8r,swa]
 (first|refine CallK.of (hg) (by simp) ?_|refine CallD.of (hg) (by simp) ?_)
 cases h1:(Zbh r||decide (16<l.length))
 · have e:decide ((20:Int)<q.length)=decide (20<q.length):=by rw [decide_eq_decide];omega
   simp -implicitDefEqProofs [e]
 · simp -implicitDefEqProofs []
theorem Zix (r:List Iss) (l:List Nte) (hr:SmlR r) (hl:Sml l):PC Tryz.prog G 39 [.agg [.vsl (r.map isa),.vsl (l.map na)]] (.agg [.vsl (r.map isa),.vsl (l.map na)]):=by
 have ht:=ZdQ (G:=G) r hr
 rw [rega]at ht
 unfold Sml at hl
 (refine ZeS rfl fun R hG hrd=>GO_AR mixed 1000 ?_;subst hG)
 by_cases h0:l=[]
 · simp -implicitDefEqProofs [ZeQ,ZeR,h0]
   (first|refine CallK.of (ht) (by simp) ?_|refine CallD.of (ht) (by simp) ?_)
   simp -implicitDefEqProofs [h0]
   try rfl
 · have b2:l.length*72≤70368744177664:=by omega
   simp -implicitDefEqProofs [ZeQ,ZeR,h0]
   (first|refine CallK.of (ht) (by simp) ?_|refine CallD.of (ht) (by simp) ?_)
   simp -implicitDefEqProofs [h0,na,b2]
   try rfl
theorem Ziy (r:List Iss) (l:List Nte) (q:List Rul) (hr:SmlR r) (hl:Sml l) (hq:Sml q):PC Tryz.prog G 8 [swa r l q] (swa r l q):=by
 have ht:=Zix (G:=G) r l hr hl
 unfold Sml at hq
 (refine Z8p rfl fun R hG hrd=>GO_AR mixed 1000 ?_;subst hG)
 by_cases h0:q=[]
 · simp -implicitDefEqProofs [Z8n,Z8o,h0,swa]
   (first|refine CallK.of (ht) (by simp) ?_|refine CallD.of (ht) (by simp) ?_)
   simp -implicitDefEqProofs [h0]
   try rfl
 · have b2:q.length*64≤70368744177664:=by omega
   simp -implicitDefEqProofs [Z8n,Z8o,h0,swa]
   (first|refine CallK.of (ht) (by simp) ?_|refine CallD.of (ht) (by simp) ?_)
   simp -implicitDefEqProofs [h0,ra,b2]
   try rfl
theorem Ziz (a b:List Iss) (l k:List Nte) (q p:List Rul) (ha:SmlR a) (hl:Sml l) (hq:Sml q):PC Tryz.prog G 17 [swa a l q,swa b k p] (.bool (decide ((a=b∧l=k)∧q=p))):=by
 have hs:=Ziu (G:=G) a b l k ha hl
 unfold Sml at hq
 (refine Z8m rfl fun R hG hrd=>GO_AR mixed 1000 ?_;subst hG)
 simp -implicitDefEqProofs [Z8k,Z8l,swa]
 (first|refine CallK.of (hs) (by simp) ?_|refine CallD.of (hs) (by simp) ?_)
 by_cases h1:a=b∧l=k
 · by_cases h2:q.length=p.length
   · have h2':(q.length:Int)=p.length:=by omega
     simp -implicitDefEqProofs [h1,h2']
     refine Zb2 (fun i=>⟨[(5,.int .i64 i),(2,.ptr 2 0),(3,.ptr 3 0)],[(2,.box [.vsl (b.map isa),.vsl (k.map na),.vsl (q.map ra)]),(3,.box [.vsl (b.map isa),.vsl (k.map na),.vsl (p.map ra)])]⟩) (fun i=>∀ j (h:j<q.length),j<i→q[j]=p[j]) q.length (by (first|exact Weak.tm (by simp [lk])|exact Weak.sub (by simp [lk,keptA,AV.keys]) (by simp [lk,keptO,keptA,AV.keys]))) (by simp) ?_ ?_
     · intro i hi he
       have hi2:i<p.length:=by omega
       have w1:IntKind.i64.wrap ((i:Int)+1)=(i:Int)+1:=wrapI (by omega) (by omega)
       refine GO_AR mixed 1000 ?_
       by_cases h2:q[i]=p[i]
       · simp -implicitDefEqProofs [hi,hi2,ra,w1,h2]
         refine ⟨rfl,by (first|exact Weak.tm (by simp [lk])|exact Weak.sub (by simp [lk,keptA,AV.keys]) (by simp [lk,keptO,keptA,AV.keys])),fun j h1 h3=>?_⟩
         by_cases e:j=i
         · subst e;exact h2
         · exact he j h1 (by omega)
       · have h3:¬q=p:=fun e=>h2 (by subst e;rfl)
         have ne:=Zis h2
         simp -implicitDefEqProofs [hi,hi2,ra,w1,ne]
         refine ⟨rfl,?_⟩
         refine Z2N mixed 1000 ?_
         simp -implicitDefEqProofs [h3]
     · intro he
       have h3:q=p:=List.ext_getElem h2 fun j h1 h2=>he j h1 h1
       refine GO_AR mixed 1000 ?_
       simp -implicitDefEqProofs []
       refine Z2N mixed 1000 ?_
       simp -implicitDefEqProofs [h3,h1]
   · have h2':¬(q.length:Int)=p.length:=by omega
     have h3:¬q=p:=fun e=>h2 (by rw [e])
     simp -implicitDefEqProofs [h1,h2',h3]
 · have h1':decide (a=b∧l=k)=false:=decide_eq_false h1
   have h1'':¬(a=b∧l=k∧q=p):=fun h=>h1 ⟨h.1,h.2.1⟩
   simp -implicitDefEqProofs [h1',h1'',h1]
theorem ZiA (q p:List Stq) (hq:Sml q):PC Tryz.prog G 16 [.vsl (q.map sa),.vsl (p.map sa)] (.bool (decide (q=p))):=by
 unfold Sml at hq
 (refine Z8j rfl fun R hG hrd=>GO_AR mixed 1000 ?_;subst hG)
 by_cases h2:q.length=p.length
 · have h2':(q.length:Int)=p.length:=by omega
   simp -implicitDefEqProofs [Z8h,Z8i,h2']
   refine Zb2 (fun i=>⟨[(5,.int .i64 i),(0,.vsl (q.map sa)),(1,.vsl (p.map sa))],[]⟩) (fun i=>∀ j (h:j<q.length),j<i→q[j]=p[j]) q.length (by (first|exact Weak.tm (by simp [lk])|exact Weak.sub (by simp [lk,keptA,AV.keys]) (by simp [lk,keptO,keptA,AV.keys]))) (by simp) ?_ ?_
   · intro i hi he
     have hi2:i<p.length:=by omega
     have w1:IntKind.i64.wrap ((i:Int)+1)=(i:Int)+1:=wrapI (by omega) (by omega)
     refine GO_AR mixed 1000 ?_
     by_cases h2:q[i]=p[i]
     · simp -implicitDefEqProofs [hi,hi2,sa,w1,h2]
       refine ⟨rfl,by (first|exact Weak.tm (by simp [lk])|exact Weak.sub (by simp [lk,keptA,AV.keys]) (by simp [lk,keptO,keptA,AV.keys])),fun j h1 h3=>?_⟩
       by_cases e:j=i
       · subst e;exact h2
       · exact he j h1 (by omega)
     · have h3:¬q=p:=fun e=>h2 (by subst e;rfl)
       have ne:=Zit h2
       simp -implicitDefEqProofs [hi,hi2,sa,w1,ne]
       refine ⟨rfl,?_⟩
       refine Z2N mixed 1000 ?_
       simp -implicitDefEqProofs [h3]
   · intro he
     have h3:q=p:=List.ext_getElem h2 fun j h1 h2=>he j h1 h1
     refine GO_AR mixed 1000 ?_
     simp -implicitDefEqProofs []
     refine Z2N mixed 1000 ?_
     simp -implicitDefEqProofs [h3]
 · have h2':¬(q.length:Int)=p.length:=by omega
   have h3:¬q=p:=fun e=>h2 (by rw [e])
   simp -implicitDefEqProofs [Z8h,Z8i,h2',h3]
end
section
variable {G:Nat→Option (List AV)}
set_option maxHeartbeats 2000000 in
theorem ZiB (r:List Iss) (l:List Nte) (q:List Rul) (i:Nat) (hi:i<q.length) (hq:Sml q) (hr:Sml r):PC Tryz.prog G 88 [swa r l q,.int .i64 i] (.bool (ruleB r q i)):=by
 unfold Sml at hq
 have hx:=Zef hi
 obtain ⟨x,hxx⟩ : ∃ x,x=q[i]:=⟨_,rfl⟩
 rw [← hxx]at hx
 have hlx:q[i]=x:=hxx.symm
 have hra:ra x=[.int .i64 x.nu,.int .i64 x.dy,.int .i64 x.fd,.int .i64 x.fl,.int .i64 x.td,.int .i64 x.tl,.bool x.bo,.int .i64 x.br]:=rfl
 have hk1:=Ziq (G:=G) r x.fd x.fl hr
 have hk2:=Ziq (G:=G) r x.td x.tl hr
 refine Z7S rfl fun R hG hrd=>?_
 subst hG
 unfold Z7Q swa
 refine ZeZ (S:=⟨[(1,.int .i64 i),(2,.ptr 2 0)],[(2,.box [.vsl (r.map isa),.vsl (l.map na),.vsl (q.map ra)])]⟩) (GO_AR mixed 1000 ?_) ?_
 · simp -implicitDefEqProofs []
   (refine Weak.sub (by simp [lk,keptA,AV.keys]) ?_;simp only [Wkl,and_true];(try simp [lk,keptO,keptA,AV.keys]))
 refine ZeZ (S:=⟨[(1,.int .i64 i),(2,.ptr 2 0),(5,.ptr 5 0)],[(2,.box [.vsl (r.map isa),.vsl (l.map na),.vsl (q.map ra)]),(5,.box (ra x))]⟩) (GO_AR mixed 1000 ?_) ?_
 · simp -implicitDefEqProofs [hi,hlx,hra]
   ((try simp only [hra]);refine Weak.sub (by simp [lk,keptA,AV.keys,hra]) ?_;simp only [hra,Wkl,and_true];(try simp [lk,keptO,keptA,AV.keys,hra]))
 refine Zf0 (S:=⟨[(1,.int .i64 i),(2,.ptr 2 0),(5,.ptr 5 0)],[(2,.box [.vsl (r.map isa),.vsl (l.map na),.vsl (q.map ra)]),(5,.box (ra x))]⟩) (Q:=cR1 x=true) (GO_AR mixed 1000 ?_) ?_
 · simp -implicitDefEqProofs [hra]
   (first|refine CallK.of (Zio x.nu 1 9999) (by simp) ?_|refine CallD.of (Zio x.nu 1 9999) (by simp) ?_)
   cases h1:inR x.nu 1 9999
   · have e:ruleB r q i=false:=by simp [ruleB,hx,cR1,h1]
     simp -implicitDefEqProofs [e,Z7R]
   simp -implicitDefEqProofs []
   (first|refine CallK.of (Zio x.dy 0 14610) (by simp) ?_|refine CallD.of (Zio x.dy 0 14610) (by simp) ?_)
   cases h2:inR x.dy 0 14610
   · have e:ruleB r q i=false:=by simp [ruleB,hx,cR1,h2]
     simp -implicitDefEqProofs [e,Z7R]
   simp -implicitDefEqProofs []
   refine ⟨?_,by rw [cR1,h1,h2];rfl⟩
   ((try simp only [hra]);refine Weak.sub (by simp [lk,keptA,AV.keys,hra]) ?_;simp only [hra,Wkl,and_true];(try simp [lk,keptO,keptA,AV.keys,hra]))
 intro k1
 refine ZeZ (S:=⟨[(1,.int .i64 i),(2,.ptr 2 0),(5,.ptr 5 0),(6,.ptr 6 0)],[(2,.box [.vsl (r.map isa),.vsl (l.map na),.vsl (q.map ra)]),(5,.box (ra x)),(6,.box [.int .i64 0,.int .i64 0])]⟩) (GO_AR mixed 1000 ?_) ?_
 · simp -implicitDefEqProofs []
   ((try simp only [hra]);refine Weak.sub (by simp [lk,keptA,AV.keys,hra]) ?_;simp only [hra,Wkl,and_true];(try simp [lk,keptO,keptA,AV.keys,hra]))
 refine Zf0 (S:=⟨[(1,.int .i64 i),(2,.ptr 2 0),(5,.ptr 5 0)],[(2,.box [.vsl (r.map isa),.vsl (l.map na),.vsl (q.map ra)]),(5,.box (ra x))]⟩) (Q:=cR2 r x=true) (GO_AR mixed 1000 ?_) ?_
 · by_cases hz:x.fd=0∧x.fl=0∧x.td=0∧x.tl=0
   · obtain ⟨z1,z2,z3,z4⟩:=hz
     have e2:cR2 r x=(!x.bo && !decide (x.br=0)):=by rw [cR2,if_pos ⟨z1,z2,z3,z4⟩]
     cases hb:x.bo
     · by_cases hc:x.br=0
       · have e:ruleB r q i=false:=by simp [ruleB,hx,e2,hc]
         simp -implicitDefEqProofs [hra,z1,z2,z3,z4,hb,hc,e,Z7R]
       · simp -implicitDefEqProofs [hra,z1,z2,z3,z4,hb,hc]
         refine ⟨?_,by simp [e2,hb,hc]⟩
         ((try simp only [hra,z1,z2,z3,z4,hb]);refine Weak.sub (by simp [lk,keptA,AV.keys,hra,z1,z2,z3,z4,hb]) ?_;simp only [hra,z1,z2,z3,z4,hb,Wkl,and_true];(try simp [lk,keptO,keptA,AV.keys,hra,z1,z2,z3,z4,hb]))
     · have e:ruleB r q i=false:=by simp [ruleB,hx,e2,hb]
       simp -implicitDefEqProofs [hra,z1,z2,z3,z4,hb,e,Z7R]
   · have e2 : cR2 r x=(!decide (x.fd=x.td∧x.fl=x.tl)&&knB r x.fd x.fl&&knB r x.td x.tl):=by rw [cR2,if_neg hz]
     have e2f:cR2 r x=false→ruleB r q i=false:=fun h=>by simp [ruleB,hx,h]
     have nb:∀ (p1 p2:Prop) [Decidable p1] [Decidable p2],¬(p1∧p2)→(decide p1&&decide p2)=false∧(!decide p1 || !decide p2)=true:=fun p1 p2 _ _ h=>by
      by_cases a:p1
      · have b:¬p2:=fun b=>h ⟨a,b⟩
        simp [a,b]
      · simp [a]
     by_cases f1:x.fd=0∧x.fl=0
     · have f0:¬(x.td=0∧x.tl=0):=fun h=>hz ⟨f1.1,f1.2,h.1,h.2⟩
       have f2:=nb _ _ f0
       have f3:=nb (0=x.td) (0=x.tl) fun h=>f0 ⟨h.1.symm,h.2.symm⟩
       have f5:decide (x.fd=x.td∧x.fl=x.tl)=false:=decide_eq_false fun h=>f0 ⟨h.1.symm.trans f1.1,h.2.symm.trans f1.2⟩
       rw [f5,Bool.not_false,Bool.true_and]at e2
       rw [f1.1,f1.2]at hk1 e2
       simp -implicitDefEqProofs [hra,f1.1,f1.2,f2.1,f2.2,f3.1,f3.2]
       (first|refine CallK.of (hk1) (by simp) ?_|refine CallD.of (hk1) (by simp) ?_)
       cases h1:knB r 0 0
       · have e:=e2f (by rw [e2,h1];rfl)
         simp -implicitDefEqProofs [e,Z7R]
       · simp -implicitDefEqProofs [hra,f1.1,f1.2]
         (first|refine CallK.of (hk2) (by simp) ?_|refine CallD.of (hk2) (by simp) ?_)
         cases h2:knB r x.td x.tl
         · have e:=e2f (by rw [e2,h2,Bool.and_false])
           simp -implicitDefEqProofs [e,Z7R]
         · simp -implicitDefEqProofs []
           refine ⟨?_,by rw [e2,h1,h2];rfl⟩
           ((try simp only [hra,f1.1,f1.2]);refine Weak.sub (by simp [lk,keptA,AV.keys,hra,f1.1,f1.2]) ?_;simp only [hra,f1.1,f1.2,Wkl,and_true];(try simp [lk,keptO,keptA,AV.keys,hra,f1.1,f1.2]))
     · have f2:=nb _ _ f1
       by_cases f4:x.fd=x.td∧x.fl=x.tl
       · have e:=e2f (by rw [e2,decide_eq_true f4];rfl)
         simp -implicitDefEqProofs [hra,f2.1,f2.2]
         rw [← f4.1,← f4.2]
         simp -implicitDefEqProofs [e,Z7R]
       · have f5:=nb _ _ f4
         rw [decide_eq_false f4,Bool.not_false,Bool.true_and]at e2
         simp -implicitDefEqProofs [hra,f2.1,f2.2,f5.1,f5.2]
         (first|refine CallK.of (hk1) (by simp) ?_|refine CallD.of (hk1) (by simp) ?_)
         cases h1:knB r x.fd x.fl
         · have e:=e2f (by rw [e2,h1];rfl)
           simp -implicitDefEqProofs [e,Z7R]
         · simp -implicitDefEqProofs [hra]
           (first|refine CallK.of (hk2) (by simp) ?_|refine CallD.of (hk2) (by simp) ?_)
           cases h2:knB r x.td x.tl
           · have e:=e2f (by rw [e2,h2,Bool.and_false])
             simp -implicitDefEqProofs [e,Z7R]
           · simp -implicitDefEqProofs []
             refine ⟨?_,by rw [e2,h1,h2];rfl⟩
             ((try simp only [hra]);refine Weak.sub (by simp [lk,keptA,AV.keys,hra]) ?_;simp only [hra,Wkl,and_true];(try simp [lk,keptO,keptA,AV.keys,hra]))
 intro k2
 have en:ruleB r q i=(cR3 q i x&&cR4 q i x&&cR5 q i x):=by rw [ruleB,hx,k1,k2];rfl
 rw [en]
 refine GO_AR mixed 1000 ?_
 simp -implicitDefEqProofs [hra]
 refine Zb2 (fun k=>⟨[(8,.int .i64 k),(7,.bool (decide (x.br=0)||(q.take k).any fun y=>decide (y.nu=x.br))),(1,.int .i64 i),(2,.ptr 2 0),(5,.ptr 5 0)],[(2,.box [.vsl (r.map isa),.vsl (l.map na),.vsl (q.map ra)]),(5,.box (ra x))]⟩)
  (fun k=>((q.take k).any fun y=>decide (y.nu=x.nu))=false) i ?_ (by simp) ?_ ?_
 · ((try simp only [hra,List.take_zero,List.any_nil,Bool.or_false]);refine Weak.sub (by simp [lk,keptA,AV.keys,hra,List.take_zero,List.any_nil,Bool.or_false]) ?_;simp only [hra,List.take_zero,List.any_nil,Bool.or_false,Wkl,and_true];(try simp [lk,keptO,keptA,AV.keys,hra,List.take_zero,List.any_nil,Bool.or_false]))
 · intro k hk hI
   refine GO_AR mixed 1000 ?_
   have hkl:k<q.length:=by omega
   have wk:IntKind.i64.wrap ((k:Int)+1)=(k:Int)+1:=wrapI (by omega) (by omega)
   have a1:=ZeW hkl fun y=>decide (y.nu=x.nu)
   have a2:=ZeW hkl fun y=>decide (y.nu=x.br)
   have hnk:ra q[k]=[.int .i64 q[k].nu,.int .i64 q[k].dy,.int .i64 q[k].fd,.int .i64 q[k].fl,.int .i64 q[k].td,.int .i64 q[k].tl,.bool q[k].bo,.int .i64 q[k].br]:=rfl
   by_cases e:q[k].nu=x.nu
   · have h7:cR3 q i x=false:=by
      have:((q.take i).any fun y=>decide (y.nu=x.nu))=true:=List.any_eq_true.2 ⟨q[k],by rw [List.mem_take_iff_getElem];exact ⟨k,by omega,rfl⟩,by simp [e]⟩
      rw [cR3,this];rfl
     simp -implicitDefEqProofs [hk,hkl,hra,hnk,e]
     refine ⟨rfl,?_⟩
     refine Z2N mixed 1000 ?_
     simp -implicitDefEqProofs [h7,Z7R]
   · have hI2:((q.take (k+1)).any fun y=>decide (y.nu=x.nu))=false:=by rw [a1,hI];simp [e]
     cases hB:(decide (x.br=0)||(q.take k).any fun y=>decide (y.nu=x.br))
     · have hB2:(decide (x.br=0)||(q.take (k+1)).any fun y=>decide (y.nu=x.br))=decide (q[k].nu=x.br):=by rw [a2,← Bool.or_assoc,hB];simp
       simp -implicitDefEqProofs [hk,hkl,hra,hnk,e,hB,wk]
       refine ⟨rfl,rfl,?_,by simpa using hI2⟩
       ((try simp only [hra,hB2]);refine Weak.sub (by simp [lk,keptA,AV.keys,hra,hB2]) ?_;simp only [hra,hB2,Wkl,and_true];(try simp [lk,keptO,keptA,AV.keys,hra,hB2]))
     · have hB2:(decide (x.br=0)||(q.take (k+1)).any fun y=>decide (y.nu=x.br))=true:=by rw [a2,← Bool.or_assoc,hB];rfl
       simp -implicitDefEqProofs [hk,hkl,hra,hnk,e,hB,wk]
       refine ⟨rfl,rfl,?_,by simpa using hI2⟩
       ((try simp only [hra,hB2]);refine Weak.sub (by simp [lk,keptA,AV.keys,hra,hB2]) ?_;simp only [hra,hB2,Wkl,and_true];(try simp [lk,keptO,keptA,AV.keys,hra,hB2]))
 · intro hI
   refine GO_AR mixed 1000 ?_
   have h7:cR3 q i x=true:=by rw [cR3,hI];rfl
   have h6:(decide (x.br=0)||(q.take i).any fun y=>decide (y.nu=x.br))=cR4 q i x:=rfl
   rw [h6]
   cases i with
   | zero =>
     simp -implicitDefEqProofs [hra]
     refine Z2N mixed 1000 ?_
     simp -implicitDefEqProofs [h7,cR5,Z7R]
   | succ k =>
     have hkl:k<q.length:=by omega
     have w1:IntKind.i64.wrap ((k:Int)+1-1)=(k:Int):=by rw [wrapI (by omega) (by omega)];omega
     have w2:IntKind.i64.wrap (k:Int)=(k:Int):=wrapI (by omega) (by omega)
     have i0:¬(k:Int)+1=0:=by omega
     have ek:=Zef hkl
     have hnk:ra q[k]=[.int .i64 q[k].nu,.int .i64 q[k].dy,.int .i64 q[k].fd,.int .i64 q[k].fl,.int .i64 q[k].td,.int .i64 q[k].tl,.bool q[k].bo,.int .i64 q[k].br]:=rfl
     have e8:cR5 q (k+1) x=(decide (q[k].dy<x.dy)||(decide (q[k].dy=x.dy)&&decide (q[k].nu<x.nu))):=by rw [cR5,ek]
     rw [e8]
     cases h6:cR4 q (k+1) x
     · simp -implicitDefEqProofs [hra]
       refine Z2N mixed 1000 ?_
       simp -implicitDefEqProofs [h7,i0,w1,w2,hkl,hnk,hra,h6,Z7R]
     by_cases q1:q[k].dy<x.dy
     · simp -implicitDefEqProofs [hra]
       refine Z2N mixed 1000 ?_
       simp -implicitDefEqProofs [h7,i0,w1,w2,hkl,hnk,hra,q1,h6,Z7R]
     by_cases q2:q[k].dy=x.dy
     · have q1':¬x.dy<x.dy:=by omega
       simp -implicitDefEqProofs [hra]
       refine Z2N mixed 1000 ?_
       simp -implicitDefEqProofs [h7,i0,w1,w2,hkl,hnk,hra,q2,h6,Z7R]
     · simp -implicitDefEqProofs [hra]
       refine Z2N mixed 1000 ?_
       simp -implicitDefEqProofs [h7,i0,w1,w2,hkl,hnk,hra,q1,q2,h6,Z7R]
end
section
variable {G:Nat→Option (List AV)}
theorem ZiC (r:List Iss) (l:List Nte) (q:List Rul) (hq:Sml q) (hr:Sml r):PC Tryz.prog G 51 [swa r l q] (.bool (Zeg r q)):=by
 (refine Z7V rfl fun R hG hrd=>GO_AR mixed 1000 ?_;subst hG)
 by_cases h0:16<q.length
 · have h0':(16:Int)<q.length:=by omega
   have e:Zeg r q=false:=by
    have:¬q.length≤16:=by omega
    simp [Zeg,this]
   simp -implicitDefEqProofs [Z7T,Z7U,swa,h0',e]
 · have h0':¬(16:Int)<q.length:=by omega
   have h16:q.length≤16:=by omega
   simp -implicitDefEqProofs [Z7T,Z7U,swa,h0']
   refine Zb2 (fun i=>⟨[(3,.int .i64 i),(1,.ptr 1 0)],[(1,.box [.vsl (r.map isa),.vsl (l.map na),.vsl (q.map ra)])]⟩) (fun i=>∀ j,j<i→ruleB r q j=true) q.length (by (first|exact Weak.tm (by simp [lk])|exact Weak.sub (by simp [lk,keptA,AV.keys]) (by simp [lk,keptO,keptA,AV.keys]))) (fun j hj=>by omega) ?_ ?_
   · intro i hi he
     have w1:IntKind.i64.wrap ((i:Int)+1)=(i:Int)+1:=wrapI (by omega) (by omega)
     have hc:=ZiB (G:=R.G) r l q i hi hq hr
     unfold swa at hc
     refine GO_AR mixed 1000 ?_
     simp -implicitDefEqProofs [hi]
     (first|refine CallK.of (hc) (by simp) ?_|refine CallD.of (hc) (by simp) ?_)
     cases h:ruleB r q i
     · have e:Zeg r q=false:=by
        cases h2:Zeg r q
        · rfl
        · simp only [Zeg,Bool.and_eq_true]at h2
          have:=Zbn.1 h2.2 i hi
          rw [h]at this;cases this
       simp -implicitDefEqProofs []
       refine Z2N mixed 1000 ?_
       simp -implicitDefEqProofs [e]
     · simp -implicitDefEqProofs [w1]
       refine ⟨by (first|exact Weak.tm (by simp [lk])|exact Weak.sub (by simp [lk,keptA,AV.keys]) (by simp [lk,keptO,keptA,AV.keys])),fun j hj=>?_⟩
       rcases Nat.lt_or_ge j i with h4|h4
       · exact he j h4
       · obtain rfl:j=i:=by omega
         exact h
   · intro he
     have e:Zeg r q=true:=by
      simp only [Zeg,Bool.and_eq_true,decide_eq_true_eq]
      exact ⟨h16,Zbn.2 he⟩
     refine GO_AR mixed 1000 ?_
     simp -implicitDefEqProofs []
     refine Z2N mixed 1000 ?_
     simp -implicitDefEqProofs [e]
theorem ZiD (r:List Iss) (l:List Nte) (q:List Rul) (hw:WfN l) (hr:Wf r) (hq:Sml q):PC Tryz.prog G 14 [swa r l q] (.int .i64 (chS r l q)):=by
 have hc:=Zfe (G:=G) r l hw hr
 have hS:=ZiC (G:=G) r l q hq hr.1.1
 unfold swa at hS
 (refine Z7Y rfl fun R hG hrd=>GO_AR mixed 1000 ?_;subst hG)
 unfold chS
 by_cases h0:chN r l=0
 · rw [h0]at hc
   simp -implicitDefEqProofs [Z7W,Z7X,swa]
   (first|refine CallK.of (hc) (by simp) ?_|refine CallD.of (hc) (by simp) ?_)
   simp -implicitDefEqProofs []
   (first|refine CallK.of (hS) (by simp) ?_|refine CallD.of (hS) (by simp) ?_)
   cases h1:Zeg r q
   · simp -implicitDefEqProofs [h0]
   · simp -implicitDefEqProofs [h0]
 · simp -implicitDefEqProofs [Z7W,Z7X,swa]
   (first|refine CallK.of (hc) (by simp) ?_|refine CallD.of (hc) (by simp) ?_)
   simp -implicitDefEqProofs [h0]
set_option maxHeartbeats 2000000 in
theorem ZiE (r:List Iss) (l:List Nte) (q:List Rul) (day:Int) (hl:q.length≤16) :
  PC Tryz.prog G 44 [swa r l q,.int .i64 day] (.vsl ((rbK (sB day q) q.length 0).map ba)):=by
 refine Z81 rfl fun R hG hrd=>?_
 subst hG
 refine GO_AR mixed 1000 ?_
 have b1:(q.length:Int)≤16777216:=by omega
 have rep:=Zih (f:=sB day q) (n:=q.length)
 have rln:=fun k=>Zid (f:=sB day q) (n:=q.length) (k:=k)
 have w0:IntKind.i64.wrap ((q.length:Int)-1)=(q.length:Int)-1:=wrapI (by omega) (by omega)
 simp -implicitDefEqProofs [Z7Z,Z80,swa,b1,← rep,w0]
 refine Z1Q (fun k:Nat=>⟨[(6,.int .i64 ((k:Int)-1)),(5,.osl 12 q.length),(2,.ptr 2 0),(1,.int .i64 day)],[(12,.row 1 ((rbK (sB day q) q.length k).map ba)),(2,.box [.vsl (r.map isa),.vsl (l.map na),.vsl (q.map ra)])]⟩) (fun k=>k≤q.length) (fun k=>k) q.length ?_ (Nat.le_refl _) ?_
 · (refine Weak.sub (by simp [lk,keptA,AV.keys]) ?_;simp only [Wkl,Zig,and_true];(try simp [lk,keptO,keptA,AV.keys]))
 · intro k hk
   cases k with
   | zero =>
     have rl0:=rln 0
     refine GO_AR mixed 1000 ?_
     simp -implicitDefEqProofs []
     refine Z2N mixed 1000 ?_
     simp -implicitDefEqProofs [ba,rl0]
   | succ k =>
     have hi:k<q.length:=hk
     have hx:=Zef hi
     have hnx:ra (rAt q k)=[.int .i64 (rAt q k).nu,.int .i64 (rAt q k).dy,.int .i64 (rAt q k).fd,.int .i64 (rAt q k).fl,.int .i64 (rAt q k).td,.int .i64 (rAt q k).tl,.bool (rAt q k).bo,.int .i64 (rAt q k).br]:=rfl
     have fe:=ZdX (p:=fun x:Rul=>decide (x.dy≤day)) (h:=fun x y:Rul=>decide (y.br=x.nu)) hi
     rw [← hx]at fe
     have gb:=ZdY (p:=fun x:Rul=>decide (x.dy≤day)) (h:=fun x y:Rul=>decide (y.br=x.nu)) (l:=q) (x:=rAt q k) (i:=k)
     have gs:=fun j=>ZdZ (p:=fun x:Rul=>decide (x.dy≤day)) (h:=fun x y:Rul=>decide (y.br=x.nu)) (l:=q) (x:=rAt q k) (i:=k) (k:=j)
     have fbs:sB day q k=gwB (fun x:Rul=>decide (x.dy≤day)) (fun x y=>decide (y.br=x.nu)) q (rAt q k) k q.length:=fe
     have rat:=fun j (h:k+1≤j) (h2:j<q.length)=>Zie (f:=sB day q) h h2
     have rst:=Zif (f:=sB day q) (n:=q.length) (k:=k)
     have rln1:=rln (k+1)
     rw [fbs]at rst
     have w1:IntKind.i64.wrap ((k:Int)+1)=((k+1:Nat):Int):=wrapI (by omega) (by omega)
     generalize hxx:rAt q k=x at *
     have hlx:q[k]=x:=hx.symm
     have gb:gwB (fun x:Rul=>decide (x.dy≤day)) (fun x y=>decide (y.br=x.nu)) q x k (k+1)=decide (x.dy≤day):=gb
     generalize hQQ:rbK (sB day q) q.length (k+1)=Q at *
     refine GO_AR mixed 1000 ?_
     simp -implicitDefEqProofs [hi,hlx,hnx,w1,← gb]
     refine Z1Q (fun p:Nat=>⟨[(8,.int .i64 (p:Int)),(6,.int .i64 k),(7,.bool (gwB (fun x:Rul=>decide (x.dy≤day)) (fun x y=>decide (y.br=x.nu)) q x k p)),(5,.osl 12 q.length),(2,.ptr 2 0),(1,.int .i64 day)],[(12,.row 1 (Q.map ba)),(2,.box [.vsl (r.map isa),.vsl (l.map na),.vsl (q.map ra)])]⟩) (fun p=>k+1≤p∧p≤q.length) (fun p=>q.length-p) (k+1) ?_ ⟨Nat.le_refl _,hi⟩ ?_
     · (refine Weak.sub (by simp [lk,keptA,AV.keys]) ?_;simp only [Wkl,Zig,and_true];(try simp [lk,keptO,keptA,AV.keys]))
     · rintro p ⟨hp1,hp2⟩
       refine GO_AR mixed 1000 ?_
       rcases Nat.lt_or_ge p q.length with h5|h5
       · have hrat:=rat p hp1 h5
         obtain ⟨q1,g1⟩:=List.getElem?_eq_some_iff.1 hrat
         have hg:=gs p (by omega) h5
         have hy:=Zef h5
         have hny:ra (rAt q p)=[.int .i64 (rAt q p).nu,.int .i64 (rAt q p).dy,.int .i64 (rAt q p).fd,.int .i64 (rAt q p).fl,.int .i64 (rAt q p).td,.int .i64 (rAt q p).tl,.bool (rAt q p).bo,.int .i64 (rAt q p).br]:=rfl
         have w2:IntKind.i64.wrap ((p:Int)+1)=(p:Int)+1:=wrapI (by omega) (by omega)
         rw [← hy]at hg
         replace hg:_=(_ && !(sB day q p&&_)):=hg
         generalize hyy:rAt q p=y at *
         have hly:q[p]=y:=hy.symm
         generalize sB day q p=fb at *
         cases hb:gwB (fun x:Rul=>decide (x.dy≤day)) (fun x y=>decide (y.br=x.nu)) q x k p
         · rw [hb,Bool.false_and]at hg
           simp -implicitDefEqProofs [hb,h5,hnx,w2]
           refine ⟨rfl,p+1,?_,⟨by omega,h5⟩,(by show q.length-(p+1)<q.length-p;omega)⟩
           simp only [hg]
           ((try simp only [hnx]);refine Weak.sub (by simp [lk,keptA,AV.keys,hnx]) ?_;simp only [hnx,Wkl,Zig,and_true];(try simp [lk,keptO,keptA,AV.keys,hnx]))
         · rw [hb,Bool.true_and]at hg
           cases fb
           · rw [Bool.false_and,Bool.not_false]at hg
             simp -implicitDefEqProofs [hb,h5,hnx,w2,rln1,g1,ba]
             refine ⟨rfl,p+1,?_,⟨by omega,h5⟩,(by show q.length-(p+1)<q.length-p;omega)⟩
             simp only [hg]
             ((try simp only [hnx]);refine Weak.sub (by simp [lk,keptA,AV.keys,hnx]) ?_;simp only [hnx,Wkl,Zig,and_true];(try simp [lk,keptO,keptA,AV.keys,hnx]))
           · rw [Bool.true_and]at hg
             simp -implicitDefEqProofs [hb,h5,hi,hlx,hnx,w2,rln1,g1,ba,hly,hny]
             refine ⟨rfl,p+1,?_,⟨by omega,h5⟩,(by show q.length-(p+1)<q.length-p;omega)⟩
             simp only [hg]
             ((try simp only [hnx]);refine Weak.sub (by simp [lk,keptA,AV.keys,hnx]) ?_;simp only [hnx,Wkl,Zig,and_true];(try simp [lk,keptO,keptA,AV.keys,hnx]))
       · obtain rfl:p=q.length:=by omega
         simp -implicitDefEqProofs []
         refine Z2N mixed 1000 ?_
         have e1:∀ b:Bool,[AV.bool b]=ba b:=fun _=>rfl
         have wk:IntKind.i64.wrap ((k:Int)-1)=(k:Int)-1:=wrapI (by omega) (by omega)
         simp -implicitDefEqProofs [hi,rln1,ba,wk]
         refine ⟨k,?_,by omega,Nat.lt_succ_self _⟩
         simp only [e1]
         rw [← List.map_set,rst]
         ((try simp only [hnx]);refine Weak.sub (by simp [lk,keptA,AV.keys,hnx]) ?_;simp only [hnx,Wkl,Zig,and_true];(try simp [lk,keptO,keptA,AV.keys,hnx]))
def ru5 (r:List Iss) (l:List Nte) (q:List Rul) (day:Int) (i:Nat):St :=
 if ruN day q i=[] then ⟨[(9,.int .i64 i),(8,.vsl ((rbK (sB day q) q.length 0).map ba)),(7,.nils),(2,.ptr 2 0)],[(2,.box [.vsl (r.map isa),.vsl (l.map na),.vsl (q.map ra)])]⟩
 else ⟨[(9,.int .i64 i),(8,.vsl ((rbK (sB day q) q.length 0).map ba)),(7,.osl 39 (ruN day q i).length),(2,.ptr 2 0)],[(39,.row 1 ((ruN day q i).map ia)),(2,.box [.vsl (r.map isa),.vsl (l.map na),.vsl (q.map ra)])]⟩
theorem ZiF {r:List Iss} {l:List Nte} {q:List Rul} (h:chS r l q=0):chN r l=0∧Zeg r q=true:=by
 unfold chS at h
 split at h
 · rename_i h1
   cases q2:Zeg r q
   · rw [q2]at h;cases h
   · exact ⟨h1,rfl⟩
 · rename_i e;exact absurd h e
theorem ZiG {r:List Iss} {q:List Rul} (h:Zeg r q=true):q.length≤16:=by simp only [Zeg,Bool.and_eq_true,decide_eq_true_eq]at h;exact h.1
def ruA (r:List Iss) (l:List Nte) (q:List Rul) (day:Int):AV:=.tup [orNil ((ruE r l q day).1.map ia),.int .i64 (ruE r l q day).2]
set_option maxHeartbeats 1000000 in
theorem ZiH (r:List Iss) (l:List Nte) (q:List Rul) (day:Int) (hw:WfN l) (hr:Wf r) (hq:Sml q):PC Tryz.prog G 10 [swa r l q,.int .i64 day] (ruA r l q day):=by
 have hc:=ZiD (G:=G) r l q hw hr hq
 have hd:=Zio (G:=G) day 0 14610
 unfold swa at hc
 refine Z84 rfl fun R hG hrd=>?_
 subst hG
 refine GO_AR mixed 1000 ?_
 unfold ruA ruE
 by_cases h0:chS r l q=0
 · have h16:=ZiG (ZiF h0).2
   have hs:=ZiE (G:=R.G) r l q day h16
   unfold swa at hs
   rw [h0]at hc
   rw [if_pos h0]
   cases h1:inR day 0 14610
   · rw [h1]at hd
     simp -implicitDefEqProofs [Z82,Z83,swa]
     (first|refine CallK.of (hc) (by simp) ?_|refine CallD.of (hc) (by simp) ?_)
     simp -implicitDefEqProofs []
     (first|refine CallK.of (hd) (by simp) ?_|refine CallD.of (hd) (by simp) ?_)
     simp -implicitDefEqProofs [orNil]
   rw [h1]at hd
   rw [if_pos rfl]
   simp -implicitDefEqProofs [Z82,Z83,swa]
   (first|refine CallK.of (hc) (by simp) ?_|refine CallD.of (hc) (by simp) ?_)
   simp -implicitDefEqProofs []
   (first|refine CallK.of (hd) (by simp) ?_|refine CallD.of (hd) (by simp) ?_)
   simp -implicitDefEqProofs []
   (first|refine CallK.of (hs) (by simp) ?_|refine CallD.of (hs) (by simp) ?_)
   simp -implicitDefEqProofs []
   have rl0:=Zid (f:=sB day q) (n:=q.length) (k:=0)
   refine Zb2 (ru5 r l q day) (fun _=>True) q.length ?_ trivial ?_ ?_
   · have e0:ruN day q 0=[]:=by simp [ruN]
     simp only [ru5,e0,if_true]
     ((try simp only [ba]);refine Weak.sub (by simp [lk,keptA,AV.keys,ba]) ?_;simp only [ba,Wkl,and_true];(try simp [lk,keptO,keptA,AV.keys,ba]))
   · intro i hi _
     have hrat:=Zie (f:=sB day q) (Nat.zero_le i) hi
     obtain ⟨q1,g1⟩:=List.getElem?_eq_some_iff.1 hrat
     have hx:=Zef hi
     have hnx:ra (rAt q i)=[.int .i64 (rAt q i).nu,.int .i64 (rAt q i).dy,.int .i64 (rAt q i).fd,.int .i64 (rAt q i).fl,.int .i64 (rAt q i).td,.int .i64 (rAt q i).tl,.bool (rAt q i).bo,.int .i64 (rAt q i).br]:=rfl
     have sc:=Zeh (day:=day) hi
     have bb:((ruN day q i).length+1)*8≤70368744177664:=by have:=Zei day q i;omega
     have wi:IntKind.i64.wrap ((i:Int)+1)=(i:Int)+1:=wrapI (by omega) (by omega)
     rw [← hx]at sc
     have hlx:q[i]=rAt q i:=hx.symm
     cases hb:sB day q i
     · rw [hb]at sc g1
       have e:ruN day q (i+1)=ruN day q i:=sc
       by_cases c:ruN day q i=[]
       all_goals
        refine GO_AR mixed 1000 ?_
        simp only [ru5,c,if_true,if_false]
        simp -implicitDefEqProofs [hi,rl0,g1,ba,wi]
        simp only [ru5,e,c,if_true,if_false]
        (refine Weak.sub (by simp [lk,keptA,AV.keys]) ?_;simp only [Wkl,Zig,Zhe,and_true];(try simp [lk,keptO,keptA,AV.keys]))
     · rw [hb]at sc g1
       have e:ruN day q (i+1)=ruN day q i++[(rAt q i).nu]:=sc
       have hne:ruN day q (i+1)≠[]:=by rw [e];simp
       by_cases c:ruN day q i=[]
       all_goals
        refine GO_AR mixed 1000 ?_
        simp only [ru5,c,if_true,if_false]
        simp -implicitDefEqProofs [hi,rl0,g1,ba,wi,hlx,hnx,bb]
        simp only [ru5,hne,if_false]
        have e1:(ruN day q (i+1)).map ia=(ruN day q i).map ia++[[AV.int .i64 (rAt q i).nu]]:=by rw [e,List.map_append];rfl
        have e2:(ruN day q (i+1)).length=(ruN day q i).length+1:=by rw [e];simp
        first
         |(rw [c,List.nil_append]at e;rw [e];((try simp only [ia]);refine Weak.sub (by simp [lk,keptA,AV.keys,ia]) ?_;simp only [ia,Wkl,and_true];(try simp [lk,keptO,keptA,AV.keys,ia]));done)
         |(rw [← e1,e2];(refine Weak.sub (by simp [lk,keptA,AV.keys]) ?_;simp only [Wkl,Zhe,and_true];(try simp [lk,keptO,keptA,AV.keys]));done)
   · intro _
     refine GO_AR mixed 1000 ?_
     by_cases c:ruN day q q.length=[]
     · simp -implicitDefEqProofs [ru5,c,rl0]
       refine Z2N mixed 1000 ?_
       simp -implicitDefEqProofs [orNil]
     · simp -implicitDefEqProofs [ru5,c,rl0]
       refine Z2N mixed 1000 ?_
       simp -implicitDefEqProofs [orNil,c,ia]
 · rw [if_neg h0]
   simp -implicitDefEqProofs [Z82,Z83,swa]
   (first|refine CallK.of (hc) (by simp) ?_|refine CallD.of (hc) (by simp) ?_)
   simp -implicitDefEqProofs [h0,orNil]
end
theorem ZiI {day:Int} {l:List Nte} {i:Nat} (h:i<l.length):dyN day (l.take (i+1))=if l[i].dy≤day then dyN day (l.take i)++[l[i]] else dyN day (l.take i):=by
 unfold dyN
 rw [List.take_succ_eq_append_getElem h,List.filter_append]
 split
 · rename_i e;rw [List.filter_cons_of_pos (by simpa using e)];rfl
 · rename_i e;rw [List.filter_cons_of_neg (by simpa using e)];simp
theorem ZiJ (day:Int) (l:List Nte):(dyN day l).length≤l.length:=List.length_filter_le _ _
theorem ZiK {D:List Nte} {s:List Int} {i:Nat} (h:i<s.length):dyT D (s.take (i+1))=if (D.any fun x=>decide (x.nu=s[i]))=true then dyT D (s.take i)++[s[i]] else dyT D (s.take i):=by
 unfold dyT
 rw [List.take_succ_eq_append_getElem h,List.filter_append]
 split
 · rename_i e;simp only [List.filter_cons,e,List.filter_nil,if_true]
 · rename_i e;simp only [List.filter_cons,e,List.filter_nil,if_false,List.append_nil,Bool.false_eq_true]
theorem ZiL (D:List Nte) (s:List Int):(dyT D s).length≤s.length:=List.length_filter_le _ _
theorem ZiM (o:List (Nat×AObj)) (l:List Nte):keptO o (.row 10 (l.map na))=true:=by
 simp only [keptO,List.all_eq_true,List.mem_map]
 rintro x ⟨y,-,rfl⟩ v hv
 simp only [na,List.mem_cons,List.not_mem_nil,or_false]at hv
 rcases hv with rfl|rfl|rfl|rfl|rfl|rfl|rfl|rfl|rfl|rfl <;> simp [keptA,AV.keys]
def upB (r:List Iss) (D:List Nte):List (Nat×AObj):=if D=[] then [(8,.box [.vsl (r.map isa),.nils])] else [(8,.box [.vsl (r.map isa),.osl 40 D.length]),(40,.row 10 (D.map na))]
def uqS (r:List Iss) (l:List Nte) (s:List Int) (day:Int) (i:Nat):St :=
 ⟨[(10,.int .i64 i),(1,.vsl (s.map ia)),(2,.int .i64 day),(3,.ptr 3 0),(6,.ptr 6 0),(8,.ptr 8 0),(9,.osl 16 0)],upB r (dyN day (l.take i))++[(3,.box [.vsl (r.map isa),.vsl (l.map na)]),(6,.box [.nils,.nils]),(16,.row 1 [])]⟩
def upT (D:List Nte) (s:List Int) (i j:Nat):List Int:=dyT D (s.take i)++(if ((D.take j).any fun x=>decide (x.nu=s.getD i 0))=true then [s.getD i 0] else [])
theorem ZiN {D:List Nte} {s:List Int} {i:Nat}:upT D s i 0=dyT D (s.take i):=by simp [upT]
theorem ZiO {D:List Nte} {s:List Int} {i:Nat} (h:i<s.length):upT D s i D.length=dyT D (s.take (i+1)):=by
 have e:s.getD i 0=s[i]:=by simp [List.getD_eq_getElem?_getD,h]
 rw [ZiK h,upT,List.take_length,e]
 split <;> simp
theorem ZiP (D:List Nte) (s:List Int) (i j:Nat):(upT D s i j).length≤s.length+1:=by
 have h1:=ZiL D (s.take i)
 have h2:(s.take i).length≤s.length:=by simp;omega
 unfold upT
 split <;> simp <;> omega
theorem ZiQ {D:List Nte} {s:List Int} {i j:Nat} (hi:i<s.length) (hj:j<D.length) (hn:(D.map (·.nu)).Nodup):upT D s i (j+1)=if D[j].nu=s[i] then upT D s i j++[s[i]] else upT D s i j:=by
 have e:s.getD i 0=s[i]:=by simp [List.getD_eq_getElem?_getD,hi]
 have a:=ZeW hj fun x=>decide (x.nu=s[i])
 unfold upT
 rw [e,a]
 by_cases h:D[j].nu=s[i]
 · rw [if_pos h]
   have h0:((D.take j).any fun x=>decide (x.nu=s[i]))=false:=by
    cases q:(D.take j).any fun x=>decide (x.nu=s[i])
    · rfl
    · obtain ⟨y,hy,hy2⟩:=List.any_eq_true.1 q
      obtain ⟨k,hk,rfl⟩:=List.mem_take_iff_getElem.1 hy
      have h2:=List.pairwise_iff_getElem.1 (List.nodup_iff_pairwise_ne.1 hn) k j (by simp;omega) (by simpa using hj) (by omega)
      simp only [List.getElem_map]at h2
      exact absurd ((of_decide_eq_true hy2).trans h.symm) h2
   rw [h0];simp [h]
 · rw [if_neg h,decide_eq_false h,Bool.or_false]
def upO (r:List Iss) (l:List Nte) (D:List Nte) (T:List Int):List (Nat×AObj):=upB r D++[(3,.box [.vsl (r.map isa),.vsl (l.map na)]),(6,.box [.nils,.nils]),(16,.row 1 (T.map ia))]
section
variable {G:Nat→Option (List AV)}
set_option maxHeartbeats 1000000 in
theorem ZiR (r:List Iss) (l:List Nte) (s:List Int) (day:Int) (hl:l.length≤16) (hs:Sml s) (hn:(l.map (·.nu)).Nodup) :
  PC Tryz.prog G 83 [.agg [.vsl (r.map isa),.vsl (l.map na)],.vsl (s.map ia),.int .i64 day] (.tup [.agg [.vsl (r.map isa),orNil ((dyN day l).map na)],.vsl ((dyT (dyN day l) s).map ia)]):=by
 unfold Sml at hs
 have hDn:((dyN day l).map (·.nu)).Nodup:=List.Sublist.nodup ((List.filter_sublist).map _) hn
 have hDl:=ZiJ day l
 refine Z87 rfl fun R hG hrd=>?_
 subst hG
 refine GO_AR mixed 1000 ?_
 simp -implicitDefEqProofs [Z85,Z86]
 refine Zb2 (uqS r l s day) (fun _=>True) l.length ?_ trivial ?_ ?_
 · have e0:dyN day (l.take 0)=[]:=by simp [dyN]
   simp only [uqS,upB,e0,if_true]
   (refine Weak.sub (by simp [lk,keptA,AV.keys]) ?_;simp only [Wkl,and_true];(try simp [lk,keptO,keptA,AV.keys]))
 · intro i hi _
   have sc:=ZiI (day:=day) hi
   have hx:=ZdR hi
   have hlx:l[i]=nAt l i:=hx.symm
   have hnx:na (nAt l i)=[.int .i64 (nAt l i).nu,.int .i64 (nAt l i).dy,.int .u8 (nAt l i).sg,.int .i64 (nAt l i).dr,.int .i64 (nAt l i).lt,.int .i64 (nAt l i).fr,.int .i64 (nAt l i).tu,.int .i64 (nAt l i).ca,.bool (nAt l i).up,.int .u8 (nAt l i).wy]:=rfl
   have wi:IntKind.i64.wrap ((i:Int)+1)=(i:Int)+1:=wrapI (by omega) (by omega)
   have bl:=ZiJ day (l.take i)
   have bl2:(l.take i).length≤i:=by simp;omega
   have bb:((dyN day (l.take i)).length+1)*72≤70368744177664:=by omega
   rw [hlx]at sc
   by_cases hd:(nAt l i).dy≤day
   · rw [if_pos hd]at sc
     have hne:dyN day (l.take (i+1))≠[]:=by rw [sc];simp
     by_cases c:dyN day (l.take i)=[]
     all_goals
      refine GO_AR mixed 1000 ?_
      simp only [uqS,upB,c,if_true,if_false,List.cons_append,List.nil_append]
      simp -implicitDefEqProofs [hi,hlx,hnx,hd,wi,bb]
      refine ⟨rfl,?_⟩
      simp only [uqS,upB,hne,if_false,List.cons_append,List.nil_append]
      have e1:(dyN day (l.take (i+1))).map na=(dyN day (l.take i)).map na++[na (nAt l i)]:=by rw [sc,List.map_append];rfl
      have e2:(dyN day (l.take (i+1))).length=(dyN day (l.take i)).length+1:=by rw [sc];simp
      first
       |(rw [c,List.nil_append]at sc;rw [sc];((try simp only [hnx]);refine Weak.sub (by simp [lk,keptA,AV.keys,hnx]) ?_;simp only [hnx,Wkl,and_true];(try simp [lk,keptO,keptA,AV.keys,hnx]));done)
       |(rw [hnx]at e1;rw [← e1,e2];(refine Weak.sub (by simp [lk,keptA,AV.keys]) ?_;simp only [Wkl,ZiM,and_true];(try simp [lk,keptO,keptA,AV.keys]));done)
   · rw [if_neg hd]at sc
     by_cases c:dyN day (l.take i)=[]
     all_goals
      refine GO_AR mixed 1000 ?_
      simp only [uqS,upB,c,if_true,if_false,List.cons_append,List.nil_append]
      simp -implicitDefEqProofs [hi,hlx,hnx,hd,wi]
      simp only [uqS,upB,sc,c,if_true,if_false,List.cons_append,List.nil_append]
      (refine Weak.sub (by simp [lk,keptA,AV.keys]) ?_;simp only [Wkl,ZiM,and_true];(try simp [lk,keptO,keptA,AV.keys]))
 · intro _
   refine GO_AR mixed 1000 ?_
   simp only [uqS,List.take_length]
   generalize hDD:dyN day l=D at *
   have hO:∀ T i,(upO r l D T).length=(upO r l D T).length+i-i:=fun T i=>by omega
   by_cases c:D=[]
   · have eT:dyT D s=[]:=by rw [c];simp [dyT]
     rw [eT]
     simp only [upB,c,if_true,List.cons_append,List.nil_append]
     simp -implicitDefEqProofs []
     refine Z2N mixed 1000 ?_
     simp -implicitDefEqProofs []
     refine Zb2 (fun i=>⟨[(11,.int .i64 i),(1,.vsl (s.map ia)),(8,.ptr 8 0),(9,.osl 16 0),(6,.ptr 6 0)],[(8,.box [.vsl (r.map isa),.nils]),(6,.box [.nils,.nils]),(16,.row 1 [])]⟩) (fun _=>True) s.length (by (first|exact Weak.tm (by simp [lk])|exact Weak.sub (by simp [lk,keptA,AV.keys]) (by simp [lk,keptO,keptA,AV.keys]))) trivial ?_ ?_
     · intro i hi _
       have wi:IntKind.i64.wrap ((i:Int)+1)=(i:Int)+1:=wrapI (by omega) (by omega)
       refine GO_AR mixed 1000 ?_
       simp -implicitDefEqProofs [hi]
       refine Zb2 (fun j=>⟨[(12,.int .i64 j),(11,.int .i64 i),(1,.vsl (s.map ia)),(8,.ptr 8 0),(9,.osl 16 0),(6,.ptr 6 0)],[(8,.box [.vsl (r.map isa),.nils]),(6,.box [.nils,.nils]),(16,.row 1 [])]⟩) (fun _=>True) 0 (by (first|exact Weak.tm (by simp [lk])|exact Weak.sub (by simp [lk,keptA,AV.keys]) (by simp [lk,keptO,keptA,AV.keys]))) trivial (fun i hi=>by omega) ?_
       intro _
       refine GO_AR mixed 1000 ?_
       simp -implicitDefEqProofs []
       refine Z2N mixed 1000 ?_
       simp -implicitDefEqProofs [wi]
       (first|exact Weak.tm (by simp [lk])|exact Weak.sub (by simp [lk,keptA,AV.keys]) (by simp [lk,keptO,keptA,AV.keys]))
     · intro _
       refine GO_AR mixed 1000 ?_
       simp -implicitDefEqProofs []
       refine Z2N mixed 1000 ?_
       simp -implicitDefEqProofs [orNil]
   · simp only [upB,c,if_false,List.cons_append,List.nil_append]
     simp -implicitDefEqProofs []
     refine Z2N mixed 1000 ?_
     simp -implicitDefEqProofs []
     refine Zb2 (fun i=>⟨[(11,.int .i64 i),(1,.vsl (s.map ia)),(8,.ptr 8 0),(9,.osl 16 (dyT D (s.take i)).length),(6,.ptr 6 0)],[(8,.box [.vsl (r.map isa),.osl 40 D.length]),(40,.row 10 (D.map na)),(6,.box [.nils,.nils]),(16,.row 1 ((dyT D (s.take i)).map ia))]⟩) (fun _=>True) s.length ?_ trivial ?_ ?_
     · have e0:dyT D (s.take 0)=[]:=by simp [dyT]
       simp only [e0]
       ((try simp only [List.map_nil,List.length_nil]);refine Weak.sub (by simp [lk,keptA,AV.keys,List.map_nil,List.length_nil]) ?_;simp only [List.map_nil,List.length_nil,Wkl,ZiM,and_true];(try simp [lk,keptO,keptA,AV.keys,List.map_nil,List.length_nil]))
     · intro i hi _
       have wi:IntKind.i64.wrap ((i:Int)+1)=(i:Int)+1:=wrapI (by omega) (by omega)
       refine GO_AR mixed 1000 ?_
       simp -implicitDefEqProofs [hi]
       refine Zb2 (fun j=>⟨[(12,.int .i64 j),(11,.int .i64 i),(1,.vsl (s.map ia)),(8,.ptr 8 0),(9,.osl 16 (upT D s i j).length),(6,.ptr 6 0)],[(8,.box [.vsl (r.map isa),.osl 40 D.length]),(40,.row 10 (D.map na)),(6,.box [.nils,.nils]),(16,.row 1 ((upT D s i j).map ia))]⟩) (fun _=>True) D.length ?_ trivial ?_ ?_
       · simp only [ZiN]
         (refine Weak.sub (by simp [lk,keptA,AV.keys]) ?_;simp only [Wkl,ZiM,Zhe,and_true];(try simp [lk,keptO,keptA,AV.keys]))
       · intro j hj _
         have wj:IntKind.i64.wrap ((j:Int)+1)=(j:Int)+1:=wrapI (by omega) (by omega)
         have us:=ZiQ hi hj hDn
         have ul:=ZiP D s i j
         have bb:((upT D s i j).length+1)*8≤70368744177664:=by omega
         have hnx:na D[j]=[.int .i64 D[j].nu,.int .i64 D[j].dy,.int .u8 D[j].sg,.int .i64 D[j].dr,.int .i64 D[j].lt,.int .i64 D[j].fr,.int .i64 D[j].tu,.int .i64 D[j].ca,.bool D[j].up,.int .u8 D[j].wy]:=rfl
         refine GO_AR mixed 1000 ?_
         by_cases h:D[j].nu=s[i]
         · rw [if_pos h]at us
           simp -implicitDefEqProofs [hi,hj,hnx,ia,h,bb,wj]
           refine ⟨rfl,?_⟩
           have e1:(upT D s i (j+1)).map ia=(upT D s i j).map ia++[[AV.int .i64 s[i]]]:=by rw [us,List.map_append];rfl
           have e2:(upT D s i (j+1)).length=(upT D s i j).length+1:=by rw [us];simp
           rw [← e1,e2]
           (refine Weak.sub (by simp [lk,keptA,AV.keys]) ?_;simp only [Wkl,ZiM,Zhe,and_true];(try simp [lk,keptO,keptA,AV.keys]))
         · rw [if_neg h]at us
           simp -implicitDefEqProofs [hi,hj,hnx,ia,h,wj]
           refine ⟨rfl,?_⟩
           rw [us]
           (refine Weak.sub (by simp [lk,keptA,AV.keys]) ?_;simp only [Wkl,ZiM,Zhe,and_true];(try simp [lk,keptO,keptA,AV.keys]))
       · intro _
         refine GO_AR mixed 1000 ?_
         rw [ZiO hi]
         simp -implicitDefEqProofs []
         refine Z2N mixed 1000 ?_
         simp -implicitDefEqProofs [wi]
         (refine Weak.sub (by simp [lk,keptA,AV.keys]) ?_;simp only [Wkl,ZiM,Zhe,and_true];(try simp [lk,keptO,keptA,AV.keys]))
     · intro _
       refine GO_AR mixed 1000 ?_
       rw [List.take_length]
       simp -implicitDefEqProofs [c]
       refine Z2N mixed 1000 ?_
       simp -implicitDefEqProofs [orNil,c,ia,na]
end
def Nsub (x y:AV):Prop:=∀ (M:Nat→Prop) (W:World) (u:Value),PV M W x u→PV M W y u
theorem Nsub.rfl' {x:AV}:Nsub x x:=fun _ _ _ h=>h
theorem Nsub.nils:Nsub .nils (.vsl []):=fun _ _ _ h=>by
 cases h
 exact .vsl [] none 0 1 0 0 (fun _ _=>undef) (Nat.le_refl _) (Nat.zero_le _) (fun h=>absurd rfl h) (fun _=>⟨rfl,rfl⟩) (by simp) (by simp) (by simp)
theorem Nsub.orNil (l:List (List AV)):Nsub (orNil l) (.vsl l):=by
 unfold Go.Proofs.YtpkfmfkccbnnjaaGreatDoor.orNil
 split
 · rename_i e;rw [e];exact .nils
 · exact .rfl'
def NsubL:List AV→List AV→Prop
 |[],[]=>True
 |x::xs,y::ys=>Nsub x y∧NsubL xs ys
 |_,_=>False
theorem NsubL.len:∀ {xs ys:List AV},NsubL xs ys→xs.length=ys.length
 |[],[],_=>rfl
 |_::_,_::_,h=>by simp only [List.length_cons,NsubL.len h.2]
 |[],_::_,h=>h.elim
 |_::_,[],h=>h.elim
theorem NsubL.at:∀ {xs ys:List AV},NsubL xs ys→∀ (i:Nat) (y:AV),ys[i]? = some y→∃ x,xs[i]? = some x∧Nsub x y
 |[],[],_,i,y,h=>by simp at h
 | x::xs,y::ys,h,0,z,e=>by
   simp only [List.getElem?_cons_zero,Option.some.injEq]at e
   subst e
   exact ⟨x,rfl,h.1⟩
 | x::xs,y::ys,h,i+1,z,e=>by
   simp only [List.getElem?_cons_succ]at e
   obtain ⟨w,h1,h2⟩:=NsubL.at h.2 i z e
   exact ⟨w,by simpa using h1,h2⟩
 |[],_::_,h,_,_,_=>h.elim
 |_::_,[],h,_,_,_=>h.elim
theorem Nsub.agg {xs ys:List AV} (h:NsubL xs ys):Nsub (.agg xs) (.agg ys):=fun M W u hu=>by
 cases hu with
 | agg _ us h1 hx =>
   refine .agg ys us (by rw [h1,h.len]) fun i y u hy hu=>?_
   obtain ⟨x,h2,h3⟩:=h.at i y hy
   exact h3 _ _ _ (hx i x u h2 hu)
theorem PC.sub {P:Program} {G:Nat→Option (List AV)} {f:FuncId} {xs ys:List AV} {v:AV} (h:PC P G f ys v) (hs:NsubL xs ys):PC P G f xs v :=
 ⟨h.1,fun M W vs hM hG hz hv=>h.2 M W vs hM hG (hz.trans hs.len) fun i y u hi hu=>by
  obtain ⟨x,h2,h3⟩:=hs.at i y hi
  exact h3 _ _ _ (hv i x u h2 hu)⟩
end Go.Proofs.YtpkfmfkccbnnjaaGreatDoor
