/-
  The abstract machine's code of functions of the program, as a program of ours printed it; that it is theirs is proved beside each.
-/
import Derived.Test.YtpkfmfkccbnnjaaGreatDoorJAmPToAmR
import Derived.Test.YtpkfmfkccbnnjaaGreatDoorProg
import Derived.Test.YtpkfmfkccbnnjaaGreatDoorJEdToNl
import Derived.Test.YtpkfmfkccbnnjaaGreatDoorJRcUToEc
set_option linter.all false
set_option linter.unusedSimpArgs false
set_option linter.unusedVariables false
set_option linter.unusedSectionVars false
namespace Go.Proofs.YtpkfmfkccbnnjaaGreatDoor
open Go.RowKit
open Qq in
def Zek:RCode :=
 .seq (r 0 [b 3 0,b 4 1,n 6 (.bool false)]) (.seq (r 1 [m 7 2,w 8 (.mkf (.func 159) [] [.t 3,.t 4]),c 9 77 [7,8],t 10 9,m 6 10]) .ret)
def Zel:List RRes:=[.t 6]
theorem Zem:PCt Tryz.prog 136 Tryz.f136 Zek Zel:=pcT Tryz.func136 rfl (by kernel_rfl) (by kernel_rfl) (by kernel_rfl)
open Qq in
def Zen:RCode :=
 .seq (r 0 [n 4 (.bool false)]) (.seq (r 1 [m 5 0,l 6 1,o 7 .lss 5 6,m 8 7,g 8 false (m 9 0),g 8 false (l 10 2),g 8 false (o 11 .gtr 9 10),u 12 8 11,m 4 12]) .ret)
def Zeo:List RRes:=[.t 4]
theorem Zep:PCt Tryz.prog 159 Tryz.f159 Zen Zeo:=pcT Tryz.func159 rfl (by kernel_rfl) (by kernel_rfl) (by kernel_rfl)
open Qq in
def Zeq:RCode :=
 .seq (r 0 [b 2 0,n 4 (.bool false)]) (.seq (r 1 [f 5 1 2,l 6 5,m 7 1,i 8 10 6 7,f 9 0 8,l 10 9,w 11 (.bsl false 1 1 [O] [(0,.t 10)]),w 12 (.call 136 [.c I,.c (.int .i64 9999),.t 11]),m 13 12,g 13 true (f 14 1 2),g 13 true (l 15 14),g 13 true (m 16 1),g 13 true (i 17 10 15 16),g 13 true (f 18 1 17),g 13 true (l 19 18),g 13 true (w 20 (.bsl false 1 1 [O] [(0,.t 19)])),g 13 true (w 21 (.call 136 [.c O,.c (.int .i64 14610),.t 20])),v 22 13 21,m 4 22]) .ret)
def Zer:List RRes:=[.t 4]
theorem Zes:PCt Tryz.prog 203 Tryz.f203 Zeq Zer:=pcT Tryz.func203 rfl (by kernel_rfl) (by kernel_rfl) (by kernel_rfl)
open Qq in
def Zet:RCode :=
 .seq (r 0 [b 2 0,n 4 (.bool false)]) (.seq (r 1 [f 5 1 2,l 6 5,m 7 1,i 8 10 6 7,f 9 2 8,l 10 9,k 11 .leq 10 (.int .u8 2),m 12 11,g 12 true (f 13 1 2),g 12 true (l 14 13),g 12 true (m 15 1),g 12 true (i 16 10 14 15),g 12 true (f 17 9 16),g 12 true (l 18 17),g 12 true (k 19 .leq 18 (.int .u8 3)),v 20 12 19,m 4 20]) .ret)
def Zeu:List RRes:=[.t 4]
theorem Zev:PCt Tryz.prog 204 Tryz.f204 Zet Zeu:=pcT Tryz.func204 rfl (by kernel_rfl) (by kernel_rfl) (by kernel_rfl)
open Qq in
def Zew:RCode :=
 .seq (r 0 [b 2 0,n 4 (.bool false)]) (.seq (r 1 [f 6 1 2,l 7 6,m 8 1,i 9 10 7 8,L 10 10 9,w 5 (.alloc [O,O,.int .u8 0,O,O,O,O,O,.bool false,.int .u8 0]),s 10 5 10]) (.seq (r 2 [f 11 5 5,l 12 11,f 13 6 5,l 14 13,w 15 (.bsl false 1 2 [O,O] [(0,.t 12),(1,.t 14)]),w 16 (.call 136 [.c I,.c (.int .i64 999),.t 15]),m 17 16,g 17 true (f 18 5 5),g 17 true (l 19 18),g 17 true (f 20 6 5),g 17 true (l 21 20),g 17 true (o 22 .leq 19 21),v 23 17 22,m 4 23]) .ret))
def Zex:List RRes:=[.t 4]
theorem Zey:PCt Tryz.prog 205 Tryz.f205 Zew Zex:=pcT Tryz.func205 rfl (by kernel_rfl) (by kernel_rfl) (by kernel_rfl)
open Qq in
def Zez:RCode :=
 .seq (r 0 [b 2 0,n 4 (.bool false)]) (.seq (r 1 [f 8 1 2,l 9 8,m 10 1,i 11 10 9 10,L 12 10 11,w 5 (.alloc [O,O,.int .u8 0,O,O,O,O,O,.bool false,.int .u8 0]),s 10 5 12]) (.seq (.seq (r 2 [w 13 (.build [O,O] []),f 14 3 5,l 15 14,f 16 4 5,l 17 16,w 18 (.build [O,O] [(0,1,.t 15),(1,1,.t 17)]),w 19 (.eqs false [.i,.i] (.t 13) (.t 18))]) (.cond (.t 19) (.seq (r 3 [f 20 7 5,l 21 20,k 22 .neq 21 O,m 4 22]) .ret) .skip)) (.seq (r 4 [f 24 0 2,L 25 1 24,f 26 3 5,l 27 26,f 28 4 5,l 29 28,w 30 (.build [O,O] [(0,1,.t 27),(1,1,.t 29)]),c 31 207 [25,30],m 23 31,x 32 0 23,x 33 1 23,w 6 (.alloc [O,O,.int .u8 0,.nils,.nils]),s 5 6 32,m 7 33]) (.seq (r 5 [m 34 7,k 35 .eql 34 O,m 4 35]) .ret))))
def ZeA:List RRes:=[.t 4]
theorem ZeB:PCt Tryz.prog 206 Tryz.f206 Zez ZeA:=pcT Tryz.func206 rfl (by kernel_rfl) (by kernel_rfl) (by kernel_rfl)
open Qq in
def ZeC:RCode :=
 .seq (r 0 [b 2 0,n 4 (.bool false)]) (.seq (r 1 [f 6 1 2,l 7 6,m 8 1,i 9 10 7 8,L 10 10 9,w 5 (.alloc [O,O,.int .u8 0,O,O,O,O,O,.bool false,.int .u8 0]),s 10 5 10]) (.seq (r 2 [f 11 4 5,l 12 11,k 13 .geq 12 (.int .i64 2),m 14 13,g 14 false (f 15 8 5),g 14 false (l 16 15),g 14 false (t 17 16),g 14 false (m 18 17),g 18 true (f 19 9 5),g 18 true (l 20 19),g 18 true (k 21 .eql 20 (.int .u8 0)),g 14 false (v 22 18 21),u 23 14 22,m 4 23]) .ret))
def ZeD:List RRes:=[.t 4]
theorem ZeE:PCt Tryz.prog 208 Tryz.f208 ZeC ZeD:=pcT Tryz.func208 rfl (by kernel_rfl) (by kernel_rfl) (by kernel_rfl)
open Qq in
def ZeF:RCode :=
 .seq (r 0 [b 2 0,n 4 (.bool false)]) (.seq (r 1 [f 6 1 2,l 7 6,m 8 1,i 9 10 7 8,L 10 10 9,w 5 (.alloc [O,O,.int .u8 0,O,O,O,O,O,.bool false,.int .u8 0]),s 10 5 10]) (.seq (r 2 [f 11 7 5,l 12 11,k 13 .eql 12 O,m 14 13,g 14 false (f 15 1 2),g 14 false (l 16 15),g 14 false (m 17 1),g 14 false (w 18 (.slc 10 (.t 16) none (some (.t 17)))),g 14 false (w 19 (.mkf (.func 211) [] [.t 5])),g 14 false (c 20 210 [18,19]),u 21 14 20,m 4 21]) .ret))
def ZeG:List RRes:=[.t 4]
theorem ZeH:PCt Tryz.prog 209 Tryz.f209 ZeF ZeG:=pcT Tryz.func209 rfl (by kernel_rfl) (by kernel_rfl) (by kernel_rfl)
open Qq in
def ZeI:RCode :=
 .seq (r 0 [b 2 0,n 3 (.bool false)]) (.seq (r 1 [f 4 0 2,l 5 4,f 6 7 1,l 7 6,o 8 .eql 5 7,m 3 8]) .ret)
def ZeJ:List RRes:=[.t 3]
theorem ZeK:PCt Tryz.prog 211 Tryz.f211 ZeI ZeJ:=pcT Tryz.func211 rfl (by kernel_rfl) (by kernel_rfl) (by kernel_rfl)
open Qq in
def ZeL:RCode :=
 .seq (r 0 [b 2 0,b 3 1,n 4 (.bool false)]) (.seq (r 1 [f 5 1 2,l 6 5,l 7 3,w 8 (.slc 10 (.t 6) none (some (.t 7))),w 9 (.mkf (.func 213) [] [.t 2,.t 3]),c 10 210 [8,9],t 11 10,m 4 11]) .ret)
def ZeM:List RRes:=[.t 4]
theorem ZeN:PCt Tryz.prog 212 Tryz.f212 ZeL ZeM:=pcT Tryz.func212 rfl (by kernel_rfl) (by kernel_rfl) (by kernel_rfl)
open Qq in
def ZeO:RCode :=
 .seq (r 0 [b 3 0,n 4 (.bool false)]) (.seq (R 1 [f 5 0 3,a [0] (l 6 5),f 7 1 1,a [2] (l 8 7),l 9 2,a [3,4] (i 10 10 8 9),a [5] (f 11 0 10),a [6] (l 12 11),a [1,7] (o 13 .eql 6 12),a [8,0,1,2,3,4,5,6,7,8] (m 4 13)]) .ret)
def ZeP:List RRes:=[.t 4]
theorem ZeQ:PCt Tryz.prog 213 Tryz.f213 ZeO ZeP:=pcT Tryz.func213 rfl (by kernel_rfl) (by kernel_rfl) (by kernel_rfl)
open Qq in
def ZeR:RCode :=
 .seq (r 0 [b 2 0,n 4 (.bool false)]) (.seq (R 1 [m 5 1,a [0] (k 6 .eql 5 O),a [1] (m 7 6),a [2] (g 7 false (f 8 1 2)),a [3,2] (g 7 false (l 9 8)),a [2] (g 7 false (m 10 1)),a [5,2] (g 7 false (k 11 .sub 10 I)),a [4,6,2] (g 7 false (i 12 10 9 11)),a [7,2] (g 7 false (f 13 1 12)),a [8,2] (g 7 false (l 14 13)),a [2] (g 7 false (f 15 1 2)),a [10,2] (g 7 false (l 16 15)),a [2] (g 7 false (m 17 1)),a [11,12,2] (g 7 false (i 18 10 16 17)),a [13,2] (g 7 false (f 19 1 18)),a [14,2] (g 7 false (l 20 19)),a [9,15,2,2] (g 7 false (c 21 112 [14,20])),a [2] (g 7 false (f 22 1 2)),a [17,2] (g 7 false (l 23 22)),a [2] (g 7 false (m 24 1)),a [19,2] (g 7 false (k 25 .sub 24 I)),a [18,20,2] (g 7 false (i 26 10 23 25)),a [21,2] (g 7 false (f 27 0 26)),a [22,2] (g 7 false (l 28 27)),a [2] (g 7 false (f 29 1 2)),a [24,2] (g 7 false (l 30 29)),a [2] (g 7 false (m 31 1)),a [25,26,2] (g 7 false (i 32 10 30 31)),a [27,2] (g 7 false (f 33 0 32)),a [28,2] (g 7 false (l 34 33)),a [23,29,16,2] (g 7 false (c 35 112 [28,34])),a [16,30,2] (g 7 false (w 36 (.bsl false 1 2 [O,O] [(0,.t 21),(1,.t 35)]))),a [31,30,2] (g 7 false (c 37 111 [36])),a [32,2] (g 7 false (k 38 .lss 37 O)),a [2,33] (u 39 7 38),a [34,32,0,1,2,3,4,5,6,7,8,9,10,11,12,13,14,15,16,17,18,19,20,21,22,23,24,25,26,27,28,29,30,31,32,33,34] (m 4 39)]) .ret)
def ZeS:List RRes:=[.t 4]
theorem ZeT:PCt Tryz.prog 214 Tryz.f214 ZeR ZeS:=pcT Tryz.func214 rfl (by kernel_rfl) (by kernel_rfl) (by kernel_rfl)
open Qq in
def ZeU:RCode :=
 .seq (r 0 [b 1 0,n 2 .nilp,n 3 O]) (.scope (.seq (r 1 [f 13 0 1,L 14 1 13,c 15 70 [14],m 12 15,x 16 0 12,x 17 1 12,m 4 16,m 5 17]) (.seq (.seq (r 2 [m 18 5,k 19 .neq 18 O]) (.cond (.t 19) (.seq (r 3 [m 20 5,n 2 .nilp,m 3 20]) .ret) .skip)) (.seq (.seq (r 4 [f 21 1 1,l 22 21,e 23 22,k 24 .gtr 23 (.int .i64 12)]) (.cond (.t 24) (.seq (r 5 [n 2 .nilp,n 3 (.int .i64 30)]) .ret) .skip)) (.seq (r 6 [L 25 2 1,m 26 4,w 27 (.build [.nils,.nils,.nils,.nils] [(0,2,.t 25),(2,1,.t 26)]),b 28 27,m 6 28]) (.seq (r 7 [n 7 (.bool false)]) (.seq (.label 0) (.seq (.seq (r 8 [f 29 1 1,l 30 29,e 31 30,n 32 O]) (.block 0 (.loop (.seq (r 9 [o 33 .lss 32 31]) (.seq (.cond (.t 33) .skip (.exit 0)) (.seq (.block 1 (.seq (r 10 [m 34 32,i 35 10 30 32,L 36 10 35,w 9 (.alloc [O,O,.int .u8 0,O,O,O,O,O,.bool false,.int .u8 0]),m 8 34,s 10 9 36]) (.seq (.seq (r 11 [w 37 (.load true 8 (.g 2)),n 38 O]) (.block 2 (.loop (.seq (r 12 [k 39 .lss 38 (.int .i64 8)]) (.seq (.cond (.t 39) .skip (.exit 2)) (.seq (.block 3 (.seq (r 13 [w 40 (.vop (.aidx true 8 1) [(.t 37),(.t 38)]),w 11 (.alloc [.nilf]),s 1 11 40]) (.seq (r 14 [f 41 0 11,l 42 41,L 43 2 1,m 44 8,w 45 (.callv (.t 42) [.t 43,.t 44]),t 46 45]) (.cond (.t 46) (.seq (r 15 [n 7 (.bool true)]) (.exit 0)) .skip)))) (r 16 [k 47 .add 38 I,m 38 47]))))))) (.seq (r 17 [f 48 2 9,l 49 48,k 50 .eql 49 (.int .u8 1)]) (.cond (.t 50) (R 18 [m 51 6,m 52 6,a [1] (w 53 (.nilck (.t 52))),a [2] (f 54 3 53),a [3] (l 55 54),f 56 0 9,a [5] (l 57 56),a [6] (w 58 (.bsl false 1 1 [O] [(0,.t 57)])),a [4,7] (w 59 (.app 1 8 (.t 55) (.t 58))),a [0,0,1,2,3,4,5,6,7,8] (w 60 (.nilck (.t 51))),a [9,0,1,2,3,4,5,6,7,8] (f 61 3 60),a [10,8,8,0,1,2,3,4,5,6,7,8] (s 1 61 59)]) .skip))))) (r 19 [k 62 .add 32 I,m 32 62]))))))) (.seq (.seq (r 20 [m 63 7,m 64 63,g 64 false (m 65 6),g 64 false (w 66 (.nilck (.t 65))),g 64 false (f 67 3 66),g 64 false (l 68 67),g 64 false (e 69 68),g 64 false (k 70 .gtr 69 (.int .i64 5)),u 71 64 70]) (.cond (.t 71) (.seq (r 21 [n 2 .nilp,n 3 (.int .i64 30)]) .ret) .skip)) (.seq (r 22 [m 72 6,w 73 (.nilck (.t 72)),f 74 3 73,l 75 74,c 76 54 [75]]) (.seq (r 23 [m 77 6,m 2 77,n 3 O]) .ret)))))))))))
def ZeV:List RRes:=[.t 2,.t 3]
theorem ZeW:PCt Tryz.prog 107 Tryz.f107 ZeU ZeV:=pcT Tryz.func107 rfl (by kernel_rfl) (by kernel_rfl) (by kernel_rfl)
open Qq in
def ZeX:RCode :=
 .seq (r 0 [b 1 0,n 2 O]) (.seq (r 1 [L 6 2 1,c 7 107 [6],m 5 7,x 8 0 5,x 9 1 5,m 3 8,m 4 9]) (.seq (r 2 [m 10 4,m 2 10]) .ret))
def ZeY:List RRes:=[.t 2]
theorem ZeZ:PCt Tryz.prog 75 Tryz.f75 ZeX ZeY:=pcT Tryz.func75 rfl (by kernel_rfl) (by kernel_rfl) (by kernel_rfl)
open Qq in
def Zf0:RCode :=
 .seq (r 0 [n 4 O]) (.seq (r 1 [w 10 (.mkmap),m 5 10]) (.seq (.seq (r 2 [m 11 0,w 12 (.nilck (.t 11)),f 13 3 12,l 14 13,e 15 14,n 16 O]) (.block 0 (.loop (.seq (r 3 [o 17 .lss 16 15]) (.seq (.cond (.t 17) .skip (.exit 0)) (.seq (.block 1 (.seq (r 4 [i 18 1 14 16,l 19 18,m 7 19]) (r 5 [m 20 5,m 21 7,z (.mupd (.i .i64) (.t 20) (.t 21) (.c (.bool true)))]))) (r 6 [k 22 .add 16 I,m 16 22]))))))) (.seq (.seq (r 7 [m 23 1,e 24 23,n 25 O]) (.block 2 (.loop (.seq (r 8 [o 26 .lss 25 24]) (.seq (.cond (.t 26) .skip (.exit 2)) (.seq (.block 3 (.seq (r 9 [m 27 25,i 28 1 23 25,l 29 28,m 8 27,m 9 29]) (.seq (.seq (r 10 [m 30 5,m 31 9,w 32 (.look (.i .i64) (.bool false) false (.t 30) (.t 31)),t 33 32,m 34 33,g 34 false (m 35 8),g 34 false (k 36 .gtr 35 O),g 34 false (m 37 36),g 37 true (m 38 1),g 37 true (m 39 8),g 37 true (k 40 .sub 39 I),g 37 true (i 41 1 38 40),g 37 true (l 42 41),g 37 true (m 43 9),g 37 true (o 44 .gtr 42 43),g 34 false (v 45 37 44),u 46 34 45]) (.cond (.t 46) (.seq (r 11 [n 4 (.int .i64 31)]) .ret) .skip)) (r 12 [m 47 5,m 48 9,z (.mdel (.i .i64) (.t 47) (.t 48))])))) (r 13 [k 49 .add 25 I,m 25 49]))))))) (.seq (r 14 [n 4 O]) .ret))))
def Zf1:List RRes:=[.t 4]
theorem Zf2:PCt Tryz.prog 135 Tryz.f135 Zf0 Zf1:=pcT Tryz.func135 rfl (by kernel_rfl) (by kernel_rfl) (by kernel_rfl)
open Qq in
def Zf3:RCode :=
 .seq (r 0 [b 3 0,n 6 .nilp,n 7 O]) (.seq (r 1 [L 12 2 3,c 13 107 [12],m 11 13,x 14 0 11,x 15 1 11,m 8 14,m 9 15]) (.seq (.seq (r 2 [m 16 9,k 17 .neq 16 O]) (.cond (.t 17) (.seq (r 3 [m 18 9,n 6 .nilp,m 7 18]) .ret) .skip)) (.seq (.seq (r 4 [m 19 8,m 20 1,c 21 135 [19,20],m 10 21]) (.seq (r 5 [m 22 10,k 23 .neq 22 O]) (.cond (.t 23) (.seq (r 6 [m 24 10,n 6 .nilp,m 7 24]) .ret) .skip))) (.seq (.seq (r 7 [m 25 2,w 26 (.bsl false 1 1 [O] [(0,.t 25)]),w 27 (.call 136 [.c I,.c (.int .i64 999),.t 26]),t 28 27]) (.cond (.t 28) (.seq (r 8 [n 6 .nilp,n 7 (.int .i64 2)]) .ret) .skip)) (.seq (r 9 [m 29 8,m 6 29,n 7 O]) .ret)))))
def Zf4:List RRes:=[.t 6,.t 7]
theorem Zf5:PCt Tryz.prog 101 Tryz.f101 Zf3 Zf4:=pcT Tryz.func101 rfl (by kernel_rfl) (by kernel_rfl) (by kernel_rfl)
open Qq in
def Zf6:RCode :=
 .seq (r 0 [b 4 0,b 5 1,b 6 2,b 7 3,n 8 .nilf]) (.seq (r 1 [w 11 (.mkmap),w 9 (.alloc [.nilm]),s 1 9 11]) (.seq (r 2 [w 10 (.alloc [.nilf])]) (.seq (r 3 [w 12 (.mkf (.func 147) [] [.t 9,.t 4,.t 5,.t 6,.t 7,.t 10]),s 1 10 12]) (.seq (r 4 [l 13 10,m 8 13]) .ret))))
def Zf7:List RRes:=[.t 8]
open Qq in
def Zf8:RCode :=
 .seq (r 0 [n 8 (.bool false)]) (.seq (.seq (r 1 [l 15 1,m 16 0,w 17 (.look (.i .i64) (.bool false) true (.t 15) (.t 16)),m 14 17,x 18 0 14,x 19 1 14,m 9 18,m 10 19]) (.seq (r 2 [m 20 10]) (.cond (.t 20) (.seq (r 3 [m 21 9,m 8 21]) .ret) .skip))) (.seq (r 4 [l 22 2,w 23 (.nilck (.t 22)),f 24 0 23,f 25 1 24,l 26 25,m 27 0,i 28 10 26 27,L 29 10 28,w 11 (.alloc [O,O,.int .u8 0,O,O,O,O,O,.bool false,.int .u8 0]),s 10 11 29]) (.seq (r 5 [f 30 2 11,l 31 30,k 32 .eql 31 (.int .u8 2),m 33 32,g 33 false (l 34 3),g 33 false (f 35 0 11),g 33 false (l 36 35),g 33 false (c 37 148 [34,36]),u 38 33 37,m 39 38,g 39 true (l 40 4),g 39 true (f 41 0 11),g 39 true (l 42 41),g 39 true (c 43 148 [40,42]),g 39 true (t 44 43),v 45 39 44,m 46 45,g 46 true (f 47 5 11),g 46 true (l 48 47),g 46 true (f 49 6 11),g 46 true (l 50 49),g 46 true (l 51 5),g 46 true (w 52 (.bsl false 1 1 [O] [(0,.t 51)])),g 46 true (c 53 136 [48,50,52]),v 54 46 53,m 12 54]) (.seq (.seq (r 6 [m 55 0,k 56 .add 55 I,m 13 56]) (.block 0 (.loop (.seq (.seq (r 7 [m 57 12,m 58 57,g 58 true (m 59 13),g 58 true (l 60 2),g 58 true (w 61 (.nilck (.t 60))),g 58 true (f 62 0 61),g 58 true (f 63 1 62),g 58 true (l 64 63),g 58 true (e 65 64),g 58 true (o 66 .lss 59 65),v 67 58 66]) (.cond (.t 67) .skip (.exit 0))) (.seq (.block 1 (R 9 [l 70 2,a [0] (w 71 (.nilck (.t 70))),a [1] (f 72 0 71),a [2] (f 73 1 72),a [3] (l 74 73),m 75 13,a [4,5] (i 76 10 74 75),a [6] (f 77 7 76),a [7] (l 78 77),f 79 0 11,a [9] (l 80 79),a [8,10] (o 81 .neq 78 80),a [11] (m 82 81),a [12] (g 82 false (l 83 6)),a [12] (g 82 false (m 84 13)),a [13,14,12,12] (g 82 false (w 85 (.callv (.t 83) [.t 84]))),a [15,12] (g 82 false (t 86 85)),a [12,16] (u 87 82 86),a [17,15,0,1,2,3,4,5,6,7,8,9,10,11,12,13,14,15,16,17] (m 12 87)])) (r 8 [m 68 13,k 69 .add 68 I,m 13 69])))))) (.seq (r 10 [l 88 1,m 89 0,m 90 12,z (.mupd (.i .i64) (.t 88) (.t 89) (.t 90))]) (.seq (r 11 [m 91 12,m 8 91]) .ret))))))
def Zf9:List RRes:=[.t 8]
theorem Zfa {G:Nat→Option (List AV)} {objs objs':List (Nat×AObj)} {args:List AV} {v:AV} (hn:args.length≤Tryz.f147.ntmps) (h:∀ R:Run,R.G=G→R.Top→AR Tryz.prog R Zf8 ⟨iniT 0 args,objs⟩ (FinB Zf9 v objs')):PB Tryz.prog G 147 objs args v objs' :=
 PB_of Tryz.func147 rfl (by kernel_rfl) (rc:=Zf8) (by kernel_rfl) (rs:=Zf9) (by kernel_rfl) hn (fun R _ hG hr=>h R hG hr)
open Qq in
def Zfb:RCode :=
 .seq (r 0 [b 3 0,n 6 .nils,n 7 O]) (.seq (r 1 [L 14 2 3,m 15 1,m 16 2,c 17 101 [14,15,16],m 13 17,x 18 0 13,x 19 1 13,m 8 18,m 9 19]) (.seq (.seq (r 2 [m 20 9,k 21 .neq 20 O]) (.cond (.t 21) (.seq (r 3 [m 22 9,n 6 .nils,m 7 22]) .ret) .skip)) (.seq (r 4 [m 23 8,m 24 1,m 25 2,w 26 (.call 114 [.t 23,.t 24,.c .nils,.t 25]),m 10 26]) (.seq (r 5 [n 11 .nils]) (.seq (.seq (r 6 [f 27 1 3,l 28 27,e 29 28,n 30 O]) (.block 0 (.loop (.seq (r 7 [o 31 .lss 30 29]) (.seq (.cond (.t 31) .skip (.exit 0)) (.seq (.block 1 (.seq (r 8 [m 32 30,m 12 32]) (.seq (r 9 [m 33 10,m 34 12,w 35 (.callv (.t 33) [.t 34])]) (.cond (.t 35) (r 10 [m 36 11,f 37 1 3,l 38 37,m 39 12,i 40 10 38 39,f 41 0 40,l 42 41,w 43 (.bsl false 1 1 [O] [(0,.t 42)]),w 44 (.app 1 8 (.t 36) (.t 43)),m 11 44]) .skip)))) (r 11 [k 45 .add 30 I,m 30 45]))))))) (.seq (r 12 [m 46 11,m 6 46,n 7 O]) .ret))))))
def Zfc:List RRes:=[.t 6,.t 7]
theorem Zfd:PCt Tryz.prog 79 Tryz.f79 Zfb Zfc:=pcT Tryz.func79 rfl (by kernel_rfl) (by kernel_rfl) (by kernel_rfl)
open Qq in
def Zfe:RCode :=
 .seq (r 0 [n 4 (.bool false)]) (.seq (r 1 [m 5 0,m 6 1,c 7 217 [5,6],k 8 .geq 7 O,m 4 8]) .ret)
def Zff:List RRes:=[.t 4]
theorem Zfg:PCt Tryz.prog 210 Tryz.f210 Zfe Zff:=pcT Tryz.func210 rfl (by kernel_rfl) (by kernel_rfl) (by kernel_rfl)
open Qq in
def Zfh:RCode :=
 .seq (r 0 [n 4 O]) (.seq (.seq (r 1 [m 6 0,e 7 6,n 8 O]) (.block 0 (.loop (.seq (r 2 [o 9 .lss 8 7]) (.seq (.cond (.t 9) .skip (.exit 0)) (.seq (.block 1 (.seq (r 3 [m 10 8,m 5 10]) (.seq (r 4 [m 11 1,m 12 0,m 13 5,i 14 10 12 13,L 15 10 14,w 16 (.callv (.t 11) [.t 15])]) (.cond (.t 16) (.seq (r 5 [m 17 5,m 4 17]) .ret) .skip)))) (r 6 [k 18 .add 8 I,m 8 18]))))))) (.seq (r 7 [n 4 (.int .i64 (-1))]) .ret))
def Zfi:List RRes:=[.t 4]
theorem Zfj:PCt Tryz.prog 217 Tryz.f217 Zfh Zfi:=pcT Tryz.func217 rfl (by kernel_rfl) (by kernel_rfl) (by kernel_rfl)
open Qq in
def Zfk:RCode :=
 .seq (r 0 [n 4 (.bool false)]) (.seq (r 1 [m 5 0,m 6 1,c 7 165 [5,6],k 8 .geq 7 O,m 4 8]) .ret)
def Zfl:List RRes:=[.t 4]
theorem Zfm:PCt Tryz.prog 148 Tryz.f148 Zfk Zfl:=pcT Tryz.func148 rfl (by kernel_rfl) (by kernel_rfl) (by kernel_rfl)
open Qq in
def Zfn:RCode :=
 .seq (r 0 [n 4 O]) (.seq (.seq (r 1 [m 6 0,e 7 6,n 8 O]) (.block 0 (.loop (.seq (r 2 [o 9 .lss 8 7]) (.seq (.cond (.t 9) .skip (.exit 0)) (.seq (.block 1 (.seq (r 3 [m 10 8,m 5 10]) (.seq (r 4 [m 11 1,m 12 0,m 13 5,i 14 1 12 13,l 15 14,o 16 .eql 11 15]) (.cond (.t 16) (.seq (r 5 [m 17 5,m 4 17]) .ret) .skip)))) (r 6 [k 18 .add 8 I,m 8 18]))))))) (.seq (r 7 [n 4 (.int .i64 (-1))]) .ret))
def Zfo:List RRes:=[.t 4]
theorem Zfp:PCt Tryz.prog 165 Tryz.f165 Zfn Zfo:=pcT Tryz.func165 rfl (by kernel_rfl) (by kernel_rfl) (by kernel_rfl)
open Qq in
def Zfq:RCode :=
 .seq (r 0 [m 3 0,e 4 3,m 2 4]) (r 1 [m 5 0,m 6 2,m 7 2,w 8 (.conv .u64 (.t 7)),c 9 92 [8],w 10 (.call 91 [.t 5,.c O,.t 6,.t 9])])
def Zfr:List RRes:=[]
theorem Zfs:PCt Tryz.prog 54 Tryz.f54 Zfq Zfr:=pcT Tryz.func54 rfl (by kernel_rfl) (by kernel_rfl) (by kernel_rfl)
theorem Zft {G:Nat→Option (List AV)} {objs objs':List (Nat×AObj)} {args:List AV} {v:AV} (hn:args.length≤Tryz.f54.ntmps) (h:∀ R:Run,R.G=G→R.Top→AR Tryz.prog R Zfq ⟨iniT 0 args,objs⟩ (FinB Zfr v objs')):PB Tryz.prog G 54 objs args v objs' :=
 PB_of Tryz.func54 rfl (by kernel_rfl) (rc:=Zfq) (by kernel_rfl) (rs:=Zfr) (by kernel_rfl) hn (fun R _ hG hr=>h R hG hr)
open Qq in
def Zfu:RCode :=
 .seq (r 0 [n 8 (.bool true)]) (.seq (r 1 [n 9 (.bool true)]) (.block 0 (.loop (.block 1 (.seq (r 2 [m 19 2,m 20 1,o 21 .sub 19 20,m 10 21]) (.seq (.seq (r 3 [m 22 10,k 23 .leq 22 (.int .i64 12)]) (.cond (.t 23) (.seq (r 4 [m 24 0,m 25 1,m 26 2,c 27 122 [24,25,26]]) .ret) .skip)) (.seq (.seq (r 5 [m 28 3,k 29 .eql 28 O]) (.cond (.t 29) (.seq (r 6 [m 30 0,m 31 1,m 32 2,c 33 123 [30,31,32]]) .ret) .skip)) (.seq (.seq (r 7 [m 34 8,t 35 34]) (.cond (.t 35) (.seq (r 8 [m 36 0,m 37 1,m 38 2,c 39 124 [36,37,38]]) (r 9 [m 40 3,k 41 .sub 40 I,m 3 41])) .skip)) (.seq (r 10 [m 43 0,m 44 1,m 45 2,c 46 125 [43,44,45],m 42 46,x 47 0 42,x 48 1 42,m 11 47,m 12 48]) (.seq (.seq (r 11 [m 49 12,k 50 .eql 49 (.int .i64 2)]) (.cond (.t 50) (.seq (r 12 [m 51 0,m 52 1,m 53 2,c 54 126 [51,52,53]]) (.seq (r 13 [m 55 2,k 56 .sub 55 I,m 57 11,m 58 1,o 59 .sub 57 58,o 60 .sub 56 59,m 11 60]) (r 14 [n 12 I]))) .skip)) (.seq (.seq (r 15 [m 61 8,m 62 61,g 62 true (m 63 9),v 64 62 63,m 65 64,g 65 true (m 66 12),g 65 true (k 67 .eql 66 I),v 68 65 67]) (.cond (.t 68) (.seq (r 16 [m 69 0,m 70 1,m 71 2,c 72 127 [69,70,71]]) (.cond (.t 72) .ret .skip)) .skip)) (.seq (.seq (R 17 [m 73 1,a [0] (k 74 .gtr 73 O),a [1] (m 75 74),a [2] (g 75 true (m 76 0)),a [2] (g 75 true (m 77 1)),a [4,2] (g 75 true (k 78 .sub 77 I)),a [3,5,2] (g 75 true (i 79 1 76 78)),a [6,2] (g 75 true (l 80 79)),a [2] (g 75 true (m 81 0)),a [2] (g 75 true (m 82 11)),a [8,9,2] (g 75 true (i 83 1 81 82)),a [10,2] (g 75 true (l 84 83)),a [7,11,2,2] (g 75 true (c 85 128 [80,84])),a [12,2] (g 75 true (t 86 85)),a [2,13] (v 87 75 86)]) (.cond (.t 87) (.seq (r 18 [m 88 0,m 89 1,m 90 2,m 91 11,c 92 129 [88,89,90,91],m 13 92]) (.seq (r 19 [m 93 13,m 1 93]) (.exit 1))) .skip)) (.seq (r 20 [m 95 0,m 96 1,m 97 2,m 98 11,c 99 130 [95,96,97,98],m 94 99,x 100 0 94,x 101 1 94,m 14 100,m 15 101]) (.seq (r 21 [m 102 15,m 9 102]) (.seq (r 22 [m 103 14,m 104 1,o 105 .sub 103 104,m 106 2,m 107 14,o 108 .sub 106 107,m 16 105,m 17 108]) (.seq (r 23 [m 109 10,k 110 .quo 109 (.int .i64 8),m 18 110]) (.seq (r 24 [m 111 16,m 112 17,o 113 .lss 111 112]) (.cond (.t 113) (.seq (r 25 [m 114 16,m 115 18,o 116 .geq 114 115,m 8 116]) (.seq (r 26 [m 117 0,m 118 1,m 119 14,m 120 3,c 121 91 [117,118,119,120]]) (r 27 [m 122 14,k 123 .add 122 I,m 1 123]))) (.seq (r 28 [m 124 17,m 125 18,o 126 .geq 124 125,m 8 126]) (.seq (r 29 [m 127 0,m 128 14,k 129 .add 128 I,m 130 2,m 131 3,c 132 91 [127,129,130,131]]) (r 30 [m 133 14,m 2 133])))))))))))))))))))))
def Zfv:List RRes:=[]
theorem Zfw:PCt Tryz.prog 91 Tryz.f91 Zfu Zfv:=pcT Tryz.func91 rfl (by kernel_rfl) (by kernel_rfl) (by kernel_rfl)
theorem Zfx {G:Nat→Option (List AV)} {objs objs':List (Nat×AObj)} {args:List AV} {v:AV} (hn:args.length≤Tryz.f91.ntmps) (h:∀ R:Run,R.G=G→R.Top→AR Tryz.prog R Zfu ⟨iniT 0 args,objs⟩ (FinB Zfv v objs')):PB Tryz.prog G 91 objs args v objs' :=
 PB_of Tryz.func91 rfl (by kernel_rfl) (rc:=Zfu) (by kernel_rfl) (rs:=Zfv) (by kernel_rfl) hn (fun R _ hG hr=>h R hG hr)
open Qq in
def Zfy:RCode :=
 .seq (r 0 [m 8 1,k 9 .add 8 I,m 6 9]) (.block 0 (.loop (.seq (.seq (r 1 [m 10 6,m 11 2,o 12 .lss 10 11]) (.cond (.t 12) .skip (.exit 0))) (.seq (.block 1 (.seq (r 3 [m 15 6,m 7 15]) (.block 2 (.loop (.seq (.seq (R 4 [m 16 7,m 17 1,a [0,1] (o 18 .gtr 16 17),a [2] (m 19 18),a [3] (g 19 true (m 20 0)),a [3] (g 19 true (m 21 7)),a [4,5,3] (g 19 true (i 22 1 20 21)),a [6,3] (g 19 true (l 23 22)),a [3] (g 19 true (m 24 0)),a [3] (g 19 true (m 25 7)),a [9,3] (g 19 true (k 26 .sub 25 I)),a [8,10,3] (g 19 true (i 27 1 24 26)),a [11,3] (g 19 true (l 28 27)),a [7,12,3,3] (g 19 true (c 29 128 [23,28])),a [3,13] (v 30 19 29)]) (.cond (.t 30) .skip (.exit 2))) (.seq (.block 3 (R 6 [m 33 0,m 34 7,m 35 0,m 36 7,a [3] (k 37 .sub 36 I),m 38 0,m 39 7,a [6] (k 40 .sub 39 I),a [5,7] (i 41 1 38 40),a [8] (l 42 41),m 43 0,m 44 7,a [10,11] (i 45 1 43 44),a [12] (l 46 45),a [0,1,0,1,5,6,7,8,9,13] (i 47 1 33 34),a [14,9,0,1,5,6,7,8,9,13] (s 1 47 42),a [2,4,0,1,2,3,4,5,6,7,8,9,10,11,12,13,14,15] (i 48 1 35 37),a [16,13,15,0,1,2,3,4,5,6,7,8,9,10,11,12,13,14,15] (s 1 48 46)])) (r 5 [m 31 7,k 32 .sub 31 I,m 7 32]))))))) (r 2 [m 13 6,k 14 .add 13 I,m 6 14])))))
def Zfz:List RRes:=[]
theorem ZfA:PCt Tryz.prog 122 Tryz.f122 Zfy Zfz:=pcT Tryz.func122 rfl (by kernel_rfl) (by kernel_rfl) (by kernel_rfl)
theorem ZfB {G:Nat→Option (List AV)} {objs objs':List (Nat×AObj)} {args:List AV} {v:AV} (hn:args.length≤Tryz.f122.ntmps) (h:∀ R:Run,R.G=G→R.Top→AR Tryz.prog R Zfy ⟨iniT 0 args,objs⟩ (FinB Zfz v objs')):PB Tryz.prog G 122 objs args v objs' :=
 PB_of Tryz.func122 rfl (by kernel_rfl) (rc:=Zfy) (by kernel_rfl) (rs:=Zfz) (by kernel_rfl) hn (fun R _ hG hr=>h R hG hr)
open Qq in
def ZfC:RCode :=
 .seq (r 0 [n 2 O]) (.seq (r 1 [n 3 O]) (.seq (.seq (r 2 [m 6 0,e 7 6,n 8 O]) (.block 0 (.loop (.seq (r 3 [o 9 .lss 8 7]) (.seq (.cond (.t 9) .skip (.exit 0)) (.seq (.block 1 (.seq (r 4 [i 10 1 6 8,l 11 10,m 5 11]) (.seq (r 5 [m 12 5,m 13 3,o 14 .neq 12 13]) (.cond (.t 14) (.seq (r 6 [m 15 5,m 2 15]) .ret) .skip)))) (r 7 [k 16 .add 8 I,m 8 16]))))))) (.seq (r 8 [m 17 3,m 2 17]) .ret)))
def ZfD:List RRes:=[.t 2]
theorem ZfE:PCt Tryz.prog 111 Tryz.f111 ZfC ZfD:=pcT Tryz.func111 rfl (by kernel_rfl) (by kernel_rfl) (by kernel_rfl)
open Qq in
def ZfF:RCode :=
 .seq (r 0 [n 2 O]) (.seq (.cond (.c (.bool false)) (.seq (r 1 [m 3 0,w 4 (.conv .u32 (.t 3)),c 5 131 [4],m 2 5]) .ret) .skip) (.seq (r 2 [m 6 0,c 7 132 [6],m 2 7]) .ret))
def ZfG:List RRes:=[.t 2]
theorem ZfH:PCt Tryz.prog 92 Tryz.f92 ZfF ZfG:=pcT Tryz.func92 rfl (by kernel_rfl) (by kernel_rfl) (by kernel_rfl)
open Qq in
def ZfI:RCode :=
 .seq (r 0 [n 2 O]) (.seq (.seq (r 1 [m 3 0,k 4 .geq 3 (.int .u64 4294967296)]) (.cond (.t 4) (.seq (r 2 [m 5 0,w 6 (.vop (.sh false) [(.t 5),(.c (.int .u64 32))]),m 0 6]) (r 3 [n 2 (.int .i64 32)])) .skip)) (.seq (.seq (r 4 [m 7 0,k 8 .geq 7 (.int .u64 65536)]) (.cond (.t 8) (.seq (r 5 [m 9 0,w 10 (.vop (.sh false) [(.t 9),(.c (.int .u64 16))]),m 0 10]) (r 6 [m 11 2,k 12 .add 11 (.int .i64 16),m 2 12])) .skip)) (.seq (.seq (r 7 [m 13 0,k 14 .geq 13 (.int .u64 256)]) (.cond (.t 14) (.seq (r 8 [m 15 0,w 16 (.vop (.sh false) [(.t 15),(.c (.int .u64 8))]),m 0 16]) (r 9 [m 17 2,k 18 .add 17 (.int .i64 8),m 2 18])) .skip)) (.seq (r 10 [m 19 2,m 20 0,w 21 (.conv .u8 (.t 20)),w 22 (.vop .sidx [(.c (.str ⟨#[0,1,2,2,3,3,3,3,4,4,4,4,4,4,4,4,5,5,5,5,5,5,5,5,5,5,5,5,5,5,5,5,6,6,6,6,6,6,6,6,6,6,6,6,6,6,6,6,6,6,6,6,6,6,6,6,6,6,6,6,6,6,6,6,7,7,7,7,7,7,7,7,7,7,7,7,7,7,7,7,7,7,7,7,7,7,7,7,7,7,7,7,7,7,7,7,7,7,7,7,7,7,7,7,7,7,7,7,7,7,7,7,7,7,7,7,7,7,7,7,7,7,7,7,7,7,7,7,8,8,8,8,8,8,8,8,8,8,8,8,8,8,8,8,8,8,8,8,8,8,8,8,8,8,8,8,8,8,8,8,8,8,8,8,8,8,8,8,8,8,8,8,8,8,8,8,8,8,8,8,8,8,8,8,8,8,8,8,8,8,8,8,8,8,8,8,8,8,8,8,8,8,8,8,8,8,8,8,8,8,8,8,8,8,8,8,8,8,8,8,8,8,8,8,8,8,8,8,8,8,8,8,8,8,8,8,8,8,8,8,8,8,8,8,8,8,8,8,8,8,8,8,8,8,8,8]⟩)),(.t 21)]),w 23 (.conv .i64 (.t 22)),o 24 .add 19 23,m 2 24]) .ret))))
def ZfJ:List RRes:=[.t 2]
theorem ZfK:PCt Tryz.prog 132 Tryz.f132 ZfI ZfJ:=pcT Tryz.func132 rfl (by kernel_rfl) (by kernel_rfl) (by kernel_rfl)
theorem ZfL (l:List Iss):(l.map isa).all (fun r=>r.all AV.pure)=true:=by simp [isa,AV.pure]
section
variable {G:Nat→Option (List AV)}
theorem ZfM (x:Iss) (h1:Sml x.its) (h2:Sml x.dms):PC Tryz.prog G 216 [.agg (isa x)] (.agg (isa x)):=by
 have p1:(x.its.map ita).all (fun r=>r.all AV.pure)=true:=by simp [ita,AV.pure]
 have p2:(x.dms.map dma).all (fun r=>r.all AV.pure)=true:=by simp [dma,AV.pure]
 (refine Z90 rfl fun R hG hrd=>GO_AR mixed 1000 ?_;subst hG)
 by_cases e1:x.its=[] <;> by_cases e2:x.dms=[]
 · simp -implicitDefEqProofs [Z8Y,Z8Z,isa,e1,e2]
   refine Z2P.of Zcb (by simp) ?_
   simp -implicitDefEqProofs []
   refine Z2P.of Zcc (by simp) ?_
   simp -implicitDefEqProofs []
   exact rfl
 · simp -implicitDefEqProofs [Z8Y,Z8Z,isa,e1]
   refine Z2P.of Zcb (by simp) ?_
   simp -implicitDefEqProofs []
   refine Z2P.new (Zca _ e2 h2) (by simp) (by simp [lk,St.get]) ?_
   simp -implicitDefEqProofs [p2]
   exact rfl
 · simp -implicitDefEqProofs [Z8Y,Z8Z,isa,e2]
   refine Z2P.new (Zc9 _ e1 h1) (by simp) (by simp [lk,St.get]) ?_
   simp -implicitDefEqProofs []
   refine Z2P.of Zcc (by simp) ?_
   simp -implicitDefEqProofs [p1]
   exact rfl
 · simp -implicitDefEqProofs [Z8Y,Z8Z,isa]
   refine Z2P.new (Zc9 _ e1 h1) (by simp) (by simp [lk,St.get]) ?_
   simp -implicitDefEqProofs []
   refine Z2P.new (Zca _ e2 h2) (by simp) (by simp [lk,St.get]) ?_
   simp -implicitDefEqProofs [p1,p2]
   exact rfl
theorem at_pc (hG:GC G) (r:List Iss) (d l:Int) (h:Wf r):PC Tryz.prog G 207 [rega r,.agg [.int .i64 d,.int .i64 l]] (.tup [.agg (isa (atP r d l).1),.int .i64 (atP r d l).2]):=by
 by_cases e:openV r=0
 case neg =>
  refine PC.nzR (v:=.tup [.agg [.int .i64 0,.int .i64 0,.int .u8 0,.nils,.nils],.int .i64 (openV r)]) ?_ (by simp [nz,atP,e,zI,isa])
  (refine Z9a rfl fun R hG hrd=>GO_AR mixed 1000 ?_;subst hG)
  simp -implicitDefEqProofs [Z98,Z99,rega]
  (first|refine CallK.of (Zch hG r h) (by simp) ?_|refine CallD.of (Zch hG r h) (by simp) ?_)
  simp -implicitDefEqProofs [openA,e]
 have hL:=Zci e
 have hO:=Zax hL
 cases hf:findN d l r with
 | none =>
   refine PC.nzR (v:=.tup [.agg [.int .i64 0,.int .i64 0,.int .u8 0,.nils,.nils],.int .i64 6]) ?_ (by simp [nz,atP,e,hf,zI,isa])
   (refine Z9a rfl fun R hG hrd=>GO_AR mixed 1000 ?_;subst hG)
   simp -implicitDefEqProofs [Z98,Z99,rega]
   (first|refine CallK.of (Zch hG r h) (by simp) ?_|refine CallD.of (Zch hG r h) (by simp) ?_)
   simp -implicitDefEqProofs [openA,e]
   (first|refine CallK.of (ZbI r (nums r) d l (Zcl hO) h.1.1 (Zcn hL)) (by simp) ?_|refine CallD.of (ZbI r (nums r) d l (Zcl hO) h.1.1 (Zcn hL)) (by simp) ?_)
   simp -implicitDefEqProofs [hf,fndA,noIs]
 | some x =>
   have ev:atP r d l=(x,0):=by simp [atP,e,hf]
   have hx:=h.1.2 x (ZaP hf).1
   have ex:isa x=[.int .i64 x.d,.int .i64 x.l,.int .u8 x.k,.vsl (x.its.map ita),.vsl (x.dms.map dma)]:=rfl
   have cp:=ZfM (G:=G) x hx.1 hx.2
   rw [ev]
   rw [ex]at cp
   (refine Z9a rfl fun R hG hrd=>GO_AR mixed 1000 ?_;subst hG)
   simp -implicitDefEqProofs [Z98,Z99,rega]
   (first|refine CallK.of (Zch hG r h) (by simp) ?_|refine CallD.of (Zch hG r h) (by simp) ?_)
   simp -implicitDefEqProofs [openA,e]
   (first|refine CallK.of (ZbI r (nums r) d l (Zcl hO) h.1.1 (Zcn hL)) (by simp) ?_|refine CallD.of (ZbI r (nums r) d l (Zcl hO) h.1.1 (Zcn hL)) (by simp) ?_)
   simp -implicitDefEqProofs [hf,fndA,ex]
   (first|refine CallK.of (cp) (by simp) ?_|refine CallD.of (cp) (by simp) ?_)
   simp -implicitDefEqProofs [ex]
end
section
variable {G:Nat→Option (List AV)}
theorem ZfN (n lo hi:Int):PC Tryz.prog G 159 [.int .i64 n,.vptr [.int .i64 lo] 0,.vptr [.int .i64 hi] 0] (.bool (!inR n lo hi)):=by
 (refine Zep rfl fun R hG hrd=>GO_AR mixed 1000 ?_;subst hG)
 by_cases h1:n<lo
 · have h2:¬lo≤n:=by omega
   simp -implicitDefEqProofs [Zen,Zeo,h1,h2,inR]
 · have h2:lo≤n:=by omega
   by_cases h3:hi<n
   · have h4:¬n≤hi:=by omega
     simp -implicitDefEqProofs [Zen,Zeo,h1,h2,h3,h4,inR]
   · have h4:n≤hi:=by omega
     simp -implicitDefEqProofs [Zen,Zeo,h1,h2,h3,h4,inR]
theorem ZfO (lo hi:Int) (l:List Int) (hl:Sml l):PC Tryz.prog G 136 [.int .i64 lo,.int .i64 hi,.vsl (l.map ia)] (.bool (l.all fun n=>inR n lo hi)):=by
 (refine Zem rfl fun R hG hrd=>GO_AR mixed 1000 ?_;subst hG)
 simp -implicitDefEqProofs [Zek,Zel]
 (first|refine CallK.flat (ZaW 159 [.vptr [.int .i64 lo] 0,.vptr [.int .i64 hi] 0] (fun n=>!inR n lo hi) l (by simp [AV.pure]) hl (fun n _=>ZfN n lo hi)) (by simp [AV.flat]) (by simp) ?_|refine CallD.flat (ZaW 159 [.vptr [.int .i64 lo] 0,.vptr [.int .i64 hi] 0] (fun n=>!inR n lo hi) l (by simp [AV.pure]) hl (fun n _=>ZfN n lo hi)) (by simp [AV.flat]) (by simp) ?_)
 have e:(!l.any fun n=>!inR n lo hi)=l.all fun n=>inR n lo hi:=by simp [List.all_eq_not_any_not]
 simp -implicitDefEqProofs [e]
theorem ZfP (lo hi n:Int):PC Tryz.prog G 136 [.int .i64 lo,.int .i64 hi,.vsl [[.int .i64 n]]] (.bool (inR n lo hi)):=by
 have h:=ZfO (G:=G) lo hi [n] (by simp [Sml])
 simpa [ia] using h
theorem ZfQ (lo hi n m:Int):PC Tryz.prog G 136 [.int .i64 lo,.int .i64 hi,.vsl [[.int .i64 n],[.int .i64 m]]] (.bool (inR n lo hi&&inR m lo hi)):=by
 have h:=ZfO (G:=G) lo hi [n,m] (by simp [Sml])
 simpa [ia] using h
theorem ZfR (g:Nat) (caps:List AV) (p:Nte→Bool) (l:List Nte) (hc:caps.all AV.pure=true) (hl:Sml l)
  (hg:∀ x∈l,PC Tryz.prog G g (.agg (na x)::caps) (.bool (p x))) :
  PC Tryz.prog G 217 [.vsl (l.map na),.func (.func g) [] caps] (.int .i64 (fstOf p l)):=by
 (refine Zfj rfl fun R hG hrd=>GO_AR mixed 1000 ?_;subst hG)
 unfold Sml at hl
 have hc2:∀ x∈caps,x.pure=true:=List.all_eq_true.1 hc
 simp -implicitDefEqProofs [Zfh,Zfi]
 refine Za2 (fun i=>⟨[(8,.int .i64 i),(7,.int .i64 l.length),(0,.vsl (l.map na)),(1,.func (.func g) [] caps)],[]⟩) (fun i=>∀ j (h:j<l.length),j<i→p l[j]=false) l.length (by (first|exact Weak.tm (by simp [lk])|exact Weak.sub (by simp [lk,keptA,AV.keys]) (by simp [lk,keptO,keptA,AV.keys]))) (by simp) ?_ ?_
 · intro i hi he
   refine GO_AR mixed 1000 ?_
   have w1:IntKind.i64.wrap ((i:Int)+1)=((i+1:Nat):Int):=wrapI (by omega) (by omega)
   have hgi:=hg _ (List.getElem_mem hi)
   have hln:(na l[i]).length=10:=rfl
   have htk:(na l[i]).take 10=na l[i]:=rfl
   simp -implicitDefEqProofs [hi,hln,htk]
   refine CallK.of hgi (by simpa [AV.pure,na] using hc2) ?_
   cases h3:p l[i]
   · simp -implicitDefEqProofs [w1]
     refine ⟨(by (first|exact Weak.tm (by simp [lk])|exact Weak.sub (by simp [lk,keptA,AV.keys]) (by simp [lk,keptO,keptA,AV.keys]))),fun j q1 q2=>?_⟩
     by_cases e:j=i
     · subst e;exact h3
     · exact he j q1 (by omega)
   · simp -implicitDefEqProofs
     refine Z2N mixed 1000 ?_
     simp -implicitDefEqProofs [ZaS hi h3 he]
 · intro he
   refine GO_AR mixed 1000 ?_
   simp -implicitDefEqProofs []
   refine Z2N mixed 1000 ?_
   simp -implicitDefEqProofs [ZaT (p:=p) (l:=l) (fun j hj=>he j hj hj)]
theorem ZfS (g:Nat) (caps:List AV) (p:Nte→Bool) (l:List Nte) (hc:caps.all AV.pure=true) (hl:Sml l)
  (hg:∀ x∈l,PC Tryz.prog G g (.agg (na x)::caps) (.bool (p x))) :
  PC Tryz.prog G 210 [.vsl (l.map na),.func (.func g) [] caps] (.bool (l.any p)):=by
 (refine Zfg rfl fun R hG hrd=>GO_AR mixed 1000 ?_;subst hG)
 simp -implicitDefEqProofs [Zfe,Zff]
 have hc2:∀ x∈caps,x.pure=true:=List.all_eq_true.1 hc
 refine CallK.of (ZfR g caps p l hc hl hg) (by simpa [AV.pure] using hc2) ?_
 have e:=ZaU p l
 simp -implicitDefEqProofs [e]
theorem ZfT (a b:Int):PC Tryz.prog G 111 [.vsl [[.int .i64 a],[.int .i64 b]]] (.int .i64 (if a=0 then b else a)):=by
 (refine ZfE rfl fun R hG hrd=>GO_AR mixed 1000 ?_;subst hG)
 simp -implicitDefEqProofs [ZfC,ZfD]
 refine Za2 (fun i=>⟨[(8,.int .i64 i),(7,.int .i64 2),(6,.vsl [[.int .i64 a],[.int .i64 b]]),(3,.int .i64 0)],[]⟩) (fun i=>(0<i→a=0)∧(1<i→b=0)) 2 (by (first|exact Weak.tm (by simp [lk])|exact Weak.sub (by simp [lk,keptA,AV.keys]) (by simp [lk,keptO,keptA,AV.keys]))) (by simp) ?_ ?_
 · intro i hi he
   refine GO_AR mixed 1000 ?_
   match i,hi,he with
   | 0,_,_ =>
     have w1:IntKind.i64.wrap 1=1:=rfl
     by_cases h:a=0
     · simp -implicitDefEqProofs [h,w1]
       (first|exact Weak.tm (by simp [lk])|exact Weak.sub (by simp [lk,keptA,AV.keys]) (by simp [lk,keptO,keptA,AV.keys]))
     · simp -implicitDefEqProofs [h]
       refine Z2N mixed 1000 ?_
       simp -implicitDefEqProofs [h]
   | 1,_,he =>
     have h0:=he.1 (by omega)
     have w1:IntKind.i64.wrap 2=2:=rfl
     by_cases h:b=0
     · simp -implicitDefEqProofs [h,w1]
       exact ⟨(by (first|exact Weak.tm (by simp [lk])|exact Weak.sub (by simp [lk,keptA,AV.keys]) (by simp [lk,keptO,keptA,AV.keys]))),h0⟩
     · simp -implicitDefEqProofs [h]
       refine Z2N mixed 1000 ?_
       simp -implicitDefEqProofs [h,h0]
 · rintro ⟨h0,h1⟩
   refine GO_AR mixed 1000 ?_
   have e0:=h0 (by omega)
   have e1:=h1 (by omega)
   simp -implicitDefEqProofs []
   refine Z2N mixed 1000 ?_
   simp -implicitDefEqProofs [e0,e1]
theorem ZfU (x y:Nte):PC Tryz.prog G 211 [.agg (na y),.vptr (na x) 0] (.bool (decide (y.nu=x.ca))):=by
 (refine ZeK rfl fun R hG hrd=>GO_AR mixed 1000 ?_;subst hG)
 simp -implicitDefEqProofs [ZeI,ZeJ,na]
section
variable (r:List Iss) (l:List Nte) (i:Nat) (hi:i<l.length) (hw:WfN l) (hr:Wf r)
include hi hw hr
theorem ZfV:PC Tryz.prog G 203 [.agg [.vsl (r.map isa),.vsl (l.map na)],.int .i64 i] (.bool (cN1 (nAt l i))):=by
 rw [ZcP hi]
 (refine Zes rfl fun R hG hrd=>GO_AR mixed 1000 ?_;subst hG)
 simp -implicitDefEqProofs [Zeq,Zer,hi,na]
 (first|refine CallK.of (ZfP 1 9999 l[i].nu) (by simp) ?_|refine CallD.of (ZfP 1 9999 l[i].nu) (by simp) ?_)
 cases h1:inR l[i].nu 1 9999
 · simp -implicitDefEqProofs [cN1,h1]
 simp -implicitDefEqProofs [hi,na]
 (first|refine CallK.of (ZfP 0 14610 l[i].dy) (by simp) ?_|refine CallD.of (ZfP 0 14610 l[i].dy) (by simp) ?_)
 simp -implicitDefEqProofs [cN1,h1]
theorem ZfW:PC Tryz.prog G 204 [.agg [.vsl (r.map isa),.vsl (l.map na)],.int .i64 i] (.bool (cN2 (nAt l i))):=by
 rw [ZcP hi]
 (refine Zev rfl fun R hG hrd=>GO_AR mixed 1000 ?_;subst hG)
 by_cases h1:l[i].sg≤2 <;> by_cases h2:l[i].wy≤3 <;> simp -implicitDefEqProofs [Zet,Zeu,hi,na,cN2,h1,h2]
theorem ZfX:PC Tryz.prog G 205 [.agg [.vsl (r.map isa),.vsl (l.map na)],.int .i64 i] (.bool (cN3 (nAt l i))):=by
 rw [ZcP hi]
 (refine Zey rfl fun R hG hrd=>GO_AR mixed 1000 ?_;subst hG)
 simp -implicitDefEqProofs [Zew,Zex,hi,na]
 (first|refine CallK.of (ZfQ 1 999 l[i].fr l[i].tu) (by simp) ?_|refine CallD.of (ZfQ 1 999 l[i].fr l[i].tu) (by simp) ?_)
 cases h1:inR l[i].fr 1 999&&inR l[i].tu 1 999
 · simp -implicitDefEqProofs [cN3,h1]
 · by_cases h2:l[i].fr≤l[i].tu <;> simp -implicitDefEqProofs [cN3,h1,h2]
end
section
variable (hG:GC G) (r:List Iss) (l:List Nte) (i:Nat) (hi:i<l.length) (hw:WfN l) (hr:Wf r)
include hi hw hr
include hG in
theorem ZfY (ho:openV r=0):PC Tryz.prog G 206 [.agg [.vsl (r.map isa),.vsl (l.map na)],.int .i64 i] (.bool (cN4 r (nAt l i))):=by
 rw [ZcP hi]
 have ha:=at_pc hG r l[i].dr l[i].lt hr
 rw [rega]at ha
 obtain ⟨x,hxx⟩ : ∃ x,x=l[i]:=⟨_,rfl⟩
 rw [← hxx]at ha ⊢
 have hlx:l[i]=x:=hxx.symm
 have hna:na x=[.int .i64 x.nu,.int .i64 x.dy,.int .u8 x.sg,.int .i64 x.dr,.int .i64 x.lt,.int .i64 x.fr,.int .i64 x.tu,.int .i64 x.ca,.bool x.up,.int .u8 x.wy]:=rfl
 have he:(atP r x.dr x.lt).2=0↔(findN x.dr x.lt r).isSome=true:=by
  unfold atP
  rw [if_pos ho]
  cases findN x.dr x.lt r <;> simp
 (refine ZeB rfl fun R hG hrd=>GO_AR mixed 1000 ?_;subst hG)
 by_cases hz:x.dr=0∧x.lt=0
 · simp -implicitDefEqProofs [Zez,ZeA,hi,hlx,hna,hz.1,hz.2,cN4]
 · have hz1:¬(0=x.dr∧0=x.lt):=fun h=>hz ⟨h.1.symm,h.2.symm⟩
   have e4:cN4 r x=decide ((atP r x.dr x.lt).2=0):=by
    rw [cN4,if_neg hz]
    cases q:(findN x.dr x.lt r).isSome
    · rw [eq_comm,decide_eq_false_iff_not,he,q];simp
    · rw [eq_comm,decide_eq_true_eq,he,q]
   rw [e4]
   have ey:isa (atP r x.dr x.lt).1=[.int .i64 (atP r x.dr x.lt).1.d,.int .i64 (atP r x.dr x.lt).1.l,.int .u8 (atP r x.dr x.lt).1.k,.vsl ((atP r x.dr x.lt).1.its.map ita),.vsl ((atP r x.dr x.lt).1.dms.map dma)]:=rfl
   rw [ey]at ha
   generalize atP r x.dr x.lt=v at *
   by_cases q1:x.dr=0
   · have q2:¬x.lt=0:=fun h=>hz ⟨q1,h⟩
     have q2':¬0=x.lt:=fun h=>q2 h.symm
     rw [q1]at ha
     simp -implicitDefEqProofs [Zez,ZeA,hi,hlx,hna,q1,q2,q2']
     (first|refine CallK.of (ha) (by simp) ?_|refine CallD.of (ha) (by simp) ?_)
     simp -implicitDefEqProofs []
   · have q1':¬0=x.dr:=fun h=>q1 h.symm
     simp -implicitDefEqProofs [Zez,ZeA,hi,hlx,hna,q1,q1']
     (first|refine CallK.of (ha) (by simp) ?_|refine CallD.of (ha) (by simp) ?_)
     simp -implicitDefEqProofs []
theorem ZfZ:PC Tryz.prog G 208 [.agg [.vsl (r.map isa),.vsl (l.map na)],.int .i64 i] (.bool (cN5 (nAt l i))):=by
 rw [ZcP hi]
 (refine ZeE rfl fun R hG hrd=>GO_AR mixed 1000 ?_;subst hG)
 by_cases h1:2≤l[i].lt
 · simp -implicitDefEqProofs [ZeC,ZeD,hi,na,cN5,h1]
 · cases h2:l[i].up
   · by_cases h3:l[i].wy=0 <;> simp -implicitDefEqProofs [ZeC,ZeD,hi,na,cN5,h1,h2,h3]
   · simp -implicitDefEqProofs [ZeC,ZeD,hi,na,cN5,h1,h2]
theorem Zg0:PC Tryz.prog G 209 [.agg [.vsl (r.map isa),.vsl (l.map na)],.int .i64 i] (.bool (cN6 l i (nAt l i))):=by
 have hl:=hw.1
 unfold Sml at hl
 rw [ZcP hi]
 obtain ⟨x,hxx⟩ : ∃ x,x=l[i]:=⟨_,rfl⟩
 rw [← hxx]
 have hlx:l[i]=x:=hxx.symm
 have hna:na x=[.int .i64 x.nu,.int .i64 x.dy,.int .u8 x.sg,.int .i64 x.dr,.int .i64 x.lt,.int .i64 x.fr,.int .i64 x.tu,.int .i64 x.ca,.bool x.up,.int .u8 x.wy]:=rfl
 have hc:=ZfS (G:=G) 211 [.vptr (na x) 0] (fun y=>decide (y.nu=x.ca)) (l.take i) (by simp [AV.pure,na]) (by unfold Sml;simp;omega) (fun y _=>ZfU x y)
 have i1:i≤l.length:=by omega
 have bl:∀ x:Nte,(na x).length=10:=fun _=>rfl
 rw [List.map_take]at hc
 have pu:∀ x∈List.take i (List.map na l),∀ y∈x,y.pure=true:=fun x hx y hy=>by
  obtain ⟨z,-,rfl⟩:=List.mem_map.1 (List.mem_of_mem_take hx)
  simp only [na,List.mem_cons,List.not_mem_nil,or_false]at hy
  rcases hy with rfl|rfl|rfl|rfl|rfl|rfl|rfl|rfl|rfl|rfl <;> simp [AV.pure]
 (refine ZeH rfl fun R hG hrd=>GO_AR mixed 1000 ?_;subst hG)
 by_cases h1:x.ca=0
 · simp -implicitDefEqProofs [ZeF,ZeG,hi,hlx,hna,cN6,h1]
 · simp -implicitDefEqProofs [ZeF,ZeG,hi,hlx,hna,cN6,h1,i1,bl]
   rw [hna]at hc
   refine CallK.flat hc (by simp [AV.flat]) (by simp) ?_
   simp -implicitDefEqProofs []
theorem Zg1:PC Tryz.prog G 214 [.agg [.vsl (r.map isa),.vsl (l.map na)],.int .i64 i] (.bool (cN8 l i (nAt l i))):=by
 have hl:=hw.1
 unfold Sml at hl
 cases i with
 | zero =>
   (refine ZeT rfl fun R hG hrd=>GO_AR mixed 1000 ?_;subst hG)
   simp -implicitDefEqProofs [ZeR,ZeS,cN8]
   rfl
 | succ k =>
   have hk:k<l.length:=by omega
   have w1:IntKind.i64.wrap ((k:Int)+1-1)=(k:Int):=by rw [wrapI (by omega) (by omega)];omega
   have w2:IntKind.i64.wrap (k:Int)=(k:Int):=wrapI (by omega) (by omega)
   have i0:¬(k:Int)+1=0:=by omega
   have k1:(0:Int)≤(k:Int)+1:=by omega
   have k2:((k:Int)+1).toNat=k+1:=by omega
   have e8:cN8 l (k+1) (nAt l (k+1))=(decide (l[k].dy<l[k+1].dy)||(decide (l[k].dy=l[k+1].dy)&&decide (l[k].nu<l[k+1].nu))):=by rw [cN8,ZcP hk,ZcP hi]
   have hc1:=Zby (G:=G) l[k].dy l[k+1].dy
   have hc2:=Zby (G:=G) l[k].nu l[k+1].nu
   have hR:∀ a b:AV,(List.range 2).map (fun i=>List.take 1 (List.drop i [a,b]))=[[a],[b]]:=fun _ _=>rfl
   obtain ⟨a,b,ha,hb,hv⟩ : ∃ a b:Int,(if l[k].dy<l[k+1].dy then (-1:Int) else if l[k+1].dy<l[k].dy then 1 else 0)=a∧(if l[k].nu<l[k+1].nu then (-1:Int) else if l[k+1].nu<l[k].nu then 1 else 0)=b∧decide ((if a=0 then b else a)<0)=(decide (l[k].dy<l[k+1].dy)||(decide (l[k].dy=l[k+1].dy)&&decide (l[k].nu<l[k+1].nu))):=by
    refine ⟨_,_,rfl,rfl,?_⟩
    rcases Int.lt_trichotomy l[k].dy l[k+1].dy with q|q|q
    · simp [q]
    · rw [q]
      rcases Int.lt_trichotomy l[k].nu l[k+1].nu with q2|q2|q2
      · simp [q2]
      · rw [q2];simp
      · have:¬l[k].nu<l[k+1].nu:=by omega
        simp [q2,this]
    · have h1:¬l[k].dy<l[k+1].dy:=by omega
      have h2:¬l[k].dy=l[k+1].dy:=by omega
      simp [q,h1,h2]
   rw [ha]at hc1
   rw [hb]at hc2
   have ho:=ZfT (G:=G) a b
   rw [e8,← hv]
   clear hv
   generalize (if a=0 then b else a)=c at *
   (refine ZeT rfl fun R hG hrd=>GO_AR mixed 1000 ?_;subst hG)
   simp -implicitDefEqProofs [ZeR,ZeS,hi,hk,w1,w2,i0,k1,k2,na]
   (first|refine CallK.of (hc1) (by simp) ?_|refine CallD.of (hc1) (by simp) ?_)
   simp -implicitDefEqProofs [hi,hk,w1,w2,i0,k1,k2,na]
   (first|refine CallK.of (hc2) (by simp) ?_|refine CallD.of (hc2) (by simp) ?_)
   simp -implicitDefEqProofs [hR]
   (first|refine CallK.of (ho) (by simp) ?_|refine CallD.of (ho) (by simp) ?_)
   simp -implicitDefEqProofs []
   rfl
theorem Zg2 (y:Nte):PC Tryz.prog G 213 [.agg (na y),.vptr [.vsl (r.map isa),.vsl (l.map na)] 0,.vptr [.int .i64 i] 0] (.bool (decide (y.nu=(nAt l i).nu))):=by
 rw [ZcP hi]
 (refine ZeQ rfl fun R hG hrd=>GO_AR mixed 1000 ?_;subst hG)
 simp -implicitDefEqProofs [ZeO,ZeP,na,hi]
 rfl
theorem Zg3:PC Tryz.prog G 212 [.agg [.vsl (r.map isa),.vsl (l.map na)],.int .i64 i] (.bool (cN7 l i (nAt l i))):=by
 have hl:=hw.1
 unfold Sml at hl
 have hc:=ZfS (G:=G) 213 [.vptr [.vsl (r.map isa),.vsl (l.map na)] 0,.vptr [.int .i64 i] 0] (fun y=>decide (y.nu=(nAt l i).nu)) (l.take i) (by simp [AV.pure,isa,na]) (by unfold Sml;simp;omega) (fun y _=>Zg2 r l i hi hw hr y)
 have i1:i≤l.length:=by omega
 have bl:∀ x:Nte,(na x).length=10:=fun _=>rfl
 rw [List.map_take]at hc
 have pu:∀ x∈List.take i (List.map na l),∀ y∈x,y.pure=true:=fun x hx y hy=>by
  obtain ⟨z,-,rfl⟩:=List.mem_map.1 (List.mem_of_mem_take hx)
  simp only [na,List.mem_cons,List.not_mem_nil,or_false]at hy
  rcases hy with rfl|rfl|rfl|rfl|rfl|rfl|rfl|rfl|rfl|rfl <;> simp [AV.pure]
 have pn:(l.map na).all (fun r=>r.all AV.pure)=true:=by simp [na,AV.pure]
 have pi:=ZfL r
 have e7:cN7 l i (nAt l i) = !(l.take i).any fun y=>decide (y.nu=(nAt l i).nu):=rfl
 rw [e7]
 (refine ZeN rfl fun R hG hrd=>GO_AR mixed 1000 ?_;subst hG)
 simp -implicitDefEqProofs [ZeL,ZeM,i1,bl]
 refine CallK.flat hc (by simp [AV.flat]) (by simp [pn,pi]) ?_
 simp -implicitDefEqProofs []
end
end
theorem Zg4 (ok:Nat→Bool) (st:St) (l:List Int):frzO ok st (.row 1 (l.map ia)) = .row 1 (l.map ia):=by
 simp only [frzO,List.map_map]
 congr 2
 funext p;simp [ia,frzA,frz,AV.keys]
theorem Zg5 (ρ:Nat→Nat) (l:List Int):AObj.ren ρ (.row 1 (l.map ia)) = .row 1 (l.map ia):=by
 simp only [AObj.ren,List.map_map]
 congr 2
 funext p;simp [ia,AV.ren]
theorem Zg6 (o:List (Nat×AObj)) (l:List Int):keptO o (.row 1 (l.map ia))=true:=by
 simp only [keptO,List.all_eq_true,List.mem_map]
 rintro x ⟨y,-,rfl⟩ v hv
 simp only [ia,List.mem_singleton]at hv
 subst hv
 simp [keptA,AV.keys]
def Zg7 (S:ByteArray):RCode:=.seq (.reg 0 false [{ d:=some 2,op:=.mov (.c (.int .i64 0)) }]) (.seq (.seq (.reg 1 false [{ d:=some 3,op:=.mov (.t 0) },{ d:=some 4,op:=.bin .geq (.t 3) (.c (.int .u64 4294967296)) }]) (.cond (.t 4) (.seq (.reg 2 false [{ d:=some 5,op:=.mov (.t 0) },{ d:=some 6,op:=.vop (.sh false) [(.t 5),(.c (.int .u64 32))] },{ d:=some 0,op:=.mov (.t 6) }]) (.reg 3 false [{ d:=some 2,op:=.mov (.c (.int .i64 32)) }])) (.skip))) (.seq (.seq (.reg 4 false [{ d:=some 7,op:=.mov (.t 0) },{ d:=some 8,op:=.bin .geq (.t 7) (.c (.int .u64 65536)) }]) (.cond (.t 8) (.seq (.reg 5 false [{ d:=some 9,op:=.mov (.t 0) },{ d:=some 10,op:=.vop (.sh false) [(.t 9),(.c (.int .u64 16))] },{ d:=some 0,op:=.mov (.t 10) }]) (.reg 6 false [{ d:=some 11,op:=.mov (.t 2) },{ d:=some 12,op:=.bin .add (.t 11) (.c (.int .i64 16)) },{ d:=some 2,op:=.mov (.t 12) }])) (.skip))) (.seq (.seq (.reg 7 false [{ d:=some 13,op:=.mov (.t 0) },{ d:=some 14,op:=.bin .geq (.t 13) (.c (.int .u64 256)) }]) (.cond (.t 14) (.seq (.reg 8 false [{ d:=some 15,op:=.mov (.t 0) },{ d:=some 16,op:=.vop (.sh false) [(.t 15),(.c (.int .u64 8))] },{ d:=some 0,op:=.mov (.t 16) }]) (.reg 9 false [{ d:=some 17,op:=.mov (.t 2) },{ d:=some 18,op:=.bin .add (.t 17) (.c (.int .i64 8)) },{ d:=some 2,op:=.mov (.t 18) }])) (.skip))) (.seq (.reg 10 false [{ d:=some 19,op:=.mov (.t 2) },{ d:=some 20,op:=.mov (.t 0) },{ d:=some 21,op:=.conv .u8 (.t 20) },{ d:=some 22,op:=.vop .sidx [(.c (.str S)),(.t 21)] },{ d:=some 23,op:=.conv .i64 (.t 22) },{ d:=some 24,op:=.bin .add (.t 19) (.t 23) },{ d:=some 2,op:=.mov (.t 24) }]) (.ret))))) 
section
variable {G:Nat→Option (List AV)}
set_option maxHeartbeats 1000000 in
theorem Zg8 (l:List Int) (a b:Nat) (h1:a≤b) (h2:b≤l.length) (h3:l.length≤1000) :
  PB Tryz.prog G 122 [(1000,.row 1 (l.map ia))] [.osl 1000 l.length,.int .i64 a,.int .i64 b] (.tup []) [(1000,.row 1 ((srtI l a b).map ia))]:=by
 (refine ZfB (Nat.le_of_ble_eq_true rfl) fun R hG hrd=>GO_AR mixed 1000 ?_;subst hG)
 have w1:IntKind.i64.wrap ((a:Int)+1)=a+1:=wrapI (by omega) (by omega)
 simp -implicitDefEqProofs [Zfy,Zfz,w1]
 refine Za2 (fun i=>⟨[(6,.int .i64 ((a:Int)+1+i)),(0,.osl 1000 l.length),(1,.int .i64 a),(2,.int .i64 b)],[(1000,.row 1 ((srtI l a (a+1+i)).map ia))]⟩) (fun i=>True) (b-(a+1)) ?_ trivial ?_ ?_
 · rw [Zd6 (by omega) (by omega)]
   (refine Weak.sub (by simp [lk,keptA,AV.keys]) ?_;simp only [Wkl,Zg6,and_true];(try simp [lk,keptO,keptA,AV.keys]))
 · intro i hi _
   refine GO_AR mixed 1000 ?_
   have k1:(a:Int)+1+i<b:=by omega
   simp -implicitDefEqProofs [k1]
   have hI:a+1+i<l.length:=by omega
   have z:=Zd8 (l:=l) (a:=a) (i:=a+1+i) (by omega) hI
   have z0:a+1+i-a=i+1:=by omega
   rw [z0]at z
   rw [z]
   have hat:=fun p (hp:p+1≤a+1+i-a)=>Zdb (l:=l) (a:=a) (i:=a+1+i) (p:=p) (by omega) hI hp
   have hend:=fun p=>Zdc (l:=l) (a:=a) (i:=a+1+i) (p:=p) (by omega) hI
   have hln:=fun p (hp:p≤a+1+i-a)=>Zd9 (l:=l) (a:=a) (i:=a+1+i) (p:=p) (by omega) hI hp
   have hsl:=Zd7 (l:=l) (a:=a) (i:=a+1+i) (by omega)
   generalize hsg:sortI ((l.take (a+1+i)).drop a)=s at *
   generalize hxx:l[a+1+i]=x at *
   refine Z1Q (fun p:Nat=>⟨[(7,.int .i64 ((a:Int)+p)),(6,.int .i64 ((a:Int)+1+i)),(0,.osl 1000 l.length),(1,.int .i64 a),(2,.int .i64 b)],[(1000,.row 1 ((mvI l a (a+1+i) p).map ia))]⟩)
    (fun p=>p≤i+1∧∀ y∈s.drop p,x<y) (fun p=>p) (i+1) ?_ ⟨Nat.le_refl _,fun y hy=>by rw [List.drop_of_length_le (by omega)]at hy;cases hy⟩ ?_
   · have e9:(a:Int)+1+i=(a:Int)+(i+1:Nat):=by omega
     rw [e9]
     (refine Weak.sub (by simp [lk,keptA,AV.keys]) ?_;simp only [Wkl,Zg6,and_true];(try simp [lk,keptO,keptA,AV.keys]))
   · rintro p ⟨hp,hd⟩
     refine GO_AR mixed 1000 ?_
     cases p with
     | zero =>
       have k2:¬(a:Int)<a:=by omega
       simp -implicitDefEqProofs []
       refine ⟨rfl,?_⟩
       refine Z2N mixed 1000 ?_
       have w3:IntKind.i64.wrap ((a:Int)+1+i+1)=(a:Int)+1+(i+1):=by rw [wrapI (by omega) (by omega)];omega
       have he:=hend 0 (Nat.zero_le _) hd (fun q hq=>by omega)
       have he2:a+1+i+1=a+1+(i+1):=by omega
       rw [he2]at he
       rw [he]
       simp -implicitDefEqProofs [w3]
       (refine Weak.sub (by simp [lk,keptA,AV.keys]) ?_;simp only [Wkl,Zg6,and_true];(try simp [lk,keptO,keptA,AV.keys]))
     | succ p =>
       obtain ⟨y,hy0,hy1,hy2,hy3,hy4⟩:=hat p (by omega)
       have hl2:=hln (p+1) (by omega)
       have k2:(a:Int)<(a:Int)+(p+1):=by omega
       have k3:((a:Int)+(p+1)).toNat=a+p+1:=by omega
       have w2:IntKind.i64.wrap ((a:Int)+(p+1)-1)=(a:Int)+p:=by rw [wrapI (by omega) (by omega)];omega
       have k4:((a:Int)+p).toNat=a+p:=by omega
       have k5:a+p+1<l.length:=by omega
       have k6:a+p<l.length:=by omega
       have k7:(0:Int)≤(a:Int)+(p+1):=by omega
       have k8:(0:Int)≤(a:Int)+p:=by omega
       have he:=hend (p+1) (by omega) hd
       generalize mvI l a (a+1+i) (p+1)=Q at *
       obtain ⟨q1,g1⟩:=List.getElem?_eq_some_iff.1 hy1
       obtain ⟨q2,g2⟩:=List.getElem?_eq_some_iff.1 hy2
       have hls:=Zbk (G:=R.G) x y
       simp -implicitDefEqProofs [k2,k3,w2,k4,k5,k6,k7,k8,g1,g2,hl2,ia]
       (first|refine CallK.of (hls) (by simp) ?_|refine CallD.of (hls) (by simp) ?_)
       by_cases hlt:x<y
       · simp -implicitDefEqProofs [hlt,k3,w2,k4,k5,k6,k7,k8,g1,g2,hl2,ia]
         refine ⟨rfl,rfl,p,?_,⟨by omega,fun u hu=>?_⟩,Nat.lt_succ_self _⟩
         · have e1:∀ z:Int,[AV.int .i64 z]=ia z:=fun _=>rfl
           rw [e1,e1,← List.map_set,← List.map_set,hy3]
           (refine Weak.sub (by simp [lk,keptA,AV.keys]) ?_;simp only [Wkl,Zg6,and_true];(try simp [lk,keptO,keptA,AV.keys]))
         · obtain ⟨hps,gs⟩:=List.getElem?_eq_some_iff.1 hy0
           rw [List.drop_eq_getElem_cons hps,gs]at hu
           rcases List.mem_cons.1 hu with rfl|hu
           · exact hlt
           · exact hd u hu
       · simp -implicitDefEqProofs [hlt]
         refine ⟨rfl,?_⟩
         refine Z2N mixed 1000 ?_
         have w3:IntKind.i64.wrap ((a:Int)+1+i+1)=(a:Int)+1+(i+1):=by rw [wrapI (by omega) (by omega)];omega
         have he:=he (fun q hq u hu hk=>by
          have:q=p:=by omega
          subst this
          rw [hy0]at hu
          cases hu
          exact hlt hk)
         have he2:a+1+i+1=a+1+(i+1):=by omega
         rw [he2]at he
         rw [he]
         simp -implicitDefEqProofs [w3]
         (refine Weak.sub (by simp [lk,keptA,AV.keys]) ?_;simp only [Wkl,Zg6,and_true];(try simp [lk,keptO,keptA,AV.keys]))
 · intro _
   refine GO_AR mixed 1000 ?_
   have k1:¬(a:Int)+1+(b-(a+1):Nat)<b:=by omega
   have e:srtI l a (a+1+(b-(a+1)))=srtI l a b:=by
    rcases Nat.lt_or_ge a b with h|h
    · congr 1;omega
    · rw [Zd6 (by omega) (by omega),Zd6 (by omega) (by omega)]
   rw [e]
   simp -implicitDefEqProofs [k1]
   refine Z2N mixed 1000 ?_
   simp -implicitDefEqProofs []
   refine ⟨[],rfl,rfl,?_⟩
   simp [frzSt,newK,Zg4]
theorem Zg9 (l:List Int):srtI l 0 l.length=sortI l:=by simp [srtI]
theorem Zga (l:List Int) (m:Int) (h3:l.length≤12) :
  PB Tryz.prog G 91 [(1000,.row 1 (l.map ia))] [.osl 1000 l.length,.int .i64 0,.int .i64 l.length,.int .i64 m] (.tup []) [(1000,.row 1 ((sortI l).map ia))]:=by
 have hp:=Zg8 (G:=G) l 0 l.length (Nat.zero_le _) (Nat.le_refl _) (by omega)
 rw [Zg9]at hp
 (refine Zfx (Nat.le_of_ble_eq_true rfl) fun R hG hrd=>GO_AR mixed 1000 ?_;subst hG)
 have w1:IntKind.i64.wrap (l.length:Int)=(l.length:Int):=wrapI (by omega) (by omega)
 have k1:(l.length:Int)≤12:=by omega
 simp -implicitDefEqProofs [Zfu,Zfv]
 refine Z1Q (fun _:Unit=>⟨[(0,.osl 1000 l.length),(1,.int .i64 0),(2,.int .i64 l.length)],[(1000,.row 1 (l.map ia))]⟩) (fun _=>True) (fun _=>0) () ?_ trivial ?_
 · (refine Weak.sub (by simp [lk,keptA,AV.keys]) ?_;simp only [Wkl,Zg6,and_true];(try simp [lk,keptO,keptA,AV.keys]))
 rintro ⟨⟩ -
 refine GO_AR mixed 1000 ?_
 simp -implicitDefEqProofs [w1,k1,h3]
 refine CallK.sem (Z1B.byref hp id (by simp) (by simp) (by simp [St.get,lk,Zg5]) (by simp [Zg6]) (by simp [keptA,AV.keys,lk]) rfl (by simp [AV.ren]) rfl rfl) ?_
 simp -implicitDefEqProofs [setsB,Zg5]
 refine Z2N mixed 1000 ?_
 simp -implicitDefEqProofs []
 refine ⟨[],rfl,rfl,?_⟩
 simp [frzSt,newK,Zg4]
set_option maxRecDepth 100000 in
theorem Zgb (n:Nat) (h:n≤12):∃ v:Int,PC Tryz.prog G 132 [.int .u64 n] (.int .i64 v):=by
 have k1:¬(4294967296:Int)≤n:=by omega
 have k2:¬(65536:Int)≤n:=by omega
 have k3:¬(256:Int)≤n:=by omega
 obtain ⟨S,hS,hz⟩ : ∃ S,ZfI=Zg7 S∧S.size=256:=⟨_,rfl,rfl⟩
 have hn:n<S.size:=by omega
 obtain ⟨c,hc⟩ : ∃ c,S[n]? = some c:=⟨S[n],getElem?_pos S n hn⟩
 have w1:IntKind.u8.wrap (n:Int)=(n:Int):=by
  match n,h with
  |0,_=>rfl
  |1,_=>rfl
  |2,_=>rfl
  |3,_=>rfl
  |4,_=>rfl
  |5,_=>rfl
  |6,_=>rfl
  |7,_=>rfl
  |8,_=>rfl
  |9,_=>rfl
  |10,_=>rfl
  |11,_=>rfl
  |12,_=>rfl
 refine ⟨IntKind.i64.wrap (0+IntKind.i64.wrap (c.toNat:Int)),?_⟩
 refine ZfK rfl fun R hG hrd=>?_
 rw [hS]
 refine GO_AR mixed 1000 ?_
 simp -implicitDefEqProofs [Zg7,ZfJ,k1,k2,k3,w1,hc]
theorem Zgc (n:Nat) (h:n≤12):∃ v:Int,PC Tryz.prog G 92 [.int .u64 n] (.int .i64 v):=by
 obtain ⟨v,hv⟩:=Zgb (G:=G) n h
 refine ⟨v,?_⟩
 (refine ZfH rfl fun R hG hrd=>GO_AR mixed 1000 ?_;subst hG)
 simp -implicitDefEqProofs [ZfF,ZfG]
 (first|refine CallK.of (hv) (by simp) ?_|refine CallD.of (hv) (by simp) ?_)
 simp -implicitDefEqProofs []
theorem Zgd (l:List Int) (h3:l.length≤12) :
  PB Tryz.prog G 54 [(1000,.row 1 (l.map ia))] [.osl 1000 l.length] (.tup []) [(1000,.row 1 ((sortI l).map ia))]:=by
 obtain ⟨v,hv⟩:=Zgc (G:=G) l.length h3
 have hp:=Zga (G:=G) l v h3
 (refine Zft (Nat.le_of_ble_eq_true rfl) fun R hG hrd=>GO_AR mixed 1000 ?_;subst hG)
 have w1:IntKind.u64.wrap (l.length:Int)=(l.length:Int):=IntWalk.u64_in _ ⟨by omega,by omega⟩
 simp -implicitDefEqProofs [Zfq,Zfr,w1]
 (first|refine CallK.of (hv) (by simp) ?_|refine CallD.of (hv) (by simp) ?_)
 simp -implicitDefEqProofs []
 refine CallK.sem (Z1B.byref hp id (by simp) (by simp) (by simp [St.get,lk,Zg5]) (by simp [Zg6]) (by simp [keptA,AV.keys,lk]) rfl (by simp [AV.ren]) rfl rfl) ?_
 simp -implicitDefEqProofs [setsB,Zg5]
 refine ⟨[],rfl,rfl,?_⟩
 simp [frzSt,newK,Zg4]
theorem Zge:PC Tryz.prog G 122 [.nils,.int .i64 0,.int .i64 0] (.tup []):=by
 (refine ZfA rfl fun R hG hrd=>GO_AR mixed 1000 ?_;subst hG)
 have w1:IntKind.i64.wrap 1=1:=rfl
 simp -implicitDefEqProofs [Zfy,Zfz,w1]
 refine Z1Q (fun _:Unit=>⟨[(6,.int .i64 1),(2,.int .i64 0)],[]⟩) (fun _=>True) (fun _=>0) () (by (first|exact Weak.tm (by simp [lk])|exact Weak.sub (by simp [lk,keptA,AV.keys]) (by simp [lk,keptO,keptA,AV.keys]))) trivial ?_
 rintro ⟨⟩ -
 refine GO_AR mixed 1000 ?_
 simp -implicitDefEqProofs []
 refine Z2N mixed 1000 ?_
 simp -implicitDefEqProofs []
theorem Zgf (m:Int):PC Tryz.prog G 91 [.nils,.int .i64 0,.int .i64 0,.int .i64 m] (.tup []):=by
 (refine Zfw rfl fun R hG hrd=>GO_AR mixed 1000 ?_;subst hG)
 have w1:IntKind.i64.wrap 0=0:=rfl
 simp -implicitDefEqProofs [Zfu,Zfv]
 refine Z1Q (fun _:Unit=>⟨[(0,.nils),(1,.int .i64 0),(2,.int .i64 0)],[]⟩) (fun _=>True) (fun _=>0) () (by (first|exact Weak.tm (by simp [lk])|exact Weak.sub (by simp [lk,keptA,AV.keys]) (by simp [lk,keptO,keptA,AV.keys]))) trivial ?_
 rintro ⟨⟩ -
 refine GO_AR mixed 1000 ?_
 simp -implicitDefEqProofs [w1]
 (first|refine CallK.of (Zge) (by simp) ?_|refine CallD.of (Zge) (by simp) ?_)
 simp -implicitDefEqProofs []
 refine Z2N mixed 1000 ?_
 simp -implicitDefEqProofs []
theorem Zgg:PC Tryz.prog G 54 [.nils] (.tup []):=by
 obtain ⟨v,hv⟩:=Zgc (G:=G) 0 (by omega)
 have w1:IntKind.u64.wrap 0=0:=rfl
 (refine Zfs rfl fun R hG hrd=>GO_AR mixed 1000 ?_;subst hG)
 simp -implicitDefEqProofs [Zfq,Zfr,w1]
 (first|refine CallK.of (hv) (by simp) ?_|refine CallD.of (hv) (by simp) ?_)
 simp -implicitDefEqProofs []
 (first|refine CallK.of (Zgf v) (by simp) ?_|refine CallD.of (Zgf v) (by simp) ?_)
 simp -implicitDefEqProofs []
end
def K8n:List AV:=[.func (.func 203) [] [],.func (.func 204) [] [],.func (.func 205) [] [],.func (.func 206) [] [],.func (.func 208) [] [],.func (.func 209) [] [],.func (.func 212) [] [],.func (.func 214) [] []]
def GN (G:Nat→Option (List AV)):Prop:=G 2=some K8n
def ckK (r:List Iss) (l:List Nte) (i:Nat):Nat→Bool
 |0=>cN1 (nAt l i)
 |1=>cN2 (nAt l i)
 |2=>cN3 (nAt l i)
 |3=>cN4 r (nAt l i)
 |4=>cN5 (nAt l i)
 |5=>cN6 l i (nAt l i)
 |6=>cN7 l i (nAt l i)
 |_=>cN8 l i (nAt l i)
theorem Zgh {r:List Iss} {l:List Nte} {i:Nat}:noteB r l i=true↔∀ j,j<8→ckK r l i j=true:=by
 simp only [noteB,Bool.and_eq_true]
 constructor
 · rintro ⟨⟨⟨⟨⟨⟨⟨h1,h2⟩,h3⟩,h4⟩,h5⟩,h6⟩,h7⟩,h8⟩ j hj
   match j,hj with
   |0,_=>exact h1
   |1,_=>exact h2
   |2,_=>exact h3
   |3,_=>exact h4
   |4,_=>exact h5
   |5,_=>exact h6
   |6,_=>exact h7
   |7,_=>exact h8
 · intro h
   exact ⟨⟨⟨⟨⟨⟨⟨h 0 (by omega),h 1 (by omega)⟩,h 2 (by omega)⟩,h 3 (by omega)⟩,h 4 (by omega)⟩,h 5 (by omega)⟩,h 6 (by omega)⟩,h 7 (by omega)⟩
def opA (l:List Nte):AV:=if opU l=[] then .nils else .vsl ((sortI (opU l)).map ia)
def fileA (r:List Iss) (l:List Nte):AV:=.vptr [.vsl (r.map isa),.vsl (l.map na),.vsl ((nums r).map ia),opA l] 0
def opdA (r:List Iss) (l:List Nte):AV:=.tup [if chN r l=0 then fileA r l else .nilp,.int .i64 (chN r l)]
def onu (l:List Nte) (i:Nat):List Int:=(opN l i).map (·.nu)
theorem Zgi {l:List Nte} {i:Nat} (h:i<l.length):onu l (i+1)=if l[i].sg=1 then onu l i++[l[i].nu] else onu l i:=by
 unfold onu;rw [ZcQ h];split
 · rw [List.map_append];rfl
 · rfl
theorem Zgj (l:List Nte) (i:Nat):(onu l i).length≤i:=by unfold onu;rw [List.length_map];exact ZcR l i
def opdT (l:List Nte):List (Nat×AV):=[(31,.int .i64 l.length),(30,.vsl (l.map na)),(6,.ptr 28 0),(7,.bool false),(1,.ptr 1 0)]
def opdO (r:List Iss) (l:List Nte) (i:Nat):List (Nat×AObj):=if onu l i=[] then [(1,.box [.vsl (r.map isa),.vsl (l.map na)]),(28,.box [.vsl (r.map isa),.vsl (l.map na),.vsl ((nums r).map ia),.nils])]
 else [(1,.box [.vsl (r.map isa),.vsl (l.map na)]),(28,.box [.vsl (r.map isa),.vsl (l.map na),.vsl ((nums r).map ia),.osl 59 (onu l i).length]),(59,.row 1 ((onu l i).map ia))]
def opdS (r:List Iss) (l:List Nte) (i:Nat):St:=⟨(32,.int .i64 i)::opdT l,opdO r l i⟩
def opdI (r:List Iss) (l:List Nte) (i:Nat) (x:Nte) (j:Nat):St:=⟨(38,.int .i64 j)::(37,.agg K8n)::(8,.int .i64 i)::(9,.ptr 9 0)::(32,.int .i64 i)::opdT l,(9,.box (na x))::opdO r l i⟩
section
variable {G:Nat→Option (List AV)}
theorem kNall (hG:GC G) {r:List Iss} {l:List Nte} {i:Nat} (hi:i<l.length) (hw:WfN l) (hr:Wf r) (ho:openV r=0) (j:Nat) (hj:j<8) :
  ∃ f,(K8n.drop j).take 1=[.func (.func f) [] []]∧PC Tryz.prog G f [.agg [.vsl (r.map isa),.vsl (l.map na)],.int .i64 i] (.bool (ckK r l i j)):=by
 match j,hj with
 |0,_=>exact ⟨_,rfl,ZfV r l i hi hw hr⟩
 |1,_=>exact ⟨_,rfl,ZfW r l i hi hw hr⟩
 |2,_=>exact ⟨_,rfl,ZfX r l i hi hw hr⟩
 |3,_=>exact ⟨_,rfl,ZfY hG r l i hi hw hr ho⟩
 |4,_=>exact ⟨_,rfl,ZfZ r l i hi hw hr⟩
 |5,_=>exact ⟨_,rfl,Zg0 r l i hi hw hr⟩
 |6,_=>exact ⟨_,rfl,Zg3 r l i hi hw hr⟩
 |7,_=>exact ⟨_,rfl,Zg1 r l i hi hw hr⟩
set_option maxHeartbeats 4000000 in
theorem Zgk (hG:GC G) (hN:GN G) (r:List Iss) (l:List Nte) (hw:WfN l) (hr:Wf r):PC Tryz.prog G 107 [.agg [.vsl (r.map isa),.vsl (l.map na)]] (opdA r l):=by
 have hl:=hw.1
 unfold Sml at hl
 have hd:=Zco hG r hr
 rw [rega]at hd
 unfold GN at hN
 (refine ZeW rfl fun R hG hrd=>GO_AR mixed 1000 ?_;subst hG)
 by_cases ho:openV r=0
 case neg =>
  have e:chN r l=openV r:=by rw [chN,if_neg ho]
  simp -implicitDefEqProofs [ZeU,ZeV]
  (first|refine CallK.of (hd) (by simp) ?_|refine CallD.of (hd) (by simp) ?_)
  simp -implicitDefEqProofs [ho,opdA,e]
 rw [if_pos ho,ho]at hd
 by_cases h12:12<l.length
 · have h12':(12:Int)<l.length:=by omega
   have hB:ZcS r l=false:=by
    have:¬l.length≤12:=by omega
    simp [ZcS,this]
   have e:chN r l=30:=by rw [chN,if_pos ho,hB];rfl
   simp -implicitDefEqProofs [ZeU,ZeV]
   (first|refine CallK.of (hd) (by simp) ?_|refine CallD.of (hd) (by simp) ?_)
   simp -implicitDefEqProofs [opdA,e,h12,h12']
 have h12':¬(12:Int)<l.length:=by omega
 simp -implicitDefEqProofs [ZeU,ZeV]
 (first|refine CallK.of (hd) (by simp) ?_|refine CallD.of (hd) (by simp) ?_)
 simp -implicitDefEqProofs [h12,h12']
 refine Za2 (opdS r l) (fun i=>∀ j,j<i→noteB r l j=true) l.length ?_ (by simp) ?_ ?_
 · have e0:onu l 0=[]:=rfl
   simp only [opdS,opdO,opdT,e0,if_true]
   (refine Weak.sub (by simp [lk,keptA,AV.keys]) ?_;simp only [Wkl,and_true];(try simp [lk,keptO,keptA,AV.keys]))
 · intro i hi he
   refine GO_AR mixed 1000 ?_
   obtain ⟨x,hxx⟩ : ∃ x,x=l[i]:=⟨_,rfl⟩
   have hlx:l[i]=x:=hxx.symm
   have hna:na x=[.int .i64 x.nu,.int .i64 x.dy,.int .u8 x.sg,.int .i64 x.dr,.int .i64 x.lt,.int .i64 x.fr,.int .i64 x.tu,.int .i64 x.ca,.bool x.up,.int .u8 x.wy]:=rfl
   have hk:=kNall hG hi hw hr ho
   have wi:IntKind.i64.wrap ((i:Int)+1)=(i:Int)+1:=wrapI (by omega) (by omega)
   have sc:=Zgi hi
   have ol:=Zgj l i
   rw [hlx]at sc
   have t8:K8n.take 8=K8n:=rfl
   have l8:K8n.length=8:=rfl
   by_cases c:onu l i=[]
   case' pos =>
    simp -implicitDefEqProofs [opdS,opdO,opdT,c,hi,hlx,hna,hN,t8,l8]
   case' neg =>
    simp -implicitDefEqProofs [opdS,opdO,opdT,c,hi,hlx,hna,hN,t8,l8]
   all_goals
    refine Za2 (opdI r l i x) (fun j=>∀ k,k<j→ckK r l i k=true) 8 ?_ (by simp) ?_ ?_
    · simp only [opdI,opdO,opdT,c,if_true,if_false]
      ((try simp only [hna,K8n]);refine Weak.sub (by simp [lk,keptA,AV.keys,hna,K8n]) ?_;simp only [hna,K8n,Wkl,Zg6,and_true];(try simp [lk,keptO,keptA,AV.keys,hna,K8n]))
    · intro j hj hJ
      refine GO_AR mixed 1000 ?_
      obtain ⟨f,hf1,hf2⟩:=hk j hj
      have wj:IntKind.i64.wrap ((j:Int)+1)=(j:Int)+1:=wrapI (by omega) (by omega)
      have j1:(j:Int)<8:=by omega
      have j2:j+1≤8:=by omega
      have j3:j≤7:=by omega
      simp -implicitDefEqProofs [opdI,opdO,opdT,c,j1,j2,j3,l8,hf1,hj]
      (first|refine CallK.of (hf2) (by simp) ?_|refine CallD.of (hf2) (by simp) ?_)
      cases hb:ckK r l i j
      · have hB:ZcS r l=false:=by
         cases q:ZcS r l
         · rfl
         · simp only [ZcS,Bool.and_eq_true]at q
           have h1:=Zam.1 q.1.2 i hi
           have h2:=Zgh.1 h1 j hj
           rw [hb]at h2;cases h2
        have e:chN r l=30:=by rw [chN,if_pos ho,hB];rfl
        simp -implicitDefEqProofs []
        refine Z2N mixed 1000 ?_
        simp -implicitDefEqProofs []
        refine Z2N mixed 1000 ?_
        simp -implicitDefEqProofs [opdA,e]
      · simp -implicitDefEqProofs [wj]
        refine ⟨?_,fun k hk=>?_⟩
        · simp only [opdI,opdO,opdT,c,if_true,if_false]
          ((try simp only [hna,K8n]);refine Weak.sub (by simp [lk,keptA,AV.keys,hna,K8n]) ?_;simp only [hna,K8n,Wkl,Zg6,and_true];(try simp [lk,keptO,keptA,AV.keys,hna,K8n]))
        · rcases Nat.lt_or_ge k j with h1|h1
          · exact hJ k h1
          · obtain rfl:k=j:=by omega
            exact hb
    · intro hJ
      refine GO_AR mixed 1000 ?_
      have hnb:noteB r l i=true:=Zgh.2 hJ
      have he2:∀ j,j<i+1→noteB r l j=true:=fun j hj=>by
       rcases Nat.lt_or_ge j i with h1|h1
       · exact he j h1
       · obtain rfl:j=i:=by omega
         exact hnb
      have bb:((onu l i).length+1)*8≤70368744177664:=by omega
      simp -implicitDefEqProofs [opdI,opdO,opdT,c]
      refine Z2N mixed 1000 ?_
      by_cases q:x.sg=1
      · rw [if_pos q]at sc
        have hne:onu l (i+1)≠[]:=by rw [sc];simp
        simp -implicitDefEqProofs [hna,q,bb,wi]
        refine ⟨rfl,?_,he2⟩
        simp only [opdS,opdO,opdT,hne,if_false]
        have e1:(onu l (i+1)).map ia=(onu l i).map ia++[[AV.int .i64 x.nu]]:=by rw [sc,List.map_append];rfl
        have e2:(onu l (i+1)).length=(onu l i).length+1:=by rw [sc];simp
        first
         |(rw [c,List.nil_append]at sc;rw [sc];((try simp only [ia]);refine Weak.sub (by simp [lk,keptA,AV.keys,ia]) ?_;simp only [ia,Wkl,and_true];(try simp [lk,keptO,keptA,AV.keys,ia]));done)
         |(rw [← e1,e2];(refine Weak.sub (by simp [lk,keptA,AV.keys]) ?_;simp only [Wkl,Zg6,and_true];(try simp [lk,keptO,keptA,AV.keys]));done)
      · rw [if_neg q]at sc
        simp -implicitDefEqProofs [hna,q,wi]
        refine ⟨?_,he2⟩
        simp only [opdS,opdO,opdT,sc,c,if_true,if_false]
        (refine Weak.sub (by simp [lk,keptA,AV.keys]) ?_;simp only [Wkl,Zg6,and_true];(try simp [lk,keptO,keptA,AV.keys]))
 · intro he
   refine GO_AR mixed 1000 ?_
   have hall:(List.range l.length).all (noteB r l)=true:=Zam.2 he
   have hu:onu l l.length=opU l:=rfl
   have hul:=Zgj l l.length
   have hln:(onu l l.length).length=(opN l l.length).length:=by simp [onu]
   have hB:ZcS r l=decide ((opN l l.length).length≤5):=by
    have h2:l.length≤12:=by omega
    simp [ZcS,hall,h2]
   rw [← hln]at hB
   by_cases c:onu l l.length=[]
   · have hB2:ZcS r l=true:=by rw [hB,c];rfl
     have e:chN r l=0:=by rw [chN,if_pos ho,hB2];rfl
     have ea:opA l = .nils:=by rw [opA,← hu,if_pos c]
     simp -implicitDefEqProofs [opdS,opdO,opdT,c]
     refine Z2N mixed 1000 ?_
     simp -implicitDefEqProofs []
     (first|refine CallK.of (Zgg) (by simp) ?_|refine CallD.of (Zgg) (by simp) ?_)
     simp -implicitDefEqProofs [opdA,e,fileA,ea]
   · by_cases h5:5<(onu l l.length).length
     · have h5':(5:Int)<(onu l l.length).length:=by omega
       have hB2:ZcS r l=false:=by rw [hB];exact decide_eq_false (by omega)
       have e:chN r l=30:=by rw [chN,if_pos ho,hB2];rfl
       simp -implicitDefEqProofs [opdS,opdO,opdT,c]
       refine Z2N mixed 1000 ?_
       simp -implicitDefEqProofs [h5,h5',opdA,e]
     · have h5':¬(5:Int)<(onu l l.length).length:=by omega
       have hB2:ZcS r l=true:=by rw [hB];exact decide_eq_true (by omega)
       have e:chN r l=0:=by rw [chN,if_pos ho,hB2];rfl
       have ea:opA l = .vsl ((sortI (opU l)).map ia):=by rw [opA,← hu,if_neg c]
       have hsp:=Zgd (G:=R.G) (onu l l.length) (by omega)
       have pu:((sortI (opU l)).map ia).all (fun r=>r.all AV.pure)=true:=by simp [ia,AV.pure]
       have sl:(sortI (opU l)).length=(onu l l.length).length:=by rw [Zd4,← hu]
       simp -implicitDefEqProofs [opdS,opdO,opdT,c]
       refine Z2N mixed 1000 ?_
       simp -implicitDefEqProofs [h5,h5']
       refine CallK.sem (Z1B.byref hsp (fun _=>59) (by simp) (by simp) (by simp [St.get,lk,Zg5]) (by simp [Zg6]) (by simp [keptA,AV.keys,lk]) rfl (by simp [AV.ren]) rfl rfl) ?_
       rw [hu]
       rw [hu]at sl
       simp -implicitDefEqProofs [setsB,Zg5,opdA,e,fileA,ea,pu,sl]
end
def lfS (U s:List Int) (i:Nat):List Int:=U.filter fun n=>!decide (n∈s.take i)
theorem Zgl {U s:List Int} {i:Nat} (hi:i<s.length) (hU:U.Nodup):(lfS U s i).erase s[i]=lfS U s (i+1):=by
 have hn:(lfS U s i).Nodup:=hU.filter _
 rw [hn.erase_eq_filter]
 unfold lfS
 rw [List.filter_filter]
 refine List.filter_congr fun n _=>?_
 have hm:n∈s.take (i+1)↔(n∈s.take i∨n=s[i]):=by rw [List.take_succ_eq_append_getElem hi,List.mem_append,List.mem_singleton]
 by_cases e:n=s[i]
 · rw [decide_eq_true (hm.2 (.inr e)),bne_eq_false_iff_eq.2 e];rfl
 · by_cases e2:n∈s.take i
   · rw [decide_eq_true (hm.2 (.inl e2)),decide_eq_true e2];simp
   · rw [decide_eq_false (fun h=>(hm.1 h).elim e2 e),decide_eq_false e2];simp [e]
def truI (l:List Nte) (s:List Int) (i:Nat):Prop:=∀ j,j<i→s.getD j 0∈opU l∧(0<j→s.getD (j-1) 0<s.getD j 0)
theorem Zgm {l:List Nte} {s:List Int} {i:Nat} (h:truI l s i):∀ a b,a<b→b<i→s.getD a 0<s.getD b 0
 |a,0,h1,_=>by omega
 | a,b+1,h1,h2=>by
   have h3:=(h (b+1) h2).2 (by omega)
   rw [Nat.add_sub_cancel]at h3
   rcases Nat.lt_or_ge a b with h4|h4
   · have:=Zgm h a b h4 (by omega);omega
   · obtain rfl:a=b:=by omega
     exact h3
theorem Zgn {l:List Nte} {U s:List Int} {i:Nat} (hU:∀ n,n∈U↔n∈opU l) (hi:i<s.length) (h:truI l s i):(s[i]∈lfS U s i∧(0<i→s.getD (i-1) 0≤s[i]))↔truI l s (i+1):=by
 have eg:∀ j,∀ hj:j<s.length,s.getD j 0=s[j]:=fun j hj=>by simp [List.getD_eq_getElem?_getD,hj]
 unfold lfS
 rw [List.mem_filter,hU]
 constructor
 · rintro ⟨⟨h1,h2⟩,h3⟩ j hj
   rcases Nat.lt_or_ge j i with h4|h4
   · exact h j h4
   · obtain rfl:j=i:=by omega
     rw [eg j hi]
     refine ⟨h1,fun h0=>?_⟩
     have h5:=h3 h0
     have hj1:j-1<s.length:=by omega
     have h6:s.getD (j-1) 0≠s[j]:=fun e=>by
      have:s[j]∈s.take j:=by rw [← e,eg _ hj1];rw [List.mem_take_iff_getElem];exact ⟨j-1,by omega,rfl⟩
      simp [this]at h2
     omega
 · intro h1
   have h2:=h1 i (by omega)
   rw [eg i hi]at h2
   refine ⟨⟨h2.1,?_⟩,fun h0=>Int.le_of_lt (h2.2 h0)⟩
   have:s[i] ∉ s.take i:=fun hm=>by
    obtain ⟨j,hj,e⟩:=List.mem_take_iff_getElem.1 hm
    have:=Zgm h1 j i (by omega) (by omega)
    rw [eg i hi,eg j (by omega)]at this
    omega
   simp [this]
theorem Zgo {l:List Nte} {s:List Int}:truB l s=true↔truI l s s.length:=by
 unfold truB truI
 rw [Zam]
 refine forall_congr' fun j=>forall_congr' fun hj=>?_
 rw [Bool.and_eq_true,decide_eq_true_eq]
 refine and_congr_right fun _=>?_
 cases j with
 |zero=>simp
 |succ j=>simp
section
variable {G:Nat→Option (List AV)}
theorem Zgp (l:List Int) (n:Int) (h:Sml l):PC Tryz.prog G 165 [.vsl (l.map ia),.int .i64 n] (.int .i64 (idx l n)):=by
 (refine Zfp rfl fun R hG hrd=>GO_AR mixed 1000 ?_;subst hG)
 unfold Sml at h
 simp -implicitDefEqProofs [Zfn,Zfo]
 refine Za2 (fun i=>⟨[(8,.int .i64 i),(7,.int .i64 l.length),(0,.vsl (l.map ia)),(1,.int .i64 n)],[]⟩) (fun i=>n ∉ l.take i) l.length (by (first|exact Weak.tm (by simp [lk])|exact Weak.sub (by simp [lk,keptA,AV.keys]) (by simp [lk,keptO,keptA,AV.keys]))) (by simp) ?_ ?_
 · intro i hi he
   refine GO_AR mixed 1000 ?_
   have w1:IntKind.i64.wrap ((i:Int)+1)=(i:Int)+1:=wrapI (by omega) (by omega)
   by_cases e:n=l[i]
   · have hm:n∈l:=e ▸ List.getElem_mem hi
     have hix:l.idxOf n=i:=by
      have hs:=List.take_append_drop i l
      rw [List.drop_eq_getElem_cons hi]at hs
      rw [← hs,List.idxOf_append,if_neg he,List.idxOf_cons]
      simp [e];omega
     have e2:idx l n=i:=by rw [idx,if_pos hm,hix]
     simp -implicitDefEqProofs [hi,ia,e]
     refine Z2N mixed 1000 ?_
     rw [e]at e2
     simp -implicitDefEqProofs [e2]
   · simp -implicitDefEqProofs [hi,ia,e,w1]
     refine ⟨by (first|exact Weak.tm (by simp [lk])|exact Weak.sub (by simp [lk,keptA,AV.keys]) (by simp [lk,keptO,keptA,AV.keys])),?_⟩
     rw [List.take_succ_eq_append_getElem hi,List.mem_append,List.mem_singleton]
     exact fun h=>h.elim he e
 · intro he
   rw [List.take_length]at he
   refine GO_AR mixed 1000 ?_
   have e2:idx l n = -1:=by rw [idx,if_neg he]
   simp -implicitDefEqProofs []
   refine Z2N mixed 1000 ?_
   simp -implicitDefEqProofs [e2]
theorem Zgq (l:List Int) (n:Int) (h:Sml l):PC Tryz.prog G 148 [.vsl (l.map ia),.int .i64 n] (.bool (decide (n∈l))):=by
 have hc:=Zgp (G:=G) l n h
 have e:decide (0≤idx l n)=decide (n∈l):=by
  have:=Zat (l:=l) (n:=n)
  by_cases h:n∈l
  · rw [decide_eq_true h,decide_eq_true];have:¬idx l n<0:=fun h2=>(this.1 h2) h
    omega
  · rw [decide_eq_false h,decide_eq_false];have:=this.2 h
    omega
 (refine Zfm rfl fun R hG hrd=>GO_AR mixed 1000 ?_;subst hG)
 simp -implicitDefEqProofs [Zfk,Zfl]
 (first|refine CallK.of (hc) (by simp) ?_|refine CallD.of (hc) (by simp) ?_)
 simp -implicitDefEqProofs [e]
theorem Zgr (o:List (Nat×AObj)) (l:List Int):keptO o (.mp (lfA l))=true:=by
 simp only [keptO,List.all_eq_true,lfA,List.mem_map]
 rintro _ ⟨y,-,rfl⟩
 simp [keptA,AV.keys]
set_option maxHeartbeats 1000000 in
theorem Zgs (r:List Iss) (l:List Nte) (s:List Int) (hs:Sml s) (hU:(opU l).Nodup) (hl:(opU l).length≤12):PC Tryz.prog G 135 [fileA r l,.vsl (s.map ia)] (.int .i64 (if truB l s=true then 0 else 31)):=by
 unfold Sml at hs
 have hUs:(sortI (opU l)).Nodup:=(Zd0 _).symm.nodup hU
 have hsl:=Zd4 (opU l)
 obtain ⟨S,hS⟩ : ∃ S,S=sortI (opU l):=⟨_,rfl⟩
 have hSm:∀ n,n∈S↔n∈opU l:=fun n=>by rw [hS];exact Zd5
 rw [← hS]at hUs hsl
 have hO:(S=[]∧opA l = .nils)∨(S≠[]∧opA l = .vsl (S.map ia)):=by
  by_cases c:opU l=[]
  · exact .inl ⟨List.length_eq_zero_iff.1 (by rw [hsl,c];rfl),by rw [opA,if_pos c]⟩
  · exact .inr ⟨fun e=>c (List.length_eq_zero_iff.1 (by rw [← hsl,e];rfl)),by rw [opA,if_neg c,hS]⟩
 have key : ∀ R:Run,R.G=G→R.Top→∀ (rc:RCode),rc=dropZ 3 Zf0→AR Tryz.prog R rc ⟨[(5,.mp 10),(1,.vsl (s.map ia))],[(10,.mp (lfA S))]⟩ (Fin Zf1 (.int .i64 (if truB l s=true then 0 else 31))):=fun R _ _ rc hrc=>by
  subst hrc
  refine GO_AR mixed 1000 ?_
  simp -implicitDefEqProofs [dropZ,Zf0]
  refine Za2 (fun i=>⟨[(25,.int .i64 i),(24,.int .i64 s.length),(23,.vsl (s.map ia)),(5,.mp 10),(1,.vsl (s.map ia))],[(10,.mp (lfA (lfS S s i)))]⟩) (fun i=>truI l s i) s.length ?_ (fun j hj=>by omega) ?_ ?_
  · have e0:lfS S s 0=S:=by unfold lfS;simp
    ((try simp only [e0]);refine Weak.sub (by simp [lk,keptA,AV.keys,e0]) ?_;simp only [e0,Wkl,Zgr,and_true];(try simp [lk,keptO,keptA,AV.keys,e0]))
  · intro i hi hI
    refine GO_AR mixed 1000 ?_
    have wi:IntKind.i64.wrap ((i:Int)+1)=(i:Int)+1:=wrapI (by omega) (by omega)
    have gl:=ZbN s[i] (lfS S s i)
    have st:=Zgn hSm hi hI
    have le:=Zgl (s:=s) hi hUs
    have no:¬truI l s (i+1)→truB l s=false:=fun h=>by
     cases q:truB l s
     · rfl
     · exact absurd (fun j hj=>Zgo.1 q j (by omega)) h
    by_cases hm:s[i]∈lfS S s i
    · rw [if_pos hm]at gl
      have dl:=ZbQ hm
      rw [le]at dl
      cases i with
      | zero =>
        have w1:IntKind.i64.wrap 1=1:=rfl
        have h1:=st.1 ⟨hm,fun h=>by omega⟩
        simp -implicitDefEqProofs [hi,ia,gl,dl,w1]
        refine ⟨?_,h1⟩
        (refine Weak.sub (by simp [lk,keptA,AV.keys]) ?_;simp only [Wkl,Zgr,and_true];(try simp [lk,keptO,keptA,AV.keys]))
      | succ k =>
        have hk:k<s.length:=by omega
        have k1:(k:Int)+1<s.length:=by omega
        have k2:((k:Int)+1).toNat=k+1:=by omega
        have k3:(0:Int)≤(k:Int)+1:=by omega
        have k4:(0:Int)<(k:Int)+1:=by omega
        have wk:IntKind.i64.wrap ((k:Int)+1-1)=(k:Int):=by rw [wrapI (by omega) (by omega)];omega
        have wk2:IntKind.i64.wrap (k:Int)=(k:Int):=wrapI (by omega) (by omega)
        have wk3:IntKind.i64.wrap ((k:Int)+1+1)=(k:Int)+1+1:=wrapI (by omega) (by omega)
        have eg:s.getD (k+1-1) 0=s[k]:=by simp [List.getD_eq_getElem?_getD,hk]
        rw [eg]at st
        by_cases hlt:s[k+1]<s[k]
        · have hB:=no fun h=>by have:=(st.2 h).2 (by omega);omega
          simp -implicitDefEqProofs [hi,hk,ia,gl,k1,k2,k3,k4,wk,wk2,hlt]
          refine Z2N mixed 1000 ?_
          simp -implicitDefEqProofs [hB,Zf1]
        · have h1:=st.1 ⟨hm,fun _=>by omega⟩
          simp -implicitDefEqProofs [hi,hk,ia,gl,k1,k2,k3,k4,wk,wk2,wk3,hlt,dl]
          refine ⟨?_,h1⟩
          (refine Weak.sub (by simp [lk,keptA,AV.keys]) ?_;simp only [Wkl,Zgr,and_true];(try simp [lk,keptO,keptA,AV.keys]))
    · rw [if_neg hm]at gl
      have hB:=no fun h=>hm (st.2 h).1
      simp -implicitDefEqProofs [hi,ia,gl]
      refine Z2N mixed 1000 ?_
      simp -implicitDefEqProofs [hB,Zf1]
  · intro hI
    have hB:=Zgo.2 hI
    refine GO_AR mixed 1000 ?_
    simp -implicitDefEqProofs []
    refine Z2N mixed 1000 ?_
    simp -implicitDefEqProofs [hB,Zf1]
 refine Zf2 rfl fun R hG hrd=>?_
 have key:=key R hG hrd _ rfl
 rcases hO with ⟨h1,h2⟩ | ⟨h1,h2⟩
 · refine GO_AR mixed 1000 ?_
   simp -implicitDefEqProofs [Zf0,fileA,h2]
   refine Za2 (fun i=>⟨[(16,.int .i64 i),(15,.int .i64 0),(5,.mp 10),(1,.vsl (s.map ia))],[(10,.mp (lfA S))]⟩) (fun _=>True) 0 ?_ trivial (fun i hi=>by omega) ?_
   · have e0:lfA []=[]:=rfl
     ((try simp only [h1,e0]);refine Weak.sub (by simp [lk,keptA,AV.keys,h1,e0]) ?_;simp only [h1,e0,Wkl,Zgr,and_true];(try simp [lk,keptO,keptA,AV.keys,h1,e0]))
   · intro _
     refine GO_AR mixed 1000 ?_
     simp -implicitDefEqProofs []
     refine Z2N mixed 2 ?_
     simp -implicitDefEqProofs []
     refine GOz (Z2M ?_ key)
     (refine Weak.sub (by simp [lk,keptA,AV.keys]) ?_;simp only [Wkl,Zgr,and_true];(try simp [lk,keptO,keptA,AV.keys]))
 · refine GO_AR mixed 1000 ?_
   simp -implicitDefEqProofs [Zf0,fileA,h2]
   refine Za2 (fun i=>⟨[(16,.int .i64 i),(15,.int .i64 S.length),(14,.vsl (S.map ia)),(5,.mp 10),(1,.vsl (s.map ia))],[(10,.mp (lfA (S.take i)))]⟩) (fun _=>True) S.length ?_ trivial ?_ ?_
   · have e0:lfA []=[]:=rfl
     ((try simp only [List.take_zero,e0]);refine Weak.sub (by simp [lk,keptA,AV.keys,List.take_zero,e0]) ?_;simp only [List.take_zero,e0,Wkl,Zgr,and_true];(try simp [lk,keptO,keptA,AV.keys,List.take_zero,e0]))
   · intro i hi _
     refine GO_AR mixed 1000 ?_
     have wi:IntKind.i64.wrap ((i:Int)+1)=(i:Int)+1:=wrapI (by omega) (by omega)
     have hni:S[i] ∉ S.take i:=fun hm=>by
      obtain ⟨j,hj,e⟩:=List.mem_take_iff_getElem.1 hm
      have:=(List.nodup_iff_pairwise_ne.1 hUs)
      have:=List.pairwise_iff_getElem.1 this j i (by omega) hi (by omega)
      exact this e
     have pl:=ZbO hni
     have e1:S.take i++[S[i]]=S.take (i+1):=(List.take_succ_eq_append_getElem hi).symm
     rw [e1]at pl
     simp -implicitDefEqProofs [hi,ia,pl,wi]
     (refine Weak.sub (by simp [lk,keptA,AV.keys]) ?_;simp only [Wkl,Zgr,and_true];(try simp [lk,keptO,keptA,AV.keys]))
   · intro _
     refine GO_AR mixed 1000 ?_
     simp -implicitDefEqProofs []
     refine Z2N mixed 2 ?_
     simp -implicitDefEqProofs []
     refine GOz (Z2M ?_ key)
     ((try simp only [List.take_length]);refine Weak.sub (by simp [lk,keptA,AV.keys,List.take_length]) ?_;simp only [List.take_length,Wkl,Zgr,and_true];(try simp [lk,keptO,keptA,AV.keys,List.take_length]))
end
section
variable {G:Nat→Option (List AV)}
end
section
variable {G:Nat→Option (List AV)}
end
theorem Zgt (o:List (Nat×AObj)) (l:List Int):keptO o (.mp (lfA l))=true:=by
 simp only [keptO,List.all_eq_true,lfA,List.mem_map]
 rintro x ⟨y,-,rfl⟩
 simp [keptA,AV.keys]
section
variable {G:Nat→Option (List AV)}
end
def mpP {α:Type} (n:Int) (v:α):List (Int×α)→List (Int×α)
 |[]=>[(n,v)]
 |p::l=>if n=p.1 then (n,v)::l else p::mpP n v l
theorem Zgu {α:Type} (n:Int) (v:α):∀ (l:List (Int×α)) (m:Int),mlk m (mpP n v l)=if m=n then some v else mlk m l
 |[],m=>by simp [mpP,mlk]
 | p :: l,m=>by
   have ih:=Zgu n v l m
   simp only [mpP]
   by_cases e:n=p.1
   · rw [if_pos e]
     simp only [mlk]
     by_cases e2:m=n
     · rw [if_pos e2,if_pos e2]
     · rw [if_neg e2,if_neg e2,if_neg (by rw [← e];exact e2)]
   · rw [if_neg e]
     simp only [mlk]
     by_cases e2:m=p.1
     · rw [if_pos e2,if_pos e2,if_neg (by rintro rfl;exact e e2)]
     · rw [if_neg e2,if_neg e2];exact ih
theorem Zgv {α:Type} (f:α→AV) (n:Int) (v:α):∀ l:List (Int×α),∃ o:Option Nat,(KK.i .i64).find (.int .i64 n) (mpA f l)=some o∧match o with
  |some j=>mpP n v l=l.set j (n,v)
  |none=>mpP n v l=l++[(n,v)]
 |[]=>⟨none,rfl,rfl⟩
 | p :: r=>by
   obtain ⟨o,h1,h2⟩:=Zgv f n v r
   by_cases e:n=p.1
   · exact ⟨some 0,by simp [mpA,KK.find,KK.eq,e],by simp [mpP,e]⟩
   · refine ⟨o.map (· + 1),?_,?_⟩
     · simp only [mpA,List.map_cons,KK.find,KK.eq,and_self,if_true,e,decide_false]
       rw [show r.map (fun p=>(AV.int .i64 p.1,f p.2))=mpA f r from rfl,h1];rfl
     · cases o with
       |none=>simp only [Option.map_none,mpP,if_neg e,h2];rfl
       |some j=>simp only [Option.map_some,mpP,if_neg e,h2];rfl
theorem Zgw {α:Type} (f:α→AV) (n:Int) (v:α) (l:List (Int×α)):(KK.i .i64).put (.int .i64 n) (f v) (mpA f l)=some (mpA f (mpP n v l)):=by
 obtain ⟨o,h1,h2⟩:=Zgv f n v l
 have hi:(KK.i .i64).is (.int .i64 n)=true:=by simp [KK.is]
 unfold KK.put
 rw [if_pos hi,h1]
 cases o with
 |none=>simp only [h2];simp [mpA]
 |some j=>rw [h2];simp [mpA,List.map_set]
section
variable {G:Nat→Option (List AV)}
end
def ifK (s w:List Int) (m:Int) (l:List Nte):Nat→Nat→List (Int×Bool)→List (Int×Bool)
 |0,_,K=>K
 |n+1,i,K=>if (mlk (i:Int) K).isSome=true then K else mpP (i:Int) (fB s w m l i) ((List.range (l.length-(i+1))).foldl (fun K j=>if (gwB (bsF s w m) (fun x y=>decide (y.ca=x.nu)) l (nAt l i) i (i+1+j)&&decide ((nAt l (i+1+j)).ca=(nAt l i).nu))=true then ifK s w m l n (i+1+j) K else K) K)
def stK (s w:List Int) (m:Int) (l:List Nte) (n i:Nat) (K:List (Int×Bool)) (j:Nat):List (Int×Bool):=if (gwB (bsF s w m) (fun x y=>decide (y.ca=x.nu)) l (nAt l i) i (i+1+j)&&decide ((nAt l (i+1+j)).ca=(nAt l i).nu))=true then ifK s w m l n (i+1+j) K else K
def lpK (s w:List Int) (m:Int) (l:List Nte) (n i:Nat) (K:List (Int×Bool)) (j:Nat):List (Int×Bool):=(List.range j).foldl (stK s w m l n i) K
theorem Zgx {s w:List Int} {m:Int} {l:List Nte} {n i:Nat} {K:List (Int×Bool)}:ifK s w m l (n+1) i K=if (mlk (i:Int) K).isSome=true then K else mpP (i:Int) (fB s w m l i) (lpK s w m l n i K (l.length-(i+1))):=rfl
theorem Zgy {s w:List Int} {m:Int} {l:List Nte} {n i j:Nat} {K:List (Int×Bool)}:lpK s w m l n i K (j+1)=stK s w m l n i (lpK s w m l n i K j) j:=by rw [lpK,List.range_succ,List.foldl_append];rfl
def OkK (s w:List Int) (m:Int) (l:List Nte) (K:List (Int×Bool)):Prop:=∀ (i:Nat) (b:Bool),mlk (i:Int) K=some b→b=fB s w m l i
theorem Zgz {s w:List Int} {m:Int} {l:List Nte}:∀ (n i:Nat) {K:List (Int×Bool)},OkK s w m l K→OkK s w m l (ifK s w m l n i K)
 |0,_,_,h=>h
 | n + 1,i,K,h=>by
   rw [Zgx]
   split
   · exact h
   · have key:∀ j,OkK s w m l (lpK s w m l n i K j):=by
      intro j
      induction j with
      |zero=>exact h
      | succ j ih =>
        rw [Zgy,stK]
        split
        · exact Zgz n _ ih
        · exact ih
     intro k b hb
     rw [Zgu]at hb
     split at hb
     · rename_i e
       have e:k=i:=by omega
       subst e
       exact (Option.some.inj hb).symm
     · exact key _ k b hb
theorem ZgA {s w:List Int} {m:Int} {l:List Nte} {n i:Nat} {K:List (Int×Bool)} (h:OkK s w m l K):∀ j,OkK s w m l (lpK s w m l n i K j)
 |0=>h
 | j+1=>by
   rw [Zgy,stK]
   split
   · exact Zgz n _ (ZgA h j)
   · exact ZgA h j
theorem ZgB {α:Type} {p:α→Bool} {h:α→α→Bool} {l:List α} {x:α} {i:Nat}:∀ {k j:Nat},i<k→k≤j→j≤l.length→gwB p h l x i k=false→gwB p h l x i j=false
 |k,0,h1,h2,_,_=>by omega
 | k,j+1,h1,h2,h3,h4=>by
   rcases Nat.lt_or_ge k (j+1) with h5|h5
   · rw [ZcX (by omega) (by omega),ZgB h1 (by omega:k≤j) (by omega) h4];rfl
   · obtain rfl:k=j+1:=by omega
     exact h4
theorem ZgC {s w:List Int} {m:Int} {l:List Nte} {n i:Nat} {K:List (Int×Bool)} {j:Nat} (hj:gwB (bsF s w m) (fun x y=>decide (y.ca=x.nu)) l (nAt l i) i (i+1+j)=false):∀ j',j≤j'→i+1+j'≤l.length→lpK s w m l n i K j'=lpK s w m l n i K j
 | 0, h, _ => by obtain rfl:j=0:=by omega
                 rfl
 | j'+1,h,h2=>by
   rcases Nat.lt_or_ge j (j'+1) with h5|h5
   · rw [Zgy,stK,ZgB (by omega) (by omega:i+1+j≤i+1+j') (by omega) hj]
     exact ZgC hj j' (by omega) (by omega)
   · obtain rfl:j=j'+1:=by omega
     rfl
theorem ZgD (o:List (Nat×AObj)) (l:List (Int×Bool)):keptO o (.mp (mpA AV.bool l))=true:=by
 simp only [keptO,List.all_eq_true,mpA,List.mem_map]
 rintro _ ⟨y,-,rfl⟩
 simp [keptA,AV.keys]
theorem ZgE (ρ:Nat→Nat) (l:List (Int×Bool)):(mpA AV.bool l).map (fun p=>(p.1.ren ρ,p.2.ren ρ))=mpA AV.bool l:=by
 simp [mpA,Function.comp_def,AV.ren]
theorem ZgF (ok:Nat→Bool) (st:St) (l:List (Int×Bool)):frzO ok st (.mp (mpA AV.bool l)) = .mp (mpA AV.bool l):=by
 simp only [frzO,mpA,List.map_map]
 congr 1
 refine List.map_congr_left fun p _=>?_
 simp [frzA,frz,AV.keys]
def fcO (F sV wV:AV) (m:Int) (K:List (Int×Bool)):List (Nat×AObj) :=
 [(1009,.box [.mp 1011]),(1004,.box [F]),(1005,.box [sV]),(1006,.box [wV]),(1007,.box [.int .i64 m]),(1010,.box [.func (.func 147) [] [.ptr 1009 0,.ptr 1004 0,.ptr 1005 0,.ptr 1006 0,.ptr 1007 0,.ptr 1010 0]]),(1011,.mp (mpA AV.bool K))]
def fcC:List AV:=[.ptr 1009 0,.ptr 1004 0,.ptr 1005 0,.ptr 1006 0,.ptr 1007 0,.ptr 1010 0]
section
variable {G:Nat→Option (List AV)}
def liA (nl:Bool) (s:List Int):AV:=if nl=true∧s=[] then .nils else .vsl (s.map ia)
theorem ZgG (nl:Bool) (s:List Int):(liA nl s).pure=true:=by unfold liA;split <;> simp [AV.pure,ia]
theorem ZgH (nl:Bool) (s:List Int):(liA nl s).keys=[]:=by unfold liA;split <;> simp [AV.keys]
theorem ZgI (ok:Nat→Bool) (st:St) (nl:Bool) (s:List Int):frz ok st 6 (liA nl s)=some (liA nl s):=by unfold liA;split <;> simp [frz,AV.keys]
theorem ZgJ (ρ:Nat→Nat) (nl:Bool) (s:List Int):(liA nl s).ren ρ=liA nl s:=by unfold liA;split <;> simp [AV.ren]
theorem ZgK (ok:Nat→Bool) (st:St) (xs:List AV):frzO ok st (.box xs) = .box (xs.map (frzA ok st)):=rfl
theorem ZgL (n:Int):PC Tryz.prog G 148 [.nils,.int .i64 n] (.bool false):=by
 have hi:PC Tryz.prog G 165 [.nils,.int .i64 n] (.int .i64 (-1)):=by
  (refine Zfp rfl fun R hG hrd=>GO_AR mixed 1000 ?_;subst hG)
  simp -implicitDefEqProofs [Zfn,Zfo]
  refine Za2 (fun i=>⟨[(8,.int .i64 i),(7,.int .i64 0)],[]⟩) (fun i=>True) 0 (by (first|exact Weak.tm (by simp [lk])|exact Weak.sub (by simp [lk,keptA,AV.keys]) (by simp [lk,keptO,keptA,AV.keys]))) trivial (fun i hi=>by omega) ?_
  intro _
  refine GO_AR mixed 1000 ?_
  simp -implicitDefEqProofs []
  refine Z2N mixed 1000 ?_
  simp -implicitDefEqProofs []
 (refine Zfm rfl fun R hG hrd=>GO_AR mixed 1000 ?_;subst hG)
 simp -implicitDefEqProofs [Zfk,Zfl]
 (first|refine CallK.of (hi) (by simp) ?_|refine CallD.of (hi) (by simp) ?_)
 simp -implicitDefEqProofs []
theorem ZgM (nl:Bool) (s:List Int) (n:Int) (h:Sml s):PC Tryz.prog G 148 [liA nl s,.int .i64 n] (.bool (decide (n∈s))):=by
 unfold liA
 split
 · rename_i e;rw [e.2];exact ZgL n
 · exact Zgq s n h
set_option maxHeartbeats 4000000 in
theorem is_pb (r:List Iss) (l:List Nte) (ns nw:Bool) (s w:List Int) (m:Int) (hl:l.length≤12) (hs:Sml s) (hw:Sml w):∀ (n i:Nat) (K:List (Int×Bool)),i<l.length→l.length-i≤n→OkK s w m l K →
  PB Tryz.prog G 147 (fcO (fileA r l) (liA ns s) (liA nw w) m K) (.int .i64 i::fcC) (.bool (fB s w m l i)) (fcO (fileA r l) (liA ns s) (liA nw w) m (ifK s w m l n i K))
 |0,i,K,hi,hn,_=>by omega
 | n + 1, i, K,hi,hn,hK=>by
   have hrec:=fun k K h1 h2 h3=>is_pb r l ns nw s w m hl hs hw n k K h1 h2 h3
   have gK:=Zed AV.bool (i:Int) K
   have hx:=ZcP hi
   have c1:=ZgM (G:=G) ns s (nAt l i).nu hs
   have c2:=ZgM (G:=G) nw w (nAt l i).nu hw
   have c3:=ZfP (G:=G) (nAt l i).fr (nAt l i).tu m
   have fe:=ZcV (p:=bsF s w m) (h:=fun x y:Nte=>decide (y.ca=x.nu)) hi
   have k1:=ZgH ns s
   have k2:=ZgH nw w
   have p1:=ZgG ns s
   have p2:=ZgG nw w
   have r1:=fun ρ=>ZgJ ρ ns s
   have r2:=fun ρ=>ZgJ ρ nw w
   have f1:=fun ok st=>ZgI ok st ns s
   have f2:=fun ok st=>ZgI ok st nw w
   rw [Zgx]
   generalize liA ns s=sV at *
   generalize liA nw w=wV at *
   have hF:fileA r l = .vptr [.vsl (r.map isa),.vsl (l.map na),.vsl ((nums r).map ia),opA l] 0:=rfl
   have fF:∀ ok st,frz ok st 6 (fileA r l)=some (fileA r l):=fun ok st=>by rw [hF];simp [frz,AV.keys]
   have kF:(fileA r l).keys=[]:=by rw [hF];simp [AV.keys]
   refine Zfa (Nat.le_of_ble_eq_true rfl) fun R hG hrd=>?_
   subst hG
   cases q:mlk (i:Int) K with
   | some b =>
     have eb:=hK i b q
     rw [q]at gK
     refine GO_AR mixed 1000 ?_
     simp -implicitDefEqProofs [Zf8,Zf9,fcO,fcC,gK,eb]
     simp -implicitDefEqProofs [FinB,frzSt,newK,ZgF,ZgK,frzA,frz,fF,f1,f2,tupV,Z29,Zf9]
   | none =>
     rw [q]at gK
     have hna:na (nAt l i)=[.int .i64 (nAt l i).nu,.int .i64 (nAt l i).dy,.int .u8 (nAt l i).sg,.int .i64 (nAt l i).dr,.int .i64 (nAt l i).lt,.int .i64 (nAt l i).fr,.int .i64 (nAt l i).tu,.int .i64 (nAt l i).ca,.bool (nAt l i).up,.int .u8 (nAt l i).wy]:=rfl
     rw [← hx]at fe
     have lok:=fun j=>ZgA (n:=n) (i:=i) hK j
     have lsu:=fun j=>Zgy (s:=s) (w:=w) (m:=m) (l:=l) (n:=n) (i:=i) (j:=j) (K:=K)
     have lst:=fun j=>ZgC (s:=s) (w:=w) (m:=m) (l:=l) (n:=n) (i:=i) (K:=K) (j:=j)
     unfold stK at lsu
     have gb:=ZcW (p:=bsF s w m) (h:=fun x y:Nte=>decide (y.ca=x.nu)) (l:=l) (x:=nAt l i) (i:=i)
     have gs:=fun k=>ZcX (p:=bsF s w m) (h:=fun x y:Nte=>decide (y.ca=x.nu)) (l:=l) (x:=nAt l i) (i:=i) (k:=k)
     have gst:=fun k j (h1:i<k) (h2:k≤j) (h3:j≤l.length)=>ZgB (p:=bsF s w m) (h:=fun x y:Nte=>decide (y.ca=x.nu)) (l:=l) (x:=nAt l i) h1 h2 h3
     have fbs:fB s w m l i=gwB (bsF s w m) (fun x y=>decide (y.ca=x.nu)) l (nAt l i) i l.length:=fe
     rw [fbs]
     have pm:=fun b K=>Zgw AV.bool (i:Int) b K
     generalize hxx:nAt l i=x at *
     have hlx:l[i]=x:=hx.symm
     unfold Zf8
     refine ZdV (S:=⟨[(0,.int .i64 i),(1,.ptr 1009 0),(2,.ptr 1004 0),(3,.ptr 1005 0),(4,.ptr 1006 0),(5,.ptr 1007 0),(6,.ptr 1010 0)],fcO (.vptr [.vsl (r.map isa),.vsl (l.map na),.vsl ((nums r).map ia),opA l] 0) sV wV m K⟩) (GO_AR mixed 1000 ?_) ?_
     · simp -implicitDefEqProofs [fcO,fcC,hF]
       ((try simp only [ZgD,k1,k2]);refine Weak.sub (by simp [lk,keptA,AV.keys,ZgD,k1,k2]) ?_;simp only [ZgD,k1,k2,Wkl,and_true];(try simp [lk,keptO,keptA,AV.keys,ZgD,k1,k2]))
     refine ZdV (S:=⟨[(0,.int .i64 i),(1,.ptr 1009 0),(2,.ptr 1004 0),(3,.ptr 1005 0),(4,.ptr 1006 0),(5,.ptr 1007 0),(6,.ptr 1010 0)],fcO (.vptr [.vsl (r.map isa),.vsl (l.map na),.vsl ((nums r).map ia),opA l] 0) sV wV m K⟩) (GO_AR mixed 1000 ?_) ?_
     · simp -implicitDefEqProofs [fcO,gK]
       ((try simp only [ZgD,k1,k2]);refine Weak.sub (by simp [lk,keptA,AV.keys,ZgD,k1,k2]) ?_;simp only [ZgD,k1,k2,Wkl,and_true];(try simp [lk,keptO,keptA,AV.keys,ZgD,k1,k2]))
     refine ZdV (S:=⟨[(0,.int .i64 i),(1,.ptr 1009 0),(2,.ptr 1004 0),(3,.ptr 1005 0),(4,.ptr 1006 0),(5,.ptr 1007 0),(6,.ptr 1010 0),(11,.ptr 11 0)],(11,.box (na x))::fcO (.vptr [.vsl (r.map isa),.vsl (l.map na),.vsl ((nums r).map ia),opA l] 0) sV wV m K⟩) (GO_AR mixed 1000 ?_) ?_
     · simp -implicitDefEqProofs [fcO,hi,hlx,hna]
       ((try simp only [ZgD,k1,k2,hna]);refine Weak.sub (by simp [lk,keptA,AV.keys,ZgD,k1,k2,hna]) ?_;simp only [ZgD,k1,k2,hna,Wkl,and_true];(try simp [lk,keptO,keptA,AV.keys,ZgD,k1,k2,hna]))
     refine ZdV (S:=⟨[(0,.int .i64 i),(1,.ptr 1009 0),(2,.ptr 1004 0),(3,.ptr 1005 0),(4,.ptr 1006 0),(5,.ptr 1007 0),(6,.ptr 1010 0),(11,.ptr 11 0),(12,.bool (bsF s w m x))],(11,.box (na x))::fcO (.vptr [.vsl (r.map isa),.vsl (l.map na),.vsl ((nums r).map ia),opA l] 0) sV wV m K⟩) (GO_AR mixed 1000 ?_) ?_
     · unfold bsF
       have go3:∀ b:Bool,(decide (x.sg=2)||decide (x.nu∈s))=b→True:=fun _ _=>trivial
       by_cases e1:x.sg=2
       · simp -implicitDefEqProofs [fcO,hna,e1,p1,p2]
         refine CallK.of c2 (by simp [p2,AV.pure]) ?_
         by_cases e2:x.nu∈w
         · simp -implicitDefEqProofs [e2,p1,p2]
           ((try simp only [ZgD,k1,k2,fcO]);refine Weak.sub (by simp [lk,keptA,AV.keys,ZgD,k1,k2,fcO]) ?_;simp only [ZgD,k1,k2,fcO,Wkl,and_true];(try simp [lk,keptO,keptA,AV.keys,ZgD,k1,k2,fcO]))
         · simp -implicitDefEqProofs [e2,p1,p2]
           (first|refine CallK.of (c3) (by simp) ?_|refine CallD.of (c3) (by simp) ?_)
           simp -implicitDefEqProofs []
           ((try simp only [ZgD,k1,k2,fcO]);refine Weak.sub (by simp [lk,keptA,AV.keys,ZgD,k1,k2,fcO]) ?_;simp only [ZgD,k1,k2,fcO,Wkl,and_true];(try simp [lk,keptO,keptA,AV.keys,ZgD,k1,k2,fcO]))
       · simp -implicitDefEqProofs [fcO,hna,e1,p1,p2]
         refine CallK.of c1 (by simp [p1,AV.pure]) ?_
         by_cases e3:x.nu∈s
         · simp -implicitDefEqProofs [e3,p1,p2]
           refine CallK.of c2 (by simp [p2,AV.pure]) ?_
           by_cases e2:x.nu∈w
           · simp -implicitDefEqProofs [e2,p1,p2]
             ((try simp only [ZgD,k1,k2,fcO]);refine Weak.sub (by simp [lk,keptA,AV.keys,ZgD,k1,k2,fcO]) ?_;simp only [ZgD,k1,k2,fcO,Wkl,and_true];(try simp [lk,keptO,keptA,AV.keys,ZgD,k1,k2,fcO]))
           · simp -implicitDefEqProofs [e2,p1,p2]
             (first|refine CallK.of (c3) (by simp) ?_|refine CallD.of (c3) (by simp) ?_)
             simp -implicitDefEqProofs []
             ((try simp only [ZgD,k1,k2,fcO]);refine Weak.sub (by simp [lk,keptA,AV.keys,ZgD,k1,k2,fcO]) ?_;simp only [ZgD,k1,k2,fcO,Wkl,and_true];(try simp [lk,keptO,keptA,AV.keys,ZgD,k1,k2,fcO]))
         · simp -implicitDefEqProofs [e3,p1,p2]
           ((try simp only [ZgD,k1,k2,fcO]);refine Weak.sub (by simp [lk,keptA,AV.keys,ZgD,k1,k2,fcO]) ?_;simp only [ZgD,k1,k2,fcO,Wkl,and_true];(try simp [lk,keptO,keptA,AV.keys,ZgD,k1,k2,fcO]))
     rw [← gb]
     have w1:IntKind.i64.wrap ((i:Int)+1)=((i+1:Nat):Int):=wrapI (by omega) (by omega)
     refine ZdV (S:=⟨[(0,.int .i64 i),(1,.ptr 1009 0),(12,.bool (gwB (bsF s w m) (fun x y=>decide (y.ca=x.nu)) l x i l.length))],fcO (.vptr [.vsl (r.map isa),.vsl (l.map na),.vsl ((nums r).map ia),opA l] 0) sV wV m (lpK s w m l n i K (l.length-(i+1)))⟩) (GO_AR mixed 1000 ?_) ?_
     · simp -implicitDefEqProofs [w1]
       refine Z1Q (fun k=>⟨[(0,.int .i64 i),(1,.ptr 1009 0),(2,.ptr 1004 0),(3,.ptr 1005 0),(4,.ptr 1006 0),(5,.ptr 1007 0),(6,.ptr 1010 0),(11,.ptr 11 0),(12,.bool (gwB (bsF s w m) (fun x y=>decide (y.ca=x.nu)) l x i k)),(13,.int .i64 (k:Int))],(11,.box (na x))::fcO (.vptr [.vsl (r.map isa),.vsl (l.map na),.vsl ((nums r).map ia),opA l] 0) sV wV m (lpK s w m l n i K (k-(i+1)))⟩) (fun k=>i+1≤k∧k≤l.length) (fun k=>l.length-k) (i+1) (by ((try simp only [ZgD,k1,k2,fcO,lpK,List.range_zero,List.foldl_nil,hna,Nat.sub_self]);refine Weak.sub (by simp [lk,keptA,AV.keys,ZgD,k1,k2,fcO,lpK,List.range_zero,List.foldl_nil,hna,Nat.sub_self]) ?_;simp only [ZgD,k1,k2,fcO,lpK,List.range_zero,List.foldl_nil,hna,Nat.sub_self,Wkl,and_true];(try simp [lk,keptO,keptA,AV.keys,ZgD,k1,k2,fcO,lpK,List.range_zero,List.foldl_nil,hna,Nat.sub_self]))) ⟨by omega,by omega⟩ ?_
       rintro k ⟨hk1,hk2⟩
       have gst':=gst k l.length hk1 hk2 (Nat.le_refl _)
       have lst':=lst (k-(i+1)) 
       rw [show i+1+(k-(i+1))=k by omega]at lst'
       by_cases hb:gwB (bsF s w m) (fun x y=>decide (y.ca=x.nu)) l x i k=true
       · rcases Nat.lt_or_ge k l.length with h5|h5
         · have w2:IntKind.i64.wrap ((k:Int)+1)=(((k+1:Nat)):Int):=by rw [wrapI (by omega) (by omega)];omega
           have hnj:na (nAt l k)=[.int .i64 (nAt l k).nu,.int .i64 (nAt l k).dy,.int .u8 (nAt l k).sg,.int .i64 (nAt l k).dr,.int .i64 (nAt l k).lt,.int .i64 (nAt l k).fr,.int .i64 (nAt l k).tu,.int .i64 (nAt l k).ca,.bool (nAt l k).up,.int .u8 (nAt l k).wy]:=rfl
           have hy:=ZcP h5
           have hg:=gs k (by omega) h5
           have hr:=hrec k (lpK s w m l n i K (k-(i+1))) h5 (by omega) (lok _)
           have hls:=lsu (k-(i+1))
           rw [show i+1+(k-(i+1))=k by omega,show k-(i+1)+1=k+1-(i+1) by omega]at hls
           rw [hb,Bool.true_and]at hg hls
           rw [← hy]at hg
           change _ = !(fB s w m l k&&_) at hg
           generalize hyy:nAt l k=y at *
           have hly:l[k]=y:=hy.symm
           by_cases h6:y.ca=x.nu
           · simp only [h6,decide_true,Bool.and_true,if_true]at hg hls
             rw [fcO,hF]at hr
             refine GO_AR mixed 9 ?_
             simp -implicitDefEqProofs [hb,h5,hna,h6,fcO,hly,hnj]
             refine GO0 (Z5j mixed 15 (by decide) ?_)
             simp -implicitDefEqProofs [hb,h5,hna,h6,fcO,hly,hnj]
             refine ⟨rfl,CallK.sem (Z1B.byref hr id (by simp) (by simp) (by simp [St.get,lk,AV.ren,AObj.ren,ZgE,r1,r2]) (by simp only [List.mem_cons,List.not_mem_nil,or_false,forall_eq_or_imp,forall_eq,ZgD,and_true];simp [lk,keptO,keptA,AV.keys,k1,k2]) (by simp [keptA,AV.keys,lk,rega,fcC]) rfl (by simp [AV.ren,rega,fcC]) rfl rfl) ?_⟩
             simp -implicitDefEqProofs [setsB,fcO,AV.ren,AObj.ren,ZgE,r1,r2]
             refine Z2N mixed 1000 ?_
             simp -implicitDefEqProofs [w2]
             refine ⟨k+1,?_,⟨by omega,by omega⟩,(by show l.length-(k+1)<l.length-k;omega)⟩
             simp only [hg,hls]
             ((try simp only [ZgD,k1,k2,hna]);refine Weak.sub (by simp [lk,keptA,AV.keys,ZgD,k1,k2,hna]) ?_;simp only [ZgD,k1,k2,hna,Wkl,and_true];(try simp [lk,keptO,keptA,AV.keys,ZgD,k1,k2,hna]))
           · simp only [h6,decide_false,Bool.and_false,Bool.not_false,Bool.false_eq_true,if_false]at hg hls
             refine GO_AR mixed 1000 ?_
             simp -implicitDefEqProofs [hb,h5,hna,h6,fcO,hly,hnj,w2]
             refine ⟨rfl,k+1,?_,⟨by omega,by omega⟩,(by show l.length-(k+1)<l.length-k;omega)⟩
             simp only [hg,hls]
             ((try simp only [ZgD,k1,k2,hna]);refine Weak.sub (by simp [lk,keptA,AV.keys,ZgD,k1,k2,hna]) ?_;simp only [ZgD,k1,k2,hna,Wkl,and_true];(try simp [lk,keptO,keptA,AV.keys,ZgD,k1,k2,hna]))
         · obtain rfl:k=l.length:=by omega
           refine GO_AR mixed 1000 ?_
           simp -implicitDefEqProofs [hb,fcO]
           refine Z2N mixed 1000 ?_
           simp -implicitDefEqProofs []
           ((try simp only [ZgD,k1,k2,hna]);refine Weak.sub (by simp [lk,keptA,AV.keys,ZgD,k1,k2,hna]) ?_;simp only [ZgD,k1,k2,hna,Wkl,and_true];(try simp [lk,keptO,keptA,AV.keys,ZgD,k1,k2,hna]))
       · have hb:gwB (bsF s w m) (fun x y=>decide (y.ca=x.nu)) l x i k=false:=by simpa using hb
         have e1:=lst' hb (l.length-(i+1)) (by omega) (by omega)
         rw [e1,gst' hb]
         refine GO_AR mixed 1000 ?_
         simp -implicitDefEqProofs [hb,fcO]
         refine Z2N mixed 1000 ?_
         simp -implicitDefEqProofs []
         ((try simp only [ZgD,k1,k2,hna]);refine Weak.sub (by simp [lk,keptA,AV.keys,ZgD,k1,k2,hna]) ?_;simp only [ZgD,k1,k2,hna,Wkl,and_true];(try simp [lk,keptO,keptA,AV.keys,ZgD,k1,k2,hna]))
     refine GO_AR mixed 1000 ?_
     have pm':=pm (gwB (bsF s w m) (fun x y=>decide (y.ca=x.nu)) l x i l.length) (lpK s w m l n i K (l.length-(i+1)))
     simp -implicitDefEqProofs [fcO,pm']
     simp -implicitDefEqProofs [FinB,frzSt,newK,ZgF,ZgK,frzA,frz,hF,f1,f2,tupV,Z29,Zf9]
end
theorem ZgN {r:List Iss} {l:List Nte} (h:ZcS r l=true):(l.map (·.nu)).Nodup:=by
 simp only [ZcS,Bool.and_eq_true]at h
 have h1:=Zam.1 h.1.2
 rw [List.nodup_iff_pairwise_ne,List.pairwise_map,List.pairwise_iff_getElem]
 intro i j hi hj hij e
 have h2:=h1 j hj
 simp only [noteB,Bool.and_eq_true]at h2
 have h3:=h2.1.2
 simp only [cN7,Bool.not_eq_true',List.any_eq_false]at h3
 refine h3 l[i] (List.mem_take_iff_getElem.2 ⟨i,by omega,rfl⟩) ?_
 rw [ZcP hj];simpa using e
theorem ZgO {r:List Iss} {l:List Nte} (h:ZcS r l=true):(opU l).Nodup∧(opU l).length≤12:=by
 refine ⟨?_,?_⟩
 · exact List.Sublist.nodup (by unfold opU opN;rw [List.take_length];exact (List.filter_sublist).map _) (ZgN h)
 · simp only [ZcS,Bool.and_eq_true,decide_eq_true_eq]at h
   have:=h.2
   unfold opU;rw [List.length_map];omega
section
variable {G:Nat→Option (List AV)}
theorem ZgP (r:List Iss) (l:List Nte):(fileA r l).pure=true:=by unfold fileA opA;split <;> simp [AV.pure,isa,na]
theorem ZgQ (ok:Nat→Bool) (st:St) (r:List Iss) (l:List Nte):snapF ok st 6 (fileA r l)=some (fileA r l):=by
 have h:=ZgP r l
 unfold fileA at *
 simp [snapF,h]
theorem ZgR (r:List Iss) (l:List Nte):(fileA r l).one=true:=by unfold fileA;simp [AV.one,AV.known]
theorem ZgS (hG:GC G) (hN:GN G) (r:List Iss) (l:List Nte) (hw:WfN l) (hr:Wf r):PC Tryz.prog G 75 [.agg [.vsl (r.map isa),.vsl (l.map na)]] (.int .i64 (chN r l)):=by
 have ho:=Zgk hG hN r l hw hr
 unfold opdA at ho
 (refine ZeZ rfl fun R hG hrd=>GO_AR mixed 1000 ?_;subst hG)
 simp -implicitDefEqProofs [ZeX,ZeY]
 (first|refine CallK.of (ho) (by simp) ?_|refine CallD.of (ho) (by simp) ?_)
 simp -implicitDefEqProofs []
def askA (r:List Iss) (l:List Nte) (s:List Int) (m:Int):AV:=.tup [if asN r l s m=0 then fileA r l else .nilp,.int .i64 (asN r l s m)]
theorem ZgT (hG:GC G) (hN:GN G) (r:List Iss) (l:List Nte) (s:List Int) (m:Int) (hw:WfN l) (hr:Wf r) (hs:Sml s):PC Tryz.prog G 101 [.agg [.vsl (r.map isa),.vsl (l.map na)],.vsl (s.map ia),.int .i64 m] (askA r l s m):=by
 have ho:=Zgk hG hN r l hw hr
 have hi:=ZfP (G:=G) 1 999 m
 unfold opdA at ho
 (refine Zf5 rfl fun R hG hrd=>GO_AR mixed 1000 ?_;subst hG)
 unfold askA asN
 by_cases h0:chN r l=0
 · have hB:ZcS r l=true:=by
    unfold chN at h0
    split at h0
    · cases q:ZcS r l
      · rw [q]at h0;cases h0
      · rfl
    · rename_i e;exact absurd h0 e
   have hU:=ZgO hB
   have ht:=Zgs (G:=R.G) r l s hs hU.1 hU.2
   have hp:=ZgP r l
   have sn:=fun ok st=>ZgQ ok st r l
   have h1:=ZgR r l
   rw [if_pos h0,h0]at ho
   generalize fileA r l=F at *
   simp -implicitDefEqProofs [Zf3,Zf4]
   (first|refine CallK.of (ho) (by simp) ?_|refine CallD.of (ho) (by simp) ?_)
   simp -implicitDefEqProofs [h0]
   refine CallK.of ht (by simp [hp,AV.pure]) ?_
   cases q:truB l s
   · simp -implicitDefEqProofs [q]
   · simp -implicitDefEqProofs [q]
     (first|refine CallK.of (hi) (by simp) ?_|refine CallD.of (hi) (by simp) ?_)
     cases q2:inR m 1 999
     · simp -implicitDefEqProofs [q2]
     · simp -implicitDefEqProofs [q2,hp,sn]
 · rw [if_neg h0]at ho
   simp -implicitDefEqProofs [Zf3,Zf4]
   (first|refine CallK.of (ho) (by simp) ?_|refine CallD.of (ho) (by simp) ?_)
   simp -implicitDefEqProofs [h0]
def ffC:AV:=.func (.func 147) [] [.ptr 9 0,.ptr 4 0,.ptr 5 0,.ptr 6 0,.ptr 7 0,.ptr 10 0]
def ffO (F sV wV:AV) (m:Int):List (Nat×AObj):=[(4,.box [F]),(5,.box [sV]),(6,.box [wV]),(7,.box [.int .i64 m]),(11,.mp []),(9,.box [.mp 11]),(10,.box [ffC])]
def ffK (k:Nat):Bool:=decide (k<1000) && !(k == 4||k == 5||k == 6||k == 7||k == 9||k == 10||k == 11)
theorem ZgU (r:List Iss) (l:List Nte) (ns nw:Bool) (s w:List Int) (m:Int):PB Tryz.prog G 114 [] [fileA r l,liA ns s,liA nw w,.int .i64 m] ffC (ffO (fileA r l) (liA ns s) (liA nw w) m):=by
 have hF:fileA r l = .vptr [.vsl (r.map isa),.vsl (l.map na),.vsl ((nums r).map ia),opA l] 0:=rfl
 have hc:∀ (b:Bool) (s:List Int),liA b s = .nils∨liA b s = .vsl (s.map ia):=fun b s=>by unfold liA;split;exact .inl rfl;exact .inr rfl
 refine Z5e ffK (by intro k hk;simp [ffK]at hk;omega) Tryz.func114 rfl (by kernel_rfl) (rc:=Zf6) (by kernel_rfl) (rs:=Zf7) (by kernel_rfl) (Nat.le_of_ble_eq_true rfl) fun R _ hG hrd=>GO_AR mixed 1000 ?_
 rw [hF]
 rcases hc ns s with h1|h1 <;> rcases hc nw w with h2|h2 <;> rw [h1,h2]
 · simp -implicitDefEqProofs [Zf6,Zf7]
   simp -implicitDefEqProofs [FinO,frzSt,ffK,ZgK,frzO,frzA,frz,snapL,AV.keys,tupV,Z29,ffC,ffO]
 · simp -implicitDefEqProofs [Zf6,Zf7]
   simp -implicitDefEqProofs [FinO,frzSt,ffK,ZgK,frzO,frzA,frz,snapL,AV.keys,tupV,Z29,ffC,ffO]
 · simp -implicitDefEqProofs [Zf6,Zf7]
   simp -implicitDefEqProofs [FinO,frzSt,ffK,ZgK,frzO,frzA,frz,snapL,AV.keys,tupV,Z29,ffC,ffO]
 · simp -implicitDefEqProofs [Zf6,Zf7]
   simp -implicitDefEqProofs [FinO,frzSt,ffK,ZgK,frzO,frzA,frz,snapL,AV.keys,tupV,Z29,ffC,ffO]
def frK (s w:List Int) (m:Int) (l:List Nte) (i:Nat):List (Int×Bool):=(List.range i).foldl (fun K j=>ifK s w m l l.length j K) []
theorem ZgV {s w:List Int} {m:Int} {l:List Nte} {i:Nat}:frK s w m l (i+1)=ifK s w m l l.length i (frK s w m l i):=by rw [frK,List.range_succ,List.foldl_append];rfl
theorem ZgW {s w:List Int} {m:Int} {l:List Nte}:∀ i,OkK s w m l (frK s w m l i)
 |0=>fun _ _ h=>by cases h
 |i+1=>by rw [ZgV];exact Zgz _ _ (ZgW i)
def fcQ (F sV wV:AV) (m:Int) (K:List (Int×Bool)):List (Nat×AObj) :=
 [(204,.box [F]),(205,.box [sV]),(206,.box [wV]),(207,.box [.int .i64 m]),(211,.mp (mpA AV.bool K)),(209,.box [.mp 211]),(210,.box [.func (.func 147) [] [.ptr 209 0,.ptr 204 0,.ptr 205 0,.ptr 206 0,.ptr 207 0,.ptr 210 0]])]
def fcS (r:List Iss) (l:List Nte) (s:List Int) (m:Int) (i:Nat):St :=
 if fcN s [] m l i=[] then ⟨[(30,.int .i64 i),(29,.int .i64 l.length),(3,.ptr 3 0),(10,.func (.func 147) [] [.ptr 209 0,.ptr 204 0,.ptr 205 0,.ptr 206 0,.ptr 207 0,.ptr 210 0]),(11,.nils)],(3,.box [.vsl (r.map isa),.vsl (l.map na)])::fcQ (fileA r l) (.vsl (s.map ia)) .nils m (frK s [] m l i)⟩
 else ⟨[(30,.int .i64 i),(29,.int .i64 l.length),(3,.ptr 3 0),(10,.func (.func 147) [] [.ptr 209 0,.ptr 204 0,.ptr 205 0,.ptr 206 0,.ptr 207 0,.ptr 210 0]),(11,.osl 44 (fcN s [] m l i).length)],(44,.row 1 ((fcN s [] m l i).map ia))::(3,.box [.vsl (r.map isa),.vsl (l.map na)])::fcQ (fileA r l) (.vsl (s.map ia)) .nils m (frK s [] m l i)⟩
def fcA (r:List Iss) (l:List Nte) (s:List Int) (m:Int):AV:=.tup [orNil ((fcE r l s m).1.map ia),.int .i64 (fcE r l s m).2]
set_option maxHeartbeats 1000000 in
theorem ZgX (hG:GC G) (hN:GN G) (r:List Iss) (l:List Nte) (s:List Int) (m:Int) (hw:WfN l) (hr:Wf r) (hs:Sml s):PC Tryz.prog G 79 [.agg [.vsl (r.map isa),.vsl (l.map na)],.vsl (s.map ia),.int .i64 m] (fcA r l s m):=by
 have ha:=ZgT hG hN r l s m hw hr hs
 have hl:=hw.1
 unfold Sml at hl
 unfold askA at ha
 refine Zfd rfl fun R hG hrd=>?_
 subst hG
 refine GO_AR mixed 1000 ?_
 unfold fcA fcE
 by_cases h0:asN r l s m=0
 · have hB:ZcS r l=true:=by
    unfold asN at h0
    split at h0
    · rename_i h1
      unfold chN at h1
      split at h1
      · cases q:ZcS r l
        · rw [q]at h1;cases h1
        · rfl
      · rename_i e;exact absurd h1 e
    · rename_i e;exact absurd h0 e
   have hl12:l.length≤12:=by simp only [ZcS,Bool.and_eq_true,decide_eq_true_eq]at hB;exact hB.1.1
   have hf:=ZgU (G:=R.G) r l false true s [] m
   have hI:=fun i hi=>is_pb (G:=R.G) r l false true s [] m hl12 hs (by simp [Sml]) l.length i (frK s [] m l i) hi (by omega) (ZgW i)
   have e1:liA false s = .vsl (s.map ia):=by simp [liA]
   have e2:liA true [] = .nils:=by simp [liA]
   rw [e1,e2]at hf hI
   rw [if_pos h0,h0]at ha
   rw [if_pos h0]
   have hp:=ZgP r l
   have kF:(fileA r l).keys=[]:=AV.pure_keys _ hp
   have rF:=fun ρ=>AV.ren_pure (ρ:=ρ) (fileA r l) hp
   simp -implicitDefEqProofs [Zfb,Zfc]
   (first|refine CallK.of (ha) (by simp) ?_|refine CallD.of (ha) (by simp) ?_)
   simp -implicitDefEqProofs [h0]
   refine CallK.sem (Z1B.objs hf (fun k=>k+200) (by simp [ffO]) (by simp [ffO,St.get,lk]) (by simp [hp,AV.pure]) rfl rfl) ?_
   simp -implicitDefEqProofs [setsB,ffO,ffC,AV.ren,AObj.ren,rF]
   refine Za2 (fcS r l s m) (fun _=>True) l.length ?_ trivial ?_ ?_
   · have e0:fcN s [] m l 0=[]:=by simp [fcN]
     have e3:frK s [] m l 0=[]:=rfl
     have e4:mpA AV.bool []=[]:=rfl
     simp only [fcS,fcQ,e0,e3,e4,if_true]
     ((try simp only [kF]);refine Weak.sub (by simp [lk,keptA,AV.keys,kF]) ?_;simp only [kF,Wkl,and_true];(try simp [lk,keptO,keptA,AV.keys,kF]))
   · intro i hi _
     have hI:=hI i hi
     rw [← ZgV]at hI
     unfold fcO at hI
     have hx:=ZcP hi
     have hnx:na (nAt l i)=[.int .i64 (nAt l i).nu,.int .i64 (nAt l i).dy,.int .u8 (nAt l i).sg,.int .i64 (nAt l i).dr,.int .i64 (nAt l i).lt,.int .i64 (nAt l i).fr,.int .i64 (nAt l i).tu,.int .i64 (nAt l i).ca,.bool (nAt l i).up,.int .u8 (nAt l i).wy]:=rfl
     have sc:=ZcY (s:=s) (w:=[]) (m:=m) hi
     have bb:((fcN s [] m l i).length+1)*8≤70368744177664:=by have:=ZcZ s [] m l i;omega
     have wi:IntKind.i64.wrap ((i:Int)+1)=(i:Int)+1:=wrapI (by omega) (by omega)
     rw [← hx]at sc
     generalize hxx:nAt l i=x at *
     have hlx:l[i]=x:=hx.symm
     have e5:=fun K=>ZgE (fun k=>k-800) K
     have fin:∀ (b:Bool),b=fB s [] m l i→(b=true→fcN s [] m l (i+1)=fcN s [] m l i++[x.nu])∧(b=false→fcN s [] m l (i+1)=fcN s [] m l i):=fun b hb=>by
      subst hb
      exact ⟨fun h=>by rw [sc,if_pos h],fun h=>by rw [sc,h];rfl⟩
     refine GO_AR mixed 1000 ?_
     by_cases c:fcN s [] m l i=[]
     case' pos=>simp -implicitDefEqProofs [fcS,fcQ,c,hi]
     case' neg=>simp -implicitDefEqProofs [fcS,fcQ,c,hi]
     all_goals
      refine CallK.sem (Z1B.byref hI (fun k=>k-800) (by simp) (by simp) (by simp [St.get,lk,AV.ren,AObj.ren,ZgE,rF,ia]) (by simp only [List.mem_cons,List.not_mem_nil,or_false,forall_eq_or_imp,forall_eq,ZgD,and_true];simp [lk,keptO,keptA,AV.keys,kF]) (by simp [keptA,AV.keys,lk,rega,fcC]) rfl (by simp [AV.ren,rega,fcC]) rfl rfl) ?_
      simp -implicitDefEqProofs [setsB,AV.ren,AObj.ren,ZgE,rF]
      cases hb:fB s [] m l i
      · have e:=(fin false hb.symm).2 rfl
        simp -implicitDefEqProofs [wi]
        simp only [fcS,fcQ,e,c,if_true,if_false]
        ((try simp only [kF]);refine Weak.sub (by simp [lk,keptA,AV.keys,kF]) ?_;simp only [kF,Wkl,ZgD,Zg6,and_true];(try simp [lk,keptO,keptA,AV.keys,kF]))
      · have e:=(fin true hb.symm).1 rfl
        have hne:fcN s [] m l (i+1)≠[]:=by rw [e];simp
        simp -implicitDefEqProofs [hi,hlx,hnx,bb,wi]
        simp only [fcS,fcQ,hne,if_false]
        have e1:(fcN s [] m l (i+1)).map ia=(fcN s [] m l i).map ia++[[AV.int .i64 x.nu]]:=by rw [e,List.map_append];rfl
        have e2:(fcN s [] m l (i+1)).length=(fcN s [] m l i).length+1:=by rw [e];simp
        first
         |(rw [c,List.nil_append]at e;rw [e];((try simp only [ia,kF]);refine Weak.sub (by simp [lk,keptA,AV.keys,ia,kF]) ?_;simp only [ia,kF,Wkl,ZgD,and_true];(try simp [lk,keptO,keptA,AV.keys,ia,kF]));done)
         |(rw [← e1,e2];((try simp only [kF]);refine Weak.sub (by simp [lk,keptA,AV.keys,kF]) ?_;simp only [kF,Wkl,Zg6,ZgD,and_true];(try simp [lk,keptO,keptA,AV.keys,kF]));done)
   · intro _
     refine GO_AR mixed 1000 ?_
     by_cases c:fcN s [] m l l.length=[]
     · simp -implicitDefEqProofs [fcS,fcQ,c]
       refine Z2N mixed 1000 ?_
       simp -implicitDefEqProofs [orNil]
     · simp -implicitDefEqProofs [fcS,fcQ,c]
       refine Z2N mixed 1000 ?_
       simp -implicitDefEqProofs [orNil,c,ia]
 · rw [if_neg h0]at ha
   rw [if_neg h0]
   simp -implicitDefEqProofs [Zfb,Zfc]
   (first|refine CallK.of (ha) (by simp) ?_|refine CallD.of (ha) (by simp) ?_)
   simp -implicitDefEqProofs [h0,orNil]
end
def nuI (l:List Nte):List Int:=(opI l l.length).map fun j=>(nAt l j).nu
theorem ZgY {l:List Nte} {n:Int}:n∈nuI l↔n∈opU l:=Ze5
theorem ZgZ (l:List Nte):(nuI l).length=(opI l l.length).length:=List.length_map _
def tkN (l:List Nte) (j:Nat):List (List AV):=((nuI l).take j).map ia
theorem Zh0 (o:List (Nat×AObj)) (l:List Nte) (j:Nat):keptO o (.row 1 (tkN l j))=true:=Zg6 o _
theorem Zh1 {l:List Nte} {j:Nat} (h:j≤(nuI l).length):(tkN l j).length=j:=by simp [tkN];omega
theorem Zh2 {l:List Nte}:tkN l (nuI l).length=(nuI l).map ia:=by rw [tkN,List.take_length]
section
variable {G:Nat→Option (List AV)}
theorem Zh3 (nl:Bool) (s:List Int) (n:Int) (h:Sml s):PC Tryz.prog G 115 [liA nl s,.int .i64 n] (.bool (decide (n∈s))):=by
 unfold liA
 split
 · rename_i e
   rw [e.2]
   (refine Zdw rfl fun R hG hrd=>GO_AR mixed 1000 ?_;subst hG)
   simp -implicitDefEqProofs [Zdu,Zdv]
   refine Za2 (fun i=>⟨[(5,.int .i64 i),(0,.nils),(1,.int .i64 n)],[]⟩) (fun i=>True) 0 (by (first|exact Weak.tm (by simp [lk])|exact Weak.sub (by simp [lk,keptA,AV.keys]) (by simp [lk,keptO,keptA,AV.keys]))) trivial (fun i hi=>by omega) ?_
   intro _
   refine GO_AR mixed 1000 ?_
   simp -implicitDefEqProofs []
   refine Z2N mixed 1000 ?_
   simp -implicitDefEqProofs []
 · exact ZdY s n h
def tuS (r:List Iss) (l:List Nte) (s:List Int) (j:Nat):St :=
 if j=0 then ⟨[(7,.int .i64 0),(6,.vsl ((opI l l.length).map ja)),(5,.nils),(2,.ptr 2 0),(1,.vsl (s.map ia))],[(2,.box [.vsl (r.map isa),.vsl (l.map na)])]⟩
 else ⟨[(7,.int .i64 j),(6,.vsl ((opI l l.length).map ja)),(5,.osl 28 j),(2,.ptr 2 0),(1,.vsl (s.map ia))],[(28,.row 1 (tkN l j)),(2,.box [.vsl (r.map isa),.vsl (l.map na)])]⟩
set_option maxHeartbeats 1000000 in
theorem Zh4 (r:List Iss) (l:List Nte) (s:List Int) (hl:l.length≤12) (hs:Sml s):PC Tryz.prog G 82 [.agg [.vsl (r.map isa),.vsl (l.map na)],.vsl (s.map ia)] (.bool (truB l s)):=by
 have ho:=Zej (G:=G) r l hl
 have hh:=fun n=>Zh3 (G:=G) true (nuI l) n (by unfold Sml;rw [ZgZ];have:=Ze1 l l.length;omega)
 have hln:=Ze1 l l.length
 have hlt:=Ze3 l l.length
 have hnl:=ZgZ l
 have hmem:=fun n=>ZgY (l:=l) (n:=n)
 have hnat:∀ j,(h:j<(opI l l.length).length)→(nuI l)[j]'(by rw [hnl];exact h)=(nAt l (opI l l.length)[j]).nu:=fun j h=>by simp [nuI]
 unfold Sml at hs
 have key : ∀ R:Run,R.G=G→R.Top→∀ (rc:RCode),rc=dropZ 4 Zdx→AR Tryz.prog R rc ⟨[(5,liA true (nuI l)),(1,.vsl (s.map ia))],[]⟩ (Fin Zdy (.bool (truB l s))):=fun R hG _ rc hrc=>by
  subst hrc
  subst hG
  refine GO_AR mixed 1000 ?_
  have pN:=ZgG true (nuI l)
  have kN:=ZgH true (nuI l)
  simp -implicitDefEqProofs [dropZ,Zdx]
  generalize liA true (nuI l)=nV at *
  refine Za2 (fun i=>⟨[(8,.int .i64 i),(5,nV),(1,.vsl (s.map ia))],[]⟩) (fun i=>∀ j,j<i→s.getD j 0∈opU l∧(0<j→s.getD (j-1) 0<s.getD j 0)) s.length ?_ (fun j hj=>by omega) ?_ ?_
  · ((try simp only [kN]);refine Weak.sub (by simp [lk,keptA,AV.keys,kN]) ?_;simp only [kN,Wkl,and_true];(try simp [lk,keptO,keptA,AV.keys,kN]))
  · intro i hi hI
    refine GO_AR mixed 1000 ?_
    have wi:IntKind.i64.wrap ((i:Int)+1)=(i:Int)+1:=wrapI (by omega) (by omega)
    have eg:∀ j,∀ hj:j<s.length,s.getD j 0=s[j]:=fun j hj=>by simp [List.getD_eq_getElem?_getD,hj]
    have no:¬(s[i]∈opU l∧(0<i→s.getD (i-1) 0<s[i]))→truB l s=false:=fun h=>by
     cases q:truB l s
     · rfl
     · have h2:=Zgo.1 q i hi
       rw [eg i hi]at h2
       exact absurd h2 h
    have yes:(s[i]∈opU l∧(0<i→s.getD (i-1) 0<s[i]))→∀ j,j<i+1→s.getD j 0∈opU l∧(0<j→s.getD (j-1) 0<s.getD j 0):=fun h j hj=>by
     rcases Nat.lt_or_ge j i with h4|h4
     · exact hI j h4
     · obtain rfl:j=i:=by omega
       rw [eg j hi];exact h
    have hh:=hh s[i]
    have hmm:=hmem s[i]
    by_cases hm:s[i]∈opU l
    · have d:decide (s[i]∈nuI l)=true:=by simpa using hmm.2 hm
      rw [d]at hh
      cases i with
      | zero =>
        have w1:IntKind.i64.wrap 1=1:=rfl
        have h1:=yes ⟨hm,fun h=>by omega⟩
        simp -implicitDefEqProofs [hi,ia]
        refine CallD.of hh (by simp [pN,AV.pure]) ?_
        simp -implicitDefEqProofs [w1,kN]
        refine ⟨rfl,?_,?_⟩
        · ((try simp only [kN]);refine Weak.sub (by simp [lk,keptA,AV.keys,kN]) ?_;simp only [kN,Wkl,and_true];(try simp [lk,keptO,keptA,AV.keys,kN]))
        · simpa using h1
      | succ k =>
        have hk:k<s.length:=by omega
        have k1:(k:Int)+1<s.length:=by omega
        have k2:((k:Int)+1).toNat=k+1:=by omega
        have k3:(0:Int)≤(k:Int)+1:=by omega
        have k4:(0:Int)<(k:Int)+1:=by omega
        have wk2:IntKind.i64.wrap (k:Int)=(k:Int):=wrapI (by omega) (by omega)
        have wk3:IntKind.i64.wrap ((k:Int)+1+1)=(k:Int)+1+1:=wrapI (by omega) (by omega)
        have eg:s.getD (k+1-1) 0=s[k]:=by simp [List.getD_eq_getElem?_getD,hk]
        rw [eg]at no yes
        simp -implicitDefEqProofs [hi,hk,ia,k1,k2,k3,k4]
        refine CallD.of hh (by simp [pN,AV.pure]) ?_
        by_cases hlt:s[k+1]≤s[k]
        · have hB:=no fun h=>by have:=h.2 (by omega);omega
          simp -implicitDefEqProofs [hi,hk,ia,k1,k2,k3,k4,wk2,hlt,kN]
          refine ⟨rfl,?_⟩
          refine Z2N mixed 1000 ?_
          simp -implicitDefEqProofs [hB,Zdy]
        · have h1:=yes ⟨hm,fun _=>by omega⟩
          simp -implicitDefEqProofs [hi,hk,ia,k1,k2,k3,k4,wk2,wk3,hlt,kN]
          refine ⟨rfl,?_,h1⟩
          ((try simp only [kN]);refine Weak.sub (by simp [lk,keptA,AV.keys,kN]) ?_;simp only [kN,Wkl,and_true];(try simp [lk,keptO,keptA,AV.keys,kN]))
    · have d:decide (s[i]∈nuI l)=false:=by simpa using fun h=>hm (hmm.1 h)
      rw [d]at hh
      have hB:=no fun h=>hm h.1
      simp -implicitDefEqProofs [hi,ia]
      refine CallD.of hh (by simp [pN,AV.pure]) ?_
      simp -implicitDefEqProofs [kN]
      refine ⟨rfl,?_⟩
      refine Z2N mixed 1000 ?_
      simp -implicitDefEqProofs [hB,Zdy]
  · intro hI
    have hB:=Zgo.2 hI
    refine GO_AR mixed 1000 ?_
    simp -implicitDefEqProofs []
    refine Z2N mixed 1000 ?_
    simp -implicitDefEqProofs [hB,Zdy]
 refine Zdz rfl fun R hG hrd=>?_
 subst hG
 refine GO_AR mixed 9 ?_
 simp -implicitDefEqProofs [Zdx]
 (first|refine CallK.of (ho) (by simp) ?_|refine CallD.of (ho) (by simp) ?_)
 simp -implicitDefEqProofs []
 have key:=key R rfl hrd _ rfl
 unfold orNil
 by_cases c:opI l l.length=[]
 · have c':nuI l=[]:=by rw [nuI,c];rfl
   have e2:liA true (nuI l) = .nils:=by rw [c'];simp [liA]
   rw [e2]at key
   refine Z2L mixed 1000 ?_
   simp -implicitDefEqProofs [c]
   refine Za2 (fun i=>⟨[(7,.int .i64 i),(6,.nils),(5,.nils),(1,.vsl (s.map ia))],[]⟩) (fun _=>True) 0 ?_ trivial (fun i hi=>by omega) ?_
   · (refine Weak.sub (by simp [lk,keptA,AV.keys]) ?_;simp only [Wkl,and_true];(try simp [lk,keptO,keptA,AV.keys]))
   · intro _
     refine GO_AR mixed 1000 ?_
     simp -implicitDefEqProofs []
     refine Z2N mixed 2 ?_
     simp -implicitDefEqProofs []
     refine GOz (Z2M ?_ key)
     (refine Weak.sub (by simp [lk,keptA,AV.keys]) ?_;simp only [Wkl,and_true];(try simp [lk,keptO,keptA,AV.keys]))
 · have c':nuI l≠[]:=fun h=>c (List.map_eq_nil_iff.1 h)
   have e2:liA true (nuI l) = .vsl ((nuI l).map ia):=by simp [liA,c']
   rw [e2]at key
   refine Z2L mixed 1000 ?_
   simp -implicitDefEqProofs [c]
   refine Za2 (tuS r l s) (fun _=>True) (nuI l).length ?_ trivial ?_ ?_
   · simp only [tuS,if_true]
     (refine Weak.sub (by simp [lk,keptA,AV.keys]) ?_;simp only [Wkl,and_true];(try simp [lk,keptO,keptA,AV.keys]))
   · intro j hj _
     have hj':j<(opI l l.length).length:=by omega
     have wj:IntKind.i64.wrap ((j:Int)+1)=(j:Int)+1:=wrapI (by omega) (by omega)
     have hna:=hnat j hj'
     have hkl:=(hlt _ (List.getElem_mem hj')).1
     have tk:=List.take_succ_eq_append_getElem hj
     have tl:=Zh1 (l:=l) (j:=j) (by omega)
     rw [hna]at tk
     have tk:tkN l (j+1)=tkN l j++[[.int .i64 (nAt l (opI l l.length)[j]).nu]]:=by unfold tkN;rw [tk,List.map_append];rfl
     generalize hkk:(opI l l.length)[j]=k at *
     have hlk:l[k]=nAt l k:=(ZcP hkl).symm
     have hnk:na (nAt l k)=[.int .i64 (nAt l k).nu,.int .i64 (nAt l k).dy,.int .u8 (nAt l k).sg,.int .i64 (nAt l k).dr,.int .i64 (nAt l k).lt,.int .i64 (nAt l k).fr,.int .i64 (nAt l k).tu,.int .i64 (nAt l k).ca,.bool (nAt l k).up,.int .u8 (nAt l k).wy]:=rfl
     have bb:((j:Int)+1)*8≤70368744177664:=by omega
     have bb2:(j+1)*8≤70368744177664:=by omega
     refine GO_AR mixed 1000 ?_
     cases j with
     | zero =>
       have w1:IntKind.i64.wrap 1=1:=rfl
       simp -implicitDefEqProofs [tuS,hj',hkk,ja,hkl,hlk,hnk,w1]
       refine ⟨rfl,?_⟩
       have e0:tkN l 0=[]:=by simp [tkN]
       rw [e0,List.nil_append]at tk
       rw [tk]
       ((try simp only [ja]);refine Weak.sub (by simp [lk,keptA,AV.keys,ja]) ?_;simp only [ja,Wkl,and_true];(try simp [lk,keptO,keptA,AV.keys,ja]))
     | succ i =>
       have k1:(i:Int)+1<(opI l l.length).length:=by omega
       have wk3:IntKind.i64.wrap ((i:Int)+1+1)=(i:Int)+1+1:=wrapI (by omega) (by omega)
       have k2:((i:Int)+1).toNat=i+1:=by omega
       have k3:(0:Int)≤(i:Int)+1:=by omega
       simp -implicitDefEqProofs [tuS,hj',hkk,ja,hkl,hlk,hnk,tl,bb,bb2,k1,k2,k3,wk3]
       refine ⟨rfl,?_⟩
       rw [← tk]
       ((try simp only [ja]);refine Weak.sub (by simp [lk,keptA,AV.keys,ja]) ?_;simp only [ja,Wkl,Zh0,and_true];(try simp [lk,keptO,keptA,AV.keys,ja]))
   · intro _
     refine GO_AR mixed 1000 ?_
     simp -implicitDefEqProofs [tuS,hnl,c]
     refine Z2N mixed 2 ?_
     simp -implicitDefEqProofs []
     refine GOz (Z2M (Weak.trans (Weak.frz (fun k=>k == 28) _) ?_) key)
     rw [← hnl,Zh2]
     ((try simp only [frzSt,frzA,frzO,frz,snapF,snapL,St.get,ia]);refine Weak.sub (by simp [lk,keptA,AV.keys,frzSt,frzA,frzO,frz,snapF,snapL,St.get,ia]) ?_;simp only [frzSt,frzA,frzO,frz,snapF,snapL,St.get,ia,Wkl,and_true];(try simp [lk,keptO,keptA,AV.keys,frzSt,frzA,frzO,frz,snapF,snapL,St.get,ia]))
def rbK (f:Nat→Bool) (n k:Nat):List Bool:=(List.range n).map fun j=>decide (k≤j)&&f j
theorem Zh5 {f:Nat→Bool} {n k:Nat}:(rbK f n k).length=n:=by simp [rbK]
theorem Zh6 {f:Nat→Bool} {n k j:Nat} (h:k≤j) (h2:j<n):(rbK f n k)[j]? = some (f j):=by
 rw [List.getElem?_eq_getElem (by rw [Zh5];exact h2)]
 simp [rbK,h]
theorem Zh7 {f:Nat→Bool} {n k:Nat}:(rbK f n (k+1)).set k (f k)=rbK f n k:=by
 refine List.ext_getElem (by simp [rbK]) fun j h1 h2=>?_
 rw [List.getElem_set]
 split
 · rename_i e;subst e;simp [rbK]
 · rename_i e
   have:decide (k+1≤j)=decide (k≤j):=by rw [decide_eq_decide];omega
   simp only [rbK,List.getElem_map,List.getElem_range,this]
def ba (b:Bool):List AV:=[.bool b]
theorem Zh8 (o:List (Nat×AObj)) (l:List Bool):keptO o (.row 1 (l.map ba))=true:=by
 simp only [keptO,List.all_eq_true,List.mem_map]
 rintro x ⟨y,-,rfl⟩ v hv
 simp only [ba,List.mem_singleton]at hv
 subst hv
 simp [keptA,AV.keys]
theorem Zh9 {f:Nat→Bool} {n:Nat}:(rbK f n n).map ba=List.replicate n [.bool false]:=by
 refine List.ext_getElem (by simp [rbK]) fun j h1 h2=>?_
 have:¬n≤j:=by simp at h2;omega
 simp [rbK,ba,this]
set_option maxHeartbeats 2000000 in
theorem Zha (r:List Iss) (l:List Nte) (ns nw:Bool) (s w:List Int) (m:Int) (hl:l.length≤12) (hs:Sml s) (hw:Sml w) :
  PC Tryz.prog G 116 [.agg [.vsl (r.map isa),.vsl (l.map na)],liA ns s,liA nw w,.int .i64 m] (.vsl ((rbK (fB s w m l) l.length 0).map ba)):=by
 have c1:=fun n=>Zh3 (G:=G) ns s n hs
 have c2:=fun n=>Zh3 (G:=G) nw w n hw
 have c3:=fun n lo hi=>ZdX (G:=G) n lo hi
 have k1:=ZgH ns s
 have k2:=ZgH nw w
 have p1:=ZgG ns s
 have p2:=ZgG nw w
 generalize liA ns s=sV at *
 generalize liA nw w=wV at *
 refine ZdC rfl fun R hG hrd=>?_
 subst hG
 refine GO_AR mixed 1000 ?_
 have b1:(l.length:Int)≤16777216:=by omega
 have rep:=Zh9 (f:=fB s w m l) (n:=l.length)
 have rln:=fun k=>Zh5 (f:=fB s w m l) (n:=l.length) (k:=k)
 have w0:IntKind.i64.wrap ((l.length:Int)-1)=(l.length:Int)-1:=wrapI (by omega) (by omega)
 simp -implicitDefEqProofs [ZdA,ZdB,b1,← rep,w0]
 refine Z1Q (fun k:Nat=>⟨[(10,.int .i64 ((k:Int)-1)),(9,.osl 17 l.length),(4,.ptr 4 0),(1,sV),(2,wV),(3,.int .i64 m)],[(17,.row 1 ((rbK (fB s w m l) l.length k).map ba)),(4,.box [.vsl (r.map isa),.vsl (l.map na)])]⟩) (fun k=>k≤l.length) (fun k=>k) l.length ?_ (Nat.le_refl _) ?_
 · ((try simp only [k1,k2]);refine Weak.sub (by simp [lk,keptA,AV.keys,k1,k2]) ?_;simp only [k1,k2,Wkl,Zh8,and_true];(try simp [lk,keptO,keptA,AV.keys,k1,k2]))
 · intro k hk
   cases k with
   | zero =>
     have rl0:=rln 0
     refine GO_AR mixed 1000 ?_
     simp -implicitDefEqProofs []
     refine Z2N mixed 1000 ?_
     simp -implicitDefEqProofs [ba,rl0]
   | succ k =>
     have hi:k<l.length:=hk
     have hx:=ZcP hi
     have hnx:na (nAt l k)=[.int .i64 (nAt l k).nu,.int .i64 (nAt l k).dy,.int .u8 (nAt l k).sg,.int .i64 (nAt l k).dr,.int .i64 (nAt l k).lt,.int .i64 (nAt l k).fr,.int .i64 (nAt l k).tu,.int .i64 (nAt l k).ca,.bool (nAt l k).up,.int .u8 (nAt l k).wy]:=rfl
     have fe:=ZcV (p:=bsF s w m) (h:=fun x y:Nte=>decide (y.ca=x.nu)) hi
     rw [← hx]at fe
     have gb:=ZcW (p:=bsF s w m) (h:=fun x y:Nte=>decide (y.ca=x.nu)) (l:=l) (x:=nAt l k) (i:=k)
     have gs:=fun j=>ZcX (p:=bsF s w m) (h:=fun x y:Nte=>decide (y.ca=x.nu)) (l:=l) (x:=nAt l k) (i:=k) (k:=j)
     have fbs:fB s w m l k=gwB (bsF s w m) (fun x y=>decide (y.ca=x.nu)) l (nAt l k) k l.length:=fe
     have rat:=fun j (h:k+1≤j) (h2:j<l.length)=>Zh6 (f:=fB s w m l) h h2
     have rst:=Zh7 (f:=fB s w m l) (n:=l.length) (k:=k)
     have rln1:=rln (k+1)
     rw [fbs]at rst
     have c1:=c1 (nAt l k).nu
     have c2:=c2 (nAt l k).nu
     have c3:=c3 m (nAt l k).fr (nAt l k).tu
     have w1:IntKind.i64.wrap ((k:Int)+1)=((k+1:Nat):Int):=wrapI (by omega) (by omega)
     generalize hxx:nAt l k=x at *
     have hlx:l[k]=x:=hx.symm
     generalize hQQ:rbK (fB s w m l) l.length (k+1)=Q at *
     refine GO_AR mixed 13 ?_
     simp -implicitDefEqProofs [hi,hlx,hnx]
     refine Zeb (S:=⟨[(10,.int .i64 k),(11,.ptr 11 0),(12,.bool (bsF s w m x)),(9,.osl 17 l.length),(4,.ptr 4 0),(1,sV),(2,wV),(3,.int .i64 m)],[(11,.box (na x)),(17,.row 1 (Q.map ba)),(4,.box [.vsl (r.map isa),.vsl (l.map na)])]⟩) (GO_AR mixed 1000 ?_) ?_
     · unfold bsF
       by_cases e1:x.sg=2
       · simp -implicitDefEqProofs [hnx,e1]
         refine CallK.of c2 (by simp [p2,AV.pure]) ?_
         by_cases e2:x.nu∈w
         · simp -implicitDefEqProofs [e2]
           ((try simp only [k1,k2,hnx]);refine Weak.sub (by simp [lk,keptA,AV.keys,k1,k2,hnx]) ?_;simp only [k1,k2,hnx,Wkl,Zh8,and_true];(try simp [lk,keptO,keptA,AV.keys,k1,k2,hnx]))
         · simp -implicitDefEqProofs [e2]
           (first|refine CallK.of (c3) (by simp) ?_|refine CallD.of (c3) (by simp) ?_)
           simp -implicitDefEqProofs []
           ((try simp only [k1,k2,hnx]);refine Weak.sub (by simp [lk,keptA,AV.keys,k1,k2,hnx]) ?_;simp only [k1,k2,hnx,Wkl,Zh8,and_true];(try simp [lk,keptO,keptA,AV.keys,k1,k2,hnx]))
       · simp -implicitDefEqProofs [hnx,e1]
         refine CallK.of c1 (by simp [p1,AV.pure]) ?_
         by_cases e3:x.nu∈s
         · simp -implicitDefEqProofs [e3]
           refine CallK.of c2 (by simp [p2,AV.pure]) ?_
           by_cases e2:x.nu∈w
           · simp -implicitDefEqProofs [e2]
             ((try simp only [k1,k2,hnx]);refine Weak.sub (by simp [lk,keptA,AV.keys,k1,k2,hnx]) ?_;simp only [k1,k2,hnx,Wkl,Zh8,and_true];(try simp [lk,keptO,keptA,AV.keys,k1,k2,hnx]))
           · simp -implicitDefEqProofs [e2]
             (first|refine CallK.of (c3) (by simp) ?_|refine CallD.of (c3) (by simp) ?_)
             simp -implicitDefEqProofs []
             ((try simp only [k1,k2,hnx]);refine Weak.sub (by simp [lk,keptA,AV.keys,k1,k2,hnx]) ?_;simp only [k1,k2,hnx,Wkl,Zh8,and_true];(try simp [lk,keptO,keptA,AV.keys,k1,k2,hnx]))
         · simp -implicitDefEqProofs [e3]
           ((try simp only [k1,k2,hnx]);refine Weak.sub (by simp [lk,keptA,AV.keys,k1,k2,hnx]) ?_;simp only [k1,k2,hnx,Wkl,Zh8,and_true];(try simp [lk,keptO,keptA,AV.keys,k1,k2,hnx]))
     rw [← gb]
     refine GO_AR mixed 1000 ?_
     simp -implicitDefEqProofs [w1]
     refine Z1Q (fun p:Nat=>⟨[(13,.int .i64 (p:Int)),(10,.int .i64 k),(11,.ptr 11 0),(12,.bool (gwB (bsF s w m) (fun x y=>decide (y.ca=x.nu)) l x k p)),(9,.osl 17 l.length),(4,.ptr 4 0),(1,sV),(2,wV),(3,.int .i64 m)],[(11,.box (na x)),(17,.row 1 (Q.map ba)),(4,.box [.vsl (r.map isa),.vsl (l.map na)])]⟩) (fun p=>k+1≤p∧p≤l.length) (fun p=>l.length-p) (k+1) ?_ ⟨Nat.le_refl _,hi⟩ ?_
     · ((try simp only [k1,k2,hnx]);refine Weak.sub (by simp [lk,keptA,AV.keys,k1,k2,hnx]) ?_;simp only [k1,k2,hnx,Wkl,Zh8,and_true];(try simp [lk,keptO,keptA,AV.keys,k1,k2,hnx]))
     · rintro p ⟨hp1,hp2⟩
       refine GO_AR mixed 1000 ?_
       rcases Nat.lt_or_ge p l.length with h5|h5
       · have hrat:=rat p hp1 h5
         obtain ⟨q1,g1⟩:=List.getElem?_eq_some_iff.1 hrat
         have hg:=gs p (by omega) h5
         have hy:=ZcP h5
         have hny:na (nAt l p)=[.int .i64 (nAt l p).nu,.int .i64 (nAt l p).dy,.int .u8 (nAt l p).sg,.int .i64 (nAt l p).dr,.int .i64 (nAt l p).lt,.int .i64 (nAt l p).fr,.int .i64 (nAt l p).tu,.int .i64 (nAt l p).ca,.bool (nAt l p).up,.int .u8 (nAt l p).wy]:=rfl
         have w2:IntKind.i64.wrap ((p:Int)+1)=(p:Int)+1:=wrapI (by omega) (by omega)
         rw [← hy]at hg
         replace hg:_=(_ && !(fB s w m l p&&_)):=hg
         generalize hyy:nAt l p=y at *
         have hly:l[p]=y:=hy.symm
         generalize fB s w m l p=fb at *
         cases hb:gwB (bsF s w m) (fun x y=>decide (y.ca=x.nu)) l x k p
         · rw [hb,Bool.false_and]at hg
           simp -implicitDefEqProofs [hb,h5,hnx,w2]
           refine ⟨rfl,p+1,?_,⟨by omega,h5⟩,(by show l.length-(p+1)<l.length-p;omega)⟩
           simp only [hg]
           ((try simp only [k1,k2,hnx]);refine Weak.sub (by simp [lk,keptA,AV.keys,k1,k2,hnx]) ?_;simp only [k1,k2,hnx,Wkl,Zh8,and_true];(try simp [lk,keptO,keptA,AV.keys,k1,k2,hnx]))
         · rw [hb,Bool.true_and]at hg
           cases fb
           · rw [Bool.false_and,Bool.not_false]at hg
             simp -implicitDefEqProofs [hb,h5,hnx,w2,rln1,g1,ba]
             refine ⟨rfl,p+1,?_,⟨by omega,h5⟩,(by show l.length-(p+1)<l.length-p;omega)⟩
             simp only [hg]
             ((try simp only [k1,k2,hnx]);refine Weak.sub (by simp [lk,keptA,AV.keys,k1,k2,hnx]) ?_;simp only [k1,k2,hnx,Wkl,Zh8,and_true];(try simp [lk,keptO,keptA,AV.keys,k1,k2,hnx]))
           · rw [Bool.true_and]at hg
             simp -implicitDefEqProofs [hb,h5,hnx,w2,rln1,g1,ba,hly,hny]
             refine ⟨rfl,p+1,?_,⟨by omega,h5⟩,(by show l.length-(p+1)<l.length-p;omega)⟩
             simp only [hg]
             ((try simp only [k1,k2,hnx]);refine Weak.sub (by simp [lk,keptA,AV.keys,k1,k2,hnx]) ?_;simp only [k1,k2,hnx,Wkl,Zh8,and_true];(try simp [lk,keptO,keptA,AV.keys,k1,k2,hnx]))
       · obtain rfl:p=l.length:=by omega
         simp -implicitDefEqProofs []
         refine Z2N mixed 1000 ?_
         have e1:∀ b:Bool,[AV.bool b]=ba b:=fun _=>rfl
         have wk:IntKind.i64.wrap ((k:Int)-1)=(k:Int)-1:=wrapI (by omega) (by omega)
         simp -implicitDefEqProofs [hi,rln1,ba,wk]
         refine Z2N mixed 1000 ?_
         simp -implicitDefEqProofs [wk]
         refine ⟨k,?_,by omega,Nat.lt_succ_self _⟩
         simp only [e1]
         rw [← List.map_set,rst]
         ((try simp only [k1,k2,hnx]);refine Weak.sub (by simp [lk,keptA,AV.keys,k1,k2,hnx]) ?_;simp only [k1,k2,hnx,Wkl,Zh8,and_true];(try simp [lk,keptO,keptA,AV.keys,k1,k2,hnx]))
end
theorem Zhb {r:List Iss} {l:List Nte} (h:chN r l=0):ZcS r l=true:=by
 unfold chN at h
 split at h
 · cases q:ZcS r l
   · rw [q]at h;cases h
   · rfl
 · rename_i e;exact absurd h e
theorem Zhc {r:List Iss} {l:List Nte} {s:List Int} {m:Int} (h:asN r l s m=0):chN r l=0∧truB l s=true∧inR m 1 999=true:=by
 unfold asN at h
 split at h
 · rename_i h1
   split at h
   · rename_i h2
     split at h
     · rename_i h3;exact ⟨h1,h2,h3⟩
     · cases h
   · cases h
 · rename_i e;exact absurd h e
theorem Zhd {r:List Iss} {l:List Nte} (h:ZcS r l=true):l.length≤12:=by simp only [ZcS,Bool.and_eq_true,decide_eq_true_eq]at h;exact h.1.1
section
variable {G:Nat→Option (List AV)}
theorem Zhe (r:List Iss) (l:List Nte) (s:List Int) (m:Int) (hw:WfN l) (hr:Wf r) (hs:Sml s):PC Tryz.prog G 104 [.agg [.vsl (r.map isa),.vsl (l.map na)],.vsl (s.map ia),.int .i64 m] (.int .i64 (asN r l s m)):=by
 have hc:=Zea (G:=G) r l hw hr
 have hi:=ZdX (G:=G) m 1 999
 (refine ZdF rfl fun R hG hrd=>GO_AR mixed 1000 ?_;subst hG)
 unfold asN
 by_cases h0:chN r l=0
 · have ht:=Zh4 (G:=R.G) r l s (Zhd (Zhb h0)) hs
   simp -implicitDefEqProofs [ZdD,ZdE]
   (first|refine CallK.of (hc) (by simp) ?_|refine CallD.of (hc) (by simp) ?_)
   simp -implicitDefEqProofs [h0]
   (first|refine CallK.of (ht) (by simp) ?_|refine CallD.of (ht) (by simp) ?_)
   cases q:truB l s
   · simp -implicitDefEqProofs []
   · simp -implicitDefEqProofs []
     (first|refine CallK.of (hi) (by simp) ?_|refine CallD.of (hi) (by simp) ?_)
     cases q2:inR m 1 999
     · simp -implicitDefEqProofs []
     · simp -implicitDefEqProofs []
 · simp -implicitDefEqProofs [ZdD,ZdE]
   (first|refine CallK.of (hc) (by simp) ?_|refine CallD.of (hc) (by simp) ?_)
   simp -implicitDefEqProofs [h0]
def foS3 (r:List Iss) (l:List Nte) (s:List Int) (m:Int) (i:Nat):St :=
 if fcN s [] m l i=[] then ⟨[(11,.int .i64 i),(10,.vsl ((rbK (fB s [] m l) l.length 0).map ba)),(9,.nils),(3,.ptr 3 0)],[(3,.box [.vsl (r.map isa),.vsl (l.map na)])]⟩
 else ⟨[(11,.int .i64 i),(10,.vsl ((rbK (fB s [] m l) l.length 0).map ba)),(9,.osl 41 (fcN s [] m l i).length),(3,.ptr 3 0)],[(41,.row 1 ((fcN s [] m l i).map ia)),(3,.box [.vsl (r.map isa),.vsl (l.map na)])]⟩
set_option maxHeartbeats 1000000 in
theorem Zhf (r:List Iss) (l:List Nte) (s:List Int) (m:Int) (hw:WfN l) (hr:Wf r) (hs:Sml s):PC Tryz.prog G 84 [.agg [.vsl (r.map isa),.vsl (l.map na)],.vsl (s.map ia),.int .i64 m] (fcA r l s m):=by
 have ha:=Zhe (G:=G) r l s m hw hr hs
 refine ZdI rfl fun R hG hrd=>?_
 subst hG
 refine GO_AR mixed 1000 ?_
 unfold fcA fcE
 by_cases h0:asN r l s m=0
 · have hl12:=Zhd (Zhb (Zhc h0).1)
   have hf:=Zha (G:=R.G) r l false true s [] m hl12 hs (by simp [Sml])
   have e1:liA false s = .vsl (s.map ia):=by simp [liA]
   have e2:liA true [] = .nils:=by simp [liA]
   rw [e1,e2]at hf
   rw [h0]at ha
   rw [if_pos h0]
   simp -implicitDefEqProofs [ZdG,ZdH]
   (first|refine CallK.of (ha) (by simp) ?_|refine CallD.of (ha) (by simp) ?_)
   simp -implicitDefEqProofs []
   (first|refine CallK.of (hf) (by simp) ?_|refine CallD.of (hf) (by simp) ?_)
   simp -implicitDefEqProofs []
   refine Za2 (foS3 r l s m) (fun _=>True) l.length ?_ trivial ?_ ?_
   · have e0:fcN s [] m l 0=[]:=by simp [fcN]
     simp only [foS3,e0,if_true]
     ((try simp only [ba]);refine Weak.sub (by simp [lk,keptA,AV.keys,ba]) ?_;simp only [ba,Wkl,and_true];(try simp [lk,keptO,keptA,AV.keys,ba]))
   · intro i hi _
     have hrat:=Zh6 (f:=fB s [] m l) (Nat.zero_le i) hi
     have rl0:=Zh5 (f:=fB s [] m l) (n:=l.length) (k:=0)
     obtain ⟨q1,g1⟩:=List.getElem?_eq_some_iff.1 hrat
     have hx:=ZcP hi
     have hnx:na (nAt l i)=[.int .i64 (nAt l i).nu,.int .i64 (nAt l i).dy,.int .u8 (nAt l i).sg,.int .i64 (nAt l i).dr,.int .i64 (nAt l i).lt,.int .i64 (nAt l i).fr,.int .i64 (nAt l i).tu,.int .i64 (nAt l i).ca,.bool (nAt l i).up,.int .u8 (nAt l i).wy]:=rfl
     have sc:=ZcY (s:=s) (w:=[]) (m:=m) hi
     have bb:((fcN s [] m l i).length+1)*8≤70368744177664:=by have:=ZcZ s [] m l i;omega
     have wi:IntKind.i64.wrap ((i:Int)+1)=(i:Int)+1:=wrapI (by omega) (by omega)
     rw [← hx]at sc
     have hlx:l[i]=nAt l i:=hx.symm
     have hff:∀ b,fB s [] m l i=b→True:=fun _ _=>trivial
     cases hb:fB s [] m l i
     · rw [hb]at sc g1
       have e:fcN s [] m l (i+1)=fcN s [] m l i:=sc
       by_cases c:fcN s [] m l i=[]
       all_goals
        refine GO_AR mixed 1000 ?_
        simp only [foS3,c,if_true,if_false]
        simp -implicitDefEqProofs [hi,rl0,g1,ba,wi]
        simp only [foS3,e,c,if_true,if_false]
        (refine Weak.sub (by simp [lk,keptA,AV.keys]) ?_;simp only [Wkl,Zh8,Zg6,and_true];(try simp [lk,keptO,keptA,AV.keys]))
     · rw [hb]at sc g1
       have e:fcN s [] m l (i+1)=fcN s [] m l i++[(nAt l i).nu]:=sc
       have hne:fcN s [] m l (i+1)≠[]:=by rw [e];simp
       by_cases c:fcN s [] m l i=[]
       all_goals
        refine GO_AR mixed 1000 ?_
        simp only [foS3,c,if_true,if_false]
        simp -implicitDefEqProofs [hi,rl0,g1,ba,wi,hlx,hnx,bb]
        simp only [foS3,hne,if_false]
        have e1:(fcN s [] m l (i+1)).map ia=(fcN s [] m l i).map ia++[[AV.int .i64 (nAt l i).nu]]:=by rw [e,List.map_append];rfl
        have e2:(fcN s [] m l (i+1)).length=(fcN s [] m l i).length+1:=by rw [e];simp
        first
         |(rw [c,List.nil_append]at e;rw [e];((try simp only [ia]);refine Weak.sub (by simp [lk,keptA,AV.keys,ia]) ?_;simp only [ia,Wkl,and_true];(try simp [lk,keptO,keptA,AV.keys,ia]));done)
         |(rw [← e1,e2];(refine Weak.sub (by simp [lk,keptA,AV.keys]) ?_;simp only [Wkl,Zg6,and_true];(try simp [lk,keptO,keptA,AV.keys]));done)
   · intro _
     have rl0:=Zh5 (f:=fB s [] m l) (n:=l.length) (k:=0)
     refine GO_AR mixed 1000 ?_
     by_cases c:fcN s [] m l l.length=[]
     · simp -implicitDefEqProofs [foS3,c,rl0]
       refine Z2N mixed 1000 ?_
       simp -implicitDefEqProofs [orNil]
     · simp -implicitDefEqProofs [foS3,c,rl0]
       refine Z2N mixed 1000 ?_
       simp -implicitDefEqProofs [orNil,c,ia]
 · rw [if_neg h0]
   simp -implicitDefEqProofs [ZdG,ZdH]
   (first|refine CallK.of (ha) (by simp) ?_|refine CallD.of (ha) (by simp) ?_)
   simp -implicitDefEqProofs [h0,orNil]
end
section
variable {G:Nat→Option (List AV)}
theorem Zhg (n lo hi:Int):PC Tryz.prog G 43 [.int .i64 n,.int .i64 lo,.int .i64 hi] (.bool (inR n lo hi)):=by
 (refine Z6V rfl fun R hG hrd=>GO_AR mixed 1000 ?_;subst hG)
 by_cases h1:lo≤n <;> by_cases h2:n≤hi <;> simp -implicitDefEqProofs [Z6T,Z6U,inR,h1,h2]
theorem Zhh (l:List Int) (n:Int) (h:Sml l):PC Tryz.prog G 85 [.vsl (l.map ia),.int .i64 n] (.bool (decide (n∈l))):=by
 (refine Z6Y rfl fun R hG hrd=>GO_AR mixed 1000 ?_;subst hG)
 unfold Sml at h
 simp -implicitDefEqProofs [Z6W,Z6X]
 refine Za2 (fun i=>⟨[(5,.int .i64 i),(0,.vsl (l.map ia)),(1,.int .i64 n)],[]⟩) (fun i=>∀ j (h:j<l.length),j<i→¬l[j]=n) l.length (by (first|exact Weak.tm (by simp [lk])|exact Weak.sub (by simp [lk,keptA,AV.keys]) (by simp [lk,keptO,keptA,AV.keys]))) (by simp) ?_ ?_
 · intro i hi he
   refine GO_AR mixed 1000 ?_
   have w1:IntKind.i64.wrap ((i:Int)+1)=(i:Int)+1:=wrapI (by omega) (by omega)
   by_cases e:l[i]=n
   · have hm:n∈l:=e ▸ List.getElem_mem hi
     simp -implicitDefEqProofs [hi,ia,e]
     refine Z2N mixed 1000 ?_
     simp -implicitDefEqProofs [hm]
   · simp -implicitDefEqProofs [hi,ia,e,w1]
     refine ⟨by (first|exact Weak.tm (by simp [lk])|exact Weak.sub (by simp [lk,keptA,AV.keys]) (by simp [lk,keptO,keptA,AV.keys])),fun j hj hji=>?_⟩
     rcases Nat.lt_or_ge j i with h2|h2
     · exact he j hj h2
     · obtain rfl:j=i:=by omega
       exact e
 · intro he
   refine GO_AR mixed 1000 ?_
   have hm:¬n∈l:=fun hm=>by
    obtain ⟨j,hj,e⟩:=List.getElem_of_mem hm
    exact he j hj hj e
   simp -implicitDefEqProofs []
   refine Z2N mixed 1000 ?_
   simp -implicitDefEqProofs [hm]
theorem Zhi (r:List Iss) (d l:Int) (hr:Sml r):PC Tryz.prog G 93 [.agg [.vsl (r.map isa)],.agg [.int .i64 d,.int .i64 l]] (.bool (knB r d l)):=by
 have hf:=Zal (G:=G) r d l hr
 rw [rega]at hf
 unfold knB
 (refine Z71 rfl fun R hG hrd=>GO_AR mixed 1000 ?_;subst hG)
 cases q:findN d l r with
 | some y =>
   rw [q]at hf
   simp -implicitDefEqProofs [Z6Z,Z70]
   (first|refine CallK.of (hf) (by simp) ?_|refine CallD.of (hf) (by simp) ?_)
   simp -implicitDefEqProofs [fndA,isa]
 | none =>
   rw [q]at hf
   simp -implicitDefEqProofs [Z6Z,Z70]
   (first|refine CallK.of (hf) (by simp) ?_|refine CallD.of (hf) (by simp) ?_)
   simp -implicitDefEqProofs [fndA,noIs]
theorem Zhj {x y:Nte} (h:x≠y):(!decide (x.nu=y.nu)||(!decide (x.dy=y.dy)||(!decide (x.sg=y.sg)||(!decide (x.dr=y.dr)||(!decide (x.lt=y.lt)||(!decide (x.fr=y.fr)||(!decide (x.tu=y.tu)||(!decide (x.ca=y.ca)||(!(x.up == y.up) || !decide (x.wy=y.wy))))))))))=true:=by
 cases q:(!decide (x.nu=y.nu)||(!decide (x.dy=y.dy)||(!decide (x.sg=y.sg)||(!decide (x.dr=y.dr)||(!decide (x.lt=y.lt)||(!decide (x.fr=y.fr)||(!decide (x.tu=y.tu)||(!decide (x.ca=y.ca)||(!(x.up == y.up) || !decide (x.wy=y.wy))))))))))
 · refine absurd ?_ h
   simp at q
   cases x;cases y;simp_all
 · rfl
theorem Zhk {x y:Rul} (h:x≠y):(!decide (x.nu=y.nu)||(!decide (x.dy=y.dy)||(!decide (x.fd=y.fd)||(!decide (x.fl=y.fl)||(!decide (x.td=y.td)||(!decide (x.tl=y.tl)||(!(x.bo == y.bo) || !decide (x.br=y.br))))))))=true:=by
 cases q:(!decide (x.nu=y.nu)||(!decide (x.dy=y.dy)||(!decide (x.fd=y.fd)||(!decide (x.fl=y.fl)||(!decide (x.td=y.td)||(!decide (x.tl=y.tl)||(!(x.bo == y.bo) || !decide (x.br=y.br))))))))
 · refine absurd ?_ h
   simp at q
   cases x;cases y;simp_all
 · rfl
theorem Zhl (a b:List Iss) (l k:List Nte) (ha:SmlR a) (hl:Sml l):PC Tryz.prog G 52 [.agg [.vsl (a.map isa),.vsl (l.map na)],.agg [.vsl (b.map isa),.vsl (k.map na)]] (.bool (decide (a=b∧l=k))):=by
 have hs:=Zae (G:=G) a b ha
 rw [rega,rega]at hs
 unfold Sml at hl
 (refine ZdL rfl fun R hG hrd=>GO_AR mixed 1000 ?_;subst hG)
 simp -implicitDefEqProofs [ZdJ,ZdK]
 (first|refine CallK.of (hs) (by simp) ?_|refine CallD.of (hs) (by simp) ?_)
 by_cases h1:a=b
 · by_cases h2:l.length=k.length
   · have h2':(l.length:Int)=k.length:=by omega
     simp -implicitDefEqProofs [h1,h2']
     refine Za2 (fun i=>⟨[(5,.int .i64 i),(2,.ptr 2 0),(3,.ptr 3 0)],[(2,.box [.vsl (b.map isa),.vsl (l.map na)]),(3,.box [.vsl (b.map isa),.vsl (k.map na)])]⟩) (fun i=>∀ j (h:j<l.length),j<i→l[j]=k[j]) l.length (by subst h1;(first|exact Weak.tm (by simp [lk])|exact Weak.sub (by simp [lk,keptA,AV.keys]) (by simp [lk,keptO,keptA,AV.keys]))) (by simp) ?_ ?_
     · intro i hi he
       have hi2:i<k.length:=by omega
       have w1:IntKind.i64.wrap ((i:Int)+1)=(i:Int)+1:=wrapI (by omega) (by omega)
       refine GO_AR mixed 1000 ?_
       by_cases h2:l[i]=k[i]
       · simp -implicitDefEqProofs [hi,hi2,na,w1,h2]
         refine ⟨rfl,by (first|exact Weak.tm (by simp [lk])|exact Weak.sub (by simp [lk,keptA,AV.keys]) (by simp [lk,keptO,keptA,AV.keys])),fun j h1 h3=>?_⟩
         by_cases e:j=i
         · subst e;exact h2
         · exact he j h1 (by omega)
       · have h3:¬l=k:=fun e=>h2 (by subst e;rfl)
         have ne:=Zhj h2
         simp -implicitDefEqProofs [hi,hi2,na,w1,ne]
         refine ⟨rfl,?_⟩
         refine Z2N mixed 1000 ?_
         simp -implicitDefEqProofs [h3]
     · intro he
       have h3:l=k:=List.ext_getElem h2 fun j h1 h2=>he j h1 h1
       refine GO_AR mixed 1000 ?_
       simp -implicitDefEqProofs []
       refine Z2N mixed 1000 ?_
       simp -implicitDefEqProofs [h3,h1]
   · have h2':¬(l.length:Int)=k.length:=by omega
     have h3:¬l=k:=fun e=>h2 (by rw [e])
     simp -implicitDefEqProofs [h1,h2',h3]
 · simp -implicitDefEqProofs [h1]
theorem Zhm (r:List Iss) (l:List Nte) (h:Sml r):PC Tryz.prog G 38 [.agg [.vsl (r.map isa),.vsl (l.map na)]] (.bool (Zag r||decide (16<l.length))):=by
 have hg:=Zak (G:=G) r h
 rw [rega]at hg
 (refine ZdR rfl fun R hG hrd=>GO_AR mixed 1000 ?_;subst hG)
 simp -implicitDefEqProofs [ZdP,ZdQ]
 (first|refine CallK.of (hg) (by simp) ?_|refine CallD.of (hg) (by simp) ?_)
 cases q:Zag r
 · have e:decide ((16:Int)<l.length)=decide (16<l.length):=by rw [decide_eq_decide];omega
   simp -implicitDefEqProofs [e]
 · simp -implicitDefEqProofs []
theorem Zhn (r:List Iss) (l:List Nte) (q:List Rul) (h:Sml r):PC Tryz.prog G 7 [swa r l q] (.bool (Zag r||decide (16<l.length)||decide (20<q.length))):=by
 have hg:=Zhm (G:=G) r l h
 (refine Z7v rfl fun R hG hrd=>GO_AR mixed 1000 ?_;subst hG)
 simp -implicitDefEqProofs [Z7t,Z7u,swa]
 (first|refine CallK.of (hg) (by simp) ?_|refine CallD.of (hg) (by simp) ?_)
 cases h1:(Zag r||decide (16<l.length))
 · have e:decide ((20:Int)<q.length)=decide (20<q.length):=by rw [decide_eq_decide];omega
   simp -implicitDefEqProofs [e]
 · simp -implicitDefEqProofs []
theorem Zho (r:List Iss) (l:List Nte) (hr:SmlR r) (hl:Sml l):PC Tryz.prog G 39 [.agg [.vsl (r.map isa),.vsl (l.map na)]] (.agg [.vsl (r.map isa),.vsl (l.map na)]):=by
 have ht:=ZcO (G:=G) r hr
 rw [rega]at ht
 unfold Sml at hl
 (refine ZdO rfl fun R hG hrd=>GO_AR mixed 1000 ?_;subst hG)
 by_cases h0:l=[]
 · simp -implicitDefEqProofs [ZdM,ZdN,h0]
   (first|refine CallK.of (ht) (by simp) ?_|refine CallD.of (ht) (by simp) ?_)
   simp -implicitDefEqProofs [h0]
   try rfl
 · have b2:l.length*72≤70368744177664:=by omega
   simp -implicitDefEqProofs [ZdM,ZdN,h0]
   (first|refine CallK.of (ht) (by simp) ?_|refine CallD.of (ht) (by simp) ?_)
   simp -implicitDefEqProofs [h0,na,b2]
   try rfl
theorem Zhp (r:List Iss) (l:List Nte) (q:List Rul) (hr:SmlR r) (hl:Sml l) (hq:Sml q):PC Tryz.prog G 8 [swa r l q] (swa r l q):=by
 have ht:=Zho (G:=G) r l hr hl
 unfold Sml at hq
 (refine Z7s rfl fun R hG hrd=>GO_AR mixed 1000 ?_;subst hG)
 by_cases h0:q=[]
 · simp -implicitDefEqProofs [Z7q,Z7r,h0,swa]
   (first|refine CallK.of (ht) (by simp) ?_|refine CallD.of (ht) (by simp) ?_)
   simp -implicitDefEqProofs [h0]
   try rfl
 · have b2:q.length*64≤70368744177664:=by omega
   simp -implicitDefEqProofs [Z7q,Z7r,h0,swa]
   (first|refine CallK.of (ht) (by simp) ?_|refine CallD.of (ht) (by simp) ?_)
   simp -implicitDefEqProofs [h0,ra,b2]
   try rfl
theorem Zhq (a b:List Iss) (l k:List Nte) (q p:List Rul) (ha:SmlR a) (hl:Sml l) (hq:Sml q):PC Tryz.prog G 17 [swa a l q,swa b k p] (.bool (decide ((a=b∧l=k)∧q=p))):=by
 have hs:=Zhl (G:=G) a b l k ha hl
 unfold Sml at hq
 (refine Z7p rfl fun R hG hrd=>GO_AR mixed 1000 ?_;subst hG)
 simp -implicitDefEqProofs [Z7n,Z7o,swa]
 (first|refine CallK.of (hs) (by simp) ?_|refine CallD.of (hs) (by simp) ?_)
 by_cases h1:a=b∧l=k
 · by_cases h2:q.length=p.length
   · have h2':(q.length:Int)=p.length:=by omega
     simp -implicitDefEqProofs [h1,h2']
     refine Za2 (fun i=>⟨[(5,.int .i64 i),(2,.ptr 2 0),(3,.ptr 3 0)],[(2,.box [.vsl (b.map isa),.vsl (k.map na),.vsl (q.map ra)]),(3,.box [.vsl (b.map isa),.vsl (k.map na),.vsl (p.map ra)])]⟩) (fun i=>∀ j (h:j<q.length),j<i→q[j]=p[j]) q.length (by (first|exact Weak.tm (by simp [lk])|exact Weak.sub (by simp [lk,keptA,AV.keys]) (by simp [lk,keptO,keptA,AV.keys]))) (by simp) ?_ ?_
     · intro i hi he
       have hi2:i<p.length:=by omega
       have w1:IntKind.i64.wrap ((i:Int)+1)=(i:Int)+1:=wrapI (by omega) (by omega)
       refine GO_AR mixed 1000 ?_
       by_cases h2:q[i]=p[i]
       · simp -implicitDefEqProofs [hi,hi2,ra,w1,h2]
         refine ⟨rfl,by (first|exact Weak.tm (by simp [lk])|exact Weak.sub (by simp [lk,keptA,AV.keys]) (by simp [lk,keptO,keptA,AV.keys])),fun j h1 h3=>?_⟩
         by_cases e:j=i
         · subst e;exact h2
         · exact he j h1 (by omega)
       · have h3:¬q=p:=fun e=>h2 (by subst e;rfl)
         have ne:=Zhk h2
         simp -implicitDefEqProofs [hi,hi2,ra,w1,ne]
         refine ⟨rfl,?_⟩
         refine Z2N mixed 1000 ?_
         simp -implicitDefEqProofs [h3]
     · intro he
       have h3:q=p:=List.ext_getElem h2 fun j h1 h2=>he j h1 h1
       refine GO_AR mixed 1000 ?_
       simp -implicitDefEqProofs []
       refine Z2N mixed 1000 ?_
       simp -implicitDefEqProofs [h3,h1]
   · have h2':¬(q.length:Int)=p.length:=by omega
     have h3:¬q=p:=fun e=>h2 (by rw [e])
     simp -implicitDefEqProofs [h1,h2',h3]
 · have h1':decide (a=b∧l=k)=false:=decide_eq_false h1
   have h1'':¬(a=b∧l=k∧q=p):=fun h=>h1 ⟨h.1,h.2.1⟩
   simp -implicitDefEqProofs [h1',h1'',h1]
end
section
variable {G:Nat→Option (List AV)}
set_option maxHeartbeats 2000000 in
theorem Zhr (r:List Iss) (l:List Nte) (q:List Rul) (i:Nat) (hi:i<q.length) (hq:Sml q) (hr:Sml r):PC Tryz.prog G 88 [swa r l q,.int .i64 i] (.bool (ruleB r q i)):=by
 unfold Sml at hq
 have hx:=Zdd hi
 obtain ⟨x,hxx⟩ : ∃ x,x=q[i]:=⟨_,rfl⟩
 rw [← hxx]at hx
 have hlx:q[i]=x:=hxx.symm
 have hra:ra x=[.int .i64 x.nu,.int .i64 x.dy,.int .i64 x.fd,.int .i64 x.fl,.int .i64 x.td,.int .i64 x.tl,.bool x.bo,.int .i64 x.br]:=rfl
 have hk1:=Zhi (G:=G) r x.fd x.fl hr
 have hk2:=Zhi (G:=G) r x.td x.tl hr
 refine Z74 rfl fun R hG hrd=>?_
 subst hG
 unfold Z72 swa
 refine ZdV (S:=⟨[(1,.int .i64 i),(2,.ptr 2 0)],[(2,.box [.vsl (r.map isa),.vsl (l.map na),.vsl (q.map ra)])]⟩) (GO_AR mixed 1000 ?_) ?_
 · simp -implicitDefEqProofs []
   (refine Weak.sub (by simp [lk,keptA,AV.keys]) ?_;simp only [Wkl,and_true];(try simp [lk,keptO,keptA,AV.keys]))
 refine ZdV (S:=⟨[(1,.int .i64 i),(2,.ptr 2 0),(5,.ptr 5 0)],[(2,.box [.vsl (r.map isa),.vsl (l.map na),.vsl (q.map ra)]),(5,.box (ra x))]⟩) (GO_AR mixed 1000 ?_) ?_
 · simp -implicitDefEqProofs [hi,hlx,hra]
   ((try simp only [hra]);refine Weak.sub (by simp [lk,keptA,AV.keys,hra]) ?_;simp only [hra,Wkl,and_true];(try simp [lk,keptO,keptA,AV.keys,hra]))
 refine ZdW (S:=⟨[(1,.int .i64 i),(2,.ptr 2 0),(5,.ptr 5 0)],[(2,.box [.vsl (r.map isa),.vsl (l.map na),.vsl (q.map ra)]),(5,.box (ra x))]⟩) (Q:=cR1 x=true) (GO_AR mixed 1000 ?_) ?_
 · simp -implicitDefEqProofs [hra]
   (first|refine CallK.of (Zhg x.nu 1 9999) (by simp) ?_|refine CallD.of (Zhg x.nu 1 9999) (by simp) ?_)
   cases h1:inR x.nu 1 9999
   · have e:ruleB r q i=false:=by simp [ruleB,hx,cR1,h1]
     simp -implicitDefEqProofs [e,Z73]
   simp -implicitDefEqProofs []
   (first|refine CallK.of (Zhg x.dy 0 14610) (by simp) ?_|refine CallD.of (Zhg x.dy 0 14610) (by simp) ?_)
   cases h2:inR x.dy 0 14610
   · have e:ruleB r q i=false:=by simp [ruleB,hx,cR1,h2]
     simp -implicitDefEqProofs [e,Z73]
   simp -implicitDefEqProofs []
   refine ⟨?_,by rw [cR1,h1,h2];rfl⟩
   ((try simp only [hra]);refine Weak.sub (by simp [lk,keptA,AV.keys,hra]) ?_;simp only [hra,Wkl,and_true];(try simp [lk,keptO,keptA,AV.keys,hra]))
 intro k1
 refine ZdV (S:=⟨[(1,.int .i64 i),(2,.ptr 2 0),(5,.ptr 5 0),(6,.ptr 6 0)],[(2,.box [.vsl (r.map isa),.vsl (l.map na),.vsl (q.map ra)]),(5,.box (ra x)),(6,.box [.int .i64 0,.int .i64 0])]⟩) (GO_AR mixed 1000 ?_) ?_
 · simp -implicitDefEqProofs []
   ((try simp only [hra]);refine Weak.sub (by simp [lk,keptA,AV.keys,hra]) ?_;simp only [hra,Wkl,and_true];(try simp [lk,keptO,keptA,AV.keys,hra]))
 refine ZdW (S:=⟨[(1,.int .i64 i),(2,.ptr 2 0),(5,.ptr 5 0)],[(2,.box [.vsl (r.map isa),.vsl (l.map na),.vsl (q.map ra)]),(5,.box (ra x))]⟩) (Q:=cR2 r x=true) (GO_AR mixed 1000 ?_) ?_
 · by_cases hz:x.fd=0∧x.fl=0∧x.td=0∧x.tl=0
   · obtain ⟨z1,z2,z3,z4⟩:=hz
     have e2:cR2 r x=(!x.bo && !decide (x.br=0)):=by rw [cR2,if_pos ⟨z1,z2,z3,z4⟩]
     cases hb:x.bo
     · by_cases hc:x.br=0
       · have e:ruleB r q i=false:=by simp [ruleB,hx,e2,hc]
         simp -implicitDefEqProofs [hra,z1,z2,z3,z4,hb,hc,e,Z73]
       · simp -implicitDefEqProofs [hra,z1,z2,z3,z4,hb,hc]
         refine ⟨?_,by simp [e2,hb,hc]⟩
         ((try simp only [hra,z1,z2,z3,z4,hb]);refine Weak.sub (by simp [lk,keptA,AV.keys,hra,z1,z2,z3,z4,hb]) ?_;simp only [hra,z1,z2,z3,z4,hb,Wkl,and_true];(try simp [lk,keptO,keptA,AV.keys,hra,z1,z2,z3,z4,hb]))
     · have e:ruleB r q i=false:=by simp [ruleB,hx,e2,hb]
       simp -implicitDefEqProofs [hra,z1,z2,z3,z4,hb,e,Z73]
   · have e2 : cR2 r x=(!decide (x.fd=x.td∧x.fl=x.tl)&&knB r x.fd x.fl&&knB r x.td x.tl):=by rw [cR2,if_neg hz]
     have e2f:cR2 r x=false→ruleB r q i=false:=fun h=>by simp [ruleB,hx,h]
     have nb:∀ (p1 p2:Prop) [Decidable p1] [Decidable p2],¬(p1∧p2)→(decide p1&&decide p2)=false∧(!decide p1 || !decide p2)=true:=fun p1 p2 _ _ h=>by
      by_cases a:p1
      · have b:¬p2:=fun b=>h ⟨a,b⟩
        simp [a,b]
      · simp [a]
     by_cases f1:x.fd=0∧x.fl=0
     · have f0:¬(x.td=0∧x.tl=0):=fun h=>hz ⟨f1.1,f1.2,h.1,h.2⟩
       have f2:=nb _ _ f0
       have f3:=nb (0=x.td) (0=x.tl) fun h=>f0 ⟨h.1.symm,h.2.symm⟩
       have f5:decide (x.fd=x.td∧x.fl=x.tl)=false:=decide_eq_false fun h=>f0 ⟨h.1.symm.trans f1.1,h.2.symm.trans f1.2⟩
       rw [f5,Bool.not_false,Bool.true_and]at e2
       rw [f1.1,f1.2]at hk1 e2
       simp -implicitDefEqProofs [hra,f1.1,f1.2,f2.1,f2.2,f3.1,f3.2]
       (first|refine CallK.of (hk1) (by simp) ?_|refine CallD.of (hk1) (by simp) ?_)
       cases h1:knB r 0 0
       · have e:=e2f (by rw [e2,h1];rfl)
         simp -implicitDefEqProofs [e,Z73]
       · simp -implicitDefEqProofs [hra,f1.1,f1.2]
         (first|refine CallK.of (hk2) (by simp) ?_|refine CallD.of (hk2) (by simp) ?_)
         cases h2:knB r x.td x.tl
         · have e:=e2f (by rw [e2,h2,Bool.and_false])
           simp -implicitDefEqProofs [e,Z73]
         · simp -implicitDefEqProofs []
           refine ⟨?_,by rw [e2,h1,h2];rfl⟩
           ((try simp only [hra,f1.1,f1.2]);refine Weak.sub (by simp [lk,keptA,AV.keys,hra,f1.1,f1.2]) ?_;simp only [hra,f1.1,f1.2,Wkl,and_true];(try simp [lk,keptO,keptA,AV.keys,hra,f1.1,f1.2]))
     · have f2:=nb _ _ f1
       by_cases f4:x.fd=x.td∧x.fl=x.tl
       · have e:=e2f (by rw [e2,decide_eq_true f4];rfl)
         simp -implicitDefEqProofs [hra,f2.1,f2.2]
         rw [← f4.1,← f4.2]
         simp -implicitDefEqProofs [e,Z73]
       · have f5:=nb _ _ f4
         rw [decide_eq_false f4,Bool.not_false,Bool.true_and]at e2
         simp -implicitDefEqProofs [hra,f2.1,f2.2,f5.1,f5.2]
         (first|refine CallK.of (hk1) (by simp) ?_|refine CallD.of (hk1) (by simp) ?_)
         cases h1:knB r x.fd x.fl
         · have e:=e2f (by rw [e2,h1];rfl)
           simp -implicitDefEqProofs [e,Z73]
         · simp -implicitDefEqProofs [hra]
           (first|refine CallK.of (hk2) (by simp) ?_|refine CallD.of (hk2) (by simp) ?_)
           cases h2:knB r x.td x.tl
           · have e:=e2f (by rw [e2,h2,Bool.and_false])
             simp -implicitDefEqProofs [e,Z73]
           · simp -implicitDefEqProofs []
             refine ⟨?_,by rw [e2,h1,h2];rfl⟩
             ((try simp only [hra]);refine Weak.sub (by simp [lk,keptA,AV.keys,hra]) ?_;simp only [hra,Wkl,and_true];(try simp [lk,keptO,keptA,AV.keys,hra]))
 intro k2
 have en:ruleB r q i=(cR3 q i x&&cR4 q i x&&cR5 q i x):=by rw [ruleB,hx,k1,k2];rfl
 rw [en]
 refine GO_AR mixed 1000 ?_
 simp -implicitDefEqProofs [hra]
 refine Za2 (fun k=>⟨[(8,.int .i64 k),(7,.bool (decide (x.br=0)||(q.take k).any fun y=>decide (y.nu=x.br))),(1,.int .i64 i),(2,.ptr 2 0),(5,.ptr 5 0)],[(2,.box [.vsl (r.map isa),.vsl (l.map na),.vsl (q.map ra)]),(5,.box (ra x))]⟩)
  (fun k=>((q.take k).any fun y=>decide (y.nu=x.nu))=false) i ?_ (by simp) ?_ ?_
 · ((try simp only [hra,List.take_zero,List.any_nil,Bool.or_false]);refine Weak.sub (by simp [lk,keptA,AV.keys,hra,List.take_zero,List.any_nil,Bool.or_false]) ?_;simp only [hra,List.take_zero,List.any_nil,Bool.or_false,Wkl,and_true];(try simp [lk,keptO,keptA,AV.keys,hra,List.take_zero,List.any_nil,Bool.or_false]))
 · intro k hk hI
   refine GO_AR mixed 1000 ?_
   have hkl:k<q.length:=by omega
   have wk:IntKind.i64.wrap ((k:Int)+1)=(k:Int)+1:=wrapI (by omega) (by omega)
   have a1:=ZdS hkl fun y=>decide (y.nu=x.nu)
   have a2:=ZdS hkl fun y=>decide (y.nu=x.br)
   have hnk:ra q[k]=[.int .i64 q[k].nu,.int .i64 q[k].dy,.int .i64 q[k].fd,.int .i64 q[k].fl,.int .i64 q[k].td,.int .i64 q[k].tl,.bool q[k].bo,.int .i64 q[k].br]:=rfl
   by_cases e:q[k].nu=x.nu
   · have h7:cR3 q i x=false:=by
      have:((q.take i).any fun y=>decide (y.nu=x.nu))=true:=List.any_eq_true.2 ⟨q[k],by rw [List.mem_take_iff_getElem];exact ⟨k,by omega,rfl⟩,by simp [e]⟩
      rw [cR3,this];rfl
     simp -implicitDefEqProofs [hk,hkl,hra,hnk,e]
     refine ⟨rfl,?_⟩
     refine Z2N mixed 1000 ?_
     simp -implicitDefEqProofs [h7,Z73]
   · have hI2:((q.take (k+1)).any fun y=>decide (y.nu=x.nu))=false:=by rw [a1,hI];simp [e]
     cases hB:(decide (x.br=0)||(q.take k).any fun y=>decide (y.nu=x.br))
     · have hB2:(decide (x.br=0)||(q.take (k+1)).any fun y=>decide (y.nu=x.br))=decide (q[k].nu=x.br):=by rw [a2,← Bool.or_assoc,hB];simp
       simp -implicitDefEqProofs [hk,hkl,hra,hnk,e,hB,wk]
       refine ⟨rfl,rfl,?_,by simpa using hI2⟩
       ((try simp only [hra,hB2]);refine Weak.sub (by simp [lk,keptA,AV.keys,hra,hB2]) ?_;simp only [hra,hB2,Wkl,and_true];(try simp [lk,keptO,keptA,AV.keys,hra,hB2]))
     · have hB2:(decide (x.br=0)||(q.take (k+1)).any fun y=>decide (y.nu=x.br))=true:=by rw [a2,← Bool.or_assoc,hB];rfl
       simp -implicitDefEqProofs [hk,hkl,hra,hnk,e,hB,wk]
       refine ⟨rfl,rfl,?_,by simpa using hI2⟩
       ((try simp only [hra,hB2]);refine Weak.sub (by simp [lk,keptA,AV.keys,hra,hB2]) ?_;simp only [hra,hB2,Wkl,and_true];(try simp [lk,keptO,keptA,AV.keys,hra,hB2]))
 · intro hI
   refine GO_AR mixed 1000 ?_
   have h7:cR3 q i x=true:=by rw [cR3,hI];rfl
   have h6:(decide (x.br=0)||(q.take i).any fun y=>decide (y.nu=x.br))=cR4 q i x:=rfl
   rw [h6]
   cases i with
   | zero =>
     simp -implicitDefEqProofs [hra]
     refine Z2N mixed 1000 ?_
     simp -implicitDefEqProofs [h7,cR5,Z73]
   | succ k =>
     have hkl:k<q.length:=by omega
     have w1:IntKind.i64.wrap ((k:Int)+1-1)=(k:Int):=by rw [wrapI (by omega) (by omega)];omega
     have w2:IntKind.i64.wrap (k:Int)=(k:Int):=wrapI (by omega) (by omega)
     have i0:¬(k:Int)+1=0:=by omega
     have ek:=Zdd hkl
     have hnk:ra q[k]=[.int .i64 q[k].nu,.int .i64 q[k].dy,.int .i64 q[k].fd,.int .i64 q[k].fl,.int .i64 q[k].td,.int .i64 q[k].tl,.bool q[k].bo,.int .i64 q[k].br]:=rfl
     have e8:cR5 q (k+1) x=(decide (q[k].dy<x.dy)||(decide (q[k].dy=x.dy)&&decide (q[k].nu<x.nu))):=by rw [cR5,ek]
     rw [e8]
     cases h6:cR4 q (k+1) x
     · simp -implicitDefEqProofs [hra]
       refine Z2N mixed 1000 ?_
       simp -implicitDefEqProofs [h7,i0,w1,w2,hkl,hnk,hra,h6,Z73]
     by_cases q1:q[k].dy<x.dy
     · simp -implicitDefEqProofs [hra]
       refine Z2N mixed 1000 ?_
       simp -implicitDefEqProofs [h7,i0,w1,w2,hkl,hnk,hra,q1,h6,Z73]
     by_cases q2:q[k].dy=x.dy
     · have q1':¬x.dy<x.dy:=by omega
       simp -implicitDefEqProofs [hra]
       refine Z2N mixed 1000 ?_
       simp -implicitDefEqProofs [h7,i0,w1,w2,hkl,hnk,hra,q2,h6,Z73]
     · simp -implicitDefEqProofs [hra]
       refine Z2N mixed 1000 ?_
       simp -implicitDefEqProofs [h7,i0,w1,w2,hkl,hnk,hra,q1,q2,h6,Z73]
end
section
variable {G:Nat→Option (List AV)}
theorem Zhs (r:List Iss) (l:List Nte) (q:List Rul) (hq:Sml q) (hr:Sml r):PC Tryz.prog G 51 [swa r l q] (.bool (Zde r q)):=by
 (refine Z77 rfl fun R hG hrd=>GO_AR mixed 1000 ?_;subst hG)
 by_cases h0:16<q.length
 · have h0':(16:Int)<q.length:=by omega
   have e:Zde r q=false:=by
    have:¬q.length≤16:=by omega
    simp [Zde,this]
   simp -implicitDefEqProofs [Z75,Z76,swa,h0',e]
 · have h0':¬(16:Int)<q.length:=by omega
   have h16:q.length≤16:=by omega
   simp -implicitDefEqProofs [Z75,Z76,swa,h0']
   refine Za2 (fun i=>⟨[(3,.int .i64 i),(1,.ptr 1 0)],[(1,.box [.vsl (r.map isa),.vsl (l.map na),.vsl (q.map ra)])]⟩) (fun i=>∀ j,j<i→ruleB r q j=true) q.length (by (first|exact Weak.tm (by simp [lk])|exact Weak.sub (by simp [lk,keptA,AV.keys]) (by simp [lk,keptO,keptA,AV.keys]))) (fun j hj=>by omega) ?_ ?_
   · intro i hi he
     have w1:IntKind.i64.wrap ((i:Int)+1)=(i:Int)+1:=wrapI (by omega) (by omega)
     have hc:=Zhr (G:=R.G) r l q i hi hq hr
     unfold swa at hc
     refine GO_AR mixed 1000 ?_
     simp -implicitDefEqProofs [hi]
     (first|refine CallK.of (hc) (by simp) ?_|refine CallD.of (hc) (by simp) ?_)
     cases h:ruleB r q i
     · have e:Zde r q=false:=by
        cases h2:Zde r q
        · rfl
        · simp only [Zde,Bool.and_eq_true]at h2
          have:=Zam.1 h2.2 i hi
          rw [h]at this;cases this
       simp -implicitDefEqProofs []
       refine Z2N mixed 1000 ?_
       simp -implicitDefEqProofs [e]
     · simp -implicitDefEqProofs [w1]
       refine ⟨by (first|exact Weak.tm (by simp [lk])|exact Weak.sub (by simp [lk,keptA,AV.keys]) (by simp [lk,keptO,keptA,AV.keys])),fun j hj=>?_⟩
       rcases Nat.lt_or_ge j i with h4|h4
       · exact he j h4
       · obtain rfl:j=i:=by omega
         exact h
   · intro he
     have e:Zde r q=true:=by
      simp only [Zde,Bool.and_eq_true,decide_eq_true_eq]
      exact ⟨h16,Zam.2 he⟩
     refine GO_AR mixed 1000 ?_
     simp -implicitDefEqProofs []
     refine Z2N mixed 1000 ?_
     simp -implicitDefEqProofs [e]
theorem Zht (r:List Iss) (l:List Nte) (q:List Rul) (hw:WfN l) (hr:Wf r) (hq:Sml q):PC Tryz.prog G 14 [swa r l q] (.int .i64 (chS r l q)):=by
 have hc:=Zea (G:=G) r l hw hr
 have hS:=Zhs (G:=G) r l q hq hr.1.1
 unfold swa at hS
 (refine Z7a rfl fun R hG hrd=>GO_AR mixed 1000 ?_;subst hG)
 unfold chS
 by_cases h0:chN r l=0
 · rw [h0]at hc
   simp -implicitDefEqProofs [Z78,Z79,swa]
   (first|refine CallK.of (hc) (by simp) ?_|refine CallD.of (hc) (by simp) ?_)
   simp -implicitDefEqProofs []
   (first|refine CallK.of (hS) (by simp) ?_|refine CallD.of (hS) (by simp) ?_)
   cases h1:Zde r q
   · simp -implicitDefEqProofs [h0]
   · simp -implicitDefEqProofs [h0]
 · simp -implicitDefEqProofs [Z78,Z79,swa]
   (first|refine CallK.of (hc) (by simp) ?_|refine CallD.of (hc) (by simp) ?_)
   simp -implicitDefEqProofs [h0]
set_option maxHeartbeats 2000000 in
theorem Zhu (r:List Iss) (l:List Nte) (q:List Rul) (day:Int) (hl:q.length≤16) :
  PC Tryz.prog G 44 [swa r l q,.int .i64 day] (.vsl ((rbK (sB day q) q.length 0).map ba)):=by
 refine Z7d rfl fun R hG hrd=>?_
 subst hG
 refine GO_AR mixed 1000 ?_
 have b1:(q.length:Int)≤16777216:=by omega
 have rep:=Zh9 (f:=sB day q) (n:=q.length)
 have rln:=fun k=>Zh5 (f:=sB day q) (n:=q.length) (k:=k)
 have w0:IntKind.i64.wrap ((q.length:Int)-1)=(q.length:Int)-1:=wrapI (by omega) (by omega)
 simp -implicitDefEqProofs [Z7b,Z7c,swa,b1,← rep,w0]
 refine Z1Q (fun k:Nat=>⟨[(6,.int .i64 ((k:Int)-1)),(5,.osl 12 q.length),(2,.ptr 2 0),(1,.int .i64 day)],[(12,.row 1 ((rbK (sB day q) q.length k).map ba)),(2,.box [.vsl (r.map isa),.vsl (l.map na),.vsl (q.map ra)])]⟩) (fun k=>k≤q.length) (fun k=>k) q.length ?_ (Nat.le_refl _) ?_
 · (refine Weak.sub (by simp [lk,keptA,AV.keys]) ?_;simp only [Wkl,Zh8,and_true];(try simp [lk,keptO,keptA,AV.keys]))
 · intro k hk
   cases k with
   | zero =>
     have rl0:=rln 0
     refine GO_AR mixed 1000 ?_
     simp -implicitDefEqProofs []
     refine Z2N mixed 1000 ?_
     simp -implicitDefEqProofs [ba,rl0]
   | succ k =>
     have hi:k<q.length:=hk
     have hx:=Zdd hi
     have hnx:ra (rAt q k)=[.int .i64 (rAt q k).nu,.int .i64 (rAt q k).dy,.int .i64 (rAt q k).fd,.int .i64 (rAt q k).fl,.int .i64 (rAt q k).td,.int .i64 (rAt q k).tl,.bool (rAt q k).bo,.int .i64 (rAt q k).br]:=rfl
     have fe:=ZcV (p:=fun x:Rul=>decide (x.dy≤day)) (h:=fun x y:Rul=>decide (y.br=x.nu)) hi
     rw [← hx]at fe
     have gb:=ZcW (p:=fun x:Rul=>decide (x.dy≤day)) (h:=fun x y:Rul=>decide (y.br=x.nu)) (l:=q) (x:=rAt q k) (i:=k)
     have gs:=fun j=>ZcX (p:=fun x:Rul=>decide (x.dy≤day)) (h:=fun x y:Rul=>decide (y.br=x.nu)) (l:=q) (x:=rAt q k) (i:=k) (k:=j)
     have fbs:sB day q k=gwB (fun x:Rul=>decide (x.dy≤day)) (fun x y=>decide (y.br=x.nu)) q (rAt q k) k q.length:=fe
     have rat:=fun j (h:k+1≤j) (h2:j<q.length)=>Zh6 (f:=sB day q) h h2
     have rst:=Zh7 (f:=sB day q) (n:=q.length) (k:=k)
     have rln1:=rln (k+1)
     rw [fbs]at rst
     have w1:IntKind.i64.wrap ((k:Int)+1)=((k+1:Nat):Int):=wrapI (by omega) (by omega)
     generalize hxx:rAt q k=x at *
     have hlx:q[k]=x:=hx.symm
     have gb:gwB (fun x:Rul=>decide (x.dy≤day)) (fun x y=>decide (y.br=x.nu)) q x k (k+1)=decide (x.dy≤day):=gb
     generalize hQQ:rbK (sB day q) q.length (k+1)=Q at *
     refine GO_AR mixed 1000 ?_
     simp -implicitDefEqProofs [hi,hlx,hnx,w1,← gb]
     refine Z1Q (fun p:Nat=>⟨[(8,.int .i64 (p:Int)),(6,.int .i64 k),(7,.bool (gwB (fun x:Rul=>decide (x.dy≤day)) (fun x y=>decide (y.br=x.nu)) q x k p)),(5,.osl 12 q.length),(2,.ptr 2 0),(1,.int .i64 day)],[(12,.row 1 (Q.map ba)),(2,.box [.vsl (r.map isa),.vsl (l.map na),.vsl (q.map ra)])]⟩) (fun p=>k+1≤p∧p≤q.length) (fun p=>q.length-p) (k+1) ?_ ⟨Nat.le_refl _,hi⟩ ?_
     · (refine Weak.sub (by simp [lk,keptA,AV.keys]) ?_;simp only [Wkl,Zh8,and_true];(try simp [lk,keptO,keptA,AV.keys]))
     · rintro p ⟨hp1,hp2⟩
       refine GO_AR mixed 1000 ?_
       rcases Nat.lt_or_ge p q.length with h5|h5
       · have hrat:=rat p hp1 h5
         obtain ⟨q1,g1⟩:=List.getElem?_eq_some_iff.1 hrat
         have hg:=gs p (by omega) h5
         have hy:=Zdd h5
         have hny:ra (rAt q p)=[.int .i64 (rAt q p).nu,.int .i64 (rAt q p).dy,.int .i64 (rAt q p).fd,.int .i64 (rAt q p).fl,.int .i64 (rAt q p).td,.int .i64 (rAt q p).tl,.bool (rAt q p).bo,.int .i64 (rAt q p).br]:=rfl
         have w2:IntKind.i64.wrap ((p:Int)+1)=(p:Int)+1:=wrapI (by omega) (by omega)
         rw [← hy]at hg
         replace hg:_=(_ && !(sB day q p&&_)):=hg
         generalize hyy:rAt q p=y at *
         have hly:q[p]=y:=hy.symm
         generalize sB day q p=fb at *
         cases hb:gwB (fun x:Rul=>decide (x.dy≤day)) (fun x y=>decide (y.br=x.nu)) q x k p
         · rw [hb,Bool.false_and]at hg
           simp -implicitDefEqProofs [hb,h5,hnx,w2]
           refine ⟨rfl,p+1,?_,⟨by omega,h5⟩,(by show q.length-(p+1)<q.length-p;omega)⟩
           simp only [hg]
           ((try simp only [hnx]);refine Weak.sub (by simp [lk,keptA,AV.keys,hnx]) ?_;simp only [hnx,Wkl,Zh8,and_true];(try simp [lk,keptO,keptA,AV.keys,hnx]))
         · rw [hb,Bool.true_and]at hg
           cases fb
           · rw [Bool.false_and,Bool.not_false]at hg
             simp -implicitDefEqProofs [hb,h5,hnx,w2,rln1,g1,ba]
             refine ⟨rfl,p+1,?_,⟨by omega,h5⟩,(by show q.length-(p+1)<q.length-p;omega)⟩
             simp only [hg]
             ((try simp only [hnx]);refine Weak.sub (by simp [lk,keptA,AV.keys,hnx]) ?_;simp only [hnx,Wkl,Zh8,and_true];(try simp [lk,keptO,keptA,AV.keys,hnx]))
           · rw [Bool.true_and]at hg
             simp -implicitDefEqProofs [hb,h5,hi,hlx,hnx,w2,rln1,g1,ba,hly,hny]
             refine ⟨rfl,p+1,?_,⟨by omega,h5⟩,(by show q.length-(p+1)<q.length-p;omega)⟩
             simp only [hg]
             ((try simp only [hnx]);refine Weak.sub (by simp [lk,keptA,AV.keys,hnx]) ?_;simp only [hnx,Wkl,Zh8,and_true];(try simp [lk,keptO,keptA,AV.keys,hnx]))
       · obtain rfl:p=q.length:=by omega
         simp -implicitDefEqProofs []
         refine Z2N mixed 1000 ?_
         have e1:∀ b:Bool,[AV.bool b]=ba b:=fun _=>rfl
         have wk:IntKind.i64.wrap ((k:Int)-1)=(k:Int)-1:=wrapI (by omega) (by omega)
         simp -implicitDefEqProofs [hi,rln1,ba,wk]
         refine ⟨k,?_,by omega,Nat.lt_succ_self _⟩
         simp only [e1]
         rw [← List.map_set,rst]
         ((try simp only [hnx]);refine Weak.sub (by simp [lk,keptA,AV.keys,hnx]) ?_;simp only [hnx,Wkl,Zh8,and_true];(try simp [lk,keptO,keptA,AV.keys,hnx]))
theorem Zhv {r:List Iss} {l:List Nte} {q:List Rul} (h:chS r l q=0):chN r l=0∧Zde r q=true:=by
 unfold chS at h
 split at h
 · rename_i h1
   cases q2:Zde r q
   · rw [q2]at h;cases h
   · exact ⟨h1,rfl⟩
 · rename_i e;exact absurd h e
theorem Zhw {r:List Iss} {q:List Rul} (h:Zde r q=true):q.length≤16:=by simp only [Zde,Bool.and_eq_true,decide_eq_true_eq]at h;exact h.1
end
theorem Zhx {day:Int} {l:List Nte} {i:Nat} (h:i<l.length):dyN day (l.take (i+1))=if l[i].dy≤day then dyN day (l.take i)++[l[i]] else dyN day (l.take i):=by
 unfold dyN
 rw [List.take_succ_eq_append_getElem h,List.filter_append]
 split
 · rename_i e;rw [List.filter_cons_of_pos (by simpa using e)];rfl
 · rename_i e;rw [List.filter_cons_of_neg (by simpa using e)];simp
theorem Zhy (day:Int) (l:List Nte):(dyN day l).length≤l.length:=List.length_filter_le _ _
theorem Zhz {D:List Nte} {s:List Int} {i:Nat} (h:i<s.length):dyT D (s.take (i+1))=if (D.any fun x=>decide (x.nu=s[i]))=true then dyT D (s.take i)++[s[i]] else dyT D (s.take i):=by
 unfold dyT
 rw [List.take_succ_eq_append_getElem h,List.filter_append]
 split
 · rename_i e;simp only [List.filter_cons,e,List.filter_nil,if_true]
 · rename_i e;simp only [List.filter_cons,e,List.filter_nil,if_false,List.append_nil,Bool.false_eq_true]
theorem ZhA (D:List Nte) (s:List Int):(dyT D s).length≤s.length:=List.length_filter_le _ _
theorem ZhB (o:List (Nat×AObj)) (l:List Nte):keptO o (.row 10 (l.map na))=true:=by
 simp only [keptO,List.all_eq_true,List.mem_map]
 rintro x ⟨y,-,rfl⟩ v hv
 simp only [na,List.mem_cons,List.not_mem_nil,or_false]at hv
 rcases hv with rfl|rfl|rfl|rfl|rfl|rfl|rfl|rfl|rfl|rfl <;> simp [keptA,AV.keys]
def upB (r:List Iss) (D:List Nte):List (Nat×AObj):=if D=[] then [(8,.box [.vsl (r.map isa),.nils])] else [(8,.box [.vsl (r.map isa),.osl 40 D.length]),(40,.row 10 (D.map na))]
def uqS (r:List Iss) (l:List Nte) (s:List Int) (day:Int) (i:Nat):St :=
 ⟨[(10,.int .i64 i),(1,.vsl (s.map ia)),(2,.int .i64 day),(3,.ptr 3 0),(6,.ptr 6 0),(8,.ptr 8 0),(9,.osl 16 0)],upB r (dyN day (l.take i))++[(3,.box [.vsl (r.map isa),.vsl (l.map na)]),(6,.box [.nils,.nils]),(16,.row 1 [])]⟩
def upT (D:List Nte) (s:List Int) (i j:Nat):List Int:=dyT D (s.take i)++(if ((D.take j).any fun x=>decide (x.nu=s.getD i 0))=true then [s.getD i 0] else [])
theorem ZhC {D:List Nte} {s:List Int} {i:Nat}:upT D s i 0=dyT D (s.take i):=by simp [upT]
theorem ZhD {D:List Nte} {s:List Int} {i:Nat} (h:i<s.length):upT D s i D.length=dyT D (s.take (i+1)):=by
 have e:s.getD i 0=s[i]:=by simp [List.getD_eq_getElem?_getD,h]
 rw [Zhz h,upT,List.take_length,e]
 split <;> simp
theorem ZhE (D:List Nte) (s:List Int) (i j:Nat):(upT D s i j).length≤s.length+1:=by
 have h1:=ZhA D (s.take i)
 have h2:(s.take i).length≤s.length:=by simp;omega
 unfold upT
 split <;> simp <;> omega
theorem ZhF {D:List Nte} {s:List Int} {i j:Nat} (hi:i<s.length) (hj:j<D.length) (hn:(D.map (·.nu)).Nodup):upT D s i (j+1)=if D[j].nu=s[i] then upT D s i j++[s[i]] else upT D s i j:=by
 have e:s.getD i 0=s[i]:=by simp [List.getD_eq_getElem?_getD,hi]
 have a:=ZdS hj fun x=>decide (x.nu=s[i])
 unfold upT
 rw [e,a]
 by_cases h:D[j].nu=s[i]
 · rw [if_pos h]
   have h0:((D.take j).any fun x=>decide (x.nu=s[i]))=false:=by
    cases q:(D.take j).any fun x=>decide (x.nu=s[i])
    · rfl
    · obtain ⟨y,hy,hy2⟩:=List.any_eq_true.1 q
      obtain ⟨k,hk,rfl⟩:=List.mem_take_iff_getElem.1 hy
      have h2:=List.pairwise_iff_getElem.1 (List.nodup_iff_pairwise_ne.1 hn) k j (by simp;omega) (by simpa using hj) (by omega)
      simp only [List.getElem_map]at h2
      exact absurd ((of_decide_eq_true hy2).trans h.symm) h2
   rw [h0];simp [h]
 · rw [if_neg h,decide_eq_false h,Bool.or_false]
def upO (r:List Iss) (l:List Nte) (D:List Nte) (T:List Int):List (Nat×AObj):=upB r D++[(3,.box [.vsl (r.map isa),.vsl (l.map na)]),(6,.box [.nils,.nils]),(16,.row 1 (T.map ia))]
section
variable {G:Nat→Option (List AV)}
set_option maxHeartbeats 1000000 in
theorem ZhG (r:List Iss) (l:List Nte) (s:List Int) (day:Int) (hl:l.length≤16) (hs:Sml s) (hn:(l.map (·.nu)).Nodup) :
  PC Tryz.prog G 83 [.agg [.vsl (r.map isa),.vsl (l.map na)],.vsl (s.map ia),.int .i64 day] (.tup [.agg [.vsl (r.map isa),orNil ((dyN day l).map na)],.vsl ((dyT (dyN day l) s).map ia)]):=by
 unfold Sml at hs
 have hDn:((dyN day l).map (·.nu)).Nodup:=List.Sublist.nodup ((List.filter_sublist).map _) hn
 have hDl:=Zhy day l
 refine Z7g rfl fun R hG hrd=>?_
 subst hG
 refine GO_AR mixed 1000 ?_
 simp -implicitDefEqProofs [Z7e,Z7f]
 refine Za2 (uqS r l s day) (fun _=>True) l.length ?_ trivial ?_ ?_
 · have e0:dyN day (l.take 0)=[]:=by simp [dyN]
   simp only [uqS,upB,e0,if_true]
   (refine Weak.sub (by simp [lk,keptA,AV.keys]) ?_;simp only [Wkl,and_true];(try simp [lk,keptO,keptA,AV.keys]))
 · intro i hi _
   have sc:=Zhx (day:=day) hi
   have hx:=ZcP hi
   have hlx:l[i]=nAt l i:=hx.symm
   have hnx:na (nAt l i)=[.int .i64 (nAt l i).nu,.int .i64 (nAt l i).dy,.int .u8 (nAt l i).sg,.int .i64 (nAt l i).dr,.int .i64 (nAt l i).lt,.int .i64 (nAt l i).fr,.int .i64 (nAt l i).tu,.int .i64 (nAt l i).ca,.bool (nAt l i).up,.int .u8 (nAt l i).wy]:=rfl
   have wi:IntKind.i64.wrap ((i:Int)+1)=(i:Int)+1:=wrapI (by omega) (by omega)
   have bl:=Zhy day (l.take i)
   have bl2:(l.take i).length≤i:=by simp;omega
   have bb:((dyN day (l.take i)).length+1)*72≤70368744177664:=by omega
   rw [hlx]at sc
   by_cases hd:(nAt l i).dy≤day
   · rw [if_pos hd]at sc
     have hne:dyN day (l.take (i+1))≠[]:=by rw [sc];simp
     by_cases c:dyN day (l.take i)=[]
     all_goals
      refine GO_AR mixed 1000 ?_
      simp only [uqS,upB,c,if_true,if_false,List.cons_append,List.nil_append]
      simp -implicitDefEqProofs [hi,hlx,hnx,hd,wi,bb]
      refine ⟨rfl,?_⟩
      simp only [uqS,upB,hne,if_false,List.cons_append,List.nil_append]
      have e1:(dyN day (l.take (i+1))).map na=(dyN day (l.take i)).map na++[na (nAt l i)]:=by rw [sc,List.map_append];rfl
      have e2:(dyN day (l.take (i+1))).length=(dyN day (l.take i)).length+1:=by rw [sc];simp
      first
       |(rw [c,List.nil_append]at sc;rw [sc];((try simp only [hnx]);refine Weak.sub (by simp [lk,keptA,AV.keys,hnx]) ?_;simp only [hnx,Wkl,and_true];(try simp [lk,keptO,keptA,AV.keys,hnx]));done)
       |(rw [hnx]at e1;rw [← e1,e2];(refine Weak.sub (by simp [lk,keptA,AV.keys]) ?_;simp only [Wkl,ZhB,and_true];(try simp [lk,keptO,keptA,AV.keys]));done)
   · rw [if_neg hd]at sc
     by_cases c:dyN day (l.take i)=[]
     all_goals
      refine GO_AR mixed 1000 ?_
      simp only [uqS,upB,c,if_true,if_false,List.cons_append,List.nil_append]
      simp -implicitDefEqProofs [hi,hlx,hnx,hd,wi]
      simp only [uqS,upB,sc,c,if_true,if_false,List.cons_append,List.nil_append]
      (refine Weak.sub (by simp [lk,keptA,AV.keys]) ?_;simp only [Wkl,ZhB,and_true];(try simp [lk,keptO,keptA,AV.keys]))
 · intro _
   refine GO_AR mixed 1000 ?_
   simp only [uqS,List.take_length]
   generalize hDD:dyN day l=D at *
   have hO:∀ T i,(upO r l D T).length=(upO r l D T).length+i-i:=fun T i=>by omega
   by_cases c:D=[]
   · have eT:dyT D s=[]:=by rw [c];simp [dyT]
     rw [eT]
     simp only [upB,c,if_true,List.cons_append,List.nil_append]
     simp -implicitDefEqProofs []
     refine Z2N mixed 1000 ?_
     simp -implicitDefEqProofs []
     refine Za2 (fun i=>⟨[(11,.int .i64 i),(1,.vsl (s.map ia)),(8,.ptr 8 0),(9,.osl 16 0),(6,.ptr 6 0)],[(8,.box [.vsl (r.map isa),.nils]),(6,.box [.nils,.nils]),(16,.row 1 [])]⟩) (fun _=>True) s.length (by (first|exact Weak.tm (by simp [lk])|exact Weak.sub (by simp [lk,keptA,AV.keys]) (by simp [lk,keptO,keptA,AV.keys]))) trivial ?_ ?_
     · intro i hi _
       have wi:IntKind.i64.wrap ((i:Int)+1)=(i:Int)+1:=wrapI (by omega) (by omega)
       refine GO_AR mixed 1000 ?_
       simp -implicitDefEqProofs [hi]
       refine Za2 (fun j=>⟨[(12,.int .i64 j),(11,.int .i64 i),(1,.vsl (s.map ia)),(8,.ptr 8 0),(9,.osl 16 0),(6,.ptr 6 0)],[(8,.box [.vsl (r.map isa),.nils]),(6,.box [.nils,.nils]),(16,.row 1 [])]⟩) (fun _=>True) 0 (by (first|exact Weak.tm (by simp [lk])|exact Weak.sub (by simp [lk,keptA,AV.keys]) (by simp [lk,keptO,keptA,AV.keys]))) trivial (fun i hi=>by omega) ?_
       intro _
       refine GO_AR mixed 1000 ?_
       simp -implicitDefEqProofs []
       refine Z2N mixed 1000 ?_
       simp -implicitDefEqProofs [wi]
       (first|exact Weak.tm (by simp [lk])|exact Weak.sub (by simp [lk,keptA,AV.keys]) (by simp [lk,keptO,keptA,AV.keys]))
     · intro _
       refine GO_AR mixed 1000 ?_
       simp -implicitDefEqProofs []
       refine Z2N mixed 1000 ?_
       simp -implicitDefEqProofs [orNil]
   · simp only [upB,c,if_false,List.cons_append,List.nil_append]
     simp -implicitDefEqProofs []
     refine Z2N mixed 1000 ?_
     simp -implicitDefEqProofs []
     refine Za2 (fun i=>⟨[(11,.int .i64 i),(1,.vsl (s.map ia)),(8,.ptr 8 0),(9,.osl 16 (dyT D (s.take i)).length),(6,.ptr 6 0)],[(8,.box [.vsl (r.map isa),.osl 40 D.length]),(40,.row 10 (D.map na)),(6,.box [.nils,.nils]),(16,.row 1 ((dyT D (s.take i)).map ia))]⟩) (fun _=>True) s.length ?_ trivial ?_ ?_
     · have e0:dyT D (s.take 0)=[]:=by simp [dyT]
       simp only [e0]
       ((try simp only [List.map_nil,List.length_nil]);refine Weak.sub (by simp [lk,keptA,AV.keys,List.map_nil,List.length_nil]) ?_;simp only [List.map_nil,List.length_nil,Wkl,ZhB,and_true];(try simp [lk,keptO,keptA,AV.keys,List.map_nil,List.length_nil]))
     · intro i hi _
       have wi:IntKind.i64.wrap ((i:Int)+1)=(i:Int)+1:=wrapI (by omega) (by omega)
       refine GO_AR mixed 1000 ?_
       simp -implicitDefEqProofs [hi]
       refine Za2 (fun j=>⟨[(12,.int .i64 j),(11,.int .i64 i),(1,.vsl (s.map ia)),(8,.ptr 8 0),(9,.osl 16 (upT D s i j).length),(6,.ptr 6 0)],[(8,.box [.vsl (r.map isa),.osl 40 D.length]),(40,.row 10 (D.map na)),(6,.box [.nils,.nils]),(16,.row 1 ((upT D s i j).map ia))]⟩) (fun _=>True) D.length ?_ trivial ?_ ?_
       · simp only [ZhC]
         (refine Weak.sub (by simp [lk,keptA,AV.keys]) ?_;simp only [Wkl,ZhB,Zg6,and_true];(try simp [lk,keptO,keptA,AV.keys]))
       · intro j hj _
         have wj:IntKind.i64.wrap ((j:Int)+1)=(j:Int)+1:=wrapI (by omega) (by omega)
         have us:=ZhF hi hj hDn
         have ul:=ZhE D s i j
         have bb:((upT D s i j).length+1)*8≤70368744177664:=by omega
         have hnx:na D[j]=[.int .i64 D[j].nu,.int .i64 D[j].dy,.int .u8 D[j].sg,.int .i64 D[j].dr,.int .i64 D[j].lt,.int .i64 D[j].fr,.int .i64 D[j].tu,.int .i64 D[j].ca,.bool D[j].up,.int .u8 D[j].wy]:=rfl
         refine GO_AR mixed 1000 ?_
         by_cases h:D[j].nu=s[i]
         · rw [if_pos h]at us
           simp -implicitDefEqProofs [hi,hj,hnx,ia,h,bb,wj]
           refine ⟨rfl,?_⟩
           have e1:(upT D s i (j+1)).map ia=(upT D s i j).map ia++[[AV.int .i64 s[i]]]:=by rw [us,List.map_append];rfl
           have e2:(upT D s i (j+1)).length=(upT D s i j).length+1:=by rw [us];simp
           rw [← e1,e2]
           (refine Weak.sub (by simp [lk,keptA,AV.keys]) ?_;simp only [Wkl,ZhB,Zg6,and_true];(try simp [lk,keptO,keptA,AV.keys]))
         · rw [if_neg h]at us
           simp -implicitDefEqProofs [hi,hj,hnx,ia,h,wj]
           refine ⟨rfl,?_⟩
           rw [us]
           (refine Weak.sub (by simp [lk,keptA,AV.keys]) ?_;simp only [Wkl,ZhB,Zg6,and_true];(try simp [lk,keptO,keptA,AV.keys]))
       · intro _
         refine GO_AR mixed 1000 ?_
         rw [ZhD hi]
         simp -implicitDefEqProofs []
         refine Z2N mixed 1000 ?_
         simp -implicitDefEqProofs [wi]
         (refine Weak.sub (by simp [lk,keptA,AV.keys]) ?_;simp only [Wkl,ZhB,Zg6,and_true];(try simp [lk,keptO,keptA,AV.keys]))
     · intro _
       refine GO_AR mixed 1000 ?_
       rw [List.take_length]
       simp -implicitDefEqProofs [c]
       refine Z2N mixed 1000 ?_
       simp -implicitDefEqProofs [orNil,c,ia,na]
end
def Nsub (x y:AV):Prop:=∀ (M:Nat→Prop) (W:World) (u:Value),PV M W x u→PV M W y u
theorem Nsub.rfl' {x:AV}:Nsub x x:=fun _ _ _ h=>h
theorem Nsub.nils:Nsub .nils (.vsl []):=fun _ _ _ h=>by
 cases h
 exact .vsl [] none 0 1 0 0 (fun _ _=>undef) (Nat.le_refl _) (Nat.zero_le _) (fun h=>absurd rfl h) (fun _=>⟨rfl,rfl⟩) (by simp) (by simp) (by simp)
theorem Nsub.orNil (l:List (List AV)):Nsub (orNil l) (.vsl l):=by
 unfold Go.Proofs.YtpkfmfkccbnnjaaGreatDoor.orNil
 split
 · rename_i e;rw [e];exact .nils
 · exact .rfl'
def NsubL:List AV→List AV→Prop
 |[],[]=>True
 |x::xs,y::ys=>Nsub x y∧NsubL xs ys
 |_,_=>False
theorem NsubL.len:∀ {xs ys:List AV},NsubL xs ys→xs.length=ys.length
 |[],[],_=>rfl
 |_::_,_::_,h=>by simp only [List.length_cons,NsubL.len h.2]
 |[],_::_,h=>h.elim
 |_::_,[],h=>h.elim
theorem NsubL.at:∀ {xs ys:List AV},NsubL xs ys→∀ (i:Nat) (y:AV),ys[i]? = some y→∃ x,xs[i]? = some x∧Nsub x y
 |[],[],_,i,y,h=>by simp at h
 | x::xs,y::ys,h,0,z,e=>by
   simp only [List.getElem?_cons_zero,Option.some.injEq]at e
   subst e
   exact ⟨x,rfl,h.1⟩
 | x::xs,y::ys,h,i+1,z,e=>by
   simp only [List.getElem?_cons_succ]at e
   obtain ⟨w,h1,h2⟩:=NsubL.at h.2 i z e
   exact ⟨w,by simpa using h1,h2⟩
 |[],_::_,h,_,_,_=>h.elim
 |_::_,[],h,_,_,_=>h.elim
theorem Nsub.agg {xs ys:List AV} (h:NsubL xs ys):Nsub (.agg xs) (.agg ys):=fun M W u hu=>by
 cases hu with
 | agg _ us h1 hx =>
   refine .agg ys us (by rw [h1,h.len]) fun i y u hy hu=>?_
   obtain ⟨x,h2,h3⟩:=h.at i y hy
   exact h3 _ _ _ (hx i x u h2 hu)
theorem PC.sub {P:Program} {G:Nat→Option (List AV)} {f:FuncId} {xs ys:List AV} {v:AV} (h:PC P G f ys v) (hs:NsubL xs ys):PC P G f xs v :=
 ⟨h.1,fun M W vs hM hG hz hv=>h.2 M W vs hM hG (hz.trans hs.len) fun i y u hi hu=>by
  obtain ⟨x,h2,h3⟩:=hs.at i y hi
  exact h3 _ _ _ (hv i x u h2 hu)⟩
def aqN (r:List Iss) (l:List Nte) (q:List Rul) (s:List Int) (m d e:Int):Int:=if chS r l q=0 then if truB l s=true then if (inR m 1 999&&inR d 0 14610&&inR e 0 14610)=true then 0 else 2 else 31 else chS r l q
def ntR (F:List Int) (x:Nte):List Stq:=if x.nu∈F∧¬x.dr=0∧¬x.lt<2 then
    (if x.wy % 2=1 then [⟨x.dr,IntKind.i64.wrap (x.lt-1),x.dr,x.lt,x.nu,true⟩] else [])++(if 2≤x.wy % 4 then [⟨x.dr,x.lt,x.dr,IntKind.i64.wrap (x.lt-1),x.nu,true⟩] else [])
 else []
def rlR (b:Bool) (x:Rul):List Stq:=if b=true∧¬(x.fd=0∧x.fl=0) then
    [⟨x.fd,x.fl,x.td,x.tl,x.nu,false⟩]++(if x.bo=true then [⟨x.td,x.tl,x.fd,x.fl,x.nu,false⟩] else [])
 else []
def stF (r:List Iss) (l:List Nte) (s:List Int) (m day:Int):List Int:=(fcE r (dyN day l) (dyT (dyN day l) s) m).1
def nsR (F:List Int) (D:List Nte) (i:Nat):List Stq:=(D.take i).flatMap (ntR F)
def rsR (day:Int) (q:List Rul) (i:Nat):List Stq:=((List.range q.length).take i).flatMap fun j=>rlR (sB day q j) (rAt q j)
def st5 (r:List Iss) (l:List Nte) (q:List Rul) (s:List Int) (m day:Int):List Stq:=nsR (stF r l s m day) (dyN day l) (dyN day l).length++rsR day q q.length
theorem ZhH {F:List Int} {D:List Nte} {i:Nat} (h:i<D.length):nsR F D (i+1)=nsR F D i++ntR F D[i]:=by
 unfold nsR;rw [List.take_succ_eq_append_getElem h,List.flatMap_append];simp
theorem ZhI {day:Int} {q:List Rul} {i:Nat} (h:i<q.length):rsR day q (i+1)=rsR day q i++rlR (sB day q i) q[i]:=by
 have h1:i<(List.range q.length).length:=by simpa using h
 unfold rsR;rw [List.take_succ_eq_append_getElem h1,List.flatMap_append,List.getElem_range];simp [Zdd h]
theorem ZhJ (F:List Int) (x:Nte):(ntR F x).length≤2:=by unfold ntR;split <;> (try split) <;> (try split) <;> simp
theorem ZhK (b:Bool) (x:Rul):(rlR b x).length≤2:=by unfold rlR;split <;> (try split) <;> simp
theorem ZhL (F:List Int) (D:List Nte):∀ i,i≤D.length→(nsR F D i).length≤2*i
 |0,_=>by simp [nsR]
 |i+1,h=>by rw [ZhH h,List.length_append];have:=ZhL F D i (by omega);have:=ZhJ F D[i];omega
theorem ZhM (day:Int) (q:List Rul):∀ i,i≤q.length→(rsR day q i).length≤2*i
 |0,_=>by simp [rsR]
 |i+1,h=>by rw [ZhI h,List.length_append];have:=ZhM day q i (by omega);have:=ZhK (sB day q i) q[i];omega
theorem ZhN (o:List (Nat×AObj)) (l:List Stq):keptO o (.row 6 (l.map sa))=true:=by
 simp only [keptO,List.all_eq_true,List.mem_map]
 rintro x ⟨y,-,rfl⟩ v hv
 simp only [sa,List.mem_cons,List.not_mem_nil,or_false]at hv
 rcases hv with rfl|rfl|rfl|rfl|rfl|rfl <;> simp [keptA,AV.keys]
def sqT (κ:Nat) (L:List Stq):AV:=if κ=0 then .nils else .osl κ L.length
def sqO (κ:Nat) (L:List Stq):List (Nat×AObj):=if κ=0 then [] else [(κ,.row 6 (L.map sa))]
section
variable {G:Nat→Option (List AV)}
theorem ZhO (r:List Iss) (l:List Nte) (q:List Rul) (s:List Int) (m d e:Int) (hw:WfN l) (hr:Wf r) (hq:Sml q) (hs:Sml s):PC Tryz.prog G 48 [swa r l q,.vsl (s.map ia),.int .i64 m,.int .i64 d,.int .i64 e] (.int .i64 (aqN r l q s m d e)):=by
 have hc:=Zht (G:=G) r l q hw hr hq
 unfold swa at hc
 (refine Z7m rfl fun R hG hrd=>GO_AR mixed 1000 ?_;subst hG)
 unfold aqN
 by_cases h0:chS r l q=0
 · have ht:=Zh4 (G:=R.G) r l s (Zhd (Zhb (Zhv h0).1)) hs
   rw [h0]at hc
   simp -implicitDefEqProofs [Z7k,Z7l,swa]
   (first|refine CallK.of (hc) (by simp) ?_|refine CallD.of (hc) (by simp) ?_)
   simp -implicitDefEqProofs [h0]
   (first|refine CallK.of (ht) (by simp) ?_|refine CallD.of (ht) (by simp) ?_)
   cases h1:truB l s
   · simp -implicitDefEqProofs []
   simp -implicitDefEqProofs []
   (first|refine CallK.of (Zhg m 1 999) (by simp) ?_|refine CallD.of (Zhg m 1 999) (by simp) ?_)
   cases h2:inR m 1 999
   · simp -implicitDefEqProofs []
   simp -implicitDefEqProofs []
   (first|refine CallK.of (Zhg d 0 14610) (by simp) ?_|refine CallD.of (Zhg d 0 14610) (by simp) ?_)
   cases h3:inR d 0 14610
   · simp -implicitDefEqProofs []
   simp -implicitDefEqProofs []
   (first|refine CallK.of (Zhg e 0 14610) (by simp) ?_|refine CallD.of (Zhg e 0 14610) (by simp) ?_)
   cases h4:inR e 0 14610
   · simp -implicitDefEqProofs []
   · simp -implicitDefEqProofs []
 · simp -implicitDefEqProofs [Z7k,Z7l,swa]
   (first|refine CallK.of (hc) (by simp) ?_|refine CallD.of (hc) (by simp) ?_)
   simp -implicitDefEqProofs [h0]
theorem sixB (n:Nat) (h:n≤200):(n+1)*48≤70368744177664:=by omega
theorem sixC (n:Nat) (h:n≤200):(n+1+1)*48≤70368744177664:=by omega
def acL (N:List Stq) (day:Int) (q:List Rul) (i:Nat):List Stq:=N++rsR day q i
def KeyOk (ks:List Nat) (κ:Nat) (L:List Stq):Prop:=(κ=0∧L=[])∨(κ∈ks∧L≠[])
def s5R (r:List Iss) (l:List Nte) (q:List Rul) (N:List Stq) (day:Int) (x:Nat×Nat):St :=
 ⟨[(19,.int .i64 x.1),(18,.vsl ((rbK (sB day q) q.length 0).map ba)),(9,sqT x.2 (acL N day q x.1)),(4,.ptr 4 0)],sqO x.2 (acL N day q x.1)++[(4,.box [.vsl (r.map isa),.vsl (l.map na),.vsl (q.map ra)])]⟩
set_option maxHeartbeats 4000000 in
theorem ZhP (r:List Iss) (l:List Nte) (q:List Rul) (N:List Stq) (day:Int) (hq:q.length≤16) (hN:N.length≤100) (R:Run) (hrd:R.Top) (κ:Nat) (hκ:KeyOk [85,97] κ N) :
  AR Tryz.prog R (dropZ 5 Z7h) ⟨[(9,sqT κ N),(4,.ptr 4 0),(3,.int .i64 day)],sqO κ N++[(4,.box [.vsl (r.map isa),.vsl (l.map na),.vsl (q.map ra)])]⟩ (Fin Z7i (orNil ((acL N day q q.length).map sa))):=by
 have hst:=Zhu (G:=R.G) r l q day hq
 unfold swa at hst
 have rl0:=Zh5 (f:=sB day q) (n:=q.length) (k:=0)
 refine ZdV (S:=⟨[(18,.vsl ((rbK (sB day q) q.length 0).map ba)),(9,sqT κ N),(4,.ptr 4 0)],sqO κ N++[(4,.box [.vsl (r.map isa),.vsl (l.map na),.vsl (q.map ra)])]⟩) (GO_AR mixed 1000 ?_) ?_
 · rcases hκ with ⟨rfl,e⟩ | ⟨hk,ne⟩
   · simp only [sqT,sqO,if_true,List.nil_append]
     simp -implicitDefEqProofs []
     (first|refine CallK.of (hst) (by simp) ?_|refine CallD.of (hst) (by simp) ?_)
     simp -implicitDefEqProofs []
     ((try simp only [ba]);refine Weak.sub (by simp [lk,keptA,AV.keys,ba]) ?_;simp only [ba,Wkl,and_true];(try simp [lk,keptO,keptA,AV.keys,ba]))
   · have:κ=85∨κ=97:=by simpa using hk
     rcases this with rfl|rfl
     all_goals
      simp only [sqT,sqO,if_false,List.cons_append,List.nil_append,Nat.reduceEqDiff]
      simp -implicitDefEqProofs []
      (first|refine CallK.of (hst) (by simp) ?_|refine CallD.of (hst) (by simp) ?_)
      simp -implicitDefEqProofs []
      ((try simp only [ba]);refine Weak.sub (by simp [lk,keptA,AV.keys,ba]) ?_;simp only [ba,Wkl,ZhN,and_true];(try simp [lk,keptO,keptA,AV.keys,ba]))
 refine GO_AR mixed 1000 ?_
 simp -implicitDefEqProofs []
 have n0:acL N day q 0=N:=by simp [acL,rsR]
 have kN:KeyOk [85,97,132,144] κ N:=by
  rcases hκ with h | ⟨h,h2⟩
  · exact .inl h
  · refine .inr ⟨?_,h2⟩
    simp only [List.mem_cons,List.not_mem_nil,or_false]at h ⊢
    omega
 refine Z1Q (s5R r l q N day) (fun x=>x.1≤q.length∧KeyOk [85,97,132,144] x.2 (acL N day q x.1)) (fun x=>q.length-x.1) (0,κ) ?_ ⟨Nat.zero_le _,by rw [n0];exact kN⟩ ?_
 · unfold s5R
   simp only [n0]
   rcases hκ with ⟨rfl,e⟩ | ⟨hk,ne⟩
   · simp only [sqT,sqO,if_true,List.nil_append]
     ((try simp only [ba]);refine Weak.sub (by simp [lk,keptA,AV.keys,ba]) ?_;simp only [ba,Wkl,and_true];(try simp [lk,keptO,keptA,AV.keys,ba]))
   · have:κ=85∨κ=97:=by simpa using hk
     rcases this with rfl|rfl
     all_goals
      simp only [sqT,sqO,if_false,List.cons_append,List.nil_append,Nat.reduceEqDiff]
      ((try simp only [ba]);refine Weak.sub (by simp [lk,keptA,AV.keys,ba]) ?_;simp only [ba,Wkl,ZhN,and_true];(try simp [lk,keptO,keptA,AV.keys,ba]))
 · rintro ⟨i, κ⟩ ⟨hi0,hK⟩
   unfold s5R
   simp only at hi0 hK ⊢
   have bl:=ZhM day q i hi0
   rcases Nat.lt_or_ge i q.length with hi|hi
   · have sc := ZhI (day:=day) hi
     have wi:IntKind.i64.wrap ((i:Int)+1)=((i+1:Nat):Int):=by rw [wrapI (by omega) (by omega)];omega
     have hrat:=Zh6 (f:=sB day q) (Nat.zero_le i) hi
     obtain ⟨q1,g1⟩:=List.getElem?_eq_some_iff.1 hrat
     obtain ⟨x,hxx⟩ : ∃ x,x=q[i]:=⟨_,rfl⟩
     have hlx:q[i]=x:=hxx.symm
     rw [hlx]at sc
     have hra:ra x=[.int .i64 x.nu,.int .i64 x.dy,.int .i64 x.fd,.int .i64 x.fl,.int .i64 x.td,.int .i64 x.tl,.bool x.bo,.int .i64 x.br]:=rfl
     have ln:(acL N day q i).length=N.length+(rsR day q i).length:=List.length_append
     have b1:=sixB (acL N day q i).length (by omega)
     have b2:=sixC (acL N day q i).length (by omega)
     have hL:acL N day q (i+1)=acL N day q i++rlR (sB day q i) x:=by unfold acL;rw [sc,List.append_assoc]
     have nxt:∀ κ2,KeyOk [85,97,132,144] κ2 (acL N day q (i+1))→∀ st,Weak st (s5R r l q N day (i+1,κ2))→∃ x:Nat×Nat,Weak st (s5R r l q N day x)∧(x.1≤q.length∧KeyOk [85,97,132,144] x.2 (acL N day q x.1))∧q.length-x.1<q.length-i:=fun κ2 h st hw=>⟨(i+1,κ2),hw,⟨hi,h⟩,by show q.length-(i+1)<q.length-i;omega⟩
     have same:∀ κ2,rlR (sB day q i) x=[]→KeyOk [85,97,132,144] κ2 (acL N day q i)→KeyOk [85,97,132,144] κ2 (acL N day q (i+1))∧acL N day q (i+1)=acL N day q i:=fun κ2 h hk=>by rw [hL,h,List.append_nil];exact ⟨hk,rfl⟩
     have more:∀ κ2,rlR (sB day q i) x≠[]→κ2∈[85,97,132,144]→KeyOk [85,97,132,144] κ2 (acL N day q (i+1)):=fun κ2 h hk=>.inr ⟨hk,by rw [hL];intro e;exact h (List.append_eq_nil_iff.1 e).2⟩
     have pre:∀ y:Stq,sa y=[.int .i64 y.fd,.int .i64 y.fl,.int .i64 y.td,.int .i64 y.tl,.int .i64 y.nu,.bool y.nt]:=fun _=>rfl
     generalize hLL:acL N day q i=L at *
     generalize hMM:acL N day q (i+1)=M at *
     cases hb:sB day q i
     · rw [hb]at g1 hL same
       have e:rlR false x=[]:=by simp [rlR]
       rcases hK with hz | ⟨hk,ne⟩
       · obtain ⟨s1,s2⟩:=same κ e (.inl hz)
         obtain ⟨rfl,e0⟩:=hz
         refine GO_AR mixed 1000 ?_
         simp only [sqT,sqO,if_true,List.nil_append]
         simp -implicitDefEqProofs [hi,hlx,hra,rl0,g1,ba,wi]
         refine nxt 0 s1 _ ?_
         simp only [s5R,hMM,sqT,sqO,if_true,List.nil_append]
         ((try simp only [ba]);refine Weak.sub (by simp [lk,keptA,AV.keys,ba]) ?_;simp only [ba,Wkl,and_true];(try simp [lk,keptO,keptA,AV.keys,ba]))
       · obtain ⟨s1,s2⟩:=same κ e (.inr ⟨hk,ne⟩)
         have:κ=85∨κ=97∨κ=132∨κ=144:=by simpa using hk
         rcases this with rfl|rfl|rfl|rfl
         all_goals
          refine GO_AR mixed 1000 ?_
          simp only [sqT,sqO,if_false,List.cons_append,List.nil_append,Nat.reduceEqDiff]
          simp -implicitDefEqProofs [hi,hlx,hra,rl0,g1,ba,wi]
          refine nxt _ s1 _ ?_
          simp only [s5R,hMM,s2,sqT,sqO,if_false,List.cons_append,List.nil_append,Nat.reduceEqDiff]
          ((try simp only [ba]);refine Weak.sub (by simp [lk,keptA,AV.keys,ba]) ?_;simp only [ba,Wkl,ZhN,and_true];(try simp [lk,keptO,keptA,AV.keys,ba]))
     · rw [hb]at g1 hL same more
       by_cases z:x.fd=0∧x.fl=0
       · have e:rlR true x=[]:=by simp [rlR,z]
         rcases hK with hz | ⟨hk,ne⟩
         · obtain ⟨s1,s2⟩:=same κ e (.inl hz)
           obtain ⟨rfl,e0⟩:=hz
           refine GO_AR mixed 1000 ?_
           simp only [sqT,sqO,if_true,List.nil_append]
           simp -implicitDefEqProofs [hi,hlx,hra,rl0,g1,ba,wi,z.1,z.2]
           refine nxt 0 s1 _ ?_
           simp only [s5R,hMM,sqT,sqO,if_true,List.nil_append]
           ((try simp only [ba]);refine Weak.sub (by simp [lk,keptA,AV.keys,ba]) ?_;simp only [ba,Wkl,and_true];(try simp [lk,keptO,keptA,AV.keys,ba]))
         · obtain ⟨s1,s2⟩:=same κ e (.inr ⟨hk,ne⟩)
           have:κ=85∨κ=97∨κ=132∨κ=144:=by simpa using hk
           rcases this with rfl|rfl|rfl|rfl
           all_goals
            refine GO_AR mixed 1000 ?_
            simp only [sqT,sqO,if_false,List.cons_append,List.nil_append,Nat.reduceEqDiff]
            simp -implicitDefEqProofs [hi,hlx,hra,rl0,g1,ba,wi,z.1,z.2]
            refine nxt _ s1 _ ?_
            simp only [s5R,hMM,s2,sqT,sqO,if_false,List.cons_append,List.nil_append,Nat.reduceEqDiff]
            ((try simp only [ba]);refine Weak.sub (by simp [lk,keptA,AV.keys,ba]) ?_;simp only [ba,Wkl,ZhN,and_true];(try simp [lk,keptO,keptA,AV.keys,ba]))
       · have f2:(decide (x.fd=0)&&decide (x.fl=0))=false:=by
          cases h:(decide (x.fd=0)&&decide (x.fl=0))
          · rfl
          · simp at h;exact absurd h z
         cases hbo:x.bo
         · have e:rlR true x=[⟨x.fd,x.fl,x.td,x.tl,x.nu,false⟩]:=by simp [rlR,z,hbo]
           have hne:rlR true x≠[]:=by rw [e];simp
           rw [e]at hL
           have e1:M.map sa=L.map sa++[[.int .i64 x.fd,.int .i64 x.fl,.int .i64 x.td,.int .i64 x.tl,.int .i64 x.nu,.bool false]]:=by rw [hL,List.map_append];rfl
           have e2:M.length=L.length+1:=by rw [hL];simp
           rcases hK with ⟨rfl,e0⟩ | ⟨hk,ne⟩
           · have s1:=more 132 hne (by simp)
             refine GO_AR mixed 1000 ?_
             simp only [sqT,sqO,if_true,List.nil_append]
             simp -implicitDefEqProofs [hi,hlx,hra,rl0,g1,ba,wi,f2,hbo]
             refine nxt 132 s1 _ ?_
             rw [e0,List.map_nil,List.nil_append]at e1
             rw [e0,List.length_nil]at e2
             simp only [s5R,hMM,e1,e2,sqT,sqO,if_false,List.cons_append,List.nil_append,Nat.reduceEqDiff]
             ((try simp only [ba]);refine Weak.sub (by simp [lk,keptA,AV.keys,ba]) ?_;simp only [ba,Wkl,and_true];(try simp [lk,keptO,keptA,AV.keys,ba]))
           · have s1:=more κ hne hk
             have:κ=85∨κ=97∨κ=132∨κ=144:=by simpa using hk
             rcases this with rfl|rfl|rfl|rfl
             all_goals
              refine GO_AR mixed 1000 ?_
              simp only [sqT,sqO,if_false,List.cons_append,List.nil_append,Nat.reduceEqDiff]
              simp -implicitDefEqProofs [hi,hlx,hra,rl0,g1,ba,wi,b1,b2,f2,hbo]
              refine nxt _ s1 _ ?_
              simp only [s5R,hMM,e2,sqT,sqO,if_false,List.cons_append,List.nil_append,Nat.reduceEqDiff]
              try simp only [List.append_assoc,List.cons_append,List.nil_append]
              rw [← e1]
              ((try simp only [ba]);refine Weak.sub (by simp [lk,keptA,AV.keys,ba]) ?_;simp only [ba,Wkl,ZhN,and_true];(try simp [lk,keptO,keptA,AV.keys,ba]))
         · have e:rlR true x=[⟨x.fd,x.fl,x.td,x.tl,x.nu,false⟩,⟨x.td,x.tl,x.fd,x.fl,x.nu,false⟩]:=by simp [rlR,z,hbo]
           have hne:rlR true x≠[]:=by rw [e];simp
           rw [e]at hL
           have e1:M.map sa=L.map sa++[[.int .i64 x.fd,.int .i64 x.fl,.int .i64 x.td,.int .i64 x.tl,.int .i64 x.nu,.bool false],[.int .i64 x.td,.int .i64 x.tl,.int .i64 x.fd,.int .i64 x.fl,.int .i64 x.nu,.bool false]]:=by rw [hL,List.map_append];rfl
           have e2:M.length=L.length+2:=by rw [hL];simp
           rcases hK with ⟨rfl,e0⟩ | ⟨hk,ne⟩
           · have s1:=more 132 hne (by simp)
             refine GO_AR mixed 1000 ?_
             simp only [sqT,sqO,if_true,List.nil_append]
             simp -implicitDefEqProofs [hi,hlx,hra,rl0,g1,ba,wi,f2,hbo]
             refine nxt 132 s1 _ ?_
             rw [e0,List.map_nil,List.nil_append]at e1
             rw [e0,List.length_nil]at e2
             simp only [s5R,hMM,e1,e2,sqT,sqO,if_false,List.cons_append,List.nil_append,Nat.reduceEqDiff]
             ((try simp only [ba]);refine Weak.sub (by simp [lk,keptA,AV.keys,ba]) ?_;simp only [ba,Wkl,and_true];(try simp [lk,keptO,keptA,AV.keys,ba]))
           · have s1:=more κ hne hk
             have:κ=85∨κ=97∨κ=132∨κ=144:=by simpa using hk
             rcases this with rfl|rfl|rfl|rfl
             all_goals
              refine GO_AR mixed 1000 ?_
              simp only [sqT,sqO,if_false,List.cons_append,List.nil_append,Nat.reduceEqDiff]
              simp -implicitDefEqProofs [hi,hlx,hra,rl0,g1,ba,wi,b1,b2,f2,hbo]
              refine nxt _ s1 _ ?_
              simp only [s5R,hMM,e2,sqT,sqO,if_false,List.cons_append,List.nil_append,Nat.reduceEqDiff]
              try simp only [List.append_assoc,List.cons_append,List.nil_append]
              rw [← e1]
              ((try simp only [ba]);refine Weak.sub (by simp [lk,keptA,AV.keys,ba]) ?_;simp only [ba,Wkl,ZhN,and_true];(try simp [lk,keptO,keptA,AV.keys,ba]))
   · obtain rfl:i=q.length:=by omega
     refine GO_AR mixed 1000 ?_
     rcases hK with ⟨rfl,e0⟩ | ⟨hk,ne⟩
     · simp only [sqT,sqO,if_true,List.nil_append]
       simp -implicitDefEqProofs [rl0]
       refine Z2N mixed 1000 ?_
       simp -implicitDefEqProofs [orNil,e0,Z7i]
     · have:κ=85∨κ=97∨κ=132∨κ=144:=by simpa using hk
       rcases this with rfl|rfl|rfl|rfl
       all_goals
        simp only [sqT,sqO,if_false,List.cons_append,List.nil_append,Nat.reduceEqDiff]
        simp -implicitDefEqProofs [rl0]
        refine Z2N mixed 1000 ?_
        simp -implicitDefEqProofs [orNil,ne,Z7i,sa]
end
end Go.Proofs.YtpkfmfkccbnnjaaGreatDoor
