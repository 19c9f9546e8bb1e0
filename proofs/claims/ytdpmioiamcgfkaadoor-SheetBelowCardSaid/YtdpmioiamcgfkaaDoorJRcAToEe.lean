/-
  The abstract machine's code of functions of the program, as a program of ours printed it; that it is theirs is proved beside each.
-/
import Derived.Test.YtdpmioiamcgfkaaDoorJAmOToMath
import Derived.Test.YtdpmioiamcgfkaaDoorProg
import Derived.Test.YtdpmioiamcgfkaaDoorJAmHToAmN
import Derived.IntWalk
import Derived.Test.YtdpmioiamcgfkaaDoorJRcLToRcB
set_option linter.unusedSimpArgs false
set_option linter.unusedVariables false
namespace Go.Proofs.YtdpmioiamcgfkaaDoor
open Go.RowKit

def rc_ref01_within : RCode :=
  .seq (.reg 0 false [ { d := some 6, op := .mov (.c (.bool false)) }])
 (.seq (.reg 1 false [ { d := some 7, op := .mov (.t 0) }, { d := some 8, op := .mov (.t 1) }, { d := some 9, op := .bin .geq (.t 7) (.t 8) }, { d := some 10, op := .mov (.t 9) }, { d := some 11, op := .mov (.t 0), guard := some (10, true) }, { d := some 12, op := .mov (.t 2), guard := some (10, true) }, { d := some 13, op := .bin .leq (.t 11) (.t 12), guard := some (10, true) }, { d := some 14, op := .pick (.t 10) (.t 13) (.c (.bool false)) }, { d := some 6, op := .mov (.t 14) }]) (.ret))
def rr_ref01_within : List RRes := [.t 6]
theorem pc_ref01_within {G : Nat → Option (List AV)} {args : List AV} {v : AV} (hn : args.length ≤ Tryd.f136.ntmps) (h : ∀ R : Run, R.G = G → R.Top → AR Tryd.prog R rc_ref01_within (initSt args) (Fin rr_ref01_within v)) : PC Tryd.prog G 136 args v :=
  PC_of Tryd.func136 rfl (by kernel_rfl) (rc := rc_ref01_within) (by kernel_rfl) (rs := rr_ref01_within) (by kernel_rfl) hn (fun R _ hG hr => h R hG hr)

def rc_ref01_Dim : RCode :=
  .seq (.reg 0 false [ { d := some 1, op := .box (.t 0) }, { d := some 2, op := .mov (.c (.bool false)) }])
 (.seq (.reg 1 false [ { d := some 3, op := .faddr 0 (.t 1) }, { d := some 4, op := .load false 1 (.t 3) }, { d := some 5, op := .call 136 [.t 4, .c (.int .i64 0), .c (.int .i64 1000000000)] }, { d := some 6, op := .mov (.t 5) }, { d := some 7, op := .faddr 2 (.t 1), guard := some (6, true) }, { d := some 8, op := .load false 1 (.t 7), guard := some (6, true) }, { d := some 9, op := .call 136 [.t 8, .c (.int .i64 0), .c (.int .i64 1000000000)], guard := some (6, true) }, { d := some 10, op := .pick (.t 6) (.t 9) (.c (.bool false)) }, { d := some 11, op := .mov (.t 10) }, { d := some 12, op := .faddr 1 (.t 1), guard := some (11, true) }, { d := some 13, op := .load false 1 (.t 12), guard := some (11, true) }, { d := some 14, op := .faddr 2 (.t 1), guard := some (11, true) }, { d := some 15, op := .load false 1 (.t 14), guard := some (11, true) }, { d := some 16, op := .call 136 [.t 13, .c (.int .i64 0), .t 15], guard := some (11, true) }, { d := some 17, op := .pick (.t 11) (.t 16) (.c (.bool false)) }, { d := some 2, op := .mov (.t 17) }]) (.ret))
def rr_ref01_Dim : List RRes := [.t 2]
theorem pc_ref01_Dim {G : Nat → Option (List AV)} {args : List AV} {v : AV} (hn : args.length ≤ Tryd.f126.ntmps) (h : ∀ R : Run, R.G = G → R.Top → AR Tryd.prog R rc_ref01_Dim (initSt args) (Fin rr_ref01_Dim v)) : PC Tryd.prog G 126 args v :=
  PC_of Tryd.func126 rfl (by kernel_rfl) (rc := rc_ref01_Dim) (by kernel_rfl) (rs := rr_ref01_Dim) (by kernel_rfl) hn (fun R _ hG hr => h R hG hr)

def rc_ref02_within : RCode :=
  .seq (.reg 0 false [ { d := some 6, op := .mov (.c (.bool false)) }])
 (.seq (.reg 1 false [ { d := some 7, op := .mov (.t 0) }, { d := some 8, op := .mov (.t 1) }, { d := some 9, op := .bin .geq (.t 7) (.t 8) }, { d := some 10, op := .mov (.t 9) }, { d := some 11, op := .mov (.t 0), guard := some (10, true) }, { d := some 12, op := .mov (.t 2), guard := some (10, true) }, { d := some 13, op := .bin .leq (.t 11) (.t 12), guard := some (10, true) }, { d := some 14, op := .pick (.t 10) (.t 13) (.c (.bool false)) }, { d := some 6, op := .mov (.t 14) }]) (.ret))
def rr_ref02_within : List RRes := [.t 6]
theorem pc_ref02_within {G : Nat → Option (List AV)} {args : List AV} {v : AV} (hn : args.length ≤ Tryd.f106.ntmps) (h : ∀ R : Run, R.G = G → R.Top → AR Tryd.prog R rc_ref02_within (initSt args) (Fin rr_ref02_within v)) : PC Tryd.prog G 106 args v :=
  PC_of Tryd.func106 rfl (by kernel_rfl) (rc := rc_ref02_within) (by kernel_rfl) (rs := rr_ref02_within) (by kernel_rfl) hn (fun R _ hG hr => h R hG hr)

def rc_ref02_Issue : RCode :=
  .seq (.reg 0 false [ { d := some 1, op := .box (.t 0) }, { d := some 2, op := .mov (.c (.bool false)) }]) (.seq
 (.seq (.reg 1 false [ { d := some 6, op := .faddr 0 (.t 1) }, { d := some 7, op := .load false 1 (.t 6) }, { d := some 8, op := .call 106 [.t 7, .c (.int .i64 1), .c (.int .i64 9999)] }, { d := some 9, op := .un .not (.t 8) }, { d := some 10, op := .mov (.t 9) }, { d := some 11, op := .faddr 1 (.t 1), guard := some (10, false) }, { d := some 12, op := .load false 1 (.t 11), guard := some (10, false) }, { d := some 13, op := .call 106 [.t 12, .c (.int .i64 1), .c (.int .i64 8)], guard := some (10, false) }, { d := some 14, op := .un .not (.t 13), guard := some (10, false) }, { d := some 15, op := .pick (.t 10) (.c (.bool true)) (.t 14) }, { d := some 16, op := .mov (.t 15) }, { d := some 17, op := .faddr 2 (.t 1), guard := some (16, false) }, { d := some 18, op := .load false 1 (.t 17), guard := some (16, false) }, { d := some 19, op := .conv .i64 (.t 18), guard := some (16, false) }, { d := some 20, op := .call 106 [.t 19, .c (.int .i64 1), .c (.int .i64 3)], guard := some (16, false) }, { d := some 21, op := .un .not (.t 20), guard := some (16, false) }, { d := some 22, op := .pick (.t 16) (.c (.bool true)) (.t 21) }, { d := some 23, op := .mov (.t 22) }, { d := some 24, op := .faddr 2 (.t 1), guard := some (23, false) }, { d := some 25, op := .load false 1 (.t 24), guard := some (23, false) }, { d := some 26, op := .bin .eql (.t 25) (.c (.int .u8 1)), guard := some (23, false) }, { d := some 27, op := .mov (.t 26), guard := some (23, false) }, { d := some 28, op := .faddr 3 (.t 1), guard := some (27, true) }, { d := some 29, op := .load false 1 (.t 28), guard := some (27, true) }, { d := some 30, op := .len (.t 29), guard := some (27, true) }, { d := some 31, op := .call 106 [.t 30, .c (.int .i64 1), .c (.int .i64 8)], guard := some (27, true) }, { d := some 32, op := .un .not (.t 31), guard := some (27, true) }, { d := some 33, op := .mov (.t 32), guard := some (27, true) }, { d := some 34, op := .faddr 4 (.t 1), guard := some (33, false) }, { d := some 35, op := .load false 1 (.t 34), guard := some (33, false) }, { d := some 36, op := .len (.t 35), guard := some (33, false) }, { d := some 37, op := .bin .gtr (.t 36) (.c (.int .i64 0)), guard := some (33, false) }, { d := some 38, op := .pick (.t 33) (.c (.bool true)) (.t 37), guard := some (27, true) }, { d := some 39, op := .pick (.t 27) (.t 38) (.c (.bool false)), guard := some (23, false) }, { d := some 40, op := .pick (.t 23) (.c (.bool true)) (.t 39) }, { d := some 41, op := .mov (.t 40) }, { d := some 42, op := .faddr 2 (.t 1), guard := some (41, false) }, { d := some 43, op := .load false 1 (.t 42), guard := some (41, false) }, { d := some 44, op := .bin .gtr (.t 43) (.c (.int .u8 1)), guard := some (41, false) }, { d := some 45, op := .mov (.t 44), guard := some (41, false) }, { d := some 46, op := .faddr 4 (.t 1), guard := some (45, true) }, { d := some 47, op := .load false 1 (.t 46), guard := some (45, true) }, { d := some 48, op := .len (.t 47), guard := some (45, true) }, { d := some 49, op := .bin .gtr (.t 48) (.c (.int .i64 4)), guard := some (45, true) }, { d := some 50, op := .mov (.t 49), guard := some (45, true) }, { d := some 51, op := .faddr 3 (.t 1), guard := some (50, false) }, { d := some 52, op := .load false 1 (.t 51), guard := some (50, false) }, { d := some 53, op := .len (.t 52), guard := some (50, false) }, { d := some 54, op := .bin .gtr (.t 53) (.c (.int .i64 0)), guard := some (50, false) }, { d := some 55, op := .pick (.t 50) (.c (.bool true)) (.t 54), guard := some (45, true) }, { d := some 56, op := .pick (.t 45) (.t 55) (.c (.bool false)), guard := some (41, false) }, { d := some 57, op := .pick (.t 41) (.c (.bool true)) (.t 56) }]) (.cond (.t 57)
 (.seq (.reg 2 false [ { d := some 2, op := .mov (.c (.bool false)) }]) (.ret)) (.skip))) (.seq
 (.seq (.reg 3 false [ { d := some 3, op := .mov (.c (.int .i64 0)) }]) (.block 0 (.loop (.seq
 (.seq (.reg 4 false [ { d := some 58, op := .mov (.t 3) }, { d := some 59, op := .faddr 3 (.t 1) }, { d := some 60, op := .load false 1 (.t 59) }, { d := some 61, op := .len (.t 60) }, { d := some 62, op := .bin .lss (.t 58) (.t 61) }]) (.cond (.t 62) (.skip) (.exit 0))) (.seq (.block 1
 (.seq (.reg 6 false [ { d := some 65, op := .faddr 3 (.t 1) }, { d := some 66, op := .load false 1 (.t 65) }, { d := some 67, op := .mov (.t 3) }, { d := some 68, op := .iaddr 2 (.t 66) (.t 67) }, { d := some 69, op := .load true 2 (.t 68) }, { d := some 4, op := .alloc [.int .i64 0, .int .i64 0] }, { d := none, op := .store 2 (.t 4) (.t 69) }])
 (.seq (.reg 7 true [ { d := some 70, op := .faddr 0 (.t 4), aft := [] }, { d := some 71, op := .load false 1 (.t 70), aft := [0] }, { d := some 72, op := .call 106 [.t 71, .c (.int .i64 1), .c (.int .i64 9999)], aft := [1] }, { d := some 73, op := .un .not (.t 72), aft := [2] }, { d := some 74, op := .mov (.t 73), aft := [3, 2] }, { d := some 75, op := .faddr 1 (.t 4), guard := some (74, false), aft := [4] }, { d := some 76, op := .load false 1 (.t 75), guard := some (74, false), aft := [5, 4] }, { d := some 77, op := .call 106 [.t 76, .c (.int .i64 1), .c (.int .i64 20)], guard := some (74, false), aft := [6, 4, 4] }, { d := some 78, op := .un .not (.t 77), guard := some (74, false), aft := [7, 4] }, { d := some 79, op := .pick (.t 74) (.c (.bool true)) (.t 78), aft := [4, 8] }, { d := some 80, op := .mov (.t 79), aft := [9, 7] }, { d := some 81, op := .faddr 0 (.t 4), guard := some (80, false), aft := [10] }, { d := some 82, op := .load false 1 (.t 81), guard := some (80, false), aft := [11, 10] }, { d := some 83, op := .faddr 0 (.t 1), guard := some (80, false), aft := [10] }, { d := some 84, op := .load false 1 (.t 83), guard := some (80, false), aft := [13, 10] }, { d := some 85, op := .bin .eql (.t 82) (.t 84), guard := some (80, false), aft := [12, 14, 10] }, { d := some 86, op := .pick (.t 80) (.c (.bool true)) (.t 85), aft := [10, 15] }, { d := some 87, op := .mov (.t 86), aft := [16, 10] }, { d := some 88, op := .mov (.t 3), guard := some (87, false), aft := [17] }, { d := some 89, op := .bin .gtr (.t 88) (.c (.int .i64 0)), guard := some (87, false), aft := [18, 17] }, { d := some 90, op := .mov (.t 89), guard := some (87, false), aft := [19, 17, 17] }, { d := some 91, op := .faddr 3 (.t 1), guard := some (90, true), aft := [20] }, { d := some 92, op := .load false 1 (.t 91), guard := some (90, true), aft := [21, 20] }, { d := some 93, op := .mov (.t 3), guard := some (90, true), aft := [20] }, { d := some 94, op := .bin .sub (.t 93) (.c (.int .i64 1)), guard := some (90, true), aft := [23, 20] }, { d := some 95, op := .iaddr 2 (.t 92) (.t 94), guard := some (90, true), aft := [22, 24, 20] }, { d := some 96, op := .faddr 0 (.t 95), guard := some (90, true), aft := [25, 20] }, { d := some 97, op := .load false 1 (.t 96), guard := some (90, true), aft := [26, 20] }, { d := some 98, op := .faddr 0 (.t 4), guard := some (90, true), aft := [20] }, { d := some 99, op := .load false 1 (.t 98), guard := some (90, true), aft := [28, 20] }, { d := some 100, op := .bin .geq (.t 97) (.t 99), guard := some (90, true), aft := [27, 29, 20] }, { d := some 101, op := .pick (.t 90) (.t 100) (.c (.bool false)), guard := some (87, false), aft := [20, 30, 17] }, { d := some 102, op := .pick (.t 87) (.c (.bool true)) (.t 101), aft := [17, 31] }]) (.cond (.t 102)
 (.seq (.reg 8 false [ { d := some 2, op := .mov (.c (.bool false)) }]) (.ret)) (.skip))))) (.reg 5 false [ { d := some 63, op := .mov (.t 3) }, { d := some 64, op := .bin .add (.t 63) (.c (.int .i64 1)) }, { d := some 3, op := .mov (.t 64) }])))))) (.seq
 (.seq (.reg 9 false [ { d := some 5, op := .mov (.c (.int .i64 0)) }]) (.block 2 (.loop (.seq
 (.seq (.reg 10 false [ { d := some 103, op := .mov (.t 5) }, { d := some 104, op := .faddr 4 (.t 1) }, { d := some 105, op := .load false 1 (.t 104) }, { d := some 106, op := .len (.t 105) }, { d := some 107, op := .bin .lss (.t 103) (.t 106) }]) (.cond (.t 107) (.skip) (.exit 2))) (.seq (.block 3
 (.seq (.reg 12 false [ { d := some 110, op := .faddr 4 (.t 1) }, { d := some 111, op := .load false 1 (.t 110) }, { d := some 112, op := .mov (.t 5) }, { d := some 113, op := .iaddr 3 (.t 111) (.t 112) }, { d := some 114, op := .load true 3 (.t 113) }, { d := some 115, op := .call 126 [.t 114] }, { d := some 116, op := .un .not (.t 115) }]) (.cond (.t 116)
 (.seq (.reg 13 false [ { d := some 2, op := .mov (.c (.bool false)) }]) (.ret)) (.skip)))) (.reg 11 false [ { d := some 108, op := .mov (.t 5) }, { d := some 109, op := .bin .add (.t 108) (.c (.int .i64 1)) }, { d := some 5, op := .mov (.t 109) }]))))))
 (.seq (.reg 14 false [ { d := some 2, op := .mov (.c (.bool true)) }]) (.ret)))))
def rr_ref02_Issue : List RRes := [.t 2]
theorem pc_ref02_Issue {G : Nat → Option (List AV)} {args : List AV} {v : AV} (hn : args.length ≤ Tryd.f107.ntmps) (h : ∀ R : Run, R.G = G → R.Top → AR Tryd.prog R rc_ref02_Issue (initSt args) (Fin rr_ref02_Issue v)) : PC Tryd.prog G 107 args v :=
  PC_of Tryd.func107 rfl (by kernel_rfl) (rc := rc_ref02_Issue) (by kernel_rfl) (rs := rr_ref02_Issue) (by kernel_rfl) hn (fun R _ hG hr => h R hG hr)

def rc_ref02_Numbers : RCode :=
  .seq (.reg 0 false [ { d := some 1, op := .box (.t 0) }, { d := some 2, op := .mov (.c (.nils)) }])
 (.seq (.reg 1 false [ { d := some 3, op := .mov (.c (.nils)) }]) (.seq
 (.seq (.reg 2 false [ { d := some 4, op := .mov (.c (.int .i64 0)) }]) (.block 0 (.loop (.seq
 (.seq (.reg 3 false [ { d := some 6, op := .mov (.t 4) }, { d := some 7, op := .faddr 0 (.t 1) }, { d := some 8, op := .load false 1 (.t 7) }, { d := some 9, op := .len (.t 8) }, { d := some 10, op := .bin .lss (.t 6) (.t 9) }]) (.cond (.t 10) (.skip) (.exit 0))) (.seq (.block 1
 (.seq (.reg 5 false [ { d := some 13, op := .faddr 0 (.t 1) }, { d := some 14, op := .load false 1 (.t 13) }, { d := some 15, op := .mov (.t 4) }, { d := some 16, op := .iaddr 5 (.t 14) (.t 15) }, { d := some 17, op := .faddr 0 (.t 16) }, { d := some 18, op := .load false 1 (.t 17) }, { d := some 5, op := .mov (.t 18) }])
 (.seq (.reg 6 false [ { d := some 19, op := .mov (.t 4) }, { d := some 20, op := .bin .eql (.t 19) (.c (.int .i64 0)) }, { d := some 21, op := .mov (.t 20) }, { d := some 22, op := .faddr 0 (.t 1), guard := some (21, false) }, { d := some 23, op := .load false 1 (.t 22), guard := some (21, false) }, { d := some 24, op := .mov (.t 4), guard := some (21, false) }, { d := some 25, op := .bin .sub (.t 24) (.c (.int .i64 1)), guard := some (21, false) }, { d := some 26, op := .iaddr 5 (.t 23) (.t 25), guard := some (21, false) }, { d := some 27, op := .faddr 0 (.t 26), guard := some (21, false) }, { d := some 28, op := .load false 1 (.t 27), guard := some (21, false) }, { d := some 29, op := .mov (.t 5), guard := some (21, false) }, { d := some 30, op := .bin .neq (.t 28) (.t 29), guard := some (21, false) }, { d := some 31, op := .pick (.t 21) (.c (.bool true)) (.t 30) }]) (.cond (.t 31) (.reg 7 false [ { d := some 32, op := .mov (.t 3) }, { d := some 33, op := .mov (.t 5) }, { d := some 34, op := .bsl false 1 1 [.int .i64 0] [(0, .t 33)] }, { d := some 35, op := .app 1 8 (.t 32) (.t 34) }, { d := some 3, op := .mov (.t 35) }]) (.skip))))) (.reg 4 false [ { d := some 11, op := .mov (.t 4) }, { d := some 12, op := .bin .add (.t 11) (.c (.int .i64 1)) }, { d := some 4, op := .mov (.t 12) }]))))))
 (.seq (.reg 8 false [ { d := some 36, op := .mov (.t 3) }, { d := some 2, op := .mov (.t 36) }]) (.ret))))
def rr_ref02_Numbers : List RRes := [.t 2]
theorem pc_ref02_Numbers {G : Nat → Option (List AV)} {args : List AV} {v : AV} (hn : args.length ≤ Tryd.f55.ntmps) (h : ∀ R : Run, R.G = G → R.Top → AR Tryd.prog R rc_ref02_Numbers (initSt args) (Fin rr_ref02_Numbers v)) : PC Tryd.prog G 55 args v :=
  PC_of Tryd.func55 rfl (by kernel_rfl) (rc := rc_ref02_Numbers) (by kernel_rfl) (rs := rr_ref02_Numbers) (by kernel_rfl) hn (fun R _ hG hr => h R hG hr)

def rc_ref02_Index : RCode :=
  .seq (.reg 0 false [ { d := some 4, op := .mov (.c (.int .i64 0)) }]) (.seq
 (.seq (.reg 1 false [ { d := some 5, op := .mov (.c (.int .i64 0)) }]) (.block 0 (.loop (.seq
 (.seq (.reg 2 false [ { d := some 6, op := .mov (.t 5) }, { d := some 7, op := .mov (.t 0) }, { d := some 8, op := .len (.t 7) }, { d := some 9, op := .bin .lss (.t 6) (.t 8) }]) (.cond (.t 9) (.skip) (.exit 0))) (.seq (.block 1
 (.seq (.reg 4 false [ { d := some 12, op := .mov (.t 0) }, { d := some 13, op := .mov (.t 5) }, { d := some 14, op := .iaddr 1 (.t 12) (.t 13) }, { d := some 15, op := .load false 1 (.t 14) }, { d := some 16, op := .mov (.t 1) }, { d := some 17, op := .bin .eql (.t 15) (.t 16) }]) (.cond (.t 17)
 (.seq (.reg 5 false [ { d := some 18, op := .mov (.t 5) }, { d := some 4, op := .mov (.t 18) }]) (.ret)) (.skip)))) (.reg 3 false [ { d := some 10, op := .mov (.t 5) }, { d := some 11, op := .bin .add (.t 10) (.c (.int .i64 1)) }, { d := some 5, op := .mov (.t 11) }]))))))
 (.seq (.reg 6 false [ { d := some 4, op := .mov (.c (.int .i64 (-1))) }]) (.ret)))
def rr_ref02_Index : List RRes := [.t 4]
theorem pc_ref02_Index {G : Nat → Option (List AV)} {args : List AV} {v : AV} (hn : args.length ≤ Tryd.f56.ntmps) (h : ∀ R : Run, R.G = G → R.Top → AR Tryd.prog R rc_ref02_Index (initSt args) (Fin rr_ref02_Index v)) : PC Tryd.prog G 56 args v :=
  PC_of Tryd.func56 rfl (by kernel_rfl) (rc := rc_ref02_Index) (by kernel_rfl) (rs := rr_ref02_Index) (by kernel_rfl) hn (fun R _ hG hr => h R hG hr)

def rc_ref02_listed : RCode :=
  .seq (.reg 0 false [ { d := some 1, op := .box (.t 0) }, { d := some 2, op := .mov (.c (.bool false)) }]) (.seq
 (.seq (.reg 1 false [ { d := some 9, op := .faddr 0 (.t 1) }, { d := some 10, op := .load false 1 (.t 9) }, { d := some 11, op := .len (.t 10) }, { d := some 12, op := .call 106 [.t 11, .c (.int .i64 1), .c (.int .i64 60)] }, { d := some 13, op := .un .not (.t 12) }]) (.cond (.t 13)
 (.seq (.reg 2 false [ { d := some 2, op := .mov (.c (.bool false)) }]) (.ret)) (.skip))) (.seq
 (.seq (.reg 3 false [ { d := some 3, op := .mov (.c (.int .i64 0)) }]) (.block 0 (.loop (.seq
 (.seq (.reg 4 false [ { d := some 14, op := .mov (.t 3) }, { d := some 15, op := .faddr 0 (.t 1) }, { d := some 16, op := .load false 1 (.t 15) }, { d := some 17, op := .len (.t 16) }, { d := some 18, op := .bin .lss (.t 14) (.t 17) }]) (.cond (.t 18) (.skip) (.exit 0))) (.seq (.block 1
 (.seq (.reg 6 false [ { d := some 21, op := .faddr 0 (.t 1) }, { d := some 22, op := .load false 1 (.t 21) }, { d := some 23, op := .mov (.t 3) }, { d := some 24, op := .iaddr 5 (.t 22) (.t 23) }, { d := some 25, op := .load true 5 (.t 24) }, { d := some 4, op := .alloc [.int .i64 0, .int .i64 0, .int .u8 0, .nils, .nils] }, { d := none, op := .store 5 (.t 4) (.t 25) }]) (.seq
 (.seq (.reg 7 false [ { d := some 26, op := .load true 5 (.t 4) }, { d := some 27, op := .call 107 [.t 26] }, { d := some 28, op := .un .not (.t 27) }]) (.cond (.t 28)
 (.seq (.reg 8 false [ { d := some 2, op := .mov (.c (.bool false)) }]) (.ret)) (.skip)))
 (.seq (.reg 9 false [ { d := some 29, op := .build [.int .i64 0, .int .i64 0, .int .u8 0, .nils, .nils] [] }, { d := some 5, op := .alloc [.int .i64 0, .int .i64 0, .int .u8 0, .nils, .nils] }, { d := none, op := .store 5 (.t 5) (.t 29) }]) (.seq
 (.seq (.reg 10 false [ { d := some 30, op := .mov (.t 3) }, { d := some 31, op := .bin .gtr (.t 30) (.c (.int .i64 0)) }]) (.cond (.t 31) (.reg 11 false [ { d := some 32, op := .faddr 0 (.t 1) }, { d := some 33, op := .load false 1 (.t 32) }, { d := some 34, op := .mov (.t 3) }, { d := some 35, op := .bin .sub (.t 34) (.c (.int .i64 1)) }, { d := some 36, op := .iaddr 5 (.t 33) (.t 35) }, { d := some 37, op := .load true 5 (.t 36) }, { d := none, op := .store 5 (.t 5) (.t 37) }]) (.skip))) (.block 2
 (.seq (.reg 12 false [ { d := some 39, op := .faddr 0 (.t 4) }, { d := some 40, op := .load false 1 (.t 39) }, { d := some 41, op := .faddr 0 (.t 5) }, { d := some 42, op := .load false 1 (.t 41) }, { d := some 43, op := .bin .lss (.t 40) (.t 42) }, { d := some 38, op := .mov (.t 43) }]) (.cond (.t 38)
 (.seq (.reg 13 false [ { d := some 2, op := .mov (.c (.bool false)) }]) (.ret))
 (.seq (.reg 14 false [ { d := some 45, op := .faddr 0 (.t 4) }, { d := some 46, op := .load false 1 (.t 45) }, { d := some 47, op := .faddr 0 (.t 5) }, { d := some 48, op := .load false 1 (.t 47) }, { d := some 49, op := .bin .gtr (.t 46) (.t 48) }, { d := some 44, op := .mov (.t 49) }]) (.cond (.t 44)
 (.seq (.reg 15 false [ { d := some 50, op := .faddr 1 (.t 4) }, { d := some 51, op := .load false 1 (.t 50) }, { d := some 52, op := .bin .neq (.t 51) (.c (.int .i64 1)) }]) (.cond (.t 52)
 (.seq (.reg 16 false [ { d := some 2, op := .mov (.c (.bool false)) }]) (.ret)) (.skip)))
 (.seq (.reg 17 false [ { d := some 54, op := .faddr 1 (.t 4) }, { d := some 55, op := .load false 1 (.t 54) }, { d := some 56, op := .faddr 1 (.t 5) }, { d := some 57, op := .load false 1 (.t 56) }, { d := some 58, op := .bin .add (.t 57) (.c (.int .i64 1)) }, { d := some 59, op := .bin .neq (.t 55) (.t 58) }, { d := some 60, op := .mov (.t 59) }, { d := some 61, op := .faddr 2 (.t 4), guard := some (60, false) }, { d := some 62, op := .load false 1 (.t 61), guard := some (60, false) }, { d := some 63, op := .faddr 2 (.t 5), guard := some (60, false) }, { d := some 64, op := .load false 1 (.t 63), guard := some (60, false) }, { d := some 65, op := .bin .neq (.t 62) (.t 64), guard := some (60, false) }, { d := some 66, op := .pick (.t 60) (.c (.bool true)) (.t 65) }, { d := some 53, op := .mov (.t 66) }]) (.cond (.t 53)
 (.seq (.reg 18 false [ { d := some 2, op := .mov (.c (.bool false)) }]) (.ret)) (.skip))))))))))))) (.reg 5 false [ { d := some 19, op := .mov (.t 3) }, { d := some 20, op := .bin .add (.t 19) (.c (.int .i64 1)) }, { d := some 3, op := .mov (.t 20) }]))))))
 (.seq (.reg 19 false [ { d := some 67, op := .load true 1 (.t 1) }, { d := some 68, op := .call 55 [.t 67] }, { d := some 6, op := .mov (.t 68) }]) (.seq
 (.seq (.reg 20 false [ { d := some 7, op := .mov (.c (.int .i64 0)) }]) (.block 3 (.loop (.seq
 (.seq (.reg 21 false [ { d := some 69, op := .mov (.t 7) }, { d := some 70, op := .faddr 0 (.t 1) }, { d := some 71, op := .load false 1 (.t 70) }, { d := some 72, op := .len (.t 71) }, { d := some 73, op := .bin .lss (.t 69) (.t 72) }]) (.cond (.t 73) (.skip) (.exit 3))) (.seq (.block 4
 (.seq (.reg 23 false [ { d := some 8, op := .mov (.c (.int .i64 0)) }]) (.block 5 (.loop (.seq
 (.seq (.reg 24 false [ { d := some 76, op := .mov (.t 8) }, { d := some 77, op := .faddr 0 (.t 1) }, { d := some 78, op := .load false 1 (.t 77) }, { d := some 79, op := .mov (.t 7) }, { d := some 80, op := .iaddr 5 (.t 78) (.t 79) }, { d := some 81, op := .faddr 3 (.t 80) }, { d := some 82, op := .load false 1 (.t 81) }, { d := some 83, op := .len (.t 82) }, { d := some 84, op := .bin .lss (.t 76) (.t 83) }]) (.cond (.t 84) (.skip) (.exit 5))) (.seq (.block 6
 (.seq (.reg 26 false [ { d := some 87, op := .mov (.t 6) }, { d := some 88, op := .faddr 0 (.t 1) }, { d := some 89, op := .load false 1 (.t 88) }, { d := some 90, op := .mov (.t 7) }, { d := some 91, op := .iaddr 5 (.t 89) (.t 90) }, { d := some 92, op := .faddr 3 (.t 91) }, { d := some 93, op := .load false 1 (.t 92) }, { d := some 94, op := .mov (.t 8) }, { d := some 95, op := .iaddr 2 (.t 93) (.t 94) }, { d := some 96, op := .faddr 0 (.t 95) }, { d := some 97, op := .load false 1 (.t 96) }, { d := some 98, op := .call 56 [.t 87, .t 97] }, { d := some 99, op := .bin .lss (.t 98) (.c (.int .i64 0)) }]) (.cond (.t 99)
 (.seq (.reg 27 false [ { d := some 2, op := .mov (.c (.bool false)) }]) (.ret)) (.skip)))) (.reg 25 false [ { d := some 85, op := .mov (.t 8) }, { d := some 86, op := .bin .add (.t 85) (.c (.int .i64 1)) }, { d := some 8, op := .mov (.t 86) }]))))))) (.reg 22 false [ { d := some 74, op := .mov (.t 7) }, { d := some 75, op := .bin .add (.t 74) (.c (.int .i64 1)) }, { d := some 7, op := .mov (.t 75) }]))))))
 (.seq (.reg 28 false [ { d := some 100, op := .mov (.t 6) }, { d := some 101, op := .len (.t 100) }, { d := some 102, op := .bin .leq (.t 101) (.c (.int .i64 20)) }, { d := some 2, op := .mov (.t 102) }]) (.ret))))))
def rr_ref02_listed : List RRes := [.t 2]
theorem pc_ref02_listed {G : Nat → Option (List AV)} {args : List AV} {v : AV} (hn : args.length ≤ Tryd.f70.ntmps) (h : ∀ R : Run, R.G = G → R.Top → AR Tryd.prog R rc_ref02_listed (initSt args) (Fin rr_ref02_listed v)) : PC Tryd.prog G 70 args v :=
  PC_of Tryd.func70 rfl (by kernel_rfl) (rc := rc_ref02_listed) (by kernel_rfl) (rs := rr_ref02_listed) (by kernel_rfl) hn (fun R _ hG hr => h R hG hr)

def rc_ref02_depths : RCode :=
  .seq (.reg 0 false [ { d := some 1, op := .box (.t 0) }, { d := some 2, op := .mov (.c (.nils)) }])
 (.seq (.reg 1 false [ { d := some 11, op := .load true 1 (.t 1) }, { d := some 12, op := .call 55 [.t 11] }, { d := some 3, op := .mov (.t 12) }])
 (.seq (.reg 2 false [ { d := some 13, op := .mov (.t 3) }, { d := some 14, op := .len (.t 13) }, { d := some 15, op := .mksl 1 8 [.int .i64 0] (.t 14) }, { d := some 4, op := .mov (.t 15) }]) (.seq
 (.seq (.reg 3 false [ { d := some 5, op := .mov (.c (.int .i64 0)) }]) (.block 0 (.loop (.seq
 (.seq (.reg 4 false [ { d := some 16, op := .mov (.t 5) }, { d := some 17, op := .mov (.t 3) }, { d := some 18, op := .len (.t 17) }, { d := some 19, op := .bin .leq (.t 16) (.t 18) }]) (.cond (.t 19) (.skip) (.exit 0))) (.seq (.block 1
 (.seq (.reg 6 false [ { d := some 22, op := .mov (.t 3) }, { d := some 23, op := .len (.t 22) }, { d := some 24, op := .mksl 1 8 [.int .i64 0] (.t 23) }, { d := some 6, op := .mov (.t 24) }]) (.seq
 (.seq (.reg 7 false [ { d := some 7, op := .mov (.c (.int .i64 0)) }]) (.block 2 (.loop (.seq
 (.seq (.reg 8 false [ { d := some 25, op := .mov (.t 7) }, { d := some 26, op := .faddr 0 (.t 1) }, { d := some 27, op := .load false 1 (.t 26) }, { d := some 28, op := .len (.t 27) }, { d := some 29, op := .bin .lss (.t 25) (.t 28) }]) (.cond (.t 29) (.skip) (.exit 2))) (.seq (.block 3
 (.seq (.reg 10 false [ { d := some 32, op := .faddr 0 (.t 1) }, { d := some 33, op := .load false 1 (.t 32) }, { d := some 34, op := .mov (.t 7) }, { d := some 35, op := .iaddr 5 (.t 33) (.t 34) }, { d := some 36, op := .load true 5 (.t 35) }, { d := some 8, op := .alloc [.int .i64 0, .int .i64 0, .int .u8 0, .nils, .nils] }, { d := none, op := .store 5 (.t 8) (.t 36) }])
 (.seq (.reg 11 false [ { d := some 37, op := .mov (.t 3) }, { d := some 38, op := .faddr 0 (.t 8) }, { d := some 39, op := .load false 1 (.t 38) }, { d := some 40, op := .call 56 [.t 37, .t 39] }, { d := some 9, op := .mov (.t 40) }])
 (.seq (.reg 12 false [ { d := some 41, op := .mov (.t 6) }, { d := some 42, op := .mov (.t 9) }, { d := some 43, op := .mov (.t 6) }, { d := some 44, op := .mov (.t 9) }, { d := some 45, op := .iaddr 1 (.t 43) (.t 44) }, { d := some 46, op := .load false 1 (.t 45) }, { d := some 47, op := .mx true (.t 46) [.c (.int .i64 1)] }, { d := some 48, op := .iaddr 1 (.t 41) (.t 42) }, { d := none, op := .store 1 (.t 48) (.t 47) }])
 (.seq (.reg 13 false [ { d := some 10, op := .mov (.c (.int .i64 0)) }]) (.block 4 (.loop (.seq
 (.seq (.reg 14 false [ { d := some 49, op := .mov (.t 10) }, { d := some 50, op := .faddr 3 (.t 8) }, { d := some 51, op := .load false 1 (.t 50) }, { d := some 52, op := .len (.t 51) }, { d := some 53, op := .bin .lss (.t 49) (.t 52) }]) (.cond (.t 53) (.skip) (.exit 4))) (.seq (.block 5 (.reg 16 true [ { d := some 56, op := .mov (.t 6), aft := [] }, { d := some 57, op := .mov (.t 9), aft := [] }, { d := some 58, op := .mov (.t 6), aft := [] }, { d := some 59, op := .mov (.t 9), aft := [] }, { d := some 60, op := .iaddr 1 (.t 58) (.t 59), aft := [2, 3] }, { d := some 61, op := .load false 1 (.t 60), aft := [4] }, { d := some 62, op := .mov (.t 4), aft := [] }, { d := some 63, op := .mov (.t 3), aft := [] }, { d := some 64, op := .faddr 3 (.t 8), aft := [] }, { d := some 65, op := .load false 1 (.t 64), aft := [8] }, { d := some 66, op := .mov (.t 10), aft := [] }, { d := some 67, op := .iaddr 2 (.t 65) (.t 66), aft := [9, 10] }, { d := some 68, op := .faddr 0 (.t 67), aft := [11] }, { d := some 69, op := .load false 1 (.t 68), aft := [12] }, { d := some 70, op := .call 56 [.t 63, .t 69], aft := [7, 13] }, { d := some 71, op := .iaddr 1 (.t 62) (.t 70), aft := [6, 14] }, { d := some 72, op := .load false 1 (.t 71), aft := [15] }, { d := some 73, op := .bin .add (.c (.int .i64 1)) (.t 72), aft := [16] }, { d := some 74, op := .mx true (.t 61) [.t 73], aft := [5, 17] }, { d := some 75, op := .iaddr 1 (.t 56) (.t 57), aft := [0, 1, 0, 1, 2, 3, 4, 5, 6, 7, 8, 9, 10, 11, 12, 13, 14, 15, 16, 17, 18] }, { d := none, op := .store 1 (.t 75) (.t 74), aft := [19, 18, 14, 0, 1, 2, 3, 4, 5, 6, 7, 8, 9, 10, 11, 12, 13, 14, 15, 16, 17, 18] }])) (.reg 15 false [ { d := some 54, op := .mov (.t 10) }, { d := some 55, op := .bin .add (.t 54) (.c (.int .i64 1)) }, { d := some 10, op := .mov (.t 55) }])))))))))) (.reg 9 false [ { d := some 30, op := .mov (.t 7) }, { d := some 31, op := .bin .add (.t 30) (.c (.int .i64 1)) }, { d := some 7, op := .mov (.t 31) }])))))) (.reg 17 false [ { d := some 76, op := .mov (.t 6) }, { d := some 4, op := .mov (.t 76) }])))) (.reg 5 false [ { d := some 20, op := .mov (.t 5) }, { d := some 21, op := .bin .add (.t 20) (.c (.int .i64 1)) }, { d := some 5, op := .mov (.t 21) }]))))))
 (.seq (.reg 18 false [ { d := some 77, op := .mov (.t 4) }, { d := some 2, op := .mov (.t 77) }]) (.ret)))))
def rr_ref02_depths : List RRes := [.t 2]
theorem pc_ref02_depths {G : Nat → Option (List AV)} {args : List AV} {v : AV} (hn : args.length ≤ Tryd.f71.ntmps) (h : ∀ R : Run, R.G = G → R.Top → AR Tryd.prog R rc_ref02_depths (initSt args) (Fin rr_ref02_depths v)) : PC Tryd.prog G 71 args v :=
  PC_of Tryd.func71 rfl (by kernel_rfl) (rc := rc_ref02_depths) (by kernel_rfl) (rs := rr_ref02_depths) (by kernel_rfl) hn (fun R _ hG hr => h R hG hr)

def rc_ref02_Check : RCode :=
  .seq (.reg 0 false [ { d := some 1, op := .box (.t 0) }, { d := some 2, op := .mov (.c (.int .i64 0)) }]) (.seq
 (.seq (.reg 1 false [ { d := some 6, op := .load true 1 (.t 1) }, { d := some 7, op := .call 70 [.t 6] }, { d := some 8, op := .un .not (.t 7) }]) (.cond (.t 8)
 (.seq (.reg 2 false [ { d := some 2, op := .mov (.c (.int .i64 20)) }]) (.ret)) (.skip)))
 (.seq (.reg 3 false [ { d := some 9, op := .load true 1 (.t 1) }, { d := some 10, op := .call 71 [.t 9] }, { d := some 3, op := .mov (.t 10) }])
 (.seq (.reg 4 false [ { d := some 4, op := .mov (.c (.int .i64 0)) }]) (.seq
 (.seq (.reg 5 false [ { d := some 5, op := .mov (.c (.int .i64 0)) }]) (.block 0 (.loop (.seq
 (.seq (.reg 6 false [ { d := some 11, op := .mov (.t 5) }, { d := some 12, op := .mov (.t 3) }, { d := some 13, op := .len (.t 12) }, { d := some 14, op := .bin .lss (.t 11) (.t 13) }]) (.cond (.t 14) (.skip) (.exit 0))) (.seq (.block 1 (.reg 8 false [ { d := some 17, op := .mov (.t 4) }, { d := some 18, op := .mov (.t 3) }, { d := some 19, op := .mov (.t 5) }, { d := some 20, op := .iaddr 1 (.t 18) (.t 19) }, { d := some 21, op := .load false 1 (.t 20) }, { d := some 22, op := .mx true (.t 17) [.t 21] }, { d := some 4, op := .mov (.t 22) }])) (.reg 7 false [ { d := some 15, op := .mov (.t 5) }, { d := some 16, op := .bin .add (.t 15) (.c (.int .i64 1)) }, { d := some 5, op := .mov (.t 16) }])))))) (.seq (.block 2
 (.seq (.reg 9 false [ { d := some 24, op := .mov (.t 4) }, { d := some 25, op := .mov (.t 3) }, { d := some 26, op := .len (.t 25) }, { d := some 27, op := .bin .gtr (.t 24) (.t 26) }, { d := some 23, op := .mov (.t 27) }]) (.cond (.t 23)
 (.seq (.reg 10 false [ { d := some 2, op := .mov (.c (.int .i64 21)) }]) (.ret))
 (.seq (.reg 11 false [ { d := some 29, op := .mov (.t 4) }, { d := some 30, op := .bin .gtr (.t 29) (.c (.int .i64 6)) }, { d := some 28, op := .mov (.t 30) }]) (.cond (.t 28)
 (.seq (.reg 12 false [ { d := some 2, op := .mov (.c (.int .i64 20)) }]) (.ret)) (.skip))))))
 (.seq (.reg 13 false [ { d := some 2, op := .mov (.c (.int .i64 0)) }]) (.ret)))))))
def rr_ref02_Check : List RRes := [.t 2]
theorem pc_ref02_Check {G : Nat → Option (List AV)} {args : List AV} {v : AV} (hn : args.length ≤ Tryd.f25.ntmps) (h : ∀ R : Run, R.G = G → R.Top → AR Tryd.prog R rc_ref02_Check (initSt args) (Fin rr_ref02_Check v)) : PC Tryd.prog G 25 args v :=
  PC_of Tryd.func25 rfl (by kernel_rfl) (rc := rc_ref02_Check) (by kernel_rfl) (rs := rr_ref02_Check) (by kernel_rfl) hn (fun R _ hG hr => h R hG hr)

def rc_ref02_LastOf : RCode :=
  .seq (.reg 0 false [ { d := some 2, op := .box (.t 0) }, { d := some 4, op := .mov (.c (.int .i64 0)) }])
 (.seq (.reg 1 false [ { d := some 5, op := .mov (.c (.int .i64 0)) }]) (.seq
 (.seq (.reg 2 false [ { d := some 6, op := .mov (.c (.int .i64 0)) }]) (.block 0 (.loop (.seq
 (.seq (.reg 3 false [ { d := some 7, op := .mov (.t 6) }, { d := some 8, op := .faddr 0 (.t 2) }, { d := some 9, op := .load false 1 (.t 8) }, { d := some 10, op := .len (.t 9) }, { d := some 11, op := .bin .lss (.t 7) (.t 10) }]) (.cond (.t 11) (.skip) (.exit 0))) (.seq (.block 1
 (.seq (.reg 5 false [ { d := some 14, op := .faddr 0 (.t 2) }, { d := some 15, op := .load false 1 (.t 14) }, { d := some 16, op := .mov (.t 6) }, { d := some 17, op := .iaddr 5 (.t 15) (.t 16) }, { d := some 18, op := .faddr 0 (.t 17) }, { d := some 19, op := .load false 1 (.t 18) }, { d := some 20, op := .mov (.t 1) }, { d := some 21, op := .bin .eql (.t 19) (.t 20) }]) (.cond (.t 21) (.reg 6 false [ { d := some 22, op := .mov (.t 5) }, { d := some 23, op := .faddr 0 (.t 2) }, { d := some 24, op := .load false 1 (.t 23) }, { d := some 25, op := .mov (.t 6) }, { d := some 26, op := .iaddr 5 (.t 24) (.t 25) }, { d := some 27, op := .faddr 1 (.t 26) }, { d := some 28, op := .load false 1 (.t 27) }, { d := some 29, op := .mx true (.t 22) [.t 28] }, { d := some 5, op := .mov (.t 29) }]) (.skip)))) (.reg 4 false [ { d := some 12, op := .mov (.t 6) }, { d := some 13, op := .bin .add (.t 12) (.c (.int .i64 1)) }, { d := some 6, op := .mov (.t 13) }]))))))
 (.seq (.reg 7 false [ { d := some 30, op := .mov (.t 5) }, { d := some 4, op := .mov (.t 30) }]) (.ret))))
def rr_ref02_LastOf : List RRes := [.t 4]
theorem pc_ref02_LastOf {G : Nat → Option (List AV)} {args : List AV} {v : AV} (hn : args.length ≤ Tryd.f59.ntmps) (h : ∀ R : Run, R.G = G → R.Top → AR Tryd.prog R rc_ref02_LastOf (initSt args) (Fin rr_ref02_LastOf v)) : PC Tryd.prog G 59 args v :=
  PC_of Tryd.func59 rfl (by kernel_rfl) (rc := rc_ref02_LastOf) (by kernel_rfl) (rs := rr_ref02_LastOf) (by kernel_rfl) hn (fun R _ hG hr => h R hG hr)

def rc_ref02_SameInts : RCode :=
  .seq (.reg 0 false [ { d := some 4, op := .mov (.c (.bool false)) }]) (.seq
 (.seq (.reg 1 false [ { d := some 6, op := .mov (.t 0) }, { d := some 7, op := .len (.t 6) }, { d := some 8, op := .mov (.t 1) }, { d := some 9, op := .len (.t 8) }, { d := some 10, op := .bin .neq (.t 7) (.t 9) }]) (.cond (.t 10)
 (.seq (.reg 2 false [ { d := some 4, op := .mov (.c (.bool false)) }]) (.ret)) (.skip))) (.seq
 (.seq (.reg 3 false [ { d := some 5, op := .mov (.c (.int .i64 0)) }]) (.block 0 (.loop (.seq
 (.seq (.reg 4 false [ { d := some 11, op := .mov (.t 5) }, { d := some 12, op := .mov (.t 0) }, { d := some 13, op := .len (.t 12) }, { d := some 14, op := .bin .lss (.t 11) (.t 13) }]) (.cond (.t 14) (.skip) (.exit 0))) (.seq (.block 1
 (.seq (.reg 6 true [ { d := some 17, op := .mov (.t 0), aft := [] }, { d := some 18, op := .mov (.t 5), aft := [] }, { d := some 19, op := .iaddr 1 (.t 17) (.t 18), aft := [0, 1] }, { d := some 20, op := .load false 1 (.t 19), aft := [2] }, { d := some 21, op := .mov (.t 1), aft := [] }, { d := some 22, op := .mov (.t 5), aft := [] }, { d := some 23, op := .iaddr 1 (.t 21) (.t 22), aft := [4, 5] }, { d := some 24, op := .load false 1 (.t 23), aft := [6] }, { d := some 25, op := .bin .neq (.t 20) (.t 24), aft := [3, 7] }]) (.cond (.t 25)
 (.seq (.reg 7 false [ { d := some 4, op := .mov (.c (.bool false)) }]) (.ret)) (.skip)))) (.reg 5 false [ { d := some 15, op := .mov (.t 5) }, { d := some 16, op := .bin .add (.t 15) (.c (.int .i64 1)) }, { d := some 5, op := .mov (.t 16) }]))))))
 (.seq (.reg 8 false [ { d := some 4, op := .mov (.c (.bool true)) }]) (.ret))))
def rr_ref02_SameInts : List RRes := [.t 4]
theorem pc_ref02_SameInts {G : Nat → Option (List AV)} {args : List AV} {v : AV} (hn : args.length ≤ Tryd.f26.ntmps) (h : ∀ R : Run, R.G = G → R.Top → AR Tryd.prog R rc_ref02_SameInts (initSt args) (Fin rr_ref02_SameInts v)) : PC Tryd.prog G 26 args v :=
  PC_of Tryd.func26 rfl (by kernel_rfl) (rc := rc_ref02_SameInts) (by kernel_rfl) (rs := rr_ref02_SameInts) (by kernel_rfl) hn (fun R _ hG hr => h R hG hr)

def rc_ref02_SameItems : RCode :=
  .seq (.reg 0 false [ { d := some 4, op := .mov (.c (.bool false)) }]) (.seq
 (.seq (.reg 1 false [ { d := some 6, op := .mov (.t 0) }, { d := some 7, op := .len (.t 6) }, { d := some 8, op := .mov (.t 1) }, { d := some 9, op := .len (.t 8) }, { d := some 10, op := .bin .neq (.t 7) (.t 9) }]) (.cond (.t 10)
 (.seq (.reg 2 false [ { d := some 4, op := .mov (.c (.bool false)) }]) (.ret)) (.skip))) (.seq
 (.seq (.reg 3 false [ { d := some 5, op := .mov (.c (.int .i64 0)) }]) (.block 0 (.loop (.seq
 (.seq (.reg 4 false [ { d := some 11, op := .mov (.t 5) }, { d := some 12, op := .mov (.t 0) }, { d := some 13, op := .len (.t 12) }, { d := some 14, op := .bin .lss (.t 11) (.t 13) }]) (.cond (.t 14) (.skip) (.exit 0))) (.seq (.block 1
 (.seq (.reg 6 true [ { d := some 17, op := .mov (.t 0), aft := [] }, { d := some 18, op := .mov (.t 5), aft := [] }, { d := some 19, op := .iaddr 2 (.t 17) (.t 18), aft := [0, 1] }, { d := some 20, op := .load true 2 (.t 19), aft := [2] }, { d := some 21, op := .mov (.t 1), aft := [] }, { d := some 22, op := .mov (.t 5), aft := [] }, { d := some 23, op := .iaddr 2 (.t 21) (.t 22), aft := [4, 5] }, { d := some 24, op := .load true 2 (.t 23), aft := [6] }, { d := some 25, op := .eqs true [.i, .i] (.t 20) (.t 24), aft := [3, 7] }]) (.cond (.t 25)
 (.seq (.reg 7 false [ { d := some 4, op := .mov (.c (.bool false)) }]) (.ret)) (.skip)))) (.reg 5 false [ { d := some 15, op := .mov (.t 5) }, { d := some 16, op := .bin .add (.t 15) (.c (.int .i64 1)) }, { d := some 5, op := .mov (.t 16) }]))))))
 (.seq (.reg 8 false [ { d := some 4, op := .mov (.c (.bool true)) }]) (.ret))))
def rr_ref02_SameItems : List RRes := [.t 4]
theorem pc_ref02_SameItems {G : Nat → Option (List AV)} {args : List AV} {v : AV} (hn : args.length ≤ Tryd.f37.ntmps) (h : ∀ R : Run, R.G = G → R.Top → AR Tryd.prog R rc_ref02_SameItems (initSt args) (Fin rr_ref02_SameItems v)) : PC Tryd.prog G 37 args v :=
  PC_of Tryd.func37 rfl (by kernel_rfl) (rc := rc_ref02_SameItems) (by kernel_rfl) (rs := rr_ref02_SameItems) (by kernel_rfl) hn (fun R _ hG hr => h R hG hr)

def rc_ref02_SameIssue : RCode :=
  .seq (.reg 0 false [ { d := some 2, op := .box (.t 0) }, { d := some 3, op := .box (.t 1) }, { d := some 4, op := .mov (.c (.bool false)) }]) (.seq
 (.seq (.reg 1 false [ { d := some 6, op := .faddr 0 (.t 2) }, { d := some 7, op := .load false 1 (.t 6) }, { d := some 8, op := .faddr 0 (.t 3) }, { d := some 9, op := .load false 1 (.t 8) }, { d := some 10, op := .bin .neq (.t 7) (.t 9) }, { d := some 11, op := .mov (.t 10) }, { d := some 12, op := .faddr 1 (.t 2), guard := some (11, false) }, { d := some 13, op := .load false 1 (.t 12), guard := some (11, false) }, { d := some 14, op := .faddr 1 (.t 3), guard := some (11, false) }, { d := some 15, op := .load false 1 (.t 14), guard := some (11, false) }, { d := some 16, op := .bin .neq (.t 13) (.t 15), guard := some (11, false) }, { d := some 17, op := .pick (.t 11) (.c (.bool true)) (.t 16) }, { d := some 18, op := .mov (.t 17) }, { d := some 19, op := .faddr 2 (.t 2), guard := some (18, false) }, { d := some 20, op := .load false 1 (.t 19), guard := some (18, false) }, { d := some 21, op := .faddr 2 (.t 3), guard := some (18, false) }, { d := some 22, op := .load false 1 (.t 21), guard := some (18, false) }, { d := some 23, op := .bin .neq (.t 20) (.t 22), guard := some (18, false) }, { d := some 24, op := .pick (.t 18) (.c (.bool true)) (.t 23) }, { d := some 25, op := .mov (.t 24) }, { d := some 26, op := .faddr 3 (.t 2), guard := some (25, false) }, { d := some 27, op := .load false 1 (.t 26), guard := some (25, false) }, { d := some 28, op := .faddr 3 (.t 3), guard := some (25, false) }, { d := some 29, op := .load false 1 (.t 28), guard := some (25, false) }, { d := some 30, op := .call 37 [.t 27, .t 29], guard := some (25, false) }, { d := some 31, op := .un .not (.t 30), guard := some (25, false) }, { d := some 32, op := .pick (.t 25) (.c (.bool true)) (.t 31) }, { d := some 33, op := .mov (.t 32) }, { d := some 34, op := .faddr 4 (.t 2), guard := some (33, false) }, { d := some 35, op := .load false 1 (.t 34), guard := some (33, false) }, { d := some 36, op := .len (.t 35), guard := some (33, false) }, { d := some 37, op := .faddr 4 (.t 3), guard := some (33, false) }, { d := some 38, op := .load false 1 (.t 37), guard := some (33, false) }, { d := some 39, op := .len (.t 38), guard := some (33, false) }, { d := some 40, op := .bin .neq (.t 36) (.t 39), guard := some (33, false) }, { d := some 41, op := .pick (.t 33) (.c (.bool true)) (.t 40) }]) (.cond (.t 41)
 (.seq (.reg 2 false [ { d := some 4, op := .mov (.c (.bool false)) }]) (.ret)) (.skip))) (.seq
 (.seq (.reg 3 false [ { d := some 5, op := .mov (.c (.int .i64 0)) }]) (.block 0 (.loop (.seq
 (.seq (.reg 4 false [ { d := some 42, op := .mov (.t 5) }, { d := some 43, op := .faddr 4 (.t 2) }, { d := some 44, op := .load false 1 (.t 43) }, { d := some 45, op := .len (.t 44) }, { d := some 46, op := .bin .lss (.t 42) (.t 45) }]) (.cond (.t 46) (.skip) (.exit 0))) (.seq (.block 1
 (.seq (.reg 6 true [ { d := some 49, op := .faddr 4 (.t 2), aft := [] }, { d := some 50, op := .load false 1 (.t 49), aft := [0] }, { d := some 51, op := .mov (.t 5), aft := [] }, { d := some 52, op := .iaddr 3 (.t 50) (.t 51), aft := [1, 2] }, { d := some 53, op := .load true 3 (.t 52), aft := [3] }, { d := some 54, op := .faddr 4 (.t 3), aft := [] }, { d := some 55, op := .load false 1 (.t 54), aft := [5] }, { d := some 56, op := .mov (.t 5), aft := [] }, { d := some 57, op := .iaddr 3 (.t 55) (.t 56), aft := [6, 7] }, { d := some 58, op := .load true 3 (.t 57), aft := [8] }, { d := some 59, op := .eqs true [.i, .i, .i] (.t 53) (.t 58), aft := [4, 9] }]) (.cond (.t 59)
 (.seq (.reg 7 false [ { d := some 4, op := .mov (.c (.bool false)) }]) (.ret)) (.skip)))) (.reg 5 false [ { d := some 47, op := .mov (.t 5) }, { d := some 48, op := .bin .add (.t 47) (.c (.int .i64 1)) }, { d := some 5, op := .mov (.t 48) }]))))))
 (.seq (.reg 8 false [ { d := some 4, op := .mov (.c (.bool true)) }]) (.ret))))
def rr_ref02_SameIssue : List RRes := [.t 4]
theorem pc_ref02_SameIssue {G : Nat → Option (List AV)} {args : List AV} {v : AV} (hn : args.length ≤ Tryd.f31.ntmps) (h : ∀ R : Run, R.G = G → R.Top → AR Tryd.prog R rc_ref02_SameIssue (initSt args) (Fin rr_ref02_SameIssue v)) : PC Tryd.prog G 31 args v :=
  PC_of Tryd.func31 rfl (by kernel_rfl) (rc := rc_ref02_SameIssue) (by kernel_rfl) (rs := rr_ref02_SameIssue) (by kernel_rfl) hn (fun R _ hG hr => h R hG hr)

def rc_ref02_Same : RCode :=
  .seq (.reg 0 false [ { d := some 2, op := .box (.t 0) }, { d := some 3, op := .box (.t 1) }, { d := some 4, op := .mov (.c (.bool false)) }]) (.seq
 (.seq (.reg 1 false [ { d := some 6, op := .faddr 0 (.t 2) }, { d := some 7, op := .load false 1 (.t 6) }, { d := some 8, op := .len (.t 7) }, { d := some 9, op := .faddr 0 (.t 3) }, { d := some 10, op := .load false 1 (.t 9) }, { d := some 11, op := .len (.t 10) }, { d := some 12, op := .bin .neq (.t 8) (.t 11) }]) (.cond (.t 12)
 (.seq (.reg 2 false [ { d := some 4, op := .mov (.c (.bool false)) }]) (.ret)) (.skip))) (.seq
 (.seq (.reg 3 false [ { d := some 5, op := .mov (.c (.int .i64 0)) }]) (.block 0 (.loop (.seq
 (.seq (.reg 4 false [ { d := some 13, op := .mov (.t 5) }, { d := some 14, op := .faddr 0 (.t 2) }, { d := some 15, op := .load false 1 (.t 14) }, { d := some 16, op := .len (.t 15) }, { d := some 17, op := .bin .lss (.t 13) (.t 16) }]) (.cond (.t 17) (.skip) (.exit 0))) (.seq (.block 1
 (.seq (.reg 6 true [ { d := some 20, op := .faddr 0 (.t 2), aft := [] }, { d := some 21, op := .load false 1 (.t 20), aft := [0] }, { d := some 22, op := .mov (.t 5), aft := [] }, { d := some 23, op := .iaddr 5 (.t 21) (.t 22), aft := [1, 2] }, { d := some 24, op := .load true 5 (.t 23), aft := [3] }, { d := some 25, op := .faddr 0 (.t 3), aft := [] }, { d := some 26, op := .load false 1 (.t 25), aft := [5] }, { d := some 27, op := .mov (.t 5), aft := [] }, { d := some 28, op := .iaddr 5 (.t 26) (.t 27), aft := [6, 7] }, { d := some 29, op := .load true 5 (.t 28), aft := [8] }, { d := some 30, op := .call 31 [.t 24, .t 29], aft := [4, 9] }, { d := some 31, op := .un .not (.t 30), aft := [10] }]) (.cond (.t 31)
 (.seq (.reg 7 false [ { d := some 4, op := .mov (.c (.bool false)) }]) (.ret)) (.skip)))) (.reg 5 false [ { d := some 18, op := .mov (.t 5) }, { d := some 19, op := .bin .add (.t 18) (.c (.int .i64 1)) }, { d := some 5, op := .mov (.t 19) }]))))))
 (.seq (.reg 8 false [ { d := some 4, op := .mov (.c (.bool true)) }]) (.ret))))
def rr_ref02_Same : List RRes := [.t 4]
theorem pc_ref02_Same {G : Nat → Option (List AV)} {args : List AV} {v : AV} (hn : args.length ≤ Tryd.f32.ntmps) (h : ∀ R : Run, R.G = G → R.Top → AR Tryd.prog R rc_ref02_Same (initSt args) (Fin rr_ref02_Same v)) : PC Tryd.prog G 32 args v :=
  PC_of Tryd.func32 rfl (by kernel_rfl) (rc := rc_ref02_Same) (by kernel_rfl) (rs := rr_ref02_Same) (by kernel_rfl) hn (fun R _ hG hr => h R hG hr)

def rc_ref02_Great : RCode :=
  .seq (.reg 0 false [ { d := some 1, op := .box (.t 0) }, { d := some 2, op := .mov (.c (.bool false)) }]) (.seq
 (.seq (.reg 1 false [ { d := some 4, op := .faddr 0 (.t 1) }, { d := some 5, op := .load false 1 (.t 4) }, { d := some 6, op := .len (.t 5) }, { d := some 7, op := .bin .gtr (.t 6) (.c (.int .i64 80)) }]) (.cond (.t 7)
 (.seq (.reg 2 false [ { d := some 2, op := .mov (.c (.bool true)) }]) (.ret)) (.skip))) (.seq
 (.seq (.reg 3 false [ { d := some 3, op := .mov (.c (.int .i64 0)) }]) (.block 0 (.loop (.seq
 (.seq (.reg 4 false [ { d := some 8, op := .mov (.t 3) }, { d := some 9, op := .faddr 0 (.t 1) }, { d := some 10, op := .load false 1 (.t 9) }, { d := some 11, op := .len (.t 10) }, { d := some 12, op := .bin .lss (.t 8) (.t 11) }]) (.cond (.t 12) (.skip) (.exit 0))) (.seq (.block 1
 (.seq (.reg 6 false [ { d := some 15, op := .faddr 0 (.t 1) }, { d := some 16, op := .load false 1 (.t 15) }, { d := some 17, op := .mov (.t 3) }, { d := some 18, op := .iaddr 5 (.t 16) (.t 17) }, { d := some 19, op := .faddr 3 (.t 18) }, { d := some 20, op := .load false 1 (.t 19) }, { d := some 21, op := .len (.t 20) }, { d := some 22, op := .bin .gtr (.t 21) (.c (.int .i64 16)) }, { d := some 23, op := .mov (.t 22) }, { d := some 24, op := .faddr 0 (.t 1), guard := some (23, false) }, { d := some 25, op := .load false 1 (.t 24), guard := some (23, false) }, { d := some 26, op := .mov (.t 3), guard := some (23, false) }, { d := some 27, op := .iaddr 5 (.t 25) (.t 26), guard := some (23, false) }, { d := some 28, op := .faddr 4 (.t 27), guard := some (23, false) }, { d := some 29, op := .load false 1 (.t 28), guard := some (23, false) }, { d := some 30, op := .len (.t 29), guard := some (23, false) }, { d := some 31, op := .bin .gtr (.t 30) (.c (.int .i64 8)), guard := some (23, false) }, { d := some 32, op := .pick (.t 23) (.c (.bool true)) (.t 31) }]) (.cond (.t 32)
 (.seq (.reg 7 false [ { d := some 2, op := .mov (.c (.bool true)) }]) (.ret)) (.skip)))) (.reg 5 false [ { d := some 13, op := .mov (.t 3) }, { d := some 14, op := .bin .add (.t 13) (.c (.int .i64 1)) }, { d := some 3, op := .mov (.t 14) }]))))))
 (.seq (.reg 8 false [ { d := some 2, op := .mov (.c (.bool false)) }]) (.ret))))
def rr_ref02_Great : List RRes := [.t 2]
theorem pc_ref02_Great {G : Nat → Option (List AV)} {args : List AV} {v : AV} (hn : args.length ≤ Tryd.f18.ntmps) (h : ∀ R : Run, R.G = G → R.Top → AR Tryd.prog R rc_ref02_Great (initSt args) (Fin rr_ref02_Great v)) : PC Tryd.prog G 18 args v :=
  PC_of Tryd.func18 rfl (by kernel_rfl) (rc := rc_ref02_Great) (by kernel_rfl) (rs := rr_ref02_Great) (by kernel_rfl) hn (fun R _ hG hr => h R hG hr)

end Go.Proofs.YtdpmioiamcgfkaaDoor

/-! Registers as trees; what the reference's small functions compute, by the abstract machine. -/
namespace Go.Proofs.YtdpmioiamcgfkaaDoor
open Go.RowKit

theorem mixed : Tryd.prog.follows .mixedOrders = true := by kernel_rfl
def inR (n lo hi : Int) : Bool := decide (lo ≤ n ∧ n ≤ hi)
theorem wrapI {n : Int} (h0 : -9223372036854775808 ≤ n) (h1 : n ≤ 9223372036854775807) : IntKind.i64.wrap n = n := IntWalk.i64_in _ ⟨h0, h1⟩

/-- A loop that counts. -/
def RndF (S : Nat → St) (I : Nat → Prop) (i : Nat) (Φ : Exit → St → Prop) : Exit → St → Prop
  | .normal, st => Weak st (S (i + 1)) ∧ I (i + 1)
  | e, st => Φ e st
def RndE (Φ : Exit → St → Prop) : Exit → St → Prop
  | .normal, _ => False
  | e, st => Φ e st
section
variable {P : Program} {R : Run} {st : St} {Φ : Exit → St → Prop} {S : Nat → St} {I : Nat → Prop} {i : Nat}
theorem RndF_nor : RndF S I i Φ .normal st = (Weak st (S (i + 1)) ∧ I (i + 1)) := rfl
theorem RndF_ret : RndF S I i Φ .ret st = Φ .ret st := rfl
theorem RndF_exit {j : Nat} : RndF S I i Φ (.exit j) st = Φ (.exit j) st := rfl
theorem RndE_ret : RndE Φ .ret st = Φ .ret st := rfl
theorem RndE_exit {j : Nat} : RndE Φ (.exit j) st = Φ (.exit j) st := rfl
attribute [simp] RndF_nor RndF_ret RndF_exit RndE_ret RndE_exit
theorem AR_for {c : RCode} (S : Nat → St) (I : Nat → Prop) (N : Nat) (h0 : Weak st (S 0)) (hi : I 0) (hr : ∀ i, i < N → I i → AR P R c (S i) (RndF S I i Φ)) (he : I N → AR P R c (S N) (RndE Φ)) : AR P R (.loop c) st Φ := by
  refine AR_loop S (fun i => i ≤ N ∧ I i) (fun i => N - i) 0 h0 ⟨Nat.zero_le _, hi⟩ ?_
  rintro i ⟨h1, h2⟩
  by_cases h3 : i < N
  · refine AR_mono (hr i h3 h2) fun e s hs => ?_
    cases e with
    | normal => exact ⟨i + 1, hs.1, ⟨by omega, hs.2⟩, by show N - (i + 1) < N - i; omega⟩
    | _ => exact hs
  · obtain rfl : i = N := by omega
    refine AR_mono (he h2) fun e s hs => ?_
    cases e with
    | normal => exact hs.elim
    | _ => exact hs
end

/-- An issue: its drawing, its letter, its kind; items (a drawing, a count); sizes. -/
structure Iss where
  d : Int
  l : Int
  k : Int
  its : List (Int × Int)
  dms : List Dm
  deriving DecidableEq, Inhabited

def ia (n : Int) : List AV := [.int .i64 n]
def ita (p : Int × Int) : List AV := [.int .i64 p.1, .int .i64 p.2]
def dma (d : Dm) : List AV := [.int .i64 d.n, .int .i64 d.l, .int .i64 d.u]
def isa (x : Iss) : List AV := [.int .i64 x.d, .int .i64 x.l, .int .u8 x.k, .vsl (x.its.map ita), .vsl (x.dms.map dma)]
def rega (r : List Iss) : AV := .agg [.vsl (r.map isa)]
/-- Lists that a machine can hold. -/
def Sml {α : Type} (l : List α) : Prop := l.length ≤ 16777216

section
variable {G : Nat → Option (List AV)}

theorem within1_pc (n lo hi : Int) : PC Tryd.prog G 136 [.int .i64 n, .int .i64 lo, .int .i64 hi] (.bool (inR n lo hi)) := by
  (refine pc_ref01_within (Nat.le_of_ble_eq_true rfl) fun R hG hrd => GO_AR mixed 1000 ?_; subst hG)
  by_cases h1 : lo ≤ n <;> simp -implicitDefEqProofs [rc_ref01_within, rr_ref01_within, h1, inR]

theorem dim_pc (n l u : Int) : PC Tryd.prog G 126 [.agg [.int .i64 n, .int .i64 l, .int .i64 u]] (.bool (vd ⟨n, l, u⟩)) := by
  (refine pc_ref01_Dim (Nat.le_of_ble_eq_true rfl) fun R hG hrd => GO_AR mixed 1000 ?_; subst hG)
  have e : vd ⟨n, l, u⟩ = (inR n 0 1000000000 && (inR u 0 1000000000 && inR l 0 u)) := by
    unfold vd inR
    rw [← Bool.decide_and, ← Bool.decide_and]
    exact decide_eq_decide.2 (by simp only; omega)
  simp -implicitDefEqProofs [rc_ref01_Dim, rr_ref01_Dim, e]
  (first | refine CallK.of (within1_pc _ _ _) (by simp) ?_ | refine CallD.of (within1_pc _ _ _) (by simp) ?_)
  cases h1 : inR n 0 1000000000
  · simp -implicitDefEqProofs
  · simp -implicitDefEqProofs
    (first | refine CallK.of (within1_pc _ _ _) (by simp) ?_ | refine CallD.of (within1_pc _ _ _) (by simp) ?_)
    cases h2 : inR u 0 1000000000
    · simp -implicitDefEqProofs
    · simp -implicitDefEqProofs
      (first | refine CallK.of (within1_pc _ _ _) (by simp) ?_ | refine CallD.of (within1_pc _ _ _) (by simp) ?_)
      simp -implicitDefEqProofs

theorem within_pc (n lo hi : Int) : PC Tryd.prog G 106 [.int .i64 n, .int .i64 lo, .int .i64 hi] (.bool (inR n lo hi)) := by
  (refine pc_ref02_within (Nat.le_of_ble_eq_true rfl) fun R hG hrd => GO_AR mixed 1000 ?_; subst hG)
  by_cases h1 : lo ≤ n <;> simp -implicitDefEqProofs [rc_ref02_within, rr_ref02_within, h1, inR]

/-- The index of a number; -1 if it is not there. -/
def idx (l : List Int) (n : Int) : Int := if n ∈ l then (l.idxOf n : Int) else -1

theorem idx_at {l : List Int} {n : Int} {i : Nat} (hi : i < l.length) (he : l[i] = n) (hb : ∀ j (h : j < i), l[j] ≠ n) : idx l n = i := by
  have hm : n ∈ l := by rw [← he]; exact List.getElem_mem hi
  rw [idx, if_pos hm]
  have h1 : l.idxOf n < l.length := List.idxOf_lt_length_iff.2 hm
  have h2 : l[l.idxOf n] = n := List.getElem_idxOf h1
  have h3 : ¬ l.idxOf n < i := fun h => hb _ h h2
  have h4 : ¬ i < l.idxOf n := fun h => by
    have := List.not_of_lt_findIdx (p := (· == n)) h
    simp [he] at this
  congr 1; omega
theorem idx_no {l : List Int} {n : Int} (hb : ∀ j (h : j < l.length), l[j] ≠ n) : idx l n = -1 := by
  rw [idx, if_neg]
  intro hm
  obtain ⟨j, h1, h2⟩ := List.getElem_of_mem hm
  exact hb j h1 h2

theorem index_pc (l : List Int) (n : Int) (hl : Sml l) : PC Tryd.prog G 56 [.vsl (l.map ia), .int .i64 n] (.int .i64 (idx l n)) := by
  (refine pc_ref02_Index (Nat.le_of_ble_eq_true rfl) fun R hG hrd => GO_AR mixed 1000 ?_; subst hG)
  simp -implicitDefEqProofs [rc_ref02_Index, rr_ref02_Index]
  refine AR_for (fun i => ⟨[(5, .int .i64 i), (0, .vsl (l.map ia)), (1, .int .i64 n)], []⟩) (fun i => ∀ j (h : j < l.length), j < i → l[j] ≠ n) l.length (by (first | exact Weak.tm (by simp [lk]) | exact Weak.sub (by simp [lk, keptA, AV.keys]) (by simp [lk, keptO, keptA, AV.keys]))) (by simp) ?_ ?_
  · intro i hi he
    refine GO_AR mixed 1000 ?_
    unfold Sml at hl
    have w1 : IntKind.i64.wrap ((i : Int) + 1) = ((i + 1 : Nat) : Int) := wrapI (by omega) (by omega)
    by_cases h2 : l[i] = n
    · simp -implicitDefEqProofs [hi, ia, h2]
      refine GO_ret mixed 1000 ?_
      simp -implicitDefEqProofs [idx_at hi h2 (fun j h => he j (by omega) h)]
    · simp -implicitDefEqProofs [hi, ia, h2, w1]
      refine ⟨(by (first | exact Weak.tm (by simp [lk]) | exact Weak.sub (by simp [lk, keptA, AV.keys]) (by simp [lk, keptO, keptA, AV.keys]))), fun j h1 h3 => ?_⟩
      by_cases e : j = i
      · subst e; exact h2
      · exact he j h1 (by omega)
  · intro he
    refine GO_AR mixed 1000 ?_
    simp -implicitDefEqProofs []
    refine GO_ret mixed 1000 ?_
    simp -implicitDefEqProofs [idx_no (fun j h => he j h h)]

theorem sameInts_pc (a b : List Int) (ha : Sml a) : PC Tryd.prog G 26 [.vsl (a.map ia), .vsl (b.map ia)] (.bool (decide (a = b))) := by
  (refine pc_ref02_SameInts (Nat.le_of_ble_eq_true rfl) fun R hG hrd => GO_AR mixed 1000 ?_; subst hG)
  by_cases hl : a.length = b.length
  · have hl' : (a.length : Int) = b.length := by omega
    simp -implicitDefEqProofs [rc_ref02_SameInts, rr_ref02_SameInts, hl']
    refine AR_for (fun i => ⟨[(5, .int .i64 i), (0, .vsl (a.map ia)), (1, .vsl (b.map ia))], []⟩) (fun i => ∀ j (h : j < a.length), j < i → a[j] = b[j]) a.length (by (first | exact Weak.tm (by simp [lk]) | exact Weak.sub (by simp [lk, keptA, AV.keys]) (by simp [lk, keptO, keptA, AV.keys]))) (by simp) ?_ ?_
    · intro i hi he
      refine GO_AR mixed 1000 ?_
      unfold Sml at ha
      have hi2 : i < b.length := by omega
      have w1 : IntKind.i64.wrap ((i : Int) + 1) = ((i + 1 : Nat) : Int) := wrapI (by omega) (by omega)
      by_cases h2 : a[i] = b[i]
      · simp -implicitDefEqProofs [hi, hi2, ia, h2, w1]
        refine ⟨rfl, (by (first | exact Weak.tm (by simp [lk]) | exact Weak.sub (by simp [lk, keptA, AV.keys]) (by simp [lk, keptO, keptA, AV.keys]))), fun j h1 h3 => ?_⟩
        by_cases e : j = i
        · subst e; exact h2
        · exact he j h1 (by omega)
      · have h3 : ¬ a = b := fun e => h2 (by subst e; rfl)
        simp -implicitDefEqProofs [hi, hi2, ia, h2]
        refine ⟨rfl, ?_⟩
        refine GO_ret mixed 1000 ?_
        simp -implicitDefEqProofs [h3]
    · intro he
      refine GO_AR mixed 1000 ?_
      have h3 : a = b := List.ext_getElem hl fun j h1 h2 => he j h1 h1
      simp -implicitDefEqProofs []
      refine GO_ret mixed 1000 ?_
      simp -implicitDefEqProofs [h3]
  · have hl' : ¬ (a.length : Int) = b.length := by omega
    have h3 : ¬ a = b := fun e => hl (by rw [e])
    simp -implicitDefEqProofs [rc_ref02_SameInts, rr_ref02_SameInts, hl', h3]
end
end Go.Proofs.YtdpmioiamcgfkaaDoor

/-! What the reference's functions on registers compute: the same, twins, numbers, the last letter, an issue. -/
namespace Go.Proofs.YtdpmioiamcgfkaaDoor
open Go.RowKit

/-- An empty list for one that is nil. -/
def nz : AV → AV
  | .nils => .vsl []
  | .agg xs => .agg (xs.attach.map fun ⟨x, _⟩ => nz x)
  | .tup xs => .tup (xs.attach.map fun ⟨x, _⟩ => nz x)
  | x => x
theorem nz_at (xs : List AV) : (xs.attach.map fun ⟨x, _⟩ => nz x) = xs.map nz := by
  have h : (xs.attach.map fun ⟨x, _⟩ => nz x) = (xs.attach.map Subtype.val).map nz := by rw [List.map_map]; rfl
  rw [h, List.attach_map_subtype_val]
theorem nz_agg (xs : List AV) : nz (.agg xs) = .agg (xs.map nz) := by rw [nz, nz_at]
theorem nz_tup (xs : List AV) : nz (.tup xs) = .tup (xs.map nz) := by rw [nz, nz_at]
theorem PV.nz {M : Nat → Prop} {W : World} {x : AV} {v : Value} (h : PV M W x v) : PV M W (nz x) v := by
  induction h with
  | nils => simp only [Go.Proofs.YtdpmioiamcgfkaaDoor.nz]; exact .vsl [] none 0 1 0 0 (fun _ _ => undef) (Nat.le_refl _) (Nat.zero_le _) (fun h => absurd rfl h) (fun _ => ⟨rfl, rfl⟩) (by simp) (by simp) (by simp)
  | agg xs us h1 hx ih =>
    rw [nz_agg]
    refine .agg _ us (by simpa using h1) fun i x u hi hu => ?_
    rw [List.getElem?_map, Option.map_eq_some_iff] at hi
    obtain ⟨y, hy, rfl⟩ := hi
    exact ih i y u hy hu
  | tup xs us h1 hx ih =>
    rw [nz_tup]
    refine .tup _ us (by simpa using h1) fun i x u hi hu => ?_
    rw [List.getElem?_map, Option.map_eq_some_iff] at hi
    obtain ⟨y, hy, rfl⟩ := hi
    exact ih i y u hy hu
  | hole => simp only [Go.Proofs.YtdpmioiamcgfkaaDoor.nz]; exact .hole
  | int k n => simp only [Go.Proofs.YtdpmioiamcgfkaaDoor.nz]; exact .int k n
  | bool b => simp only [Go.Proofs.YtdpmioiamcgfkaaDoor.nz]; exact .bool b
  | abool b => simp only [Go.Proofs.YtdpmioiamcgfkaaDoor.nz]; exact .abool b
  | str s => simp only [Go.Proofs.YtdpmioiamcgfkaaDoor.nz]; exact .str s
  | nilp => simp only [Go.Proofs.YtdpmioiamcgfkaaDoor.nz]; exact .nilp
  | nilm => simp only [Go.Proofs.YtdpmioiamcgfkaaDoor.nz]; exact .nilm
  | nilf => simp only [Go.Proofs.YtdpmioiamcgfkaaDoor.nz]; exact .nilf
  | vptr cells off b o f hb hM hc hr ih => simp only [Go.Proofs.YtdpmioiamcgfkaaDoor.nz]; exact .vptr cells off b o f hb hM hc hr
  | vsl rows a cap sz b o f hcap hmax ha hn hs hc hr ih => simp only [Go.Proofs.YtdpmioiamcgfkaaDoor.nz]; exact .vsl rows a cap sz b o f hcap hmax ha hn hs hc hr
  | func fn xs ys us vs h1 h2 hx hy ihx ihy => simp only [Go.Proofs.YtdpmioiamcgfkaaDoor.nz]; exact .func fn xs ys us vs h1 h2 hx hy
  | vmap kvs b es clock hb hM ho hs hn hk' hv ihk ihv => simp only [Go.Proofs.YtdpmioiamcgfkaaDoor.nz]; exact .vmap kvs b es clock hb hM ho hs hn hk' hv
theorem PC.nzR {P : Program} {G : Nat → Option (List AV)} {f : FuncId} {args : List AV} {v v' : AV} (h : PC P G f args v) (e : nz v = v') : PC P G f args v' := by
  subst e
  refine ⟨h.1, fun M W vs hM hG hs hv => (h.2 M W vs hM hG hs hv).mono ?_⟩
  rintro e W' ⟨u, h1, h2, h3⟩
  exact ⟨u, h1, h2.nz, h3⟩

theorem pair_ne {a b : Int × Int} (h : ¬ a = b) : (!decide (a.1 = b.1) || !decide (a.2 = b.2)) = true := by
  cases h5 : (!decide (a.1 = b.1) || !decide (a.2 = b.2))
  · simp only [Bool.or_eq_false_iff, Bool.not_eq_false', decide_eq_true_eq] at h5
    exact absurd (Prod.ext h5.1 h5.2) h
  · rfl
theorem dm_ne {a b : Dm} (h : ¬ a = b) : (!decide (a.n = b.n) || (!decide (a.l = b.l) || !decide (a.u = b.u))) = true := by
  cases h5 : (!decide (a.n = b.n) || (!decide (a.l = b.l) || !decide (a.u = b.u)))
  · simp only [Bool.or_eq_false_iff, Bool.not_eq_false', decide_eq_true_eq] at h5
    cases a; cases b; simp_all
  · rfl

section
variable {G : Nat → Option (List AV)}

theorem sameItems_pc (a b : List (Int × Int)) (ha : Sml a) : PC Tryd.prog G 37 [.vsl (a.map ita), .vsl (b.map ita)] (.bool (decide (a = b))) := by
  (refine pc_ref02_SameItems (Nat.le_of_ble_eq_true rfl) fun R hG hrd => GO_AR mixed 1000 ?_; subst hG)
  by_cases hl : a.length = b.length
  · have hl' : (a.length : Int) = b.length := by omega
    simp -implicitDefEqProofs [rc_ref02_SameItems, rr_ref02_SameItems, hl']
    refine AR_for (fun i => ⟨[(5, .int .i64 i), (0, .vsl (a.map ita)), (1, .vsl (b.map ita))], []⟩) (fun i => ∀ j (h : j < a.length), j < i → a[j] = b[j]) a.length (by (first | exact Weak.tm (by simp [lk]) | exact Weak.sub (by simp [lk, keptA, AV.keys]) (by simp [lk, keptO, keptA, AV.keys]))) (by simp) ?_ ?_
    · intro i hi he
      refine GO_AR mixed 1000 ?_
      unfold Sml at ha
      have hi2 : i < b.length := by omega
      have w1 : IntKind.i64.wrap ((i : Int) + 1) = ((i + 1 : Nat) : Int) := wrapI (by omega) (by omega)
      simp -implicitDefEqProofs [hi, hi2, ita]
      refine ⟨rfl, ?_⟩
      by_cases h2 : a[i] = b[i]
      · simp -implicitDefEqProofs [h2, w1]
        refine ⟨(by (first | exact Weak.tm (by simp [lk]) | exact Weak.sub (by simp [lk, keptA, AV.keys]) (by simp [lk, keptO, keptA, AV.keys]))), fun j h1 h3 => ?_⟩
        by_cases e : j = i
        · subst e; exact h2
        · exact he j h1 (by omega)
      · have h3 : ¬ a = b := fun e => h2 (by subst e; rfl)
        rw [pair_ne h2]
        simp -implicitDefEqProofs []
        refine GO_ret mixed 1000 ?_
        simp -implicitDefEqProofs [h3]
    · intro he
      refine GO_AR mixed 1000 ?_
      have h3 : a = b := List.ext_getElem hl fun j h1 h2 => he j h1 h1
      simp -implicitDefEqProofs []
      refine GO_ret mixed 1000 ?_
      simp -implicitDefEqProofs [h3]
  · have hl' : ¬ (a.length : Int) = b.length := by omega
    have h3 : ¬ a = b := fun e => hl (by rw [e])
    simp -implicitDefEqProofs [rc_ref02_SameItems, rr_ref02_SameItems, hl', h3]

theorem sameIssue_pc (a b : Iss) (h1 : Sml a.its) (h2 : Sml a.dms) : PC Tryd.prog G 31 [.agg (isa a), .agg (isa b)] (.bool (decide (a = b))) := by
  (refine pc_ref02_SameIssue (Nat.le_of_ble_eq_true rfl) fun R hG hrd => GO_AR mixed 1000 ?_; subst hG)
  by_cases e1 : a.d = b.d
  case neg =>
    have e : ¬ a = b := fun e => e1 (by rw [e])
    simp -implicitDefEqProofs [rc_ref02_SameIssue, rr_ref02_SameIssue, isa, e1, e]
  by_cases e2 : a.l = b.l
  case neg =>
    have e : ¬ a = b := fun e => e2 (by rw [e])
    simp -implicitDefEqProofs [rc_ref02_SameIssue, rr_ref02_SameIssue, isa, e1, e2, e]
  by_cases e3 : a.k = b.k
  case neg =>
    have e : ¬ a = b := fun e => e3 (by rw [e])
    simp -implicitDefEqProofs [rc_ref02_SameIssue, rr_ref02_SameIssue, isa, e1, e2, e3, e]
  simp -implicitDefEqProofs [rc_ref02_SameIssue, rr_ref02_SameIssue, isa, e1, e2, e3]
  (first | refine CallK.of (sameItems_pc a.its b.its h1) (by simp) ?_ | refine CallD.of (sameItems_pc a.its b.its h1) (by simp) ?_)
  by_cases e4 : a.its = b.its
  case neg =>
    have e : ¬ a = b := fun e => e4 (by rw [e])
    simp -implicitDefEqProofs [e4, e]
  by_cases e5 : a.dms.length = b.dms.length
  case neg =>
    have e5' : ¬ (a.dms.length : Int) = b.dms.length := by omega
    have e : ¬ a = b := fun e => e5 (by rw [e])
    simp -implicitDefEqProofs [e4, e5', e]
  have e5' : (a.dms.length : Int) = b.dms.length := by omega
  simp -implicitDefEqProofs [e4, e5']
  refine AR_for (fun i => ⟨[(5, .int .i64 i), (2, .ptr 2 0), (3, .ptr 3 0)], [(2, .box (isa a)), (3, .box (isa b))]⟩) (fun i => ∀ j (h : j < a.dms.length), j < i → a.dms[j] = b.dms[j]) a.dms.length (by (first | exact Weak.tm (by simp [lk, isa, e1, e2, e3, e4]) | exact Weak.sub (by simp [lk, keptA, AV.keys, isa, e1, e2, e3, e4]) (by simp [lk, keptO, keptA, AV.keys, isa, e1, e2, e3, e4]))) (by simp) ?_ ?_
  · intro i hi he
    refine GO_AR mixed 1000 ?_
    unfold Sml at h2
    have hi2 : i < b.dms.length := by omega
    have w1 : IntKind.i64.wrap ((i : Int) + 1) = ((i + 1 : Nat) : Int) := wrapI (by omega) (by omega)
    simp -implicitDefEqProofs [hi, hi2, isa, dma]
    refine ⟨rfl, ?_⟩
    by_cases h2 : a.dms[i] = b.dms[i]
    · simp -implicitDefEqProofs [h2, w1]
      refine ⟨(by (first | exact Weak.tm (by simp [lk, isa, dma]) | exact Weak.sub (by simp [lk, keptA, AV.keys, isa, dma]) (by simp [lk, keptO, keptA, AV.keys, isa, dma]))), fun j h1 h3 => ?_⟩
      by_cases e : j = i
      · subst e; exact h2
      · exact he j h1 (by omega)
    · have h3 : ¬ a = b := fun e => h2 (by subst e; rfl)
      rw [dm_ne h2]
      simp -implicitDefEqProofs []
      refine GO_ret mixed 1000 ?_
      simp -implicitDefEqProofs [h3]
  · intro he
    refine GO_AR mixed 1000 ?_
    have h3 : a.dms = b.dms := List.ext_getElem e5 fun j h1 h2 => he j h1 h1
    have h4 : a = b := by cases a; cases b; simp_all
    simp -implicitDefEqProofs [isa]
    refine GO_ret mixed 1000 ?_
    simp -implicitDefEqProofs [h4]

/-- All lists of a register are such that a machine can hold them. -/
def SmlR (r : List Iss) : Prop := Sml r ∧ ∀ x ∈ r, Sml x.its ∧ Sml x.dms

theorem same_pc (a b : List Iss) (ha : SmlR a) : PC Tryd.prog G 32 [rega a, rega b] (.bool (decide (a = b))) := by
  (refine pc_ref02_Same (Nat.le_of_ble_eq_true rfl) fun R hG hrd => GO_AR mixed 1000 ?_; subst hG)
  by_cases hl : a.length = b.length
  · have hl' : (a.length : Int) = b.length := by omega
    simp -implicitDefEqProofs [rc_ref02_Same, rr_ref02_Same, hl', rega]
    refine AR_for (fun i => ⟨[(5, .int .i64 i), (2, .ptr 2 0), (3, .ptr 3 0)], [(2, .box [.vsl (a.map isa)]), (3, .box [.vsl (b.map isa)])]⟩) (fun i => ∀ j (h : j < a.length), j < i → a[j] = b[j]) a.length (by (first | exact Weak.tm (by simp [lk]) | exact Weak.sub (by simp [lk, keptA, AV.keys]) (by simp [lk, keptO, keptA, AV.keys]))) (by simp) ?_ ?_
    · intro i hi he
      refine GO_AR mixed 1000 ?_
      have hs := ha.1
      unfold Sml at hs
      have hi2 : i < b.length := by omega
      have w1 : IntKind.i64.wrap ((i : Int) + 1) = ((i + 1 : Nat) : Int) := wrapI (by omega) (by omega)
      have hx := ha.2 a[i] (List.getElem_mem hi)
      simp -implicitDefEqProofs [hi, hi2, isa]
      (first | refine CallK.of (sameIssue_pc a[i] b[i] hx.1 hx.2) (by simp) ?_ | refine CallD.of (sameIssue_pc a[i] b[i] hx.1 hx.2) (by simp) ?_)
      simp -implicitDefEqProofs []
      refine ⟨rfl, ?_⟩
      by_cases h2 : a[i] = b[i]
      · simp -implicitDefEqProofs [h2, w1]
        refine ⟨(by (first | exact Weak.tm (by simp [lk]) | exact Weak.sub (by simp [lk, keptA, AV.keys]) (by simp [lk, keptO, keptA, AV.keys]))), fun j h1 h3 => ?_⟩
        by_cases e : j = i
        · subst e; exact h2
        · exact he j h1 (by omega)
      · have h3 : ¬ a = b := fun e => h2 (by subst e; rfl)
        simp -implicitDefEqProofs [h2]
        refine GO_ret mixed 1000 ?_
        simp -implicitDefEqProofs [h3]
    · intro he
      refine GO_AR mixed 1000 ?_
      have h3 : a = b := List.ext_getElem hl fun j h1 h2 => he j h1 h1
      simp -implicitDefEqProofs []
      refine GO_ret mixed 1000 ?_
      simp -implicitDefEqProofs [h3]
  · have hl' : ¬ (a.length : Int) = b.length := by omega
    have h3 : ¬ a = b := fun e => hl (by rw [e])
    simp -implicitDefEqProofs [rc_ref02_Same, rr_ref02_Same, hl', h3, rega]

end
end Go.Proofs.YtdpmioiamcgfkaaDoor

/-! What the reference's functions on registers compute: twins, great ones, numbers, the last letter, an issue. -/
namespace Go.Proofs.YtdpmioiamcgfkaaDoor
open Go.RowKit

/-- An issue at a place. -/
def at' (r : List Iss) (i : Nat) : Iss := r.getD i default
theorem at_eq {r : List Iss} {i : Nat} (h : i < r.length) : at' r i = r[i] := by simp [at', List.getD, h]

/-- The drawings' numbers. -/
def newB (r : List Iss) (i : Nat) : Bool := i == 0 || !decide ((at' r (i - 1)).d = (at' r i).d)
def numsN (r : List Iss) : Nat → List Int
  | 0 => []
  | i + 1 => if newB r i = true then numsN r i ++ [(at' r i).d] else numsN r i
def nums (r : List Iss) : List Int := numsN r r.length
theorem numsN_len (r : List Iss) : ∀ i, (numsN r i).length ≤ i
  | 0 => by simp [numsN]
  | i + 1 => by
    have := numsN_len r i
    simp only [numsN]
    split
    · simp; omega
    · omega
/-- The greatest letter. -/
def lastN (r : List Iss) (n : Int) : Nat → Int
  | 0 => 0
  | i + 1 => if (at' r i).d = n then max (lastN r n i) (at' r i).l else lastN r n i
def lastV (r : List Iss) (n : Int) : Int := lastN r n r.length

/-- An issue by its name. -/
def findN (d l : Int) : List Iss → Option Iss
  | [] => none
  | x :: r => if x.d = d ∧ x.l = l then some x else findN d l r
def noIs : AV := .agg [.int .i64 0, .int .i64 0, .int .u8 0, .nils, .nils]
def fndA : Option Iss → AV
  | some x => .tup [.agg (isa x), .bool true]
  | none => .tup [noIs, .bool false]

/-- Larger than the statements consider. -/
def greatB (r : List Iss) : Bool := decide (80 < r.length) || r.any fun x => decide (16 < x.its.length) || decide (8 < x.dms.length)

theorem findN_at {d l : Int} : ∀ {r : List Iss} {i : Nat} (h : i < r.length), r[i].d = d → r[i].l = l → (∀ j (h : j < r.length), j < i → ¬ (r[j].d = d ∧ r[j].l = l)) → findN d l r = some r[i]
  | x :: r, 0, h, h1, h2, _ => by simp only [findN]; rw [if_pos ⟨h1, h2⟩]; rfl
  | x :: r, i + 1, h, h1, h2, hb => by
    simp only [findN]
    rw [if_neg (show ¬ (x.d = d ∧ x.l = l) from hb 0 (by simp) (by omega))]
    exact findN_at (by simpa using h) h1 h2 fun j hj hi => hb (j + 1) (by simpa using hj) (by omega)
section
variable {G : Nat → Option (List AV)}

theorem great_pc (r : List Iss) (h : Sml r) : PC Tryd.prog G 18 [rega r] (.bool (greatB r)) := by
  (refine pc_ref02_Great (Nat.le_of_ble_eq_true rfl) fun R hG hrd => GO_AR mixed 1000 ?_; subst hG)
  unfold Sml at h
  by_cases h1 : 80 < r.length
  · have h1' : (80 : Int) < r.length := by omega
    simp -implicitDefEqProofs [rc_ref02_Great, rr_ref02_Great, rega, h1', greatB, h1]
  have h1' : ¬ (80 : Int) < r.length := by omega
  simp -implicitDefEqProofs [rc_ref02_Great, rr_ref02_Great, rega, h1']
  refine AR_for (fun i => ⟨[(3, .int .i64 i), (1, .ptr 1 0)], [(1, .box [.vsl (r.map isa)])]⟩) (fun i => ∀ j (h : j < r.length), j < i → r[j].its.length ≤ 16 ∧ r[j].dms.length ≤ 8) r.length (by (first | exact Weak.tm (by simp [lk]) | exact Weak.sub (by simp [lk, keptA, AV.keys]) (by simp [lk, keptO, keptA, AV.keys]))) (by simp) ?_ ?_
  · intro i hi he
    refine GO_AR mixed 1000 ?_
    have w1 : IntKind.i64.wrap ((i : Int) + 1) = ((i + 1 : Nat) : Int) := wrapI (by omega) (by omega)
    have bad : (16 < r[i].its.length ∨ 8 < r[i].dms.length) → greatB r = true := fun hb => by
      simp only [greatB, Bool.or_eq_true, List.any_eq_true, decide_eq_true_eq]
      exact .inr ⟨r[i], List.getElem_mem hi, hb⟩
    by_cases h2 : 16 < r[i].its.length
    · have h2' : (16 : Int) < r[i].its.length := by omega
      simp -implicitDefEqProofs [hi, isa, h2']
      refine GO_ret mixed 1000 ?_
      simp -implicitDefEqProofs [bad (.inl h2)]
    have h2' : ¬ (16 : Int) < r[i].its.length := by omega
    by_cases h3 : 8 < r[i].dms.length
    · have h3' : (8 : Int) < r[i].dms.length := by omega
      simp -implicitDefEqProofs [hi, isa, h2', h3']
      refine GO_ret mixed 1000 ?_
      simp -implicitDefEqProofs [bad (.inr h3)]
    have h3' : ¬ (8 : Int) < r[i].dms.length := by omega
    simp -implicitDefEqProofs [hi, isa, h2', h3', w1]
    refine ⟨(by (first | exact Weak.tm (by simp [lk]) | exact Weak.sub (by simp [lk, keptA, AV.keys]) (by simp [lk, keptO, keptA, AV.keys]))), fun j q1 q3 => ?_⟩
    by_cases e : j = i
    · subst e; exact ⟨by omega, by omega⟩
    · exact he j q1 (by omega)
  · intro he
    refine GO_AR mixed 1000 ?_
    have hg : greatB r = false := by
      simp only [greatB, Bool.or_eq_false_iff, decide_eq_false_iff_not, h1, not_false_eq_true, true_and, List.any_eq_false, Bool.not_eq_true, Bool.or_eq_true, decide_eq_true_eq]
      intro x hx
      obtain ⟨j, hj, rfl⟩ := List.getElem_of_mem hx
      have := he j hj hj
      omega
    simp -implicitDefEqProofs []
    refine GO_ret mixed 1000 ?_
    simp -implicitDefEqProofs [hg]

theorem lastOf_pc (r : List Iss) (n : Int) (h : Sml r) : PC Tryd.prog G 59 [rega r, .int .i64 n] (.int .i64 (lastV r n)) := by
  (refine pc_ref02_LastOf (Nat.le_of_ble_eq_true rfl) fun R hG hrd => GO_AR mixed 1000 ?_; subst hG)
  unfold Sml at h
  simp -implicitDefEqProofs [rc_ref02_LastOf, rr_ref02_LastOf, rega]
  refine AR_for (fun i => ⟨[(6, .int .i64 i), (5, .int .i64 (lastN r n i)), (2, .ptr 2 0), (1, .int .i64 n)], [(2, .box [.vsl (r.map isa)])]⟩) (fun _ => True) r.length (by (first | exact Weak.tm (by simp [lk, lastN]) | exact Weak.sub (by simp [lk, keptA, AV.keys, lastN]) (by simp [lk, keptO, keptA, AV.keys, lastN]))) trivial ?_ ?_
  · intro i hi he
    refine GO_AR mixed 1000 ?_
    have w1 : IntKind.i64.wrap ((i : Int) + 1) = ((i + 1 : Nat) : Int) := wrapI (by omega) (by omega)
    have e1 := at_eq hi
    by_cases h2 : r[i].d = n
    · simp -implicitDefEqProofs [hi, isa, h2, w1]
      exact Weak.sub (by simp [lk, keptA, AV.keys, lastN, e1, h2]) (by simp [lk, keptO, keptA, AV.keys])
    · simp -implicitDefEqProofs [hi, isa, h2, w1]
      exact Weak.sub (by simp [lk, keptA, AV.keys, lastN, e1, h2]) (by simp [lk, keptO, keptA, AV.keys])
  · intro he
    refine GO_AR mixed 1000 ?_
    simp -implicitDefEqProofs []
    refine GO_ret mixed 1000 ?_
    simp -implicitDefEqProofs [lastV]

end
end Go.Proofs.YtdpmioiamcgfkaaDoor

/-! What the reference's functions on registers compute: numbers, a valid issue. -/
namespace Go.Proofs.YtdpmioiamcgfkaaDoor
open Go.RowKit

/-- The item at a place is right. -/
def itAt (x : Iss) (i : Nat) : Int × Int := x.its.getD i (0, 0)
def itOk (x : Iss) (i : Nat) : Bool := inR (itAt x i).1 1 9999 && inR (itAt x i).2 1 20 && !decide ((itAt x i).1 = x.d) && (i == 0 || decide ((itAt x (i - 1)).1 < (itAt x i).1))
def headB (x : Iss) : Bool := inR x.d 1 9999 && inR x.l 1 8 && inR x.k 1 3 && (if x.k = 1 then inR x.its.length 1 8 && decide (x.dms.length = 0) else decide (x.dms.length ≤ 4) && decide (x.its.length = 0))
/-- An issue that is valid by itself. -/
def issB (x : Iss) : Bool := headB x && (List.range x.its.length).all (itOk x) && x.dms.all vd

theorem range_all {n : Nat} {p : Nat → Bool} : (List.range n).all p = true ↔ ∀ j, j < n → p j = true := by simp [List.all_eq_true]

section
variable {G : Nat → Option (List AV)}

def nuS (r : List Iss) : Nat → St
  | 0 => ⟨[(4, .int .i64 0), (3, .nils), (1, .ptr 1 0)], [(1, .box [.vsl (r.map isa)])]⟩
  | i + 1 => ⟨[(4, .int .i64 (i + 1 : Nat)), (3, .osl 35 (numsN r (i + 1)).length), (1, .ptr 1 0)], [(1, .box [.vsl (r.map isa)]), (35, .row 1 ((numsN r (i + 1)).map ia))]⟩

theorem numbers_pc (r : List Iss) (h : Sml r) (h0 : r ≠ []) : PC Tryd.prog G 55 [rega r] (.vsl ((nums r).map ia)) := by
  (refine pc_ref02_Numbers (Nat.le_of_ble_eq_true rfl) fun R hG hrd => GO_AR mixed 1000 ?_; subst hG)
  unfold Sml at h
  simp -implicitDefEqProofs [rc_ref02_Numbers, rr_ref02_Numbers, rega]
  refine AR_for (nuS r) (fun _ => True) r.length (by simp only [nuS]; (first | exact Weak.tm (by simp [lk]) | exact Weak.sub (by simp [lk, keptA, AV.keys]) (by simp [lk, keptO, keptA, AV.keys]))) trivial ?_ ?_
  · intro i hi he
    refine GO_AR mixed 1000 ?_
    have e1 := at_eq hi
    cases i with
    | zero =>
      have hn : numsN r 1 = [r[0].d] := by simp [numsN, newB, e1]
      have w1 : IntKind.i64.wrap 1 = 1 := rfl
      simp -implicitDefEqProofs [nuS, hi, isa, w1]
      exact Weak.sub (by simp [lk, keptA, AV.keys, hn]) (by simp [lk, keptO, keptA, AV.keys, hn, ia])
    | succ i =>
      have w1 : IntKind.i64.wrap ((i : Int) + 1 + 1) = (i : Int) + 1 + 1 := wrapI (by omega) (by omega)
      have w2 : IntKind.i64.wrap (i : Int) = (i : Int) := wrapI (by omega) (by omega)
      have k1 : (i : Int) + 1 < r.length := by omega
      have k2 : ((i : Int) + 1).toNat = i + 1 := by omega
      have k3 : (0 : Int) ≤ (i : Int) + 1 := by omega
      have k4 : ¬ (i : Int) + 1 = 0 := by omega
      have hi2 : i < r.length := by omega
      have e2 := at_eq hi2
      have b1 := numsN_len r (i + 1)
      have b2 : ((numsN r (i + 1)).length + 1) * 8 ≤ 70368744177664 := by omega
      by_cases h2 : r[i].d = r[i + 1].d
      · have hn : numsN r (i + 1 + 1) = numsN r (i + 1) := by rw [numsN]; simp [newB, e1, e2, h2]
        simp -implicitDefEqProofs [nuS, hi, hi2, k1, k2, k3, k4, isa, w1, w2, h2]
        exact Weak.sub (by simp [lk, keptA, AV.keys, hn]) (by simp [lk, keptO, keptA, AV.keys, hn, ia])
      · have hn : numsN r (i + 1 + 1) = numsN r (i + 1) ++ [r[i + 1].d] := by rw [numsN]; simp [newB, e1, e2, h2]
        simp -implicitDefEqProofs [nuS, hi, hi2, k1, k2, k3, k4, isa, w1, w2, h2, b2]
        exact Weak.sub (by simp [lk, keptA, AV.keys, hn]) (by simp [lk, keptO, keptA, AV.keys, hn, ia])
  · intro he
    refine GO_AR mixed 1000 ?_
    obtain ⟨n, hn⟩ : ∃ n, r.length = n + 1 := ⟨r.length - 1, by
      have : r.length ≠ 0 := by simpa using h0
      omega⟩
    have e : numsN r (n + 1) = nums r := by rw [nums, hn]
    have pu : ((nums r).map ia).all (fun x => x.all AV.pure) = true := by simp [ia, AV.pure]
    rw [hn]
    have k1 : ¬ (n : Int) + 1 < n + 1 := by omega
    simp -implicitDefEqProofs [nuS, e, hn, k1]
    refine GO_ret mixed 1000 ?_
    simp -implicitDefEqProofs [pu]

theorem issue_pc (x : Iss) (h1 : Sml x.its) (h2 : Sml x.dms) (hk : 0 ≤ x.k ∧ x.k ≤ 255) : PC Tryd.prog G 107 [.agg (isa x)] (.bool (issB x)) := by
  (refine pc_ref02_Issue (Nat.le_of_ble_eq_true rfl) fun R hG hrd => GO_AR mixed 1000 ?_; subst hG)
  unfold Sml at h1 h2
  have wk : IntKind.i64.wrap x.k = x.k := wrapI (by omega) (by omega)
  have bad : headB x = false → issB x = false := fun e => by simp [issB, e]
  simp -implicitDefEqProofs [rc_ref02_Issue, rr_ref02_Issue, isa]
  (first | refine CallK.of (within_pc _ _ _) (by simp) ?_ | refine CallD.of (within_pc _ _ _) (by simp) ?_)
  cases q1 : inR x.d 1 9999
  · simp -implicitDefEqProofs [bad (by simp [headB, q1])]
  simp -implicitDefEqProofs []
  (first | refine CallK.of (within_pc _ _ _) (by simp) ?_ | refine CallD.of (within_pc _ _ _) (by simp) ?_)
  cases q2 : inR x.l 1 8
  · simp -implicitDefEqProofs [bad (by simp [headB, q2])]
  simp -implicitDefEqProofs [wk]
  (first | refine CallK.of (within_pc _ _ _) (by simp) ?_ | refine CallD.of (within_pc _ _ _) (by simp) ?_)
  cases q3 : inR x.k 1 3
  · simp -implicitDefEqProofs [bad (by simp [headB, q3])]
  have q3' : 1 ≤ x.k ∧ x.k ≤ 3 := of_decide_eq_true q3
  by_cases c1 : x.k = 1
  · simp -implicitDefEqProofs [c1]
    (first | refine CallK.of (within_pc _ _ _) (by simp) ?_ | refine CallD.of (within_pc _ _ _) (by simp) ?_)
    cases q4 : inR x.its.length 1 8
    · simp -implicitDefEqProofs [bad (by simp [headB, q4, c1])]
    have n1 : ¬ (1 : Int) < 1 := by omega
    by_cases q5 : x.dms.length = 0
    · have q5n : ¬ 0 < x.dms.length := by omega
      have hB : headB x = true := by simp [headB, q1, q2, c1, q4, q5]; rfl
      simp -implicitDefEqProofs [q5n, q5]
      refine AR_for (fun i => ⟨[(3, .int .i64 i), (1, .ptr 1 0)], [(1, .box (isa x))]⟩) (fun i => ∀ j, j < i → itOk x j = true) x.its.length (by (first | exact Weak.tm (by simp [lk, isa, c1]) | exact Weak.sub (by simp [lk, keptA, AV.keys, isa, c1]) (by simp [lk, keptO, keptA, AV.keys, isa, c1]))) (by simp) ?_ ?_
      · intro i hi he
        refine GO_AR mixed 1000 ?_
        have w1 : IntKind.i64.wrap ((i : Int) + 1) = ((i + 1 : Nat) : Int) := wrapI (by omega) (by omega)
        have a1 : itAt x i = x.its[i] := by simp [itAt, List.getD, hi]
        have no : itOk x i = false → issB x = false := fun e => by
          cases hI : issB x
          · rfl
          · simp only [issB, Bool.and_eq_true] at hI
            rw [range_all.1 hI.1.2 i hi] at e; cases e
        simp -implicitDefEqProofs [hi, isa, ita]
        (first | refine CallK.of (within_pc _ _ _) (by simp) ?_ | refine CallD.of (within_pc _ _ _) (by simp) ?_)
        cases p1 : inR x.its[i].1 1 9999
        · simp -implicitDefEqProofs []
          refine ⟨rfl, ?_⟩
          refine GO_ret mixed 1000 ?_
          simp -implicitDefEqProofs [no (by simp [itOk, a1, p1])]
        simp -implicitDefEqProofs []
        (first | refine CallK.of (within_pc _ _ _) (by simp) ?_ | refine CallD.of (within_pc _ _ _) (by simp) ?_)
        cases p2 : inR x.its[i].2 1 20
        · simp -implicitDefEqProofs []
          refine ⟨rfl, ?_⟩
          refine GO_ret mixed 1000 ?_
          simp -implicitDefEqProofs [no (by simp [itOk, a1, p2])]
        by_cases p3 : x.its[i].1 = x.d
        · simp -implicitDefEqProofs [p3]
          refine ⟨rfl, ?_⟩
          refine GO_ret mixed 1000 ?_
          simp -implicitDefEqProofs [no (by simp [itOk, a1, p3])]
        cases i with
        | zero =>
          have ok : itOk x 0 = true := by simp [itOk, a1, p1, p2, p3]
          have w0 : IntKind.i64.wrap 1 = 1 := rfl
          simp -implicitDefEqProofs [p3, w0]
          exact ⟨rfl, (by (first | exact Weak.tm (by simp [lk, isa]) | exact Weak.sub (by simp [lk, keptA, AV.keys, isa]) (by simp [lk, keptO, keptA, AV.keys, isa]))), ok⟩
        | succ i =>
          have w2 : IntKind.i64.wrap (i : Int) = (i : Int) := wrapI (by omega) (by omega)
          have w3 : IntKind.i64.wrap ((i : Int) + 1 + 1) = (i : Int) + 1 + 1 := wrapI (by omega) (by omega)
          have k3 : (0 : Int) < (i : Int) + 1 := by omega
          have hi2 : i < x.its.length := by omega
          have a2 : itAt x i = x.its[i] := by simp [itAt, List.getD, hi2]
          by_cases p4 : x.its[i + 1].1 ≤ x.its[i].1
          · simp -implicitDefEqProofs [p3, k3, w2, hi2, ita, p4]
            refine ⟨rfl, ?_⟩
            refine GO_ret mixed 1000 ?_
            simp -implicitDefEqProofs [no (by simp [itOk, a1, a2, p4])]
          · have ok : itOk x (i + 1) = true := by simp [itOk, a1, a2, p1, p2, p3]; omega
            simp -implicitDefEqProofs [p3, k3, w2, w3, hi2, ita, p4]
            refine ⟨rfl, (by (first | exact Weak.tm (by simp [lk, isa]) | exact Weak.sub (by simp [lk, keptA, AV.keys, isa]) (by simp [lk, keptO, keptA, AV.keys, isa]))), fun j hj => ?_⟩
            by_cases e : j = i + 1
            · subst e; exact ok
            · exact he j (by omega)
      · intro he
        refine GO_AR mixed 1000 ?_
        have hI : (List.range x.its.length).all (itOk x) = true := range_all.2 he
        simp -implicitDefEqProofs [isa]
        refine GO_ret mixed 1000 ?_
        simp -implicitDefEqProofs []
        refine AR_for (fun i => ⟨[(5, .int .i64 i), (1, .ptr 1 0)], [(1, .box (isa x))]⟩) (fun i => ∀ j (h : j < x.dms.length), j < i → vd x.dms[j] = true) x.dms.length (by (first | exact Weak.tm (by simp [lk, isa]) | exact Weak.sub (by simp [lk, keptA, AV.keys, isa]) (by simp [lk, keptO, keptA, AV.keys, isa]))) (by simp) ?_ ?_
        · intro i hi he
          refine GO_AR mixed 1000 ?_
          have w1 : IntKind.i64.wrap ((i : Int) + 1) = ((i + 1 : Nat) : Int) := wrapI (by omega) (by omega)
          simp -implicitDefEqProofs [hi, isa, dma]
          (first | refine CallK.of (dim_pc _ _ _) (by simp) ?_ | refine CallD.of (dim_pc _ _ _) (by simp) ?_)
          cases p1 : vd x.dms[i]
          · have hn : issB x = false := by
              cases hI2 : issB x
              · rfl
              · simp only [issB, Bool.and_eq_true] at hI2
                rw [List.all_eq_true.1 hI2.2 _ (List.getElem_mem hi)] at p1; cases p1
            have p1' : vd ⟨x.dms[i].n, x.dms[i].l, x.dms[i].u⟩ = false := p1
            simp -implicitDefEqProofs [p1']
            refine GO_ret mixed 1000 ?_
            simp -implicitDefEqProofs [hn]
          · have p1' : vd ⟨x.dms[i].n, x.dms[i].l, x.dms[i].u⟩ = true := p1
            simp -implicitDefEqProofs [p1', w1]
            refine ⟨(by (first | exact Weak.tm (by simp [lk, isa]) | exact Weak.sub (by simp [lk, keptA, AV.keys, isa]) (by simp [lk, keptO, keptA, AV.keys, isa]))), fun j h1 hj => ?_⟩
            by_cases e : j = i
            · subst e; exact p1
            · exact he j h1 (by omega)
        · intro hd
          refine GO_AR mixed 1000 ?_
          have hD : x.dms.all vd = true := List.all_eq_true.2 fun y hy => by
            obtain ⟨j, hj, rfl⟩ := List.getElem_of_mem hy
            exact hd j hj hj
          have hT : issB x = true := by simp [issB, hB, hI, hD]
          simp -implicitDefEqProofs [isa]
          refine GO_ret mixed 1000 ?_
          simp -implicitDefEqProofs [hT]
    · have q5n : 0 < x.dms.length := by omega
      simp -implicitDefEqProofs [q5n, bad (by simp [headB, q5, c1])]
  · have c2 : 1 < x.k := by omega
    by_cases q4 : x.dms.length ≤ 4
    case neg =>
      have q4n : 4 < x.dms.length := by omega
      have q4i : (4 : Int) < x.dms.length := by omega
      simp -implicitDefEqProofs [c1, c2, q4n, q4i, bad (by simp [headB, q4, c1])]
    have q4n : ¬ 4 < x.dms.length := by omega
    have q4i : ¬ (4 : Int) < x.dms.length := by omega
    by_cases q5 : x.its.length = 0
    · have q5n : ¬ 0 < x.its.length := by omega
      have hB : headB x = true := by simp [headB, q1, q2, q3, c1, q4, q5]
      simp -implicitDefEqProofs [c1, c2, q4n, q4i, q5n, q5]
      refine AR_for (fun i => ⟨[(3, .int .i64 i), (1, .ptr 1 0)], [(1, .box (isa x))]⟩) (fun i => ∀ j, j < i → itOk x j = true) x.its.length (by (first | exact Weak.tm (by simp [lk, isa, c1]) | exact Weak.sub (by simp [lk, keptA, AV.keys, isa, c1]) (by simp [lk, keptO, keptA, AV.keys, isa, c1]))) (by simp) ?_ ?_
      · intro i hi he
        refine GO_AR mixed 1000 ?_
        have w1 : IntKind.i64.wrap ((i : Int) + 1) = ((i + 1 : Nat) : Int) := wrapI (by omega) (by omega)
        have a1 : itAt x i = x.its[i] := by simp [itAt, List.getD, hi]
        have no : itOk x i = false → issB x = false := fun e => by
          cases hI : issB x
          · rfl
          · simp only [issB, Bool.and_eq_true] at hI
            rw [range_all.1 hI.1.2 i hi] at e; cases e
        simp -implicitDefEqProofs [hi, isa, ita]
        (first | refine CallK.of (within_pc _ _ _) (by simp) ?_ | refine CallD.of (within_pc _ _ _) (by simp) ?_)
        cases p1 : inR x.its[i].1 1 9999
        · simp -implicitDefEqProofs []
          refine ⟨rfl, ?_⟩
          refine GO_ret mixed 1000 ?_
          simp -implicitDefEqProofs [no (by simp [itOk, a1, p1])]
        simp -implicitDefEqProofs []
        (first | refine CallK.of (within_pc _ _ _) (by simp) ?_ | refine CallD.of (within_pc _ _ _) (by simp) ?_)
        cases p2 : inR x.its[i].2 1 20
        · simp -implicitDefEqProofs []
          refine ⟨rfl, ?_⟩
          refine GO_ret mixed 1000 ?_
          simp -implicitDefEqProofs [no (by simp [itOk, a1, p2])]
        by_cases p3 : x.its[i].1 = x.d
        · simp -implicitDefEqProofs [p3]
          refine ⟨rfl, ?_⟩
          refine GO_ret mixed 1000 ?_
          simp -implicitDefEqProofs [no (by simp [itOk, a1, p3])]
        cases i with
        | zero =>
          have ok : itOk x 0 = true := by simp [itOk, a1, p1, p2, p3]
          have w0 : IntKind.i64.wrap 1 = 1 := rfl
          simp -implicitDefEqProofs [p3, w0]
          exact ⟨rfl, (by (first | exact Weak.tm (by simp [lk, isa]) | exact Weak.sub (by simp [lk, keptA, AV.keys, isa]) (by simp [lk, keptO, keptA, AV.keys, isa]))), ok⟩
        | succ i =>
          have w2 : IntKind.i64.wrap (i : Int) = (i : Int) := wrapI (by omega) (by omega)
          have w3 : IntKind.i64.wrap ((i : Int) + 1 + 1) = (i : Int) + 1 + 1 := wrapI (by omega) (by omega)
          have k3 : (0 : Int) < (i : Int) + 1 := by omega
          have hi2 : i < x.its.length := by omega
          have a2 : itAt x i = x.its[i] := by simp [itAt, List.getD, hi2]
          by_cases p4 : x.its[i + 1].1 ≤ x.its[i].1
          · simp -implicitDefEqProofs [p3, k3, w2, hi2, ita, p4]
            refine ⟨rfl, ?_⟩
            refine GO_ret mixed 1000 ?_
            simp -implicitDefEqProofs [no (by simp [itOk, a1, a2, p4])]
          · have ok : itOk x (i + 1) = true := by simp [itOk, a1, a2, p1, p2, p3]; omega
            simp -implicitDefEqProofs [p3, k3, w2, w3, hi2, ita, p4]
            refine ⟨rfl, (by (first | exact Weak.tm (by simp [lk, isa]) | exact Weak.sub (by simp [lk, keptA, AV.keys, isa]) (by simp [lk, keptO, keptA, AV.keys, isa]))), fun j hj => ?_⟩
            by_cases e : j = i + 1
            · subst e; exact ok
            · exact he j (by omega)
      · intro he
        refine GO_AR mixed 1000 ?_
        have hI : (List.range x.its.length).all (itOk x) = true := range_all.2 he
        simp -implicitDefEqProofs [isa]
        refine GO_ret mixed 1000 ?_
        simp -implicitDefEqProofs []
        refine AR_for (fun i => ⟨[(5, .int .i64 i), (1, .ptr 1 0)], [(1, .box (isa x))]⟩) (fun i => ∀ j (h : j < x.dms.length), j < i → vd x.dms[j] = true) x.dms.length (by (first | exact Weak.tm (by simp [lk, isa]) | exact Weak.sub (by simp [lk, keptA, AV.keys, isa]) (by simp [lk, keptO, keptA, AV.keys, isa]))) (by simp) ?_ ?_
        · intro i hi he
          refine GO_AR mixed 1000 ?_
          have w1 : IntKind.i64.wrap ((i : Int) + 1) = ((i + 1 : Nat) : Int) := wrapI (by omega) (by omega)
          simp -implicitDefEqProofs [hi, isa, dma]
          (first | refine CallK.of (dim_pc _ _ _) (by simp) ?_ | refine CallD.of (dim_pc _ _ _) (by simp) ?_)
          cases p1 : vd x.dms[i]
          · have hn : issB x = false := by
              cases hI2 : issB x
              · rfl
              · simp only [issB, Bool.and_eq_true] at hI2
                rw [List.all_eq_true.1 hI2.2 _ (List.getElem_mem hi)] at p1; cases p1
            have p1' : vd ⟨x.dms[i].n, x.dms[i].l, x.dms[i].u⟩ = false := p1
            simp -implicitDefEqProofs [p1']
            refine GO_ret mixed 1000 ?_
            simp -implicitDefEqProofs [hn]
          · have p1' : vd ⟨x.dms[i].n, x.dms[i].l, x.dms[i].u⟩ = true := p1
            simp -implicitDefEqProofs [p1', w1]
            refine ⟨(by (first | exact Weak.tm (by simp [lk, isa]) | exact Weak.sub (by simp [lk, keptA, AV.keys, isa]) (by simp [lk, keptO, keptA, AV.keys, isa]))), fun j h1 hj => ?_⟩
            by_cases e : j = i
            · subst e; exact p1
            · exact he j h1 (by omega)
        · intro hd
          refine GO_AR mixed 1000 ?_
          have hD : x.dms.all vd = true := List.all_eq_true.2 fun y hy => by
            obtain ⟨j, hj, rfl⟩ := List.getElem_of_mem hy
            exact hd j hj hj
          have hT : issB x = true := by simp [issB, hB, hI, hD]
          simp -implicitDefEqProofs [isa]
          refine GO_ret mixed 1000 ?_
          simp -implicitDefEqProofs [hT]
    · have q5n : 0 < x.its.length := by omega
      simp -implicitDefEqProofs [c1, c2, q4n, q4i, q5n, bad (by simp [headB, q5, c1])]
end
end Go.Proofs.YtdpmioiamcgfkaaDoor

/-! What the reference's functions on registers compute: whether all is valid but for circles and chains. -/
namespace Go.Proofs.YtdpmioiamcgfkaaDoor
open Go.RowKit

/-- What the machine's types say of a register. -/
def Wf (r : List Iss) : Prop := SmlR r ∧ ∀ x ∈ r, 0 ≤ x.k ∧ x.k ≤ 255

/-- An issue stands in order behind the one before it. -/
def ordB (r : List Iss) : Nat → Bool
  | 0 => decide ((at' r 0).l = 1)
  | i + 1 => if (at' r (i + 1)).d < (at' r i).d then false else if (at' r i).d < (at' r (i + 1)).d then decide ((at' r (i + 1)).l = 1)
    else decide ((at' r (i + 1)).l = (at' r i).l + 1) && decide ((at' r (i + 1)).k = (at' r i).k)
def inB (r : List Iss) : Bool := r.all fun x => x.its.all fun y => decide (y.1 ∈ nums r)
/-- All items of an issue are drawings. -/
def ItsIn (r : List Iss) (x : Iss) : Prop := ∀ y ∈ x.its, y.1 ∈ nums r
/-- All is valid but for circles and chains. -/
def listedB (r : List Iss) : Bool := inR r.length 1 60 && r.all issB && (List.range r.length).all (ordB r) && inB r && decide ((nums r).length ≤ 20)

theorem listed_no1 {r : List Iss} {i : Nat} (h : i < r.length) (e : issB r[i] = false) : listedB r = false := by
  cases hI : listedB r
  · rfl
  · simp only [listedB, Bool.and_eq_true] at hI
    rw [List.all_eq_true.1 hI.1.1.1.2 _ (List.getElem_mem h)] at e; cases e
theorem listed_no2 {r : List Iss} {i : Nat} (h : i < r.length) (e : ordB r i = false) : listedB r = false := by
  cases hI : listedB r
  · rfl
  · simp only [listedB, Bool.and_eq_true] at hI
    rw [range_all.1 hI.1.1.2 i h] at e; cases e
theorem listed_no3 {r : List Iss} {i k : Nat} (h : i < r.length) (hk : k < r[i].its.length) (e : r[i].its[k].1 ∉ nums r) : listedB r = false := by
  cases hI : listedB r
  · rfl
  · simp only [listedB, Bool.and_eq_true, inB] at hI
    have := List.all_eq_true.1 (List.all_eq_true.1 hI.1.2 _ (List.getElem_mem h)) _ (List.getElem_mem hk)
    exact absurd (of_decide_eq_true this) e

theorem idx_neg {l : List Int} {n : Int} : idx l n < 0 ↔ n ∉ l := by
  unfold idx
  split
  · rename_i h; simp [h]
  · rename_i h; simp [h]
theorem idx_mem {l : List Int} {n : Int} (h : n ∈ l) : ∃ i : Nat, idx l n = i ∧ i < l.length ∧ l[i]? = some n := by
  refine ⟨l.idxOf n, by rw [idx, if_pos h], List.idxOf_lt_length_iff.2 h, ?_⟩
  have h1 : l.idxOf n < l.length := List.idxOf_lt_length_iff.2 h
  rw [List.getElem?_eq_getElem h1, List.getElem_idxOf h1]

theorem nums_len (r : List Iss) : (nums r).length ≤ r.length := numsN_len r _

section
variable {G : Nat → Option (List AV)}

theorem listed_pc (r : List Iss) (h : Wf r) : PC Tryd.prog G 70 [rega r] (.bool (listedB r)) := by
  (refine pc_ref02_listed (Nat.le_of_ble_eq_true rfl) fun R hG hrd => GO_AR mixed 1000 ?_; subst hG)
  have hs := h.1.1
  unfold Sml at hs
  simp -implicitDefEqProofs [rc_ref02_listed, rr_ref02_listed, rega]
  (first | refine CallK.of (within_pc _ _ _) (by simp) ?_ | refine CallD.of (within_pc _ _ _) (by simp) ?_)
  cases q1 : inR r.length 1 60
  · simp -implicitDefEqProofs [show listedB r = false by simp [listedB, q1]]
  have q1' : 1 ≤ r.length ∧ r.length ≤ 60 := by
    have := of_decide_eq_true q1
    omega
  have hne : r ≠ [] := by intro e; subst e; simp at q1'
  simp -implicitDefEqProofs []
  refine AR_for (fun i => ⟨[(3, .int .i64 i), (1, .ptr 1 0)], [(1, .box [.vsl (r.map isa)])]⟩) (fun i => ∀ j (h : j < r.length), j < i → issB r[j] = true ∧ ordB r j = true) r.length (by (first | exact Weak.tm (by simp [lk]) | exact Weak.sub (by simp [lk, keptA, AV.keys]) (by simp [lk, keptO, keptA, AV.keys]))) (by simp) ?_ ?_
  · intro i hi he
    refine GO_AR mixed 1000 ?_
    have w1 : IntKind.i64.wrap ((i : Int) + 1) = ((i + 1 : Nat) : Int) := wrapI (by omega) (by omega)
    have a1 := at_eq hi
    have hx := h.1.2 r[i] (List.getElem_mem hi)
    have hk := h.2 r[i] (List.getElem_mem hi)
    have go : issB r[i] = true → ordB r i = true → ∀ j (h : j < r.length), j < i + 1 → issB r[j] = true ∧ ordB r j = true := fun g1 g2 j q1 q2 => by
      by_cases e : j = i
      · subst e; exact ⟨g1, g2⟩
      · exact he j q1 (by omega)
    simp -implicitDefEqProofs [hi, isa]
    (first | refine CallK.of (issue_pc r[i] hx.1 hx.2 hk) (by simp) ?_ | refine CallD.of (issue_pc r[i] hx.1 hx.2 hk) (by simp) ?_)
    cases p1 : issB r[i]
    · simp -implicitDefEqProofs []
      refine GO_ret mixed 1000 ?_
      simp -implicitDefEqProofs [listed_no1 hi p1]
    have hd : 1 ≤ r[i].d := by
      have p2 := p1
      simp only [issB, headB, Bool.and_eq_true, inR, decide_eq_true_eq] at p2
      exact p2.1.1.1.1.1.1
    cases i with
    | zero =>
      have n1 : ¬ r[0].d < (0 : Int) := by omega
      have n2 : (0 : Int) < r[0].d := by omega
      by_cases p3 : r[0].l = 1
      · have ok : ordB r 0 = true := by simp [ordB, a1, p3]
        have w0 : IntKind.i64.wrap 1 = 1 := rfl
        simp -implicitDefEqProofs [n1, n2, p3, w0]
        exact ⟨(by (first | exact Weak.tm (by simp [lk]) | exact Weak.sub (by simp [lk, keptA, AV.keys]) (by simp [lk, keptO, keptA, AV.keys]))), fun j q1 q2 => by subst q2; exact ⟨p1, ok⟩⟩
      · simp -implicitDefEqProofs [n1, n2, p3]
        refine GO_ret mixed 1000 ?_
        simp -implicitDefEqProofs [listed_no2 hi (by simp [ordB, a1, p3])]
    | succ i =>
      have w2 : IntKind.i64.wrap (i : Int) = (i : Int) := wrapI (by omega) (by omega)
      have w3 : IntKind.i64.wrap ((i : Int) + 1 + 1) = (i : Int) + 1 + 1 := wrapI (by omega) (by omega)
      have k3 : (0 : Int) < (i : Int) + 1 := by omega
      have hi2 : i < r.length := by omega
      have a2 := at_eq hi2
      have bl := (he i hi2 (by omega)).1
      simp only [issB, headB, Bool.and_eq_true, inR, decide_eq_true_eq] at bl
      have w4 : IntKind.i64.wrap (r[i].l + 1) = r[i].l + 1 := wrapI (by omega) (by omega)
      by_cases p3 : r[i + 1].d < r[i].d
      · simp -implicitDefEqProofs [k3, w2, hi2, isa, p3]
        refine GO_ret mixed 1000 ?_
        simp -implicitDefEqProofs [listed_no2 hi (by simp [ordB, a1, a2, p3])]
      by_cases p4 : r[i].d < r[i + 1].d
      · by_cases p5 : r[i + 1].l = 1
        · have ok : ordB r (i + 1) = true := by simp [ordB, a1, a2, p3, p4, p5]
          simp -implicitDefEqProofs [k3, w2, w3, hi2, isa, p3, p4, p5]
          exact ⟨(by (first | exact Weak.tm (by simp [lk]) | exact Weak.sub (by simp [lk, keptA, AV.keys]) (by simp [lk, keptO, keptA, AV.keys]))), go p1 ok⟩
        · simp -implicitDefEqProofs [k3, w2, hi2, isa, p3, p4, p5]
          refine GO_ret mixed 1000 ?_
          simp -implicitDefEqProofs [listed_no2 hi (by simp [ordB, a1, a2, p3, p4, p5])]
      by_cases p5 : r[i + 1].l = r[i].l + 1
      case neg =>
        simp -implicitDefEqProofs [k3, w2, w4, hi2, isa, p3, p4, p5]
        refine GO_ret mixed 1000 ?_
        simp -implicitDefEqProofs [listed_no2 hi (by simp [ordB, a1, a2, p3, p4, p5])]
      by_cases p6 : r[i + 1].k = r[i].k
      · have ok : ordB r (i + 1) = true := by simp [ordB, a1, a2, p3, p4, p5, p6]
        simp -implicitDefEqProofs [k3, w2, w3, w4, hi2, isa, p3, p4, p5, p6]
        exact ⟨(by (first | exact Weak.tm (by simp [lk]) | exact Weak.sub (by simp [lk, keptA, AV.keys]) (by simp [lk, keptO, keptA, AV.keys]))), go p1 ok⟩
      · simp -implicitDefEqProofs [k3, w2, w4, hi2, isa, p3, p4, p5, p6]
        refine GO_ret mixed 1000 ?_
        simp -implicitDefEqProofs [listed_no2 hi (by simp [ordB, a1, a2, p3, p4, p5, p6])]
  · intro he
    refine GO_AR mixed 1000 ?_
    have g1 : r.all issB = true := List.all_eq_true.2 fun x hx => by
      obtain ⟨j, hj, rfl⟩ := List.getElem_of_mem hx
      exact (he j hj hj).1
    have g2 : (List.range r.length).all (ordB r) = true := range_all.2 fun j hj => (he j hj hj).2
    have hns : Sml (nums r) := by have := nums_len r; unfold Sml; omega
    simp -implicitDefEqProofs []
    refine GO_ret mixed 1000 ?_
    simp -implicitDefEqProofs []
    (first | refine CallK.of (numbers_pc r h.1.1 hne) (by simp) ?_ | refine CallD.of (numbers_pc r h.1.1 hne) (by simp) ?_)
    simp -implicitDefEqProofs []
    refine AR_for (fun i => ⟨[(7, .int .i64 i), (6, .vsl ((nums r).map ia)), (1, .ptr 1 0)], [(1, .box [.vsl (r.map isa)])]⟩) (fun i => ∀ j (h : j < r.length), j < i → ItsIn r r[j]) r.length (by (first | exact Weak.tm (by simp [lk]) | exact Weak.sub (by simp [lk, keptA, AV.keys]) (by simp [lk, keptO, keptA, AV.keys]))) (by simp) ?_ ?_
    · intro i hi hb
      refine GO_AR mixed 1000 ?_
      have w1 : IntKind.i64.wrap ((i : Int) + 1) = ((i + 1 : Nat) : Int) := wrapI (by omega) (by omega)
      have hx := (h.1.2 r[i] (List.getElem_mem hi)).1
      unfold Sml at hx
      simp -implicitDefEqProofs [hi]
      refine AR_for (fun k => ⟨[(8, .int .i64 k), (7, .int .i64 i), (6, .vsl ((nums r).map ia)), (1, .ptr 1 0)], [(1, .box [.vsl (r.map isa)])]⟩) (fun k => ∀ j (h : j < r[i].its.length), j < k → r[i].its[j].1 ∈ nums r) r[i].its.length (by (first | exact Weak.tm (by simp [lk]) | exact Weak.sub (by simp [lk, keptA, AV.keys]) (by simp [lk, keptO, keptA, AV.keys]))) (by simp) ?_ ?_
      · intro k hk hc
        refine GO_AR mixed 1000 ?_
        have w2 : IntKind.i64.wrap ((k : Int) + 1) = ((k + 1 : Nat) : Int) := wrapI (by omega) (by omega)
        simp -implicitDefEqProofs [hi, isa, hk, ita]
        (first | refine CallK.of (index_pc (nums r) _ hns) (by simp) ?_ | refine CallD.of (index_pc (nums r) _ hns) (by simp) ?_)
        by_cases p1 : r[i].its[k].1 ∈ nums r
        · have n1 : ¬ idx (nums r) r[i].its[k].1 < 0 := fun e => idx_neg.1 e p1
          simp -implicitDefEqProofs [n1, w2]
          refine ⟨(by (first | exact Weak.tm (by simp [lk]) | exact Weak.sub (by simp [lk, keptA, AV.keys]) (by simp [lk, keptO, keptA, AV.keys]))), fun j q1 q2 => ?_⟩
          by_cases e : j = k
          · subst e; exact p1
          · exact hc j q1 (by omega)
        · have n1 : idx (nums r) r[i].its[k].1 < 0 := idx_neg.2 p1
          simp -implicitDefEqProofs [n1]
          refine GO_ret mixed 1000 ?_
          simp -implicitDefEqProofs []
          refine GO_ret mixed 1000 ?_
          simp -implicitDefEqProofs [listed_no3 hi hk p1]
      · intro hc
        refine GO_AR mixed 1000 ?_
        simp -implicitDefEqProofs [hi, isa]
        refine GO_ret mixed 1000 ?_
        simp -implicitDefEqProofs [w1]
        refine ⟨(by (first | exact Weak.tm (by simp [lk]) | exact Weak.sub (by simp [lk, keptA, AV.keys]) (by simp [lk, keptO, keptA, AV.keys]))), fun j q1 q2 => ?_⟩
        by_cases e : j = i
        · subst e
          intro y hy
          obtain ⟨n, hn, rfl⟩ := List.getElem_of_mem hy
          exact hc n hn hn
        · exact hb j q1 (by omega)
    · intro hb
      refine GO_AR mixed 1000 ?_
      have g3 : inB r = true := List.all_eq_true.2 fun x hx => List.all_eq_true.2 fun y hy => by
        obtain ⟨j, hj, rfl⟩ := List.getElem_of_mem hx
        exact decide_eq_true (hb j hj hj y hy)
      have g4 : listedB r = decide ((nums r).length ≤ 20) := by simp [listedB, q1, g1, g2, g3]
      simp -implicitDefEqProofs []
      refine GO_ret mixed 1000 ?_
      simp -implicitDefEqProofs [g4]
      omega
end
end Go.Proofs.YtdpmioiamcgfkaaDoor

/-! Registers in order: their numbers; how long chains are, round by round; what depths and Check of the reference compute. -/
namespace Go.Proofs.YtdpmioiamcgfkaaDoor
open Go.RowKit

/-- Issues are in the order of their drawings. -/
def Ord (r : List Iss) : Prop := ∀ i, i + 1 < r.length → (at' r i).d ≤ (at' r (i + 1)).d
theorem Ord.mono {r : List Iss} (h : Ord r) : ∀ {i j : Nat}, i ≤ j → j < r.length → (at' r i).d ≤ (at' r j).d := by
  intro i j hij hj
  induction j with
  | zero => obtain rfl : i = 0 := by omega
            exact Int.le_refl _
  | succ j ih =>
    by_cases e : i = j + 1
    · subst e; exact Int.le_refl _
    · exact Int.le_trans (ih (by omega) (by omega)) (h j hj)
theorem ord_of {r : List Iss} (h : listedB r = true) : Ord r := by
  intro i hi
  simp only [listedB, Bool.and_eq_true] at h
  have := range_all.1 h.1.1.2 (i + 1) hi
  simp only [ordB] at this
  split at this
  · cases this
  · omega

theorem numsN_spec {r : List Iss} (h : Ord r) : ∀ i, i ≤ r.length → (numsN r i).Pairwise (· < ·) ∧ (∀ y ∈ numsN r i, ∃ j, j < i ∧ (at' r j).d = y) ∧ ∀ j, j < i → (at' r j).d ∈ numsN r i := by
  intro i
  induction i with
  | zero => intro _; simp [numsN]
  | succ i ih =>
    intro hi
    obtain ⟨h1, h2, h3⟩ := ih (by omega)
    simp only [numsN]
    split
    · rename_i hb
      refine ⟨List.pairwise_append.2 ⟨h1, by simp, fun a ha b hb' => ?_⟩, fun y hy => ?_, fun j hj => ?_⟩
      · simp only [List.mem_singleton] at hb'
        subst hb'
        obtain ⟨j, hj, rfl⟩ := h2 a ha
        simp only [newB, Bool.or_eq_true, beq_iff_eq, Bool.not_eq_true', decide_eq_false_iff_not] at hb
        have m1 := h.mono (show j ≤ i - 1 by omega) (by omega)
        have m2 := h.mono (show i - 1 ≤ i by omega) (by omega)
        rcases hb with hb | hb
        · omega
        · omega
      · rcases List.mem_append.1 hy with hy | hy
        · obtain ⟨j, hj, e⟩ := h2 y hy; exact ⟨j, by omega, e⟩
        · exact ⟨i, by omega, (List.mem_singleton.1 hy).symm⟩
      · by_cases e : j = i
        · subst e; simp
        · exact List.mem_append.2 (.inl (h3 j (by omega)))
    · rename_i hb
      refine ⟨h1, fun y hy => ?_, fun j hj => ?_⟩
      · obtain ⟨j, hj, e⟩ := h2 y hy; exact ⟨j, by omega, e⟩
      · by_cases e : j = i
        · subst e
          simp only [newB, Bool.or_eq_true, beq_iff_eq, Bool.not_eq_true', decide_eq_false_iff_not, not_or, Decidable.not_not] at hb
          rw [← hb.2]
          exact h3 _ (by omega)
        · exact h3 j (by omega)

theorem nums_lt {r : List Iss} (h : Ord r) : (nums r).Pairwise (· < ·) := (numsN_spec h _ (Nat.le_refl _)).1
theorem nums_nodup {r : List Iss} (h : Ord r) : (nums r).Nodup := (nums_lt h).imp fun h => Int.ne_of_lt h
theorem nums_of {r : List Iss} (h : Ord r) {n : Int} (hn : n ∈ nums r) : ∃ i, ∃ hi : i < r.length, r[i].d = n := by
  obtain ⟨i, hi, e⟩ := (numsN_spec h _ (Nat.le_refl _)).2.1 n hn
  exact ⟨i, hi, by rw [← at_eq hi]; exact e⟩
theorem nums_mem {r : List Iss} (h : Ord r) {i : Nat} (hi : i < r.length) : r[i].d ∈ nums r := by
  have := (numsN_spec h _ (Nat.le_refl _)).2.2 i hi
  rwa [at_eq hi] at this

/-- How long chains are, one round more. -/
def dvIt (f : Int → Int) (m : Int) (its : List (Int × Int)) : Int := its.foldl (fun m y => max m (1 + f y.1)) m
def dvN (r : List Iss) (f : Int → Int) (n : Int) : Nat → Int
  | 0 => 0
  | i + 1 => if (at' r i).d = n then dvIt f (max (dvN r f n i) 1) (at' r i).its else dvN r f n i
def Dv (r : List Iss) : Nat → Int → Int
  | 0, _ => 0
  | k + 1, n => dvN r (Dv r k) n r.length

theorem dvIt_bd {f : Int → Int} {K : Int} (hf : ∀ n, 0 ≤ f n ∧ f n ≤ K) : ∀ (its : List (Int × Int)) (m : Int), 0 ≤ m → m ≤ K + 1 → 0 ≤ dvIt f m its ∧ dvIt f m its ≤ K + 1
  | [], m, h1, h2 => ⟨h1, h2⟩
  | y :: its, m, h1, h2 => by
    have := hf y.1
    exact dvIt_bd hf its (max m (1 + f y.1)) (by omega) (by omega)
theorem dvN_bd (r : List Iss) {f : Int → Int} {K : Int} (hK : 0 ≤ K) (hf : ∀ n, 0 ≤ f n ∧ f n ≤ K) (n : Int) : ∀ i, 0 ≤ dvN r f n i ∧ dvN r f n i ≤ K + 1
  | 0 => by simp only [dvN]; omega
  | i + 1 => by
    have := dvN_bd r hK hf n i
    simp only [dvN]
    split
    · exact dvIt_bd hf _ _ (by omega) (by omega)
    · exact this
theorem Dv_bd (r : List Iss) : ∀ k n, 0 ≤ Dv r k n ∧ Dv r k n ≤ k
  | 0, n => by simp [Dv]
  | k + 1, n => by
    have := dvN_bd r (K := (k : Int)) (by omega) (Dv_bd r k) n r.length
    simp only [Dv]; omega

/-- A row of numbers, by the drawings. -/
def rowF (l : List Int) (g : Int → Int) : List (List AV) := l.map fun n => [.int .i64 (g n)]
theorem rowF_set {l : List Int} (hn : l.Nodup) {g : Int → Int} {j : Nat} {d v : Int} (hj : l[j]? = some d) : (rowF l g).set j [.int .i64 v] = rowF l fun n => if n = d then v else g n := by
  apply List.ext_getElem?
  intro i
  obtain ⟨hlt, he⟩ := List.getElem?_eq_some_iff.1 hj
  simp only [rowF, List.getElem?_set, List.getElem?_map, List.length_map]
  by_cases e : j = i
  · subst e
    simp [hlt, he]
  · rw [if_neg e]
    cases hi : l[i]? with
    | none => rfl
    | some x =>
      obtain ⟨hlt2, he2⟩ := List.getElem?_eq_some_iff.1 hi
      have : x ≠ d := fun q => e ((List.getElem_inj hn).1 (by rw [he, he2, q]))
      simp [this]
theorem rowF_len {l : List Int} {g : Int → Int} : (rowF l g).length = l.length := by simp [rowF]
theorem rowF_pure {l : List Int} {g : Int → Int} : (rowF l g).all (fun r => r.all AV.pure) = true := by simp [rowF, AV.pure]
theorem rowF_all {l : List Int} {g : Int → Int} {p : List AV → Bool} : (rowF l g).all p = l.all fun n => p [.int .i64 (g n)] := by simp [rowF, List.all_map, Function.comp_def]
attribute [simp] rowF_all
theorem rowF_at {l : List Int} {g : Int → Int} {j : Nat} (h : j < (rowF l g).length) : (rowF l g)[j] = [.int .i64 (g (l[j]'(by simpa [rowF] using h)))] := by simp [rowF]
attribute [simp] rowF_at rowF_len
theorem rowF_rep {l : List Int} : List.replicate l.length [AV.int .i64 0] = rowF l fun _ => 0 := by
  simp only [rowF]; induction l with
  | nil => rfl
  | cons x l ih => simp [List.replicate_succ, ih]

theorem dvIt_take (f : Int → Int) (m : Int) (its : List (Int × Int)) (k : Nat) (h : k < its.length) : dvIt f m (its.take (k + 1)) = max (dvIt f m (its.take k)) (1 + f its[k].1) := by
  rw [List.take_succ_eq_append_getElem h, dvIt, List.foldl_append]; rfl
theorem ite_same {d : Int} {v v0 : Int} {g : Int → Int} : (fun n => if n = d then v else if n = d then v0 else g n) = fun n => if n = d then v else g n := by
  funext n; split <;> rfl

theorem Weak.trans {a b c : St} (h : Weak a b) (g : Weak b c) : Weak a c := fun R x W s => g R x W (h R x W s)

section
variable {G : Nat → Option (List AV)}

set_option maxRecDepth 8000 in
theorem depthsR_pc (r : List Iss) (h : Wf r) (hL : listedB r = true) : PC Tryd.prog G 71 [rega r] (.vsl (rowF (nums r) (Dv r ((nums r).length + 1)))) := by
  (refine pc_ref02_depths (Nat.le_of_ble_eq_true rfl) fun R hG hrd => GO_AR mixed 1000 ?_; subst hG)
  have hs := h.1.1
  unfold Sml at hs
  have hO := ord_of hL
  have hl := nums_len r
  have hnd := nums_nodup hO
  have hL2 := hL
  simp only [listedB, Bool.and_eq_true, inB, decide_eq_true_eq] at hL2
  obtain ⟨⟨⟨⟨l1, l2⟩, l3⟩, l4⟩, l5⟩ := hL2
  have l1' := of_decide_eq_true l1
  have hne : r ≠ [] := by intro e; subst e; simp at l1'
  have hns : Sml (nums r) := by unfold Sml; omega
  simp -implicitDefEqProofs [rc_ref02_depths, rr_ref02_depths, rega]
  (first | refine CallK.of (numbers_pc r h.1.1 hne) (by simp) ?_ | refine CallD.of (numbers_pc r h.1.1 hne) (by simp) ?_)
  have b1 : ((nums r).length : Int) ≤ 16777216 := by omega
  simp -implicitDefEqProofs [b1, rowF_rep]
  refine AR_for (fun k => ⟨[(5, .int .i64 k), (4, .vsl (rowF (nums r) (Dv r k))), (3, .vsl ((nums r).map ia)), (1, .ptr 1 0)], [(1, .box [.vsl (r.map isa)])]⟩) (fun _ => True) ((nums r).length + 1) ?_ trivial ?_ ?_
  · refine Weak.trans (Weak.frz (fun k => k == 15) _) ?_
    have e0 : (fun n => Dv r 0 n) = fun _ => 0 := rfl
    exact Weak.sub (by simp [lk, keptA, AV.keys, frzSt, frzA, frzO, frz, snapF, St.get, rowF_len, rowF_pure, Dv, Function.const]) (by simp [lk, keptO, keptA, AV.keys, frzSt, frzA, frzO, frz]) (by simp [frzSt, lk]; try omega)
  · intro k hk _
    refine GO_AR mixed 1000 ?_
    have k1 : (k : Int) ≤ (nums r).length := by omega
    simp -implicitDefEqProofs [k1, b1, rowF_rep]
    have bd := Dv_bd r k
    have hkb : (k : Int) ≤ 61 := by omega
    refine AR_for (fun i => ⟨[(7, .int .i64 i), (6, .osl 24 (nums r).length), (5, .int .i64 k), (4, .vsl (rowF (nums r) (Dv r k))), (3, .vsl ((nums r).map ia)), (1, .ptr 1 0)], [(1, .box [.vsl (r.map isa)]), (24, .row 1 (rowF (nums r) fun n => dvN r (Dv r k) n i))]⟩) (fun _ => True) r.length (by (first | exact Weak.tm (by simp [lk, dvN]) | exact Weak.sub (by simp [lk, keptA, AV.keys, dvN]) (by simp [lk, keptO, keptA, AV.keys, dvN]))) trivial ?_ ?_
    · intro i hi _
      refine GO_AR mixed 1000 ?_
      have w1 : IntKind.i64.wrap ((i : Int) + 1) = ((i + 1 : Nat) : Int) := wrapI (by omega) (by omega)
      have a1 := at_eq hi
      have hx := (h.1.2 r[i] (List.getElem_mem hi)).1
      unfold Sml at hx
      have hits : ∀ m (hm : m < r[i].its.length), r[i].its[m].1 ∈ nums r := fun m hm =>
        of_decide_eq_true (List.all_eq_true.1 (List.all_eq_true.1 l4 _ (List.getElem_mem hi)) _ (List.getElem_mem hm))
      simp -implicitDefEqProofs [hi, isa]
      (first | refine CallK.of (index_pc (nums r) _ hns) (by simp) ?_ | refine CallD.of (index_pc (nums r) _ hns) (by simp) ?_)
      obtain ⟨j, hj, hlt, hget⟩ := idx_mem (nums_mem hO hi)
      rw [hj]
      have hset := fun g v => rowF_set (g := g) (v := v) hnd hget
      have hgt : (nums r)[j] = r[i].d := (List.getElem?_eq_some_iff.1 hget).2
      simp -implicitDefEqProofs [hlt, hgt, hset]
      refine AR_for (fun m => ⟨[(10, .int .i64 m), (9, .int .i64 j), (8, .ptr 8 0), (7, .int .i64 i), (6, .osl 24 (nums r).length), (5, .int .i64 k), (4, .vsl (rowF (nums r) (Dv r k))), (3, .vsl ((nums r).map ia)), (1, .ptr 1 0)],
        [(1, .box [.vsl (r.map isa)]), (8, .box (isa r[i])), (24, .row 1 (rowF (nums r) fun n => if n = r[i].d then dvIt (Dv r k) (max (dvN r (Dv r k) r[i].d i) 1) (r[i].its.take m) else dvN r (Dv r k) n i))]⟩) (fun _ => True) r[i].its.length (by (first | exact Weak.tm (by simp [lk, dvIt, isa]) | exact Weak.sub (by simp [lk, keptA, AV.keys, dvIt, isa]) (by simp [lk, keptO, keptA, AV.keys, dvIt, isa]))) trivial ?_ ?_
      · intro m hm _
        refine GO_AR mixed 1000 ?_
        have w2 : IntKind.i64.wrap ((m : Int) + 1) = ((m + 1 : Nat) : Int) := wrapI (by omega) (by omega)
        obtain ⟨j2, hj2, hlt2, hget2⟩ := idx_mem (hits m hm)
        have hgt2 : (nums r)[j2] = r[i].its[m].1 := (List.getElem?_eq_some_iff.1 hget2).2
        have bd2 := bd r[i].its[m].1
        have w3 : IntKind.i64.wrap (1 + Dv r k r[i].its[m].1) = 1 + Dv r k r[i].its[m].1 := wrapI (by omega) (by omega)
        simp -implicitDefEqProofs [isa, hm, ita, hlt, hgt]
        (first | refine CallK.of (index_pc (nums r) _ hns) (by simp) ?_ | refine CallD.of (index_pc (nums r) _ hns) (by simp) ?_)
        rw [hj2]
        have tk := dvIt_take (Dv r k) (max (dvN r (Dv r k) r[i].d i) 1) r[i].its m hm
        simp -implicitDefEqProofs [hlt2, hgt2, w2, w3, hlt, hgt, hset, ite_same]
        refine ⟨rfl, ?_⟩
        rw [← tk]
        (first | exact Weak.tm (by simp [lk, isa]) | exact Weak.sub (by simp [lk, keptA, AV.keys, isa]) (by simp [lk, keptO, keptA, AV.keys, isa]))
      · intro _
        refine GO_AR mixed 1000 ?_
        simp -implicitDefEqProofs [isa]
        refine GO_ret mixed 1000 ?_
        simp -implicitDefEqProofs [w1]
        have e : (fun n => if n = r[i].d then dvIt (Dv r k) (max (dvN r (Dv r k) r[i].d i) 1) r[i].its else dvN r (Dv r k) n i) = fun n => dvN r (Dv r k) n (i + 1) := by
          funext n
          simp only [dvN, a1]
          by_cases q : r[i].d = n
          · subst q; simp
          · rw [if_neg q, if_neg (fun e => q e.symm)]
        rw [e]
        (first | exact Weak.tm (by simp [lk]) | exact Weak.sub (by simp [lk, keptA, AV.keys]) (by simp [lk, keptO, keptA, AV.keys]))
    · intro _
      refine GO_AR mixed 1000 ?_
      simp -implicitDefEqProofs []
      refine GO_ret mixed 1000 ?_
      have w1 : IntKind.i64.wrap ((k : Int) + 1) = ((k + 1 : Nat) : Int) := wrapI (by omega) (by omega)
      simp -implicitDefEqProofs [w1]
      have e : (fun n => dvN r (Dv r k) n r.length) = Dv r (k + 1) := rfl
      rw [e]
      refine Weak.trans (Weak.frz (fun k => k == 24) _) ?_
      exact Weak.sub (by simp [lk, keptA, AV.keys, frzSt, frzA, frzO, frz, snapF, St.get, rowF_pure]) (by simp [lk, keptO, keptA, AV.keys, frzSt, frzA, frzO, frz]) (by simp [frzSt, lk]; try omega)
  · intro _
    refine GO_AR mixed 1000 ?_
    have k1 : ¬ ((nums r).length : Int) + 1 ≤ (nums r).length := by omega
    simp -implicitDefEqProofs [k1]
    refine GO_ret mixed 1000 ?_
    simp -implicitDefEqProofs []
end
end Go.Proofs.YtdpmioiamcgfkaaDoor

/-! What Check, Drawings, Last, At, Depth of the reference compute. -/
namespace Go.Proofs.YtdpmioiamcgfkaaDoor
open Go.RowKit

theorem rega_pure (r : List Iss) : (rega r).pure = true := by simp [rega, AV.pure]
attribute [simp] rega_pure

/-- The longest chain of all. -/
def mostV (l : List Int) (g : Int → Int) : Int := l.foldl (fun m n => max m (g n)) 0
/-- The error of a register. -/
def chkV (r : List Iss) : Int := if listedB r = true then
    if ((nums r).length : Int) < mostV (nums r) (Dv r ((nums r).length + 1)) then 21 else if 6 < mostV (nums r) (Dv r ((nums r).length + 1)) then 20 else 0
  else 20
def zI : Iss := ⟨0, 0, 0, [], []⟩
theorem findN_mem {d l : Int} : ∀ {r : List Iss} {x : Iss}, findN d l r = some x → x ∈ r ∧ x.d = d ∧ x.l = l
  | [], x, h => by simp [findN] at h
  | y :: r, x, h => by
    simp only [findN] at h
    split at h
    · rename_i e; cases h; exact ⟨List.mem_cons_self .., e⟩
    · obtain ⟨h1, h2⟩ := findN_mem h; exact ⟨List.mem_cons_of_mem _ h1, h2⟩
theorem mostV_take (l : List Int) (g : Int → Int) (k : Nat) (h : k < l.length) : mostV (l.take (k + 1)) g = max (mostV (l.take k) g) (g l[k]) := by
  rw [List.take_succ_eq_append_getElem h, mostV, List.foldl_append]; rfl

section
variable {G : Nat → Option (List AV)}

theorem checkR_pc (r : List Iss) (h : Wf r) : PC Tryd.prog G 25 [rega r] (.int .i64 (chkV r)) := by
  (refine pc_ref02_Check (Nat.le_of_ble_eq_true rfl) fun R hG hrd => GO_AR mixed 1000 ?_; subst hG)
  simp -implicitDefEqProofs [rc_ref02_Check, rr_ref02_Check, rega]
  (first | refine CallK.of (listed_pc r h) (by simp) ?_ | refine CallD.of (listed_pc r h) (by simp) ?_)
  cases hL : listedB r
  · simp -implicitDefEqProofs [show chkV r = 20 by simp [chkV, hL]]
  simp -implicitDefEqProofs []
  (first | refine CallK.of (depthsR_pc r h hL) (by simp) ?_ | refine CallD.of (depthsR_pc r h hL) (by simp) ?_)
  have hs := h.1.1
  unfold Sml at hs
  have hl := nums_len r
  simp -implicitDefEqProofs []
  refine AR_for (fun k => ⟨[(5, .int .i64 k), (4, .int .i64 (mostV ((nums r).take k) (Dv r ((nums r).length + 1)))), (3, .vsl (rowF (nums r) (Dv r ((nums r).length + 1)))), (1, .ptr 1 0)], [(1, .box [.vsl (r.map isa)])]⟩) (fun _ => True) (nums r).length (by (first | exact Weak.tm (by simp [lk, mostV]) | exact Weak.sub (by simp [lk, keptA, AV.keys, mostV]) (by simp [lk, keptO, keptA, AV.keys, mostV]))) trivial ?_ ?_
  · intro k hk _
    refine GO_AR mixed 1000 ?_
    have w1 : IntKind.i64.wrap ((k : Int) + 1) = ((k + 1 : Nat) : Int) := wrapI (by omega) (by omega)
    have tk := mostV_take (nums r) (Dv r ((nums r).length + 1)) k hk
    simp -implicitDefEqProofs [hk, w1]
    rw [← tk]
    (first | exact Weak.tm (by simp [lk]) | exact Weak.sub (by simp [lk, keptA, AV.keys]) (by simp [lk, keptO, keptA, AV.keys]))
  · intro _
    refine GO_AR mixed 1000 ?_
    simp -implicitDefEqProofs []
    refine GO_ret mixed 1000 ?_
    generalize hm : mostV (nums r) (Dv r ((nums r).length + 1)) = m
    by_cases q1 : ((nums r).length : Int) < m
    · simp -implicitDefEqProofs [q1, show chkV r = 21 by simp [chkV, hL, hm, q1]]
    by_cases q2 : 6 < m
    · simp -implicitDefEqProofs [q1, q2, show chkV r = 20 by simp [chkV, hL, hm, q1, q2]]
    · simp -implicitDefEqProofs [q1, q2, show chkV r = 0 by simp [chkV, hL, hm, q1, q2]]

end
end Go.Proofs.YtdpmioiamcgfkaaDoor

/-! What the small functions of packages size and sheet compute: lists that hold something, what an issue is checked by. -/
namespace Go.Proofs.YtdpmioiamcgfkaaDoor
open Go.RowKit

/-- The index of the first of which something is so, or -1. -/
def fstOf {α : Type} (p : α → Bool) (l : List α) : Int := match l.findIdx? p with | some i => (i : Int) | none => -1
theorem fstOf_hit {α : Type} {p : α → Bool} {l : List α} {i : Nat} (h : i < l.length) (hp : p l[i] = true) (hn : ∀ j (h : j < l.length), j < i → p l[j] = false) : fstOf p l = i := by
  have : l.findIdx? p = some i := by
    rw [List.findIdx?_eq_some_iff_getElem]
    refine ⟨h, hp, fun j hj => ?_⟩
    rw [hn j (by omega) hj]; simp
  simp [fstOf, this]
theorem fstOf_none {α : Type} {p : α → Bool} {l : List α} (hn : ∀ j (h : j < l.length), p l[j] = false) : fstOf p l = -1 := by
  have : l.findIdx? p = none := List.findIdx?_eq_none_iff.2 fun x hx => by
    obtain ⟨j, hj, rfl⟩ := List.getElem_of_mem hx
    exact hn j hj
  simp [fstOf, this]
theorem fstOf_any {α : Type} (p : α → Bool) (l : List α) : decide (0 ≤ fstOf p l) = l.any p := by
  unfold fstOf
  cases h : l.findIdx? p with
  | none =>
    have h2 := List.findIdx?_eq_none_iff.1 h
    have : l.any p = false := by rw [← Bool.not_eq_true, List.any_eq_true]; rintro ⟨x, hx, hp⟩; rw [h2 x hx] at hp; cases hp
    simp [this]
  | some i =>
    obtain ⟨h1, h2, -⟩ := List.findIdx?_eq_some_iff_getElem.1 h
    have : l.any p = true := List.any_eq_true.2 ⟨l[i], List.getElem_mem h1, h2⟩
    simp [this]

section
variable {G : Nat → Option (List AV)}

theorem indexI_pc (g : Nat) (caps : List AV) (p : Int → Bool) (l : List Int) (hc : caps.all AV.pure = true) (hl : Sml l)
    (hg : ∀ x ∈ l, PC Tryd.prog G g (.int .i64 x :: caps) (.bool (p x))) :
    PC Tryd.prog G 132 [.vsl (l.map ia), .func (.func g) [] caps] (.int .i64 (fstOf p l)) := by
  (refine pc_slices_IndexFunc_int_int (Nat.le_of_ble_eq_true rfl) fun R hG hrd => GO_AR mixed 1000 ?_; subst hG)
  unfold Sml at hl
  have hc2 : ∀ x ∈ caps, x.pure = true := List.all_eq_true.1 hc
  simp -implicitDefEqProofs [rc_slices_IndexFunc_int_int, rr_slices_IndexFunc_int_int]
  refine AR_for (fun i => ⟨[(8, .int .i64 i), (7, .int .i64 l.length), (0, .vsl (l.map ia)), (1, .func (.func g) [] caps)], []⟩) (fun i => ∀ j (h : j < l.length), j < i → p l[j] = false) l.length (by (first | exact Weak.tm (by simp [lk]) | exact Weak.sub (by simp [lk, keptA, AV.keys]) (by simp [lk, keptO, keptA, AV.keys]))) (by simp) ?_ ?_
  · intro i hi he
    refine GO_AR mixed 1000 ?_
    have w1 : IntKind.i64.wrap ((i : Int) + 1) = ((i + 1 : Nat) : Int) := wrapI (by omega) (by omega)
    simp -implicitDefEqProofs [hi, ia]
    refine CallK.of (hg _ (List.getElem_mem hi)) (by simpa [AV.pure] using hc2) ?_
    cases h3 : p l[i]
    · simp -implicitDefEqProofs [w1]
      refine ⟨(by (first | exact Weak.tm (by simp [lk]) | exact Weak.sub (by simp [lk, keptA, AV.keys]) (by simp [lk, keptO, keptA, AV.keys]))), fun j q1 q2 => ?_⟩
      by_cases e : j = i
      · subst e; exact h3
      · exact he j q1 (by omega)
    · simp -implicitDefEqProofs
      refine GO_ret mixed 1000 ?_
      simp -implicitDefEqProofs [fstOf_hit hi h3 he]
  · intro he
    refine GO_AR mixed 1000 ?_
    simp -implicitDefEqProofs []
    refine GO_ret mixed 1000 ?_
    simp -implicitDefEqProofs [fstOf_none (p := p) (l := l) (fun j hj => he j hj hj)]

theorem containsI_pc (g : Nat) (caps : List AV) (p : Int → Bool) (l : List Int) (hc : caps.all AV.pure = true) (hl : Sml l)
    (hg : ∀ x ∈ l, PC Tryd.prog G g (.int .i64 x :: caps) (.bool (p x))) :
    PC Tryd.prog G 117 [.vsl (l.map ia), .func (.func g) [] caps] (.bool (l.any p)) := by
  (refine pc_slices_ContainsFunc_int_int (Nat.le_of_ble_eq_true rfl) fun R hG hrd => GO_AR mixed 1000 ?_; subst hG)
  simp -implicitDefEqProofs [rc_slices_ContainsFunc_int_int, rr_slices_ContainsFunc_int_int]
  have hc2 : ∀ x ∈ caps, x.pure = true := List.all_eq_true.1 hc
  refine CallK.of (indexI_pc g caps p l hc hl hg) (by simpa [AV.pure] using hc2) ?_
  have e := fstOf_any p l
  simp -implicitDefEqProofs [e]

theorem indexT_pc (g : Nat) (caps : List AV) (p : (Int × Int) → Bool) (l : List (Int × Int)) (hc : caps.all AV.pure = true) (hl : Sml l)
    (hg : ∀ x ∈ l, PC Tryd.prog G g (.agg [.int .i64 x.1, .int .i64 x.2] :: caps) (.bool (p x))) :
    PC Tryd.prog G 120 [.vsl (l.map ita), .func (.func g) [] caps] (.int .i64 (fstOf p l)) := by
  (refine pc_slices_IndexFunc_api_Item_api_Item (Nat.le_of_ble_eq_true rfl) fun R hG hrd => GO_AR mixed 1000 ?_; subst hG)
  unfold Sml at hl
  have hc2 : ∀ x ∈ caps, x.pure = true := List.all_eq_true.1 hc
  simp -implicitDefEqProofs [rc_slices_IndexFunc_api_Item_api_Item, rr_slices_IndexFunc_api_Item_api_Item]
  refine AR_for (fun i => ⟨[(8, .int .i64 i), (7, .int .i64 l.length), (0, .vsl (l.map ita)), (1, .func (.func g) [] caps)], []⟩) (fun i => ∀ j (h : j < l.length), j < i → p l[j] = false) l.length (by (first | exact Weak.tm (by simp [lk]) | exact Weak.sub (by simp [lk, keptA, AV.keys]) (by simp [lk, keptO, keptA, AV.keys]))) (by simp) ?_ ?_
  · intro i hi he
    refine GO_AR mixed 1000 ?_
    have w1 : IntKind.i64.wrap ((i : Int) + 1) = ((i + 1 : Nat) : Int) := wrapI (by omega) (by omega)
    simp -implicitDefEqProofs [hi, ita]
    refine CallK.of (hg _ (List.getElem_mem hi)) (by simpa [AV.pure] using hc2) ?_
    cases h3 : p l[i]
    · simp -implicitDefEqProofs [w1]
      refine ⟨(by (first | exact Weak.tm (by simp [lk]) | exact Weak.sub (by simp [lk, keptA, AV.keys]) (by simp [lk, keptO, keptA, AV.keys]))), fun j q1 q2 => ?_⟩
      by_cases e : j = i
      · subst e; exact h3
      · exact he j q1 (by omega)
    · simp -implicitDefEqProofs
      refine GO_ret mixed 1000 ?_
      simp -implicitDefEqProofs [fstOf_hit hi h3 he]
  · intro he
    refine GO_AR mixed 1000 ?_
    simp -implicitDefEqProofs []
    refine GO_ret mixed 1000 ?_
    simp -implicitDefEqProofs [fstOf_none (p := p) (l := l) (fun j hj => he j hj hj)]

theorem containsT_pc (g : Nat) (caps : List AV) (p : (Int × Int) → Bool) (l : List (Int × Int)) (hc : caps.all AV.pure = true) (hl : Sml l)
    (hg : ∀ x ∈ l, PC Tryd.prog G g (.agg [.int .i64 x.1, .int .i64 x.2] :: caps) (.bool (p x))) :
    PC Tryd.prog G 102 [.vsl (l.map ita), .func (.func g) [] caps] (.bool (l.any p)) := by
  (refine pc_slices_ContainsFunc_api_Item_api_Item (Nat.le_of_ble_eq_true rfl) fun R hG hrd => GO_AR mixed 1000 ?_; subst hG)
  simp -implicitDefEqProofs [rc_slices_ContainsFunc_api_Item_api_Item, rr_slices_ContainsFunc_api_Item_api_Item]
  have hc2 : ∀ x ∈ caps, x.pure = true := List.all_eq_true.1 hc
  refine CallK.of (indexT_pc g caps p l hc hl hg) (by simpa [AV.pure] using hc2) ?_
  have e := fstOf_any p l
  simp -implicitDefEqProofs [e]

theorem indexD_pc (g : Nat) (caps : List AV) (p : Dm → Bool) (l : List Dm) (hc : caps.all AV.pure = true) (hl : Sml l)
    (hg : ∀ x ∈ l, PC Tryd.prog G g (.agg [.int .i64 x.n, .int .i64 x.l, .int .i64 x.u] :: caps) (.bool (p x))) :
    PC Tryd.prog G 163 [.vsl (l.map dma), .func (.func g) [] caps] (.int .i64 (fstOf p l)) := by
  (refine pc_slices_IndexFunc_api_Dim_api_Dim (Nat.le_of_ble_eq_true rfl) fun R hG hrd => GO_AR mixed 1000 ?_; subst hG)
  unfold Sml at hl
  have hc2 : ∀ x ∈ caps, x.pure = true := List.all_eq_true.1 hc
  simp -implicitDefEqProofs [rc_slices_IndexFunc_api_Dim_api_Dim, rr_slices_IndexFunc_api_Dim_api_Dim]
  refine AR_for (fun i => ⟨[(8, .int .i64 i), (7, .int .i64 l.length), (0, .vsl (l.map dma)), (1, .func (.func g) [] caps)], []⟩) (fun i => ∀ j (h : j < l.length), j < i → p l[j] = false) l.length (by (first | exact Weak.tm (by simp [lk]) | exact Weak.sub (by simp [lk, keptA, AV.keys]) (by simp [lk, keptO, keptA, AV.keys]))) (by simp) ?_ ?_
  · intro i hi he
    refine GO_AR mixed 1000 ?_
    have w1 : IntKind.i64.wrap ((i : Int) + 1) = ((i + 1 : Nat) : Int) := wrapI (by omega) (by omega)
    simp -implicitDefEqProofs [hi, dma]
    refine CallK.of (hg _ (List.getElem_mem hi)) (by simpa [AV.pure] using hc2) ?_
    cases h3 : p l[i]
    · simp -implicitDefEqProofs [w1]
      refine ⟨(by (first | exact Weak.tm (by simp [lk]) | exact Weak.sub (by simp [lk, keptA, AV.keys]) (by simp [lk, keptO, keptA, AV.keys]))), fun j q1 q2 => ?_⟩
      by_cases e : j = i
      · subst e; exact h3
      · exact he j q1 (by omega)
    · simp -implicitDefEqProofs
      refine GO_ret mixed 1000 ?_
      simp -implicitDefEqProofs [fstOf_hit hi h3 he]
  · intro he
    refine GO_AR mixed 1000 ?_
    simp -implicitDefEqProofs []
    refine GO_ret mixed 1000 ?_
    simp -implicitDefEqProofs [fstOf_none (p := p) (l := l) (fun j hj => he j hj hj)]

theorem containsD_pc (g : Nat) (caps : List AV) (p : Dm → Bool) (l : List Dm) (hc : caps.all AV.pure = true) (hl : Sml l)
    (hg : ∀ x ∈ l, PC Tryd.prog G g (.agg [.int .i64 x.n, .int .i64 x.l, .int .i64 x.u] :: caps) (.bool (p x))) :
    PC Tryd.prog G 161 [.vsl (l.map dma), .func (.func g) [] caps] (.bool (l.any p)) := by
  (refine pc_slices_ContainsFunc_api_Dim_api_Dim (Nat.le_of_ble_eq_true rfl) fun R hG hrd => GO_AR mixed 1000 ?_; subst hG)
  simp -implicitDefEqProofs [rc_slices_ContainsFunc_api_Dim_api_Dim, rr_slices_ContainsFunc_api_Dim_api_Dim]
  have hc2 : ∀ x ∈ caps, x.pure = true := List.all_eq_true.1 hc
  refine CallK.of (indexD_pc g caps p l hc hl hg) (by simpa [AV.pure] using hc2) ?_
  have e := fstOf_any p l
  simp -implicitDefEqProofs [e]

theorem inC1_pc (n lo hi : Int) : PC Tryd.prog G 118 [.int .i64 n, .vptr [.int .i64 lo] 0, .vptr [.int .i64 hi] 0] (.bool (!inR n lo hi)) := by
  (refine pc_size_in_1 (Nat.le_of_ble_eq_true rfl) fun R hG hrd => GO_AR mixed 1000 ?_; subst hG)
  by_cases h1 : n < lo
  · have h2 : ¬ lo ≤ n := by omega
    simp -implicitDefEqProofs [rc_size_in_1, rr_size_in_1, h1, h2, inR]
  · have h2 : lo ≤ n := by omega
    by_cases h3 : hi < n
    · have h4 : ¬ n ≤ hi := by omega
      simp -implicitDefEqProofs [rc_size_in_1, rr_size_in_1, h1, h2, h3, h4, inR]
    · have h4 : n ≤ hi := by omega
      simp -implicitDefEqProofs [rc_size_in_1, rr_size_in_1, h1, h2, h3, h4, inR]
theorem inC2_pc (n lo hi : Int) : PC Tryd.prog G 119 [.int .i64 n, .vptr [.int .i64 lo] 0, .vptr [.int .i64 hi] 0] (.bool (!inR n lo hi)) := by
  (refine pc_sheet_in_1 (Nat.le_of_ble_eq_true rfl) fun R hG hrd => GO_AR mixed 1000 ?_; subst hG)
  by_cases h1 : n < lo
  · have h2 : ¬ lo ≤ n := by omega
    simp -implicitDefEqProofs [rc_sheet_in_1, rr_sheet_in_1, h1, h2, inR]
  · have h2 : lo ≤ n := by omega
    by_cases h3 : hi < n
    · have h4 : ¬ n ≤ hi := by omega
      simp -implicitDefEqProofs [rc_sheet_in_1, rr_sheet_in_1, h1, h2, h3, h4, inR]
    · have h4 : n ≤ hi := by omega
      simp -implicitDefEqProofs [rc_sheet_in_1, rr_sheet_in_1, h1, h2, h3, h4, inR]

theorem inS1_pc (lo hi : Int) (l : List Int) (hl : Sml l) : PC Tryd.prog G 98 [.int .i64 lo, .int .i64 hi, .vsl (l.map ia)] (.bool (l.all fun n => inR n lo hi)) := by
  (refine pc_size_in (Nat.le_of_ble_eq_true rfl) fun R hG hrd => GO_AR mixed 1000 ?_; subst hG)
  simp -implicitDefEqProofs [rc_size_in, rr_size_in]
  (first | refine CallK.flat (containsI_pc 118 [.vptr [.int .i64 lo] 0, .vptr [.int .i64 hi] 0] (fun n => !inR n lo hi) l (by simp [AV.pure]) hl (fun n _ => inC1_pc n lo hi)) (by simp [AV.flat]) (by simp) ?_ | refine CallD.flat (containsI_pc 118 [.vptr [.int .i64 lo] 0, .vptr [.int .i64 hi] 0] (fun n => !inR n lo hi) l (by simp [AV.pure]) hl (fun n _ => inC1_pc n lo hi)) (by simp [AV.flat]) (by simp) ?_)
  have e : (!l.any fun n => !inR n lo hi) = l.all fun n => inR n lo hi := by simp [List.all_eq_not_any_not]
  simp -implicitDefEqProofs [e]
theorem inS_pc (lo hi : Int) (n : Int) : PC Tryd.prog G 101 [.int .i64 lo, .int .i64 hi, .vsl [[.int .i64 n]]] (.bool (inR n lo hi)) := by
  (refine pc_sheet_in (Nat.le_of_ble_eq_true rfl) fun R hG hrd => GO_AR mixed 1000 ?_; subst hG)
  simp -implicitDefEqProofs [rc_sheet_in, rr_sheet_in]
  refine CallK.flat (containsI_pc 119 [.vptr [.int .i64 lo] 0, .vptr [.int .i64 hi] 0] (fun n => !inR n lo hi) [n] (by simp [AV.pure]) (by simp [Sml]) (fun n _ => inC2_pc n lo hi)) (by simp [AV.flat]) (by simp [ia]) ?_
  simp -implicitDefEqProofs []

theorem checkS_pc (d : Dm) : PC Tryd.prog G 62 [.agg [.int .i64 d.n, .int .i64 d.l, .int .i64 d.u]] (.int .i64 (if vd d = true then 0 else 10)) := by
  (refine pc_size_Check (Nat.le_of_ble_eq_true rfl) fun R hG hrd => GO_AR mixed 1000 ?_; subst hG)
  simp -implicitDefEqProofs [rc_size_Check, rr_size_Check]
  (first | refine CallK.of (inS1_pc 0 1000000000 [d.n, d.l, d.u] (by simp [Sml])) (by simp) ?_ | refine CallD.of (inS1_pc 0 1000000000 [d.n, d.l, d.u] (by simp [Sml])) (by simp) ?_)
  cases h1 : [d.n, d.l, d.u].all fun n => inR n 0 1000000000
  · have e : vd d = false := by
      refine decide_eq_false fun h => ?_
      have : ([d.n, d.l, d.u].all fun n => inR n 0 1000000000) = true := by
        simp [inR]; omega
      rw [this] at h1; cases h1
    simp -implicitDefEqProofs [e]
  · have h2 : (0 ≤ d.n ∧ d.n ≤ 1000000000) ∧ (0 ≤ d.l ∧ d.l ≤ 1000000000) ∧ 0 ≤ d.u ∧ d.u ≤ 1000000000 := by
      simpa [inR] using h1
    by_cases h3 : d.u < d.l
    · have e : vd d = false := decide_eq_false (by omega)
      simp -implicitDefEqProofs [e, h3]
    · have e : vd d = true := decide_eq_true (by omega)
      simp -implicitDefEqProofs [e, h3]

theorem name_pc (x : Iss) : PC Tryd.prog G 84 [.agg (isa x)] (.agg [.int .i64 x.d, .int .i64 x.l]) := by
  (refine pc_sheet_name (Nat.le_of_ble_eq_true rfl) fun R hG hrd => GO_AR mixed 1000 ?_; subst hG)
  simp -implicitDefEqProofs [rc_sheet_name, rr_sheet_name, isa]

/-- What an issue is checked by, one by one. -/
def ck1 (x : Iss) : Bool := inR x.d 1 9999 && inR x.l 1 8
def ck2 (x : Iss) : Bool := if x.k = 1 then inR x.its.length 1 8 && decide (x.dms.length = 0) else inR x.k 2 3 && decide (x.dms.length ≤ 4) && decide (x.its.length = 0)
def ck3 (x : Iss) : Bool := (List.range x.its.length).all (itOk x)
def ck4 (x : Iss) : Bool := x.dms.all vd
theorem issB_ck (x : Iss) : issB x = (ck1 x && ck2 x && ck3 x && ck4 x) := by
  have e : headB x = (ck1 x && ck2 x) := by
    unfold headB ck1 ck2
    by_cases c1 : x.k = 1
    · have : inR x.k 1 3 = true := decide_eq_true (by omega)
      simp only [c1, if_true]
      rw [c1] at this
      rw [this]; simp
    · have : inR x.k 1 3 = inR x.k 2 3 := decide_eq_decide.2 (by omega)
      simp only [c1, if_false, this, Bool.and_assoc]
  simp only [issB, e, ck3, ck4]

theorem ck1_pc (x : Iss) : PC Tryd.prog G 157 [.agg (isa x)] (.bool (ck1 x)) := by
  (refine pc_sheet_checks_1 (Nat.le_of_ble_eq_true rfl) fun R hG hrd => GO_AR mixed 1000 ?_; subst hG)
  simp -implicitDefEqProofs [rc_sheet_checks_1, rr_sheet_checks_1, isa]
  (first | refine CallK.of (inS_pc _ _ _) (by simp) ?_ | refine CallD.of (inS_pc _ _ _) (by simp) ?_)
  cases q1 : inR x.d 1 9999
  · simp -implicitDefEqProofs [ck1, q1]
  · simp -implicitDefEqProofs []
    (first | refine CallK.of (inS_pc _ _ _) (by simp) ?_ | refine CallD.of (inS_pc _ _ _) (by simp) ?_)
    simp -implicitDefEqProofs [ck1, q1]

theorem ck2_pc (x : Iss) (hk : 0 ≤ x.k ∧ x.k ≤ 255) : PC Tryd.prog G 158 [.agg (isa x)] (.bool (ck2 x)) := by
  (refine pc_sheet_checks_2 (Nat.le_of_ble_eq_true rfl) fun R hG hrd => GO_AR mixed 1000 ?_; subst hG)
  have wk : IntKind.i64.wrap x.k = x.k := wrapI (by omega) (by omega)
  by_cases c1 : x.k = 1
  · simp -implicitDefEqProofs [rc_sheet_checks_2, rr_sheet_checks_2, isa, c1]
    (first | refine CallK.of (inS_pc _ _ _) (by simp) ?_ | refine CallD.of (inS_pc _ _ _) (by simp) ?_)
    cases q1 : inR x.its.length 1 8
    · simp -implicitDefEqProofs [ck2, c1, q1]
    · by_cases q2 : x.dms.length = 0 <;> simp -implicitDefEqProofs [ck2, c1, q1, q2]
  · simp -implicitDefEqProofs [rc_sheet_checks_2, rr_sheet_checks_2, isa, c1, wk]
    (first | refine CallK.of (inS_pc _ _ _) (by simp) ?_ | refine CallD.of (inS_pc _ _ _) (by simp) ?_)
    cases q1 : inR x.k 2 3
    · simp -implicitDefEqProofs [ck2, c1, q1]
    by_cases q2 : x.dms.length ≤ 4
    · have q2i : (x.dms.length : Int) ≤ 4 := by omega
      by_cases q3 : x.its.length = 0 <;> simp -implicitDefEqProofs [ck2, c1, q1, q2, q2i, q3]
    · have q2i : ¬ (x.dms.length : Int) ≤ 4 := by omega
      simp -implicitDefEqProofs [ck2, c1, q1, q2, q2i]

theorem ck3_pc (x : Iss) (h1 : Sml x.its) : PC Tryd.prog G 159 [.agg (isa x)] (.bool (ck3 x)) := by
  (refine pc_sheet_checks_3 (Nat.le_of_ble_eq_true rfl) fun R hG hrd => GO_AR mixed 1000 ?_; subst hG)
  unfold Sml at h1
  simp -implicitDefEqProofs [rc_sheet_checks_3, rr_sheet_checks_3, isa]
  refine AR_for (fun i => ⟨[(8, .int .i64 i), (7, .int .i64 x.its.length), (6, .vsl (x.its.map ita)), (1, .ptr 1 0)], [(1, .box (isa x))]⟩) (fun i => ∀ j, j < i → itOk x j = true) x.its.length (by (first | exact Weak.tm (by simp [lk, isa]) | exact Weak.sub (by simp [lk, keptA, AV.keys, isa]) (by simp [lk, keptO, keptA, AV.keys, isa]))) (by simp) ?_ ?_
  · intro i hi he
    refine GO_AR mixed 1000 ?_
    have w1 : IntKind.i64.wrap ((i : Int) + 1) = ((i + 1 : Nat) : Int) := wrapI (by omega) (by omega)
    have a1 : itAt x i = x.its[i] := by simp [itAt, List.getD, hi]
    have no : itOk x i = false → ck3 x = false := fun e => by
      cases hI : ck3 x
      · rfl
      · rw [range_all.1 hI i hi] at e; cases e
    simp -implicitDefEqProofs [hi, isa, ita]
    (first | refine CallK.of (inS_pc _ _ _) (by simp) ?_ | refine CallD.of (inS_pc _ _ _) (by simp) ?_)
    cases p1 : inR x.its[i].1 1 9999
    · simp -implicitDefEqProofs []
      refine ⟨rfl, ?_⟩
      refine GO_ret mixed 1000 ?_
      simp -implicitDefEqProofs [no (by simp [itOk, a1, p1])]
    simp -implicitDefEqProofs []
    (first | refine CallK.of (inS_pc _ _ _) (by simp) ?_ | refine CallD.of (inS_pc _ _ _) (by simp) ?_)
    cases p2 : inR x.its[i].2 1 20
    · simp -implicitDefEqProofs []
      refine ⟨rfl, ?_⟩
      refine GO_ret mixed 1000 ?_
      simp -implicitDefEqProofs [no (by simp [itOk, a1, p2])]
    by_cases p3 : x.its[i].1 = x.d
    · simp -implicitDefEqProofs [p3]
      refine ⟨rfl, ?_⟩
      refine GO_ret mixed 1000 ?_
      simp -implicitDefEqProofs [no (by simp [itOk, a1, p3])]
    cases i with
    | zero =>
      have ok : itOk x 0 = true := by simp [itOk, a1, p1, p2, p3]
      have w0 : IntKind.i64.wrap 1 = 1 := rfl
      simp -implicitDefEqProofs [p3, w0]
      exact ⟨rfl, (by (first | exact Weak.tm (by simp [lk, isa]) | exact Weak.sub (by simp [lk, keptA, AV.keys, isa]) (by simp [lk, keptO, keptA, AV.keys, isa]))), ok⟩
    | succ i =>
      have w2 : IntKind.i64.wrap (i : Int) = (i : Int) := wrapI (by omega) (by omega)
      have w3 : IntKind.i64.wrap ((i : Int) + 1 + 1) = (i : Int) + 1 + 1 := wrapI (by omega) (by omega)
      have k3 : (0 : Int) < (i : Int) + 1 := by omega
      have hi2 : i < x.its.length := by omega
      have a2 : itAt x i = x.its[i] := by simp [itAt, List.getD, hi2]
      by_cases p4 : x.its[i + 1].1 ≤ x.its[i].1
      · simp -implicitDefEqProofs [p3, k3, w2, hi2, ita, p4]
        refine ⟨rfl, ?_⟩
        refine GO_ret mixed 1000 ?_
        simp -implicitDefEqProofs [no (by simp [itOk, a1, a2, p4])]
      · have ok : itOk x (i + 1) = true := by simp [itOk, a1, a2, p1, p2, p3]; omega
        simp -implicitDefEqProofs [p3, k3, w2, w3, hi2, ita, p4]
        refine ⟨rfl, (by (first | exact Weak.tm (by simp [lk, isa]) | exact Weak.sub (by simp [lk, keptA, AV.keys, isa]) (by simp [lk, keptO, keptA, AV.keys, isa]))), fun j hj => ?_⟩
        by_cases e : j = i + 1
        · subst e; exact ok
        · exact he j (by omega)
  · intro he
    refine GO_AR mixed 1000 ?_
    have hI : ck3 x = true := range_all.2 he
    simp -implicitDefEqProofs []
    refine GO_ret mixed 1000 ?_
    simp -implicitDefEqProofs [hI]

theorem ck4d_pc (d : Dm) : PC Tryd.prog G 162 [.agg [.int .i64 d.n, .int .i64 d.l, .int .i64 d.u]] (.bool (!vd d)) := by
  (refine pc_sheet_checks_4_1 (Nat.le_of_ble_eq_true rfl) fun R hG hrd => GO_AR mixed 1000 ?_; subst hG)
  simp -implicitDefEqProofs [rc_sheet_checks_4_1, rr_sheet_checks_4_1]
  (first | refine CallK.of (checkS_pc d) (by simp) ?_ | refine CallD.of (checkS_pc d) (by simp) ?_)
  cases q : vd d <;> simp -implicitDefEqProofs []
theorem ck4_pc (x : Iss) (h2 : Sml x.dms) : PC Tryd.prog G 160 [.agg (isa x)] (.bool (ck4 x)) := by
  (refine pc_sheet_checks_4 (Nat.le_of_ble_eq_true rfl) fun R hG hrd => GO_AR mixed 1000 ?_; subst hG)
  simp -implicitDefEqProofs [rc_sheet_checks_4, rr_sheet_checks_4, isa]
  (first | refine CallK.of (containsD_pc 162 [] (fun d => !vd d) x.dms rfl h2 (fun d _ => ck4d_pc d)) (by simp) ?_ | refine CallD.of (containsD_pc 162 [] (fun d => !vd d) x.dms rfl h2 (fun d _ => ck4d_pc d)) (by simp) ?_)
  have e : (!x.dms.any fun d => !vd d) = ck4 x := by simp [ck4, List.all_eq_not_any_not]
  simp -implicitDefEqProofs [e]
end
end Go.Proofs.YtdpmioiamcgfkaaDoor

/-! Searches in sorted lists, by the abstract machine. -/
namespace Go.Proofs.YtdpmioiamcgfkaaDoor
open Go.RowKit

/-- How many numbers of a sorted list are less. -/
def lowB (l : List Int) (n : Int) : Nat := l.countP (fun x => decide (x < n))
theorem lowB_le (l : List Int) (n : Int) : lowB l n ≤ l.length := List.countP_le_length
/-- The numbers ahead of it are less, those behind are not. -/
theorem lowB_at {l : List Int} (hs : l.Pairwise (· ≤ ·)) (n : Int) : ∀ (i : Nat) (hi : i < l.length), i < lowB l n ↔ l[i] < n := by
  induction l with
  | nil => intro i hi; simp at hi
  | cons x l ih =>
    obtain ⟨h1, h2⟩ := List.pairwise_cons.1 hs
    intro i hi
    by_cases hx : x < n
    · have e : lowB (x :: l) n = lowB l n + 1 := by simp [lowB, List.countP_cons, hx]
      rw [e]
      cases i with
      | zero => simp [hx]
      | succ i =>
        have := ih h2 i (by simpa using hi)
        simp only [List.getElem_cons_succ]
        rw [← this]; omega
    · have z : lowB l n = 0 := by
        unfold lowB
        rw [List.countP_eq_zero]
        intro y hy
        have := h1 y hy
        simp; omega
      have e : lowB (x :: l) n = 0 := by
        have : lowB (x :: l) n = lowB l n := by simp [lowB, List.countP_cons, hx]
        omega
      rw [e]
      have hge : ∀ (i : Nat) (hi : i < (x :: l).length), x ≤ (x :: l)[i] := fun i hi => by
        cases i with
        | zero => exact Int.le_refl _
        | succ i => exact h1 _ (List.getElem_mem _)
      have := hge i hi
      constructor
      · intro h; omega
      · intro h; omega
theorem le_of_lt {l : List Int} (hs : l.Pairwise (· < ·)) : l.Pairwise (· ≤ ·) := hs.imp fun h => Int.le_of_lt h
theorem mem_lowB {l : List Int} (hs : l.Pairwise (· ≤ ·)) (n : Int) : n ∈ l ↔ l[lowB l n]? = some n := by
  constructor
  · intro hm
    obtain ⟨j, hj, he⟩ := List.getElem_of_mem hm
    have h1 : ¬ j < lowB l n := fun h => by have := (lowB_at hs n j hj).1 h; omega
    have h2 : lowB l n < l.length := by omega
    rw [List.getElem?_eq_getElem h2]
    have h3 : ¬ l[lowB l n] < n := fun h => by have := (lowB_at hs n _ h2).2 h; omega
    have h4 : l[lowB l n] ≤ l[j] := by
      by_cases e : lowB l n = j
      · simp [e]
      · exact List.pairwise_iff_getElem.1 hs _ _ h2 hj (by omega)
    congr 1; omega
  · intro h; exact List.mem_of_getElem? h

/-- A half, as the machine takes it. -/
theorem half_wrap {i j : Nat} (h : i + j ≤ 33554432) : IntKind.i64.wrap ((IntKind.u64.wrap (IntKind.i64.wrap ((i : Int) + j))).fdiv (2 ^ (min 1 IntKind.u64.bits))) = (((i + j) / 2 : Nat) : Int) := by
  show IntKind.i64.wrap ((IntKind.u64.wrap (IntKind.i64.wrap ((i : Int) + j))).fdiv (2 ^ (min 1 64))) = (((i + j) / 2 : Nat) : Int)
  have e1 : IntKind.i64.wrap ((i : Int) + j) = ((i + j : Nat) : Int) := by rw [wrapI (by omega) (by omega)]; omega
  have e2 : IntKind.u64.wrap (((i + j : Nat) : Int)) = ((i + j : Nat) : Int) := by
    have := IntWalk.u64_in (((i + j : Nat) : Int)) ⟨by omega, by omega⟩
    exact this
  rw [e1, e2]
  have e3 : (((i + j : Nat) : Int)).fdiv (2 ^ (min 1 64)) = (((i + j) / 2 : Nat) : Int) := by
    rw [Int.fdiv_eq_ediv_of_nonneg _ (by decide)]
    simp
  rw [e3, wrapI (by omega) (by omega)]

section
variable {G : Nat → Option (List AV)}

theorem isNaNc_pc (n : Int) : PC Tryd.prog G 135 [.int .i64 n] (.bool false) := by
  (refine pc_cmp_isNaN_int (Nat.le_of_ble_eq_true rfl) fun R hG hrd => GO_AR mixed 1000 ?_; subst hG)
  simp -implicitDefEqProofs [rc_cmp_isNaN_int, rr_cmp_isNaN_int]
theorem isNaNs_pc (n : Int) : PC Tryd.prog G 134 [.int .i64 n] (.bool false) := by
  (refine pc_slices_isNaN_int (Nat.le_of_ble_eq_true rfl) fun R hG hrd => GO_AR mixed 1000 ?_; subst hG)
  simp -implicitDefEqProofs [rc_slices_isNaN_int, rr_slices_isNaN_int]
theorem less_pc (a b : Int) : PC Tryd.prog G 133 [.int .i64 a, .int .i64 b] (.bool (decide (a < b))) := by
  (refine pc_cmp_Less_int (Nat.le_of_ble_eq_true rfl) fun R hG hrd => GO_AR mixed 1000 ?_; subst hG)
  by_cases h : a < b
  · simp -implicitDefEqProofs [rc_cmp_Less_int, rr_cmp_Less_int, h]
    try (first | refine CallK.of (isNaNc_pc a) (by simp) ?_ | refine CallD.of (isNaNc_pc a) (by simp) ?_)
    try simp -implicitDefEqProofs [h]
  · simp -implicitDefEqProofs [rc_cmp_Less_int, rr_cmp_Less_int, h]
    try (first | refine CallK.of (isNaNc_pc a) (by simp) ?_ | refine CallD.of (isNaNc_pc a) (by simp) ?_)
    try simp -implicitDefEqProofs [h]

theorem bsearch_pc (l : List Int) (n : Int) (hs : l.Pairwise (· ≤ ·)) (hl : Sml l) : PC Tryd.prog G 121 [.vsl (l.map ia), .int .i64 n] (.tup [.int .i64 (lowB l n), .bool (decide (n ∈ l))]) := by
  (refine pc_slices_BinarySearch_int_int (Nat.le_of_ble_eq_true rfl) fun R hG hrd => GO_AR mixed 1000 ?_; subst hG)
  unfold Sml at hl
  have hle := lowB_le l n
  simp -implicitDefEqProofs [rc_slices_BinarySearch_int_int, rr_slices_BinarySearch_int_int]
  refine AR_loop (fun p : Nat × Nat => ⟨[(8, .int .i64 p.2), (7, .int .i64 p.1), (6, .int .i64 l.length), (0, .vsl (l.map ia)), (1, .int .i64 n)], []⟩) (fun p => p.1 ≤ lowB l n ∧ lowB l n ≤ p.2 ∧ p.2 ≤ l.length) (fun p => p.2 - p.1) (0, l.length) (by (first | exact Weak.tm (by simp [lk]) | exact Weak.sub (by simp [lk, keptA, AV.keys]) (by simp [lk, keptO, keptA, AV.keys]))) ⟨by omega, hle, Nat.le_refl _⟩ ?_
  rintro ⟨lo, hi⟩ ⟨h1, h2, h3⟩
  simp only at h1 h2 h3
  refine GO_AR mixed 1000 ?_
  by_cases h4 : lo < hi
  · obtain ⟨m, hm⟩ : ∃ m, m = (lo + hi) / 2 := ⟨_, rfl⟩
    have hw := half_wrap (i := lo) (j := hi) (by omega)
    rw [← hm] at hw
    have m1 : m < l.length := by omega
    have w1 : IntKind.i64.wrap ((m : Int) + 1) = ((m + 1 : Nat) : Int) := wrapI (by omega) (by omega)
    have hb := lowB_at hs n m m1
    by_cases h5 : l[m] < n
    · simp -implicitDefEqProofs [h4, hw, m1, ia]
      (first | refine CallK.of (less_pc _ _) (by simp) ?_ | refine CallD.of (less_pc _ _) (by simp) ?_)
      simp -implicitDefEqProofs [h5, w1]
      exact ⟨(m + 1, hi), (by (first | exact Weak.tm (by simp [lk]) | exact Weak.sub (by simp [lk, keptA, AV.keys]) (by simp [lk, keptO, keptA, AV.keys]))), ⟨by have := hb.2 h5; show m + 1 ≤ _; omega, h2, h3⟩, by show hi - (m + 1) < hi - lo; omega⟩
    · simp -implicitDefEqProofs [h4, hw, m1, ia]
      (first | refine CallK.of (less_pc _ _) (by simp) ?_ | refine CallD.of (less_pc _ _) (by simp) ?_)
      simp -implicitDefEqProofs [h5]
      exact ⟨(lo, m), (by (first | exact Weak.tm (by simp [lk]) | exact Weak.sub (by simp [lk, keptA, AV.keys]) (by simp [lk, keptO, keptA, AV.keys]))), ⟨h1, by have : ¬ m < lowB l n := fun h => h5 (hb.1 h); show lowB l n ≤ m; omega, by show m ≤ _; omega⟩, by show m - lo < hi - lo; omega⟩
  · obtain rfl : lo = lowB l n := by omega
    have hmem := mem_lowB hs n
    by_cases h5 : lowB l n < l.length
    · by_cases h6 : l[lowB l n] = n
      · have e : n ∈ l := hmem.2 (by rw [List.getElem?_eq_getElem h5, h6])
        simp -implicitDefEqProofs [h4]
        refine GO_ret mixed 1000 ?_
        simp -implicitDefEqProofs [h5, ia, h6, e]
      · have e : ¬ n ∈ l := fun h => h6 (by have := hmem.1 h; rw [List.getElem?_eq_getElem h5] at this; exact Option.some.inj this)
        simp -implicitDefEqProofs [h4]
        refine GO_ret mixed 1000 ?_
        simp -implicitDefEqProofs [h5, ia, h6]
        (first | refine CallK.of (isNaNs_pc _) (by simp) ?_ | refine CallD.of (isNaNs_pc _) (by simp) ?_)
        simp -implicitDefEqProofs [e]
    · have e : ¬ n ∈ l := fun h => by have := hmem.1 h; rw [List.getElem?_eq_none (by omega)] at this; cases this
      simp -implicitDefEqProofs [h4]
      refine GO_ret mixed 1000 ?_
      simp -implicitDefEqProofs [h5, e]
end
end Go.Proofs.YtdpmioiamcgfkaaDoor

/-! The abstract machine's code of functions of the program, as a program of ours printed it; that it is theirs is proved beside each. -/
namespace Go.Proofs.YtdpmioiamcgfkaaDoor
open Go.RowKit

def rc_sheet_book_issues_1 : RCode :=
  .seq (.reg 0 true [ { d := some 9, op := .load false 1 (.t 1), aft := [] }, { d := some 10, op := .nilck (.t 9), aft := [0] }, { d := some 11, op := .faddr 0 (.t 10), aft := [1] }, { d := some 12, op := .faddr 0 (.t 11), aft := [2] }, { d := some 13, op := .load false 1 (.t 12), aft := [3] }, { d := some 14, op := .load false 1 (.t 2), aft := [] }, { d := some 15, op := .call 123 [.t 13, .t 14, .c (.func (.func 124) [] [])], aft := [4, 5] }, { d := some 8, op := .mov (.t 15), aft := [6] }, { d := some 16, op := .ext 0 (.t 8), aft := [7] }, { d := some 17, op := .ext 1 (.t 8), aft := [7] }, { d := some 4, op := .mov (.t 16), aft := [8, 6, 0, 1, 2, 3, 4, 5, 6, 7, 8] }, { d := some 5, op := .mov (.t 17), aft := [9, 10, 0, 1, 2, 3, 4, 5, 6, 7, 8, 9, 10] }])
 (.seq (.reg 1 false [ { d := some 18, op := .load false 1 (.t 1) }, { d := some 19, op := .nilck (.t 18) }, { d := some 20, op := .faddr 0 (.t 19) }, { d := some 21, op := .faddr 0 (.t 20) }, { d := some 22, op := .load false 1 (.t 21) }, { d := some 23, op := .mov (.t 4) }, { d := some 24, op := .slc 5 (.t 22) (some (.t 23)) none }, { d := some 25, op := .len (.t 24) }, { d := some 26, op := .mov (.c (.int .i64 0)) }]) (.block 0 (.loop
 (.seq (.reg 2 false [ { d := some 27, op := .bin .lss (.t 26) (.t 25) }]) (.seq (.cond (.t 27) (.skip) (.exit 0)) (.seq (.block 1
 (.seq (.reg 3 false [ { d := some 28, op := .iaddr 5 (.t 24) (.t 26) }, { d := some 29, op := .load true 5 (.t 28) }, { d := some 7, op := .alloc [.int .i64 0, .int .i64 0, .int .u8 0, .nils, .nils] }, { d := none, op := .store 5 (.t 7) (.t 29) }])
 (.seq (.reg 4 false [ { d := some 30, op := .faddr 0 (.t 7) }, { d := some 31, op := .load false 1 (.t 30) }, { d := some 32, op := .load false 1 (.t 2) }, { d := some 33, op := .bin .neq (.t 31) (.t 32) }, { d := some 34, op := .mov (.t 33) }, { d := some 35, op := .mov (.t 0), guard := some (34, false) }, { d := some 36, op := .load true 5 (.t 7), guard := some (34, false) }, { d := some 37, op := .callv (.t 35) [.t 36], guard := some (34, false) }, { d := some 38, op := .un .not (.t 37), guard := some (34, false) }, { d := some 39, op := .pick (.t 34) (.c (.bool true)) (.t 38) }]) (.cond (.t 39) (.ret) (.skip))))) (.reg 5 false [ { d := some 40, op := .bin .add (.t 26) (.c (.int .i64 1)) }, { d := some 26, op := .mov (.t 40) }])))))))
end Go.Proofs.YtdpmioiamcgfkaaDoor

/-! The issues of a drawing, one by one: what the iterator yields. -/
namespace Go.Proofs.YtdpmioiamcgfkaaDoor
open Go.RowKit

/-! Code by its form. -/
section
variable {P : Program} {N : Nat} {c : Code}
theorem okC_seq {a b : RCode} (h : okCode P N c (.seq a b) = true) : ∃ c1 c2, c = .seq c1 c2 ∧ okCode P N c1 a = true ∧ okCode P N c2 b = true := by
  cases c <;> simp only [okCode, Bool.false_eq_true, Bool.and_eq_true] at h
  exact ⟨_, _, rfl, h.1, h.2⟩
theorem okC_block {id : Nat} {a : RCode} (h : okCode P N c (.block id a) = true) : ∃ c1, c = .block id c1 ∧ okCode P N c1 a = true := by
  cases c <;> simp only [okCode, Bool.false_eq_true, Bool.and_eq_true, beq_iff_eq] at h
  obtain ⟨rfl, h⟩ := h
  exact ⟨_, rfl, h⟩
theorem okC_loop {a : RCode} (h : okCode P N c (.loop a) = true) : ∃ c1, c = .loop c1 ∧ okCode P N c1 a = true := by
  cases c <;> simp only [okCode, Bool.false_eq_true] at h
  exact ⟨_, rfl, h⟩
theorem okC_reg {id : Nat} {rs : List ROper} (h : okCode P N c (.reg id false rs) = true) : ∃ ops, c = .region id ops false ∧ allB2 (okOper P N ops) ops.toList rs = true := by
  cases c <;> simp only [okCode, Bool.false_eq_true, Bool.and_eq_true, beq_iff_eq] at h
  obtain ⟨⟨⟨rfl, rfl⟩, h⟩, -⟩ := h
  exact ⟨_, rfl, h⟩
end

/-! A region's first operations. -/
section
variable {P : Program} {R : Run} {rd : Option Nat} {m : Nat} {ops : Array Oper} {Q : Exit → Act → World → Prop}
theorem reg_simK (l2 : List Nat) : ∀ (l : List Nat) (rs' : List ROper) (st : St) (K : St → Prop) (a : Act) (W : World),
    (∀ (i : Nat) (r : ROper), rs'[i]? = some r → ∃ (j : Nat) (o : Oper), l[i]? = some j ∧ ops[j]? = some o ∧ okOper P R.N ops o r = true) → l.length = rs'.length → (∀ st' a' W', K st' → SR R st' a' W' → wpOpsIn (FW rd) m P ops Q l2 a' W') →
    RW P R.G rs' st (fun e s => e = .normal ∧ K s) → SR R st a W → wpOpsIn (FW rd) m P ops Q (l ++ l2) a W := by
  intro l
  induction l with
  | nil =>
    intro rs' st K a W hok hl hK hr hs
    cases rs' with
    | nil => exact hK st a W hr.2 hs
    | cons r rs' => simp at hl
  | cons j l ih =>
    intro rs' st K a W hok hl hK hr hs
    cases rs' with
    | nil => simp at hl
    | cons r rs' =>
      obtain ⟨j', o, hj, ho, hk⟩ := hok 0 r rfl
      simp at hj
      subst hj
      have go : ∀ (st' : St) (a' : Act) (W' : World), RW P R.G rs' st' (fun e s => e = .normal ∧ K s) → SR R st' a' W' → wpOpsIn (FW rd) m P ops Q (l ++ l2) a' W' := fun st' a' W' h2 hs' =>
        ih rs' st' K a' W' (fun i r hi => by simpa using hok (i + 1) r (by simpa using hi)) (by simpa using hl) hK h2 hs'
      rw [List.cons_append, wpOpsIn_cons]
      rcases RW_cons hr with ⟨st', h1, h2⟩ | ⟨hw, g, args, hi, hc⟩
      · exact stp_sim h1 ho hk hs fun a' W' hs' => go st' a' W' h2 hs'
      · obtain ⟨κ, hκ⟩ := hs
        have hk0 := hk
        simp only [okOper, Bool.and_eq_true, decide_eq_true_eq] at hk
        obtain ⟨⟨⟨hd, hdn⟩, -⟩, -⟩ := hk
        have hdn' : ∀ n, r.d = some n → n < R.N := fun n e => by rw [e] at hdn; simpa using hdn
        refine iscall_sim hi hw ho hk0 hκ fun vs ha => ?_
        rcases hc with ⟨v, st1, hc, hn⟩ | ⟨ch, hc, hn⟩
        · obtain ⟨h1, h2⟩ := hc R a W κ vs rfl hκ ha
          refine ⟨h1, h2.mono ?_⟩
          rintro e W' ⟨u, κ1, rfl, h3, h4⟩
          refine go _ _ _ hn ⟨κ1, ?_⟩
          rw [hd]
          exact h3.putd hdn' h4
        · exact absurd hn.1 (by simp)
end

/-! A run that begins anew where nothing is owned. -/
def freshR (M : Nat → Prop) (W : World) (N : Nat) (rd : Option Nat) : Run :=
  { G := fun _ => none, M := M, X := fun _ => False, W0 := W, N := N, E0 := { M := M, loc := fun _ => none, row := fun _ => none }, rd := rd, nm := true }
/-- All temporaries are trees. -/
def TT' (M : Nat → Prop) (W : World) (t : List (Nat × AV)) (a : Act) : Prop := ∀ n x, lk t n = some x → PV M W x (a.tmps.getD n Go.undef)

theorem fresh_start {M : Nat → Prop} {W : World} {N : Nat} {rd : Option Nat} {t : List (Nat × AV)} {a : Act} (hM : ∀ b, M b → b < W.heap.size) (hd : a.defers = []) (hN : a.tmps.size = N) (ht : TT' M W t a) : SR (freshR M W N rd) ⟨t, []⟩ a W := by
  have hGM : ∀ b, b < W.heap.size → ¬ M b → ¬ ((⟨t, []⟩ : St).env M (fun _ => none)).M b ∧ W.heap[b]? = W.heap[b]? := fun b _ h1 => ⟨(by rintro (h2 | ⟨k, s, h2⟩) <;> first | exact h1 h2 | cases h2), rfl⟩
  refine ⟨fun _ => none, ⟨[], by simp [hd, freshR], .nil, by simp, fun _ => rfl⟩, hN, fun n x hx => .pv ((ht n x hx).mono hGM (Nat.le_refl _)), (fun k o ho => by simp [St.get, lk] at ho), (fun k p hk => by cases hk), (fun k k' b s s' hk => by cases hk), hM, fun _ _ h => h, Kp.refl _ _, (fun g cs hg => by cases hg), ⟨Nat.le_refl _, hGM, fun k p hk => (by cases hk), fun k sz m hk => (by cases hk)⟩, fun _ _ => ⟨rfl, rfl⟩⟩

theorem fresh_end {M : Nat → Prop} {W W' : World} {N : Nat} {rd : Option Nat} {st : St} {a : Act} (h : SR (freshR M W N rd) st a W') {t : List (Nat × AV)} (hw : Weak st ⟨t, []⟩) (hp : ∀ q ∈ t, q.2.pure = true) :
    a.defers = [] ∧ a.tmps.size = N ∧ TT' M W' t a ∧ Ext W W' := by
  obtain ⟨κ, hk⟩ := hw _ _ _ h
  obtain ⟨cs, e, -, -, hz⟩ := hk.defers
  have hκ : ∀ k, κ k = none := fun k => by
    cases e : κ k with
    | none => rfl
    | some p => obtain ⟨o, ho⟩ := hk.dom k p e; simp [St.get, lk] at ho
  refine ⟨by rw [e, hz rfl]; rfl, hk.size, fun n x hx => ?_, ⟨hk.kp.os, hk.kp.tape, hk.kp.output, hk.kp.size, fun i hi => hk.kp.block i hi (fun h => h)⟩⟩
  refine ((hk.tm n x hx).toPV (hp (n, x) (lk_mem hx))).mono (fun b _ hb => ⟨fun h => hb (.inl h), rfl⟩) (Nat.le_refl _)

end Go.Proofs.YtdpmioiamcgfkaaDoor

/-! What the iterator over a drawing's issues yields: the walk. -/
namespace Go.Proofs.YtdpmioiamcgfkaaDoor
open Go.RowKit

/-- A call of what a range over a function hands its iterator. -/
theorem yield_sim {P : Program} {R : Run} {st : St} {a : Act} {W : World} {κ : Nat → Option (Nat × Nat)} {rd : Option Nat} {m : Nat} {ops : Array Oper} {r : ROper} {j l : Nat} {o : Oper} {f y : RA} {K : Act → World → Prop} {Q : Exit → Act → World → Prop}
    (hr : r.op = .callv f [y]) (hf : evA R.G st f = .func (.yield l) [] []) (hw : wants st r.guard = some true) (ho : ops[j]? = some o) (hk : okOper P R.N ops o r = true) (hκ : SK R st a W κ)
    (hc : ∀ u, VR (st.env R.M κ) W (evA R.G st y) u → YieldAt (FW rd) (m - 1) P l #[u] W fun
      | .returned v, W' => K (a.put o.dst v) W'
      | .panicked ch, W' => Q (.panic ch) a W'
      | .outgrown, _ => LetsOut Q) : wpOpIn (FW rd) m P ops Q j K a W := by
  simp only [okOper, Bool.and_eq_true, decide_eq_true_eq] at hk
  obtain ⟨⟨⟨hd, hdn⟩, hop⟩, hg⟩ := hk
  unfold wpOpIn
  simp only [ho]
  rw [if_pos (wants_sim hκ hg hw)]
  rw [hr] at hop
  simp only [isCall, if_true, okCall] at hop
  split at hop <;> try (simp at hop; done)
  · simp_all
  · simp_all
  · rename_i r0 x xs ats y' ys e1 e2
    simp only [Bool.and_eq_true] at hop
    simp only [ROp.callv.injEq] at e2
    obtain ⟨rfl, rfl⟩ := e2
    have hx := hκ.ev hop.1
    rw [hf] at hx
    obtain ⟨us, vs, hv1, hv2, hv3⟩ := hx.func_inv
    obtain rfl : us = #[] := by
      have := hv2.1
      rw [← Array.toList_inj]
      exact List.length_eq_zero_iff.1 (by simpa using this)
    obtain rfl : vs = #[] := by
      have := hv3.1
      rw [← Array.toList_inj]
      exact List.length_eq_zero_iff.1 (by simpa using this)
    cases xs with
    | nil => simp [allB2] at hop
    | cons z xs =>
      cases xs with
      | cons _ _ => simp [allB2] at hop
      | nil =>
        have hz := hκ.ev (show okA z y = true by simpa [allB2] using hop.2)
        obtain ⟨fn, tmps, assign, body, h1, h2⟩ := hc _ hz
        refine ⟨fun _ _ => trivial, ?_⟩
        rw [Oper.semAt_eq _ _ _ (fun c e => by rw [e1] at e; cases e)]
        have : (execOp a.eval o).run P W = .ok (.round l fn tmps assign body) W := by
          rw [← h1]
          simp [execOp, e1, resolve, hv1, Deferred.ofValue, invoke, Sem.run_bind]
        rw [this]
        exact ⟨FW_depth, h2⟩

/-- The issues of a drawing, as trees. -/
def elsOf (r : List Iss) (n : Int) : List AV := (r.filter (fun x => decide (x.d = n))).map (fun x => .agg (isa x))

theorem seg_all {n : Int} : ∀ (l : List Iss), (l.map (·.d)).Pairwise (· ≤ ·) → (∀ x ∈ l, n ≤ x.d) →
    (l.filter (fun x => decide (x.d = n))).length ≤ l.length ∧ (∀ i, i < (l.filter (fun x => decide (x.d = n))).length → (l.filter (fun x => decide (x.d = n)))[i]? = l[i]? ∧ ∀ x, l[i]? = some x → x.d = n) ∧
      ∀ x, l[(l.filter (fun x => decide (x.d = n))).length]? = some x → x.d ≠ n
  | [], _, _ => by simp
  | y :: l, hs, hg => by
    simp only [List.map_cons, List.pairwise_cons] at hs
    obtain ⟨h1, h2, h3⟩ := seg_all l hs.2 fun x hx => hg x (List.mem_cons_of_mem _ hx)
    by_cases hy : y.d = n
    · have e : (y :: l).filter (fun x => decide (x.d = n)) = y :: l.filter (fun x => decide (x.d = n)) := by simp [hy]
      rw [e]
      refine ⟨by simpa using h1, fun i hi => ?_, fun x hx => h3 x (by simpa using hx)⟩
      cases i with
      | zero => exact ⟨rfl, fun x hx => by simp at hx; subst hx; exact hy⟩
      | succ i => exact ⟨by simpa using (h2 i (by simpa using hi)).1, fun x hx => (h2 i (by simpa using hi)).2 x (by simpa using hx)⟩
    · have gt : n < y.d := by have := hg y (List.mem_cons_self ..); omega
      have e : (y :: l).filter (fun x => decide (x.d = n)) = [] := by
        rw [List.filter_eq_nil_iff]
        intro x hx
        rcases List.mem_cons.1 hx with rfl | hx
        · simpa using hy
        · have := hs.1 x.d (List.mem_map.2 ⟨x, hx, rfl⟩)
          simp; omega
      rw [e]
      refine ⟨by simp, by simp, fun x hx => ?_⟩
      simp at hx; subst hx; exact hy
theorem seg_of {r : List Iss} {n : Int} (hs : (r.map (·.d)).Pairwise (· ≤ ·)) : ∃ cnt, cnt = (r.filter (fun x => decide (x.d = n))).length ∧ cnt ≤ (r.drop (lowB (r.map (·.d)) n)).length ∧
    (∀ i, i < cnt → (r.filter (fun x => decide (x.d = n)))[i]? = (r.drop (lowB (r.map (·.d)) n))[i]? ∧ ∀ x, (r.drop (lowB (r.map (·.d)) n))[i]? = some x → x.d = n) ∧ (∀ x, (r.drop (lowB (r.map (·.d)) n))[cnt]? = some x → x.d ≠ n) := by
  have e : r.filter (fun x => decide (x.d = n)) = (r.drop (lowB (r.map (·.d)) n)).filter (fun x => decide (x.d = n)) := by
    conv => lhs; rw [← List.take_append_drop (lowB (r.map (·.d)) n) r]
    rw [List.filter_append]
    have : (r.take (lowB (r.map (·.d)) n)).filter (fun x => decide (x.d = n)) = [] := by
      rw [List.filter_eq_nil_iff]
      intro x hx
      obtain ⟨i, hi, rfl⟩ := List.getElem_of_mem hx
      simp only [List.length_take] at hi
      have := (lowB_at hs n i (by simp; omega)).1 (by omega)
      simp only [List.getElem_map] at this
      simp only [List.getElem_take]
      simp; omega
    rw [this, List.nil_append]
  refine ⟨_, rfl, ?_⟩
  rw [e]
  refine seg_all _ ?_ fun x hx => ?_
  · rw [List.map_drop]; exact hs.sublist (List.drop_sublist _ _)
  · obtain ⟨i, hi, rfl⟩ := List.getElem_of_mem hx
    simp only [List.length_drop] at hi
    have q := lowB_at hs n (lowB (r.map (·.d)) n + i) (by simp; omega)
    simp only [List.getElem_map] at q
    simp only [List.getElem_drop]
    by_cases h : r[lowB (r.map (·.d)) n + i].d < n
    · have := q.2 h; omega
    · omega

section
variable {G : Nat → Option (List AV)}
theorem compare_pc (a b : Int) : PC Tryd.prog G 125 [.int .i64 a, .int .i64 b] (.int .i64 (if a < b then -1 else if b < a then 1 else 0)) := by
  (refine pc_cmp_Compare_int (Nat.le_of_ble_eq_true rfl) fun R hG hrd => GO_AR mixed 1000 ?_; subst hG)
  by_cases h1 : a < b
  · simp -implicitDefEqProofs [rc_cmp_Compare_int, rr_cmp_Compare_int]
    (first | refine CallK.of (isNaNc_pc a) (by simp) ?_ | refine CallD.of (isNaNc_pc a) (by simp) ?_)
    simp -implicitDefEqProofs []
    (first | refine CallK.of (isNaNc_pc b) (by simp) ?_ | refine CallD.of (isNaNc_pc b) (by simp) ?_)
    simp -implicitDefEqProofs [h1]
  · by_cases h2 : b < a
    · simp -implicitDefEqProofs [rc_cmp_Compare_int, rr_cmp_Compare_int]
      (first | refine CallK.of (isNaNc_pc a) (by simp) ?_ | refine CallD.of (isNaNc_pc a) (by simp) ?_)
      simp -implicitDefEqProofs []
      (first | refine CallK.of (isNaNc_pc b) (by simp) ?_ | refine CallD.of (isNaNc_pc b) (by simp) ?_)
      simp -implicitDefEqProofs [h1, h2]
    · simp -implicitDefEqProofs [rc_cmp_Compare_int, rr_cmp_Compare_int]
      (first | refine CallK.of (isNaNc_pc a) (by simp) ?_ | refine CallD.of (isNaNc_pc a) (by simp) ?_)
      simp -implicitDefEqProofs []
      (first | refine CallK.of (isNaNc_pc b) (by simp) ?_ | refine CallD.of (isNaNc_pc b) (by simp) ?_)
      simp -implicitDefEqProofs [h1, h2]
theorem issC_pc (x : Iss) (n : Int) : PC Tryd.prog G 124 [.agg (isa x), .int .i64 n] (.int .i64 (if x.d < n then -1 else if n < x.d then 1 else 0)) := by
  (refine pc_sheet_book_issues_1_1 (Nat.le_of_ble_eq_true rfl) fun R hG hrd => GO_AR mixed 1000 ?_; subst hG)
  simp -implicitDefEqProofs [rc_sheet_book_issues_1_1, rr_sheet_book_issues_1_1, isa]
  (first | refine CallK.of (compare_pc _ _) (by simp) ?_ | refine CallD.of (compare_pc _ _) (by simp) ?_)
  simp -implicitDefEqProofs []

theorem bsearchF_pc (r : List Iss) (n : Int) (hs : (r.map (·.d)).Pairwise (· ≤ ·)) (hl : Sml r) : ∃ b, PC Tryd.prog G 123 [.vsl (r.map isa), .int .i64 n, .func (.func 124) [] []] (.tup [.int .i64 (lowB (r.map (·.d)) n), .bool b]) := by
  have hle := lowB_le (r.map (·.d)) n
  simp only [List.length_map] at hle
  refine ⟨if h : lowB (r.map (·.d)) n < r.length then decide ((if r[lowB (r.map (·.d)) n].d < n then (-1 : Int) else if n < r[lowB (r.map (·.d)) n].d then 1 else 0) = 0) else false, ?_⟩
  (refine pc_slices_BinarySearchFunc_api_Issue_api_Issue_int (Nat.le_of_ble_eq_true rfl) fun R hG hrd => GO_AR mixed 1000 ?_; subst hG)
  unfold Sml at hl
  simp -implicitDefEqProofs [rc_slices_BinarySearchFunc_api_Issue_api_Issue_int, rr_slices_BinarySearchFunc_api_Issue_api_Issue_int]
  refine AR_loop (fun p : Nat × Nat => ⟨[(10, .int .i64 p.2), (9, .int .i64 p.1), (8, .int .i64 r.length), (0, .vsl (r.map isa)), (1, .int .i64 n), (2, .func (.func 124) [] [])], []⟩) (fun p => p.1 ≤ lowB (r.map (·.d)) n ∧ lowB (r.map (·.d)) n ≤ p.2 ∧ p.2 ≤ r.length) (fun p => p.2 - p.1) (0, r.length) (by (first | exact Weak.tm (by simp [lk]) | exact Weak.sub (by simp [lk, keptA, AV.keys]) (by simp [lk, keptO, keptA, AV.keys]))) ⟨by omega, hle, Nat.le_refl _⟩ ?_
  rintro ⟨lo, hi⟩ ⟨h1, h2, h3⟩
  simp only at h1 h2 h3
  refine GO_AR mixed 1000 ?_
  by_cases h4 : lo < hi
  · obtain ⟨m, hm⟩ : ∃ m, m = (lo + hi) / 2 := ⟨_, rfl⟩
    have hw := half_wrap (i := lo) (j := hi) (by omega)
    rw [← hm] at hw
    have m1 : m < r.length := by omega
    have w1 : IntKind.i64.wrap ((m : Int) + 1) = ((m + 1 : Nat) : Int) := wrapI (by omega) (by omega)
    have hb := lowB_at hs n m (by simpa using m1)
    simp only [List.getElem_map] at hb
    by_cases h5 : r[m].d < n
    · have c1 : (-1 : Int) < 0 := by omega
      simp -implicitDefEqProofs [h4, hw, m1, isa]
      (first | refine CallK.of (issC_pc r[m] n) (by simp) ?_ | refine CallD.of (issC_pc r[m] n) (by simp) ?_)
      simp -implicitDefEqProofs [h5, w1]
      exact ⟨(m + 1, hi), (by (first | exact Weak.tm (by simp [lk]) | exact Weak.sub (by simp [lk, keptA, AV.keys]) (by simp [lk, keptO, keptA, AV.keys]))), ⟨by have := hb.2 h5; show m + 1 ≤ _; omega, h2, h3⟩, by show hi - (m + 1) < hi - lo; omega⟩
    · simp -implicitDefEqProofs [h4, hw, m1, isa]
      (first | refine CallK.of (issC_pc r[m] n) (by simp) ?_ | refine CallD.of (issC_pc r[m] n) (by simp) ?_)
      by_cases h6 : n < r[m].d
      · simp -implicitDefEqProofs [h5, h6]
        exact ⟨(lo, m), (by (first | exact Weak.tm (by simp [lk]) | exact Weak.sub (by simp [lk, keptA, AV.keys]) (by simp [lk, keptO, keptA, AV.keys]))), ⟨h1, by have : ¬ m < lowB (r.map (·.d)) n := fun h => h5 (hb.1 h); show _ ≤ m; omega, by show m ≤ _; omega⟩, by show m - lo < hi - lo; omega⟩
      · simp -implicitDefEqProofs [h5, h6]
        exact ⟨(lo, m), (by (first | exact Weak.tm (by simp [lk]) | exact Weak.sub (by simp [lk, keptA, AV.keys]) (by simp [lk, keptO, keptA, AV.keys]))), ⟨h1, by have : ¬ m < lowB (r.map (·.d)) n := fun h => h5 (hb.1 h); show _ ≤ m; omega, by show m ≤ _; omega⟩, by show m - lo < hi - lo; omega⟩
  · obtain rfl : lo = lowB (r.map (·.d)) n := by omega
    by_cases h5 : lowB (r.map (·.d)) n < r.length
    · simp -implicitDefEqProofs [h4]
      refine GO_ret mixed 1000 ?_
      simp -implicitDefEqProofs [h5, isa]
      (first | refine CallK.of (issC_pc r[lowB (r.map (·.d)) n] n) (by simp) ?_ | refine CallD.of (issC_pc r[lowB (r.map (·.d)) n] n) (by simp) ?_)
      simp -implicitDefEqProofs []
    · simp -implicitDefEqProofs [h4]
      refine GO_ret mixed 1000 ?_
      simp -implicitDefEqProofs [h5]


/-! The iterator's code in parts. -/
def issA : RCode → RCode
  | .seq a _ => a
  | c => c
def issRest : RCode → RCode
  | .seq _ b => b
  | c => c
def issB1 (c : RCode) : RCode := issA (issRest c)
def issB2 (c : RCode) : RCode := issRest (issRest c)
def issB3 (c : RCode) : RCode := match issB2 c with
  | .block _ b => b
  | c => c
def issL (c : RCode) : RCode := match issB3 c with
  | .loop b => b
  | c => c
def issBk : RCode → RCode
  | .block _ b => b
  | c => c
def issOps : RCode → List ROper
  | .reg _ _ l => l
  | _ => []
/-- The state of the iterator ahead of round i. -/
def itS (seg : List Iss) (bk : AV) (n : Int) (l i : Nat) : List (Nat × AV) :=
  [(26, .int .i64 i), (25, .int .i64 seg.length), (24, .vsl (seg.map isa)), (2, .vptr [.int .i64 n] 0), (1, .vptr [bk] 0), (0, .func (.yield l) [] [])]

theorem issuesIt (r : List Iss) (n : Int) (ds : AV) (hs : (r.map (·.d)).Pairwise (· ≤ ·)) (hl : Sml r) : IterP Tryd.prog 122 [.vptr [.vptr [.vsl (r.map isa), ds] 0] 0, .vptr [.int .i64 n] 0] (elsOf r n) := by
  refine ⟨by kernel_rfl, ?_⟩
  intro n' l lb J K M W hn hJe hKe hJM hC hY h0
  obtain ⟨cnt, hcnt, hc1, hc2, hc3⟩ := seg_of (n := n) hs
  generalize hseg : r.drop (lowB (r.map (·.d)) n) = seg at hc1 hc2 hc3
  have hsl : seg.length ≤ 16777216 := by rw [← hseg]; simp; unfold Sml at hl; omega
  have hle := lowB_le (r.map (·.d)) n
  simp only [List.length_map] at hle
  unfold Sml at hl
  have hel : (elsOf r n).length = cnt := by rw [hcnt]; simp [elsOf]
  obtain ⟨c, hc, hok⟩ : ∃ c, Tryd.f122.body = some c ∧ okCode Tryd.prog Tryd.f122.ntmps c rc_sheet_book_issues_1 = true := ⟨_, rfl, by kernel_rfl⟩
  obtain ⟨N, hN⟩ : ∃ N, N = Tryd.f122.ntmps := ⟨_, rfl⟩
  have hN3 : 3 ≤ N := by rw [hN]; decide
  rw [← hN] at hok
  refine callsIn_of_wp (F := Fence.wide) Tryd.func122 hc trivial ?_ rfl
  have hres : ∀ (tm : Array Value) (W' : World), (results Tryd.f122 tm).run Tryd.prog W' = .ok (.tuple #[]) W' := fun tm W' => by
    have e : Tryd.f122.results = #[] := rfl
    simp [results, e, Sem.run_bind]
  obtain ⟨Q, hQ⟩ : ∃ Q, Q = bodyPost Tryd.prog Tryd.f122 (fun e W' => (∃ v, e = .returned v) ∧ ((∃ M, J (elsOf r n).length M W') ∨ K W')) := ⟨_, rfl⟩
  have hfin : ∀ (a : Act) (W' : World), a.defers = [] → ((∃ M, J (elsOf r n).length M W') ∨ K W') → Q .ret a W' ∧ Q .normal a W' := fun a W' hd h => by
    rw [hQ]; exact ⟨⟨hd, _, hres _ _, ⟨_, rfl⟩, h⟩, ⟨hd, _, hres _ _, ⟨_, rfl⟩, h⟩⟩
  rw [← hQ]
  have hwide : Fence.wide = FW none := rfl
  rw [hwide]
  -- the code's parts
  obtain ⟨cA, c1, rfl, okA', ok1⟩ := okC_seq (a := issA rc_sheet_book_issues_1) (b := issRest rc_sheet_book_issues_1) hok
  obtain ⟨cB, c2, rfl, okB', ok2⟩ := okC_seq (a := issB1 rc_sheet_book_issues_1) (b := issB2 rc_sheet_book_issues_1) ok1
  obtain ⟨c3, rfl, ok3⟩ := okC_block (id := 0) (a := issB3 rc_sheet_book_issues_1) ok2
  obtain ⟨c4, rfl, ok4⟩ := okC_loop (a := issL rc_sheet_book_issues_1) ok3
  -- the arguments
  have hbk : ∃ v1 v2, lb = #[v1, v2] ∧ PV M W (.vptr [.vptr [.vsl (r.map isa), ds] 0] 0) v1 ∧ PV M W (.vptr [.int .i64 n] 0) v2 := by
    obtain ⟨h1, h2⟩ := hC
    match lb, h1, h2 with
    | ⟨[v1, v2]⟩, _, h2 => exact ⟨v1, v2, rfl, h2 0 _ v1 rfl rfl, h2 1 _ v2 rfl rfl⟩
  obtain ⟨v1, v2, rfl, hv1, hv2⟩ := hbk
  obtain ⟨bk, hbk⟩ : ∃ bk, bk = AV.vptr [.vsl (r.map isa), ds] 0 := ⟨_, rfl⟩
  rw [← hbk] at hv1
  -- up to the loop
  have start : SR (freshR M W N none) ⟨[(2, .vptr [.int .i64 n] 0), (1, .vptr [bk] 0), (0, .func (.yield l) [] [])], []⟩ { tmps := (#[.func (.yield l) #[] #[]] ++ #[v1, v2] : Array Value) ++ Array.replicate (N - 3) Go.undef, defers := [] } W := by
    refine fresh_start (hJM 0 M W h0) rfl (by simp; omega) fun k x hx => ?_
    have g0 : ((#[.func (.yield l) #[] #[]] ++ #[v1, v2] : Array Value) ++ Array.replicate (N - 3) Go.undef).getD 0 Go.undef = .func (.yield l) #[] #[] := by simp [Array.getD]
    have g1 : ((#[.func (.yield l) #[] #[]] ++ #[v1, v2] : Array Value) ++ Array.replicate (N - 3) Go.undef).getD 1 Go.undef = v1 := by simp [Array.getD]; omega
    have g2 : ((#[.func (.yield l) #[] #[]] ++ #[v1, v2] : Array Value) ++ Array.replicate (N - 3) Go.undef).getD 2 Go.undef = v2 := by simp [Array.getD]; omega
    simp only [lk] at hx
    split at hx
    · rename_i e; subst e; cases hx; rw [g2]; exact hv2
    · split at hx
      · rename_i e; subst e; cases hx; rw [g1]; exact hv1
      · split at hx
        · rename_i e; subst e; cases hx; rw [g0]; exact .func _ [] [] #[] #[] rfl rfl (by simp) (by simp)
        · cases hx
  have hact : ({ tmps := (#[.func (.yield l) #[] #[]] ++ #[v1, v2] : Array Value) ++ Array.replicate (Tryd.f122.ntmps - (#[.func (.yield l) #[] #[]] ++ #[v1, v2] : Array Value).size) Go.undef, defers := [] } : Act) = { tmps := (#[.func (.yield l) #[] #[]] ++ #[v1, v2] : Array Value) ++ Array.replicate (N - 3) Go.undef, defers := [] } := by rw [hN]; rfl
  rw [hact]
  have arA : AR Tryd.prog (freshR M W N none) (issA rc_sheet_book_issues_1) ⟨[(2, .vptr [.int .i64 n] 0), (1, .vptr [bk] 0), (0, .func (.yield l) [] [])], []⟩ (fun e s => e = .normal ∧ Weak s ⟨[(4, .int .i64 (lowB (r.map (·.d)) n)), (2, .vptr [.int .i64 n] 0), (1, .vptr [bk] 0), (0, .func (.yield l) [] [])], []⟩) := by
    obtain ⟨b, hb⟩ := bsearchF_pc (G := fun _ => none) r n hs hl
    refine GO_AR mixed 1000 ?_
    simp -implicitDefEqProofs [issA, rc_sheet_book_issues_1, hbk]
    refine CallD.of hb (by simp [AV.pure]) ?_
    simp -implicitDefEqProofs []
    exact ⟨rfl, (by (first | exact Weak.tm (by simp [lk]) | exact Weak.sub (by simp [lk, keptA, AV.keys]) (by simp [lk, keptO, keptA, AV.keys])))⟩
  have hdr : List.drop (lowB (r.map (·.d)) n) (r.map isa) = seg.map isa := by rw [← List.map_drop, hseg]
  have hsg : seg.length = r.length - lowB (r.map (·.d)) n := by rw [← hseg]; simp
  have htk : List.take r.length (r.map isa) = r.map isa := List.take_of_length_le (by simp)
  have k5 : (r.map isa).all (fun r => r.length == 5) = true := by simp [isa]
  have arB : ∀ R' : Run, AR Tryd.prog R' (issB1 rc_sheet_book_issues_1) ⟨[(4, .int .i64 (lowB (r.map (·.d)) n)), (2, .vptr [.int .i64 n] 0), (1, .vptr [bk] 0), (0, .func (.yield l) [] [])], []⟩ (fun e s => e = .normal ∧ Weak s ⟨itS seg bk n l 0, []⟩) := fun R' => by
    refine GO_AR mixed 1000 ?_
    simp -implicitDefEqProofs [issA, issB1, issRest, rc_sheet_book_issues_1, hbk, hle, k5, hdr]
    exact (by (first | exact Weak.tm (by simp [lk, itS, hsg, htk, hdr]) | exact Weak.sub (by simp [lk, keptA, AV.keys, itS, hsg, htk, hdr]) (by simp [lk, keptO, keptA, AV.keys, itS, hsg, htk, hdr])))
  refine wpIn_seq (wpIn_mono (arA cA okA' _ _ W start) ?_)
  rintro e a1 W1 ⟨s1, ⟨rfl, hw1⟩, hs1⟩
  refine wpIn_seq (wpIn_mono (arB _ cB okB' _ a1 W1 (hw1 _ _ _ hs1)) ?_)
  rintro e a2 W2 ⟨s2, ⟨rfl, hw2⟩, hs2⟩
  obtain ⟨d2, n2, t2, e2⟩ := fresh_end hs2 hw2 (by simp [itS, AV.pure, hbk])
  have hJ2 := hJe _ _ _ _ h0 e2
  clear hs2 hw2 hs1 hw1 arA arB start hact
  refine wpIn_block ?_
  refine wpIn_loop_ghost (fun m a A => ∃ i M, i ≤ cnt ∧ m = seg.length - i ∧ J i M A ∧ a.defers = [] ∧ a.tmps.size = N ∧ TT' M A (itS seg bk n l i) a) seg.length ⟨0, M, Nat.zero_le _, by simp, hJ2, d2, n2, t2⟩ ?_
  clear hJ2 d2 n2 t2 e2 h0 hv1 hv2 hC
  rintro m a A ⟨i, M, hi, rfl, hJ, hd, hn2, ht⟩
  have hfr : SR (freshR M A N none) ⟨itS seg bk n l i, []⟩ a A := fresh_start (hJM i M A hJ) hd hn2 ht
  by_cases hlt : i < seg.length
  case neg =>
    have hic : i = cnt := by omega
    subst hic
    have ar : ∀ R' : Run, AR Tryd.prog R' (issL rc_sheet_book_issues_1) ⟨itS seg bk n l i, []⟩ (fun e s => e = .exit 0 ∧ Weak s ⟨[], []⟩) := fun R' => by
      refine GO_AR mixed 1000 ?_
      simp -implicitDefEqProofs [issL, issB3, issB2, issRest, rc_sheet_book_issues_1, itS, hlt]
      exact (by (first | exact Weak.tm (by simp [lk]) | exact Weak.sub (by simp [lk, keptA, AV.keys]) (by simp [lk, keptO, keptA, AV.keys])))
    refine wpIn_mono (ar _ c4 ok4 _ a A hfr) ?_
    rintro e a3 A3 ⟨s3, ⟨rfl, hw3⟩, hs3⟩
    obtain ⟨d3, -, -, e3⟩ := fresh_end hs3 hw3 (by simp)
    refine (hfin a3 A3 d3 (.inl ⟨M, ?_⟩)).2
    rw [hel]; exact hJe _ _ _ _ hJ e3
  by_cases hd2 : seg[i].d = n
  case neg =>
    have hic : i = cnt := by
      by_cases e : i < cnt
      · exact absurd ((hc2 i e).2 _ (List.getElem?_eq_getElem hlt)) hd2
      · omega
    subst hic
    have ar : ∀ R' : Run, AR Tryd.prog R' (issL rc_sheet_book_issues_1) ⟨itS seg bk n l i, []⟩ (fun e s => e = .ret ∧ Weak s ⟨[], []⟩) := fun R' => by
      refine GO_AR mixed 1000 ?_
      simp -implicitDefEqProofs [issL, issB3, issB2, issRest, rc_sheet_book_issues_1, itS, hlt, isa, hd2]
      exact (by (first | exact Weak.tm (by simp [lk]) | exact Weak.sub (by simp [lk, keptA, AV.keys]) (by simp [lk, keptO, keptA, AV.keys])))
    refine wpIn_mono (ar _ c4 ok4 _ a A hfr) ?_
    rintro e a3 A3 ⟨s3, ⟨rfl, hw3⟩, hs3⟩
    obtain ⟨d3, -, -, e3⟩ := fresh_end hs3 hw3 (by simp)
    refine (hfin a3 A3 d3 (.inl ⟨M, ?_⟩)).1
    rw [hel]; exact hJe _ _ _ _ hJ e3
  have hic : i < cnt := by
    by_cases e : i < cnt
    · exact e
    · exact absurd hd2 (hc3 _ (by rw [show cnt = i by omega]; exact List.getElem?_eq_getElem hlt))
  have helt : (elsOf r n)[i]? = some (.agg (isa seg[i])) := by
    simp only [elsOf, List.getElem?_map, (hc2 i hic).1, List.getElem?_eq_getElem hlt, Option.map_some]
  obtain ⟨L, hL⟩ : ∃ L, L = issL rc_sheet_book_issues_1 := ⟨_, rfl⟩
  obtain ⟨r2, q1, rfl, okr2, okq1⟩ := okC_seq (a := issA (issL rc_sheet_book_issues_1)) (b := issRest (issL rc_sheet_book_issues_1)) ok4
  obtain ⟨k1, q2, rfl, okk1, okq2⟩ := okC_seq (a := issA (issRest (issL rc_sheet_book_issues_1))) (b := issRest (issRest (issL rc_sheet_book_issues_1))) okq1
  obtain ⟨q3, r5, rfl, okq3, okr5⟩ := okC_seq (a := issA (issRest (issRest (issL rc_sheet_book_issues_1)))) (b := issRest (issRest (issRest (issL rc_sheet_book_issues_1)))) okq2
  obtain ⟨q4, rfl, okq4⟩ := okC_block (id := 1) (a := issBk (issA (issRest (issRest (issL rc_sheet_book_issues_1))))) okq3
  obtain ⟨r3, q5, rfl, okr3, okq5⟩ := okC_seq (a := issA (issBk (issA (issRest (issRest (issL rc_sheet_book_issues_1)))))) (b := issRest (issBk (issA (issRest (issRest (issL rc_sheet_book_issues_1)))))) okq4
  obtain ⟨r4, k2, rfl, okr4, okk2⟩ := okC_seq (a := issA (issRest (issBk (issA (issRest (issRest (issL rc_sheet_book_issues_1))))))) (b := issRest (issRest (issBk (issA (issRest (issRest (issL rc_sheet_book_issues_1))))))) okq5
  obtain ⟨ops, rfl, hops⟩ := okC_reg (id := 4) (rs := issOps (issA (issRest (issBk (issA (issRest (issRest (issL rc_sheet_book_issues_1)))))))) okr4
  obtain ⟨hol, hoo⟩ := allB2_spec hops
  have hol : ops.size = 10 := hol
  -- the test
  have ar2 : AR Tryd.prog (freshR M A N none) (issA (issL rc_sheet_book_issues_1)) ⟨itS seg bk n l i, []⟩ (fun e s => e = .normal ∧ Weak s ⟨(27, .bool true) :: itS seg bk n l i, []⟩) := by
    refine GO_AR mixed 1000 ?_
    simp -implicitDefEqProofs [issL, issB3, issB2, issA, issRest, rc_sheet_book_issues_1, itS, hlt]
    exact (by (first | exact Weak.tm (by simp [lk]) | exact Weak.sub (by simp [lk, keptA, AV.keys]) (by simp [lk, keptO, keptA, AV.keys])))
  refine wpIn_seq (wpIn_mono (ar2 r2 okr2 _ a A hfr) ?_)
  rintro e b1 B1 ⟨s1, ⟨rfl, w1⟩, hs1⟩
  have ark : AR Tryd.prog (freshR M A N none) (issA (issRest (issL rc_sheet_book_issues_1))) ⟨(27, .bool true) :: itS seg bk n l i, []⟩ (fun e s => e = .normal ∧ Weak s ⟨itS seg bk n l i, []⟩) := by
    refine GO_AR mixed 1000 ?_
    simp -implicitDefEqProofs [issL, issB3, issB2, issA, issRest, rc_sheet_book_issues_1, itS]
    exact (by (first | exact Weak.tm (by simp [lk]) | exact Weak.sub (by simp [lk, keptA, AV.keys]) (by simp [lk, keptO, keptA, AV.keys])))
  refine wpIn_seq (wpIn_mono (ark k1 okk1 _ b1 B1 (w1 _ _ _ hs1)) ?_)
  rintro e b2 B2 ⟨s2, ⟨rfl, w2⟩, hs2⟩
  refine wpIn_seq (wpIn_block ?_)
  have ar3 : AR Tryd.prog (freshR M A N none) (issA (issBk (issA (issRest (issRest (issL rc_sheet_book_issues_1)))))) ⟨itS seg bk n l i, []⟩ (fun e s => e = .normal ∧ Weak s ⟨(7, .ptr 7 0) :: itS seg bk n l i, [(7, .box (isa seg[i]))]⟩) := by
    refine GO_AR mixed 1000 ?_
    simp -implicitDefEqProofs [issL, issB3, issB2, issA, issRest, issBk, rc_sheet_book_issues_1, itS, hlt, isa]
    exact (by (first | exact Weak.tm (by simp [lk]) | exact Weak.sub (by simp [lk, keptA, AV.keys]) (by simp [lk, keptO, keptA, AV.keys])))
  refine wpIn_seq (wpIn_mono (ar3 r3 okr3 _ b2 B2 (w2 _ _ _ hs2)) ?_)
  rintro e b3 B3 ⟨s3, ⟨rfl, w3⟩, hs3⟩
  have hs3 := w3 _ _ _ hs3
  clear hs1 hs2 w1 w2 w3 ar2 ark ar3
  refine wpIn_seq (wpIn_region ?_)
  have hrg : List.range ops.size = [0, 1, 2, 3, 4, 5, 6] ++ [7, 8, 9] := by rw [hol]; rfl
  rw [hrg]
  have okAt : ∀ (k : Nat) (r : ROper), (issOps (issA (issRest (issBk (issA (issRest (issRest (issL rc_sheet_book_issues_1))))))))[k]? = some r → ∃ o, ops[k]? = some o ∧ okOper Tryd.prog N ops o r = true := fun k r hk => by
    have hlt : k < ops.size := by
      have := (List.getElem?_eq_some_iff.1 hk).1
      rw [hol]; exact this
    exact ⟨ops[k], by simp [hlt], hoo k _ r (by simp [hlt]) hk⟩
  refine reg_simK (R := freshR M A N none) [7, 8, 9] _ ((issOps (issA (issRest (issBk (issA (issRest (issRest (issL rc_sheet_book_issues_1)))))))).take 7) ⟨(7, .ptr 7 0) :: itS seg bk n l i, [(7, .box (isa seg[i]))]⟩
    (fun s => Weak s ⟨(36, .agg (isa seg[i])) :: (35, .func (.yield l) [] []) :: (34, .bool false) :: itS seg bk n l i, []⟩) b3 B3 ?_ rfl ?_ ?_ hs3
  · intro k r hk
    rw [List.getElem?_take] at hk
    split at hk
    · rename_i h7
      obtain ⟨o, h1, h2⟩ := okAt k r hk
      refine ⟨k, o, ?_, h1, h2⟩
      match k, h7 with
      | 0, _ | 1, _ | 2, _ | 3, _ | 4, _ | 5, _ | 6, _ => rfl
    · cases hk
  · intro s4 b4 B4 w4 hs4
    obtain ⟨κ4, hk4⟩ := w4 _ _ _ hs4
    obtain ⟨d4, n4, t4, e4⟩ := fresh_end hs4 w4 (by simp [itS, AV.pure, hbk, isa])
    obtain ⟨o7, ho7, hk7⟩ := okAt 7 _ rfl
    rw [wpOpsIn_cons]
    refine yield_sim (R := freshR M A N none) (l := l) (f := .t 35) (y := .t 36) rfl (by simp [evA, St.tmp, lk]) (by simp [wants, St.tmp, lk]) ho7 hk7 hk4 fun u hu => ?_
    have hpu : PV M B4 (.agg (isa seg[i])) u := by
      have h36 : evA (freshR M A N none).G ⟨(36, .agg (isa seg[i])) :: (35, .func (.yield l) [] []) :: (34, .bool false) :: itS seg bk n l i, []⟩ (.t 36) = .agg (isa seg[i]) := by simp [evA, St.tmp, lk]
      rw [h36] at hu
      exact (hu.toPV (by simp [AV.pure, isa])).mono (fun b _ hb => ⟨fun h => hb (.inl h), rfl⟩) (Nat.le_refl _)
    have hdst : o7.dst = some 37 := by
      simp only [okOper, Bool.and_eq_true, decide_eq_true_eq] at hk7
      exact hk7.1.1.1
    have h34 : b4.tmps.getD 34 Go.undef = .bool false := by
      have := t4 34 (.bool false) (by simp [lk])
      generalize b4.tmps.getD 34 Go.undef = v at this
      cases this; rfl
    have suffix : ∀ (b : Bool) (T : List (Nat × AV)) (M' : Nat → Prop) (A' : World), (T = itS seg bk n l i ∨ T = []) → (∀ x, M' x → x < A'.heap.size) → TT' M' A' T b4 → ∀ (Qx : Exit → Act → World → Prop),
        (∀ a5 A5, SR (freshR M' A' N none) ⟨(39, .bool (!b)) :: T, []⟩ a5 A5 → Qx .normal a5 A5) → wpOpsIn (FW none) n' Tryd.prog ops Qx [8, 9] (b4.put (some 37) (.bool b)) A' := by
      intro b T M' A' hTT hM' hT Qx hQx
      have n37 : 37 < N := by rw [hN]; decide
      have hsr : SR (freshR M' A' N none) ⟨(37, .bool b) :: (34, .bool false) :: T, []⟩ (b4.put (some 37) (.bool b)) A' := by
        refine fresh_start hM' d4 (by simpa [Act.put] using n4) fun k x hx => ?_
        show PV M' A' x ((b4.tmps.setIfInBounds 37 (.bool b)).getD k Go.undef)
        simp only [lk] at hx
        split at hx
        · rename_i e
          subst e
          cases hx
          have : (b4.tmps.setIfInBounds 37 (.bool b)).getD 37 Go.undef = .bool b := by simp [Array.getD, n4, n37]
          rw [this]; exact .bool b
        · rename_i e
          have h3 : (b4.tmps.setIfInBounds 37 (.bool b)).getD k Go.undef = b4.tmps.getD k Go.undef := by
            simp only [Array.getD_eq_getD_getElem?, Array.getElem?_setIfInBounds, if_neg e]
          rw [h3]
          split at hx
          · rename_i e2; subst e2; cases hx; rw [h34]; exact .bool false
          · exact hT k x hx
      refine reg_sim (R := freshR M' A' N none) [8, 9] ((issOps (issA (issRest (issBk (issA (issRest (issRest (issL rc_sheet_book_issues_1)))))))).drop 8) ⟨(37, .bool b) :: (34, .bool false) :: T, []⟩
        (fun e s => e = .normal ∧ Weak s ⟨(39, .bool (!b)) :: T, []⟩) Qx _ A' ?_ rfl ?_ ?_ hsr
      · intro k r hk
        rw [List.getElem?_drop] at hk
        obtain ⟨o, h1, h2⟩ := okAt (8 + k) r hk
        have h7 : k < 2 := by
          have := (List.getElem?_eq_some_iff.1 hk).1
          have e : (issOps (issA (issRest (issBk (issA (issRest (issRest (issL rc_sheet_book_issues_1)))))))).length = 10 := rfl
          omega
        refine ⟨8 + k, o, ?_, h1, h2⟩
        match k, h7 with
        | 0, _ | 1, _ => rfl
      · rintro e s5 a5 A5 ⟨rfl, w5⟩ hs5
        exact hQx a5 A5 (w5 _ _ _ hs5)
      · rcases hTT with rfl | rfl <;> cases b
        all_goals
          simp -implicitDefEqProofs [issL, issB3, issB2, issA, issRest, issBk, issOps, rc_sheet_book_issues_1, itS]
          exact (by (first | exact Weak.tm (by simp [lk]) | exact Weak.sub (by simp [lk, keptA, AV.keys]) (by simp [lk, keptO, keptA, AV.keys])))
    obtain ⟨fn, tm, asg, bo, y1, y2⟩ := hY i _ u M B4 (hJe _ _ _ _ hJ e4) helt hpu
    refine ⟨fn, tm, asg, bo, y1, y2.mono ?_⟩
    rintro e A' (⟨rfl, M', hJ', hSi⟩ | ⟨rfl, hK'⟩)
    · show wpOpsIn (FW none) n' Tryd.prog ops _ [8, 9] (b4.put o7.dst (.bool true)) A'
      rw [hdst]
      have hT' : TT' M' A' (itS seg bk n l i) b4 := fun k x hx => by
        refine (t4 k x ?_).mono hSi.2 hSi.1
        simp only [lk]
        rw [if_neg (by rintro rfl; simp [itS, lk] at hx), if_neg (by rintro rfl; simp [itS, lk] at hx), if_neg (by rintro rfl; simp [itS, lk] at hx)]
        exact hx
      refine suffix true _ M' A' (.inl rfl) (hJM _ _ _ hJ') hT' _ fun a5 A5 h5 => ?_
      have ark2 : AR Tryd.prog (freshR M' A' N none) (issRest (issRest (issBk (issA (issRest (issRest (issL rc_sheet_book_issues_1))))))) ⟨(39, .bool (!true)) :: itS seg bk n l i, []⟩ (fun e s => e = .normal ∧ Weak s ⟨itS seg bk n l i, []⟩) := by
        refine GO_AR mixed 1000 ?_
        simp -implicitDefEqProofs [issL, issB3, issB2, issA, issRest, issBk, rc_sheet_book_issues_1, itS]
        exact (by (first | exact Weak.tm (by simp [lk]) | exact Weak.sub (by simp [lk, keptA, AV.keys]) (by simp [lk, keptO, keptA, AV.keys])))
      refine wpIn_mono (ark2 k2 okk2 _ a5 A5 h5) ?_
      rintro e b6 B6 ⟨s6, ⟨rfl, w6⟩, hs6⟩
      have ar5 : AR Tryd.prog (freshR M' A' N none) (issRest (issRest (issRest (issL rc_sheet_book_issues_1)))) ⟨itS seg bk n l i, []⟩ (fun e s => e = .normal ∧ Weak s ⟨itS seg bk n l (i + 1), []⟩) := by
        have w1 : IntKind.i64.wrap ((i : Int) + 1) = ((i + 1 : Nat) : Int) := wrapI (by omega) (by omega)
        refine GO_AR mixed 1000 ?_
        simp -implicitDefEqProofs [issL, issB3, issB2, issA, issRest, issBk, rc_sheet_book_issues_1, itS, w1]
        exact (by (first | exact Weak.tm (by simp [lk]) | exact Weak.sub (by simp [lk, keptA, AV.keys]) (by simp [lk, keptO, keptA, AV.keys])))
      refine wpIn_mono (ar5 r5 okr5 _ b6 B6 (w6 _ _ _ hs6)) ?_
      rintro e b7 B7 ⟨s7, ⟨rfl, w7⟩, hs7⟩
      obtain ⟨d7, n7, t7, e7⟩ := fresh_end hs7 w7 (by simp [itS, AV.pure, hbk])
      exact ⟨seg.length - (i + 1), by omega, i + 1, M', by omega, rfl, hJe _ _ _ _ hJ' e7, d7, n7, t7⟩
    · show wpOpsIn (FW none) n' Tryd.prog ops _ [8, 9] (b4.put o7.dst (.bool false)) A'
      rw [hdst]
      refine suffix false [] (fun _ => False) A' (.inr rfl) (fun _ h => h.elim) (fun k x hx => by simp [lk] at hx) _ fun a5 A5 h5 => ?_
      have ark2 : AR Tryd.prog (freshR (fun _ => False) A' N none) (issRest (issRest (issBk (issA (issRest (issRest (issL rc_sheet_book_issues_1))))))) ⟨[(39, .bool (!false))], []⟩ (fun e s => e = .ret ∧ Weak s ⟨[], []⟩) := by
        refine GO_AR mixed 1000 ?_
        simp -implicitDefEqProofs [issL, issB3, issB2, issA, issRest, issBk, rc_sheet_book_issues_1]
        exact (by (first | exact Weak.tm (by simp [lk]) | exact Weak.sub (by simp [lk, keptA, AV.keys]) (by simp [lk, keptO, keptA, AV.keys])))
      refine wpIn_mono (ark2 k2 okk2 _ a5 A5 h5) ?_
      rintro e b6 B6 ⟨s6, ⟨rfl, w6⟩, hs6⟩
      obtain ⟨d6, -, -, e6⟩ := fresh_end hs6 w6 (by simp)
      exact (hfin b6 B6 d6 (.inr (hKe _ _ hK' e6))).1
  · simp -implicitDefEqProofs [issL, issB3, issB2, issA, issRest, issBk, issOps, rc_sheet_book_issues_1, itS, isa, hd2]
    exact (by (first | exact Weak.tm (by simp [lk]) | exact Weak.sub (by simp [lk, keptA, AV.keys]) (by simp [lk, keptO, keptA, AV.keys])))
end
end Go.Proofs.YtdpmioiamcgfkaaDoor

/-! Books: whether there is a drawing; issues; the last letter; an issue, by the abstract machine. -/
namespace Go.Proofs.YtdpmioiamcgfkaaDoor
open Go.RowKit

/-- A book, as a tree. -/
def bkA (r : List Iss) (ds : List Int) : AV := .vptr [.vsl (r.map isa), .vsl (ds.map ia)] 0
theorem bkA_pure (r : List Iss) (ds : List Int) : (bkA r ds).pure = true := by simp [bkA, AV.pure]
attribute [simp] bkA_pure

section
variable {G : Nat → Option (List AV)}

theorem has_pc (r : List Iss) (ds : List Int) (n : Int) (hs : ds.Pairwise (· ≤ ·)) (hl : Sml ds) : PC Tryd.prog G 104 [bkA r ds, .int .i64 n] (.bool (decide (n ∈ ds))) := by
  (refine pc_sheet_book_has (Nat.le_of_ble_eq_true rfl) fun R hG hrd => GO_AR mixed 1000 ?_; subst hG)
  simp -implicitDefEqProofs [rc_sheet_book_has, rr_sheet_book_has, bkA]
  (first | refine CallK.of (bsearch_pc ds n hs hl) (by simp) ?_ | refine CallD.of (bsearch_pc ds n hs hl) (by simp) ?_)
  simp -implicitDefEqProofs []

theorem openC_pc (r : List Iss) (ds : List Int) (y : Int × Int) (hs : ds.Pairwise (· ≤ ·)) (hl : Sml ds) : PC Tryd.prog G 103 [.agg [.int .i64 y.1, .int .i64 y.2], .vptr [bkA r ds] 0] (.bool (!decide (y.1 ∈ ds))) := by
  (refine pc_sheet_open_1 (Nat.le_of_ble_eq_true rfl) fun R hG hrd => GO_AR mixed 1000 ?_; subst hG)
  simp -implicitDefEqProofs [rc_sheet_open_1, rr_sheet_open_1]
  (first | refine CallK.of (has_pc r ds y.1 hs hl) (by simp) ?_ | refine CallD.of (has_pc r ds y.1 hs hl) (by simp) ?_)
  simp -implicitDefEqProofs []

theorem issues_pc (r : List Iss) (ds : List Int) (n : Int) : PC Tryd.prog G 105 [bkA r ds, .int .i64 n] (.func (.func 122) [] [.vptr [bkA r ds] 0, .vptr [.int .i64 n] 0]) := by
  (refine pc_sheet_book_issues (Nat.le_of_ble_eq_true rfl) fun R hG hrd => GO_AR mixed 1000 ?_; subst hG)
  simp -implicitDefEqProofs [rc_sheet_book_issues, rr_sheet_book_issues, bkA]

/-- How many issues a drawing has. -/
def cntV (r : List Iss) (n : Int) : Int := ((r.filter (fun x => decide (x.d = n))).length : Nat)

theorem last_pc (r : List Iss) (ds : List Int) (n : Int) (hs : (r.map (·.d)).Pairwise (· ≤ ·)) (hl : Sml r) : PC Tryd.prog G 69 [bkA r ds, .int .i64 n] (.int .i64 (cntV r n)) := by
  (refine pc_sheet_book_last (Nat.le_of_ble_eq_true rfl) fun R hG hrd => GO_AR mixed 1000 ?_; subst hG)
  simp -implicitDefEqProofs [rc_sheet_book_last, rr_sheet_book_last]
  (first | refine CallK.of (issues_pc r ds n) (by simp) ?_ | refine CallD.of (issues_pc r ds n) (by simp) ?_)
  simp -implicitDefEqProofs []
  have hel : (elsOf r n).length = (r.filter (fun x => decide (x.d = n))).length := by simp [elsOf]
  have hle : (r.filter (fun x => decide (x.d = n))).length ≤ 16777216 := Nat.le_trans (List.length_filter_le _ _) hl
  refine AR_rngf hrd (issuesIt r n (.vsl (ds.map ia)) hs hl) (by simp [evA, St.tmp, lk, bkA]) (by simp [AV.pure]) (fun k => if k = 1000 then 5 else k) [(5, .ptr 1000 0)] (fun k => [(1000, .box [.int .i64 k])]) [1000] (fun _ => True) trivial (fun _ => rfl) (by simp) (by simp) (by simp [setsB, St.set, putO, AObj.ren, AV.ren]) (by simp [keptO, keptA, AV.keys]) (by simp [lk, AV.ren, AV.keys]) ?_ ?_
  · intro k x hx _ R' hG hN
    refine GO_AR mixed 1000 ?_
    simp -implicitDefEqProofs []
    intro R'' hG'' hN''
    refine GO_AR mixed 1000 ?_
    have hk : k < (elsOf r n).length := (List.getElem?_eq_some_iff.1 hx).1
    have w1 : IntKind.i64.wrap ((k : Int) + 1) = ((k + 1 : Nat) : Int) := wrapI (by omega) (by omega)
    simp -implicitDefEqProofs [w1, RndB, frzSt, newK, frzO, frzA, frz, AV.keys]
  · intro _
    simp -implicitDefEqProofs [setsB, AObj.ren, AV.ren]
    refine GO_ret mixed 1000 ?_
    simp -implicitDefEqProofs [hel, cntV]

theorem find_pcS (r : List Iss) (ds : List Int) (d l : Int) (hs : (r.map (·.d)).Pairwise (· ≤ ·)) (hl : Sml r) (hu : ∀ y ∈ r, findN y.d y.l r = some y) : PC Tryd.prog G 72 [bkA r ds, .agg [.int .i64 d, .int .i64 l]] (fndA (findN d l r)) := by
  (refine pc_sheet_book_find (Nat.le_of_ble_eq_true rfl) fun R hG hrd => GO_AR mixed 1000 ?_; subst hG)
  simp -implicitDefEqProofs [rc_sheet_book_find, rr_sheet_book_find]
  (first | refine CallK.of (issues_pc r ds d) (by simp) ?_ | refine CallD.of (issues_pc r ds d) (by simp) ?_)
  simp -implicitDefEqProofs []
  refine AR_rngf hrd (issuesIt r d (.vsl (ds.map ia)) hs hl) (by simp [evA, St.tmp, lk, bkA]) (by simp [AV.pure]) (fun k => k - 1000) [(3, .ptr 1003 0), (4, .ptr 1004 0), (5, .ptr 1005 0)] (fun _ => [(1003, .box [.int .i64 d, .int .i64 l]), (1004, .box [.int .i64 0, .int .i64 0, .int .u8 0, .nils, .nils]), (1005, .box [.bool false])])
    [1003, 1004, 1005] (fun k => ∀ j, j < k → ∀ y, (r.filter (fun x => decide (x.d = d)))[j]? = some y → y.l ≠ l) (by simp) (fun _ => rfl) (by simp) (by simp) (by simp [setsB, St.set, putO, AObj.ren, AV.ren]) (by simp [keptO, keptA, AV.keys]) (by simp [lk, AV.ren, AV.keys]) ?_ ?_
  · intro k x hx hI R' hG hN
    obtain ⟨y, hy, rfl⟩ : ∃ y, (r.filter (fun x => decide (x.d = d)))[k]? = some y ∧ x = .agg (isa y) := by
      simp only [elsOf, List.getElem?_map, Option.map_eq_some_iff] at hx
      obtain ⟨y, h1, h2⟩ := hx
      exact ⟨y, h1, h2.symm⟩
    have hym := List.mem_filter.1 (List.mem_of_getElem? hy)
    have hyd : y.d = d := of_decide_eq_true hym.2
    refine GO_AR mixed 1000 ?_
    simp -implicitDefEqProofs [isa]
    intro R'' hG'' hN''
    refine GO_AR mixed 1000 ?_
    simp -implicitDefEqProofs []
    (first | refine CallK.of (name_pc y) (by simp) ?_ | refine CallD.of (name_pc y) (by simp) ?_)
    simp -implicitDefEqProofs []
    refine ⟨rfl, ?_⟩
    by_cases e : y.l = l
    · simp -implicitDefEqProofs [hyd, e, RndB, frzSt, newK, frzO, frzA, frz, AV.keys, setsB, AObj.ren, AV.ren]
      refine GO_ret mixed 1000 ?_
      have hf : findN d l r = some y := by
        have := hu y hym.1
        rw [hyd, e] at this; exact this
      simp -implicitDefEqProofs [hf, fndA, isa, hyd, e]
    · simp -implicitDefEqProofs [hyd, e, RndB, frzSt, newK, frzO, frzA, frz, AV.keys]
      intro j hj z hz
      by_cases e2 : j = k
      · subst e2; rw [hy] at hz; cases hz; exact e
      · exact hI j (by omega) z hz
  · intro hI
    have hn : findN d l r = none := by
      cases hf : findN d l r with
      | none => rfl
      | some y =>
        obtain ⟨h1, h2, h3⟩ := findN_mem hf
        obtain ⟨j, hj, he⟩ := List.getElem_of_mem (show y ∈ r.filter (fun x => decide (x.d = d)) from List.mem_filter.2 ⟨h1, decide_eq_true h2⟩)
        exact absurd h3 (hI j (by simp [elsOf]; exact hj) y (by rw [List.getElem?_eq_getElem hj, he]))
    simp -implicitDefEqProofs [setsB, AObj.ren, AV.ren]
    refine GO_ret mixed 1000 ?_
    simp -implicitDefEqProofs [hn, fndA, noIs]
end
end Go.Proofs.YtdpmioiamcgfkaaDoor
