/-
  The abstract machine's code of functions of the program, as a program of ours printed it; that it is theirs is proved beside each.
-/
import Derived.Test.YtdpmioiamcgfkaaDoorJAmPToOpen
import Derived.Test.YtdpmioiamcgfkaaDoorProg
import Derived.Test.YtdpmioiamcgfkaaDoorJAmIToAmO
set_option linter.unusedSimpArgs false
set_option linter.unusedVariables false
namespace Go.Proofs.YtdpmioiamcgfkaaDoor
open Go.RowKit

def rc_ref02_CountOf : RCode :=
  .seq (.reg 0 false [ { d := some 2, op := .box (.t 0) }, { d := some 4, op := .mov (.c (.int .i64 0)) }]) (.seq
 (.seq (.reg 1 false [ { d := some 5, op := .mov (.c (.int .i64 0)) }]) (.block 0 (.loop (.seq
 (.seq (.reg 2 false [ { d := some 6, op := .mov (.t 5) }, { d := some 7, op := .faddr 3 (.t 2) }, { d := some 8, op := .load false 1 (.t 7) }, { d := some 9, op := .len (.t 8) }, { d := some 10, op := .bin .lss (.t 6) (.t 9) }]) (.cond (.t 10) (.skip) (.exit 0))) (.seq (.block 1
 (.seq (.reg 4 false [ { d := some 13, op := .faddr 3 (.t 2) }, { d := some 14, op := .load false 1 (.t 13) }, { d := some 15, op := .mov (.t 5) }, { d := some 16, op := .iaddr 2 (.t 14) (.t 15) }, { d := some 17, op := .faddr 0 (.t 16) }, { d := some 18, op := .load false 1 (.t 17) }, { d := some 19, op := .mov (.t 1) }, { d := some 20, op := .bin .eql (.t 18) (.t 19) }]) (.cond (.t 20)
 (.seq (.reg 5 false [ { d := some 21, op := .faddr 3 (.t 2) }, { d := some 22, op := .load false 1 (.t 21) }, { d := some 23, op := .mov (.t 5) }, { d := some 24, op := .iaddr 2 (.t 22) (.t 23) }, { d := some 25, op := .faddr 1 (.t 24) }, { d := some 26, op := .load false 1 (.t 25) }, { d := some 4, op := .mov (.t 26) }]) (.ret)) (.skip)))) (.reg 3 false [ { d := some 11, op := .mov (.t 5) }, { d := some 12, op := .bin .add (.t 11) (.c (.int .i64 1)) }, { d := some 5, op := .mov (.t 12) }]))))))
 (.seq (.reg 6 false [ { d := some 4, op := .mov (.c (.int .i64 0)) }]) (.ret)))
def rr_ref02_CountOf : List RRes := [.t 4]
theorem pc_ref02_CountOf {G : Nat → Option (List AV)} {args : List AV} {v : AV} (hn : args.length ≤ Tryd.f60.ntmps) (h : ∀ R : Run, R.G = G → R.Top → AR Tryd.prog R rc_ref02_CountOf (initSt args) (Fin rr_ref02_CountOf v)) : PC Tryd.prog G 60 args v :=
  PC_of Tryd.func60 rfl (by kernel_rfl) (rc := rc_ref02_CountOf) (by kernel_rfl) (rs := rr_ref02_CountOf) (by kernel_rfl) hn (fun R _ hG hr => h R hG hr)

def rc_ref02_Uses : RCode :=
  .seq (.reg 0 false [ { d := some 2, op := .box (.t 0) }, { d := some 4, op := .mov (.c (.nils)) }, { d := some 5, op := .mov (.c (.int .i64 0)) }]) (.seq
 (.seq (.reg 1 false [ { d := some 10, op := .load true 1 (.t 2) }, { d := some 11, op := .call 25 [.t 10] }, { d := some 6, op := .mov (.t 11) }])
 (.seq (.reg 2 false [ { d := some 12, op := .mov (.t 6) }, { d := some 13, op := .bin .neq (.t 12) (.c (.int .i64 0)) }]) (.cond (.t 13)
 (.seq (.reg 3 false [ { d := some 14, op := .mov (.t 6) }, { d := some 4, op := .mov (.c (.nils)) }, { d := some 5, op := .mov (.t 14) }]) (.ret)) (.skip)))) (.seq
 (.seq (.reg 4 false [ { d := some 15, op := .load true 1 (.t 2) }, { d := some 16, op := .call 55 [.t 15] }, { d := some 17, op := .mov (.t 1) }, { d := some 18, op := .call 56 [.t 16, .t 17] }, { d := some 19, op := .bin .lss (.t 18) (.c (.int .i64 0)) }]) (.cond (.t 19)
 (.seq (.reg 5 false [ { d := some 4, op := .mov (.c (.nils)) }, { d := some 5, op := .mov (.c (.int .i64 6)) }]) (.ret)) (.skip)))
 (.seq (.reg 6 false [ { d := some 7, op := .mov (.c (.nils)) }]) (.seq
 (.seq (.reg 7 false [ { d := some 8, op := .mov (.c (.int .i64 0)) }]) (.block 0 (.loop (.seq
 (.seq (.reg 8 false [ { d := some 20, op := .mov (.t 8) }, { d := some 21, op := .faddr 0 (.t 2) }, { d := some 22, op := .load false 1 (.t 21) }, { d := some 23, op := .len (.t 22) }, { d := some 24, op := .bin .lss (.t 20) (.t 23) }]) (.cond (.t 24) (.skip) (.exit 0))) (.seq (.block 1
 (.seq (.reg 10 false [ { d := some 27, op := .faddr 0 (.t 2) }, { d := some 28, op := .load false 1 (.t 27) }, { d := some 29, op := .mov (.t 8) }, { d := some 30, op := .iaddr 5 (.t 28) (.t 29) }, { d := some 31, op := .load true 5 (.t 30) }, { d := some 9, op := .alloc [.int .i64 0, .int .i64 0, .int .u8 0, .nils, .nils] }, { d := none, op := .store 5 (.t 9) (.t 31) }])
 (.seq (.reg 11 false [ { d := some 32, op := .load true 5 (.t 9) }, { d := some 33, op := .mov (.t 1) }, { d := some 34, op := .call 60 [.t 32, .t 33] }, { d := some 35, op := .bin .gtr (.t 34) (.c (.int .i64 0)) }]) (.cond (.t 35) (.reg 12 false [ { d := some 36, op := .mov (.t 7) }, { d := some 37, op := .faddr 0 (.t 9) }, { d := some 38, op := .load false 1 (.t 37) }, { d := some 39, op := .faddr 1 (.t 9) }, { d := some 40, op := .load false 1 (.t 39) }, { d := some 41, op := .build [.int .i64 0, .int .i64 0] [(0, 1, .t 38), (1, 1, .t 40)] }, { d := some 42, op := .bsl false 2 1 [.int .i64 0, .int .i64 0] [(0, .t 41)] }, { d := some 43, op := .app 2 16 (.t 36) (.t 42) }, { d := some 7, op := .mov (.t 43) }]) (.skip))))) (.reg 9 false [ { d := some 25, op := .mov (.t 8) }, { d := some 26, op := .bin .add (.t 25) (.c (.int .i64 1)) }, { d := some 8, op := .mov (.t 26) }]))))))
 (.seq (.reg 13 false [ { d := some 44, op := .mov (.t 7) }, { d := some 4, op := .mov (.t 44) }, { d := some 5, op := .mov (.c (.int .i64 0)) }]) (.ret))))))
def rr_ref02_Uses : List RRes := [.t 4, .t 5]
theorem pc_ref02_Uses {G : Nat → Option (List AV)} {args : List AV} {v : AV} (hn : args.length ≤ Tryd.f40.ntmps) (h : ∀ R : Run, R.G = G → R.Top → AR Tryd.prog R rc_ref02_Uses (initSt args) (Fin rr_ref02_Uses v)) : PC Tryd.prog G 40 args v :=
  PC_of Tryd.func40 rfl (by kernel_rfl) (rc := rc_ref02_Uses) (by kernel_rfl) (rs := rr_ref02_Uses) (by kernel_rfl) hn (fun R _ hG hr => h R hG hr)

def rc_ref02_Over : RCode :=
  .seq (.reg 0 false [ { d := some 3, op := .box (.t 0) }, { d := some 6, op := .mov (.c (.nils)) }])
 (.seq (.reg 1 false [ { d := some 15, op := .load true 1 (.t 3) }, { d := some 16, op := .call 55 [.t 15] }, { d := some 7, op := .mov (.t 16) }])
 (.seq (.reg 2 false [ { d := some 17, op := .mov (.t 7) }, { d := some 18, op := .len (.t 17) }, { d := some 19, op := .mksl 1 1 [.bool false] (.t 18) }, { d := some 8, op := .mov (.t 19) }]) (.seq
 (.seq (.reg 3 false [ { d := some 9, op := .mov (.c (.int .i64 0)) }]) (.block 0 (.loop (.seq
 (.seq (.reg 4 false [ { d := some 20, op := .mov (.t 9) }, { d := some 21, op := .mov (.t 7) }, { d := some 22, op := .len (.t 21) }, { d := some 23, op := .bin .lss (.t 20) (.t 22) }]) (.cond (.t 23) (.skip) (.exit 0))) (.seq (.block 1
 (.seq (.reg 6 false [ { d := some 10, op := .mov (.c (.int .i64 0)) }]) (.block 2 (.loop (.seq
 (.seq (.reg 7 false [ { d := some 26, op := .mov (.t 10) }, { d := some 27, op := .mov (.t 7) }, { d := some 28, op := .len (.t 27) }, { d := some 29, op := .bin .lss (.t 26) (.t 28) }]) (.cond (.t 29) (.skip) (.exit 2))) (.seq (.block 3
 (.seq (.reg 9 true [ { d := some 32, op := .load true 1 (.t 3), aft := [] }, { d := some 33, op := .mov (.t 1), aft := [] }, { d := some 34, op := .mov (.t 7), aft := [] }, { d := some 35, op := .mov (.t 10), aft := [] }, { d := some 36, op := .iaddr 1 (.t 34) (.t 35), aft := [2, 3] }, { d := some 37, op := .load false 1 (.t 36), aft := [4] }, { d := some 38, op := .call 112 [.t 32, .t 33, .t 37], aft := [0, 1, 5] }, { d := some 11, op := .alloc [.int .i64 0, .int .i64 0, .int .u8 0, .nils, .nils], aft := [] }, { d := none, op := .store 5 (.t 11) (.t 38), aft := [7, 6, 6, 0, 1, 2, 3, 4, 5, 6, 7] }])
 (.seq (.reg 10 false [ { d := some 12, op := .mov (.c (.int .i64 0)) }]) (.block 4 (.loop (.seq
 (.seq (.reg 11 false [ { d := some 39, op := .mov (.t 12) }, { d := some 40, op := .faddr 3 (.t 11) }, { d := some 41, op := .load false 1 (.t 40) }, { d := some 42, op := .len (.t 41) }, { d := some 43, op := .bin .lss (.t 39) (.t 42) }]) (.cond (.t 43) (.skip) (.exit 4))) (.seq (.block 5 (.reg 13 false [ { d := some 46, op := .mov (.t 8) }, { d := some 47, op := .mov (.t 10) }, { d := some 48, op := .mov (.t 8) }, { d := some 49, op := .mov (.t 10) }, { d := some 50, op := .iaddr 1 (.t 48) (.t 49) }, { d := some 51, op := .load false 1 (.t 50) }, { d := some 52, op := .mov (.t 51) }, { d := some 53, op := .faddr 3 (.t 11), guard := some (52, false) }, { d := some 54, op := .load false 1 (.t 53), guard := some (52, false) }, { d := some 55, op := .mov (.t 12), guard := some (52, false) }, { d := some 56, op := .iaddr 2 (.t 54) (.t 55), guard := some (52, false) }, { d := some 57, op := .faddr 0 (.t 56), guard := some (52, false) }, { d := some 58, op := .load false 1 (.t 57), guard := some (52, false) }, { d := some 59, op := .mov (.t 2), guard := some (52, false) }, { d := some 60, op := .bin .eql (.t 58) (.t 59), guard := some (52, false) }, { d := some 61, op := .pick (.t 52) (.c (.bool true)) (.t 60) }, { d := some 62, op := .mov (.t 61) }, { d := some 63, op := .mov (.t 8), guard := some (62, false) }, { d := some 64, op := .mov (.t 7), guard := some (62, false) }, { d := some 65, op := .faddr 3 (.t 11), guard := some (62, false) }, { d := some 66, op := .load false 1 (.t 65), guard := some (62, false) }, { d := some 67, op := .mov (.t 12), guard := some (62, false) }, { d := some 68, op := .iaddr 2 (.t 66) (.t 67), guard := some (62, false) }, { d := some 69, op := .faddr 0 (.t 68), guard := some (62, false) }, { d := some 70, op := .load false 1 (.t 69), guard := some (62, false) }, { d := some 71, op := .call 56 [.t 64, .t 70], guard := some (62, false) }, { d := some 72, op := .iaddr 1 (.t 63) (.t 71), guard := some (62, false) }, { d := some 73, op := .load false 1 (.t 72), guard := some (62, false) }, { d := some 74, op := .pick (.t 62) (.c (.bool true)) (.t 73) }, { d := some 75, op := .iaddr 1 (.t 46) (.t 47) }, { d := none, op := .store 1 (.t 75) (.t 74) }])) (.reg 12 false [ { d := some 44, op := .mov (.t 12) }, { d := some 45, op := .bin .add (.t 44) (.c (.int .i64 1)) }, { d := some 12, op := .mov (.t 45) }])))))))) (.reg 8 false [ { d := some 30, op := .mov (.t 10) }, { d := some 31, op := .bin .add (.t 30) (.c (.int .i64 1)) }, { d := some 10, op := .mov (.t 31) }]))))))) (.reg 5 false [ { d := some 24, op := .mov (.t 9) }, { d := some 25, op := .bin .add (.t 24) (.c (.int .i64 1)) }, { d := some 9, op := .mov (.t 25) }]))))))
 (.seq (.reg 14 false [ { d := some 13, op := .mov (.c (.nils)) }]) (.seq
 (.seq (.reg 15 false [ { d := some 14, op := .mov (.c (.int .i64 0)) }]) (.block 6 (.loop (.seq
 (.seq (.reg 16 false [ { d := some 76, op := .mov (.t 14) }, { d := some 77, op := .mov (.t 7) }, { d := some 78, op := .len (.t 77) }, { d := some 79, op := .bin .lss (.t 76) (.t 78) }]) (.cond (.t 79) (.skip) (.exit 6))) (.seq (.block 7
 (.seq (.reg 18 false [ { d := some 82, op := .mov (.t 8) }, { d := some 83, op := .mov (.t 14) }, { d := some 84, op := .iaddr 1 (.t 82) (.t 83) }, { d := some 85, op := .load false 1 (.t 84) }]) (.cond (.t 85) (.reg 19 false [ { d := some 86, op := .mov (.t 13) }, { d := some 87, op := .mov (.t 7) }, { d := some 88, op := .mov (.t 14) }, { d := some 89, op := .iaddr 1 (.t 87) (.t 88) }, { d := some 90, op := .load false 1 (.t 89) }, { d := some 91, op := .bsl false 1 1 [.int .i64 0] [(0, .t 90)] }, { d := some 92, op := .app 1 8 (.t 86) (.t 91) }, { d := some 13, op := .mov (.t 92) }]) (.skip)))) (.reg 17 false [ { d := some 80, op := .mov (.t 14) }, { d := some 81, op := .bin .add (.t 80) (.c (.int .i64 1)) }, { d := some 14, op := .mov (.t 81) }]))))))
 (.seq (.reg 20 false [ { d := some 93, op := .mov (.t 13) }, { d := some 6, op := .mov (.t 93) }]) (.ret)))))))
def rr_ref02_Over : List RRes := [.t 6]
theorem pc_ref02_Over {G : Nat → Option (List AV)} {args : List AV} {v : AV} (hn : args.length ≤ Tryd.f86.ntmps) (h : ∀ R : Run, R.G = G → R.Top → AR Tryd.prog R rc_ref02_Over (initSt args) (Fin rr_ref02_Over v)) : PC Tryd.prog G 86 args v :=
  PC_of Tryd.func86 rfl (by kernel_rfl) (rc := rc_ref02_Over) (by kernel_rfl) (rs := rr_ref02_Over) (by kernel_rfl) hn (fun R _ hG hr => h R hG hr)

def rc_ref02_Above : RCode :=
  .seq (.reg 0 false [ { d := some 3, op := .box (.t 0) }, { d := some 6, op := .mov (.c (.nils)) }, { d := some 7, op := .mov (.c (.int .i64 0)) }]) (.seq
 (.seq (.reg 1 false [ { d := some 9, op := .load true 1 (.t 3) }, { d := some 10, op := .mov (.t 1) }, { d := some 11, op := .mov (.t 2) }, { d := some 12, op := .call 78 [.t 9, .t 10, .t 11] }, { d := some 8, op := .mov (.t 12) }])
 (.seq (.reg 2 false [ { d := some 13, op := .mov (.t 8) }, { d := some 14, op := .bin .neq (.t 13) (.c (.int .i64 0)) }]) (.cond (.t 14)
 (.seq (.reg 3 false [ { d := some 15, op := .mov (.t 8) }, { d := some 6, op := .mov (.c (.nils)) }, { d := some 7, op := .mov (.t 15) }]) (.ret)) (.skip))))
 (.seq (.reg 4 false [ { d := some 16, op := .load true 1 (.t 3) }, { d := some 17, op := .mov (.t 1) }, { d := some 18, op := .mov (.t 2) }, { d := some 19, op := .call 86 [.t 16, .t 17, .t 18] }, { d := some 6, op := .mov (.t 19) }, { d := some 7, op := .mov (.c (.int .i64 0)) }]) (.ret)))
def rr_ref02_Above : List RRes := [.t 6, .t 7]
theorem pc_ref02_Above {G : Nat → Option (List AV)} {args : List AV} {v : AV} (hn : args.length ≤ Tryd.f42.ntmps) (h : ∀ R : Run, R.G = G → R.Top → AR Tryd.prog R rc_ref02_Above (initSt args) (Fin rr_ref02_Above v)) : PC Tryd.prog G 42 args v :=
  PC_of Tryd.func42 rfl (by kernel_rfl) (rc := rc_ref02_Above) (by kernel_rfl) (rs := rr_ref02_Above) (by kernel_rfl) hn (fun R _ hG hr => h R hG hr)

def rc_ref02_SameRefs : RCode :=
  .seq (.reg 0 false [ { d := some 4, op := .mov (.c (.bool false)) }]) (.seq
 (.seq (.reg 1 false [ { d := some 6, op := .mov (.t 0) }, { d := some 7, op := .len (.t 6) }, { d := some 8, op := .mov (.t 1) }, { d := some 9, op := .len (.t 8) }, { d := some 10, op := .bin .neq (.t 7) (.t 9) }]) (.cond (.t 10)
 (.seq (.reg 2 false [ { d := some 4, op := .mov (.c (.bool false)) }]) (.ret)) (.skip))) (.seq
 (.seq (.reg 3 false [ { d := some 5, op := .mov (.c (.int .i64 0)) }]) (.block 0 (.loop (.seq
 (.seq (.reg 4 false [ { d := some 11, op := .mov (.t 5) }, { d := some 12, op := .mov (.t 0) }, { d := some 13, op := .len (.t 12) }, { d := some 14, op := .bin .lss (.t 11) (.t 13) }]) (.cond (.t 14) (.skip) (.exit 0))) (.seq (.block 1
 (.seq (.reg 6 true [ { d := some 17, op := .mov (.t 0), aft := [] }, { d := some 18, op := .mov (.t 5), aft := [] }, { d := some 19, op := .iaddr 2 (.t 17) (.t 18), aft := [0, 1] }, { d := some 20, op := .load true 2 (.t 19), aft := [2] }, { d := some 21, op := .mov (.t 1), aft := [] }, { d := some 22, op := .mov (.t 5), aft := [] }, { d := some 23, op := .iaddr 2 (.t 21) (.t 22), aft := [4, 5] }, { d := some 24, op := .load true 2 (.t 23), aft := [6] }, { d := some 25, op := .eqs true [.i, .i] (.t 20) (.t 24), aft := [3, 7] }]) (.cond (.t 25)
 (.seq (.reg 7 false [ { d := some 4, op := .mov (.c (.bool false)) }]) (.ret)) (.skip)))) (.reg 5 false [ { d := some 15, op := .mov (.t 5) }, { d := some 16, op := .bin .add (.t 15) (.c (.int .i64 1)) }, { d := some 5, op := .mov (.t 16) }]))))))
 (.seq (.reg 8 false [ { d := some 4, op := .mov (.c (.bool true)) }]) (.ret))))
def rr_ref02_SameRefs : List RRes := [.t 4]
theorem pc_ref02_SameRefs {G : Nat → Option (List AV)} {args : List AV} {v : AV} (hn : args.length ≤ Tryd.f43.ntmps) (h : ∀ R : Run, R.G = G → R.Top → AR Tryd.prog R rc_ref02_SameRefs (initSt args) (Fin rr_ref02_SameRefs v)) : PC Tryd.prog G 43 args v :=
  PC_of Tryd.func43 rfl (by kernel_rfl) (rc := rc_ref02_SameRefs) (by kernel_rfl) (rs := rr_ref02_SameRefs) (by kernel_rfl) hn (fun R _ hG hr => h R hG hr)

def rc_ref02_SameChanges : RCode :=
  .seq (.reg 0 false [ { d := some 4, op := .mov (.c (.bool false)) }]) (.seq
 (.seq (.reg 1 false [ { d := some 6, op := .mov (.t 0) }, { d := some 7, op := .len (.t 6) }, { d := some 8, op := .mov (.t 1) }, { d := some 9, op := .len (.t 8) }, { d := some 10, op := .bin .neq (.t 7) (.t 9) }]) (.cond (.t 10)
 (.seq (.reg 2 false [ { d := some 4, op := .mov (.c (.bool false)) }]) (.ret)) (.skip))) (.seq
 (.seq (.reg 3 false [ { d := some 5, op := .mov (.c (.int .i64 0)) }]) (.block 0 (.loop (.seq
 (.seq (.reg 4 false [ { d := some 11, op := .mov (.t 5) }, { d := some 12, op := .mov (.t 0) }, { d := some 13, op := .len (.t 12) }, { d := some 14, op := .bin .lss (.t 11) (.t 13) }]) (.cond (.t 14) (.skip) (.exit 0))) (.seq (.block 1
 (.seq (.reg 6 true [ { d := some 17, op := .mov (.t 0), aft := [] }, { d := some 18, op := .mov (.t 5), aft := [] }, { d := some 19, op := .iaddr 3 (.t 17) (.t 18), aft := [0, 1] }, { d := some 20, op := .load true 3 (.t 19), aft := [2] }, { d := some 21, op := .mov (.t 1), aft := [] }, { d := some 22, op := .mov (.t 5), aft := [] }, { d := some 23, op := .iaddr 3 (.t 21) (.t 22), aft := [4, 5] }, { d := some 24, op := .load true 3 (.t 23), aft := [6] }, { d := some 25, op := .eqs true [.i, .i, .i] (.t 20) (.t 24), aft := [3, 7] }]) (.cond (.t 25)
 (.seq (.reg 7 false [ { d := some 4, op := .mov (.c (.bool false)) }]) (.ret)) (.skip)))) (.reg 5 false [ { d := some 15, op := .mov (.t 5) }, { d := some 16, op := .bin .add (.t 15) (.c (.int .i64 1)) }, { d := some 5, op := .mov (.t 16) }]))))))
 (.seq (.reg 8 false [ { d := some 4, op := .mov (.c (.bool true)) }]) (.ret))))
def rr_ref02_SameChanges : List RRes := [.t 4]
theorem pc_ref02_SameChanges {G : Nat → Option (List AV)} {args : List AV} {v : AV} (hn : args.length ≤ Tryd.f46.ntmps) (h : ∀ R : Run, R.G = G → R.Top → AR Tryd.prog R rc_ref02_SameChanges (initSt args) (Fin rr_ref02_SameChanges v)) : PC Tryd.prog G 46 args v :=
  PC_of Tryd.func46 rfl (by kernel_rfl) (rc := rc_ref02_SameChanges) (by kernel_rfl) (rs := rr_ref02_SameChanges) (by kernel_rfl) hn (fun R _ hG hr => h R hG hr)

def rc_ref02_Differ : RCode :=
  .seq (.reg 0 false [ { d := some 4, op := .box (.t 0) }, { d := some 8, op := .mov (.c (.nils)) }, { d := some 9, op := .mov (.c (.nils)) }, { d := some 10, op := .mov (.c (.int .i64 0)) }]) (.seq
 (.seq (.reg 1 false [ { d := some 23, op := .load true 1 (.t 4) }, { d := some 24, op := .call 25 [.t 23] }, { d := some 11, op := .mov (.t 24) }])
 (.seq (.reg 2 false [ { d := some 25, op := .mov (.t 11) }, { d := some 26, op := .bin .neq (.t 25) (.c (.int .i64 0)) }]) (.cond (.t 26)
 (.seq (.reg 3 false [ { d := some 27, op := .mov (.t 11) }, { d := some 8, op := .mov (.c (.nils)) }, { d := some 9, op := .mov (.c (.nils)) }, { d := some 10, op := .mov (.t 27) }]) (.ret)) (.skip))))
 (.seq (.reg 4 false [ { d := some 29, op := .load true 1 (.t 4) }, { d := some 30, op := .mov (.t 1) }, { d := some 31, op := .mov (.t 2) }, { d := some 32, op := .build [.int .i64 0, .int .i64 0] [(0, 1, .t 30), (1, 1, .t 31)] }, { d := some 33, op := .call 74 [.t 29, .t 32] }, { d := some 28, op := .mov (.t 33) }, { d := some 34, op := .ext 0 (.t 28) }, { d := some 35, op := .ext 1 (.t 28) }, { d := some 12, op := .alloc [.int .i64 0, .int .i64 0, .int .u8 0, .nils, .nils] }, { d := none, op := .store 5 (.t 12) (.t 34) }, { d := some 13, op := .mov (.t 35) }])
 (.seq (.reg 5 false [ { d := some 37, op := .load true 1 (.t 4) }, { d := some 38, op := .mov (.t 1) }, { d := some 39, op := .mov (.t 3) }, { d := some 40, op := .build [.int .i64 0, .int .i64 0] [(0, 1, .t 38), (1, 1, .t 39)] }, { d := some 41, op := .call 74 [.t 37, .t 40] }, { d := some 36, op := .mov (.t 41) }, { d := some 42, op := .ext 0 (.t 36) }, { d := some 43, op := .ext 1 (.t 36) }, { d := some 14, op := .alloc [.int .i64 0, .int .i64 0, .int .u8 0, .nils, .nils] }, { d := none, op := .store 5 (.t 14) (.t 42) }, { d := some 15, op := .mov (.t 43) }]) (.seq
 (.seq (.reg 6 false [ { d := some 44, op := .mov (.t 13) }, { d := some 45, op := .un .not (.t 44) }, { d := some 46, op := .mov (.t 45) }, { d := some 47, op := .mov (.t 15), guard := some (46, false) }, { d := some 48, op := .un .not (.t 47), guard := some (46, false) }, { d := some 49, op := .pick (.t 46) (.c (.bool true)) (.t 48) }]) (.cond (.t 49)
 (.seq (.reg 7 false [ { d := some 8, op := .mov (.c (.nils)) }, { d := some 9, op := .mov (.c (.nils)) }, { d := some 10, op := .mov (.c (.int .i64 6)) }]) (.ret)) (.skip)))
 (.seq (.reg 8 false [ { d := some 16, op := .mov (.c (.nils)) }])
 (.seq (.reg 9 false [ { d := some 50, op := .load true 1 (.t 4) }, { d := some 51, op := .call 55 [.t 50] }, { d := some 17, op := .mov (.t 51) }]) (.seq
 (.seq (.reg 10 false [ { d := some 18, op := .mov (.c (.int .i64 0)) }]) (.block 0 (.loop (.seq
 (.seq (.reg 11 false [ { d := some 52, op := .mov (.t 18) }, { d := some 53, op := .mov (.t 17) }, { d := some 54, op := .len (.t 53) }, { d := some 55, op := .bin .lss (.t 52) (.t 54) }]) (.cond (.t 55) (.skip) (.exit 0))) (.seq (.block 1
 (.seq (.reg 13 true [ { d := some 58, op := .load true 5 (.t 12), aft := [] }, { d := some 59, op := .mov (.t 17), aft := [] }, { d := some 60, op := .mov (.t 18), aft := [] }, { d := some 61, op := .iaddr 1 (.t 59) (.t 60), aft := [1, 2] }, { d := some 62, op := .load false 1 (.t 61), aft := [3] }, { d := some 63, op := .call 60 [.t 58, .t 62], aft := [0, 4] }, { d := some 64, op := .load true 5 (.t 14), aft := [] }, { d := some 65, op := .mov (.t 17), aft := [] }, { d := some 66, op := .mov (.t 18), aft := [] }, { d := some 67, op := .iaddr 1 (.t 65) (.t 66), aft := [7, 8] }, { d := some 68, op := .load false 1 (.t 67), aft := [9] }, { d := some 69, op := .call 60 [.t 64, .t 68], aft := [6, 10, 5] }, { d := some 19, op := .mov (.t 63), aft := [5, 11, 0, 1, 2, 3, 4, 5] }, { d := some 20, op := .mov (.t 69), aft := [11, 12, 0, 1, 2, 3, 4, 5, 6, 7, 8, 9, 10, 11, 12] }])
 (.seq (.reg 14 false [ { d := some 70, op := .mov (.t 19) }, { d := some 71, op := .mov (.t 20) }, { d := some 72, op := .bin .neq (.t 70) (.t 71) }]) (.cond (.t 72) (.reg 15 false [ { d := some 73, op := .mov (.t 16) }, { d := some 74, op := .mov (.t 17) }, { d := some 75, op := .mov (.t 18) }, { d := some 76, op := .iaddr 1 (.t 74) (.t 75) }, { d := some 77, op := .load false 1 (.t 76) }, { d := some 78, op := .mov (.t 19) }, { d := some 79, op := .mov (.t 20) }, { d := some 80, op := .build [.int .i64 0, .int .i64 0, .int .i64 0] [(0, 1, .t 77), (1, 1, .t 78), (2, 1, .t 79)] }, { d := some 81, op := .bsl false 3 1 [.int .i64 0, .int .i64 0, .int .i64 0] [(0, .t 80)] }, { d := some 82, op := .app 3 24 (.t 73) (.t 81) }, { d := some 16, op := .mov (.t 82) }]) (.skip))))) (.reg 12 false [ { d := some 56, op := .mov (.t 18) }, { d := some 57, op := .bin .add (.t 56) (.c (.int .i64 1)) }, { d := some 18, op := .mov (.t 57) }]))))))
 (.seq (.reg 16 false [ { d := some 21, op := .mov (.c (.nils)) }]) (.seq
 (.seq (.reg 17 false [ { d := some 22, op := .mov (.c (.int .i64 0)) }]) (.block 2 (.loop (.seq
 (.seq (.reg 18 false [ { d := some 83, op := .mov (.t 22) }, { d := some 84, op := .faddr 4 (.t 12) }, { d := some 85, op := .load false 1 (.t 84) }, { d := some 86, op := .len (.t 85) }, { d := some 87, op := .bin .lss (.t 83) (.t 86) }, { d := some 88, op := .mov (.t 87) }, { d := some 89, op := .mov (.t 22), guard := some (88, false) }, { d := some 90, op := .faddr 4 (.t 14), guard := some (88, false) }, { d := some 91, op := .load false 1 (.t 90), guard := some (88, false) }, { d := some 92, op := .len (.t 91), guard := some (88, false) }, { d := some 93, op := .bin .lss (.t 89) (.t 92), guard := some (88, false) }, { d := some 94, op := .pick (.t 88) (.c (.bool true)) (.t 93) }]) (.cond (.t 94) (.skip) (.exit 2))) (.seq (.block 3
 (.seq (.reg 20 true [ { d := some 97, op := .mov (.t 22), aft := [] }, { d := some 98, op := .faddr 4 (.t 12), aft := [] }, { d := some 99, op := .load false 1 (.t 98), aft := [1] }, { d := some 100, op := .len (.t 99), aft := [2] }, { d := some 101, op := .bin .geq (.t 97) (.t 100), aft := [0, 3] }, { d := some 102, op := .mov (.t 101), aft := [4] }, { d := some 103, op := .mov (.t 22), guard := some (102, false), aft := [5] }, { d := some 104, op := .faddr 4 (.t 14), guard := some (102, false), aft := [5] }, { d := some 105, op := .load false 1 (.t 104), guard := some (102, false), aft := [7, 5] }, { d := some 106, op := .len (.t 105), guard := some (102, false), aft := [8, 5] }, { d := some 107, op := .bin .geq (.t 103) (.t 106), guard := some (102, false), aft := [6, 9, 5] }, { d := some 108, op := .pick (.t 102) (.c (.bool true)) (.t 107), aft := [5, 10] }, { d := some 109, op := .mov (.t 108), aft := [11, 5] }, { d := some 110, op := .faddr 4 (.t 12), guard := some (109, false), aft := [12] }, { d := some 111, op := .load false 1 (.t 110), guard := some (109, false), aft := [13, 12] }, { d := some 112, op := .mov (.t 22), guard := some (109, false), aft := [12] }, { d := some 113, op := .iaddr 3 (.t 111) (.t 112), guard := some (109, false), aft := [14, 15, 12] }, { d := some 114, op := .load true 3 (.t 113), guard := some (109, false), aft := [16, 12] }, { d := some 115, op := .faddr 4 (.t 14), guard := some (109, false), aft := [12] }, { d := some 116, op := .load false 1 (.t 115), guard := some (109, false), aft := [18, 12] }, { d := some 117, op := .mov (.t 22), guard := some (109, false), aft := [12] }, { d := some 118, op := .iaddr 3 (.t 116) (.t 117), guard := some (109, false), aft := [19, 20, 12] }, { d := some 119, op := .load true 3 (.t 118), guard := some (109, false), aft := [21, 12] }, { d := some 120, op := .eqs true [.i, .i, .i] (.t 114) (.t 119), guard := some (109, false), aft := [17, 22, 12] }, { d := some 121, op := .pick (.t 109) (.c (.bool true)) (.t 120), aft := [12, 23] }]) (.cond (.t 121) (.reg 21 false [ { d := some 122, op := .mov (.t 21) }, { d := some 123, op := .mov (.t 22) }, { d := some 124, op := .bsl false 1 1 [.int .i64 0] [(0, .t 123)] }, { d := some 125, op := .app 1 8 (.t 122) (.t 124) }, { d := some 21, op := .mov (.t 125) }]) (.skip)))) (.reg 19 false [ { d := some 95, op := .mov (.t 22) }, { d := some 96, op := .bin .add (.t 95) (.c (.int .i64 1)) }, { d := some 22, op := .mov (.t 96) }]))))))
 (.seq (.reg 22 false [ { d := some 126, op := .mov (.t 16) }, { d := some 127, op := .mov (.t 21) }, { d := some 8, op := .mov (.t 126) }, { d := some 9, op := .mov (.t 127) }, { d := some 10, op := .mov (.c (.int .i64 0)) }]) (.ret)))))))))))
def rr_ref02_Differ : List RRes := [.t 8, .t 9, .t 10]
theorem pc_ref02_Differ {G : Nat → Option (List AV)} {args : List AV} {v : AV} (hn : args.length ≤ Tryd.f45.ntmps) (h : ∀ R : Run, R.G = G → R.Top → AR Tryd.prog R rc_ref02_Differ (initSt args) (Fin rr_ref02_Differ v)) : PC Tryd.prog G 45 args v :=
  PC_of Tryd.func45 rfl (by kernel_rfl) (rc := rc_ref02_Differ) (by kernel_rfl) (rs := rr_ref02_Differ) (by kernel_rfl) hn (fun R _ hG hr => h R hG hr)

def rc_sheet_needs : RCode :=
  .seq (.reg 0 false [ { d := some 2, op := .box (.t 0) }, { d := some 3, op := .box (.t 1) }, { d := some 4, op := .mov (.c (.bool false)) }])
 (.seq (.reg 1 false [ { d := some 5, op := .faddr 3 (.t 2) }, { d := some 6, op := .load false 1 (.t 5) }, { d := some 7, op := .mkf (.func 113) [] [.t 3] }, { d := some 8, op := .call 102 [.t 6, .t 7] }, { d := some 4, op := .mov (.t 8) }]) (.ret))
def rr_sheet_needs : List RRes := [.t 4]
theorem pc_sheet_needs {G : Nat → Option (List AV)} {args : List AV} {v : AV} (hn : args.length ≤ Tryd.f83.ntmps) (h : ∀ R : Run, R.G = G → R.Top → AR Tryd.prog R rc_sheet_needs (initSt args) (Fin rr_sheet_needs v)) : PC Tryd.prog G 83 args v :=
  PC_of Tryd.func83 rfl (by kernel_rfl) (rc := rc_sheet_needs) (by kernel_rfl) (rs := rr_sheet_needs) (by kernel_rfl) hn (fun R _ hG hr => h R hG hr)

def rc_sheet_needs_1 : RCode :=
  .seq (.reg 0 false [ { d := some 2, op := .box (.t 0) }, { d := some 3, op := .mov (.c (.bool false)) }])
 (.seq (.reg 1 false [ { d := some 4, op := .faddr 0 (.t 2) }, { d := some 5, op := .load false 1 (.t 4) }, { d := some 6, op := .load false 1 (.t 1) }, { d := some 7, op := .bin .eql (.t 5) (.t 6) }, { d := some 3, op := .mov (.t 7) }]) (.ret))
def rr_sheet_needs_1 : List RRes := [.t 3]
theorem pc_sheet_needs_1 {G : Nat → Option (List AV)} {args : List AV} {v : AV} (hn : args.length ≤ Tryd.f113.ntmps) (h : ∀ R : Run, R.G = G → R.Top → AR Tryd.prog R rc_sheet_needs_1 (initSt args) (Fin rr_sheet_needs_1 v)) : PC Tryd.prog G 113 args v :=
  PC_of Tryd.func113 rfl (by kernel_rfl) (rc := rc_sheet_needs_1) (by kernel_rfl) (rs := rr_sheet_needs_1) (by kernel_rfl) hn (fun R _ hG hr => h R hG hr)

def rc_sheet_Uses : RCode :=
  .seq (.reg 0 false [ { d := some 2, op := .box (.t 0) }, { d := some 4, op := .mov (.c (.nils)) }, { d := some 5, op := .mov (.c (.int .i64 0)) }])
 (.seq (.reg 1 false [ { d := some 12, op := .load true 1 (.t 2) }, { d := some 13, op := .mov (.t 1) }, { d := some 14, op := .call 68 [.t 12, .t 13] }, { d := some 11, op := .mov (.t 14) }, { d := some 15, op := .ext 0 (.t 11) }, { d := some 16, op := .ext 1 (.t 11) }, { d := some 6, op := .mov (.t 15) }, { d := some 7, op := .mov (.t 16) }]) (.seq
 (.seq (.reg 2 false [ { d := some 17, op := .mov (.t 7) }, { d := some 18, op := .bin .neq (.t 17) (.c (.int .i64 0)) }]) (.cond (.t 18)
 (.seq (.reg 3 false [ { d := some 19, op := .mov (.t 7) }, { d := some 4, op := .mov (.c (.nils)) }, { d := some 5, op := .mov (.t 19) }]) (.ret)) (.skip)))
 (.seq (.reg 4 false [ { d := some 8, op := .mov (.c (.nils)) }]) (.seq
 (.seq (.reg 5 false [ { d := some 20, op := .mov (.t 6) }, { d := some 21, op := .nilck (.t 20) }, { d := some 22, op := .faddr 0 (.t 21) }, { d := some 23, op := .faddr 0 (.t 22) }, { d := some 24, op := .load false 1 (.t 23) }, { d := some 25, op := .len (.t 24) }, { d := some 26, op := .mov (.c (.int .i64 0)) }]) (.block 0 (.loop
 (.seq (.reg 6 false [ { d := some 27, op := .bin .lss (.t 26) (.t 25) }]) (.seq (.cond (.t 27) (.skip) (.exit 0)) (.seq (.block 1
 (.seq (.reg 7 false [ { d := some 28, op := .iaddr 5 (.t 24) (.t 26) }, { d := some 29, op := .load true 5 (.t 28) }, { d := some 10, op := .alloc [.int .i64 0, .int .i64 0, .int .u8 0, .nils, .nils] }, { d := none, op := .store 5 (.t 10) (.t 29) }])
 (.seq (.reg 8 false [ { d := some 30, op := .load true 5 (.t 10) }, { d := some 31, op := .mov (.t 1) }, { d := some 32, op := .call 83 [.t 30, .t 31] }]) (.cond (.t 32) (.reg 9 false [ { d := some 33, op := .mov (.t 8) }, { d := some 34, op := .load true 5 (.t 10) }, { d := some 35, op := .call 84 [.t 34] }, { d := some 36, op := .bsl false 2 1 [.int .i64 0, .int .i64 0] [(0, .t 35)] }, { d := some 37, op := .app 2 16 (.t 33) (.t 36) }, { d := some 8, op := .mov (.t 37) }]) (.skip))))) (.reg 10 false [ { d := some 38, op := .bin .add (.t 26) (.c (.int .i64 1)) }, { d := some 26, op := .mov (.t 38) }])))))))
 (.seq (.reg 11 false [ { d := some 39, op := .mov (.t 8) }, { d := some 4, op := .mov (.t 39) }, { d := some 5, op := .mov (.c (.int .i64 0)) }]) (.ret))))))
def rr_sheet_Uses : List RRes := [.t 4, .t 5]
theorem pc_sheet_Uses {G : Nat → Option (List AV)} {args : List AV} {v : AV} (hn : args.length ≤ Tryd.f39.ntmps) (h : ∀ R : Run, R.G = G → R.Top → AR Tryd.prog R rc_sheet_Uses (initSt args) (Fin rr_sheet_Uses v)) : PC Tryd.prog G 39 args v :=
  PC_of Tryd.func39 rfl (by kernel_rfl) (rc := rc_sheet_Uses) (by kernel_rfl) (rs := rr_sheet_Uses) (by kernel_rfl) hn (fun R _ hG hr => h R hG hr)

def rc_sheet_Above : RCode :=
  .seq (.reg 0 false [ { d := some 3, op := .box (.t 0) }, { d := some 6, op := .mov (.c (.nils)) }, { d := some 7, op := .mov (.c (.int .i64 0)) }])
 (.seq (.reg 1 false [ { d := some 17, op := .load true 1 (.t 3) }, { d := some 18, op := .mov (.t 1) }, { d := some 19, op := .mov (.t 2) }, { d := some 20, op := .call 76 [.t 17, .t 18, .t 19] }, { d := some 16, op := .mov (.t 20) }, { d := some 21, op := .ext 0 (.t 16) }, { d := some 22, op := .ext 1 (.t 16) }, { d := some 23, op := .ext 2 (.t 16) }, { d := some 8, op := .alloc [.nilp] }, { d := some 9, op := .alloc [.nilm] }, { d := none, op := .store 1 (.t 8) (.t 21) }, { d := none, op := .store 1 (.t 9) (.t 22) }, { d := some 10, op := .mov (.t 23) }]) (.seq
 (.seq (.reg 2 false [ { d := some 24, op := .mov (.t 10) }, { d := some 25, op := .bin .neq (.t 24) (.c (.int .i64 0)) }]) (.cond (.t 25)
 (.seq (.reg 3 false [ { d := some 26, op := .mov (.t 10) }, { d := some 6, op := .mov (.c (.nils)) }, { d := some 7, op := .mov (.t 26) }]) (.ret)) (.skip)))
 (.seq (.reg 4 false [ { d := some 27, op := .mkmap }, { d := some 11, op := .alloc [.nilm] }, { d := none, op := .store 1 (.t 11) (.t 27) }])
 (.seq (.reg 5 false [ { d := some 12, op := .alloc [.nilf] }])
 (.seq (.reg 6 false [ { d := some 28, op := .mkf (.func 85) [] [.t 8, .t 11, .t 9, .t 12] }, { d := none, op := .store 1 (.t 12) (.t 28) }])
 (.seq (.reg 7 false [ { d := some 29, op := .load false 1 (.t 12) }, { d := some 30, op := .mov (.t 2) }, { d := some 31, op := .callv (.t 29) [.t 30] }])
 (.seq (.reg 8 false [ { d := some 13, op := .mov (.c (.nils)) }]) (.seq
 (.seq (.reg 9 false [ { d := some 32, op := .load false 1 (.t 8) }, { d := some 33, op := .nilck (.t 32) }, { d := some 34, op := .faddr 1 (.t 33) }, { d := some 35, op := .load false 1 (.t 34) }, { d := some 36, op := .len (.t 35) }, { d := some 37, op := .mov (.c (.int .i64 0)) }]) (.block 0 (.loop
 (.seq (.reg 10 false [ { d := some 38, op := .bin .lss (.t 37) (.t 36) }]) (.seq (.cond (.t 38) (.skip) (.exit 0)) (.seq (.block 1
 (.seq (.reg 11 false [ { d := some 39, op := .iaddr 1 (.t 35) (.t 37) }, { d := some 40, op := .load false 1 (.t 39) }, { d := some 15, op := .mov (.t 40) }])
 (.seq (.reg 12 false [ { d := some 41, op := .load false 1 (.t 11) }, { d := some 42, op := .mov (.t 15) }, { d := some 43, op := .look (.i .i64) (.bool false) false (.t 41) (.t 42) }]) (.cond (.t 43) (.reg 13 false [ { d := some 44, op := .mov (.t 13) }, { d := some 45, op := .mov (.t 15) }, { d := some 46, op := .bsl false 1 1 [.int .i64 0] [(0, .t 45)] }, { d := some 47, op := .app 1 8 (.t 44) (.t 46) }, { d := some 13, op := .mov (.t 47) }]) (.skip))))) (.reg 14 false [ { d := some 48, op := .bin .add (.t 37) (.c (.int .i64 1)) }, { d := some 37, op := .mov (.t 48) }])))))))
 (.seq (.reg 15 false [ { d := some 49, op := .mov (.t 13) }, { d := some 6, op := .mov (.t 49) }, { d := some 7, op := .mov (.c (.int .i64 0)) }]) (.ret))))))))))
def rr_sheet_Above : List RRes := [.t 6, .t 7]
theorem pc_sheet_Above {G : Nat → Option (List AV)} {args : List AV} {v : AV} (hn : args.length ≤ Tryd.f41.ntmps) (h : ∀ R : Run, R.G = G → R.Top → AR Tryd.prog R rc_sheet_Above (initSt args) (Fin rr_sheet_Above v)) : PC Tryd.prog G 41 args v :=
  PC_of Tryd.func41 rfl (by kernel_rfl) (rc := rc_sheet_Above) (by kernel_rfl) (rs := rr_sheet_Above) (by kernel_rfl) hn (fun R _ hG hr => h R hG hr)

def rc_sheet_Above_1 : RCode :=
  .seq (.reg 0 false [ { d := some 8, op := .load false 1 (.t 1) }, { d := some 9, op := .nilck (.t 8) }, { d := some 10, op := .faddr 1 (.t 9) }, { d := some 11, op := .load false 1 (.t 10) }, { d := some 12, op := .len (.t 11) }, { d := some 13, op := .mov (.c (.int .i64 0)) }]) (.block 0 (.loop
 (.seq (.reg 1 false [ { d := some 14, op := .bin .lss (.t 13) (.t 12) }]) (.seq (.cond (.t 14) (.skip) (.exit 0)) (.seq (.block 1
 (.seq (.reg 2 false [ { d := some 15, op := .iaddr 1 (.t 11) (.t 13) }, { d := some 16, op := .load false 1 (.t 15) }, { d := some 7, op := .mov (.t 16) }])
 (.seq (.reg 3 false [ { d := some 17, op := .load false 1 (.t 2) }, { d := some 18, op := .mov (.t 7) }, { d := some 19, op := .look (.i .i64) (.bool false) false (.t 17) (.t 18) }, { d := some 20, op := .un .not (.t 19) }, { d := some 21, op := .mov (.t 20) }, { d := some 22, op := .load false 1 (.t 3), guard := some (21, true) }, { d := some 23, op := .mov (.t 7), guard := some (21, true) }, { d := some 24, op := .look (.i .i64) (.agg [.int .i64 0, .int .i64 0, .int .u8 0, .nils, .nils]) false (.t 22) (.t 23), guard := some (21, true) }, { d := some 25, op := .mov (.t 0), guard := some (21, true) }, { d := some 26, op := .call 83 [.t 24, .t 25], guard := some (21, true) }, { d := some 27, op := .pick (.t 21) (.t 26) (.c (.bool false)) }]) (.cond (.t 27)
 (.seq (.reg 4 false [ { d := some 28, op := .load false 1 (.t 2) }, { d := some 29, op := .mov (.t 7) }, { d := none, op := .mupd (.i .i64) (.t 28) (.t 29) (.c (.bool true)) }]) (.reg 5 false [ { d := some 30, op := .load false 1 (.t 4) }, { d := some 31, op := .mov (.t 7) }, { d := some 32, op := .callv (.t 30) [.t 31] }])) (.skip))))) (.reg 6 false [ { d := some 33, op := .bin .add (.t 13) (.c (.int .i64 1)) }, { d := some 13, op := .mov (.t 33) }]))))))
def rr_sheet_Above_1 : List RRes := []
theorem pb_sheet_Above_1 {G : Nat → Option (List AV)} {objs objs' : List (Nat × AObj)} {args : List AV} {v : AV} (hn : args.length ≤ Tryd.f85.ntmps) (h : ∀ R : Run, R.G = G → R.Top → AR Tryd.prog R rc_sheet_Above_1 ⟨iniT 0 args, objs⟩ (FinB rr_sheet_Above_1 v objs')) : PB Tryd.prog G 85 objs args v objs' :=
  PB_of Tryd.func85 rfl (by kernel_rfl) (rc := rc_sheet_Above_1) (by kernel_rfl) (rs := rr_sheet_Above_1) (by kernel_rfl) hn (fun R _ hG hr => h R hG hr)

def rc_sheet_Differ : RCode :=
  .seq (.reg 0 false [ { d := some 4, op := .box (.t 0) }, { d := some 8, op := .mov (.c (.nils)) }, { d := some 9, op := .mov (.c (.nils)) }, { d := some 10, op := .mov (.c (.int .i64 0)) }])
 (.seq (.reg 1 false [ { d := some 26, op := .load true 1 (.t 4) }, { d := some 27, op := .call 67 [.t 26] }, { d := some 25, op := .mov (.t 27) }, { d := some 28, op := .ext 0 (.t 25) }, { d := some 29, op := .ext 1 (.t 25) }, { d := some 11, op := .mov (.t 28) }, { d := some 10, op := .mov (.t 29) }]) (.seq
 (.seq (.reg 2 false [ { d := some 30, op := .mov (.t 10) }, { d := some 31, op := .bin .neq (.t 30) (.c (.int .i64 0)) }]) (.cond (.t 31)
 (.seq (.reg 3 false [ { d := some 32, op := .mov (.t 10) }, { d := some 8, op := .mov (.c (.nils)) }, { d := some 9, op := .mov (.c (.nils)) }, { d := some 10, op := .mov (.t 32) }]) (.ret)) (.skip)))
 (.seq (.reg 4 false [ { d := some 34, op := .mov (.t 11) }, { d := some 35, op := .mov (.t 1) }, { d := some 36, op := .mov (.t 2) }, { d := some 37, op := .build [.int .i64 0, .int .i64 0] [(0, 1, .t 35), (1, 1, .t 36)] }, { d := some 38, op := .call 72 [.t 34, .t 37] }, { d := some 33, op := .mov (.t 38) }, { d := some 39, op := .ext 0 (.t 33) }, { d := some 40, op := .ext 1 (.t 33) }, { d := some 12, op := .alloc [.int .i64 0, .int .i64 0, .int .u8 0, .nils, .nils] }, { d := none, op := .store 5 (.t 12) (.t 39) }, { d := some 13, op := .mov (.t 40) }])
 (.seq (.reg 5 false [ { d := some 42, op := .mov (.t 11) }, { d := some 43, op := .mov (.t 1) }, { d := some 44, op := .mov (.t 3) }, { d := some 45, op := .build [.int .i64 0, .int .i64 0] [(0, 1, .t 43), (1, 1, .t 44)] }, { d := some 46, op := .call 72 [.t 42, .t 45] }, { d := some 41, op := .mov (.t 46) }, { d := some 47, op := .ext 0 (.t 41) }, { d := some 48, op := .ext 1 (.t 41) }, { d := some 14, op := .alloc [.int .i64 0, .int .i64 0, .int .u8 0, .nils, .nils] }, { d := none, op := .store 5 (.t 14) (.t 47) }, { d := some 15, op := .mov (.t 48) }]) (.seq
 (.seq (.reg 6 false [ { d := some 49, op := .mov (.t 13) }, { d := some 50, op := .un .not (.t 49) }, { d := some 51, op := .mov (.t 50) }, { d := some 52, op := .mov (.t 15), guard := some (51, false) }, { d := some 53, op := .un .not (.t 52), guard := some (51, false) }, { d := some 54, op := .pick (.t 51) (.c (.bool true)) (.t 53) }]) (.cond (.t 54)
 (.seq (.reg 7 false [ { d := some 8, op := .mov (.c (.nils)) }, { d := some 9, op := .mov (.c (.nils)) }, { d := some 10, op := .mov (.c (.int .i64 6)) }]) (.ret)) (.skip)))
 (.seq (.reg 8 false [ { d := some 55, op := .mkmap }, { d := some 16, op := .mov (.t 55) }]) (.seq
 (.seq (.reg 9 false [ { d := some 56, op := .faddr 3 (.t 12) }, { d := some 57, op := .load false 1 (.t 56) }, { d := some 58, op := .len (.t 57) }, { d := some 59, op := .mov (.c (.int .i64 0)) }]) (.block 0 (.loop
 (.seq (.reg 10 false [ { d := some 60, op := .bin .lss (.t 59) (.t 58) }]) (.seq (.cond (.t 60) (.skip) (.exit 0)) (.seq (.block 1
 (.seq (.reg 11 false [ { d := some 61, op := .iaddr 2 (.t 57) (.t 59) }, { d := some 62, op := .load true 2 (.t 61) }, { d := some 18, op := .alloc [.int .i64 0, .int .i64 0] }, { d := none, op := .store 2 (.t 18) (.t 62) }]) (.reg 12 false [ { d := some 63, op := .mov (.t 16) }, { d := some 64, op := .faddr 0 (.t 18) }, { d := some 65, op := .load false 1 (.t 64) }, { d := some 66, op := .faddr 0 (.t 18) }, { d := some 67, op := .load false 1 (.t 66) }, { d := some 68, op := .faddr 1 (.t 18) }, { d := some 69, op := .load false 1 (.t 68) }, { d := some 70, op := .build [.int .i64 0, .int .i64 0, .int .i64 0] [(0, 1, .t 67), (1, 1, .t 69)] }, { d := none, op := .mupd (.i .i64) (.t 63) (.t 65) (.t 70) }]))) (.reg 13 false [ { d := some 71, op := .bin .add (.t 59) (.c (.int .i64 1)) }, { d := some 59, op := .mov (.t 71) }]))))))) (.seq
 (.seq (.reg 14 false [ { d := some 72, op := .faddr 3 (.t 14) }, { d := some 73, op := .load false 1 (.t 72) }, { d := some 74, op := .len (.t 73) }, { d := some 75, op := .mov (.c (.int .i64 0)) }]) (.block 2 (.loop
 (.seq (.reg 15 false [ { d := some 76, op := .bin .lss (.t 75) (.t 74) }]) (.seq (.cond (.t 76) (.skip) (.exit 2)) (.seq (.block 3
 (.seq (.reg 16 false [ { d := some 77, op := .iaddr 2 (.t 73) (.t 75) }, { d := some 78, op := .load true 2 (.t 77) }, { d := some 20, op := .alloc [.int .i64 0, .int .i64 0] }, { d := none, op := .store 2 (.t 20) (.t 78) }]) (.reg 17 false [ { d := some 79, op := .mov (.t 16) }, { d := some 80, op := .faddr 0 (.t 20) }, { d := some 81, op := .load false 1 (.t 80) }, { d := some 82, op := .faddr 0 (.t 20) }, { d := some 83, op := .load false 1 (.t 82) }, { d := some 84, op := .mov (.t 16) }, { d := some 85, op := .faddr 0 (.t 20) }, { d := some 86, op := .load false 1 (.t 85) }, { d := some 87, op := .look (.i .i64) (.agg [.int .i64 0, .int .i64 0, .int .i64 0]) false (.t 84) (.t 86) }, { d := some 88, op := .field false 1 1 (.t 87) }, { d := some 89, op := .faddr 1 (.t 20) }, { d := some 90, op := .load false 1 (.t 89) }, { d := some 91, op := .build [.int .i64 0, .int .i64 0, .int .i64 0] [(0, 1, .t 83), (1, 1, .t 88), (2, 1, .t 90)] }, { d := none, op := .mupd (.i .i64) (.t 79) (.t 81) (.t 91) }]))) (.reg 18 false [ { d := some 92, op := .bin .add (.t 75) (.c (.int .i64 1)) }, { d := some 75, op := .mov (.t 92) }]))))))) (.seq
 (.seq (.reg 19 false [ { d := some 93, op := .mov (.t 11) }, { d := some 94, op := .nilck (.t 93) }, { d := some 95, op := .faddr 1 (.t 94) }, { d := some 96, op := .load false 1 (.t 95) }, { d := some 97, op := .len (.t 96) }, { d := some 98, op := .mov (.c (.int .i64 0)) }]) (.block 4 (.loop
 (.seq (.reg 20 false [ { d := some 99, op := .bin .lss (.t 98) (.t 97) }]) (.seq (.cond (.t 99) (.skip) (.exit 4)) (.seq (.block 5
 (.seq (.reg 21 false [ { d := some 100, op := .iaddr 1 (.t 96) (.t 98) }, { d := some 101, op := .load false 1 (.t 100) }, { d := some 22, op := .mov (.t 101) }])
 (.seq (.reg 22 false [ { d := some 102, op := .mov (.t 16) }, { d := some 103, op := .mov (.t 22) }, { d := some 104, op := .look (.i .i64) (.agg [.int .i64 0, .int .i64 0, .int .i64 0]) false (.t 102) (.t 103) }, { d := some 23, op := .alloc [.int .i64 0, .int .i64 0, .int .i64 0] }, { d := none, op := .store 3 (.t 23) (.t 104) }])
 (.seq (.reg 23 false [ { d := some 105, op := .faddr 1 (.t 23) }, { d := some 106, op := .load false 1 (.t 105) }, { d := some 107, op := .faddr 2 (.t 23) }, { d := some 108, op := .load false 1 (.t 107) }, { d := some 109, op := .bin .neq (.t 106) (.t 108) }]) (.cond (.t 109) (.reg 24 false [ { d := some 110, op := .mov (.t 8) }, { d := some 111, op := .load true 3 (.t 23) }, { d := some 112, op := .bsl false 3 1 [.int .i64 0, .int .i64 0, .int .i64 0] [(0, .t 111)] }, { d := some 113, op := .app 3 24 (.t 110) (.t 112) }, { d := some 8, op := .mov (.t 113) }]) (.skip)))))) (.reg 25 false [ { d := some 114, op := .bin .add (.t 98) (.c (.int .i64 1)) }, { d := some 98, op := .mov (.t 114) }]))))))) (.seq
 (.seq (.reg 26 false [ { d := some 115, op := .faddr 4 (.t 12) }, { d := some 116, op := .load false 1 (.t 115) }, { d := some 117, op := .len (.t 116) }, { d := some 118, op := .faddr 4 (.t 14) }, { d := some 119, op := .load false 1 (.t 118) }, { d := some 120, op := .len (.t 119) }, { d := some 121, op := .mx true (.t 117) [.t 120] }, { d := some 122, op := .mov (.c (.int .i64 0)) }]) (.block 6 (.loop
 (.seq (.reg 27 false [ { d := some 123, op := .bin .lss (.t 122) (.t 121) }]) (.seq (.cond (.t 123) (.skip) (.exit 6)) (.seq (.block 7
 (.seq (.reg 28 false [ { d := some 124, op := .mov (.t 122) }, { d := some 24, op := .mov (.t 124) }])
 (.seq (.reg 29 true [ { d := some 125, op := .mov (.t 24), aft := [] }, { d := some 126, op := .faddr 4 (.t 12), aft := [] }, { d := some 127, op := .load false 1 (.t 126), aft := [1] }, { d := some 128, op := .len (.t 127), aft := [2] }, { d := some 129, op := .faddr 4 (.t 14), aft := [] }, { d := some 130, op := .load false 1 (.t 129), aft := [4] }, { d := some 131, op := .len (.t 130), aft := [5] }, { d := some 132, op := .mx false (.t 128) [.t 131], aft := [3, 6] }, { d := some 133, op := .bin .geq (.t 125) (.t 132), aft := [0, 7] }, { d := some 134, op := .mov (.t 133), aft := [8] }, { d := some 135, op := .faddr 4 (.t 12), guard := some (134, false), aft := [9] }, { d := some 136, op := .load false 1 (.t 135), guard := some (134, false), aft := [10, 9] }, { d := some 137, op := .mov (.t 24), guard := some (134, false), aft := [9] }, { d := some 138, op := .iaddr 3 (.t 136) (.t 137), guard := some (134, false), aft := [11, 12, 9] }, { d := some 139, op := .load true 3 (.t 138), guard := some (134, false), aft := [13, 9] }, { d := some 140, op := .faddr 4 (.t 14), guard := some (134, false), aft := [9] }, { d := some 141, op := .load false 1 (.t 140), guard := some (134, false), aft := [15, 9] }, { d := some 142, op := .mov (.t 24), guard := some (134, false), aft := [9] }, { d := some 143, op := .iaddr 3 (.t 141) (.t 142), guard := some (134, false), aft := [16, 17, 9] }, { d := some 144, op := .load true 3 (.t 143), guard := some (134, false), aft := [18, 9] }, { d := some 145, op := .eqs true [.i, .i, .i] (.t 139) (.t 144), guard := some (134, false), aft := [14, 19, 9] }, { d := some 146, op := .pick (.t 134) (.c (.bool true)) (.t 145), aft := [9, 20] }]) (.cond (.t 146) (.reg 30 false [ { d := some 147, op := .mov (.t 9) }, { d := some 148, op := .mov (.t 24) }, { d := some 149, op := .bsl false 1 1 [.int .i64 0] [(0, .t 148)] }, { d := some 150, op := .app 1 8 (.t 147) (.t 149) }, { d := some 9, op := .mov (.t 150) }]) (.skip))))) (.reg 31 false [ { d := some 151, op := .bin .add (.t 122) (.c (.int .i64 1)) }, { d := some 122, op := .mov (.t 151) }])))))))
 (.seq (.reg 32 false [ { d := some 152, op := .mov (.t 8) }, { d := some 153, op := .mov (.t 9) }, { d := some 8, op := .mov (.t 152) }, { d := some 9, op := .mov (.t 153) }, { d := some 10, op := .mov (.c (.int .i64 0)) }]) (.ret))))))))))))
def rr_sheet_Differ : List RRes := [.t 8, .t 9, .t 10]
theorem pc_sheet_Differ {G : Nat → Option (List AV)} {args : List AV} {v : AV} (hn : args.length ≤ Tryd.f44.ntmps) (h : ∀ R : Run, R.G = G → R.Top → AR Tryd.prog R rc_sheet_Differ (initSt args) (Fin rr_sheet_Differ v)) : PC Tryd.prog G 44 args v :=
  PC_of Tryd.func44 rfl (by kernel_rfl) (rc := rc_sheet_Differ) (by kernel_rfl) (rs := rr_sheet_Differ) (by kernel_rfl) hn (fun R _ hG hr => h R hG hr)

def rc_law02_SheetUses : RCode :=
  .seq (.reg 0 false [ { d := some 5, op := .box (.t 0) }, { d := some 10, op := .mov (.c (.bool false)) }]) (.seq
 (.seq (.reg 1 false [ { d := some 25, op := .load true 1 (.t 5) }, { d := some 26, op := .call 18 [.t 25] }, { d := some 27, op := .mov (.t 26) }, { d := some 28, op := .mov (.t 1), guard := some (27, false) }, { d := some 29, op := .len (.t 28), guard := some (27, false) }, { d := some 30, op := .bin .gtr (.t 29) (.c (.int .i64 80)), guard := some (27, false) }, { d := some 31, op := .pick (.t 27) (.c (.bool true)) (.t 30) }]) (.cond (.t 31)
 (.seq (.reg 2 false [ { d := some 10, op := .mov (.c (.bool true)) }]) (.ret)) (.skip)))
 (.seq (.reg 3 false [ { d := some 32, op := .load true 1 (.t 5) }, { d := some 33, op := .call 19 [.t 32] }, { d := some 34, op := .bsl true 1 0 [] [] }, { d := some 35, op := .mov (.t 1) }, { d := some 36, op := .app 1 8 (.t 34) (.t 35) }, { d := some 11, op := .alloc [.nils] }, { d := none, op := .store 1 (.t 11) (.t 33) }, { d := some 12, op := .mov (.t 36) }])
 (.seq (.reg 4 false [ { d := some 38, op := .load true 1 (.t 11) }, { d := some 39, op := .mov (.t 2) }, { d := some 40, op := .call 39 [.t 38, .t 39] }, { d := some 37, op := .mov (.t 40) }, { d := some 41, op := .ext 0 (.t 37) }, { d := some 42, op := .ext 1 (.t 37) }, { d := some 13, op := .mov (.t 41) }, { d := some 14, op := .mov (.t 42) }])
 (.seq (.reg 5 false [ { d := some 44, op := .load true 1 (.t 5) }, { d := some 45, op := .mov (.t 2) }, { d := some 46, op := .call 40 [.t 44, .t 45] }, { d := some 43, op := .mov (.t 46) }, { d := some 47, op := .ext 0 (.t 43) }, { d := some 48, op := .ext 1 (.t 43) }, { d := some 15, op := .mov (.t 47) }, { d := some 16, op := .mov (.t 48) }])
 (.seq (.reg 6 false [ { d := some 50, op := .load true 1 (.t 11) }, { d := some 51, op := .mov (.t 12) }, { d := some 52, op := .mov (.t 2) }, { d := some 53, op := .call 41 [.t 50, .t 51, .t 52] }, { d := some 49, op := .mov (.t 53) }, { d := some 54, op := .ext 0 (.t 49) }, { d := some 55, op := .ext 1 (.t 49) }, { d := some 17, op := .mov (.t 54) }, { d := some 18, op := .mov (.t 55) }])
 (.seq (.reg 7 false [ { d := some 57, op := .load true 1 (.t 5) }, { d := some 58, op := .mov (.t 1) }, { d := some 59, op := .mov (.t 2) }, { d := some 60, op := .call 42 [.t 57, .t 58, .t 59] }, { d := some 56, op := .mov (.t 60) }, { d := some 61, op := .ext 0 (.t 56) }, { d := some 62, op := .ext 1 (.t 56) }, { d := some 19, op := .mov (.t 61) }, { d := some 20, op := .mov (.t 62) }]) (.seq
 (.seq (.reg 8 false [ { d := some 63, op := .mov (.t 13) }, { d := some 64, op := .mov (.t 15) }, { d := some 65, op := .call 43 [.t 63, .t 64] }, { d := some 66, op := .un .not (.t 65) }, { d := some 67, op := .mov (.t 66) }, { d := some 68, op := .mov (.t 14), guard := some (67, false) }, { d := some 69, op := .mov (.t 16), guard := some (67, false) }, { d := some 70, op := .bin .neq (.t 68) (.t 69), guard := some (67, false) }, { d := some 71, op := .pick (.t 67) (.c (.bool true)) (.t 70) }, { d := some 72, op := .mov (.t 71) }, { d := some 73, op := .mov (.t 17), guard := some (72, false) }, { d := some 74, op := .mov (.t 19), guard := some (72, false) }, { d := some 75, op := .call 26 [.t 73, .t 74], guard := some (72, false) }, { d := some 76, op := .un .not (.t 75), guard := some (72, false) }, { d := some 77, op := .pick (.t 72) (.c (.bool true)) (.t 76) }, { d := some 78, op := .mov (.t 77) }, { d := some 79, op := .mov (.t 18), guard := some (78, false) }, { d := some 80, op := .mov (.t 20), guard := some (78, false) }, { d := some 81, op := .bin .neq (.t 79) (.t 80), guard := some (78, false) }, { d := some 82, op := .pick (.t 78) (.c (.bool true)) (.t 81) }]) (.cond (.t 82)
 (.seq (.reg 9 false [ { d := some 10, op := .mov (.c (.bool false)) }]) (.ret)) (.skip)))
 (.seq (.reg 10 false [ { d := some 84, op := .load true 1 (.t 11) }, { d := some 85, op := .mov (.t 2) }, { d := some 86, op := .mov (.t 3) }, { d := some 87, op := .mov (.t 4) }, { d := some 88, op := .call 44 [.t 84, .t 85, .t 86, .t 87] }, { d := some 83, op := .mov (.t 88) }, { d := some 89, op := .ext 0 (.t 83) }, { d := some 90, op := .ext 1 (.t 83) }, { d := some 91, op := .ext 2 (.t 83) }, { d := some 21, op := .mov (.t 89) }, { d := some 22, op := .mov (.t 90) }, { d := some 14, op := .mov (.t 91) }])
 (.seq (.reg 11 false [ { d := some 93, op := .load true 1 (.t 5) }, { d := some 94, op := .mov (.t 2) }, { d := some 95, op := .mov (.t 3) }, { d := some 96, op := .mov (.t 4) }, { d := some 97, op := .call 45 [.t 93, .t 94, .t 95, .t 96] }, { d := some 92, op := .mov (.t 97) }, { d := some 98, op := .ext 0 (.t 92) }, { d := some 99, op := .ext 1 (.t 92) }, { d := some 100, op := .ext 2 (.t 92) }, { d := some 23, op := .mov (.t 98) }, { d := some 24, op := .mov (.t 99) }, { d := some 16, op := .mov (.t 100) }])
 (.seq (.reg 12 false [ { d := some 101, op := .mov (.t 21) }, { d := some 102, op := .mov (.t 23) }, { d := some 103, op := .call 46 [.t 101, .t 102] }, { d := some 104, op := .mov (.t 103) }, { d := some 105, op := .mov (.t 22), guard := some (104, true) }, { d := some 106, op := .mov (.t 24), guard := some (104, true) }, { d := some 107, op := .call 26 [.t 105, .t 106], guard := some (104, true) }, { d := some 108, op := .pick (.t 104) (.t 107) (.c (.bool false)) }, { d := some 109, op := .mov (.t 108) }, { d := some 110, op := .mov (.t 14), guard := some (109, true) }, { d := some 111, op := .mov (.t 16), guard := some (109, true) }, { d := some 112, op := .bin .eql (.t 110) (.t 111), guard := some (109, true) }, { d := some 113, op := .pick (.t 109) (.t 112) (.c (.bool false)) }, { d := some 114, op := .mov (.t 113) }, { d := some 115, op := .load true 1 (.t 11), guard := some (114, true) }, { d := some 116, op := .load true 1 (.t 5), guard := some (114, true) }, { d := some 117, op := .call 32 [.t 115, .t 116], guard := some (114, true) }, { d := some 118, op := .pick (.t 114) (.t 117) (.c (.bool false)) }, { d := some 119, op := .mov (.t 118) }, { d := some 120, op := .mov (.t 12), guard := some (119, true) }, { d := some 121, op := .mov (.t 1), guard := some (119, true) }, { d := some 122, op := .call 26 [.t 120, .t 121], guard := some (119, true) }, { d := some 123, op := .pick (.t 119) (.t 122) (.c (.bool false)) }, { d := some 10, op := .mov (.t 123) }]) (.ret)))))))))))
def rr_law02_SheetUses : List RRes := [.t 10]
theorem pc_law02_SheetUses {G : Nat → Option (List AV)} {args : List AV} {v : AV} (hn : args.length ≤ Tryd.f5.ntmps) (h : ∀ R : Run, R.G = G → R.Top → AR Tryd.prog R rc_law02_SheetUses (initSt args) (Fin rr_law02_SheetUses v)) : PC Tryd.prog G 5 args v :=
  PC_of Tryd.func5 rfl (by kernel_rfl) (rc := rc_law02_SheetUses) (by kernel_rfl) (rs := rr_law02_SheetUses) (by kernel_rfl) hn (fun R _ hG hr => h R hG hr)

end Go.Proofs.YtdpmioiamcgfkaaDoor

/-! The abstract machine's code of functions of the program, as a program of ours printed it; that it is theirs is proved beside each. -/
namespace Go.Proofs.YtdpmioiamcgfkaaDoor
open Go.RowKit

def rc_sheet_taken : RCode :=
  .seq (.reg 0 false [ { d := some 3, op := .box (.t 0) }, { d := some 6, op := .mov (.c (.nilp)) }, { d := some 7, op := .mov (.c (.nilm)) }, { d := some 8, op := .mov (.c (.int .i64 0)) }])
 (.seq (.reg 1 false [ { d := some 16, op := .load true 1 (.t 3) }, { d := some 17, op := .call 67 [.t 16] }, { d := some 15, op := .mov (.t 17) }, { d := some 18, op := .ext 0 (.t 15) }, { d := some 19, op := .ext 1 (.t 15) }, { d := some 9, op := .mov (.t 18) }, { d := some 10, op := .mov (.t 19) }]) (.seq
 (.seq (.reg 2 false [ { d := some 20, op := .mov (.t 10) }, { d := some 21, op := .bin .neq (.t 20) (.c (.int .i64 0)) }]) (.cond (.t 21)
 (.seq (.reg 3 false [ { d := some 22, op := .mov (.t 10) }, { d := some 6, op := .mov (.c (.nilp)) }, { d := some 7, op := .mov (.c (.nilm)) }, { d := some 8, op := .mov (.t 22) }]) (.ret)) (.skip))) (.seq
 (.seq (.reg 4 false [ { d := some 23, op := .mov (.t 1) }, { d := some 24, op := .len (.t 23) }, { d := some 25, op := .mov (.t 9) }, { d := some 26, op := .nilck (.t 25) }, { d := some 27, op := .faddr 1 (.t 26) }, { d := some 28, op := .load false 1 (.t 27) }, { d := some 29, op := .len (.t 28) }, { d := some 30, op := .bin .neq (.t 24) (.t 29) }]) (.cond (.t 30)
 (.seq (.reg 5 false [ { d := some 6, op := .mov (.c (.nilp)) }, { d := some 7, op := .mov (.c (.nilm)) }, { d := some 8, op := .mov (.c (.int .i64 22)) }]) (.ret)) (.skip)))
 (.seq (.reg 6 false [ { d := some 31, op := .mkmap }, { d := some 11, op := .mov (.t 31) }]) (.seq
 (.seq (.reg 7 false [ { d := some 32, op := .mov (.t 1) }, { d := some 33, op := .len (.t 32) }, { d := some 34, op := .mov (.c (.int .i64 0)) }]) (.block 0 (.loop
 (.seq (.reg 8 false [ { d := some 35, op := .bin .lss (.t 34) (.t 33) }]) (.seq (.cond (.t 35) (.skip) (.exit 0)) (.seq (.block 1
 (.seq (.reg 9 false [ { d := some 36, op := .mov (.t 34) }, { d := some 12, op := .mov (.t 36) }])
 (.seq (.reg 10 true [ { d := some 38, op := .mov (.t 9), aft := [] }, { d := some 39, op := .mov (.t 9), aft := [] }, { d := some 40, op := .nilck (.t 39), aft := [1] }, { d := some 41, op := .faddr 1 (.t 40), aft := [2] }, { d := some 42, op := .load false 1 (.t 41), aft := [3] }, { d := some 43, op := .mov (.t 12), aft := [] }, { d := some 44, op := .iaddr 1 (.t 42) (.t 43), aft := [4, 5] }, { d := some 45, op := .load false 1 (.t 44), aft := [6] }, { d := some 46, op := .mov (.t 1), aft := [] }, { d := some 47, op := .mov (.t 12), aft := [] }, { d := some 48, op := .iaddr 1 (.t 46) (.t 47), aft := [8, 9] }, { d := some 49, op := .load false 1 (.t 48), aft := [10] }, { d := some 50, op := .build [.int .i64 0, .int .i64 0] [(0, 1, .t 45), (1, 1, .t 49)], aft := [7, 11] }, { d := some 51, op := .call 72 [.t 38, .t 50], aft := [0, 12] }, { d := some 37, op := .mov (.t 51), aft := [13] }, { d := some 52, op := .ext 0 (.t 37), aft := [14] }, { d := some 53, op := .ext 1 (.t 37), aft := [14] }, { d := some 13, op := .alloc [.int .i64 0, .int .i64 0, .int .u8 0, .nils, .nils], aft := [] }, { d := none, op := .store 5 (.t 13) (.t 52), aft := [17, 15, 13, 0, 1, 2, 3, 4, 5, 6, 7, 8, 9, 10, 11, 12, 13, 14, 15, 17] }, { d := some 14, op := .mov (.t 53), aft := [16, 18, 0, 1, 2, 3, 4, 5, 6, 7, 8, 9, 10, 11, 12, 13, 14, 15, 16, 17, 18] }]) (.seq
 (.seq (.reg 11 false [ { d := some 54, op := .mov (.t 14) }, { d := some 55, op := .un .not (.t 54) }]) (.cond (.t 55)
 (.seq (.reg 12 false [ { d := some 6, op := .mov (.c (.nilp)) }, { d := some 7, op := .mov (.c (.nilm)) }, { d := some 8, op := .mov (.c (.int .i64 22)) }]) (.ret)) (.skip))) (.reg 13 false [ { d := some 56, op := .mov (.t 11) }, { d := some 57, op := .faddr 0 (.t 13) }, { d := some 58, op := .load false 1 (.t 57) }, { d := some 59, op := .load true 5 (.t 13) }, { d := none, op := .mupd (.i .i64) (.t 56) (.t 58) (.t 59) }]))))) (.reg 14 false [ { d := some 60, op := .bin .add (.t 34) (.c (.int .i64 1)) }, { d := some 34, op := .mov (.t 60) }]))))))) (.seq
 (.seq (.reg 15 false [ { d := some 61, op := .mov (.t 9) }, { d := some 62, op := .mov (.t 2) }, { d := some 63, op := .call 104 [.t 61, .t 62] }, { d := some 64, op := .un .not (.t 63) }]) (.cond (.t 64)
 (.seq (.reg 16 false [ { d := some 6, op := .mov (.c (.nilp)) }, { d := some 7, op := .mov (.c (.nilm)) }, { d := some 8, op := .mov (.c (.int .i64 6)) }]) (.ret)) (.skip)))
 (.seq (.reg 17 false [ { d := some 65, op := .mov (.t 9) }, { d := some 66, op := .mov (.t 11) }, { d := some 6, op := .mov (.t 65) }, { d := some 7, op := .mov (.t 66) }, { d := some 8, op := .mov (.c (.int .i64 0)) }]) (.ret))))))))
def rr_sheet_taken : List RRes := [.t 6, .t 7, .t 8]
theorem pc_sheet_taken {G : Nat → Option (List AV)} {args : List AV} {v : AV} (hn : args.length ≤ Tryd.f76.ntmps) (h : ∀ R : Run, R.G = G → R.Top → AR Tryd.prog R rc_sheet_taken (initSt args) (Fin rr_sheet_taken v)) : PC Tryd.prog G 76 args v :=
  PC_of Tryd.func76 rfl (by kernel_rfl) (rc := rc_sheet_taken) (by kernel_rfl) (rs := rr_sheet_taken) (by kernel_rfl) hn (fun R _ hG hr => h R hG hr)

def rc_sheet_Explode : RCode :=
  .seq (.reg 0 false [ { d := some 3, op := .box (.t 0) }, { d := some 6, op := .mov (.c (.nils)) }, { d := some 7, op := .mov (.c (.int .i64 0)) }])
 (.seq (.reg 1 false [ { d := some 17, op := .load true 1 (.t 3) }, { d := some 18, op := .mov (.t 1) }, { d := some 19, op := .mov (.t 2) }, { d := some 20, op := .call 76 [.t 17, .t 18, .t 19] }, { d := some 16, op := .mov (.t 20) }, { d := some 21, op := .ext 0 (.t 16) }, { d := some 22, op := .ext 1 (.t 16) }, { d := some 23, op := .ext 2 (.t 16) }, { d := some 9, op := .alloc [.nilm] }, { d := some 8, op := .mov (.t 21) }, { d := none, op := .store 1 (.t 9) (.t 22) }, { d := some 10, op := .mov (.t 23) }]) (.seq
 (.seq (.reg 2 false [ { d := some 24, op := .mov (.t 10) }, { d := some 25, op := .bin .neq (.t 24) (.c (.int .i64 0)) }]) (.cond (.t 25)
 (.seq (.reg 3 false [ { d := some 26, op := .mov (.t 10) }, { d := some 6, op := .mov (.c (.nils)) }, { d := some 7, op := .mov (.t 26) }]) (.ret)) (.skip)))
 (.seq (.reg 4 false [ { d := some 27, op := .mkmap }, { d := some 11, op := .alloc [.nilm] }, { d := none, op := .store 1 (.t 11) (.t 27) }])
 (.seq (.reg 5 false [ { d := some 12, op := .alloc [.nilf] }])
 (.seq (.reg 6 false [ { d := some 28, op := .mkf (.func 77) [] [.t 9, .t 11, .t 12] }, { d := none, op := .store 1 (.t 12) (.t 28) }])
 (.seq (.reg 7 false [ { d := some 29, op := .load false 1 (.t 12) }, { d := some 30, op := .mov (.t 2) }, { d := some 31, op := .callv (.t 29) [.t 30, .c (.int .i64 1)] }])
 (.seq (.reg 8 false [ { d := some 13, op := .mov (.c (.nils)) }]) (.seq
 (.seq (.reg 9 false [ { d := some 32, op := .mov (.t 8) }, { d := some 33, op := .nilck (.t 32) }, { d := some 34, op := .faddr 1 (.t 33) }, { d := some 35, op := .load false 1 (.t 34) }, { d := some 36, op := .len (.t 35) }, { d := some 37, op := .mov (.c (.int .i64 0)) }]) (.block 0 (.loop
 (.seq (.reg 10 false [ { d := some 38, op := .bin .lss (.t 37) (.t 36) }]) (.seq (.cond (.t 38) (.skip) (.exit 0)) (.seq (.block 1
 (.seq (.reg 11 false [ { d := some 39, op := .iaddr 1 (.t 35) (.t 37) }, { d := some 40, op := .load false 1 (.t 39) }, { d := some 15, op := .mov (.t 40) }])
 (.seq (.reg 12 false [ { d := some 41, op := .load false 1 (.t 11) }, { d := some 42, op := .mov (.t 15) }, { d := some 43, op := .look (.i .i64) (.int .i64 0) false (.t 41) (.t 42) }, { d := some 44, op := .bin .gtr (.t 43) (.c (.int .i64 0)) }]) (.cond (.t 44) (.reg 13 false [ { d := some 45, op := .mov (.t 13) }, { d := some 46, op := .mov (.t 15) }, { d := some 47, op := .load false 1 (.t 11) }, { d := some 48, op := .mov (.t 15) }, { d := some 49, op := .look (.i .i64) (.int .i64 0) false (.t 47) (.t 48) }, { d := some 50, op := .build [.int .i64 0, .int .i64 0] [(0, 1, .t 46), (1, 1, .t 49)] }, { d := some 51, op := .bsl false 2 1 [.int .i64 0, .int .i64 0] [(0, .t 50)] }, { d := some 52, op := .app 2 16 (.t 45) (.t 51) }, { d := some 13, op := .mov (.t 52) }]) (.skip))))) (.reg 14 false [ { d := some 53, op := .bin .add (.t 37) (.c (.int .i64 1)) }, { d := some 37, op := .mov (.t 53) }])))))))
 (.seq (.reg 15 false [ { d := some 54, op := .mov (.t 13) }, { d := some 6, op := .mov (.t 54) }, { d := some 7, op := .mov (.c (.int .i64 0)) }]) (.ret))))))))))
def rr_sheet_Explode : List RRes := [.t 6, .t 7]
theorem pc_sheet_Explode {G : Nat → Option (List AV)} {args : List AV} {v : AV} (hn : args.length ≤ Tryd.f33.ntmps) (h : ∀ R : Run, R.G = G → R.Top → AR Tryd.prog R rc_sheet_Explode (initSt args) (Fin rr_sheet_Explode v)) : PC Tryd.prog G 33 args v :=
  PC_of Tryd.func33 rfl (by kernel_rfl) (rc := rc_sheet_Explode) (by kernel_rfl) (rs := rr_sheet_Explode) (by kernel_rfl) hn (fun R _ hG hr => h R hG hr)

def rc_sheet_Explode_1 : RCode :=
  .seq (.reg 0 false [ { d := some 10, op := .load false 1 (.t 2) }, { d := some 11, op := .mov (.t 0) }, { d := some 12, op := .look (.i .i64) (.agg [.int .i64 0, .int .i64 0, .int .u8 0, .nils, .nils]) false (.t 10) (.t 11) }, { d := some 7, op := .alloc [.int .i64 0, .int .i64 0, .int .u8 0, .nils, .nils] }, { d := none, op := .store 5 (.t 7) (.t 12) }]) (.seq
 (.seq (.reg 1 false [ { d := some 13, op := .faddr 2 (.t 7) }, { d := some 14, op := .load false 1 (.t 13) }, { d := some 15, op := .bin .neq (.t 14) (.c (.int .u8 1)) }]) (.cond (.t 15) (.reg 2 false [ { d := some 16, op := .load false 1 (.t 3) }, { d := some 17, op := .mov (.t 0) }, { d := some 18, op := .look (.i .i64) (.int .i64 0) false (.t 16) (.t 17) }, { d := some 19, op := .mov (.t 1) }, { d := some 20, op := .bin .add (.t 18) (.t 19) }, { d := none, op := .mupd (.i .i64) (.t 16) (.t 17) (.t 20) }]) (.skip)))
 (.seq (.reg 3 false [ { d := some 21, op := .faddr 3 (.t 7) }, { d := some 22, op := .load false 1 (.t 21) }, { d := some 23, op := .len (.t 22) }, { d := some 24, op := .mov (.c (.int .i64 0)) }]) (.block 0 (.loop
 (.seq (.reg 4 false [ { d := some 25, op := .bin .lss (.t 24) (.t 23) }]) (.seq (.cond (.t 25) (.skip) (.exit 0)) (.seq (.block 1
 (.seq (.reg 5 false [ { d := some 26, op := .iaddr 2 (.t 22) (.t 24) }, { d := some 27, op := .load true 2 (.t 26) }, { d := some 9, op := .alloc [.int .i64 0, .int .i64 0] }, { d := none, op := .store 2 (.t 9) (.t 27) }]) (.reg 6 false [ { d := some 28, op := .load false 1 (.t 4) }, { d := some 29, op := .faddr 0 (.t 9) }, { d := some 30, op := .load false 1 (.t 29) }, { d := some 31, op := .mov (.t 1) }, { d := some 32, op := .faddr 1 (.t 9) }, { d := some 33, op := .load false 1 (.t 32) }, { d := some 34, op := .bin .mul (.t 31) (.t 33) }, { d := some 35, op := .callv (.t 28) [.t 30, .t 34] }]))) (.reg 7 false [ { d := some 36, op := .bin .add (.t 24) (.c (.int .i64 1)) }, { d := some 24, op := .mov (.t 36) }]))))))))
def rr_sheet_Explode_1 : List RRes := []
theorem pb_sheet_Explode_1 {G : Nat → Option (List AV)} {objs objs' : List (Nat × AObj)} {args : List AV} {v : AV} (hn : args.length ≤ Tryd.f77.ntmps) (h : ∀ R : Run, R.G = G → R.Top → AR Tryd.prog R rc_sheet_Explode_1 ⟨iniT 0 args, objs⟩ (FinB rr_sheet_Explode_1 v objs')) : PB Tryd.prog G 77 objs args v objs' :=
  PB_of Tryd.func77 rfl (by kernel_rfl) (rc := rc_sheet_Explode_1) (by kernel_rfl) (rs := rr_sheet_Explode_1) (by kernel_rfl) hn (fun R _ hG hr => h R hG hr)

def rc_sheet_Tree : RCode :=
  .seq (.reg 0 false [ { d := some 3, op := .box (.t 0) }, { d := some 6, op := .mov (.c (.nils)) }, { d := some 7, op := .mov (.c (.int .i64 0)) }])
 (.seq (.reg 1 false [ { d := some 14, op := .load true 1 (.t 3) }, { d := some 15, op := .mov (.t 1) }, { d := some 16, op := .mov (.t 2) }, { d := some 17, op := .call 76 [.t 14, .t 15, .t 16] }, { d := some 13, op := .mov (.t 17) }, { d := some 18, op := .ext 0 (.t 13) }, { d := some 19, op := .ext 1 (.t 13) }, { d := some 20, op := .ext 2 (.t 13) }, { d := some 9, op := .alloc [.nilm] }, { d := some 8, op := .mov (.t 18) }, { d := none, op := .store 1 (.t 9) (.t 19) }, { d := some 10, op := .mov (.t 20) }]) (.seq
 (.seq (.reg 2 false [ { d := some 21, op := .mov (.t 10) }, { d := some 22, op := .bin .neq (.t 21) (.c (.int .i64 0)) }]) (.cond (.t 22)
 (.seq (.reg 3 false [ { d := some 23, op := .mov (.t 10) }, { d := some 6, op := .mov (.c (.nils)) }, { d := some 7, op := .mov (.t 23) }]) (.ret)) (.skip)))
 (.seq (.reg 4 false [ { d := some 11, op := .alloc [.nils] }])
 (.seq (.reg 5 false [ { d := some 12, op := .alloc [.nilf] }])
 (.seq (.reg 6 false [ { d := some 24, op := .mkf (.func 80) [] [.t 11, .t 9, .t 12] }, { d := none, op := .store 1 (.t 12) (.t 24) }])
 (.seq (.reg 7 false [ { d := some 25, op := .load false 1 (.t 12) }, { d := some 26, op := .mov (.t 2) }, { d := some 27, op := .build [.int .i64 0, .int .i64 0] [(0, 1, .t 26), (1, 1, .c (.int .i64 1))] }, { d := some 28, op := .callv (.t 25) [.c (.int .i64 0), .t 27] }]) (.seq
 (.seq (.reg 8 false [ { d := some 29, op := .load false 1 (.t 11) }, { d := some 30, op := .len (.t 29) }, { d := some 31, op := .bin .gtr (.t 30) (.c (.int .i64 500)) }]) (.cond (.t 31)
 (.seq (.reg 9 false [ { d := some 6, op := .mov (.c (.nils)) }, { d := some 7, op := .mov (.c (.int .i64 4)) }]) (.ret)) (.skip)))
 (.seq (.reg 10 false [ { d := some 32, op := .load false 1 (.t 11) }, { d := some 6, op := .mov (.t 32) }, { d := some 7, op := .mov (.c (.int .i64 0)) }]) (.ret)))))))))
def rr_sheet_Tree : List RRes := [.t 6, .t 7]
theorem pc_sheet_Tree {G : Nat → Option (List AV)} {args : List AV} {v : AV} (hn : args.length ≤ Tryd.f35.ntmps) (h : ∀ R : Run, R.G = G → R.Top → AR Tryd.prog R rc_sheet_Tree (initSt args) (Fin rr_sheet_Tree v)) : PC Tryd.prog G 35 args v :=
  PC_of Tryd.func35 rfl (by kernel_rfl) (rc := rc_sheet_Tree) (by kernel_rfl) (rs := rr_sheet_Tree) (by kernel_rfl) hn (fun R _ hG hr => h R hG hr)

def rc_sheet_Tree_1 : RCode :=
  .seq (.reg 0 false [ { d := some 6, op := .box (.t 1) }]) (.seq
 (.seq (.reg 1 false [ { d := some 10, op := .load false 1 (.t 2) }, { d := some 11, op := .len (.t 10) }, { d := some 12, op := .bin .gtr (.t 11) (.c (.int .i64 500)) }]) (.cond (.t 12) (.ret) (.skip)))
 (.seq (.reg 2 false [ { d := some 13, op := .load false 1 (.t 3) }, { d := some 14, op := .faddr 0 (.t 6) }, { d := some 15, op := .load false 1 (.t 14) }, { d := some 16, op := .look (.i .i64) (.agg [.int .i64 0, .int .i64 0, .int .u8 0, .nils, .nils]) false (.t 13) (.t 15) }, { d := some 7, op := .alloc [.int .i64 0, .int .i64 0, .int .u8 0, .nils, .nils] }, { d := none, op := .store 5 (.t 7) (.t 16) }])
 (.seq (.reg 3 false [ { d := some 17, op := .load false 1 (.t 2) }, { d := some 18, op := .mov (.t 0) }, { d := some 19, op := .faddr 0 (.t 7) }, { d := some 20, op := .load false 1 (.t 19) }, { d := some 21, op := .faddr 1 (.t 7) }, { d := some 22, op := .load false 1 (.t 21) }, { d := some 23, op := .faddr 1 (.t 6) }, { d := some 24, op := .load false 1 (.t 23) }, { d := some 25, op := .build [.int .i64 0, .int .i64 0, .int .i64 0, .int .i64 0] [(0, 1, .t 18), (1, 1, .t 20), (2, 1, .t 22), (3, 1, .t 24)] }, { d := some 26, op := .bsl false 4 1 [.int .i64 0, .int .i64 0, .int .i64 0, .int .i64 0] [(0, .t 25)] }, { d := some 27, op := .app 4 32 (.t 17) (.t 26) }, { d := none, op := .store 1 (.t 2) (.t 27) }])
 (.seq (.reg 4 false [ { d := some 28, op := .faddr 3 (.t 7) }, { d := some 29, op := .load false 1 (.t 28) }, { d := some 30, op := .len (.t 29) }, { d := some 31, op := .mov (.c (.int .i64 0)) }]) (.block 0 (.loop
 (.seq (.reg 5 false [ { d := some 32, op := .bin .lss (.t 31) (.t 30) }]) (.seq (.cond (.t 32) (.skip) (.exit 0)) (.seq (.block 1
 (.seq (.reg 6 false [ { d := some 33, op := .iaddr 2 (.t 29) (.t 31) }, { d := some 34, op := .load true 2 (.t 33) }, { d := some 9, op := .alloc [.int .i64 0, .int .i64 0] }, { d := none, op := .store 2 (.t 9) (.t 34) }]) (.reg 7 false [ { d := some 35, op := .load false 1 (.t 4) }, { d := some 36, op := .mov (.t 0) }, { d := some 37, op := .bin .add (.t 36) (.c (.int .i64 1)) }, { d := some 38, op := .load true 2 (.t 9) }, { d := some 39, op := .callv (.t 35) [.t 37, .t 38] }]))) (.reg 8 false [ { d := some 40, op := .bin .add (.t 31) (.c (.int .i64 1)) }, { d := some 31, op := .mov (.t 40) }]))))))))))
def rr_sheet_Tree_1 : List RRes := []
theorem pb_sheet_Tree_1 {G : Nat → Option (List AV)} {objs objs' : List (Nat × AObj)} {args : List AV} {v : AV} (hn : args.length ≤ Tryd.f80.ntmps) (h : ∀ R : Run, R.G = G → R.Top → AR Tryd.prog R rc_sheet_Tree_1 ⟨iniT 0 args, objs⟩ (FinB rr_sheet_Tree_1 v objs')) : PB Tryd.prog G 80 objs args v objs' :=
  PB_of Tryd.func80 rfl (by kernel_rfl) (rc := rc_sheet_Tree_1) (by kernel_rfl) (rs := rr_sheet_Tree_1) (by kernel_rfl) hn (fun R _ hG hr => h R hG hr)

def rc_law02_SheetParts : RCode :=
  .seq (.reg 0 false [ { d := some 3, op := .box (.t 0) }, { d := some 6, op := .mov (.c (.bool false)) }]) (.seq
 (.seq (.reg 1 false [ { d := some 17, op := .load true 1 (.t 3) }, { d := some 18, op := .call 18 [.t 17] }, { d := some 19, op := .mov (.t 18) }, { d := some 20, op := .mov (.t 1), guard := some (19, false) }, { d := some 21, op := .len (.t 20), guard := some (19, false) }, { d := some 22, op := .bin .gtr (.t 21) (.c (.int .i64 80)), guard := some (19, false) }, { d := some 23, op := .pick (.t 19) (.c (.bool true)) (.t 22) }]) (.cond (.t 23)
 (.seq (.reg 2 false [ { d := some 6, op := .mov (.c (.bool true)) }]) (.ret)) (.skip)))
 (.seq (.reg 3 false [ { d := some 24, op := .load true 1 (.t 3) }, { d := some 25, op := .call 19 [.t 24] }, { d := some 26, op := .bsl true 1 0 [] [] }, { d := some 27, op := .mov (.t 1) }, { d := some 28, op := .app 1 8 (.t 26) (.t 27) }, { d := some 7, op := .alloc [.nils] }, { d := none, op := .store 1 (.t 7) (.t 25) }, { d := some 8, op := .mov (.t 28) }])
 (.seq (.reg 4 false [ { d := some 30, op := .load true 1 (.t 7) }, { d := some 31, op := .mov (.t 8) }, { d := some 32, op := .mov (.t 2) }, { d := some 33, op := .call 33 [.t 30, .t 31, .t 32] }, { d := some 29, op := .mov (.t 33) }, { d := some 34, op := .ext 0 (.t 29) }, { d := some 35, op := .ext 1 (.t 29) }, { d := some 9, op := .mov (.t 34) }, { d := some 10, op := .mov (.t 35) }])
 (.seq (.reg 5 false [ { d := some 37, op := .load true 1 (.t 3) }, { d := some 38, op := .mov (.t 1) }, { d := some 39, op := .mov (.t 2) }, { d := some 40, op := .call 34 [.t 37, .t 38, .t 39] }, { d := some 36, op := .mov (.t 40) }, { d := some 41, op := .ext 0 (.t 36) }, { d := some 42, op := .ext 1 (.t 36) }, { d := some 11, op := .mov (.t 41) }, { d := some 12, op := .mov (.t 42) }])
 (.seq (.reg 6 false [ { d := some 44, op := .load true 1 (.t 7) }, { d := some 45, op := .mov (.t 8) }, { d := some 46, op := .mov (.t 2) }, { d := some 47, op := .call 35 [.t 44, .t 45, .t 46] }, { d := some 43, op := .mov (.t 47) }, { d := some 48, op := .ext 0 (.t 43) }, { d := some 49, op := .ext 1 (.t 43) }, { d := some 13, op := .mov (.t 48) }, { d := some 14, op := .mov (.t 49) }])
 (.seq (.reg 7 false [ { d := some 51, op := .load true 1 (.t 3) }, { d := some 52, op := .mov (.t 1) }, { d := some 53, op := .mov (.t 2) }, { d := some 54, op := .call 36 [.t 51, .t 52, .t 53] }, { d := some 50, op := .mov (.t 54) }, { d := some 55, op := .ext 0 (.t 50) }, { d := some 56, op := .ext 1 (.t 50) }, { d := some 15, op := .mov (.t 55) }, { d := some 16, op := .mov (.t 56) }])
 (.seq (.reg 8 false [ { d := some 57, op := .mov (.t 9) }, { d := some 58, op := .mov (.t 11) }, { d := some 59, op := .call 37 [.t 57, .t 58] }, { d := some 60, op := .mov (.t 59) }, { d := some 61, op := .mov (.t 10), guard := some (60, true) }, { d := some 62, op := .mov (.t 12), guard := some (60, true) }, { d := some 63, op := .bin .eql (.t 61) (.t 62), guard := some (60, true) }, { d := some 64, op := .pick (.t 60) (.t 63) (.c (.bool false)) }, { d := some 65, op := .mov (.t 64) }, { d := some 66, op := .mov (.t 13), guard := some (65, true) }, { d := some 67, op := .mov (.t 15), guard := some (65, true) }, { d := some 68, op := .call 38 [.t 66, .t 67], guard := some (65, true) }, { d := some 69, op := .pick (.t 65) (.t 68) (.c (.bool false)) }, { d := some 70, op := .mov (.t 69) }, { d := some 71, op := .mov (.t 14), guard := some (70, true) }, { d := some 72, op := .mov (.t 16), guard := some (70, true) }, { d := some 73, op := .bin .eql (.t 71) (.t 72), guard := some (70, true) }, { d := some 74, op := .pick (.t 70) (.t 73) (.c (.bool false)) }, { d := some 75, op := .mov (.t 74) }, { d := some 76, op := .load true 1 (.t 7), guard := some (75, true) }, { d := some 77, op := .load true 1 (.t 3), guard := some (75, true) }, { d := some 78, op := .call 32 [.t 76, .t 77], guard := some (75, true) }, { d := some 79, op := .pick (.t 75) (.t 78) (.c (.bool false)) }, { d := some 80, op := .mov (.t 79) }, { d := some 81, op := .mov (.t 8), guard := some (80, true) }, { d := some 82, op := .mov (.t 1), guard := some (80, true) }, { d := some 83, op := .call 26 [.t 81, .t 82], guard := some (80, true) }, { d := some 84, op := .pick (.t 80) (.t 83) (.c (.bool false)) }, { d := some 6, op := .mov (.t 84) }]) (.ret))))))))
def rr_law02_SheetParts : List RRes := [.t 6]
theorem pc_law02_SheetParts {G : Nat → Option (List AV)} {args : List AV} {v : AV} (hn : args.length ≤ Tryd.f4.ntmps) (h : ∀ R : Run, R.G = G → R.Top → AR Tryd.prog R rc_law02_SheetParts (initSt args) (Fin rr_law02_SheetParts v)) : PC Tryd.prog G 4 args v :=
  PC_of Tryd.func4 rfl (by kernel_rfl) (rc := rc_law02_SheetParts) (by kernel_rfl) (rs := rr_law02_SheetParts) (by kernel_rfl) hn (fun R _ hG hr => h R hG hr)

end Go.Proofs.YtdpmioiamcgfkaaDoor

/-! The abstract machine's code of functions of the program, as a program of ours printed it; that it is theirs is proved beside each. -/
namespace Go.Proofs.YtdpmioiamcgfkaaDoor
open Go.RowKit

def rc_ref02_asked : RCode :=
  .seq (.reg 0 false [ { d := some 3, op := .box (.t 0) }, { d := some 6, op := .mov (.c (.int .i64 0)) }]) (.seq
 (.seq (.reg 1 false [ { d := some 8, op := .load true 1 (.t 3) }, { d := some 9, op := .call 25 [.t 8] }, { d := some 7, op := .mov (.t 9) }])
 (.seq (.reg 2 false [ { d := some 10, op := .mov (.t 7) }, { d := some 11, op := .bin .neq (.t 10) (.c (.int .i64 0)) }]) (.cond (.t 11)
 (.seq (.reg 3 false [ { d := some 12, op := .mov (.t 7) }, { d := some 6, op := .mov (.t 12) }]) (.ret)) (.skip)))) (.seq
 (.seq (.reg 4 false [ { d := some 13, op := .load true 1 (.t 3) }, { d := some 14, op := .mov (.t 1) }, { d := some 15, op := .call 110 [.t 13, .t 14] }, { d := some 16, op := .un .not (.t 15) }]) (.cond (.t 16)
 (.seq (.reg 5 false [ { d := some 6, op := .mov (.c (.int .i64 22)) }]) (.ret)) (.skip))) (.seq
 (.seq (.reg 6 false [ { d := some 17, op := .load true 1 (.t 3) }, { d := some 18, op := .call 55 [.t 17] }, { d := some 19, op := .mov (.t 2) }, { d := some 20, op := .call 56 [.t 18, .t 19] }, { d := some 21, op := .bin .lss (.t 20) (.c (.int .i64 0)) }]) (.cond (.t 21)
 (.seq (.reg 7 false [ { d := some 6, op := .mov (.c (.int .i64 6)) }]) (.ret)) (.skip)))
 (.seq (.reg 8 false [ { d := some 6, op := .mov (.c (.int .i64 0)) }]) (.ret)))))
def rr_ref02_asked : List RRes := [.t 6]
theorem pc_ref02_asked {G : Nat → Option (List AV)} {args : List AV} {v : AV} (hn : args.length ≤ Tryd.f78.ntmps) (h : ∀ R : Run, R.G = G → R.Top → AR Tryd.prog R rc_ref02_asked (initSt args) (Fin rr_ref02_asked v)) : PC Tryd.prog G 78 args v :=
  PC_of Tryd.func78 rfl (by kernel_rfl) (rc := rc_ref02_asked) (by kernel_rfl) (rs := rr_ref02_asked) (by kernel_rfl) hn (fun R _ hG hr => h R hG hr)

def rc_ref02_Letters : RCode :=
  .seq (.reg 0 false [ { d := some 2, op := .box (.t 0) }, { d := some 4, op := .mov (.c (.bool false)) }])
 (.seq (.reg 1 false [ { d := some 7, op := .load true 1 (.t 2) }, { d := some 8, op := .call 55 [.t 7] }, { d := some 5, op := .mov (.t 8) }]) (.seq
 (.seq (.reg 2 false [ { d := some 9, op := .mov (.t 1) }, { d := some 10, op := .len (.t 9) }, { d := some 11, op := .mov (.t 5) }, { d := some 12, op := .len (.t 11) }, { d := some 13, op := .bin .neq (.t 10) (.t 12) }]) (.cond (.t 13)
 (.seq (.reg 3 false [ { d := some 4, op := .mov (.c (.bool false)) }]) (.ret)) (.skip))) (.seq
 (.seq (.reg 4 false [ { d := some 6, op := .mov (.c (.int .i64 0)) }]) (.block 0 (.loop (.seq
 (.seq (.reg 5 false [ { d := some 14, op := .mov (.t 6) }, { d := some 15, op := .mov (.t 5) }, { d := some 16, op := .len (.t 15) }, { d := some 17, op := .bin .lss (.t 14) (.t 16) }]) (.cond (.t 17) (.skip) (.exit 0))) (.seq (.block 1
 (.seq (.reg 7 true [ { d := some 20, op := .mov (.t 1), aft := [] }, { d := some 21, op := .mov (.t 6), aft := [] }, { d := some 22, op := .iaddr 1 (.t 20) (.t 21), aft := [0, 1] }, { d := some 23, op := .load false 1 (.t 22), aft := [2] }, { d := some 24, op := .load true 1 (.t 2), aft := [] }, { d := some 25, op := .mov (.t 5), aft := [] }, { d := some 26, op := .mov (.t 6), aft := [] }, { d := some 27, op := .iaddr 1 (.t 25) (.t 26), aft := [5, 6] }, { d := some 28, op := .load false 1 (.t 27), aft := [7] }, { d := some 29, op := .call 59 [.t 24, .t 28], aft := [4, 8] }, { d := some 30, op := .call 106 [.t 23, .c (.int .i64 1), .t 29], aft := [3, 9, 9] }, { d := some 31, op := .un .not (.t 30), aft := [10] }]) (.cond (.t 31)
 (.seq (.reg 8 false [ { d := some 4, op := .mov (.c (.bool false)) }]) (.ret)) (.skip)))) (.reg 6 false [ { d := some 18, op := .mov (.t 6) }, { d := some 19, op := .bin .add (.t 18) (.c (.int .i64 1)) }, { d := some 6, op := .mov (.t 19) }]))))))
 (.seq (.reg 9 false [ { d := some 4, op := .mov (.c (.bool true)) }]) (.ret)))))
def rr_ref02_Letters : List RRes := [.t 4]
theorem pc_ref02_Letters {G : Nat → Option (List AV)} {args : List AV} {v : AV} (hn : args.length ≤ Tryd.f110.ntmps) (h : ∀ R : Run, R.G = G → R.Top → AR Tryd.prog R rc_ref02_Letters (initSt args) (Fin rr_ref02_Letters v)) : PC Tryd.prog G 110 args v :=
  PC_of Tryd.func110 rfl (by kernel_rfl) (rc := rc_ref02_Letters) (by kernel_rfl) (rs := rr_ref02_Letters) (by kernel_rfl) hn (fun R _ hG hr => h R hG hr)

def rc_ref02_Taken : RCode :=
  .seq (.reg 0 false [ { d := some 3, op := .box (.t 0) }, { d := some 6, op := .alloc [.int .i64 0, .int .i64 0, .int .u8 0, .nils, .nils] }])
 (.seq (.reg 1 true [ { d := some 10, op := .load true 1 (.t 3), aft := [] }, { d := some 11, op := .mov (.t 2), aft := [] }, { d := some 12, op := .mov (.t 1), aft := [] }, { d := some 13, op := .load true 1 (.t 3), aft := [] }, { d := some 14, op := .call 55 [.t 13], aft := [3] }, { d := some 15, op := .mov (.t 2), aft := [] }, { d := some 16, op := .call 56 [.t 14, .t 15], aft := [4, 5, 4] }, { d := some 17, op := .iaddr 1 (.t 12) (.t 16), aft := [2, 6] }, { d := some 18, op := .load false 1 (.t 17), aft := [7] }, { d := some 19, op := .build [.int .i64 0, .int .i64 0] [(0, 1, .t 11), (1, 1, .t 18)], aft := [1, 8] }, { d := some 20, op := .call 74 [.t 10, .t 19], aft := [0, 9, 6] }, { d := some 9, op := .mov (.t 20), aft := [10] }, { d := some 21, op := .ext 0 (.t 9), aft := [11] }, { d := some 22, op := .ext 1 (.t 9), aft := [11] }, { d := some 7, op := .alloc [.int .i64 0, .int .i64 0, .int .u8 0, .nils, .nils], aft := [] }, { d := none, op := .store 5 (.t 7) (.t 21), aft := [14, 12, 10, 0, 1, 2, 3, 4, 5, 6, 7, 8, 9, 10, 11, 12, 14] }, { d := some 8, op := .mov (.t 22), aft := [13, 15, 0, 1, 2, 3, 4, 5, 6, 7, 8, 9, 10, 11, 12, 13, 14, 15] }])
 (.seq (.reg 2 false [ { d := some 23, op := .load true 5 (.t 7) }, { d := none, op := .store 5 (.t 6) (.t 23) }]) (.ret)))
def rr_ref02_Taken : List RRes := [.c 6 true 5]
theorem pc_ref02_Taken {G : Nat → Option (List AV)} {args : List AV} {v : AV} (hn : args.length ≤ Tryd.f112.ntmps) (h : ∀ R : Run, R.G = G → R.Top → AR Tryd.prog R rc_ref02_Taken (initSt args) (Fin rr_ref02_Taken v)) : PC Tryd.prog G 112 args v :=
  PC_of Tryd.func112 rfl (by kernel_rfl) (rc := rc_ref02_Taken) (by kernel_rfl) (rs := rr_ref02_Taken) (by kernel_rfl) hn (fun R _ hG hr => h R hG hr)

def rc_ref02_parts : RCode :=
  .seq (.reg 0 false [ { d := some 5, op := .box (.t 0) }])
 (.seq (.reg 1 false [ { d := some 12, op := .load true 1 (.t 5) }, { d := some 13, op := .mov (.t 1) }, { d := some 14, op := .mov (.t 2) }, { d := some 15, op := .call 112 [.t 12, .t 13, .t 14] }, { d := some 10, op := .alloc [.int .i64 0, .int .i64 0, .int .u8 0, .nils, .nils] }, { d := none, op := .store 5 (.t 10) (.t 15) }]) (.seq
 (.seq (.reg 2 false [ { d := some 16, op := .faddr 2 (.t 10) }, { d := some 17, op := .load false 1 (.t 16) }, { d := some 18, op := .bin .gtr (.t 17) (.c (.int .u8 1)) }]) (.cond (.t 18)
 (.seq (.reg 3 false [ { d := some 19, op := .mov (.t 4) }, { d := some 20, op := .load true 1 (.t 5) }, { d := some 21, op := .call 55 [.t 20] }, { d := some 22, op := .mov (.t 2) }, { d := some 23, op := .call 56 [.t 21, .t 22] }, { d := some 24, op := .iaddr 1 (.t 19) (.t 23) }, { d := some 25, op := .load false 1 (.t 24) }, { d := some 26, op := .mov (.t 3) }, { d := some 27, op := .bin .add (.t 25) (.t 26) }, { d := some 28, op := .iaddr 1 (.t 19) (.t 23) }, { d := none, op := .store 1 (.t 28) (.t 27) }]) (.ret)) (.skip)))
 (.seq (.reg 4 false [ { d := some 11, op := .mov (.c (.int .i64 0)) }]) (.block 0 (.loop (.seq
 (.seq (.reg 5 false [ { d := some 29, op := .mov (.t 11) }, { d := some 30, op := .faddr 3 (.t 10) }, { d := some 31, op := .load false 1 (.t 30) }, { d := some 32, op := .len (.t 31) }, { d := some 33, op := .bin .lss (.t 29) (.t 32) }]) (.cond (.t 33) (.skip) (.exit 0))) (.seq (.block 1 (.reg 7 true [ { d := some 36, op := .load true 1 (.t 5), aft := [] }, { d := some 37, op := .mov (.t 1), aft := [] }, { d := some 38, op := .faddr 3 (.t 10), aft := [] }, { d := some 39, op := .load false 1 (.t 38), aft := [2] }, { d := some 40, op := .mov (.t 11), aft := [] }, { d := some 41, op := .iaddr 2 (.t 39) (.t 40), aft := [3, 4] }, { d := some 42, op := .faddr 0 (.t 41), aft := [5] }, { d := some 43, op := .load false 1 (.t 42), aft := [6] }, { d := some 44, op := .mov (.t 3), aft := [] }, { d := some 45, op := .faddr 3 (.t 10), aft := [] }, { d := some 46, op := .load false 1 (.t 45), aft := [9] }, { d := some 47, op := .mov (.t 11), aft := [] }, { d := some 48, op := .iaddr 2 (.t 46) (.t 47), aft := [10, 11] }, { d := some 49, op := .faddr 1 (.t 48), aft := [12] }, { d := some 50, op := .load false 1 (.t 49), aft := [13] }, { d := some 51, op := .bin .mul (.t 44) (.t 50), aft := [8, 14] }, { d := some 52, op := .mov (.t 4), aft := [] }, { d := some 53, op := .call 111 [.t 36, .t 37, .t 43, .t 51, .t 52], aft := [0, 1, 7, 15, 16] }])) (.reg 6 false [ { d := some 34, op := .mov (.t 11) }, { d := some 35, op := .bin .add (.t 34) (.c (.int .i64 1)) }, { d := some 11, op := .mov (.t 35) }]))))))))
def rr_ref02_parts : List RRes := []
theorem pb_ref02_parts {G : Nat → Option (List AV)} {objs objs' : List (Nat × AObj)} {args : List AV} {v : AV} (hn : args.length ≤ Tryd.f111.ntmps) (h : ∀ R : Run, R.G = G → R.Top → AR Tryd.prog R rc_ref02_parts ⟨iniT 0 args, objs⟩ (FinB rr_ref02_parts v objs')) : PB Tryd.prog G 111 objs args v objs' :=
  PB_of Tryd.func111 rfl (by kernel_rfl) (rc := rc_ref02_parts) (by kernel_rfl) (rs := rr_ref02_parts) (by kernel_rfl) hn (fun R _ hG hr => h R hG hr)

def rc_ref02_Parts : RCode :=
  .seq (.reg 0 false [ { d := some 3, op := .box (.t 0) }, { d := some 6, op := .mov (.c (.nils)) }])
 (.seq (.reg 1 false [ { d := some 11, op := .load true 1 (.t 3) }, { d := some 12, op := .call 55 [.t 11] }, { d := some 7, op := .mov (.t 12) }])
 (.seq (.reg 2 false [ { d := some 13, op := .mov (.t 7) }, { d := some 14, op := .len (.t 13) }, { d := some 15, op := .mksl 1 8 [.int .i64 0] (.t 14) }, { d := some 8, op := .mov (.t 15) }])
 (.seq (.reg 3 false [ { d := some 16, op := .load true 1 (.t 3) }, { d := some 17, op := .mov (.t 1) }, { d := some 18, op := .mov (.t 2) }, { d := some 19, op := .mov (.t 8) }, { d := some 20, op := .call 111 [.t 16, .t 17, .t 18, .c (.int .i64 1), .t 19] }])
 (.seq (.reg 4 false [ { d := some 9, op := .mov (.c (.nils)) }]) (.seq
 (.seq (.reg 5 false [ { d := some 10, op := .mov (.c (.int .i64 0)) }]) (.block 0 (.loop (.seq
 (.seq (.reg 6 false [ { d := some 21, op := .mov (.t 10) }, { d := some 22, op := .mov (.t 7) }, { d := some 23, op := .len (.t 22) }, { d := some 24, op := .bin .lss (.t 21) (.t 23) }]) (.cond (.t 24) (.skip) (.exit 0))) (.seq (.block 1
 (.seq (.reg 8 false [ { d := some 27, op := .mov (.t 8) }, { d := some 28, op := .mov (.t 10) }, { d := some 29, op := .iaddr 1 (.t 27) (.t 28) }, { d := some 30, op := .load false 1 (.t 29) }, { d := some 31, op := .bin .gtr (.t 30) (.c (.int .i64 0)) }]) (.cond (.t 31) (.reg 9 true [ { d := some 32, op := .mov (.t 9), aft := [] }, { d := some 33, op := .mov (.t 7), aft := [] }, { d := some 34, op := .mov (.t 10), aft := [] }, { d := some 35, op := .iaddr 1 (.t 33) (.t 34), aft := [1, 2] }, { d := some 36, op := .load false 1 (.t 35), aft := [3] }, { d := some 37, op := .mov (.t 8), aft := [] }, { d := some 38, op := .mov (.t 10), aft := [] }, { d := some 39, op := .iaddr 1 (.t 37) (.t 38), aft := [5, 6] }, { d := some 40, op := .load false 1 (.t 39), aft := [7] }, { d := some 41, op := .build [.int .i64 0, .int .i64 0] [(0, 1, .t 36), (1, 1, .t 40)], aft := [4, 8] }, { d := some 42, op := .bsl false 2 1 [.int .i64 0, .int .i64 0] [(0, .t 41)], aft := [9] }, { d := some 43, op := .app 2 16 (.t 32) (.t 42), aft := [0, 10] }, { d := some 9, op := .mov (.t 43), aft := [11, 11, 0, 1, 2, 3, 4, 5, 6, 7, 8, 9, 10, 11] }]) (.skip)))) (.reg 7 false [ { d := some 25, op := .mov (.t 10) }, { d := some 26, op := .bin .add (.t 25) (.c (.int .i64 1)) }, { d := some 10, op := .mov (.t 26) }]))))))
 (.seq (.reg 10 false [ { d := some 44, op := .mov (.t 9) }, { d := some 6, op := .mov (.t 44) }]) (.ret)))))))
def rr_ref02_Parts : List RRes := [.t 6]
theorem pc_ref02_Parts {G : Nat → Option (List AV)} {args : List AV} {v : AV} (hn : args.length ≤ Tryd.f79.ntmps) (h : ∀ R : Run, R.G = G → R.Top → AR Tryd.prog R rc_ref02_Parts (initSt args) (Fin rr_ref02_Parts v)) : PC Tryd.prog G 79 args v :=
  PC_of Tryd.func79 rfl (by kernel_rfl) (rc := rc_ref02_Parts) (by kernel_rfl) (rs := rr_ref02_Parts) (by kernel_rfl) hn (fun R _ hG hr => h R hG hr)

def rc_ref02_Explode : RCode :=
  .seq (.reg 0 false [ { d := some 3, op := .box (.t 0) }, { d := some 6, op := .mov (.c (.nils)) }, { d := some 7, op := .mov (.c (.int .i64 0)) }]) (.seq
 (.seq (.reg 1 false [ { d := some 9, op := .load true 1 (.t 3) }, { d := some 10, op := .mov (.t 1) }, { d := some 11, op := .mov (.t 2) }, { d := some 12, op := .call 78 [.t 9, .t 10, .t 11] }, { d := some 8, op := .mov (.t 12) }])
 (.seq (.reg 2 false [ { d := some 13, op := .mov (.t 8) }, { d := some 14, op := .bin .neq (.t 13) (.c (.int .i64 0)) }]) (.cond (.t 14)
 (.seq (.reg 3 false [ { d := some 15, op := .mov (.t 8) }, { d := some 6, op := .mov (.c (.nils)) }, { d := some 7, op := .mov (.t 15) }]) (.ret)) (.skip))))
 (.seq (.reg 4 false [ { d := some 16, op := .load true 1 (.t 3) }, { d := some 17, op := .mov (.t 1) }, { d := some 18, op := .mov (.t 2) }, { d := some 19, op := .call 79 [.t 16, .t 17, .t 18] }, { d := some 6, op := .mov (.t 19) }, { d := some 7, op := .mov (.c (.int .i64 0)) }]) (.ret)))
def rr_ref02_Explode : List RRes := [.t 6, .t 7]
theorem pc_ref02_Explode {G : Nat → Option (List AV)} {args : List AV} {v : AV} (hn : args.length ≤ Tryd.f34.ntmps) (h : ∀ R : Run, R.G = G → R.Top → AR Tryd.prog R rc_ref02_Explode (initSt args) (Fin rr_ref02_Explode v)) : PC Tryd.prog G 34 args v :=
  PC_of Tryd.func34 rfl (by kernel_rfl) (rc := rc_ref02_Explode) (by kernel_rfl) (rs := rr_ref02_Explode) (by kernel_rfl) hn (fun R _ hG hr => h R hG hr)

def rc_ref02_branches : RCode :=
  .seq (.reg 0 false [ { d := some 3, op := .box (.t 0) }, { d := some 6, op := .mov (.c (.int .i64 0)) }])
 (.seq (.reg 1 false [ { d := some 10, op := .load true 1 (.t 3) }, { d := some 11, op := .mov (.t 1) }, { d := some 12, op := .mov (.t 2) }, { d := some 13, op := .call 112 [.t 10, .t 11, .t 12] }, { d := some 7, op := .alloc [.int .i64 0, .int .i64 0, .int .u8 0, .nils, .nils] }, { d := none, op := .store 5 (.t 7) (.t 13) }])
 (.seq (.reg 2 false [ { d := some 8, op := .mov (.c (.int .i64 1)) }]) (.seq
 (.seq (.reg 3 false [ { d := some 9, op := .mov (.c (.int .i64 0)) }]) (.block 0 (.loop (.seq
 (.seq (.reg 4 false [ { d := some 14, op := .mov (.t 9) }, { d := some 15, op := .faddr 3 (.t 7) }, { d := some 16, op := .load false 1 (.t 15) }, { d := some 17, op := .len (.t 16) }, { d := some 18, op := .bin .lss (.t 14) (.t 17) }]) (.cond (.t 18) (.skip) (.exit 0))) (.seq (.block 1 (.reg 6 true [ { d := some 21, op := .mov (.t 8), aft := [] }, { d := some 22, op := .load true 1 (.t 3), aft := [] }, { d := some 23, op := .mov (.t 1), aft := [] }, { d := some 24, op := .faddr 3 (.t 7), aft := [] }, { d := some 25, op := .load false 1 (.t 24), aft := [3] }, { d := some 26, op := .mov (.t 9), aft := [] }, { d := some 27, op := .iaddr 2 (.t 25) (.t 26), aft := [4, 5] }, { d := some 28, op := .faddr 0 (.t 27), aft := [6] }, { d := some 29, op := .load false 1 (.t 28), aft := [7] }, { d := some 30, op := .call 81 [.t 22, .t 23, .t 29], aft := [1, 2, 8] }, { d := some 31, op := .bin .add (.t 21) (.t 30), aft := [0, 9] }, { d := some 8, op := .mov (.t 31), aft := [10, 9, 0, 1, 2, 3, 4, 5, 6, 7, 8, 9, 10] }])) (.reg 5 false [ { d := some 19, op := .mov (.t 9) }, { d := some 20, op := .bin .add (.t 19) (.c (.int .i64 1)) }, { d := some 9, op := .mov (.t 20) }]))))))
 (.seq (.reg 7 false [ { d := some 32, op := .mov (.t 8) }, { d := some 6, op := .mov (.t 32) }]) (.ret)))))
def rr_ref02_branches : List RRes := [.t 6]
theorem pc_ref02_branches {G : Nat → Option (List AV)} {args : List AV} {v : AV} (hn : args.length ≤ Tryd.f81.ntmps) (h : ∀ R : Run, R.G = G → R.Top → AR Tryd.prog R rc_ref02_branches (initSt args) (Fin rr_ref02_branches v)) : PC Tryd.prog G 81 args v :=
  PC_of Tryd.func81 rfl (by kernel_rfl) (rc := rc_ref02_branches) (by kernel_rfl) (rs := rr_ref02_branches) (by kernel_rfl) hn (fun R _ hG hr => h R hG hr)

def rc_ref02_tree : RCode :=
  .seq (.reg 0 false [ { d := some 5, op := .box (.t 0) }, { d := some 10, op := .mov (.c (.nils)) }])
 (.seq (.reg 1 false [ { d := some 14, op := .load true 1 (.t 5) }, { d := some 15, op := .mov (.t 1) }, { d := some 16, op := .mov (.t 2) }, { d := some 17, op := .call 112 [.t 14, .t 15, .t 16] }, { d := some 11, op := .alloc [.int .i64 0, .int .i64 0, .int .u8 0, .nils, .nils] }, { d := none, op := .store 5 (.t 11) (.t 17) }])
 (.seq (.reg 2 false [ { d := some 18, op := .mov (.t 3) }, { d := some 19, op := .mov (.t 2) }, { d := some 20, op := .faddr 1 (.t 11) }, { d := some 21, op := .load false 1 (.t 20) }, { d := some 22, op := .mov (.t 4) }, { d := some 23, op := .build [.int .i64 0, .int .i64 0, .int .i64 0, .int .i64 0] [(0, 1, .t 18), (1, 1, .t 19), (2, 1, .t 21), (3, 1, .t 22)] }, { d := some 24, op := .bsl true 4 1 [.int .i64 0, .int .i64 0, .int .i64 0, .int .i64 0] [(0, .t 23)] }, { d := some 12, op := .mov (.t 24) }]) (.seq
 (.seq (.reg 3 false [ { d := some 13, op := .mov (.c (.int .i64 0)) }]) (.block 0 (.loop (.seq
 (.seq (.reg 4 false [ { d := some 25, op := .mov (.t 13) }, { d := some 26, op := .faddr 3 (.t 11) }, { d := some 27, op := .load false 1 (.t 26) }, { d := some 28, op := .len (.t 27) }, { d := some 29, op := .bin .lss (.t 25) (.t 28) }]) (.cond (.t 29) (.skip) (.exit 0))) (.seq (.block 1 (.reg 6 true [ { d := some 32, op := .mov (.t 12), aft := [] }, { d := some 33, op := .load true 1 (.t 5), aft := [] }, { d := some 34, op := .mov (.t 1), aft := [] }, { d := some 35, op := .faddr 3 (.t 11), aft := [] }, { d := some 36, op := .load false 1 (.t 35), aft := [3] }, { d := some 37, op := .mov (.t 13), aft := [] }, { d := some 38, op := .iaddr 2 (.t 36) (.t 37), aft := [4, 5] }, { d := some 39, op := .faddr 0 (.t 38), aft := [6] }, { d := some 40, op := .load false 1 (.t 39), aft := [7] }, { d := some 41, op := .mov (.t 3), aft := [] }, { d := some 42, op := .bin .add (.t 41) (.c (.int .i64 1)), aft := [9] }, { d := some 43, op := .faddr 3 (.t 11), aft := [] }, { d := some 44, op := .load false 1 (.t 43), aft := [11] }, { d := some 45, op := .mov (.t 13), aft := [] }, { d := some 46, op := .iaddr 2 (.t 44) (.t 45), aft := [12, 13] }, { d := some 47, op := .faddr 1 (.t 46), aft := [14] }, { d := some 48, op := .load false 1 (.t 47), aft := [15] }, { d := some 49, op := .call 82 [.t 33, .t 34, .t 40, .t 42, .t 48], aft := [1, 2, 8, 10, 16] }, { d := some 50, op := .app 4 32 (.t 32) (.t 49), aft := [0, 17, 17] }, { d := some 12, op := .mov (.t 50), aft := [18, 18, 0, 1, 2, 3, 4, 5, 6, 7, 8, 9, 10, 11, 12, 13, 14, 15, 16, 17, 18] }])) (.reg 5 false [ { d := some 30, op := .mov (.t 13) }, { d := some 31, op := .bin .add (.t 30) (.c (.int .i64 1)) }, { d := some 13, op := .mov (.t 31) }]))))))
 (.seq (.reg 7 false [ { d := some 51, op := .mov (.t 12) }, { d := some 10, op := .mov (.t 51) }]) (.ret)))))
def rr_ref02_tree : List RRes := [.t 10]
theorem pc_ref02_tree {G : Nat → Option (List AV)} {args : List AV} {v : AV} (hn : args.length ≤ Tryd.f82.ntmps) (h : ∀ R : Run, R.G = G → R.Top → AR Tryd.prog R rc_ref02_tree (initSt args) (Fin rr_ref02_tree v)) : PC Tryd.prog G 82 args v :=
  PC_of Tryd.func82 rfl (by kernel_rfl) (rc := rc_ref02_tree) (by kernel_rfl) (rs := rr_ref02_tree) (by kernel_rfl) hn (fun R _ hG hr => h R hG hr)

def rc_ref02_Tree : RCode :=
  .seq (.reg 0 false [ { d := some 3, op := .box (.t 0) }, { d := some 6, op := .mov (.c (.nils)) }, { d := some 7, op := .mov (.c (.int .i64 0)) }]) (.seq
 (.seq (.reg 1 false [ { d := some 9, op := .load true 1 (.t 3) }, { d := some 10, op := .mov (.t 1) }, { d := some 11, op := .mov (.t 2) }, { d := some 12, op := .call 78 [.t 9, .t 10, .t 11] }, { d := some 8, op := .mov (.t 12) }])
 (.seq (.reg 2 false [ { d := some 13, op := .mov (.t 8) }, { d := some 14, op := .bin .neq (.t 13) (.c (.int .i64 0)) }]) (.cond (.t 14)
 (.seq (.reg 3 false [ { d := some 15, op := .mov (.t 8) }, { d := some 6, op := .mov (.c (.nils)) }, { d := some 7, op := .mov (.t 15) }]) (.ret)) (.skip)))) (.seq
 (.seq (.reg 4 false [ { d := some 16, op := .load true 1 (.t 3) }, { d := some 17, op := .mov (.t 1) }, { d := some 18, op := .mov (.t 2) }, { d := some 19, op := .call 81 [.t 16, .t 17, .t 18] }, { d := some 20, op := .bin .gtr (.t 19) (.c (.int .i64 500)) }]) (.cond (.t 20)
 (.seq (.reg 5 false [ { d := some 6, op := .mov (.c (.nils)) }, { d := some 7, op := .mov (.c (.int .i64 4)) }]) (.ret)) (.skip)))
 (.seq (.reg 6 false [ { d := some 21, op := .load true 1 (.t 3) }, { d := some 22, op := .mov (.t 1) }, { d := some 23, op := .mov (.t 2) }, { d := some 24, op := .call 82 [.t 21, .t 22, .t 23, .c (.int .i64 0), .c (.int .i64 1)] }, { d := some 6, op := .mov (.t 24) }, { d := some 7, op := .mov (.c (.int .i64 0)) }]) (.ret))))
def rr_ref02_Tree : List RRes := [.t 6, .t 7]
theorem pc_ref02_Tree {G : Nat → Option (List AV)} {args : List AV} {v : AV} (hn : args.length ≤ Tryd.f36.ntmps) (h : ∀ R : Run, R.G = G → R.Top → AR Tryd.prog R rc_ref02_Tree (initSt args) (Fin rr_ref02_Tree v)) : PC Tryd.prog G 36 args v :=
  PC_of Tryd.func36 rfl (by kernel_rfl) (rc := rc_ref02_Tree) (by kernel_rfl) (rs := rr_ref02_Tree) (by kernel_rfl) hn (fun R _ hG hr => h R hG hr)

def rc_ref02_SameBranches : RCode :=
  .seq (.reg 0 false [ { d := some 4, op := .mov (.c (.bool false)) }]) (.seq
 (.seq (.reg 1 false [ { d := some 6, op := .mov (.t 0) }, { d := some 7, op := .len (.t 6) }, { d := some 8, op := .mov (.t 1) }, { d := some 9, op := .len (.t 8) }, { d := some 10, op := .bin .neq (.t 7) (.t 9) }]) (.cond (.t 10)
 (.seq (.reg 2 false [ { d := some 4, op := .mov (.c (.bool false)) }]) (.ret)) (.skip))) (.seq
 (.seq (.reg 3 false [ { d := some 5, op := .mov (.c (.int .i64 0)) }]) (.block 0 (.loop (.seq
 (.seq (.reg 4 false [ { d := some 11, op := .mov (.t 5) }, { d := some 12, op := .mov (.t 0) }, { d := some 13, op := .len (.t 12) }, { d := some 14, op := .bin .lss (.t 11) (.t 13) }]) (.cond (.t 14) (.skip) (.exit 0))) (.seq (.block 1
 (.seq (.reg 6 true [ { d := some 17, op := .mov (.t 0), aft := [] }, { d := some 18, op := .mov (.t 5), aft := [] }, { d := some 19, op := .iaddr 4 (.t 17) (.t 18), aft := [0, 1] }, { d := some 20, op := .load true 4 (.t 19), aft := [2] }, { d := some 21, op := .mov (.t 1), aft := [] }, { d := some 22, op := .mov (.t 5), aft := [] }, { d := some 23, op := .iaddr 4 (.t 21) (.t 22), aft := [4, 5] }, { d := some 24, op := .load true 4 (.t 23), aft := [6] }, { d := some 25, op := .eqs true [.i, .i, .i, .i] (.t 20) (.t 24), aft := [3, 7] }]) (.cond (.t 25)
 (.seq (.reg 7 false [ { d := some 4, op := .mov (.c (.bool false)) }]) (.ret)) (.skip)))) (.reg 5 false [ { d := some 15, op := .mov (.t 5) }, { d := some 16, op := .bin .add (.t 15) (.c (.int .i64 1)) }, { d := some 5, op := .mov (.t 16) }]))))))
 (.seq (.reg 8 false [ { d := some 4, op := .mov (.c (.bool true)) }]) (.ret))))
def rr_ref02_SameBranches : List RRes := [.t 4]
theorem pc_ref02_SameBranches {G : Nat → Option (List AV)} {args : List AV} {v : AV} (hn : args.length ≤ Tryd.f38.ntmps) (h : ∀ R : Run, R.G = G → R.Top → AR Tryd.prog R rc_ref02_SameBranches (initSt args) (Fin rr_ref02_SameBranches v)) : PC Tryd.prog G 38 args v :=
  PC_of Tryd.func38 rfl (by kernel_rfl) (rc := rc_ref02_SameBranches) (by kernel_rfl) (rs := rr_ref02_SameBranches) (by kernel_rfl) hn (fun R _ hG hr => h R hG hr)

end Go.Proofs.YtdpmioiamcgfkaaDoor

/-! The abstract machine's code of functions of the program, as a program of ours printed it; that it is theirs is proved beside each. -/
namespace Go.Proofs.YtdpmioiamcgfkaaDoor
open Go.RowKit

noncomputable def rc_sheet_open : RCode :=
  .seq (.reg 0 false [ { d := some 1, op := .box (.t 0) }, { d := some 2, op := .mov (.c (.nilp)) }, { d := some 3, op := .mov (.c (.int .i64 0)) }]) (.scope
 (.seq (.reg 1 false [ { d := some 16, op := .load true 1 (.t 1) }, { d := some 17, op := .build [.nils, .nils] [(0, 1, .t 16)] }, { d := some 18, op := .box (.t 17) }, { d := some 4, op := .alloc [.nilp] }, { d := none, op := .store 1 (.t 4) (.t 18) }]) (.seq
 (.seq (.reg 2 false [ { d := some 19, op := .faddr 0 (.t 1) }, { d := some 20, op := .load false 1 (.t 19) }, { d := some 21, op := .len (.t 20) }, { d := some 22, op := .bsl false 1 1 [.int .i64 0] [(0, .t 21)] }, { d := some 23, op := .call 101 [.c (.int .i64 1), .c (.int .i64 60), .t 22] }, { d := some 24, op := .un .not (.t 23) }]) (.cond (.t 24)
 (.seq (.reg 3 false [ { d := some 2, op := .mov (.c (.nilp)) }, { d := some 3, op := .mov (.c (.int .i64 20)) }]) (.ret)) (.skip))) (.seq (.label 0) (.seq
 (.seq (.reg 4 false [ { d := some 25, op := .faddr 0 (.t 1) }, { d := some 26, op := .load false 1 (.t 25) }, { d := some 27, op := .len (.t 26) }, { d := some 28, op := .mov (.c (.int .i64 0)) }]) (.block 0 (.loop
 (.seq (.reg 5 false [ { d := some 29, op := .bin .lss (.t 28) (.t 27) }]) (.seq (.cond (.t 29) (.skip) (.exit 0)) (.seq (.block 1
 (.seq (.reg 6 false [ { d := some 30, op := .mov (.t 28) }, { d := some 31, op := .iaddr 5 (.t 26) (.t 28) }, { d := some 32, op := .load true 5 (.t 31) }, { d := some 6, op := .alloc [.int .i64 0, .int .i64 0, .int .u8 0, .nils, .nils] }, { d := some 5, op := .mov (.t 30) }, { d := none, op := .store 5 (.t 6) (.t 32) }]) (.seq
 (.seq (.reg 7 false [ { d := some 33, op := .load true 4 (.g 0) }, { d := some 34, op := .mov (.c (.int .i64 0)) }]) (.block 2 (.loop
 (.seq (.reg 8 false [ { d := some 35, op := .bin .lss (.t 34) (.c (.int .i64 4)) }]) (.seq (.cond (.t 35) (.skip) (.exit 2)) (.seq (.block 3
 (.seq (.reg 9 false [ { d := some 36, op := .vop (.aidx true 4 1) [(.t 33), (.t 34)] }, { d := some 8, op := .alloc [.nilf] }, { d := none, op := .store 1 (.t 8) (.t 36) }])
 (.seq (.reg 10 false [ { d := some 37, op := .faddr 0 (.t 8) }, { d := some 38, op := .load false 1 (.t 37) }, { d := some 39, op := .load true 5 (.t 6) }, { d := some 40, op := .callv (.t 38) [.t 39] }, { d := some 41, op := .un .not (.t 40) }]) (.cond (.t 41)
 (.seq (.reg 11 false [ { d := some 2, op := .mov (.c (.nilp)) }, { d := some 3, op := .mov (.c (.int .i64 20)) }]) (.ret)) (.skip))))) (.reg 12 false [ { d := some 42, op := .bin .add (.t 34) (.c (.int .i64 1)) }, { d := some 34, op := .mov (.t 42) }]))))))) (.seq
 (.seq (.reg 13 false [ { d := some 43, op := .mov (.t 5) }, { d := some 44, op := .bin .gtr (.t 43) (.c (.int .i64 0)) }]) (.cond (.t 44)
 (.seq (.reg 14 false [ { d := some 45, op := .faddr 0 (.t 1) }, { d := some 46, op := .load false 1 (.t 45) }, { d := some 47, op := .mov (.t 5) }, { d := some 48, op := .bin .sub (.t 47) (.c (.int .i64 1)) }, { d := some 49, op := .iaddr 5 (.t 46) (.t 48) }, { d := some 50, op := .load true 5 (.t 49) }, { d := some 9, op := .alloc [.int .i64 0, .int .i64 0, .int .u8 0, .nils, .nils] }, { d := none, op := .store 5 (.t 9) (.t 50) }])
 (.seq (.reg 15 false [ { d := some 51, op := .faddr 0 (.t 9) }, { d := some 52, op := .load false 1 (.t 51) }, { d := some 53, op := .faddr 0 (.t 6) }, { d := some 54, op := .load false 1 (.t 53) }, { d := some 55, op := .bin .eql (.t 52) (.t 54) }]) (.cond (.t 55) (.seq
 (.seq (.reg 16 false [ { d := some 56, op := .faddr 1 (.t 9) }, { d := some 57, op := .load false 1 (.t 56) }, { d := some 58, op := .bin .add (.t 57) (.c (.int .i64 1)) }, { d := some 59, op := .faddr 1 (.t 6) }, { d := some 60, op := .load false 1 (.t 59) }, { d := some 61, op := .bin .neq (.t 58) (.t 60) }, { d := some 62, op := .mov (.t 61) }, { d := some 63, op := .faddr 2 (.t 9), guard := some (62, false) }, { d := some 64, op := .load false 1 (.t 63), guard := some (62, false) }, { d := some 65, op := .faddr 2 (.t 6), guard := some (62, false) }, { d := some 66, op := .load false 1 (.t 65), guard := some (62, false) }, { d := some 67, op := .bin .neq (.t 64) (.t 66), guard := some (62, false) }, { d := some 68, op := .pick (.t 62) (.c (.bool true)) (.t 67) }]) (.cond (.t 68)
 (.seq (.reg 17 false [ { d := some 2, op := .mov (.c (.nilp)) }, { d := some 3, op := .mov (.c (.int .i64 20)) }]) (.ret)) (.skip))) (.exit 1))
 (.seq (.reg 18 false [ { d := some 69, op := .faddr 0 (.t 9) }, { d := some 70, op := .load false 1 (.t 69) }, { d := some 71, op := .faddr 0 (.t 6) }, { d := some 72, op := .load false 1 (.t 71) }, { d := some 73, op := .bin .gtr (.t 70) (.t 72) }]) (.cond (.t 73)
 (.seq (.reg 19 false [ { d := some 2, op := .mov (.c (.nilp)) }, { d := some 3, op := .mov (.c (.int .i64 20)) }]) (.ret)) (.skip)))))) (.skip))) (.seq
 (.seq (.reg 20 false [ { d := some 74, op := .faddr 1 (.t 6) }, { d := some 75, op := .load false 1 (.t 74) }, { d := some 76, op := .bin .neq (.t 75) (.c (.int .i64 1)) }]) (.cond (.t 76)
 (.seq (.reg 21 false [ { d := some 2, op := .mov (.c (.nilp)) }, { d := some 3, op := .mov (.c (.int .i64 20)) }]) (.ret)) (.skip))) (.reg 22 true [ { d := some 77, op := .load false 1 (.t 4), aft := [] }, { d := some 78, op := .load false 1 (.t 4), aft := [] }, { d := some 79, op := .nilck (.t 78), aft := [1] }, { d := some 80, op := .faddr 1 (.t 79), aft := [2] }, { d := some 81, op := .load false 1 (.t 80), aft := [3] }, { d := some 82, op := .faddr 0 (.t 6), aft := [] }, { d := some 83, op := .load false 1 (.t 82), aft := [5] }, { d := some 84, op := .bsl false 1 1 [.int .i64 0] [(0, .t 83)], aft := [6] }, { d := some 85, op := .app 1 8 (.t 81) (.t 84), aft := [4, 7] }, { d := some 86, op := .nilck (.t 77), aft := [0, 0, 1, 2, 3, 4, 5, 6, 7, 8] }, { d := some 87, op := .faddr 1 (.t 86), aft := [9, 0, 1, 2, 3, 4, 5, 6, 7, 8] }, { d := none, op := .store 1 (.t 87) (.t 85), aft := [10, 8, 8, 0, 1, 2, 3, 4, 5, 6, 7, 8] }])))))) (.reg 23 false [ { d := some 88, op := .bin .add (.t 28) (.c (.int .i64 1)) }, { d := some 28, op := .mov (.t 88) }]))))))) (.seq
 (.seq (.reg 24 false [ { d := some 89, op := .load false 1 (.t 4) }, { d := some 90, op := .nilck (.t 89) }, { d := some 91, op := .faddr 1 (.t 90) }, { d := some 92, op := .load false 1 (.t 91) }, { d := some 93, op := .len (.t 92) }, { d := some 94, op := .bin .gtr (.t 93) (.c (.int .i64 20)) }]) (.cond (.t 94)
 (.seq (.reg 25 false [ { d := some 2, op := .mov (.c (.nilp)) }, { d := some 3, op := .mov (.c (.int .i64 20)) }]) (.ret)) (.skip))) (.seq
 (.seq (.reg 26 false [ { d := some 95, op := .faddr 0 (.t 1) }, { d := some 96, op := .load false 1 (.t 95) }, { d := some 97, op := .len (.t 96) }, { d := some 98, op := .mov (.c (.int .i64 0)) }]) (.block 4 (.loop
 (.seq (.reg 27 false [ { d := some 99, op := .bin .lss (.t 98) (.t 97) }]) (.seq (.cond (.t 99) (.skip) (.exit 4)) (.seq (.block 5
 (.seq (.reg 28 false [ { d := some 100, op := .iaddr 5 (.t 96) (.t 98) }, { d := some 101, op := .load true 5 (.t 100) }, { d := some 11, op := .alloc [.int .i64 0, .int .i64 0, .int .u8 0, .nils, .nils] }, { d := none, op := .store 5 (.t 11) (.t 101) }])
 (.seq (.reg 29 false [ { d := some 102, op := .faddr 3 (.t 11) }, { d := some 103, op := .load false 1 (.t 102) }, { d := some 104, op := .mkf (.func 103) [] [.t 4] }, { d := some 105, op := .call 102 [.t 103, .t 104] }]) (.cond (.t 105)
 (.seq (.reg 30 false [ { d := some 2, op := .mov (.c (.nilp)) }, { d := some 3, op := .mov (.c (.int .i64 20)) }]) (.ret)) (.skip))))) (.reg 31 false [ { d := some 106, op := .bin .add (.t 98) (.c (.int .i64 1)) }, { d := some 98, op := .mov (.t 106) }])))))))
 (.seq (.reg 32 false [ { d := some 108, op := .load false 1 (.t 4) }, { d := some 109, op := .call 75 [.t 108] }, { d := some 107, op := .mov (.t 109) }, { d := some 110, op := .ext 0 (.t 107) }, { d := some 111, op := .ext 1 (.t 107) }, { d := some 12, op := .mov (.t 110) }, { d := some 13, op := .mov (.t 111) }]) (.seq
 (.seq (.reg 33 false [ { d := some 112, op := .mov (.t 13) }]) (.cond (.t 112)
 (.seq (.reg 34 false [ { d := some 2, op := .mov (.c (.nilp)) }, { d := some 3, op := .mov (.c (.int .i64 21)) }]) (.ret)) (.skip))) (.seq (.raw (opnR Tryd.prog))
 (.seq (.reg 40 false [ { d := some 121, op := .load false 1 (.t 4) }, { d := some 2, op := .mov (.t 121) }, { d := some 3, op := .mov (.c (.int .i64 0)) }]) (.ret))))))))))))
def rr_sheet_open : List RRes := [.t 2, .t 3]
theorem pc_sheet_open {G : Nat → Option (List AV)} {args : List AV} {v : AV} (hn : args.length ≤ Tryd.f67.ntmps) (h : ∀ R : Run, R.G = G → R.Top → AR Tryd.prog R rc_sheet_open (initSt args) (Fin rr_sheet_open v)) : PC Tryd.prog G 67 args v :=
  PC_of Tryd.func67 rfl (by kernel_rfl) (rc := rc_sheet_open) (by kernel_rfl) (rs := rr_sheet_open) (by kernel_rfl) hn (fun R _ hG hr => h R hG hr)

end Go.Proofs.YtdpmioiamcgfkaaDoor

/-! The abstract machine's code of functions of the program, as a program of ours printed it; that it is theirs is proved beside each. -/
namespace Go.Proofs.YtdpmioiamcgfkaaDoor
open Go.RowKit

def rc_size_in : RCode :=
  .seq (.reg 0 false [ { d := some 3, op := .box (.t 0) }, { d := some 4, op := .box (.t 1) }, { d := some 6, op := .mov (.c (.bool false)) }])
 (.seq (.reg 1 false [ { d := some 7, op := .mov (.t 2) }, { d := some 8, op := .mkf (.func 118) [] [.t 3, .t 4] }, { d := some 9, op := .call 117 [.t 7, .t 8] }, { d := some 10, op := .un .not (.t 9) }, { d := some 6, op := .mov (.t 10) }]) (.ret))
def rr_size_in : List RRes := [.t 6]
theorem pc_size_in {G : Nat → Option (List AV)} {args : List AV} {v : AV} (hn : args.length ≤ Tryd.f98.ntmps) (h : ∀ R : Run, R.G = G → R.Top → AR Tryd.prog R rc_size_in (initSt args) (Fin rr_size_in v)) : PC Tryd.prog G 98 args v :=
  PC_of Tryd.func98 rfl (by kernel_rfl) (rc := rc_size_in) (by kernel_rfl) (rs := rr_size_in) (by kernel_rfl) hn (fun R _ hG hr => h R hG hr)

def rc_size_in_1 : RCode :=
  .seq (.reg 0 false [ { d := some 4, op := .mov (.c (.bool false)) }])
 (.seq (.reg 1 false [ { d := some 5, op := .mov (.t 0) }, { d := some 6, op := .load false 1 (.t 1) }, { d := some 7, op := .bin .lss (.t 5) (.t 6) }, { d := some 8, op := .mov (.t 7) }, { d := some 9, op := .mov (.t 0), guard := some (8, false) }, { d := some 10, op := .load false 1 (.t 2), guard := some (8, false) }, { d := some 11, op := .bin .gtr (.t 9) (.t 10), guard := some (8, false) }, { d := some 12, op := .pick (.t 8) (.c (.bool true)) (.t 11) }, { d := some 4, op := .mov (.t 12) }]) (.ret))
def rr_size_in_1 : List RRes := [.t 4]
theorem pc_size_in_1 {G : Nat → Option (List AV)} {args : List AV} {v : AV} (hn : args.length ≤ Tryd.f118.ntmps) (h : ∀ R : Run, R.G = G → R.Top → AR Tryd.prog R rc_size_in_1 (initSt args) (Fin rr_size_in_1 v)) : PC Tryd.prog G 118 args v :=
  PC_of Tryd.func118 rfl (by kernel_rfl) (rc := rc_size_in_1) (by kernel_rfl) (rs := rr_size_in_1) (by kernel_rfl) hn (fun R _ hG hr => h R hG hr)

def rc_slices_ContainsFunc_int_int : RCode :=
  .seq (.reg 0 false [ { d := some 4, op := .mov (.c (.bool false)) }])
 (.seq (.reg 1 false [ { d := some 5, op := .mov (.t 0) }, { d := some 6, op := .mov (.t 1) }, { d := some 7, op := .call 132 [.t 5, .t 6] }, { d := some 8, op := .bin .geq (.t 7) (.c (.int .i64 0)) }, { d := some 4, op := .mov (.t 8) }]) (.ret))
def rr_slices_ContainsFunc_int_int : List RRes := [.t 4]
theorem pc_slices_ContainsFunc_int_int {G : Nat → Option (List AV)} {args : List AV} {v : AV} (hn : args.length ≤ Tryd.f117.ntmps) (h : ∀ R : Run, R.G = G → R.Top → AR Tryd.prog R rc_slices_ContainsFunc_int_int (initSt args) (Fin rr_slices_ContainsFunc_int_int v)) : PC Tryd.prog G 117 args v :=
  PC_of Tryd.func117 rfl (by kernel_rfl) (rc := rc_slices_ContainsFunc_int_int) (by kernel_rfl) (rs := rr_slices_ContainsFunc_int_int) (by kernel_rfl) hn (fun R _ hG hr => h R hG hr)

def rc_slices_IndexFunc_int_int : RCode :=
  .seq (.reg 0 false [ { d := some 4, op := .mov (.c (.int .i64 0)) }]) (.seq
 (.seq (.reg 1 false [ { d := some 6, op := .mov (.t 0) }, { d := some 7, op := .len (.t 6) }, { d := some 8, op := .mov (.c (.int .i64 0)) }]) (.block 0 (.loop
 (.seq (.reg 2 false [ { d := some 9, op := .bin .lss (.t 8) (.t 7) }]) (.seq (.cond (.t 9) (.skip) (.exit 0)) (.seq (.block 1
 (.seq (.reg 3 false [ { d := some 10, op := .mov (.t 8) }, { d := some 5, op := .mov (.t 10) }])
 (.seq (.reg 4 false [ { d := some 11, op := .mov (.t 1) }, { d := some 12, op := .mov (.t 0) }, { d := some 13, op := .mov (.t 5) }, { d := some 14, op := .iaddr 1 (.t 12) (.t 13) }, { d := some 15, op := .load false 1 (.t 14) }, { d := some 16, op := .callv (.t 11) [.t 15] }]) (.cond (.t 16)
 (.seq (.reg 5 false [ { d := some 17, op := .mov (.t 5) }, { d := some 4, op := .mov (.t 17) }]) (.ret)) (.skip))))) (.reg 6 false [ { d := some 18, op := .bin .add (.t 8) (.c (.int .i64 1)) }, { d := some 8, op := .mov (.t 18) }])))))))
 (.seq (.reg 7 false [ { d := some 4, op := .mov (.c (.int .i64 (-1))) }]) (.ret)))
def rr_slices_IndexFunc_int_int : List RRes := [.t 4]
theorem pc_slices_IndexFunc_int_int {G : Nat → Option (List AV)} {args : List AV} {v : AV} (hn : args.length ≤ Tryd.f132.ntmps) (h : ∀ R : Run, R.G = G → R.Top → AR Tryd.prog R rc_slices_IndexFunc_int_int (initSt args) (Fin rr_slices_IndexFunc_int_int v)) : PC Tryd.prog G 132 args v :=
  PC_of Tryd.func132 rfl (by kernel_rfl) (rc := rc_slices_IndexFunc_int_int) (by kernel_rfl) (rs := rr_slices_IndexFunc_int_int) (by kernel_rfl) hn (fun R _ hG hr => h R hG hr)

def rc_size_Check : RCode :=
  .seq (.reg 0 false [ { d := some 1, op := .box (.t 0) }, { d := some 2, op := .mov (.c (.int .i64 0)) }]) (.seq
 (.seq (.reg 1 false [ { d := some 3, op := .faddr 0 (.t 1) }, { d := some 4, op := .load false 1 (.t 3) }, { d := some 5, op := .faddr 1 (.t 1) }, { d := some 6, op := .load false 1 (.t 5) }, { d := some 7, op := .faddr 2 (.t 1) }, { d := some 8, op := .load false 1 (.t 7) }, { d := some 9, op := .bsl false 1 3 [.int .i64 0, .int .i64 0, .int .i64 0] [(0, .t 4), (1, .t 6), (2, .t 8)] }, { d := some 10, op := .call 98 [.c (.int .i64 0), .c (.int .i64 1000000000), .t 9] }, { d := some 11, op := .un .not (.t 10) }, { d := some 12, op := .mov (.t 11) }, { d := some 13, op := .faddr 1 (.t 1), guard := some (12, false) }, { d := some 14, op := .load false 1 (.t 13), guard := some (12, false) }, { d := some 15, op := .faddr 2 (.t 1), guard := some (12, false) }, { d := some 16, op := .load false 1 (.t 15), guard := some (12, false) }, { d := some 17, op := .bin .gtr (.t 14) (.t 16), guard := some (12, false) }, { d := some 18, op := .pick (.t 12) (.c (.bool true)) (.t 17) }]) (.cond (.t 18)
 (.seq (.reg 2 false [ { d := some 2, op := .mov (.c (.int .i64 10)) }]) (.ret)) (.skip)))
 (.seq (.reg 3 false [ { d := some 2, op := .mov (.c (.int .i64 0)) }]) (.ret)))
def rr_size_Check : List RRes := [.t 2]
theorem pc_size_Check {G : Nat → Option (List AV)} {args : List AV} {v : AV} (hn : args.length ≤ Tryd.f62.ntmps) (h : ∀ R : Run, R.G = G → R.Top → AR Tryd.prog R rc_size_Check (initSt args) (Fin rr_size_Check v)) : PC Tryd.prog G 62 args v :=
  PC_of Tryd.func62 rfl (by kernel_rfl) (rc := rc_size_Check) (by kernel_rfl) (rs := rr_size_Check) (by kernel_rfl) hn (fun R _ hG hr => h R hG hr)

def rc_sheet_in : RCode :=
  .seq (.reg 0 false [ { d := some 3, op := .box (.t 0) }, { d := some 4, op := .box (.t 1) }, { d := some 6, op := .mov (.c (.bool false)) }])
 (.seq (.reg 1 false [ { d := some 7, op := .mov (.t 2) }, { d := some 8, op := .mkf (.func 119) [] [.t 3, .t 4] }, { d := some 9, op := .call 117 [.t 7, .t 8] }, { d := some 10, op := .un .not (.t 9) }, { d := some 6, op := .mov (.t 10) }]) (.ret))
def rr_sheet_in : List RRes := [.t 6]
theorem pc_sheet_in {G : Nat → Option (List AV)} {args : List AV} {v : AV} (hn : args.length ≤ Tryd.f101.ntmps) (h : ∀ R : Run, R.G = G → R.Top → AR Tryd.prog R rc_sheet_in (initSt args) (Fin rr_sheet_in v)) : PC Tryd.prog G 101 args v :=
  PC_of Tryd.func101 rfl (by kernel_rfl) (rc := rc_sheet_in) (by kernel_rfl) (rs := rr_sheet_in) (by kernel_rfl) hn (fun R _ hG hr => h R hG hr)

def rc_sheet_in_1 : RCode :=
  .seq (.reg 0 false [ { d := some 4, op := .mov (.c (.bool false)) }])
 (.seq (.reg 1 false [ { d := some 5, op := .mov (.t 0) }, { d := some 6, op := .load false 1 (.t 1) }, { d := some 7, op := .bin .lss (.t 5) (.t 6) }, { d := some 8, op := .mov (.t 7) }, { d := some 9, op := .mov (.t 0), guard := some (8, false) }, { d := some 10, op := .load false 1 (.t 2), guard := some (8, false) }, { d := some 11, op := .bin .gtr (.t 9) (.t 10), guard := some (8, false) }, { d := some 12, op := .pick (.t 8) (.c (.bool true)) (.t 11) }, { d := some 4, op := .mov (.t 12) }]) (.ret))
def rr_sheet_in_1 : List RRes := [.t 4]
theorem pc_sheet_in_1 {G : Nat → Option (List AV)} {args : List AV} {v : AV} (hn : args.length ≤ Tryd.f119.ntmps) (h : ∀ R : Run, R.G = G → R.Top → AR Tryd.prog R rc_sheet_in_1 (initSt args) (Fin rr_sheet_in_1 v)) : PC Tryd.prog G 119 args v :=
  PC_of Tryd.func119 rfl (by kernel_rfl) (rc := rc_sheet_in_1) (by kernel_rfl) (rs := rr_sheet_in_1) (by kernel_rfl) hn (fun R _ hG hr => h R hG hr)

def rc_sheet_name : RCode :=
  .seq (.reg 0 false [ { d := some 1, op := .box (.t 0) }, { d := some 2, op := .alloc [.int .i64 0, .int .i64 0] }])
 (.seq (.reg 1 false [ { d := some 3, op := .faddr 0 (.t 1) }, { d := some 4, op := .load false 1 (.t 3) }, { d := some 5, op := .faddr 1 (.t 1) }, { d := some 6, op := .load false 1 (.t 5) }, { d := some 7, op := .build [.int .i64 0, .int .i64 0] [(0, 1, .t 4), (1, 1, .t 6)] }, { d := none, op := .store 2 (.t 2) (.t 7) }]) (.ret))
def rr_sheet_name : List RRes := [.c 2 true 2]
theorem pc_sheet_name {G : Nat → Option (List AV)} {args : List AV} {v : AV} (hn : args.length ≤ Tryd.f84.ntmps) (h : ∀ R : Run, R.G = G → R.Top → AR Tryd.prog R rc_sheet_name (initSt args) (Fin rr_sheet_name v)) : PC Tryd.prog G 84 args v :=
  PC_of Tryd.func84 rfl (by kernel_rfl) (rc := rc_sheet_name) (by kernel_rfl) (rs := rr_sheet_name) (by kernel_rfl) hn (fun R _ hG hr => h R hG hr)

def rc_sheet_checks_1 : RCode :=
  .seq (.reg 0 false [ { d := some 1, op := .box (.t 0) }, { d := some 2, op := .mov (.c (.bool false)) }])
 (.seq (.reg 1 false [ { d := some 3, op := .faddr 0 (.t 1) }, { d := some 4, op := .load false 1 (.t 3) }, { d := some 5, op := .bsl false 1 1 [.int .i64 0] [(0, .t 4)] }, { d := some 6, op := .call 101 [.c (.int .i64 1), .c (.int .i64 9999), .t 5] }, { d := some 7, op := .mov (.t 6) }, { d := some 8, op := .faddr 1 (.t 1), guard := some (7, true) }, { d := some 9, op := .load false 1 (.t 8), guard := some (7, true) }, { d := some 10, op := .bsl false 1 1 [.int .i64 0] [(0, .t 9)], guard := some (7, true) }, { d := some 11, op := .call 101 [.c (.int .i64 1), .c (.int .i64 8), .t 10], guard := some (7, true) }, { d := some 12, op := .pick (.t 7) (.t 11) (.c (.bool false)) }, { d := some 2, op := .mov (.t 12) }]) (.ret))
def rr_sheet_checks_1 : List RRes := [.t 2]
theorem pc_sheet_checks_1 {G : Nat → Option (List AV)} {args : List AV} {v : AV} (hn : args.length ≤ Tryd.f157.ntmps) (h : ∀ R : Run, R.G = G → R.Top → AR Tryd.prog R rc_sheet_checks_1 (initSt args) (Fin rr_sheet_checks_1 v)) : PC Tryd.prog G 157 args v :=
  PC_of Tryd.func157 rfl (by kernel_rfl) (rc := rc_sheet_checks_1) (by kernel_rfl) (rs := rr_sheet_checks_1) (by kernel_rfl) hn (fun R _ hG hr => h R hG hr)

def rc_sheet_checks_2 : RCode :=
  .seq (.reg 0 false [ { d := some 1, op := .box (.t 0) }, { d := some 2, op := .mov (.c (.bool false)) }]) (.seq
 (.seq (.reg 1 false [ { d := some 3, op := .faddr 2 (.t 1) }, { d := some 4, op := .load false 1 (.t 3) }, { d := some 5, op := .bin .eql (.t 4) (.c (.int .u8 1)) }]) (.cond (.t 5)
 (.seq (.reg 2 false [ { d := some 6, op := .faddr 3 (.t 1) }, { d := some 7, op := .load false 1 (.t 6) }, { d := some 8, op := .len (.t 7) }, { d := some 9, op := .bsl false 1 1 [.int .i64 0] [(0, .t 8)] }, { d := some 10, op := .call 101 [.c (.int .i64 1), .c (.int .i64 8), .t 9] }, { d := some 11, op := .mov (.t 10) }, { d := some 12, op := .faddr 4 (.t 1), guard := some (11, true) }, { d := some 13, op := .load false 1 (.t 12), guard := some (11, true) }, { d := some 14, op := .len (.t 13), guard := some (11, true) }, { d := some 15, op := .bin .eql (.t 14) (.c (.int .i64 0)), guard := some (11, true) }, { d := some 16, op := .pick (.t 11) (.t 15) (.c (.bool false)) }, { d := some 2, op := .mov (.t 16) }]) (.ret)) (.skip)))
 (.seq (.reg 3 false [ { d := some 17, op := .faddr 2 (.t 1) }, { d := some 18, op := .load false 1 (.t 17) }, { d := some 19, op := .conv .i64 (.t 18) }, { d := some 20, op := .bsl false 1 1 [.int .i64 0] [(0, .t 19)] }, { d := some 21, op := .call 101 [.c (.int .i64 2), .c (.int .i64 3), .t 20] }, { d := some 22, op := .mov (.t 21) }, { d := some 23, op := .faddr 4 (.t 1), guard := some (22, true) }, { d := some 24, op := .load false 1 (.t 23), guard := some (22, true) }, { d := some 25, op := .len (.t 24), guard := some (22, true) }, { d := some 26, op := .bin .leq (.t 25) (.c (.int .i64 4)), guard := some (22, true) }, { d := some 27, op := .pick (.t 22) (.t 26) (.c (.bool false)) }, { d := some 28, op := .mov (.t 27) }, { d := some 29, op := .faddr 3 (.t 1), guard := some (28, true) }, { d := some 30, op := .load false 1 (.t 29), guard := some (28, true) }, { d := some 31, op := .len (.t 30), guard := some (28, true) }, { d := some 32, op := .bin .eql (.t 31) (.c (.int .i64 0)), guard := some (28, true) }, { d := some 33, op := .pick (.t 28) (.t 32) (.c (.bool false)) }, { d := some 2, op := .mov (.t 33) }]) (.ret)))
def rr_sheet_checks_2 : List RRes := [.t 2]
theorem pc_sheet_checks_2 {G : Nat → Option (List AV)} {args : List AV} {v : AV} (hn : args.length ≤ Tryd.f158.ntmps) (h : ∀ R : Run, R.G = G → R.Top → AR Tryd.prog R rc_sheet_checks_2 (initSt args) (Fin rr_sheet_checks_2 v)) : PC Tryd.prog G 158 args v :=
  PC_of Tryd.func158 rfl (by kernel_rfl) (rc := rc_sheet_checks_2) (by kernel_rfl) (rs := rr_sheet_checks_2) (by kernel_rfl) hn (fun R _ hG hr => h R hG hr)

def rc_sheet_checks_3 : RCode :=
  .seq (.reg 0 false [ { d := some 1, op := .box (.t 0) }, { d := some 2, op := .mov (.c (.bool false)) }]) (.seq
 (.seq (.reg 1 false [ { d := some 5, op := .faddr 3 (.t 1) }, { d := some 6, op := .load false 1 (.t 5) }, { d := some 7, op := .len (.t 6) }, { d := some 8, op := .mov (.c (.int .i64 0)) }]) (.block 0 (.loop
 (.seq (.reg 2 false [ { d := some 9, op := .bin .lss (.t 8) (.t 7) }]) (.seq (.cond (.t 9) (.skip) (.exit 0)) (.seq (.block 1
 (.seq (.reg 3 false [ { d := some 10, op := .mov (.t 8) }, { d := some 11, op := .iaddr 2 (.t 6) (.t 8) }, { d := some 12, op := .load true 2 (.t 11) }, { d := some 4, op := .alloc [.int .i64 0, .int .i64 0] }, { d := some 3, op := .mov (.t 10) }, { d := none, op := .store 2 (.t 4) (.t 12) }])
 (.seq (.reg 4 true [ { d := some 13, op := .faddr 0 (.t 4), aft := [] }, { d := some 14, op := .load false 1 (.t 13), aft := [0] }, { d := some 15, op := .bsl false 1 1 [.int .i64 0] [(0, .t 14)], aft := [1] }, { d := some 16, op := .call 101 [.c (.int .i64 1), .c (.int .i64 9999), .t 15], aft := [2] }, { d := some 17, op := .un .not (.t 16), aft := [3] }, { d := some 18, op := .mov (.t 17), aft := [4, 3] }, { d := some 19, op := .faddr 1 (.t 4), guard := some (18, false), aft := [5] }, { d := some 20, op := .load false 1 (.t 19), guard := some (18, false), aft := [6, 5] }, { d := some 21, op := .bsl false 1 1 [.int .i64 0] [(0, .t 20)], guard := some (18, false), aft := [7, 5] }, { d := some 22, op := .call 101 [.c (.int .i64 1), .c (.int .i64 20), .t 21], guard := some (18, false), aft := [8, 5, 5] }, { d := some 23, op := .un .not (.t 22), guard := some (18, false), aft := [9, 5] }, { d := some 24, op := .pick (.t 18) (.c (.bool true)) (.t 23), aft := [5, 10] }, { d := some 25, op := .mov (.t 24), aft := [11, 9] }, { d := some 26, op := .faddr 0 (.t 4), guard := some (25, false), aft := [12] }, { d := some 27, op := .load false 1 (.t 26), guard := some (25, false), aft := [13, 12] }, { d := some 28, op := .faddr 0 (.t 1), guard := some (25, false), aft := [12] }, { d := some 29, op := .load false 1 (.t 28), guard := some (25, false), aft := [15, 12] }, { d := some 30, op := .bin .eql (.t 27) (.t 29), guard := some (25, false), aft := [14, 16, 12] }, { d := some 31, op := .pick (.t 25) (.c (.bool true)) (.t 30), aft := [12, 17] }, { d := some 32, op := .mov (.t 31), aft := [18, 12] }, { d := some 33, op := .mov (.t 3), guard := some (32, false), aft := [19] }, { d := some 34, op := .bin .gtr (.t 33) (.c (.int .i64 0)), guard := some (32, false), aft := [20, 19] }, { d := some 35, op := .mov (.t 34), guard := some (32, false), aft := [21, 19, 19] }, { d := some 36, op := .faddr 3 (.t 1), guard := some (35, true), aft := [22] }, { d := some 37, op := .load false 1 (.t 36), guard := some (35, true), aft := [23, 22] }, { d := some 38, op := .mov (.t 3), guard := some (35, true), aft := [22] }, { d := some 39, op := .bin .sub (.t 38) (.c (.int .i64 1)), guard := some (35, true), aft := [25, 22] }, { d := some 40, op := .iaddr 2 (.t 37) (.t 39), guard := some (35, true), aft := [24, 26, 22] }, { d := some 41, op := .faddr 0 (.t 40), guard := some (35, true), aft := [27, 22] }, { d := some 42, op := .load false 1 (.t 41), guard := some (35, true), aft := [28, 22] }, { d := some 43, op := .faddr 0 (.t 4), guard := some (35, true), aft := [22] }, { d := some 44, op := .load false 1 (.t 43), guard := some (35, true), aft := [30, 22] }, { d := some 45, op := .bin .geq (.t 42) (.t 44), guard := some (35, true), aft := [29, 31, 22] }, { d := some 46, op := .pick (.t 35) (.t 45) (.c (.bool false)), guard := some (32, false), aft := [22, 32, 19] }, { d := some 47, op := .pick (.t 32) (.c (.bool true)) (.t 46), aft := [19, 33] }]) (.cond (.t 47)
 (.seq (.reg 5 false [ { d := some 2, op := .mov (.c (.bool false)) }]) (.ret)) (.skip))))) (.reg 6 false [ { d := some 48, op := .bin .add (.t 8) (.c (.int .i64 1)) }, { d := some 8, op := .mov (.t 48) }])))))))
 (.seq (.reg 7 false [ { d := some 2, op := .mov (.c (.bool true)) }]) (.ret)))
def rr_sheet_checks_3 : List RRes := [.t 2]
theorem pc_sheet_checks_3 {G : Nat → Option (List AV)} {args : List AV} {v : AV} (hn : args.length ≤ Tryd.f159.ntmps) (h : ∀ R : Run, R.G = G → R.Top → AR Tryd.prog R rc_sheet_checks_3 (initSt args) (Fin rr_sheet_checks_3 v)) : PC Tryd.prog G 159 args v :=
  PC_of Tryd.func159 rfl (by kernel_rfl) (rc := rc_sheet_checks_3) (by kernel_rfl) (rs := rr_sheet_checks_3) (by kernel_rfl) hn (fun R _ hG hr => h R hG hr)

def rc_sheet_checks_4 : RCode :=
  .seq (.reg 0 false [ { d := some 1, op := .box (.t 0) }, { d := some 2, op := .mov (.c (.bool false)) }])
 (.seq (.reg 1 false [ { d := some 3, op := .faddr 4 (.t 1) }, { d := some 4, op := .load false 1 (.t 3) }, { d := some 5, op := .call 161 [.t 4, .c (.func (.func 162) [] [])] }, { d := some 6, op := .un .not (.t 5) }, { d := some 2, op := .mov (.t 6) }]) (.ret))
def rr_sheet_checks_4 : List RRes := [.t 2]
theorem pc_sheet_checks_4 {G : Nat → Option (List AV)} {args : List AV} {v : AV} (hn : args.length ≤ Tryd.f160.ntmps) (h : ∀ R : Run, R.G = G → R.Top → AR Tryd.prog R rc_sheet_checks_4 (initSt args) (Fin rr_sheet_checks_4 v)) : PC Tryd.prog G 160 args v :=
  PC_of Tryd.func160 rfl (by kernel_rfl) (rc := rc_sheet_checks_4) (by kernel_rfl) (rs := rr_sheet_checks_4) (by kernel_rfl) hn (fun R _ hG hr => h R hG hr)

def rc_sheet_checks_4_1 : RCode :=
  .seq (.reg 0 false [ { d := some 1, op := .box (.t 0) }, { d := some 2, op := .mov (.c (.bool false)) }])
 (.seq (.reg 1 false [ { d := some 3, op := .load true 3 (.t 1) }, { d := some 4, op := .call 62 [.t 3] }, { d := some 5, op := .bin .neq (.t 4) (.c (.int .i64 0)) }, { d := some 2, op := .mov (.t 5) }]) (.ret))
def rr_sheet_checks_4_1 : List RRes := [.t 2]
theorem pc_sheet_checks_4_1 {G : Nat → Option (List AV)} {args : List AV} {v : AV} (hn : args.length ≤ Tryd.f162.ntmps) (h : ∀ R : Run, R.G = G → R.Top → AR Tryd.prog R rc_sheet_checks_4_1 (initSt args) (Fin rr_sheet_checks_4_1 v)) : PC Tryd.prog G 162 args v :=
  PC_of Tryd.func162 rfl (by kernel_rfl) (rc := rc_sheet_checks_4_1) (by kernel_rfl) (rs := rr_sheet_checks_4_1) (by kernel_rfl) hn (fun R _ hG hr => h R hG hr)

def rc_slices_ContainsFunc_api_Dim_api_Dim : RCode :=
  .seq (.reg 0 false [ { d := some 4, op := .mov (.c (.bool false)) }])
 (.seq (.reg 1 false [ { d := some 5, op := .mov (.t 0) }, { d := some 6, op := .mov (.t 1) }, { d := some 7, op := .call 163 [.t 5, .t 6] }, { d := some 8, op := .bin .geq (.t 7) (.c (.int .i64 0)) }, { d := some 4, op := .mov (.t 8) }]) (.ret))
def rr_slices_ContainsFunc_api_Dim_api_Dim : List RRes := [.t 4]
theorem pc_slices_ContainsFunc_api_Dim_api_Dim {G : Nat → Option (List AV)} {args : List AV} {v : AV} (hn : args.length ≤ Tryd.f161.ntmps) (h : ∀ R : Run, R.G = G → R.Top → AR Tryd.prog R rc_slices_ContainsFunc_api_Dim_api_Dim (initSt args) (Fin rr_slices_ContainsFunc_api_Dim_api_Dim v)) : PC Tryd.prog G 161 args v :=
  PC_of Tryd.func161 rfl (by kernel_rfl) (rc := rc_slices_ContainsFunc_api_Dim_api_Dim) (by kernel_rfl) (rs := rr_slices_ContainsFunc_api_Dim_api_Dim) (by kernel_rfl) hn (fun R _ hG hr => h R hG hr)

def rc_slices_IndexFunc_api_Dim_api_Dim : RCode :=
  .seq (.reg 0 false [ { d := some 4, op := .mov (.c (.int .i64 0)) }]) (.seq
 (.seq (.reg 1 false [ { d := some 6, op := .mov (.t 0) }, { d := some 7, op := .len (.t 6) }, { d := some 8, op := .mov (.c (.int .i64 0)) }]) (.block 0 (.loop
 (.seq (.reg 2 false [ { d := some 9, op := .bin .lss (.t 8) (.t 7) }]) (.seq (.cond (.t 9) (.skip) (.exit 0)) (.seq (.block 1
 (.seq (.reg 3 false [ { d := some 10, op := .mov (.t 8) }, { d := some 5, op := .mov (.t 10) }])
 (.seq (.reg 4 false [ { d := some 11, op := .mov (.t 1) }, { d := some 12, op := .mov (.t 0) }, { d := some 13, op := .mov (.t 5) }, { d := some 14, op := .iaddr 3 (.t 12) (.t 13) }, { d := some 15, op := .load true 3 (.t 14) }, { d := some 16, op := .callv (.t 11) [.t 15] }]) (.cond (.t 16)
 (.seq (.reg 5 false [ { d := some 17, op := .mov (.t 5) }, { d := some 4, op := .mov (.t 17) }]) (.ret)) (.skip))))) (.reg 6 false [ { d := some 18, op := .bin .add (.t 8) (.c (.int .i64 1)) }, { d := some 8, op := .mov (.t 18) }])))))))
 (.seq (.reg 7 false [ { d := some 4, op := .mov (.c (.int .i64 (-1))) }]) (.ret)))
def rr_slices_IndexFunc_api_Dim_api_Dim : List RRes := [.t 4]
theorem pc_slices_IndexFunc_api_Dim_api_Dim {G : Nat → Option (List AV)} {args : List AV} {v : AV} (hn : args.length ≤ Tryd.f163.ntmps) (h : ∀ R : Run, R.G = G → R.Top → AR Tryd.prog R rc_slices_IndexFunc_api_Dim_api_Dim (initSt args) (Fin rr_slices_IndexFunc_api_Dim_api_Dim v)) : PC Tryd.prog G 163 args v :=
  PC_of Tryd.func163 rfl (by kernel_rfl) (rc := rc_slices_IndexFunc_api_Dim_api_Dim) (by kernel_rfl) (rs := rr_slices_IndexFunc_api_Dim_api_Dim) (by kernel_rfl) hn (fun R _ hG hr => h R hG hr)

def rc_slices_ContainsFunc_api_Item_api_Item : RCode :=
  .seq (.reg 0 false [ { d := some 4, op := .mov (.c (.bool false)) }])
 (.seq (.reg 1 false [ { d := some 5, op := .mov (.t 0) }, { d := some 6, op := .mov (.t 1) }, { d := some 7, op := .call 120 [.t 5, .t 6] }, { d := some 8, op := .bin .geq (.t 7) (.c (.int .i64 0)) }, { d := some 4, op := .mov (.t 8) }]) (.ret))
def rr_slices_ContainsFunc_api_Item_api_Item : List RRes := [.t 4]
theorem pc_slices_ContainsFunc_api_Item_api_Item {G : Nat → Option (List AV)} {args : List AV} {v : AV} (hn : args.length ≤ Tryd.f102.ntmps) (h : ∀ R : Run, R.G = G → R.Top → AR Tryd.prog R rc_slices_ContainsFunc_api_Item_api_Item (initSt args) (Fin rr_slices_ContainsFunc_api_Item_api_Item v)) : PC Tryd.prog G 102 args v :=
  PC_of Tryd.func102 rfl (by kernel_rfl) (rc := rc_slices_ContainsFunc_api_Item_api_Item) (by kernel_rfl) (rs := rr_slices_ContainsFunc_api_Item_api_Item) (by kernel_rfl) hn (fun R _ hG hr => h R hG hr)

def rc_slices_IndexFunc_api_Item_api_Item : RCode :=
  .seq (.reg 0 false [ { d := some 4, op := .mov (.c (.int .i64 0)) }]) (.seq
 (.seq (.reg 1 false [ { d := some 6, op := .mov (.t 0) }, { d := some 7, op := .len (.t 6) }, { d := some 8, op := .mov (.c (.int .i64 0)) }]) (.block 0 (.loop
 (.seq (.reg 2 false [ { d := some 9, op := .bin .lss (.t 8) (.t 7) }]) (.seq (.cond (.t 9) (.skip) (.exit 0)) (.seq (.block 1
 (.seq (.reg 3 false [ { d := some 10, op := .mov (.t 8) }, { d := some 5, op := .mov (.t 10) }])
 (.seq (.reg 4 false [ { d := some 11, op := .mov (.t 1) }, { d := some 12, op := .mov (.t 0) }, { d := some 13, op := .mov (.t 5) }, { d := some 14, op := .iaddr 2 (.t 12) (.t 13) }, { d := some 15, op := .load true 2 (.t 14) }, { d := some 16, op := .callv (.t 11) [.t 15] }]) (.cond (.t 16)
 (.seq (.reg 5 false [ { d := some 17, op := .mov (.t 5) }, { d := some 4, op := .mov (.t 17) }]) (.ret)) (.skip))))) (.reg 6 false [ { d := some 18, op := .bin .add (.t 8) (.c (.int .i64 1)) }, { d := some 8, op := .mov (.t 18) }])))))))
 (.seq (.reg 7 false [ { d := some 4, op := .mov (.c (.int .i64 (-1))) }]) (.ret)))
def rr_slices_IndexFunc_api_Item_api_Item : List RRes := [.t 4]
theorem pc_slices_IndexFunc_api_Item_api_Item {G : Nat → Option (List AV)} {args : List AV} {v : AV} (hn : args.length ≤ Tryd.f120.ntmps) (h : ∀ R : Run, R.G = G → R.Top → AR Tryd.prog R rc_slices_IndexFunc_api_Item_api_Item (initSt args) (Fin rr_slices_IndexFunc_api_Item_api_Item v)) : PC Tryd.prog G 120 args v :=
  PC_of Tryd.func120 rfl (by kernel_rfl) (rc := rc_slices_IndexFunc_api_Item_api_Item) (by kernel_rfl) (rs := rr_slices_IndexFunc_api_Item_api_Item) (by kernel_rfl) hn (fun R _ hG hr => h R hG hr)

def rc_sheet_open_1 : RCode :=
  .seq (.reg 0 false [ { d := some 2, op := .box (.t 0) }, { d := some 3, op := .mov (.c (.bool false)) }])
 (.seq (.reg 1 false [ { d := some 4, op := .load false 1 (.t 1) }, { d := some 5, op := .faddr 0 (.t 2) }, { d := some 6, op := .load false 1 (.t 5) }, { d := some 7, op := .call 104 [.t 4, .t 6] }, { d := some 8, op := .un .not (.t 7) }, { d := some 3, op := .mov (.t 8) }]) (.ret))
def rr_sheet_open_1 : List RRes := [.t 3]
theorem pc_sheet_open_1 {G : Nat → Option (List AV)} {args : List AV} {v : AV} (hn : args.length ≤ Tryd.f103.ntmps) (h : ∀ R : Run, R.G = G → R.Top → AR Tryd.prog R rc_sheet_open_1 (initSt args) (Fin rr_sheet_open_1 v)) : PC Tryd.prog G 103 args v :=
  PC_of Tryd.func103 rfl (by kernel_rfl) (rc := rc_sheet_open_1) (by kernel_rfl) (rs := rr_sheet_open_1) (by kernel_rfl) hn (fun R _ hG hr => h R hG hr)

def rc_sheet_book_has : RCode :=
  .seq (.reg 0 false [ { d := some 4, op := .mov (.c (.bool false)) }])
 (.seq (.reg 1 false [ { d := some 8, op := .mov (.t 0) }, { d := some 9, op := .nilck (.t 8) }, { d := some 10, op := .faddr 1 (.t 9) }, { d := some 11, op := .load false 1 (.t 10) }, { d := some 12, op := .mov (.t 1) }, { d := some 13, op := .call 121 [.t 11, .t 12] }, { d := some 7, op := .mov (.t 13) }, { d := some 14, op := .ext 0 (.t 7) }, { d := some 15, op := .ext 1 (.t 7) }, { d := some 5, op := .mov (.t 14) }, { d := some 6, op := .mov (.t 15) }])
 (.seq (.reg 2 false [ { d := some 16, op := .mov (.t 6) }, { d := some 4, op := .mov (.t 16) }]) (.ret)))
def rr_sheet_book_has : List RRes := [.t 4]
theorem pc_sheet_book_has {G : Nat → Option (List AV)} {args : List AV} {v : AV} (hn : args.length ≤ Tryd.f104.ntmps) (h : ∀ R : Run, R.G = G → R.Top → AR Tryd.prog R rc_sheet_book_has (initSt args) (Fin rr_sheet_book_has v)) : PC Tryd.prog G 104 args v :=
  PC_of Tryd.func104 rfl (by kernel_rfl) (rc := rc_sheet_book_has) (by kernel_rfl) (rs := rr_sheet_book_has) (by kernel_rfl) hn (fun R _ hG hr => h R hG hr)

def rc_slices_BinarySearch_int_int : RCode :=
  .seq (.reg 0 false [ { d := some 4, op := .mov (.c (.int .i64 0)) }, { d := some 5, op := .mov (.c (.bool false)) }])
 (.seq (.reg 1 false [ { d := some 10, op := .mov (.t 0) }, { d := some 11, op := .len (.t 10) }, { d := some 6, op := .mov (.t 11) }])
 (.seq (.reg 2 false [ { d := some 12, op := .mov (.t 6) }, { d := some 7, op := .mov (.c (.int .i64 0)) }, { d := some 8, op := .mov (.t 12) }]) (.seq (.block 0 (.loop (.seq
 (.seq (.reg 3 false [ { d := some 13, op := .mov (.t 7) }, { d := some 14, op := .mov (.t 8) }, { d := some 15, op := .bin .lss (.t 13) (.t 14) }]) (.cond (.t 15) (.skip) (.exit 0))) (.block 1
 (.seq (.reg 4 false [ { d := some 16, op := .mov (.t 7) }, { d := some 17, op := .mov (.t 8) }, { d := some 18, op := .bin .add (.t 16) (.t 17) }, { d := some 19, op := .conv .u64 (.t 18) }, { d := some 20, op := .vop (.sh false) [(.t 19), (.c (.int .u64 1))] }, { d := some 21, op := .conv .i64 (.t 20) }, { d := some 9, op := .mov (.t 21) }])
 (.seq (.reg 5 false [ { d := some 22, op := .mov (.t 0) }, { d := some 23, op := .mov (.t 9) }, { d := some 24, op := .iaddr 1 (.t 22) (.t 23) }, { d := some 25, op := .load false 1 (.t 24) }, { d := some 26, op := .mov (.t 1) }, { d := some 27, op := .call 133 [.t 25, .t 26] }]) (.cond (.t 27) (.reg 6 false [ { d := some 28, op := .mov (.t 9) }, { d := some 29, op := .bin .add (.t 28) (.c (.int .i64 1)) }, { d := some 7, op := .mov (.t 29) }]) (.reg 7 false [ { d := some 30, op := .mov (.t 9) }, { d := some 8, op := .mov (.t 30) }]))))))))
 (.seq (.reg 8 false [ { d := some 31, op := .mov (.t 7) }, { d := some 32, op := .mov (.t 7) }, { d := some 33, op := .mov (.t 6) }, { d := some 34, op := .bin .lss (.t 32) (.t 33) }, { d := some 35, op := .mov (.t 34) }, { d := some 36, op := .mov (.t 0), guard := some (35, true) }, { d := some 37, op := .mov (.t 7), guard := some (35, true) }, { d := some 38, op := .iaddr 1 (.t 36) (.t 37), guard := some (35, true) }, { d := some 39, op := .load false 1 (.t 38), guard := some (35, true) }, { d := some 40, op := .mov (.t 1), guard := some (35, true) }, { d := some 41, op := .bin .eql (.t 39) (.t 40), guard := some (35, true) }, { d := some 42, op := .mov (.t 41), guard := some (35, true) }, { d := some 43, op := .mov (.t 0), guard := some (42, false) }, { d := some 44, op := .mov (.t 7), guard := some (42, false) }, { d := some 45, op := .iaddr 1 (.t 43) (.t 44), guard := some (42, false) }, { d := some 46, op := .load false 1 (.t 45), guard := some (42, false) }, { d := some 47, op := .call 134 [.t 46], guard := some (42, false) }, { d := some 48, op := .mov (.t 47), guard := some (42, false) }, { d := some 49, op := .mov (.t 1), guard := some (48, true) }, { d := some 50, op := .call 134 [.t 49], guard := some (48, true) }, { d := some 51, op := .pick (.t 48) (.t 50) (.c (.bool false)), guard := some (42, false) }, { d := some 52, op := .pick (.t 42) (.c (.bool true)) (.t 51), guard := some (35, true) }, { d := some 53, op := .pick (.t 35) (.t 52) (.c (.bool false)) }, { d := some 4, op := .mov (.t 31) }, { d := some 5, op := .mov (.t 53) }]) (.ret)))))
def rr_slices_BinarySearch_int_int : List RRes := [.t 4, .t 5]
theorem pc_slices_BinarySearch_int_int {G : Nat → Option (List AV)} {args : List AV} {v : AV} (hn : args.length ≤ Tryd.f121.ntmps) (h : ∀ R : Run, R.G = G → R.Top → AR Tryd.prog R rc_slices_BinarySearch_int_int (initSt args) (Fin rr_slices_BinarySearch_int_int v)) : PC Tryd.prog G 121 args v :=
  PC_of Tryd.func121 rfl (by kernel_rfl) (rc := rc_slices_BinarySearch_int_int) (by kernel_rfl) (rs := rr_slices_BinarySearch_int_int) (by kernel_rfl) hn (fun R _ hG hr => h R hG hr)

def rc_cmp_Less_int : RCode :=
  .seq (.reg 0 false [ { d := some 4, op := .mov (.c (.bool false)) }])
 (.seq (.reg 1 false [ { d := some 5, op := .mov (.t 0) }, { d := some 6, op := .call 135 [.t 5] }, { d := some 7, op := .mov (.t 6) }, { d := some 8, op := .mov (.t 1), guard := some (7, true) }, { d := some 9, op := .call 135 [.t 8], guard := some (7, true) }, { d := some 10, op := .un .not (.t 9), guard := some (7, true) }, { d := some 11, op := .pick (.t 7) (.t 10) (.c (.bool false)) }, { d := some 12, op := .mov (.t 11) }, { d := some 13, op := .mov (.t 0), guard := some (12, false) }, { d := some 14, op := .mov (.t 1), guard := some (12, false) }, { d := some 15, op := .bin .lss (.t 13) (.t 14), guard := some (12, false) }, { d := some 16, op := .pick (.t 12) (.c (.bool true)) (.t 15) }, { d := some 4, op := .mov (.t 16) }]) (.ret))
def rr_cmp_Less_int : List RRes := [.t 4]
theorem pc_cmp_Less_int {G : Nat → Option (List AV)} {args : List AV} {v : AV} (hn : args.length ≤ Tryd.f133.ntmps) (h : ∀ R : Run, R.G = G → R.Top → AR Tryd.prog R rc_cmp_Less_int (initSt args) (Fin rr_cmp_Less_int v)) : PC Tryd.prog G 133 args v :=
  PC_of Tryd.func133 rfl (by kernel_rfl) (rc := rc_cmp_Less_int) (by kernel_rfl) (rs := rr_cmp_Less_int) (by kernel_rfl) hn (fun R _ hG hr => h R hG hr)

def rc_cmp_isNaN_int : RCode :=
  .seq (.reg 0 false [ { d := some 2, op := .mov (.c (.bool false)) }])
 (.seq (.reg 1 false [ { d := some 3, op := .mov (.t 0) }, { d := some 4, op := .mov (.t 0) }, { d := some 5, op := .bin .neq (.t 3) (.t 4) }, { d := some 2, op := .mov (.t 5) }]) (.ret))
def rr_cmp_isNaN_int : List RRes := [.t 2]
theorem pc_cmp_isNaN_int {G : Nat → Option (List AV)} {args : List AV} {v : AV} (hn : args.length ≤ Tryd.f135.ntmps) (h : ∀ R : Run, R.G = G → R.Top → AR Tryd.prog R rc_cmp_isNaN_int (initSt args) (Fin rr_cmp_isNaN_int v)) : PC Tryd.prog G 135 args v :=
  PC_of Tryd.func135 rfl (by kernel_rfl) (rc := rc_cmp_isNaN_int) (by kernel_rfl) (rs := rr_cmp_isNaN_int) (by kernel_rfl) hn (fun R _ hG hr => h R hG hr)

def rc_slices_isNaN_int : RCode :=
  .seq (.reg 0 false [ { d := some 2, op := .mov (.c (.bool false)) }])
 (.seq (.reg 1 false [ { d := some 3, op := .mov (.t 0) }, { d := some 4, op := .mov (.t 0) }, { d := some 5, op := .bin .neq (.t 3) (.t 4) }, { d := some 2, op := .mov (.t 5) }]) (.ret))
def rr_slices_isNaN_int : List RRes := [.t 2]
theorem pc_slices_isNaN_int {G : Nat → Option (List AV)} {args : List AV} {v : AV} (hn : args.length ≤ Tryd.f134.ntmps) (h : ∀ R : Run, R.G = G → R.Top → AR Tryd.prog R rc_slices_isNaN_int (initSt args) (Fin rr_slices_isNaN_int v)) : PC Tryd.prog G 134 args v :=
  PC_of Tryd.func134 rfl (by kernel_rfl) (rc := rc_slices_isNaN_int) (by kernel_rfl) (rs := rr_slices_isNaN_int) (by kernel_rfl) hn (fun R _ hG hr => h R hG hr)

def rc_cmp_Compare_int : RCode :=
  .seq (.reg 0 false [ { d := some 4, op := .mov (.c (.int .i64 0)) }])
 (.seq (.reg 1 false [ { d := some 7, op := .mov (.t 0) }, { d := some 8, op := .call 135 [.t 7] }, { d := some 5, op := .mov (.t 8) }])
 (.seq (.reg 2 false [ { d := some 9, op := .mov (.t 1) }, { d := some 10, op := .call 135 [.t 9] }, { d := some 6, op := .mov (.t 10) }]) (.seq
 (.seq (.reg 3 false [ { d := some 11, op := .mov (.t 5) }]) (.cond (.t 11) (.seq
 (.seq (.reg 4 false [ { d := some 12, op := .mov (.t 6) }]) (.cond (.t 12)
 (.seq (.reg 5 false [ { d := some 4, op := .mov (.c (.int .i64 0)) }]) (.ret)) (.skip)))
 (.seq (.reg 6 false [ { d := some 4, op := .mov (.c (.int .i64 (-1))) }]) (.ret))) (.skip))) (.seq
 (.seq (.reg 7 false [ { d := some 13, op := .mov (.t 6) }]) (.cond (.t 13)
 (.seq (.reg 8 false [ { d := some 4, op := .mov (.c (.int .i64 1)) }]) (.ret)) (.skip))) (.seq
 (.seq (.reg 9 false [ { d := some 14, op := .mov (.t 0) }, { d := some 15, op := .mov (.t 1) }, { d := some 16, op := .bin .lss (.t 14) (.t 15) }]) (.cond (.t 16)
 (.seq (.reg 10 false [ { d := some 4, op := .mov (.c (.int .i64 (-1))) }]) (.ret)) (.skip))) (.seq
 (.seq (.reg 11 false [ { d := some 17, op := .mov (.t 0) }, { d := some 18, op := .mov (.t 1) }, { d := some 19, op := .bin .gtr (.t 17) (.t 18) }]) (.cond (.t 19)
 (.seq (.reg 12 false [ { d := some 4, op := .mov (.c (.int .i64 1)) }]) (.ret)) (.skip)))
 (.seq (.reg 13 false [ { d := some 4, op := .mov (.c (.int .i64 0)) }]) (.ret))))))))
def rr_cmp_Compare_int : List RRes := [.t 4]
theorem pc_cmp_Compare_int {G : Nat → Option (List AV)} {args : List AV} {v : AV} (hn : args.length ≤ Tryd.f125.ntmps) (h : ∀ R : Run, R.G = G → R.Top → AR Tryd.prog R rc_cmp_Compare_int (initSt args) (Fin rr_cmp_Compare_int v)) : PC Tryd.prog G 125 args v :=
  PC_of Tryd.func125 rfl (by kernel_rfl) (rc := rc_cmp_Compare_int) (by kernel_rfl) (rs := rr_cmp_Compare_int) (by kernel_rfl) hn (fun R _ hG hr => h R hG hr)

def rc_slices_BinarySearchFunc_api_Issue_api_Issue_int : RCode :=
  .seq (.reg 0 false [ { d := some 6, op := .mov (.c (.int .i64 0)) }, { d := some 7, op := .mov (.c (.bool false)) }])
 (.seq (.reg 1 false [ { d := some 12, op := .mov (.t 0) }, { d := some 13, op := .len (.t 12) }, { d := some 8, op := .mov (.t 13) }])
 (.seq (.reg 2 false [ { d := some 14, op := .mov (.t 8) }, { d := some 9, op := .mov (.c (.int .i64 0)) }, { d := some 10, op := .mov (.t 14) }]) (.seq (.block 0 (.loop (.seq
 (.seq (.reg 3 false [ { d := some 15, op := .mov (.t 9) }, { d := some 16, op := .mov (.t 10) }, { d := some 17, op := .bin .lss (.t 15) (.t 16) }]) (.cond (.t 17) (.skip) (.exit 0))) (.block 1
 (.seq (.reg 4 false [ { d := some 18, op := .mov (.t 9) }, { d := some 19, op := .mov (.t 10) }, { d := some 20, op := .bin .add (.t 18) (.t 19) }, { d := some 21, op := .conv .u64 (.t 20) }, { d := some 22, op := .vop (.sh false) [(.t 21), (.c (.int .u64 1))] }, { d := some 23, op := .conv .i64 (.t 22) }, { d := some 11, op := .mov (.t 23) }])
 (.seq (.reg 5 false [ { d := some 24, op := .mov (.t 2) }, { d := some 25, op := .mov (.t 0) }, { d := some 26, op := .mov (.t 11) }, { d := some 27, op := .iaddr 5 (.t 25) (.t 26) }, { d := some 28, op := .load true 5 (.t 27) }, { d := some 29, op := .mov (.t 1) }, { d := some 30, op := .callv (.t 24) [.t 28, .t 29] }, { d := some 31, op := .bin .lss (.t 30) (.c (.int .i64 0)) }]) (.cond (.t 31) (.reg 6 false [ { d := some 32, op := .mov (.t 11) }, { d := some 33, op := .bin .add (.t 32) (.c (.int .i64 1)) }, { d := some 9, op := .mov (.t 33) }]) (.reg 7 false [ { d := some 34, op := .mov (.t 11) }, { d := some 10, op := .mov (.t 34) }]))))))))
 (.seq (.reg 8 false [ { d := some 35, op := .mov (.t 9) }, { d := some 36, op := .mov (.t 9) }, { d := some 37, op := .mov (.t 8) }, { d := some 38, op := .bin .lss (.t 36) (.t 37) }, { d := some 39, op := .mov (.t 38) }, { d := some 40, op := .mov (.t 2), guard := some (39, true) }, { d := some 41, op := .mov (.t 0), guard := some (39, true) }, { d := some 42, op := .mov (.t 9), guard := some (39, true) }, { d := some 43, op := .iaddr 5 (.t 41) (.t 42), guard := some (39, true) }, { d := some 44, op := .load true 5 (.t 43), guard := some (39, true) }, { d := some 45, op := .mov (.t 1), guard := some (39, true) }, { d := some 46, op := .callv (.t 40) [.t 44, .t 45], guard := some (39, true) }, { d := some 47, op := .bin .eql (.t 46) (.c (.int .i64 0)), guard := some (39, true) }, { d := some 48, op := .pick (.t 39) (.t 47) (.c (.bool false)) }, { d := some 6, op := .mov (.t 35) }, { d := some 7, op := .mov (.t 48) }]) (.ret)))))
def rr_slices_BinarySearchFunc_api_Issue_api_Issue_int : List RRes := [.t 6, .t 7]
theorem pc_slices_BinarySearchFunc_api_Issue_api_Issue_int {G : Nat → Option (List AV)} {args : List AV} {v : AV} (hn : args.length ≤ Tryd.f123.ntmps) (h : ∀ R : Run, R.G = G → R.Top → AR Tryd.prog R rc_slices_BinarySearchFunc_api_Issue_api_Issue_int (initSt args) (Fin rr_slices_BinarySearchFunc_api_Issue_api_Issue_int v)) : PC Tryd.prog G 123 args v :=
  PC_of Tryd.func123 rfl (by kernel_rfl) (rc := rc_slices_BinarySearchFunc_api_Issue_api_Issue_int) (by kernel_rfl) (rs := rr_slices_BinarySearchFunc_api_Issue_api_Issue_int) (by kernel_rfl) hn (fun R _ hG hr => h R hG hr)

def rc_sheet_book_issues : RCode :=
  .seq (.reg 0 false [ { d := some 2, op := .box (.t 0) }, { d := some 3, op := .box (.t 1) }, { d := some 4, op := .mov (.c (.nilf)) }])
 (.seq (.reg 1 false [ { d := some 5, op := .mkf (.func 122) [] [.t 2, .t 3] }, { d := some 4, op := .mov (.t 5) }]) (.ret))
def rr_sheet_book_issues : List RRes := [.t 4]
theorem pc_sheet_book_issues {G : Nat → Option (List AV)} {args : List AV} {v : AV} (hn : args.length ≤ Tryd.f105.ntmps) (h : ∀ R : Run, R.G = G → R.Top → AR Tryd.prog R rc_sheet_book_issues (initSt args) (Fin rr_sheet_book_issues v)) : PC Tryd.prog G 105 args v :=
  PC_of Tryd.func105 rfl (by kernel_rfl) (rc := rc_sheet_book_issues) (by kernel_rfl) (rs := rr_sheet_book_issues) (by kernel_rfl) hn (fun R _ hG hr => h R hG hr)

def rc_sheet_book_issues_1_1 : RCode :=
  .seq (.reg 0 false [ { d := some 2, op := .box (.t 0) }, { d := some 4, op := .mov (.c (.int .i64 0)) }])
 (.seq (.reg 1 false [ { d := some 5, op := .faddr 0 (.t 2) }, { d := some 6, op := .load false 1 (.t 5) }, { d := some 7, op := .mov (.t 1) }, { d := some 8, op := .call 125 [.t 6, .t 7] }, { d := some 4, op := .mov (.t 8) }]) (.ret))
def rr_sheet_book_issues_1_1 : List RRes := [.t 4]
theorem pc_sheet_book_issues_1_1 {G : Nat → Option (List AV)} {args : List AV} {v : AV} (hn : args.length ≤ Tryd.f124.ntmps) (h : ∀ R : Run, R.G = G → R.Top → AR Tryd.prog R rc_sheet_book_issues_1_1 (initSt args) (Fin rr_sheet_book_issues_1_1 v)) : PC Tryd.prog G 124 args v :=
  PC_of Tryd.func124 rfl (by kernel_rfl) (rc := rc_sheet_book_issues_1_1) (by kernel_rfl) (rs := rr_sheet_book_issues_1_1) (by kernel_rfl) hn (fun R _ hG hr => h R hG hr)

def rc_sheet_book_last : RCode :=
  .seq (.reg 0 false [ { d := some 4, op := .mov (.c (.int .i64 0)) }])
 (.seq (.reg 1 false [ { d := some 5, op := .alloc [.int .i64 0] }, { d := none, op := .store 1 (.t 5) (.c (.int .i64 0)) }]) (.seq
 (.seq (.reg 2 false [ { d := some 6, op := .mov (.t 0) }, { d := some 7, op := .mov (.t 1) }, { d := some 8, op := .call 105 [.t 6, .t 7] }]) (.block 0 (.rngf (.t 8) [9] (.skip) (.block 1 (.reg 3 false [ { d := some 10, op := .load false 1 (.t 5) }, { d := some 11, op := .bin .add (.t 10) (.c (.int .i64 1)) }, { d := none, op := .store 1 (.t 5) (.t 11) }])))))
 (.seq (.reg 4 false [ { d := some 12, op := .load false 1 (.t 5) }, { d := some 4, op := .mov (.t 12) }]) (.ret))))
def rr_sheet_book_last : List RRes := [.t 4]
theorem pc_sheet_book_last {G : Nat → Option (List AV)} {args : List AV} {v : AV} (hn : args.length ≤ Tryd.f69.ntmps) (h : ∀ R : Run, R.G = G → R.Top → AR Tryd.prog R rc_sheet_book_last (initSt args) (Fin rr_sheet_book_last v)) : PC Tryd.prog G 69 args v :=
  PC_of Tryd.func69 rfl (by kernel_rfl) (rc := rc_sheet_book_last) (by kernel_rfl) (rs := rr_sheet_book_last) (by kernel_rfl) hn (fun R _ hG hr => h R hG hr)

def rc_sheet_book_find : RCode :=
  .seq (.reg 0 false [ { d := some 3, op := .box (.t 1) }, { d := some 4, op := .alloc [.int .i64 0, .int .i64 0, .int .u8 0, .nils, .nils] }, { d := some 5, op := .alloc [.bool false] }]) (.seq
 (.seq (.reg 1 false [ { d := some 7, op := .mov (.t 0) }, { d := some 8, op := .faddr 0 (.t 3) }, { d := some 9, op := .load false 1 (.t 8) }, { d := some 10, op := .call 105 [.t 7, .t 9] }]) (.block 0 (.rngf (.t 10) [11] (.reg 2 false [ { d := some 6, op := .alloc [.int .i64 0, .int .i64 0, .int .u8 0, .nils, .nils] }, { d := none, op := .store 5 (.t 6) (.t 11) }]) (.block 1
 (.seq (.reg 3 true [ { d := some 12, op := .load true 5 (.t 6), aft := [] }, { d := some 13, op := .call 84 [.t 12], aft := [0] }, { d := some 14, op := .load true 2 (.t 3), aft := [] }, { d := some 15, op := .eqs false [.i, .i] (.t 13) (.t 14), aft := [1, 2] }]) (.cond (.t 15)
 (.seq (.reg 4 false [ { d := some 16, op := .load true 5 (.t 6) }, { d := none, op := .store 5 (.t 4) (.t 16) }, { d := none, op := .store 1 (.t 5) (.c (.bool true)) }]) (.ret)) (.skip)))))))
 (.seq (.reg 5 false [ { d := some 17, op := .build [.int .i64 0, .int .i64 0, .int .u8 0, .nils, .nils] [] }, { d := none, op := .store 5 (.t 4) (.t 17) }, { d := none, op := .store 1 (.t 5) (.c (.bool false)) }]) (.ret)))
def rr_sheet_book_find : List RRes := [.c 4 true 5, .c 5 false 1]
theorem pc_sheet_book_find {G : Nat → Option (List AV)} {args : List AV} {v : AV} (hn : args.length ≤ Tryd.f72.ntmps) (h : ∀ R : Run, R.G = G → R.Top → AR Tryd.prog R rc_sheet_book_find (initSt args) (Fin rr_sheet_book_find v)) : PC Tryd.prog G 72 args v :=
  PC_of Tryd.func72 rfl (by kernel_rfl) (rc := rc_sheet_book_find) (by kernel_rfl) (rs := rr_sheet_book_find) (by kernel_rfl) hn (fun R _ hG hr => h R hG hr)

def rc_sheet_book_depths : RCode :=
  .seq (.reg 0 false [ { d := some 2, op := .mov (.c (.nilm)) }, { d := some 3, op := .mov (.c (.bool false)) }])
 (.seq (.reg 1 false [ { d := some 15, op := .mkmap }, { d := some 4, op := .alloc [.nilm] }, { d := none, op := .store 1 (.t 4) (.t 15) }])
 (.seq (.reg 2 false [ { d := some 16, op := .mkmap }, { d := some 5, op := .alloc [.nilm] }, { d := none, op := .store 1 (.t 5) (.t 16) }]) (.seq
 (.seq (.reg 3 false [ { d := some 17, op := .mov (.t 0) }, { d := some 18, op := .nilck (.t 17) }, { d := some 19, op := .faddr 1 (.t 18) }, { d := some 20, op := .load false 1 (.t 19) }, { d := some 21, op := .len (.t 20) }, { d := some 22, op := .mov (.c (.int .i64 0)) }]) (.block 0 (.loop
 (.seq (.reg 4 false [ { d := some 23, op := .bin .lss (.t 22) (.t 21) }]) (.seq (.cond (.t 23) (.skip) (.exit 0)) (.seq (.block 1
 (.seq (.reg 5 false [ { d := some 24, op := .iaddr 1 (.t 20) (.t 22) }, { d := some 25, op := .load false 1 (.t 24) }, { d := some 7, op := .mov (.t 25) }]) (.reg 6 false [ { d := some 26, op := .load false 1 (.t 5) }, { d := some 27, op := .mov (.t 7) }, { d := none, op := .mupd (.i .i64) (.t 26) (.t 27) (.c (.bool true)) }]))) (.reg 7 false [ { d := some 28, op := .bin .add (.t 22) (.c (.int .i64 1)) }, { d := some 22, op := .mov (.t 28) }]))))))) (.seq
 (.seq (.reg 8 false [ { d := some 29, op := .mov (.t 0) }, { d := some 30, op := .nilck (.t 29) }, { d := some 31, op := .faddr 1 (.t 30) }, { d := some 32, op := .load false 1 (.t 31) }, { d := some 33, op := .len (.t 32) }, { d := some 34, op := .mov (.c (.int .i64 0)) }]) (.block 2 (.loop
 (.seq (.reg 9 false [ { d := some 35, op := .bin .lss (.t 34) (.t 33) }]) (.seq (.cond (.t 35) (.skip) (.exit 2)) (.seq (.block 3
 (.seq (.reg 10 false [ { d := some 36, op := .mov (.t 0) }, { d := some 37, op := .nilck (.t 36) }, { d := some 38, op := .faddr 1 (.t 37) }, { d := some 39, op := .load false 1 (.t 38) }, { d := some 40, op := .len (.t 39) }, { d := some 41, op := .mov (.c (.int .i64 0)) }]) (.block 4 (.loop
 (.seq (.reg 11 false [ { d := some 42, op := .bin .lss (.t 41) (.t 40) }]) (.seq (.cond (.t 42) (.skip) (.exit 4)) (.seq (.block 5
 (.seq (.reg 12 false [ { d := some 43, op := .iaddr 1 (.t 39) (.t 41) }, { d := some 44, op := .load false 1 (.t 43) }, { d := some 9, op := .mov (.t 44) }])
 (.seq (.reg 13 true [ { d := some 45, op := .load false 1 (.t 5), aft := [] }, { d := some 46, op := .mov (.t 9), aft := [] }, { d := some 47, op := .look (.i .i64) (.bool false) false (.t 45) (.t 46), aft := [0, 1] }, { d := some 10, op := .alloc [.int .i64 0], aft := [] }, { d := some 11, op := .alloc [.bool false], aft := [] }, { d := none, op := .store 1 (.t 10) (.c (.int .i64 0)), aft := [3, 3, 4] }, { d := none, op := .store 1 (.t 11) (.t 47), aft := [4, 2, 5, 0, 1, 2, 3, 4, 5] }]) (.seq
 (.seq (.reg 14 false [ { d := some 48, op := .mov (.t 0) }, { d := some 49, op := .mov (.t 9) }, { d := some 50, op := .call 105 [.t 48, .t 49] }]) (.block 6 (.rngf (.t 50) [51] (.reg 15 false [ { d := some 12, op := .alloc [.int .i64 0, .int .i64 0, .int .u8 0, .nils, .nils] }, { d := none, op := .store 5 (.t 12) (.t 51) }]) (.block 7
 (.seq (.reg 16 false [ { d := some 52, op := .faddr 3 (.t 12) }, { d := some 53, op := .load false 1 (.t 52) }, { d := some 54, op := .len (.t 53) }, { d := some 55, op := .mov (.c (.int .i64 0)) }]) (.block 8 (.loop
 (.seq (.reg 17 false [ { d := some 56, op := .bin .lss (.t 55) (.t 54) }]) (.seq (.cond (.t 56) (.skip) (.exit 8)) (.seq (.block 9
 (.seq (.reg 18 false [ { d := some 57, op := .iaddr 2 (.t 53) (.t 55) }, { d := some 58, op := .load true 2 (.t 57) }, { d := some 14, op := .alloc [.int .i64 0, .int .i64 0] }, { d := none, op := .store 2 (.t 14) (.t 58) }])
 (.seq (.reg 19 false [ { d := some 59, op := .load false 1 (.t 11) }, { d := some 60, op := .mov (.t 59) }, { d := some 61, op := .load false 1 (.t 5), guard := some (60, true) }, { d := some 62, op := .faddr 0 (.t 14), guard := some (60, true) }, { d := some 63, op := .load false 1 (.t 62), guard := some (60, true) }, { d := some 64, op := .look (.i .i64) (.bool false) false (.t 61) (.t 63), guard := some (60, true) }, { d := some 65, op := .un .not (.t 64), guard := some (60, true) }, { d := some 66, op := .pick (.t 60) (.t 65) (.c (.bool false)) }, { d := none, op := .store 1 (.t 11) (.t 66) }]) (.reg 20 false [ { d := some 67, op := .load false 1 (.t 10) }, { d := some 68, op := .load false 1 (.t 4) }, { d := some 69, op := .faddr 0 (.t 14) }, { d := some 70, op := .load false 1 (.t 69) }, { d := some 71, op := .look (.i .i64) (.int .i64 0) false (.t 68) (.t 70) }, { d := some 72, op := .mx true (.t 67) [.t 71] }, { d := none, op := .store 1 (.t 10) (.t 72) }])))) (.reg 21 false [ { d := some 73, op := .bin .add (.t 55) (.c (.int .i64 1)) }, { d := some 55, op := .mov (.t 73) }])))))))))))
 (.seq (.reg 22 false [ { d := some 74, op := .load false 1 (.t 11) }]) (.cond (.t 74)
 (.seq (.reg 23 false [ { d := some 75, op := .load false 1 (.t 4) }, { d := some 76, op := .mov (.t 9) }, { d := some 77, op := .load false 1 (.t 10) }, { d := some 78, op := .bin .add (.t 77) (.c (.int .i64 1)) }, { d := none, op := .mupd (.i .i64) (.t 75) (.t 76) (.t 78) }]) (.reg 24 false [ { d := some 79, op := .load false 1 (.t 5) }, { d := some 80, op := .mov (.t 9) }, { d := none, op := .mdel (.i .i64) (.t 79) (.t 80) }])) (.skip))))))) (.reg 25 false [ { d := some 81, op := .bin .add (.t 41) (.c (.int .i64 1)) }, { d := some 41, op := .mov (.t 81) }])))))))) (.reg 26 false [ { d := some 82, op := .bin .add (.t 34) (.c (.int .i64 1)) }, { d := some 34, op := .mov (.t 82) }])))))))
 (.seq (.reg 27 false [ { d := some 83, op := .load false 1 (.t 4) }, { d := some 84, op := .load false 1 (.t 5) }, { d := some 85, op := .mlen (.t 84) }, { d := some 86, op := .bin .gtr (.t 85) (.c (.int .i64 0)) }, { d := some 2, op := .mov (.t 83) }, { d := some 3, op := .mov (.t 86) }]) (.ret))))))
def rr_sheet_book_depths : List RRes := [.t 2, .t 3]
theorem pc_sheet_book_depths {G : Nat → Option (List AV)} {args : List AV} {v : AV} (hn : args.length ≤ Tryd.f75.ntmps) (h : ∀ R : Run, R.G = G → R.Top → AR Tryd.prog R rc_sheet_book_depths (initSt args) (Fin rr_sheet_book_depths v)) : PC Tryd.prog G 75 args v :=
  PC_of Tryd.func75 rfl (by kernel_rfl) (rc := rc_sheet_book_depths) (by kernel_rfl) (rs := rr_sheet_book_depths) (by kernel_rfl) hn (fun R _ hG hr => h R hG hr)

def rc_sheet_copied : RCode :=
  .seq (.reg 0 false [ { d := some 1, op := .box (.t 0) }, { d := some 2, op := .alloc [.int .i64 0, .int .i64 0, .int .u8 0, .nils, .nils] }])
 (.seq (.reg 1 true [ { d := some 3, op := .faddr 3 (.t 1), aft := [] }, { d := some 4, op := .load false 1 (.t 3), aft := [0] }, { d := some 5, op := .calln 108 [.t 4], aft := [1] }, { d := some 6, op := .faddr 4 (.t 1), aft := [] }, { d := some 7, op := .load false 1 (.t 6), aft := [3] }, { d := some 8, op := .calln 109 [.t 7], aft := [4, 2] }, { d := some 9, op := .faddr 3 (.t 1), aft := [0, 1, 2, 3, 4] }, { d := none, op := .store 1 (.t 9) (.t 5), aft := [6, 2, 5, 0, 1, 2, 3, 4] }, { d := some 10, op := .faddr 4 (.t 1), aft := [0, 1, 2, 3, 4, 5, 6, 7] }, { d := none, op := .store 1 (.t 10) (.t 8), aft := [8, 5, 7, 0, 1, 2, 3, 4, 5, 6, 7] }])
 (.seq (.reg 2 false [ { d := some 11, op := .load true 5 (.t 1) }, { d := none, op := .store 5 (.t 2) (.t 11) }]) (.ret)))
def rr_sheet_copied : List RRes := [.c 2 true 5]
theorem pc_sheet_copied {G : Nat → Option (List AV)} {args : List AV} {v : AV} (hn : args.length ≤ Tryd.f73.ntmps) (h : ∀ R : Run, R.G = G → R.Top → AR Tryd.prog R rc_sheet_copied (initSt args) (Fin rr_sheet_copied v)) : PC Tryd.prog G 73 args v :=
  PC_of Tryd.func73 rfl (by kernel_rfl) (rc := rc_sheet_copied) (by kernel_rfl) (rs := rr_sheet_copied) (by kernel_rfl) hn (fun R _ hG hr => h R hG hr)

def rc_slices_Clone_api_Item_api_Item : RCode :=
  .seq (.reg 0 false [ { d := some 2, op := .mov (.c (.nils)) }]) (.seq
 (.seq (.reg 1 false [ { d := some 3, op := .mov (.t 0) }, { d := some 4, op := .vop (.eqn false) [(.t 3), (.c (.nils))] }]) (.cond (.t 4)
 (.seq (.reg 2 false [ { d := some 2, op := .mov (.c (.nils)) }]) (.ret)) (.skip)))
 (.seq (.reg 3 false [ { d := some 5, op := .bsl true 2 0 [] [] }, { d := some 6, op := .mov (.t 0) }, { d := some 7, op := .app 2 16 (.t 5) (.t 6) }, { d := some 2, op := .mov (.t 7) }]) (.ret)))
def rr_slices_Clone_api_Item_api_Item : List RRes := [.t 2]
theorem pc_slices_Clone_api_Item_api_Item {G : Nat → Option (List AV)} {args : List AV} {v : AV} (hn : args.length ≤ Tryd.f108.ntmps) (h : ∀ R : Run, R.G = G → R.Top → AR Tryd.prog R rc_slices_Clone_api_Item_api_Item (initSt args) (Fin rr_slices_Clone_api_Item_api_Item v)) : PC Tryd.prog G 108 args v :=
  PC_of Tryd.func108 rfl (by kernel_rfl) (rc := rc_slices_Clone_api_Item_api_Item) (by kernel_rfl) (rs := rr_slices_Clone_api_Item_api_Item) (by kernel_rfl) hn (fun R _ hG hr => h R hG hr)

def rc_slices_Clone_api_Dim_api_Dim : RCode :=
  .seq (.reg 0 false [ { d := some 2, op := .mov (.c (.nils)) }]) (.seq
 (.seq (.reg 1 false [ { d := some 3, op := .mov (.t 0) }, { d := some 4, op := .vop (.eqn false) [(.t 3), (.c (.nils))] }]) (.cond (.t 4)
 (.seq (.reg 2 false [ { d := some 2, op := .mov (.c (.nils)) }]) (.ret)) (.skip)))
 (.seq (.reg 3 false [ { d := some 5, op := .bsl true 3 0 [] [] }, { d := some 6, op := .mov (.t 0) }, { d := some 7, op := .app 3 24 (.t 5) (.t 6) }, { d := some 2, op := .mov (.t 7) }]) (.ret)))
def rr_slices_Clone_api_Dim_api_Dim : List RRes := [.t 2]
theorem pc_slices_Clone_api_Dim_api_Dim {G : Nat → Option (List AV)} {args : List AV} {v : AV} (hn : args.length ≤ Tryd.f109.ntmps) (h : ∀ R : Run, R.G = G → R.Top → AR Tryd.prog R rc_slices_Clone_api_Dim_api_Dim (initSt args) (Fin rr_slices_Clone_api_Dim_api_Dim v)) : PC Tryd.prog G 109 args v :=
  PC_of Tryd.func109 rfl (by kernel_rfl) (rc := rc_slices_Clone_api_Dim_api_Dim) (by kernel_rfl) (rs := rr_slices_Clone_api_Dim_api_Dim) (by kernel_rfl) hn (fun R _ hG hr => h R hG hr)

def rc_sheet_known : RCode :=
  .seq (.reg 0 false [ { d := some 2, op := .box (.t 0) }, { d := some 4, op := .mov (.c (.nilp)) }, { d := some 5, op := .mov (.c (.int .i64 0)) }])
 (.seq (.reg 1 false [ { d := some 9, op := .load true 1 (.t 2) }, { d := some 10, op := .call 67 [.t 9] }, { d := some 8, op := .mov (.t 10) }, { d := some 11, op := .ext 0 (.t 8) }, { d := some 12, op := .ext 1 (.t 8) }, { d := some 6, op := .mov (.t 11) }, { d := some 7, op := .mov (.t 12) }]) (.seq
 (.seq (.reg 2 false [ { d := some 13, op := .mov (.t 7) }, { d := some 14, op := .bin .neq (.t 13) (.c (.int .i64 0)) }]) (.cond (.t 14)
 (.seq (.reg 3 false [ { d := some 15, op := .mov (.t 7) }, { d := some 4, op := .mov (.c (.nilp)) }, { d := some 5, op := .mov (.t 15) }]) (.ret)) (.skip))) (.seq
 (.seq (.reg 4 false [ { d := some 16, op := .mov (.t 6) }, { d := some 17, op := .mov (.t 1) }, { d := some 18, op := .call 104 [.t 16, .t 17] }, { d := some 19, op := .un .not (.t 18) }]) (.cond (.t 19)
 (.seq (.reg 5 false [ { d := some 4, op := .mov (.c (.nilp)) }, { d := some 5, op := .mov (.c (.int .i64 6)) }]) (.ret)) (.skip)))
 (.seq (.reg 6 false [ { d := some 20, op := .mov (.t 6) }, { d := some 4, op := .mov (.t 20) }, { d := some 5, op := .mov (.c (.int .i64 0)) }]) (.ret)))))
def rr_sheet_known : List RRes := [.t 4, .t 5]
theorem pc_sheet_known {G : Nat → Option (List AV)} {args : List AV} {v : AV} (hn : args.length ≤ Tryd.f68.ntmps) (h : ∀ R : Run, R.G = G → R.Top → AR Tryd.prog R rc_sheet_known (initSt args) (Fin rr_sheet_known v)) : PC Tryd.prog G 68 args v :=
  PC_of Tryd.func68 rfl (by kernel_rfl) (rc := rc_sheet_known) (by kernel_rfl) (rs := rr_sheet_known) (by kernel_rfl) hn (fun R _ hG hr => h R hG hr)

def rc_sheet_Check : RCode :=
  .seq (.reg 0 false [ { d := some 1, op := .box (.t 0) }, { d := some 2, op := .mov (.c (.int .i64 0)) }])
 (.seq (.reg 1 false [ { d := some 6, op := .load true 1 (.t 1) }, { d := some 7, op := .call 67 [.t 6] }, { d := some 5, op := .mov (.t 7) }, { d := some 8, op := .ext 0 (.t 5) }, { d := some 9, op := .ext 1 (.t 5) }, { d := some 3, op := .mov (.t 8) }, { d := some 4, op := .mov (.t 9) }])
 (.seq (.reg 2 false [ { d := some 10, op := .mov (.t 4) }, { d := some 2, op := .mov (.t 10) }]) (.ret)))
def rr_sheet_Check : List RRes := [.t 2]
theorem pc_sheet_Check {G : Nat → Option (List AV)} {args : List AV} {v : AV} (hn : args.length ≤ Tryd.f24.ntmps) (h : ∀ R : Run, R.G = G → R.Top → AR Tryd.prog R rc_sheet_Check (initSt args) (Fin rr_sheet_Check v)) : PC Tryd.prog G 24 args v :=
  PC_of Tryd.func24 rfl (by kernel_rfl) (rc := rc_sheet_Check) (by kernel_rfl) (rs := rr_sheet_Check) (by kernel_rfl) hn (fun R _ hG hr => h R hG hr)

def rc_sheet_Drawings : RCode :=
  .seq (.reg 0 false [ { d := some 1, op := .box (.t 0) }, { d := some 2, op := .mov (.c (.nils)) }, { d := some 3, op := .mov (.c (.int .i64 0)) }])
 (.seq (.reg 1 false [ { d := some 7, op := .load true 1 (.t 1) }, { d := some 8, op := .call 67 [.t 7] }, { d := some 6, op := .mov (.t 8) }, { d := some 9, op := .ext 0 (.t 6) }, { d := some 10, op := .ext 1 (.t 6) }, { d := some 4, op := .mov (.t 9) }, { d := some 5, op := .mov (.t 10) }]) (.seq
 (.seq (.reg 2 false [ { d := some 11, op := .mov (.t 5) }, { d := some 12, op := .bin .neq (.t 11) (.c (.int .i64 0)) }]) (.cond (.t 12)
 (.seq (.reg 3 false [ { d := some 13, op := .mov (.t 5) }, { d := some 2, op := .mov (.c (.nils)) }, { d := some 3, op := .mov (.t 13) }]) (.ret)) (.skip)))
 (.seq (.reg 4 false [ { d := some 14, op := .mov (.t 4) }, { d := some 15, op := .nilck (.t 14) }, { d := some 16, op := .faddr 1 (.t 15) }, { d := some 17, op := .load false 1 (.t 16) }, { d := some 2, op := .mov (.t 17) }, { d := some 3, op := .mov (.c (.int .i64 0)) }]) (.ret))))
def rr_sheet_Drawings : List RRes := [.t 2, .t 3]
theorem pc_sheet_Drawings {G : Nat → Option (List AV)} {args : List AV} {v : AV} (hn : args.length ≤ Tryd.f20.ntmps) (h : ∀ R : Run, R.G = G → R.Top → AR Tryd.prog R rc_sheet_Drawings (initSt args) (Fin rr_sheet_Drawings v)) : PC Tryd.prog G 20 args v :=
  PC_of Tryd.func20 rfl (by kernel_rfl) (rc := rc_sheet_Drawings) (by kernel_rfl) (rs := rr_sheet_Drawings) (by kernel_rfl) hn (fun R _ hG hr => h R hG hr)

def rc_sheet_Last : RCode :=
  .seq (.reg 0 false [ { d := some 2, op := .box (.t 0) }, { d := some 4, op := .mov (.c (.int .i64 0)) }, { d := some 5, op := .mov (.c (.int .i64 0)) }])
 (.seq (.reg 1 false [ { d := some 9, op := .load true 1 (.t 2) }, { d := some 10, op := .mov (.t 1) }, { d := some 11, op := .call 68 [.t 9, .t 10] }, { d := some 8, op := .mov (.t 11) }, { d := some 12, op := .ext 0 (.t 8) }, { d := some 13, op := .ext 1 (.t 8) }, { d := some 6, op := .mov (.t 12) }, { d := some 7, op := .mov (.t 13) }]) (.seq
 (.seq (.reg 2 false [ { d := some 14, op := .mov (.t 7) }, { d := some 15, op := .bin .neq (.t 14) (.c (.int .i64 0)) }]) (.cond (.t 15)
 (.seq (.reg 3 false [ { d := some 16, op := .mov (.t 7) }, { d := some 4, op := .mov (.c (.int .i64 0)) }, { d := some 5, op := .mov (.t 16) }]) (.ret)) (.skip)))
 (.seq (.reg 4 false [ { d := some 17, op := .mov (.t 6) }, { d := some 18, op := .mov (.t 1) }, { d := some 19, op := .call 69 [.t 17, .t 18] }, { d := some 4, op := .mov (.t 19) }, { d := some 5, op := .mov (.c (.int .i64 0)) }]) (.ret))))
def rr_sheet_Last : List RRes := [.t 4, .t 5]
theorem pc_sheet_Last {G : Nat → Option (List AV)} {args : List AV} {v : AV} (hn : args.length ≤ Tryd.f22.ntmps) (h : ∀ R : Run, R.G = G → R.Top → AR Tryd.prog R rc_sheet_Last (initSt args) (Fin rr_sheet_Last v)) : PC Tryd.prog G 22 args v :=
  PC_of Tryd.func22 rfl (by kernel_rfl) (rc := rc_sheet_Last) (by kernel_rfl) (rs := rr_sheet_Last) (by kernel_rfl) hn (fun R _ hG hr => h R hG hr)

def rc_sheet_At : RCode :=
  .seq (.reg 0 false [ { d := some 2, op := .box (.t 0) }, { d := some 3, op := .box (.t 1) }, { d := some 4, op := .alloc [.int .i64 0, .int .i64 0, .int .u8 0, .nils, .nils] }, { d := some 5, op := .mov (.c (.int .i64 0)) }])
 (.seq (.reg 1 false [ { d := some 11, op := .load true 1 (.t 2) }, { d := some 12, op := .call 67 [.t 11] }, { d := some 10, op := .mov (.t 12) }, { d := some 13, op := .ext 0 (.t 10) }, { d := some 14, op := .ext 1 (.t 10) }, { d := some 6, op := .mov (.t 13) }, { d := some 7, op := .mov (.t 14) }]) (.seq
 (.seq (.reg 2 false [ { d := some 15, op := .mov (.t 7) }, { d := some 16, op := .bin .neq (.t 15) (.c (.int .i64 0)) }]) (.cond (.t 16)
 (.seq (.reg 3 false [ { d := some 17, op := .build [.int .i64 0, .int .i64 0, .int .u8 0, .nils, .nils] [] }, { d := some 18, op := .mov (.t 7) }, { d := none, op := .store 5 (.t 4) (.t 17) }, { d := some 5, op := .mov (.t 18) }]) (.ret)) (.skip)))
 (.seq (.reg 4 false [ { d := some 20, op := .mov (.t 6) }, { d := some 21, op := .load true 2 (.t 3) }, { d := some 22, op := .call 72 [.t 20, .t 21] }, { d := some 19, op := .mov (.t 22) }, { d := some 23, op := .ext 0 (.t 19) }, { d := some 24, op := .ext 1 (.t 19) }, { d := some 8, op := .alloc [.int .i64 0, .int .i64 0, .int .u8 0, .nils, .nils] }, { d := none, op := .store 5 (.t 8) (.t 23) }, { d := some 9, op := .mov (.t 24) }]) (.seq
 (.seq (.reg 5 false [ { d := some 25, op := .mov (.t 9) }, { d := some 26, op := .un .not (.t 25) }]) (.cond (.t 26)
 (.seq (.reg 6 false [ { d := some 27, op := .build [.int .i64 0, .int .i64 0, .int .u8 0, .nils, .nils] [] }, { d := none, op := .store 5 (.t 4) (.t 27) }, { d := some 5, op := .mov (.c (.int .i64 6)) }]) (.ret)) (.skip)))
 (.seq (.reg 7 false [ { d := some 28, op := .load true 5 (.t 8) }, { d := some 29, op := .call 73 [.t 28] }, { d := none, op := .store 5 (.t 4) (.t 29) }, { d := some 5, op := .mov (.c (.int .i64 0)) }]) (.ret))))))
def rr_sheet_At : List RRes := [.c 4 true 5, .t 5]
theorem pc_sheet_At {G : Nat → Option (List AV)} {args : List AV} {v : AV} (hn : args.length ≤ Tryd.f27.ntmps) (h : ∀ R : Run, R.G = G → R.Top → AR Tryd.prog R rc_sheet_At (initSt args) (Fin rr_sheet_At v)) : PC Tryd.prog G 27 args v :=
  PC_of Tryd.func27 rfl (by kernel_rfl) (rc := rc_sheet_At) (by kernel_rfl) (rs := rr_sheet_At) (by kernel_rfl) hn (fun R _ hG hr => h R hG hr)

def rc_sheet_Depth : RCode :=
  .seq (.reg 0 false [ { d := some 2, op := .box (.t 0) }, { d := some 4, op := .mov (.c (.int .i64 0)) }, { d := some 5, op := .mov (.c (.int .i64 0)) }])
 (.seq (.reg 1 false [ { d := some 11, op := .load true 1 (.t 2) }, { d := some 12, op := .mov (.t 1) }, { d := some 13, op := .call 68 [.t 11, .t 12] }, { d := some 10, op := .mov (.t 13) }, { d := some 14, op := .ext 0 (.t 10) }, { d := some 15, op := .ext 1 (.t 10) }, { d := some 6, op := .mov (.t 14) }, { d := some 7, op := .mov (.t 15) }]) (.seq
 (.seq (.reg 2 false [ { d := some 16, op := .mov (.t 7) }, { d := some 17, op := .bin .neq (.t 16) (.c (.int .i64 0)) }]) (.cond (.t 17)
 (.seq (.reg 3 false [ { d := some 18, op := .mov (.t 7) }, { d := some 4, op := .mov (.c (.int .i64 0)) }, { d := some 5, op := .mov (.t 18) }]) (.ret)) (.skip)))
 (.seq (.reg 4 false [ { d := some 20, op := .mov (.t 6) }, { d := some 21, op := .call 75 [.t 20] }, { d := some 19, op := .mov (.t 21) }, { d := some 22, op := .ext 0 (.t 19) }, { d := some 23, op := .ext 1 (.t 19) }, { d := some 8, op := .mov (.t 22) }, { d := some 9, op := .mov (.t 23) }])
 (.seq (.reg 5 false [ { d := some 24, op := .mov (.t 8) }, { d := some 25, op := .mov (.t 1) }, { d := some 26, op := .look (.i .i64) (.int .i64 0) false (.t 24) (.t 25) }, { d := some 4, op := .mov (.t 26) }, { d := some 5, op := .mov (.c (.int .i64 0)) }]) (.ret)))))
def rr_sheet_Depth : List RRes := [.t 4, .t 5]
theorem pc_sheet_Depth {G : Nat → Option (List AV)} {args : List AV} {v : AV} (hn : args.length ≤ Tryd.f29.ntmps) (h : ∀ R : Run, R.G = G → R.Top → AR Tryd.prog R rc_sheet_Depth (initSt args) (Fin rr_sheet_Depth v)) : PC Tryd.prog G 29 args v :=
  PC_of Tryd.func29 rfl (by kernel_rfl) (rc := rc_sheet_Depth) (by kernel_rfl) (rs := rr_sheet_Depth) (by kernel_rfl) hn (fun R _ hG hr => h R hG hr)

end Go.Proofs.YtdpmioiamcgfkaaDoor
