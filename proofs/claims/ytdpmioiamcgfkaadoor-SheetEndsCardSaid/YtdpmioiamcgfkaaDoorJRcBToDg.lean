/-
  The abstract machine's code of functions of the program, as a program of ours printed it; that it is theirs is proved beside each.
-/
import Derived.Test.YtdpmioiamcgfkaaDoorJAmOToMath
import Derived.Test.YtdpmioiamcgfkaaDoorProg
import Derived.Test.YtdpmioiamcgfkaaDoorJAmHToAmN
import Derived.IntWalk
set_option linter.unusedSimpArgs false
set_option linter.unusedVariables false
namespace Go.Proofs.YtdpmioiamcgfkaaDoor
open Go.RowKit

def rc_size_in : RCode :=
  .seq (.reg 0 false [ { d := some 3, op := .box (.t 0) }, { d := some 4, op := .box (.t 1) }, { d := some 6, op := .mov (.c (.bool false)) }])
 (.seq (.reg 1 false [ { d := some 7, op := .mov (.t 2) }, { d := some 8, op := .mkf (.func 118) [] [.t 3, .t 4] }, { d := some 9, op := .call 117 [.t 7, .t 8] }, { d := some 10, op := .un .not (.t 9) }, { d := some 6, op := .mov (.t 10) }]) (.ret))
def rr_size_in : List RRes := [.t 6]
theorem pc_size_in {G : Nat → Option (List AV)} {args : List AV} {v : AV} (hn : args.length ≤ Tryd.f98.ntmps) (h : ∀ R : Run, R.G = G → R.Top → AR Tryd.prog R rc_size_in (initSt args) (Fin rr_size_in v)) : PC Tryd.prog G 98 args v :=
  PC_of Tryd.func98 rfl (by kernel_rfl) (rc := rc_size_in) (by kernel_rfl) (rs := rr_size_in) (by kernel_rfl) hn (fun R _ hG hr => h R hG hr)

def rc_size_in_1 : RCode :=
  .seq (.reg 0 false [ { d := some 4, op := .mov (.c (.bool false)) }])
 (.seq (.reg 1 false [ { d := some 5, op := .mov (.t 0) }, { d := some 6, op := .load false 1 (.t 1) }, { d := some 7, op := .bin .lss (.t 5) (.t 6) }, { d := some 8, op := .mov (.t 7) }, { d := some 9, op := .mov (.t 0), guard := some (8, false) }, { d := some 10, op := .load false 1 (.t 2), guard := some (8, false) }, { d := some 11, op := .bin .gtr (.t 9) (.t 10), guard := some (8, false) }, { d := some 12, op := .pick (.t 8) (.c (.bool true)) (.t 11) }, { d := some 4, op := .mov (.t 12) }]) (.ret))
def rr_size_in_1 : List RRes := [.t 4]
theorem pc_size_in_1 {G : Nat → Option (List AV)} {args : List AV} {v : AV} (hn : args.length ≤ Tryd.f118.ntmps) (h : ∀ R : Run, R.G = G → R.Top → AR Tryd.prog R rc_size_in_1 (initSt args) (Fin rr_size_in_1 v)) : PC Tryd.prog G 118 args v :=
  PC_of Tryd.func118 rfl (by kernel_rfl) (rc := rc_size_in_1) (by kernel_rfl) (rs := rr_size_in_1) (by kernel_rfl) hn (fun R _ hG hr => h R hG hr)

def rc_slices_ContainsFunc_int_int : RCode :=
  .seq (.reg 0 false [ { d := some 4, op := .mov (.c (.bool false)) }])
 (.seq (.reg 1 false [ { d := some 5, op := .mov (.t 0) }, { d := some 6, op := .mov (.t 1) }, { d := some 7, op := .call 132 [.t 5, .t 6] }, { d := some 8, op := .bin .geq (.t 7) (.c (.int .i64 0)) }, { d := some 4, op := .mov (.t 8) }]) (.ret))
def rr_slices_ContainsFunc_int_int : List RRes := [.t 4]
theorem pc_slices_ContainsFunc_int_int {G : Nat → Option (List AV)} {args : List AV} {v : AV} (hn : args.length ≤ Tryd.f117.ntmps) (h : ∀ R : Run, R.G = G → R.Top → AR Tryd.prog R rc_slices_ContainsFunc_int_int (initSt args) (Fin rr_slices_ContainsFunc_int_int v)) : PC Tryd.prog G 117 args v :=
  PC_of Tryd.func117 rfl (by kernel_rfl) (rc := rc_slices_ContainsFunc_int_int) (by kernel_rfl) (rs := rr_slices_ContainsFunc_int_int) (by kernel_rfl) hn (fun R _ hG hr => h R hG hr)

def rc_slices_IndexFunc_int_int : RCode :=
  .seq (.reg 0 false [ { d := some 4, op := .mov (.c (.int .i64 0)) }]) (.seq
 (.seq (.reg 1 false [ { d := some 6, op := .mov (.t 0) }, { d := some 7, op := .len (.t 6) }, { d := some 8, op := .mov (.c (.int .i64 0)) }]) (.block 0 (.loop
 (.seq (.reg 2 false [ { d := some 9, op := .bin .lss (.t 8) (.t 7) }]) (.seq (.cond (.t 9) (.skip) (.exit 0)) (.seq (.block 1
 (.seq (.reg 3 false [ { d := some 10, op := .mov (.t 8) }, { d := some 5, op := .mov (.t 10) }])
 (.seq (.reg 4 false [ { d := some 11, op := .mov (.t 1) }, { d := some 12, op := .mov (.t 0) }, { d := some 13, op := .mov (.t 5) }, { d := some 14, op := .iaddr 1 (.t 12) (.t 13) }, { d := some 15, op := .load false 1 (.t 14) }, { d := some 16, op := .callv (.t 11) [.t 15] }]) (.cond (.t 16)
 (.seq (.reg 5 false [ { d := some 17, op := .mov (.t 5) }, { d := some 4, op := .mov (.t 17) }]) (.ret)) (.skip))))) (.reg 6 false [ { d := some 18, op := .bin .add (.t 8) (.c (.int .i64 1)) }, { d := some 8, op := .mov (.t 18) }])))))))
 (.seq (.reg 7 false [ { d := some 4, op := .mov (.c (.int .i64 (-1))) }]) (.ret)))
def rr_slices_IndexFunc_int_int : List RRes := [.t 4]
theorem pc_slices_IndexFunc_int_int {G : Nat → Option (List AV)} {args : List AV} {v : AV} (hn : args.length ≤ Tryd.f132.ntmps) (h : ∀ R : Run, R.G = G → R.Top → AR Tryd.prog R rc_slices_IndexFunc_int_int (initSt args) (Fin rr_slices_IndexFunc_int_int v)) : PC Tryd.prog G 132 args v :=
  PC_of Tryd.func132 rfl (by kernel_rfl) (rc := rc_slices_IndexFunc_int_int) (by kernel_rfl) (rs := rr_slices_IndexFunc_int_int) (by kernel_rfl) hn (fun R _ hG hr => h R hG hr)

def rc_size_Check : RCode :=
  .seq (.reg 0 false [ { d := some 1, op := .box (.t 0) }, { d := some 2, op := .mov (.c (.int .i64 0)) }]) (.seq
 (.seq (.reg 1 false [ { d := some 3, op := .faddr 0 (.t 1) }, { d := some 4, op := .load false 1 (.t 3) }, { d := some 5, op := .faddr 1 (.t 1) }, { d := some 6, op := .load false 1 (.t 5) }, { d := some 7, op := .faddr 2 (.t 1) }, { d := some 8, op := .load false 1 (.t 7) }, { d := some 9, op := .bsl false 1 3 [.int .i64 0, .int .i64 0, .int .i64 0] [(0, .t 4), (1, .t 6), (2, .t 8)] }, { d := some 10, op := .call 98 [.c (.int .i64 0), .c (.int .i64 1000000000), .t 9] }, { d := some 11, op := .un .not (.t 10) }, { d := some 12, op := .mov (.t 11) }, { d := some 13, op := .faddr 1 (.t 1), guard := some (12, false) }, { d := some 14, op := .load false 1 (.t 13), guard := some (12, false) }, { d := some 15, op := .faddr 2 (.t 1), guard := some (12, false) }, { d := some 16, op := .load false 1 (.t 15), guard := some (12, false) }, { d := some 17, op := .bin .gtr (.t 14) (.t 16), guard := some (12, false) }, { d := some 18, op := .pick (.t 12) (.c (.bool true)) (.t 17) }]) (.cond (.t 18)
 (.seq (.reg 2 false [ { d := some 2, op := .mov (.c (.int .i64 10)) }]) (.ret)) (.skip)))
 (.seq (.reg 3 false [ { d := some 2, op := .mov (.c (.int .i64 0)) }]) (.ret)))
def rr_size_Check : List RRes := [.t 2]
theorem pc_size_Check {G : Nat → Option (List AV)} {args : List AV} {v : AV} (hn : args.length ≤ Tryd.f62.ntmps) (h : ∀ R : Run, R.G = G → R.Top → AR Tryd.prog R rc_size_Check (initSt args) (Fin rr_size_Check v)) : PC Tryd.prog G 62 args v :=
  PC_of Tryd.func62 rfl (by kernel_rfl) (rc := rc_size_Check) (by kernel_rfl) (rs := rr_size_Check) (by kernel_rfl) hn (fun R _ hG hr => h R hG hr)

def rc_sheet_in : RCode :=
  .seq (.reg 0 false [ { d := some 3, op := .box (.t 0) }, { d := some 4, op := .box (.t 1) }, { d := some 6, op := .mov (.c (.bool false)) }])
 (.seq (.reg 1 false [ { d := some 7, op := .mov (.t 2) }, { d := some 8, op := .mkf (.func 119) [] [.t 3, .t 4] }, { d := some 9, op := .call 117 [.t 7, .t 8] }, { d := some 10, op := .un .not (.t 9) }, { d := some 6, op := .mov (.t 10) }]) (.ret))
def rr_sheet_in : List RRes := [.t 6]
theorem pc_sheet_in {G : Nat → Option (List AV)} {args : List AV} {v : AV} (hn : args.length ≤ Tryd.f101.ntmps) (h : ∀ R : Run, R.G = G → R.Top → AR Tryd.prog R rc_sheet_in (initSt args) (Fin rr_sheet_in v)) : PC Tryd.prog G 101 args v :=
  PC_of Tryd.func101 rfl (by kernel_rfl) (rc := rc_sheet_in) (by kernel_rfl) (rs := rr_sheet_in) (by kernel_rfl) hn (fun R _ hG hr => h R hG hr)

def rc_sheet_in_1 : RCode :=
  .seq (.reg 0 false [ { d := some 4, op := .mov (.c (.bool false)) }])
 (.seq (.reg 1 false [ { d := some 5, op := .mov (.t 0) }, { d := some 6, op := .load false 1 (.t 1) }, { d := some 7, op := .bin .lss (.t 5) (.t 6) }, { d := some 8, op := .mov (.t 7) }, { d := some 9, op := .mov (.t 0), guard := some (8, false) }, { d := some 10, op := .load false 1 (.t 2), guard := some (8, false) }, { d := some 11, op := .bin .gtr (.t 9) (.t 10), guard := some (8, false) }, { d := some 12, op := .pick (.t 8) (.c (.bool true)) (.t 11) }, { d := some 4, op := .mov (.t 12) }]) (.ret))
def rr_sheet_in_1 : List RRes := [.t 4]
theorem pc_sheet_in_1 {G : Nat → Option (List AV)} {args : List AV} {v : AV} (hn : args.length ≤ Tryd.f119.ntmps) (h : ∀ R : Run, R.G = G → R.Top → AR Tryd.prog R rc_sheet_in_1 (initSt args) (Fin rr_sheet_in_1 v)) : PC Tryd.prog G 119 args v :=
  PC_of Tryd.func119 rfl (by kernel_rfl) (rc := rc_sheet_in_1) (by kernel_rfl) (rs := rr_sheet_in_1) (by kernel_rfl) hn (fun R _ hG hr => h R hG hr)

def rc_sheet_name : RCode :=
  .seq (.reg 0 false [ { d := some 1, op := .box (.t 0) }, { d := some 2, op := .alloc [.int .i64 0, .int .i64 0] }])
 (.seq (.reg 1 false [ { d := some 3, op := .faddr 0 (.t 1) }, { d := some 4, op := .load false 1 (.t 3) }, { d := some 5, op := .faddr 1 (.t 1) }, { d := some 6, op := .load false 1 (.t 5) }, { d := some 7, op := .build [.int .i64 0, .int .i64 0] [(0, 1, .t 4), (1, 1, .t 6)] }, { d := none, op := .store 2 (.t 2) (.t 7) }]) (.ret))
def rr_sheet_name : List RRes := [.c 2 true 2]
theorem pc_sheet_name {G : Nat → Option (List AV)} {args : List AV} {v : AV} (hn : args.length ≤ Tryd.f84.ntmps) (h : ∀ R : Run, R.G = G → R.Top → AR Tryd.prog R rc_sheet_name (initSt args) (Fin rr_sheet_name v)) : PC Tryd.prog G 84 args v :=
  PC_of Tryd.func84 rfl (by kernel_rfl) (rc := rc_sheet_name) (by kernel_rfl) (rs := rr_sheet_name) (by kernel_rfl) hn (fun R _ hG hr => h R hG hr)

def rc_sheet_checks_1 : RCode :=
  .seq (.reg 0 false [ { d := some 1, op := .box (.t 0) }, { d := some 2, op := .mov (.c (.bool false)) }])
 (.seq (.reg 1 false [ { d := some 3, op := .faddr 0 (.t 1) }, { d := some 4, op := .load false 1 (.t 3) }, { d := some 5, op := .bsl false 1 1 [.int .i64 0] [(0, .t 4)] }, { d := some 6, op := .call 101 [.c (.int .i64 1), .c (.int .i64 9999), .t 5] }, { d := some 7, op := .mov (.t 6) }, { d := some 8, op := .faddr 1 (.t 1), guard := some (7, true) }, { d := some 9, op := .load false 1 (.t 8), guard := some (7, true) }, { d := some 10, op := .bsl false 1 1 [.int .i64 0] [(0, .t 9)], guard := some (7, true) }, { d := some 11, op := .call 101 [.c (.int .i64 1), .c (.int .i64 8), .t 10], guard := some (7, true) }, { d := some 12, op := .pick (.t 7) (.t 11) (.c (.bool false)) }, { d := some 2, op := .mov (.t 12) }]) (.ret))
def rr_sheet_checks_1 : List RRes := [.t 2]
theorem pc_sheet_checks_1 {G : Nat → Option (List AV)} {args : List AV} {v : AV} (hn : args.length ≤ Tryd.f157.ntmps) (h : ∀ R : Run, R.G = G → R.Top → AR Tryd.prog R rc_sheet_checks_1 (initSt args) (Fin rr_sheet_checks_1 v)) : PC Tryd.prog G 157 args v :=
  PC_of Tryd.func157 rfl (by kernel_rfl) (rc := rc_sheet_checks_1) (by kernel_rfl) (rs := rr_sheet_checks_1) (by kernel_rfl) hn (fun R _ hG hr => h R hG hr)

def rc_sheet_checks_2 : RCode :=
  .seq (.reg 0 false [ { d := some 1, op := .box (.t 0) }, { d := some 2, op := .mov (.c (.bool false)) }]) (.seq
 (.seq (.reg 1 false [ { d := some 3, op := .faddr 2 (.t 1) }, { d := some 4, op := .load false 1 (.t 3) }, { d := some 5, op := .bin .eql (.t 4) (.c (.int .u8 1)) }]) (.cond (.t 5)
 (.seq (.reg 2 false [ { d := some 6, op := .faddr 3 (.t 1) }, { d := some 7, op := .load false 1 (.t 6) }, { d := some 8, op := .len (.t 7) }, { d := some 9, op := .bsl false 1 1 [.int .i64 0] [(0, .t 8)] }, { d := some 10, op := .call 101 [.c (.int .i64 1), .c (.int .i64 8), .t 9] }, { d := some 11, op := .mov (.t 10) }, { d := some 12, op := .faddr 4 (.t 1), guard := some (11, true) }, { d := some 13, op := .load false 1 (.t 12), guard := some (11, true) }, { d := some 14, op := .len (.t 13), guard := some (11, true) }, { d := some 15, op := .bin .eql (.t 14) (.c (.int .i64 0)), guard := some (11, true) }, { d := some 16, op := .pick (.t 11) (.t 15) (.c (.bool false)) }, { d := some 2, op := .mov (.t 16) }]) (.ret)) (.skip)))
 (.seq (.reg 3 false [ { d := some 17, op := .faddr 2 (.t 1) }, { d := some 18, op := .load false 1 (.t 17) }, { d := some 19, op := .conv .i64 (.t 18) }, { d := some 20, op := .bsl false 1 1 [.int .i64 0] [(0, .t 19)] }, { d := some 21, op := .call 101 [.c (.int .i64 2), .c (.int .i64 3), .t 20] }, { d := some 22, op := .mov (.t 21) }, { d := some 23, op := .faddr 4 (.t 1), guard := some (22, true) }, { d := some 24, op := .load false 1 (.t 23), guard := some (22, true) }, { d := some 25, op := .len (.t 24), guard := some (22, true) }, { d := some 26, op := .bin .leq (.t 25) (.c (.int .i64 4)), guard := some (22, true) }, { d := some 27, op := .pick (.t 22) (.t 26) (.c (.bool false)) }, { d := some 28, op := .mov (.t 27) }, { d := some 29, op := .faddr 3 (.t 1), guard := some (28, true) }, { d := some 30, op := .load false 1 (.t 29), guard := some (28, true) }, { d := some 31, op := .len (.t 30), guard := some (28, true) }, { d := some 32, op := .bin .eql (.t 31) (.c (.int .i64 0)), guard := some (28, true) }, { d := some 33, op := .pick (.t 28) (.t 32) (.c (.bool false)) }, { d := some 2, op := .mov (.t 33) }]) (.ret)))
def rr_sheet_checks_2 : List RRes := [.t 2]
theorem pc_sheet_checks_2 {G : Nat → Option (List AV)} {args : List AV} {v : AV} (hn : args.length ≤ Tryd.f158.ntmps) (h : ∀ R : Run, R.G = G → R.Top → AR Tryd.prog R rc_sheet_checks_2 (initSt args) (Fin rr_sheet_checks_2 v)) : PC Tryd.prog G 158 args v :=
  PC_of Tryd.func158 rfl (by kernel_rfl) (rc := rc_sheet_checks_2) (by kernel_rfl) (rs := rr_sheet_checks_2) (by kernel_rfl) hn (fun R _ hG hr => h R hG hr)

def rc_sheet_checks_3 : RCode :=
  .seq (.reg 0 false [ { d := some 1, op := .box (.t 0) }, { d := some 2, op := .mov (.c (.bool false)) }]) (.seq
 (.seq (.reg 1 false [ { d := some 5, op := .faddr 3 (.t 1) }, { d := some 6, op := .load false 1 (.t 5) }, { d := some 7, op := .len (.t 6) }, { d := some 8, op := .mov (.c (.int .i64 0)) }]) (.block 0 (.loop
 (.seq (.reg 2 false [ { d := some 9, op := .bin .lss (.t 8) (.t 7) }]) (.seq (.cond (.t 9) (.skip) (.exit 0)) (.seq (.block 1
 (.seq (.reg 3 false [ { d := some 10, op := .mov (.t 8) }, { d := some 11, op := .iaddr 2 (.t 6) (.t 8) }, { d := some 12, op := .load true 2 (.t 11) }, { d := some 4, op := .alloc [.int .i64 0, .int .i64 0] }, { d := some 3, op := .mov (.t 10) }, { d := none, op := .store 2 (.t 4) (.t 12) }])
 (.seq (.reg 4 true [ { d := some 13, op := .faddr 0 (.t 4), aft := [] }, { d := some 14, op := .load false 1 (.t 13), aft := [0] }, { d := some 15, op := .bsl false 1 1 [.int .i64 0] [(0, .t 14)], aft := [1] }, { d := some 16, op := .call 101 [.c (.int .i64 1), .c (.int .i64 9999), .t 15], aft := [2] }, { d := some 17, op := .un .not (.t 16), aft := [3] }, { d := some 18, op := .mov (.t 17), aft := [4, 3] }, { d := some 19, op := .faddr 1 (.t 4), guard := some (18, false), aft := [5] }, { d := some 20, op := .load false 1 (.t 19), guard := some (18, false), aft := [6, 5] }, { d := some 21, op := .bsl false 1 1 [.int .i64 0] [(0, .t 20)], guard := some (18, false), aft := [7, 5] }, { d := some 22, op := .call 101 [.c (.int .i64 1), .c (.int .i64 20), .t 21], guard := some (18, false), aft := [8, 5, 5] }, { d := some 23, op := .un .not (.t 22), guard := some (18, false), aft := [9, 5] }, { d := some 24, op := .pick (.t 18) (.c (.bool true)) (.t 23), aft := [5, 10] }, { d := some 25, op := .mov (.t 24), aft := [11, 9] }, { d := some 26, op := .faddr 0 (.t 4), guard := some (25, false), aft := [12] }, { d := some 27, op := .load false 1 (.t 26), guard := some (25, false), aft := [13, 12] }, { d := some 28, op := .faddr 0 (.t 1), guard := some (25, false), aft := [12] }, { d := some 29, op := .load false 1 (.t 28), guard := some (25, false), aft := [15, 12] }, { d := some 30, op := .bin .eql (.t 27) (.t 29), guard := some (25, false), aft := [14, 16, 12] }, { d := some 31, op := .pick (.t 25) (.c (.bool true)) (.t 30), aft := [12, 17] }, { d := some 32, op := .mov (.t 31), aft := [18, 12] }, { d := some 33, op := .mov (.t 3), guard := some (32, false), aft := [19] }, { d := some 34, op := .bin .gtr (.t 33) (.c (.int .i64 0)), guard := some (32, false), aft := [20, 19] }, { d := some 35, op := .mov (.t 34), guard := some (32, false), aft := [21, 19, 19] }, { d := some 36, op := .faddr 3 (.t 1), guard := some (35, true), aft := [22] }, { d := some 37, op := .load false 1 (.t 36), guard := some (35, true), aft := [23, 22] }, { d := some 38, op := .mov (.t 3), guard := some (35, true), aft := [22] }, { d := some 39, op := .bin .sub (.t 38) (.c (.int .i64 1)), guard := some (35, true), aft := [25, 22] }, { d := some 40, op := .iaddr 2 (.t 37) (.t 39), guard := some (35, true), aft := [24, 26, 22] }, { d := some 41, op := .faddr 0 (.t 40), guard := some (35, true), aft := [27, 22] }, { d := some 42, op := .load false 1 (.t 41), guard := some (35, true), aft := [28, 22] }, { d := some 43, op := .faddr 0 (.t 4), guard := some (35, true), aft := [22] }, { d := some 44, op := .load false 1 (.t 43), guard := some (35, true), aft := [30, 22] }, { d := some 45, op := .bin .geq (.t 42) (.t 44), guard := some (35, true), aft := [29, 31, 22] }, { d := some 46, op := .pick (.t 35) (.t 45) (.c (.bool false)), guard := some (32, false), aft := [22, 32, 19] }, { d := some 47, op := .pick (.t 32) (.c (.bool true)) (.t 46), aft := [19, 33] }]) (.cond (.t 47)
 (.seq (.reg 5 false [ { d := some 2, op := .mov (.c (.bool false)) }]) (.ret)) (.skip))))) (.reg 6 false [ { d := some 48, op := .bin .add (.t 8) (.c (.int .i64 1)) }, { d := some 8, op := .mov (.t 48) }])))))))
 (.seq (.reg 7 false [ { d := some 2, op := .mov (.c (.bool true)) }]) (.ret)))
def rr_sheet_checks_3 : List RRes := [.t 2]
theorem pc_sheet_checks_3 {G : Nat → Option (List AV)} {args : List AV} {v : AV} (hn : args.length ≤ Tryd.f159.ntmps) (h : ∀ R : Run, R.G = G → R.Top → AR Tryd.prog R rc_sheet_checks_3 (initSt args) (Fin rr_sheet_checks_3 v)) : PC Tryd.prog G 159 args v :=
  PC_of Tryd.func159 rfl (by kernel_rfl) (rc := rc_sheet_checks_3) (by kernel_rfl) (rs := rr_sheet_checks_3) (by kernel_rfl) hn (fun R _ hG hr => h R hG hr)

def rc_sheet_checks_4 : RCode :=
  .seq (.reg 0 false [ { d := some 1, op := .box (.t 0) }, { d := some 2, op := .mov (.c (.bool false)) }])
 (.seq (.reg 1 false [ { d := some 3, op := .faddr 4 (.t 1) }, { d := some 4, op := .load false 1 (.t 3) }, { d := some 5, op := .call 161 [.t 4, .c (.func (.func 162) [] [])] }, { d := some 6, op := .un .not (.t 5) }, { d := some 2, op := .mov (.t 6) }]) (.ret))
def rr_sheet_checks_4 : List RRes := [.t 2]
theorem pc_sheet_checks_4 {G : Nat → Option (List AV)} {args : List AV} {v : AV} (hn : args.length ≤ Tryd.f160.ntmps) (h : ∀ R : Run, R.G = G → R.Top → AR Tryd.prog R rc_sheet_checks_4 (initSt args) (Fin rr_sheet_checks_4 v)) : PC Tryd.prog G 160 args v :=
  PC_of Tryd.func160 rfl (by kernel_rfl) (rc := rc_sheet_checks_4) (by kernel_rfl) (rs := rr_sheet_checks_4) (by kernel_rfl) hn (fun R _ hG hr => h R hG hr)

def rc_sheet_checks_4_1 : RCode :=
  .seq (.reg 0 false [ { d := some 1, op := .box (.t 0) }, { d := some 2, op := .mov (.c (.bool false)) }])
 (.seq (.reg 1 false [ { d := some 3, op := .load true 3 (.t 1) }, { d := some 4, op := .call 62 [.t 3] }, { d := some 5, op := .bin .neq (.t 4) (.c (.int .i64 0)) }, { d := some 2, op := .mov (.t 5) }]) (.ret))
def rr_sheet_checks_4_1 : List RRes := [.t 2]
theorem pc_sheet_checks_4_1 {G : Nat → Option (List AV)} {args : List AV} {v : AV} (hn : args.length ≤ Tryd.f162.ntmps) (h : ∀ R : Run, R.G = G → R.Top → AR Tryd.prog R rc_sheet_checks_4_1 (initSt args) (Fin rr_sheet_checks_4_1 v)) : PC Tryd.prog G 162 args v :=
  PC_of Tryd.func162 rfl (by kernel_rfl) (rc := rc_sheet_checks_4_1) (by kernel_rfl) (rs := rr_sheet_checks_4_1) (by kernel_rfl) hn (fun R _ hG hr => h R hG hr)

def rc_slices_ContainsFunc_api_Dim_api_Dim : RCode :=
  .seq (.reg 0 false [ { d := some 4, op := .mov (.c (.bool false)) }])
 (.seq (.reg 1 false [ { d := some 5, op := .mov (.t 0) }, { d := some 6, op := .mov (.t 1) }, { d := some 7, op := .call 163 [.t 5, .t 6] }, { d := some 8, op := .bin .geq (.t 7) (.c (.int .i64 0)) }, { d := some 4, op := .mov (.t 8) }]) (.ret))
def rr_slices_ContainsFunc_api_Dim_api_Dim : List RRes := [.t 4]
theorem pc_slices_ContainsFunc_api_Dim_api_Dim {G : Nat → Option (List AV)} {args : List AV} {v : AV} (hn : args.length ≤ Tryd.f161.ntmps) (h : ∀ R : Run, R.G = G → R.Top → AR Tryd.prog R rc_slices_ContainsFunc_api_Dim_api_Dim (initSt args) (Fin rr_slices_ContainsFunc_api_Dim_api_Dim v)) : PC Tryd.prog G 161 args v :=
  PC_of Tryd.func161 rfl (by kernel_rfl) (rc := rc_slices_ContainsFunc_api_Dim_api_Dim) (by kernel_rfl) (rs := rr_slices_ContainsFunc_api_Dim_api_Dim) (by kernel_rfl) hn (fun R _ hG hr => h R hG hr)

def rc_slices_IndexFunc_api_Dim_api_Dim : RCode :=
  .seq (.reg 0 false [ { d := some 4, op := .mov (.c (.int .i64 0)) }]) (.seq
 (.seq (.reg 1 false [ { d := some 6, op := .mov (.t 0) }, { d := some 7, op := .len (.t 6) }, { d := some 8, op := .mov (.c (.int .i64 0)) }]) (.block 0 (.loop
 (.seq (.reg 2 false [ { d := some 9, op := .bin .lss (.t 8) (.t 7) }]) (.seq (.cond (.t 9) (.skip) (.exit 0)) (.seq (.block 1
 (.seq (.reg 3 false [ { d := some 10, op := .mov (.t 8) }, { d := some 5, op := .mov (.t 10) }])
 (.seq (.reg 4 false [ { d := some 11, op := .mov (.t 1) }, { d := some 12, op := .mov (.t 0) }, { d := some 13, op := .mov (.t 5) }, { d := some 14, op := .iaddr 3 (.t 12) (.t 13) }, { d := some 15, op := .load true 3 (.t 14) }, { d := some 16, op := .callv (.t 11) [.t 15] }]) (.cond (.t 16)
 (.seq (.reg 5 false [ { d := some 17, op := .mov (.t 5) }, { d := some 4, op := .mov (.t 17) }]) (.ret)) (.skip))))) (.reg 6 false [ { d := some 18, op := .bin .add (.t 8) (.c (.int .i64 1)) }, { d := some 8, op := .mov (.t 18) }])))))))
 (.seq (.reg 7 false [ { d := some 4, op := .mov (.c (.int .i64 (-1))) }]) (.ret)))
def rr_slices_IndexFunc_api_Dim_api_Dim : List RRes := [.t 4]
theorem pc_slices_IndexFunc_api_Dim_api_Dim {G : Nat → Option (List AV)} {args : List AV} {v : AV} (hn : args.length ≤ Tryd.f163.ntmps) (h : ∀ R : Run, R.G = G → R.Top → AR Tryd.prog R rc_slices_IndexFunc_api_Dim_api_Dim (initSt args) (Fin rr_slices_IndexFunc_api_Dim_api_Dim v)) : PC Tryd.prog G 163 args v :=
  PC_of Tryd.func163 rfl (by kernel_rfl) (rc := rc_slices_IndexFunc_api_Dim_api_Dim) (by kernel_rfl) (rs := rr_slices_IndexFunc_api_Dim_api_Dim) (by kernel_rfl) hn (fun R _ hG hr => h R hG hr)

def rc_slices_ContainsFunc_api_Item_api_Item : RCode :=
  .seq (.reg 0 false [ { d := some 4, op := .mov (.c (.bool false)) }])
 (.seq (.reg 1 false [ { d := some 5, op := .mov (.t 0) }, { d := some 6, op := .mov (.t 1) }, { d := some 7, op := .call 120 [.t 5, .t 6] }, { d := some 8, op := .bin .geq (.t 7) (.c (.int .i64 0)) }, { d := some 4, op := .mov (.t 8) }]) (.ret))
def rr_slices_ContainsFunc_api_Item_api_Item : List RRes := [.t 4]
theorem pc_slices_ContainsFunc_api_Item_api_Item {G : Nat → Option (List AV)} {args : List AV} {v : AV} (hn : args.length ≤ Tryd.f102.ntmps) (h : ∀ R : Run, R.G = G → R.Top → AR Tryd.prog R rc_slices_ContainsFunc_api_Item_api_Item (initSt args) (Fin rr_slices_ContainsFunc_api_Item_api_Item v)) : PC Tryd.prog G 102 args v :=
  PC_of Tryd.func102 rfl (by kernel_rfl) (rc := rc_slices_ContainsFunc_api_Item_api_Item) (by kernel_rfl) (rs := rr_slices_ContainsFunc_api_Item_api_Item) (by kernel_rfl) hn (fun R _ hG hr => h R hG hr)

def rc_slices_IndexFunc_api_Item_api_Item : RCode :=
  .seq (.reg 0 false [ { d := some 4, op := .mov (.c (.int .i64 0)) }]) (.seq
 (.seq (.reg 1 false [ { d := some 6, op := .mov (.t 0) }, { d := some 7, op := .len (.t 6) }, { d := some 8, op := .mov (.c (.int .i64 0)) }]) (.block 0 (.loop
 (.seq (.reg 2 false [ { d := some 9, op := .bin .lss (.t 8) (.t 7) }]) (.seq (.cond (.t 9) (.skip) (.exit 0)) (.seq (.block 1
 (.seq (.reg 3 false [ { d := some 10, op := .mov (.t 8) }, { d := some 5, op := .mov (.t 10) }])
 (.seq (.reg 4 false [ { d := some 11, op := .mov (.t 1) }, { d := some 12, op := .mov (.t 0) }, { d := some 13, op := .mov (.t 5) }, { d := some 14, op := .iaddr 2 (.t 12) (.t 13) }, { d := some 15, op := .load true 2 (.t 14) }, { d := some 16, op := .callv (.t 11) [.t 15] }]) (.cond (.t 16)
 (.seq (.reg 5 false [ { d := some 17, op := .mov (.t 5) }, { d := some 4, op := .mov (.t 17) }]) (.ret)) (.skip))))) (.reg 6 false [ { d := some 18, op := .bin .add (.t 8) (.c (.int .i64 1)) }, { d := some 8, op := .mov (.t 18) }])))))))
 (.seq (.reg 7 false [ { d := some 4, op := .mov (.c (.int .i64 (-1))) }]) (.ret)))
def rr_slices_IndexFunc_api_Item_api_Item : List RRes := [.t 4]
theorem pc_slices_IndexFunc_api_Item_api_Item {G : Nat → Option (List AV)} {args : List AV} {v : AV} (hn : args.length ≤ Tryd.f120.ntmps) (h : ∀ R : Run, R.G = G → R.Top → AR Tryd.prog R rc_slices_IndexFunc_api_Item_api_Item (initSt args) (Fin rr_slices_IndexFunc_api_Item_api_Item v)) : PC Tryd.prog G 120 args v :=
  PC_of Tryd.func120 rfl (by kernel_rfl) (rc := rc_slices_IndexFunc_api_Item_api_Item) (by kernel_rfl) (rs := rr_slices_IndexFunc_api_Item_api_Item) (by kernel_rfl) hn (fun R _ hG hr => h R hG hr)

def rc_sheet_open_1 : RCode :=
  .seq (.reg 0 false [ { d := some 2, op := .box (.t 0) }, { d := some 3, op := .mov (.c (.bool false)) }])
 (.seq (.reg 1 false [ { d := some 4, op := .load false 1 (.t 1) }, { d := some 5, op := .faddr 0 (.t 2) }, { d := some 6, op := .load false 1 (.t 5) }, { d := some 7, op := .call 104 [.t 4, .t 6] }, { d := some 8, op := .un .not (.t 7) }, { d := some 3, op := .mov (.t 8) }]) (.ret))
def rr_sheet_open_1 : List RRes := [.t 3]
theorem pc_sheet_open_1 {G : Nat → Option (List AV)} {args : List AV} {v : AV} (hn : args.length ≤ Tryd.f103.ntmps) (h : ∀ R : Run, R.G = G → R.Top → AR Tryd.prog R rc_sheet_open_1 (initSt args) (Fin rr_sheet_open_1 v)) : PC Tryd.prog G 103 args v :=
  PC_of Tryd.func103 rfl (by kernel_rfl) (rc := rc_sheet_open_1) (by kernel_rfl) (rs := rr_sheet_open_1) (by kernel_rfl) hn (fun R _ hG hr => h R hG hr)

def rc_sheet_book_has : RCode :=
  .seq (.reg 0 false [ { d := some 4, op := .mov (.c (.bool false)) }])
 (.seq (.reg 1 false [ { d := some 8, op := .mov (.t 0) }, { d := some 9, op := .nilck (.t 8) }, { d := some 10, op := .faddr 1 (.t 9) }, { d := some 11, op := .load false 1 (.t 10) }, { d := some 12, op := .mov (.t 1) }, { d := some 13, op := .call 121 [.t 11, .t 12] }, { d := some 7, op := .mov (.t 13) }, { d := some 14, op := .ext 0 (.t 7) }, { d := some 15, op := .ext 1 (.t 7) }, { d := some 5, op := .mov (.t 14) }, { d := some 6, op := .mov (.t 15) }])
 (.seq (.reg 2 false [ { d := some 16, op := .mov (.t 6) }, { d := some 4, op := .mov (.t 16) }]) (.ret)))
def rr_sheet_book_has : List RRes := [.t 4]
theorem pc_sheet_book_has {G : Nat → Option (List AV)} {args : List AV} {v : AV} (hn : args.length ≤ Tryd.f104.ntmps) (h : ∀ R : Run, R.G = G → R.Top → AR Tryd.prog R rc_sheet_book_has (initSt args) (Fin rr_sheet_book_has v)) : PC Tryd.prog G 104 args v :=
  PC_of Tryd.func104 rfl (by kernel_rfl) (rc := rc_sheet_book_has) (by kernel_rfl) (rs := rr_sheet_book_has) (by kernel_rfl) hn (fun R _ hG hr => h R hG hr)

def rc_slices_BinarySearch_int_int : RCode :=
  .seq (.reg 0 false [ { d := some 4, op := .mov (.c (.int .i64 0)) }, { d := some 5, op := .mov (.c (.bool false)) }])
 (.seq (.reg 1 false [ { d := some 10, op := .mov (.t 0) }, { d := some 11, op := .len (.t 10) }, { d := some 6, op := .mov (.t 11) }])
 (.seq (.reg 2 false [ { d := some 12, op := .mov (.t 6) }, { d := some 7, op := .mov (.c (.int .i64 0)) }, { d := some 8, op := .mov (.t 12) }]) (.seq (.block 0 (.loop (.seq
 (.seq (.reg 3 false [ { d := some 13, op := .mov (.t 7) }, { d := some 14, op := .mov (.t 8) }, { d := some 15, op := .bin .lss (.t 13) (.t 14) }]) (.cond (.t 15) (.skip) (.exit 0))) (.block 1
 (.seq (.reg 4 false [ { d := some 16, op := .mov (.t 7) }, { d := some 17, op := .mov (.t 8) }, { d := some 18, op := .bin .add (.t 16) (.t 17) }, { d := some 19, op := .conv .u64 (.t 18) }, { d := some 20, op := .vop (.sh false) [(.t 19), (.c (.int .u64 1))] }, { d := some 21, op := .conv .i64 (.t 20) }, { d := some 9, op := .mov (.t 21) }])
 (.seq (.reg 5 false [ { d := some 22, op := .mov (.t 0) }, { d := some 23, op := .mov (.t 9) }, { d := some 24, op := .iaddr 1 (.t 22) (.t 23) }, { d := some 25, op := .load false 1 (.t 24) }, { d := some 26, op := .mov (.t 1) }, { d := some 27, op := .call 133 [.t 25, .t 26] }]) (.cond (.t 27) (.reg 6 false [ { d := some 28, op := .mov (.t 9) }, { d := some 29, op := .bin .add (.t 28) (.c (.int .i64 1)) }, { d := some 7, op := .mov (.t 29) }]) (.reg 7 false [ { d := some 30, op := .mov (.t 9) }, { d := some 8, op := .mov (.t 30) }]))))))))
 (.seq (.reg 8 false [ { d := some 31, op := .mov (.t 7) }, { d := some 32, op := .mov (.t 7) }, { d := some 33, op := .mov (.t 6) }, { d := some 34, op := .bin .lss (.t 32) (.t 33) }, { d := some 35, op := .mov (.t 34) }, { d := some 36, op := .mov (.t 0), guard := some (35, true) }, { d := some 37, op := .mov (.t 7), guard := some (35, true) }, { d := some 38, op := .iaddr 1 (.t 36) (.t 37), guard := some (35, true) }, { d := some 39, op := .load false 1 (.t 38), guard := some (35, true) }, { d := some 40, op := .mov (.t 1), guard := some (35, true) }, { d := some 41, op := .bin .eql (.t 39) (.t 40), guard := some (35, true) }, { d := some 42, op := .mov (.t 41), guard := some (35, true) }, { d := some 43, op := .mov (.t 0), guard := some (42, false) }, { d := some 44, op := .mov (.t 7), guard := some (42, false) }, { d := some 45, op := .iaddr 1 (.t 43) (.t 44), guard := some (42, false) }, { d := some 46, op := .load false 1 (.t 45), guard := some (42, false) }, { d := some 47, op := .call 134 [.t 46], guard := some (42, false) }, { d := some 48, op := .mov (.t 47), guard := some (42, false) }, { d := some 49, op := .mov (.t 1), guard := some (48, true) }, { d := some 50, op := .call 134 [.t 49], guard := some (48, true) }, { d := some 51, op := .pick (.t 48) (.t 50) (.c (.bool false)), guard := some (42, false) }, { d := some 52, op := .pick (.t 42) (.c (.bool true)) (.t 51), guard := some (35, true) }, { d := some 53, op := .pick (.t 35) (.t 52) (.c (.bool false)) }, { d := some 4, op := .mov (.t 31) }, { d := some 5, op := .mov (.t 53) }]) (.ret)))))
def rr_slices_BinarySearch_int_int : List RRes := [.t 4, .t 5]
theorem pc_slices_BinarySearch_int_int {G : Nat → Option (List AV)} {args : List AV} {v : AV} (hn : args.length ≤ Tryd.f121.ntmps) (h : ∀ R : Run, R.G = G → R.Top → AR Tryd.prog R rc_slices_BinarySearch_int_int (initSt args) (Fin rr_slices_BinarySearch_int_int v)) : PC Tryd.prog G 121 args v :=
  PC_of Tryd.func121 rfl (by kernel_rfl) (rc := rc_slices_BinarySearch_int_int) (by kernel_rfl) (rs := rr_slices_BinarySearch_int_int) (by kernel_rfl) hn (fun R _ hG hr => h R hG hr)

def rc_cmp_Less_int : RCode :=
  .seq (.reg 0 false [ { d := some 4, op := .mov (.c (.bool false)) }])
 (.seq (.reg 1 false [ { d := some 5, op := .mov (.t 0) }, { d := some 6, op := .call 135 [.t 5] }, { d := some 7, op := .mov (.t 6) }, { d := some 8, op := .mov (.t 1), guard := some (7, true) }, { d := some 9, op := .call 135 [.t 8], guard := some (7, true) }, { d := some 10, op := .un .not (.t 9), guard := some (7, true) }, { d := some 11, op := .pick (.t 7) (.t 10) (.c (.bool false)) }, { d := some 12, op := .mov (.t 11) }, { d := some 13, op := .mov (.t 0), guard := some (12, false) }, { d := some 14, op := .mov (.t 1), guard := some (12, false) }, { d := some 15, op := .bin .lss (.t 13) (.t 14), guard := some (12, false) }, { d := some 16, op := .pick (.t 12) (.c (.bool true)) (.t 15) }, { d := some 4, op := .mov (.t 16) }]) (.ret))
def rr_cmp_Less_int : List RRes := [.t 4]
theorem pc_cmp_Less_int {G : Nat → Option (List AV)} {args : List AV} {v : AV} (hn : args.length ≤ Tryd.f133.ntmps) (h : ∀ R : Run, R.G = G → R.Top → AR Tryd.prog R rc_cmp_Less_int (initSt args) (Fin rr_cmp_Less_int v)) : PC Tryd.prog G 133 args v :=
  PC_of Tryd.func133 rfl (by kernel_rfl) (rc := rc_cmp_Less_int) (by kernel_rfl) (rs := rr_cmp_Less_int) (by kernel_rfl) hn (fun R _ hG hr => h R hG hr)

def rc_cmp_isNaN_int : RCode :=
  .seq (.reg 0 false [ { d := some 2, op := .mov (.c (.bool false)) }])
 (.seq (.reg 1 false [ { d := some 3, op := .mov (.t 0) }, { d := some 4, op := .mov (.t 0) }, { d := some 5, op := .bin .neq (.t 3) (.t 4) }, { d := some 2, op := .mov (.t 5) }]) (.ret))
def rr_cmp_isNaN_int : List RRes := [.t 2]
theorem pc_cmp_isNaN_int {G : Nat → Option (List AV)} {args : List AV} {v : AV} (hn : args.length ≤ Tryd.f135.ntmps) (h : ∀ R : Run, R.G = G → R.Top → AR Tryd.prog R rc_cmp_isNaN_int (initSt args) (Fin rr_cmp_isNaN_int v)) : PC Tryd.prog G 135 args v :=
  PC_of Tryd.func135 rfl (by kernel_rfl) (rc := rc_cmp_isNaN_int) (by kernel_rfl) (rs := rr_cmp_isNaN_int) (by kernel_rfl) hn (fun R _ hG hr => h R hG hr)

def rc_slices_isNaN_int : RCode :=
  .seq (.reg 0 false [ { d := some 2, op := .mov (.c (.bool false)) }])
 (.seq (.reg 1 false [ { d := some 3, op := .mov (.t 0) }, { d := some 4, op := .mov (.t 0) }, { d := some 5, op := .bin .neq (.t 3) (.t 4) }, { d := some 2, op := .mov (.t 5) }]) (.ret))
def rr_slices_isNaN_int : List RRes := [.t 2]
theorem pc_slices_isNaN_int {G : Nat → Option (List AV)} {args : List AV} {v : AV} (hn : args.length ≤ Tryd.f134.ntmps) (h : ∀ R : Run, R.G = G → R.Top → AR Tryd.prog R rc_slices_isNaN_int (initSt args) (Fin rr_slices_isNaN_int v)) : PC Tryd.prog G 134 args v :=
  PC_of Tryd.func134 rfl (by kernel_rfl) (rc := rc_slices_isNaN_int) (by kernel_rfl) (rs := rr_slices_isNaN_int) (by kernel_rfl) hn (fun R _ hG hr => h R hG hr)

def rc_cmp_Compare_int : RCode :=
  .seq (.reg 0 false [ { d := some 4, op := .mov (.c (.int .i64 0)) }])
 (.seq (.reg 1 false [ { d := some 7, op := .mov (.t 0) }, { d := some 8, op := .call 135 [.t 7] }, { d := some 5, op := .mov (.t 8) }])
 (.seq (.reg 2 false [ { d := some 9, op := .mov (.t 1) }, { d := some 10, op := .call 135 [.t 9] }, { d := some 6, op := .mov (.t 10) }]) (.seq
 (.seq (.reg 3 false [ { d := some 11, op := .mov (.t 5) }]) (.cond (.t 11) (.seq
 (.seq (.reg 4 false [ { d := some 12, op := .mov (.t 6) }]) (.cond (.t 12)
 (.seq (.reg 5 false [ { d := some 4, op := .mov (.c (.int .i64 0)) }]) (.ret)) (.skip)))
 (.seq (.reg 6 false [ { d := some 4, op := .mov (.c (.int .i64 (-1))) }]) (.ret))) (.skip))) (.seq
 (.seq (.reg 7 false [ { d := some 13, op := .mov (.t 6) }]) (.cond (.t 13)
 (.seq (.reg 8 false [ { d := some 4, op := .mov (.c (.int .i64 1)) }]) (.ret)) (.skip))) (.seq
 (.seq (.reg 9 false [ { d := some 14, op := .mov (.t 0) }, { d := some 15, op := .mov (.t 1) }, { d := some 16, op := .bin .lss (.t 14) (.t 15) }]) (.cond (.t 16)
 (.seq (.reg 10 false [ { d := some 4, op := .mov (.c (.int .i64 (-1))) }]) (.ret)) (.skip))) (.seq
 (.seq (.reg 11 false [ { d := some 17, op := .mov (.t 0) }, { d := some 18, op := .mov (.t 1) }, { d := some 19, op := .bin .gtr (.t 17) (.t 18) }]) (.cond (.t 19)
 (.seq (.reg 12 false [ { d := some 4, op := .mov (.c (.int .i64 1)) }]) (.ret)) (.skip)))
 (.seq (.reg 13 false [ { d := some 4, op := .mov (.c (.int .i64 0)) }]) (.ret))))))))
def rr_cmp_Compare_int : List RRes := [.t 4]
theorem pc_cmp_Compare_int {G : Nat → Option (List AV)} {args : List AV} {v : AV} (hn : args.length ≤ Tryd.f125.ntmps) (h : ∀ R : Run, R.G = G → R.Top → AR Tryd.prog R rc_cmp_Compare_int (initSt args) (Fin rr_cmp_Compare_int v)) : PC Tryd.prog G 125 args v :=
  PC_of Tryd.func125 rfl (by kernel_rfl) (rc := rc_cmp_Compare_int) (by kernel_rfl) (rs := rr_cmp_Compare_int) (by kernel_rfl) hn (fun R _ hG hr => h R hG hr)

def rc_slices_BinarySearchFunc_api_Issue_api_Issue_int : RCode :=
  .seq (.reg 0 false [ { d := some 6, op := .mov (.c (.int .i64 0)) }, { d := some 7, op := .mov (.c (.bool false)) }])
 (.seq (.reg 1 false [ { d := some 12, op := .mov (.t 0) }, { d := some 13, op := .len (.t 12) }, { d := some 8, op := .mov (.t 13) }])
 (.seq (.reg 2 false [ { d := some 14, op := .mov (.t 8) }, { d := some 9, op := .mov (.c (.int .i64 0)) }, { d := some 10, op := .mov (.t 14) }]) (.seq (.block 0 (.loop (.seq
 (.seq (.reg 3 false [ { d := some 15, op := .mov (.t 9) }, { d := some 16, op := .mov (.t 10) }, { d := some 17, op := .bin .lss (.t 15) (.t 16) }]) (.cond (.t 17) (.skip) (.exit 0))) (.block 1
 (.seq (.reg 4 false [ { d := some 18, op := .mov (.t 9) }, { d := some 19, op := .mov (.t 10) }, { d := some 20, op := .bin .add (.t 18) (.t 19) }, { d := some 21, op := .conv .u64 (.t 20) }, { d := some 22, op := .vop (.sh false) [(.t 21), (.c (.int .u64 1))] }, { d := some 23, op := .conv .i64 (.t 22) }, { d := some 11, op := .mov (.t 23) }])
 (.seq (.reg 5 false [ { d := some 24, op := .mov (.t 2) }, { d := some 25, op := .mov (.t 0) }, { d := some 26, op := .mov (.t 11) }, { d := some 27, op := .iaddr 5 (.t 25) (.t 26) }, { d := some 28, op := .load true 5 (.t 27) }, { d := some 29, op := .mov (.t 1) }, { d := some 30, op := .callv (.t 24) [.t 28, .t 29] }, { d := some 31, op := .bin .lss (.t 30) (.c (.int .i64 0)) }]) (.cond (.t 31) (.reg 6 false [ { d := some 32, op := .mov (.t 11) }, { d := some 33, op := .bin .add (.t 32) (.c (.int .i64 1)) }, { d := some 9, op := .mov (.t 33) }]) (.reg 7 false [ { d := some 34, op := .mov (.t 11) }, { d := some 10, op := .mov (.t 34) }]))))))))
 (.seq (.reg 8 false [ { d := some 35, op := .mov (.t 9) }, { d := some 36, op := .mov (.t 9) }, { d := some 37, op := .mov (.t 8) }, { d := some 38, op := .bin .lss (.t 36) (.t 37) }, { d := some 39, op := .mov (.t 38) }, { d := some 40, op := .mov (.t 2), guard := some (39, true) }, { d := some 41, op := .mov (.t 0), guard := some (39, true) }, { d := some 42, op := .mov (.t 9), guard := some (39, true) }, { d := some 43, op := .iaddr 5 (.t 41) (.t 42), guard := some (39, true) }, { d := some 44, op := .load true 5 (.t 43), guard := some (39, true) }, { d := some 45, op := .mov (.t 1), guard := some (39, true) }, { d := some 46, op := .callv (.t 40) [.t 44, .t 45], guard := some (39, true) }, { d := some 47, op := .bin .eql (.t 46) (.c (.int .i64 0)), guard := some (39, true) }, { d := some 48, op := .pick (.t 39) (.t 47) (.c (.bool false)) }, { d := some 6, op := .mov (.t 35) }, { d := some 7, op := .mov (.t 48) }]) (.ret)))))
def rr_slices_BinarySearchFunc_api_Issue_api_Issue_int : List RRes := [.t 6, .t 7]
theorem pc_slices_BinarySearchFunc_api_Issue_api_Issue_int {G : Nat → Option (List AV)} {args : List AV} {v : AV} (hn : args.length ≤ Tryd.f123.ntmps) (h : ∀ R : Run, R.G = G → R.Top → AR Tryd.prog R rc_slices_BinarySearchFunc_api_Issue_api_Issue_int (initSt args) (Fin rr_slices_BinarySearchFunc_api_Issue_api_Issue_int v)) : PC Tryd.prog G 123 args v :=
  PC_of Tryd.func123 rfl (by kernel_rfl) (rc := rc_slices_BinarySearchFunc_api_Issue_api_Issue_int) (by kernel_rfl) (rs := rr_slices_BinarySearchFunc_api_Issue_api_Issue_int) (by kernel_rfl) hn (fun R _ hG hr => h R hG hr)

def rc_sheet_book_issues : RCode :=
  .seq (.reg 0 false [ { d := some 2, op := .box (.t 0) }, { d := some 3, op := .box (.t 1) }, { d := some 4, op := .mov (.c (.nilf)) }])
 (.seq (.reg 1 false [ { d := some 5, op := .mkf (.func 122) [] [.t 2, .t 3] }, { d := some 4, op := .mov (.t 5) }]) (.ret))
def rr_sheet_book_issues : List RRes := [.t 4]
theorem pc_sheet_book_issues {G : Nat → Option (List AV)} {args : List AV} {v : AV} (hn : args.length ≤ Tryd.f105.ntmps) (h : ∀ R : Run, R.G = G → R.Top → AR Tryd.prog R rc_sheet_book_issues (initSt args) (Fin rr_sheet_book_issues v)) : PC Tryd.prog G 105 args v :=
  PC_of Tryd.func105 rfl (by kernel_rfl) (rc := rc_sheet_book_issues) (by kernel_rfl) (rs := rr_sheet_book_issues) (by kernel_rfl) hn (fun R _ hG hr => h R hG hr)

def rc_sheet_book_issues_1_1 : RCode :=
  .seq (.reg 0 false [ { d := some 2, op := .box (.t 0) }, { d := some 4, op := .mov (.c (.int .i64 0)) }])
 (.seq (.reg 1 false [ { d := some 5, op := .faddr 0 (.t 2) }, { d := some 6, op := .load false 1 (.t 5) }, { d := some 7, op := .mov (.t 1) }, { d := some 8, op := .call 125 [.t 6, .t 7] }, { d := some 4, op := .mov (.t 8) }]) (.ret))
def rr_sheet_book_issues_1_1 : List RRes := [.t 4]
theorem pc_sheet_book_issues_1_1 {G : Nat → Option (List AV)} {args : List AV} {v : AV} (hn : args.length ≤ Tryd.f124.ntmps) (h : ∀ R : Run, R.G = G → R.Top → AR Tryd.prog R rc_sheet_book_issues_1_1 (initSt args) (Fin rr_sheet_book_issues_1_1 v)) : PC Tryd.prog G 124 args v :=
  PC_of Tryd.func124 rfl (by kernel_rfl) (rc := rc_sheet_book_issues_1_1) (by kernel_rfl) (rs := rr_sheet_book_issues_1_1) (by kernel_rfl) hn (fun R _ hG hr => h R hG hr)

def rc_sheet_book_last : RCode :=
  .seq (.reg 0 false [ { d := some 4, op := .mov (.c (.int .i64 0)) }])
 (.seq (.reg 1 false [ { d := some 5, op := .alloc [.int .i64 0] }, { d := none, op := .store 1 (.t 5) (.c (.int .i64 0)) }]) (.seq
 (.seq (.reg 2 false [ { d := some 6, op := .mov (.t 0) }, { d := some 7, op := .mov (.t 1) }, { d := some 8, op := .call 105 [.t 6, .t 7] }]) (.block 0 (.rngf (.t 8) [9] (.skip) (.block 1 (.reg 3 false [ { d := some 10, op := .load false 1 (.t 5) }, { d := some 11, op := .bin .add (.t 10) (.c (.int .i64 1)) }, { d := none, op := .store 1 (.t 5) (.t 11) }])))))
 (.seq (.reg 4 false [ { d := some 12, op := .load false 1 (.t 5) }, { d := some 4, op := .mov (.t 12) }]) (.ret))))
def rr_sheet_book_last : List RRes := [.t 4]
theorem pc_sheet_book_last {G : Nat → Option (List AV)} {args : List AV} {v : AV} (hn : args.length ≤ Tryd.f69.ntmps) (h : ∀ R : Run, R.G = G → R.Top → AR Tryd.prog R rc_sheet_book_last (initSt args) (Fin rr_sheet_book_last v)) : PC Tryd.prog G 69 args v :=
  PC_of Tryd.func69 rfl (by kernel_rfl) (rc := rc_sheet_book_last) (by kernel_rfl) (rs := rr_sheet_book_last) (by kernel_rfl) hn (fun R _ hG hr => h R hG hr)

def rc_sheet_book_find : RCode :=
  .seq (.reg 0 false [ { d := some 3, op := .box (.t 1) }, { d := some 4, op := .alloc [.int .i64 0, .int .i64 0, .int .u8 0, .nils, .nils] }, { d := some 5, op := .alloc [.bool false] }]) (.seq
 (.seq (.reg 1 false [ { d := some 7, op := .mov (.t 0) }, { d := some 8, op := .faddr 0 (.t 3) }, { d := some 9, op := .load false 1 (.t 8) }, { d := some 10, op := .call 105 [.t 7, .t 9] }]) (.block 0 (.rngf (.t 10) [11] (.reg 2 false [ { d := some 6, op := .alloc [.int .i64 0, .int .i64 0, .int .u8 0, .nils, .nils] }, { d := none, op := .store 5 (.t 6) (.t 11) }]) (.block 1
 (.seq (.reg 3 true [ { d := some 12, op := .load true 5 (.t 6), aft := [] }, { d := some 13, op := .call 84 [.t 12], aft := [0] }, { d := some 14, op := .load true 2 (.t 3), aft := [] }, { d := some 15, op := .eqs false [.i, .i] (.t 13) (.t 14), aft := [1, 2] }]) (.cond (.t 15)
 (.seq (.reg 4 false [ { d := some 16, op := .load true 5 (.t 6) }, { d := none, op := .store 5 (.t 4) (.t 16) }, { d := none, op := .store 1 (.t 5) (.c (.bool true)) }]) (.ret)) (.skip)))))))
 (.seq (.reg 5 false [ { d := some 17, op := .build [.int .i64 0, .int .i64 0, .int .u8 0, .nils, .nils] [] }, { d := none, op := .store 5 (.t 4) (.t 17) }, { d := none, op := .store 1 (.t 5) (.c (.bool false)) }]) (.ret)))
def rr_sheet_book_find : List RRes := [.c 4 true 5, .c 5 false 1]
theorem pc_sheet_book_find {G : Nat → Option (List AV)} {args : List AV} {v : AV} (hn : args.length ≤ Tryd.f72.ntmps) (h : ∀ R : Run, R.G = G → R.Top → AR Tryd.prog R rc_sheet_book_find (initSt args) (Fin rr_sheet_book_find v)) : PC Tryd.prog G 72 args v :=
  PC_of Tryd.func72 rfl (by kernel_rfl) (rc := rc_sheet_book_find) (by kernel_rfl) (rs := rr_sheet_book_find) (by kernel_rfl) hn (fun R _ hG hr => h R hG hr)

def rc_sheet_book_depths : RCode :=
  .seq (.reg 0 false [ { d := some 2, op := .mov (.c (.nilm)) }, { d := some 3, op := .mov (.c (.bool false)) }])
 (.seq (.reg 1 false [ { d := some 15, op := .mkmap }, { d := some 4, op := .alloc [.nilm] }, { d := none, op := .store 1 (.t 4) (.t 15) }])
 (.seq (.reg 2 false [ { d := some 16, op := .mkmap }, { d := some 5, op := .alloc [.nilm] }, { d := none, op := .store 1 (.t 5) (.t 16) }]) (.seq
 (.seq (.reg 3 false [ { d := some 17, op := .mov (.t 0) }, { d := some 18, op := .nilck (.t 17) }, { d := some 19, op := .faddr 1 (.t 18) }, { d := some 20, op := .load false 1 (.t 19) }, { d := some 21, op := .len (.t 20) }, { d := some 22, op := .mov (.c (.int .i64 0)) }]) (.block 0 (.loop
 (.seq (.reg 4 false [ { d := some 23, op := .bin .lss (.t 22) (.t 21) }]) (.seq (.cond (.t 23) (.skip) (.exit 0)) (.seq (.block 1
 (.seq (.reg 5 false [ { d := some 24, op := .iaddr 1 (.t 20) (.t 22) }, { d := some 25, op := .load false 1 (.t 24) }, { d := some 7, op := .mov (.t 25) }]) (.reg 6 false [ { d := some 26, op := .load false 1 (.t 5) }, { d := some 27, op := .mov (.t 7) }, { d := none, op := .mupd (.i .i64) (.t 26) (.t 27) (.c (.bool true)) }]))) (.reg 7 false [ { d := some 28, op := .bin .add (.t 22) (.c (.int .i64 1)) }, { d := some 22, op := .mov (.t 28) }]))))))) (.seq
 (.seq (.reg 8 false [ { d := some 29, op := .mov (.t 0) }, { d := some 30, op := .nilck (.t 29) }, { d := some 31, op := .faddr 1 (.t 30) }, { d := some 32, op := .load false 1 (.t 31) }, { d := some 33, op := .len (.t 32) }, { d := some 34, op := .mov (.c (.int .i64 0)) }]) (.block 2 (.loop
 (.seq (.reg 9 false [ { d := some 35, op := .bin .lss (.t 34) (.t 33) }]) (.seq (.cond (.t 35) (.skip) (.exit 2)) (.seq (.block 3
 (.seq (.reg 10 false [ { d := some 36, op := .mov (.t 0) }, { d := some 37, op := .nilck (.t 36) }, { d := some 38, op := .faddr 1 (.t 37) }, { d := some 39, op := .load false 1 (.t 38) }, { d := some 40, op := .len (.t 39) }, { d := some 41, op := .mov (.c (.int .i64 0)) }]) (.block 4 (.loop
 (.seq (.reg 11 false [ { d := some 42, op := .bin .lss (.t 41) (.t 40) }]) (.seq (.cond (.t 42) (.skip) (.exit 4)) (.seq (.block 5
 (.seq (.reg 12 false [ { d := some 43, op := .iaddr 1 (.t 39) (.t 41) }, { d := some 44, op := .load false 1 (.t 43) }, { d := some 9, op := .mov (.t 44) }])
 (.seq (.reg 13 true [ { d := some 45, op := .load false 1 (.t 5), aft := [] }, { d := some 46, op := .mov (.t 9), aft := [] }, { d := some 47, op := .look (.i .i64) (.bool false) false (.t 45) (.t 46), aft := [0, 1] }, { d := some 10, op := .alloc [.int .i64 0], aft := [] }, { d := some 11, op := .alloc [.bool false], aft := [] }, { d := none, op := .store 1 (.t 10) (.c (.int .i64 0)), aft := [3, 3, 4] }, { d := none, op := .store 1 (.t 11) (.t 47), aft := [4, 2, 5, 0, 1, 2, 3, 4, 5] }]) (.seq
 (.seq (.reg 14 false [ { d := some 48, op := .mov (.t 0) }, { d := some 49, op := .mov (.t 9) }, { d := some 50, op := .call 105 [.t 48, .t 49] }]) (.block 6 (.rngf (.t 50) [51] (.reg 15 false [ { d := some 12, op := .alloc [.int .i64 0, .int .i64 0, .int .u8 0, .nils, .nils] }, { d := none, op := .store 5 (.t 12) (.t 51) }]) (.block 7
 (.seq (.reg 16 false [ { d := some 52, op := .faddr 3 (.t 12) }, { d := some 53, op := .load false 1 (.t 52) }, { d := some 54, op := .len (.t 53) }, { d := some 55, op := .mov (.c (.int .i64 0)) }]) (.block 8 (.loop
 (.seq (.reg 17 false [ { d := some 56, op := .bin .lss (.t 55) (.t 54) }]) (.seq (.cond (.t 56) (.skip) (.exit 8)) (.seq (.block 9
 (.seq (.reg 18 false [ { d := some 57, op := .iaddr 2 (.t 53) (.t 55) }, { d := some 58, op := .load true 2 (.t 57) }, { d := some 14, op := .alloc [.int .i64 0, .int .i64 0] }, { d := none, op := .store 2 (.t 14) (.t 58) }])
 (.seq (.reg 19 false [ { d := some 59, op := .load false 1 (.t 11) }, { d := some 60, op := .mov (.t 59) }, { d := some 61, op := .load false 1 (.t 5), guard := some (60, true) }, { d := some 62, op := .faddr 0 (.t 14), guard := some (60, true) }, { d := some 63, op := .load false 1 (.t 62), guard := some (60, true) }, { d := some 64, op := .look (.i .i64) (.bool false) false (.t 61) (.t 63), guard := some (60, true) }, { d := some 65, op := .un .not (.t 64), guard := some (60, true) }, { d := some 66, op := .pick (.t 60) (.t 65) (.c (.bool false)) }, { d := none, op := .store 1 (.t 11) (.t 66) }]) (.reg 20 false [ { d := some 67, op := .load false 1 (.t 10) }, { d := some 68, op := .load false 1 (.t 4) }, { d := some 69, op := .faddr 0 (.t 14) }, { d := some 70, op := .load false 1 (.t 69) }, { d := some 71, op := .look (.i .i64) (.int .i64 0) false (.t 68) (.t 70) }, { d := some 72, op := .mx true (.t 67) [.t 71] }, { d := none, op := .store 1 (.t 10) (.t 72) }])))) (.reg 21 false [ { d := some 73, op := .bin .add (.t 55) (.c (.int .i64 1)) }, { d := some 55, op := .mov (.t 73) }])))))))))))
 (.seq (.reg 22 false [ { d := some 74, op := .load false 1 (.t 11) }]) (.cond (.t 74)
 (.seq (.reg 23 false [ { d := some 75, op := .load false 1 (.t 4) }, { d := some 76, op := .mov (.t 9) }, { d := some 77, op := .load false 1 (.t 10) }, { d := some 78, op := .bin .add (.t 77) (.c (.int .i64 1)) }, { d := none, op := .mupd (.i .i64) (.t 75) (.t 76) (.t 78) }]) (.reg 24 false [ { d := some 79, op := .load false 1 (.t 5) }, { d := some 80, op := .mov (.t 9) }, { d := none, op := .mdel (.i .i64) (.t 79) (.t 80) }])) (.skip))))))) (.reg 25 false [ { d := some 81, op := .bin .add (.t 41) (.c (.int .i64 1)) }, { d := some 41, op := .mov (.t 81) }])))))))) (.reg 26 false [ { d := some 82, op := .bin .add (.t 34) (.c (.int .i64 1)) }, { d := some 34, op := .mov (.t 82) }])))))))
 (.seq (.reg 27 false [ { d := some 83, op := .load false 1 (.t 4) }, { d := some 84, op := .load false 1 (.t 5) }, { d := some 85, op := .mlen (.t 84) }, { d := some 86, op := .bin .gtr (.t 85) (.c (.int .i64 0)) }, { d := some 2, op := .mov (.t 83) }, { d := some 3, op := .mov (.t 86) }]) (.ret))))))
def rr_sheet_book_depths : List RRes := [.t 2, .t 3]
theorem pc_sheet_book_depths {G : Nat → Option (List AV)} {args : List AV} {v : AV} (hn : args.length ≤ Tryd.f75.ntmps) (h : ∀ R : Run, R.G = G → R.Top → AR Tryd.prog R rc_sheet_book_depths (initSt args) (Fin rr_sheet_book_depths v)) : PC Tryd.prog G 75 args v :=
  PC_of Tryd.func75 rfl (by kernel_rfl) (rc := rc_sheet_book_depths) (by kernel_rfl) (rs := rr_sheet_book_depths) (by kernel_rfl) hn (fun R _ hG hr => h R hG hr)

def rc_sheet_copied : RCode :=
  .seq (.reg 0 false [ { d := some 1, op := .box (.t 0) }, { d := some 2, op := .alloc [.int .i64 0, .int .i64 0, .int .u8 0, .nils, .nils] }])
 (.seq (.reg 1 true [ { d := some 3, op := .faddr 3 (.t 1), aft := [] }, { d := some 4, op := .load false 1 (.t 3), aft := [0] }, { d := some 5, op := .calln 108 [.t 4], aft := [1] }, { d := some 6, op := .faddr 4 (.t 1), aft := [] }, { d := some 7, op := .load false 1 (.t 6), aft := [3] }, { d := some 8, op := .calln 109 [.t 7], aft := [4, 2] }, { d := some 9, op := .faddr 3 (.t 1), aft := [0, 1, 2, 3, 4] }, { d := none, op := .store 1 (.t 9) (.t 5), aft := [6, 2, 5, 0, 1, 2, 3, 4] }, { d := some 10, op := .faddr 4 (.t 1), aft := [0, 1, 2, 3, 4, 5, 6, 7] }, { d := none, op := .store 1 (.t 10) (.t 8), aft := [8, 5, 7, 0, 1, 2, 3, 4, 5, 6, 7] }])
 (.seq (.reg 2 false [ { d := some 11, op := .load true 5 (.t 1) }, { d := none, op := .store 5 (.t 2) (.t 11) }]) (.ret)))
def rr_sheet_copied : List RRes := [.c 2 true 5]
theorem pc_sheet_copied {G : Nat → Option (List AV)} {args : List AV} {v : AV} (hn : args.length ≤ Tryd.f73.ntmps) (h : ∀ R : Run, R.G = G → R.Top → AR Tryd.prog R rc_sheet_copied (initSt args) (Fin rr_sheet_copied v)) : PC Tryd.prog G 73 args v :=
  PC_of Tryd.func73 rfl (by kernel_rfl) (rc := rc_sheet_copied) (by kernel_rfl) (rs := rr_sheet_copied) (by kernel_rfl) hn (fun R _ hG hr => h R hG hr)

def rc_slices_Clone_api_Item_api_Item : RCode :=
  .seq (.reg 0 false [ { d := some 2, op := .mov (.c (.nils)) }]) (.seq
 (.seq (.reg 1 false [ { d := some 3, op := .mov (.t 0) }, { d := some 4, op := .vop (.eqn false) [(.t 3), (.c (.nils))] }]) (.cond (.t 4)
 (.seq (.reg 2 false [ { d := some 2, op := .mov (.c (.nils)) }]) (.ret)) (.skip)))
 (.seq (.reg 3 false [ { d := some 5, op := .bsl true 2 0 [] [] }, { d := some 6, op := .mov (.t 0) }, { d := some 7, op := .app 2 16 (.t 5) (.t 6) }, { d := some 2, op := .mov (.t 7) }]) (.ret)))
def rr_slices_Clone_api_Item_api_Item : List RRes := [.t 2]
def rc_slices_Clone_api_Dim_api_Dim : RCode :=
  .seq (.reg 0 false [ { d := some 2, op := .mov (.c (.nils)) }]) (.seq
 (.seq (.reg 1 false [ { d := some 3, op := .mov (.t 0) }, { d := some 4, op := .vop (.eqn false) [(.t 3), (.c (.nils))] }]) (.cond (.t 4)
 (.seq (.reg 2 false [ { d := some 2, op := .mov (.c (.nils)) }]) (.ret)) (.skip)))
 (.seq (.reg 3 false [ { d := some 5, op := .bsl true 3 0 [] [] }, { d := some 6, op := .mov (.t 0) }, { d := some 7, op := .app 3 24 (.t 5) (.t 6) }, { d := some 2, op := .mov (.t 7) }]) (.ret)))
def rr_slices_Clone_api_Dim_api_Dim : List RRes := [.t 2]
def rc_sheet_known : RCode :=
  .seq (.reg 0 false [ { d := some 2, op := .box (.t 0) }, { d := some 4, op := .mov (.c (.nilp)) }, { d := some 5, op := .mov (.c (.int .i64 0)) }])
 (.seq (.reg 1 false [ { d := some 9, op := .load true 1 (.t 2) }, { d := some 10, op := .call 67 [.t 9] }, { d := some 8, op := .mov (.t 10) }, { d := some 11, op := .ext 0 (.t 8) }, { d := some 12, op := .ext 1 (.t 8) }, { d := some 6, op := .mov (.t 11) }, { d := some 7, op := .mov (.t 12) }]) (.seq
 (.seq (.reg 2 false [ { d := some 13, op := .mov (.t 7) }, { d := some 14, op := .bin .neq (.t 13) (.c (.int .i64 0)) }]) (.cond (.t 14)
 (.seq (.reg 3 false [ { d := some 15, op := .mov (.t 7) }, { d := some 4, op := .mov (.c (.nilp)) }, { d := some 5, op := .mov (.t 15) }]) (.ret)) (.skip))) (.seq
 (.seq (.reg 4 false [ { d := some 16, op := .mov (.t 6) }, { d := some 17, op := .mov (.t 1) }, { d := some 18, op := .call 104 [.t 16, .t 17] }, { d := some 19, op := .un .not (.t 18) }]) (.cond (.t 19)
 (.seq (.reg 5 false [ { d := some 4, op := .mov (.c (.nilp)) }, { d := some 5, op := .mov (.c (.int .i64 6)) }]) (.ret)) (.skip)))
 (.seq (.reg 6 false [ { d := some 20, op := .mov (.t 6) }, { d := some 4, op := .mov (.t 20) }, { d := some 5, op := .mov (.c (.int .i64 0)) }]) (.ret)))))
def rr_sheet_known : List RRes := [.t 4, .t 5]
theorem pc_sheet_known {G : Nat → Option (List AV)} {args : List AV} {v : AV} (hn : args.length ≤ Tryd.f68.ntmps) (h : ∀ R : Run, R.G = G → R.Top → AR Tryd.prog R rc_sheet_known (initSt args) (Fin rr_sheet_known v)) : PC Tryd.prog G 68 args v :=
  PC_of Tryd.func68 rfl (by kernel_rfl) (rc := rc_sheet_known) (by kernel_rfl) (rs := rr_sheet_known) (by kernel_rfl) hn (fun R _ hG hr => h R hG hr)

def rc_sheet_Check : RCode :=
  .seq (.reg 0 false [ { d := some 1, op := .box (.t 0) }, { d := some 2, op := .mov (.c (.int .i64 0)) }])
 (.seq (.reg 1 false [ { d := some 6, op := .load true 1 (.t 1) }, { d := some 7, op := .call 67 [.t 6] }, { d := some 5, op := .mov (.t 7) }, { d := some 8, op := .ext 0 (.t 5) }, { d := some 9, op := .ext 1 (.t 5) }, { d := some 3, op := .mov (.t 8) }, { d := some 4, op := .mov (.t 9) }])
 (.seq (.reg 2 false [ { d := some 10, op := .mov (.t 4) }, { d := some 2, op := .mov (.t 10) }]) (.ret)))
def rr_sheet_Check : List RRes := [.t 2]
theorem pc_sheet_Check {G : Nat → Option (List AV)} {args : List AV} {v : AV} (hn : args.length ≤ Tryd.f24.ntmps) (h : ∀ R : Run, R.G = G → R.Top → AR Tryd.prog R rc_sheet_Check (initSt args) (Fin rr_sheet_Check v)) : PC Tryd.prog G 24 args v :=
  PC_of Tryd.func24 rfl (by kernel_rfl) (rc := rc_sheet_Check) (by kernel_rfl) (rs := rr_sheet_Check) (by kernel_rfl) hn (fun R _ hG hr => h R hG hr)

def rc_sheet_Drawings : RCode :=
  .seq (.reg 0 false [ { d := some 1, op := .box (.t 0) }, { d := some 2, op := .mov (.c (.nils)) }, { d := some 3, op := .mov (.c (.int .i64 0)) }])
 (.seq (.reg 1 false [ { d := some 7, op := .load true 1 (.t 1) }, { d := some 8, op := .call 67 [.t 7] }, { d := some 6, op := .mov (.t 8) }, { d := some 9, op := .ext 0 (.t 6) }, { d := some 10, op := .ext 1 (.t 6) }, { d := some 4, op := .mov (.t 9) }, { d := some 5, op := .mov (.t 10) }]) (.seq
 (.seq (.reg 2 false [ { d := some 11, op := .mov (.t 5) }, { d := some 12, op := .bin .neq (.t 11) (.c (.int .i64 0)) }]) (.cond (.t 12)
 (.seq (.reg 3 false [ { d := some 13, op := .mov (.t 5) }, { d := some 2, op := .mov (.c (.nils)) }, { d := some 3, op := .mov (.t 13) }]) (.ret)) (.skip)))
 (.seq (.reg 4 false [ { d := some 14, op := .mov (.t 4) }, { d := some 15, op := .nilck (.t 14) }, { d := some 16, op := .faddr 1 (.t 15) }, { d := some 17, op := .load false 1 (.t 16) }, { d := some 2, op := .mov (.t 17) }, { d := some 3, op := .mov (.c (.int .i64 0)) }]) (.ret))))
def rr_sheet_Drawings : List RRes := [.t 2, .t 3]
theorem pc_sheet_Drawings {G : Nat → Option (List AV)} {args : List AV} {v : AV} (hn : args.length ≤ Tryd.f20.ntmps) (h : ∀ R : Run, R.G = G → R.Top → AR Tryd.prog R rc_sheet_Drawings (initSt args) (Fin rr_sheet_Drawings v)) : PC Tryd.prog G 20 args v :=
  PC_of Tryd.func20 rfl (by kernel_rfl) (rc := rc_sheet_Drawings) (by kernel_rfl) (rs := rr_sheet_Drawings) (by kernel_rfl) hn (fun R _ hG hr => h R hG hr)

def rc_sheet_Last : RCode :=
  .seq (.reg 0 false [ { d := some 2, op := .box (.t 0) }, { d := some 4, op := .mov (.c (.int .i64 0)) }, { d := some 5, op := .mov (.c (.int .i64 0)) }])
 (.seq (.reg 1 false [ { d := some 9, op := .load true 1 (.t 2) }, { d := some 10, op := .mov (.t 1) }, { d := some 11, op := .call 68 [.t 9, .t 10] }, { d := some 8, op := .mov (.t 11) }, { d := some 12, op := .ext 0 (.t 8) }, { d := some 13, op := .ext 1 (.t 8) }, { d := some 6, op := .mov (.t 12) }, { d := some 7, op := .mov (.t 13) }]) (.seq
 (.seq (.reg 2 false [ { d := some 14, op := .mov (.t 7) }, { d := some 15, op := .bin .neq (.t 14) (.c (.int .i64 0)) }]) (.cond (.t 15)
 (.seq (.reg 3 false [ { d := some 16, op := .mov (.t 7) }, { d := some 4, op := .mov (.c (.int .i64 0)) }, { d := some 5, op := .mov (.t 16) }]) (.ret)) (.skip)))
 (.seq (.reg 4 false [ { d := some 17, op := .mov (.t 6) }, { d := some 18, op := .mov (.t 1) }, { d := some 19, op := .call 69 [.t 17, .t 18] }, { d := some 4, op := .mov (.t 19) }, { d := some 5, op := .mov (.c (.int .i64 0)) }]) (.ret))))
def rr_sheet_Last : List RRes := [.t 4, .t 5]
theorem pc_sheet_Last {G : Nat → Option (List AV)} {args : List AV} {v : AV} (hn : args.length ≤ Tryd.f22.ntmps) (h : ∀ R : Run, R.G = G → R.Top → AR Tryd.prog R rc_sheet_Last (initSt args) (Fin rr_sheet_Last v)) : PC Tryd.prog G 22 args v :=
  PC_of Tryd.func22 rfl (by kernel_rfl) (rc := rc_sheet_Last) (by kernel_rfl) (rs := rr_sheet_Last) (by kernel_rfl) hn (fun R _ hG hr => h R hG hr)

def rc_sheet_At : RCode :=
  .seq (.reg 0 false [ { d := some 2, op := .box (.t 0) }, { d := some 3, op := .box (.t 1) }, { d := some 4, op := .alloc [.int .i64 0, .int .i64 0, .int .u8 0, .nils, .nils] }, { d := some 5, op := .mov (.c (.int .i64 0)) }])
 (.seq (.reg 1 false [ { d := some 11, op := .load true 1 (.t 2) }, { d := some 12, op := .call 67 [.t 11] }, { d := some 10, op := .mov (.t 12) }, { d := some 13, op := .ext 0 (.t 10) }, { d := some 14, op := .ext 1 (.t 10) }, { d := some 6, op := .mov (.t 13) }, { d := some 7, op := .mov (.t 14) }]) (.seq
 (.seq (.reg 2 false [ { d := some 15, op := .mov (.t 7) }, { d := some 16, op := .bin .neq (.t 15) (.c (.int .i64 0)) }]) (.cond (.t 16)
 (.seq (.reg 3 false [ { d := some 17, op := .build [.int .i64 0, .int .i64 0, .int .u8 0, .nils, .nils] [] }, { d := some 18, op := .mov (.t 7) }, { d := none, op := .store 5 (.t 4) (.t 17) }, { d := some 5, op := .mov (.t 18) }]) (.ret)) (.skip)))
 (.seq (.reg 4 false [ { d := some 20, op := .mov (.t 6) }, { d := some 21, op := .load true 2 (.t 3) }, { d := some 22, op := .call 72 [.t 20, .t 21] }, { d := some 19, op := .mov (.t 22) }, { d := some 23, op := .ext 0 (.t 19) }, { d := some 24, op := .ext 1 (.t 19) }, { d := some 8, op := .alloc [.int .i64 0, .int .i64 0, .int .u8 0, .nils, .nils] }, { d := none, op := .store 5 (.t 8) (.t 23) }, { d := some 9, op := .mov (.t 24) }]) (.seq
 (.seq (.reg 5 false [ { d := some 25, op := .mov (.t 9) }, { d := some 26, op := .un .not (.t 25) }]) (.cond (.t 26)
 (.seq (.reg 6 false [ { d := some 27, op := .build [.int .i64 0, .int .i64 0, .int .u8 0, .nils, .nils] [] }, { d := none, op := .store 5 (.t 4) (.t 27) }, { d := some 5, op := .mov (.c (.int .i64 6)) }]) (.ret)) (.skip)))
 (.seq (.reg 7 false [ { d := some 28, op := .load true 5 (.t 8) }, { d := some 29, op := .call 73 [.t 28] }, { d := none, op := .store 5 (.t 4) (.t 29) }, { d := some 5, op := .mov (.c (.int .i64 0)) }]) (.ret))))))
def rr_sheet_At : List RRes := [.c 4 true 5, .t 5]
theorem pc_sheet_At {G : Nat → Option (List AV)} {args : List AV} {v : AV} (hn : args.length ≤ Tryd.f27.ntmps) (h : ∀ R : Run, R.G = G → R.Top → AR Tryd.prog R rc_sheet_At (initSt args) (Fin rr_sheet_At v)) : PC Tryd.prog G 27 args v :=
  PC_of Tryd.func27 rfl (by kernel_rfl) (rc := rc_sheet_At) (by kernel_rfl) (rs := rr_sheet_At) (by kernel_rfl) hn (fun R _ hG hr => h R hG hr)

def rc_sheet_Depth : RCode :=
  .seq (.reg 0 false [ { d := some 2, op := .box (.t 0) }, { d := some 4, op := .mov (.c (.int .i64 0)) }, { d := some 5, op := .mov (.c (.int .i64 0)) }])
 (.seq (.reg 1 false [ { d := some 11, op := .load true 1 (.t 2) }, { d := some 12, op := .mov (.t 1) }, { d := some 13, op := .call 68 [.t 11, .t 12] }, { d := some 10, op := .mov (.t 13) }, { d := some 14, op := .ext 0 (.t 10) }, { d := some 15, op := .ext 1 (.t 10) }, { d := some 6, op := .mov (.t 14) }, { d := some 7, op := .mov (.t 15) }]) (.seq
 (.seq (.reg 2 false [ { d := some 16, op := .mov (.t 7) }, { d := some 17, op := .bin .neq (.t 16) (.c (.int .i64 0)) }]) (.cond (.t 17)
 (.seq (.reg 3 false [ { d := some 18, op := .mov (.t 7) }, { d := some 4, op := .mov (.c (.int .i64 0)) }, { d := some 5, op := .mov (.t 18) }]) (.ret)) (.skip)))
 (.seq (.reg 4 false [ { d := some 20, op := .mov (.t 6) }, { d := some 21, op := .call 75 [.t 20] }, { d := some 19, op := .mov (.t 21) }, { d := some 22, op := .ext 0 (.t 19) }, { d := some 23, op := .ext 1 (.t 19) }, { d := some 8, op := .mov (.t 22) }, { d := some 9, op := .mov (.t 23) }])
 (.seq (.reg 5 false [ { d := some 24, op := .mov (.t 8) }, { d := some 25, op := .mov (.t 1) }, { d := some 26, op := .look (.i .i64) (.int .i64 0) false (.t 24) (.t 25) }, { d := some 4, op := .mov (.t 26) }, { d := some 5, op := .mov (.c (.int .i64 0)) }]) (.ret)))))
def rr_sheet_Depth : List RRes := [.t 4, .t 5]
theorem pc_sheet_Depth {G : Nat → Option (List AV)} {args : List AV} {v : AV} (hn : args.length ≤ Tryd.f29.ntmps) (h : ∀ R : Run, R.G = G → R.Top → AR Tryd.prog R rc_sheet_Depth (initSt args) (Fin rr_sheet_Depth v)) : PC Tryd.prog G 29 args v :=
  PC_of Tryd.func29 rfl (by kernel_rfl) (rc := rc_sheet_Depth) (by kernel_rfl) (rs := rr_sheet_Depth) (by kernel_rfl) hn (fun R _ hG hr => h R hG hr)

end Go.Proofs.YtdpmioiamcgfkaaDoor

/-! The abstract machine's code of functions of the program, as a program of ours printed it; that it is theirs is proved beside each. -/
namespace Go.Proofs.YtdpmioiamcgfkaaDoor
open Go.RowKit

def rc_ref01_within : RCode :=
  .seq (.reg 0 false [ { d := some 6, op := .mov (.c (.bool false)) }])
 (.seq (.reg 1 false [ { d := some 7, op := .mov (.t 0) }, { d := some 8, op := .mov (.t 1) }, { d := some 9, op := .bin .geq (.t 7) (.t 8) }, { d := some 10, op := .mov (.t 9) }, { d := some 11, op := .mov (.t 0), guard := some (10, true) }, { d := some 12, op := .mov (.t 2), guard := some (10, true) }, { d := some 13, op := .bin .leq (.t 11) (.t 12), guard := some (10, true) }, { d := some 14, op := .pick (.t 10) (.t 13) (.c (.bool false)) }, { d := some 6, op := .mov (.t 14) }]) (.ret))
def rr_ref01_within : List RRes := [.t 6]
theorem pc_ref01_within {G : Nat → Option (List AV)} {args : List AV} {v : AV} (hn : args.length ≤ Tryd.f136.ntmps) (h : ∀ R : Run, R.G = G → R.Top → AR Tryd.prog R rc_ref01_within (initSt args) (Fin rr_ref01_within v)) : PC Tryd.prog G 136 args v :=
  PC_of Tryd.func136 rfl (by kernel_rfl) (rc := rc_ref01_within) (by kernel_rfl) (rs := rr_ref01_within) (by kernel_rfl) hn (fun R _ hG hr => h R hG hr)

def rc_ref01_Dim : RCode :=
  .seq (.reg 0 false [ { d := some 1, op := .box (.t 0) }, { d := some 2, op := .mov (.c (.bool false)) }])
 (.seq (.reg 1 false [ { d := some 3, op := .faddr 0 (.t 1) }, { d := some 4, op := .load false 1 (.t 3) }, { d := some 5, op := .call 136 [.t 4, .c (.int .i64 0), .c (.int .i64 1000000000)] }, { d := some 6, op := .mov (.t 5) }, { d := some 7, op := .faddr 2 (.t 1), guard := some (6, true) }, { d := some 8, op := .load false 1 (.t 7), guard := some (6, true) }, { d := some 9, op := .call 136 [.t 8, .c (.int .i64 0), .c (.int .i64 1000000000)], guard := some (6, true) }, { d := some 10, op := .pick (.t 6) (.t 9) (.c (.bool false)) }, { d := some 11, op := .mov (.t 10) }, { d := some 12, op := .faddr 1 (.t 1), guard := some (11, true) }, { d := some 13, op := .load false 1 (.t 12), guard := some (11, true) }, { d := some 14, op := .faddr 2 (.t 1), guard := some (11, true) }, { d := some 15, op := .load false 1 (.t 14), guard := some (11, true) }, { d := some 16, op := .call 136 [.t 13, .c (.int .i64 0), .t 15], guard := some (11, true) }, { d := some 17, op := .pick (.t 11) (.t 16) (.c (.bool false)) }, { d := some 2, op := .mov (.t 17) }]) (.ret))
def rr_ref01_Dim : List RRes := [.t 2]
theorem pc_ref01_Dim {G : Nat → Option (List AV)} {args : List AV} {v : AV} (hn : args.length ≤ Tryd.f126.ntmps) (h : ∀ R : Run, R.G = G → R.Top → AR Tryd.prog R rc_ref01_Dim (initSt args) (Fin rr_ref01_Dim v)) : PC Tryd.prog G 126 args v :=
  PC_of Tryd.func126 rfl (by kernel_rfl) (rc := rc_ref01_Dim) (by kernel_rfl) (rs := rr_ref01_Dim) (by kernel_rfl) hn (fun R _ hG hr => h R hG hr)

def rc_ref02_within : RCode :=
  .seq (.reg 0 false [ { d := some 6, op := .mov (.c (.bool false)) }])
 (.seq (.reg 1 false [ { d := some 7, op := .mov (.t 0) }, { d := some 8, op := .mov (.t 1) }, { d := some 9, op := .bin .geq (.t 7) (.t 8) }, { d := some 10, op := .mov (.t 9) }, { d := some 11, op := .mov (.t 0), guard := some (10, true) }, { d := some 12, op := .mov (.t 2), guard := some (10, true) }, { d := some 13, op := .bin .leq (.t 11) (.t 12), guard := some (10, true) }, { d := some 14, op := .pick (.t 10) (.t 13) (.c (.bool false)) }, { d := some 6, op := .mov (.t 14) }]) (.ret))
def rr_ref02_within : List RRes := [.t 6]
theorem pc_ref02_within {G : Nat → Option (List AV)} {args : List AV} {v : AV} (hn : args.length ≤ Tryd.f106.ntmps) (h : ∀ R : Run, R.G = G → R.Top → AR Tryd.prog R rc_ref02_within (initSt args) (Fin rr_ref02_within v)) : PC Tryd.prog G 106 args v :=
  PC_of Tryd.func106 rfl (by kernel_rfl) (rc := rc_ref02_within) (by kernel_rfl) (rs := rr_ref02_within) (by kernel_rfl) hn (fun R _ hG hr => h R hG hr)

def rc_ref02_Issue : RCode :=
  .seq (.reg 0 false [ { d := some 1, op := .box (.t 0) }, { d := some 2, op := .mov (.c (.bool false)) }]) (.seq
 (.seq (.reg 1 false [ { d := some 6, op := .faddr 0 (.t 1) }, { d := some 7, op := .load false 1 (.t 6) }, { d := some 8, op := .call 106 [.t 7, .c (.int .i64 1), .c (.int .i64 9999)] }, { d := some 9, op := .un .not (.t 8) }, { d := some 10, op := .mov (.t 9) }, { d := some 11, op := .faddr 1 (.t 1), guard := some (10, false) }, { d := some 12, op := .load false 1 (.t 11), guard := some (10, false) }, { d := some 13, op := .call 106 [.t 12, .c (.int .i64 1), .c (.int .i64 8)], guard := some (10, false) }, { d := some 14, op := .un .not (.t 13), guard := some (10, false) }, { d := some 15, op := .pick (.t 10) (.c (.bool true)) (.t 14) }, { d := some 16, op := .mov (.t 15) }, { d := some 17, op := .faddr 2 (.t 1), guard := some (16, false) }, { d := some 18, op := .load false 1 (.t 17), guard := some (16, false) }, { d := some 19, op := .conv .i64 (.t 18), guard := some (16, false) }, { d := some 20, op := .call 106 [.t 19, .c (.int .i64 1), .c (.int .i64 3)], guard := some (16, false) }, { d := some 21, op := .un .not (.t 20), guard := some (16, false) }, { d := some 22, op := .pick (.t 16) (.c (.bool true)) (.t 21) }, { d := some 23, op := .mov (.t 22) }, { d := some 24, op := .faddr 2 (.t 1), guard := some (23, false) }, { d := some 25, op := .load false 1 (.t 24), guard := some (23, false) }, { d := some 26, op := .bin .eql (.t 25) (.c (.int .u8 1)), guard := some (23, false) }, { d := some 27, op := .mov (.t 26), guard := some (23, false) }, { d := some 28, op := .faddr 3 (.t 1), guard := some (27, true) }, { d := some 29, op := .load false 1 (.t 28), guard := some (27, true) }, { d := some 30, op := .len (.t 29), guard := some (27, true) }, { d := some 31, op := .call 106 [.t 30, .c (.int .i64 1), .c (.int .i64 8)], guard := some (27, true) }, { d := some 32, op := .un .not (.t 31), guard := some (27, true) }, { d := some 33, op := .mov (.t 32), guard := some (27, true) }, { d := some 34, op := .faddr 4 (.t 1), guard := some (33, false) }, { d := some 35, op := .load false 1 (.t 34), guard := some (33, false) }, { d := some 36, op := .len (.t 35), guard := some (33, false) }, { d := some 37, op := .bin .gtr (.t 36) (.c (.int .i64 0)), guard := some (33, false) }, { d := some 38, op := .pick (.t 33) (.c (.bool true)) (.t 37), guard := some (27, true) }, { d := some 39, op := .pick (.t 27) (.t 38) (.c (.bool false)), guard := some (23, false) }, { d := some 40, op := .pick (.t 23) (.c (.bool true)) (.t 39) }, { d := some 41, op := .mov (.t 40) }, { d := some 42, op := .faddr 2 (.t 1), guard := some (41, false) }, { d := some 43, op := .load false 1 (.t 42), guard := some (41, false) }, { d := some 44, op := .bin .gtr (.t 43) (.c (.int .u8 1)), guard := some (41, false) }, { d := some 45, op := .mov (.t 44), guard := some (41, false) }, { d := some 46, op := .faddr 4 (.t 1), guard := some (45, true) }, { d := some 47, op := .load false 1 (.t 46), guard := some (45, true) }, { d := some 48, op := .len (.t 47), guard := some (45, true) }, { d := some 49, op := .bin .gtr (.t 48) (.c (.int .i64 4)), guard := some (45, true) }, { d := some 50, op := .mov (.t 49), guard := some (45, true) }, { d := some 51, op := .faddr 3 (.t 1), guard := some (50, false) }, { d := some 52, op := .load false 1 (.t 51), guard := some (50, false) }, { d := some 53, op := .len (.t 52), guard := some (50, false) }, { d := some 54, op := .bin .gtr (.t 53) (.c (.int .i64 0)), guard := some (50, false) }, { d := some 55, op := .pick (.t 50) (.c (.bool true)) (.t 54), guard := some (45, true) }, { d := some 56, op := .pick (.t 45) (.t 55) (.c (.bool false)), guard := some (41, false) }, { d := some 57, op := .pick (.t 41) (.c (.bool true)) (.t 56) }]) (.cond (.t 57)
 (.seq (.reg 2 false [ { d := some 2, op := .mov (.c (.bool false)) }]) (.ret)) (.skip))) (.seq
 (.seq (.reg 3 false [ { d := some 3, op := .mov (.c (.int .i64 0)) }]) (.block 0 (.loop (.seq
 (.seq (.reg 4 false [ { d := some 58, op := .mov (.t 3) }, { d := some 59, op := .faddr 3 (.t 1) }, { d := some 60, op := .load false 1 (.t 59) }, { d := some 61, op := .len (.t 60) }, { d := some 62, op := .bin .lss (.t 58) (.t 61) }]) (.cond (.t 62) (.skip) (.exit 0))) (.seq (.block 1
 (.seq (.reg 6 false [ { d := some 65, op := .faddr 3 (.t 1) }, { d := some 66, op := .load false 1 (.t 65) }, { d := some 67, op := .mov (.t 3) }, { d := some 68, op := .iaddr 2 (.t 66) (.t 67) }, { d := some 69, op := .load true 2 (.t 68) }, { d := some 4, op := .alloc [.int .i64 0, .int .i64 0] }, { d := none, op := .store 2 (.t 4) (.t 69) }])
 (.seq (.reg 7 true [ { d := some 70, op := .faddr 0 (.t 4), aft := [] }, { d := some 71, op := .load false 1 (.t 70), aft := [0] }, { d := some 72, op := .call 106 [.t 71, .c (.int .i64 1), .c (.int .i64 9999)], aft := [1] }, { d := some 73, op := .un .not (.t 72), aft := [2] }, { d := some 74, op := .mov (.t 73), aft := [3, 2] }, { d := some 75, op := .faddr 1 (.t 4), guard := some (74, false), aft := [4] }, { d := some 76, op := .load false 1 (.t 75), guard := some (74, false), aft := [5, 4] }, { d := some 77, op := .call 106 [.t 76, .c (.int .i64 1), .c (.int .i64 20)], guard := some (74, false), aft := [6, 4, 4] }, { d := some 78, op := .un .not (.t 77), guard := some (74, false), aft := [7, 4] }, { d := some 79, op := .pick (.t 74) (.c (.bool true)) (.t 78), aft := [4, 8] }, { d := some 80, op := .mov (.t 79), aft := [9, 7] }, { d := some 81, op := .faddr 0 (.t 4), guard := some (80, false), aft := [10] }, { d := some 82, op := .load false 1 (.t 81), guard := some (80, false), aft := [11, 10] }, { d := some 83, op := .faddr 0 (.t 1), guard := some (80, false), aft := [10] }, { d := some 84, op := .load false 1 (.t 83), guard := some (80, false), aft := [13, 10] }, { d := some 85, op := .bin .eql (.t 82) (.t 84), guard := some (80, false), aft := [12, 14, 10] }, { d := some 86, op := .pick (.t 80) (.c (.bool true)) (.t 85), aft := [10, 15] }, { d := some 87, op := .mov (.t 86), aft := [16, 10] }, { d := some 88, op := .mov (.t 3), guard := some (87, false), aft := [17] }, { d := some 89, op := .bin .gtr (.t 88) (.c (.int .i64 0)), guard := some (87, false), aft := [18, 17] }, { d := some 90, op := .mov (.t 89), guard := some (87, false), aft := [19, 17, 17] }, { d := some 91, op := .faddr 3 (.t 1), guard := some (90, true), aft := [20] }, { d := some 92, op := .load false 1 (.t 91), guard := some (90, true), aft := [21, 20] }, { d := some 93, op := .mov (.t 3), guard := some (90, true), aft := [20] }, { d := some 94, op := .bin .sub (.t 93) (.c (.int .i64 1)), guard := some (90, true), aft := [23, 20] }, { d := some 95, op := .iaddr 2 (.t 92) (.t 94), guard := some (90, true), aft := [22, 24, 20] }, { d := some 96, op := .faddr 0 (.t 95), guard := some (90, true), aft := [25, 20] }, { d := some 97, op := .load false 1 (.t 96), guard := some (90, true), aft := [26, 20] }, { d := some 98, op := .faddr 0 (.t 4), guard := some (90, true), aft := [20] }, { d := some 99, op := .load false 1 (.t 98), guard := some (90, true), aft := [28, 20] }, { d := some 100, op := .bin .geq (.t 97) (.t 99), guard := some (90, true), aft := [27, 29, 20] }, { d := some 101, op := .pick (.t 90) (.t 100) (.c (.bool false)), guard := some (87, false), aft := [20, 30, 17] }, { d := some 102, op := .pick (.t 87) (.c (.bool true)) (.t 101), aft := [17, 31] }]) (.cond (.t 102)
 (.seq (.reg 8 false [ { d := some 2, op := .mov (.c (.bool false)) }]) (.ret)) (.skip))))) (.reg 5 false [ { d := some 63, op := .mov (.t 3) }, { d := some 64, op := .bin .add (.t 63) (.c (.int .i64 1)) }, { d := some 3, op := .mov (.t 64) }])))))) (.seq
 (.seq (.reg 9 false [ { d := some 5, op := .mov (.c (.int .i64 0)) }]) (.block 2 (.loop (.seq
 (.seq (.reg 10 false [ { d := some 103, op := .mov (.t 5) }, { d := some 104, op := .faddr 4 (.t 1) }, { d := some 105, op := .load false 1 (.t 104) }, { d := some 106, op := .len (.t 105) }, { d := some 107, op := .bin .lss (.t 103) (.t 106) }]) (.cond (.t 107) (.skip) (.exit 2))) (.seq (.block 3
 (.seq (.reg 12 false [ { d := some 110, op := .faddr 4 (.t 1) }, { d := some 111, op := .load false 1 (.t 110) }, { d := some 112, op := .mov (.t 5) }, { d := some 113, op := .iaddr 3 (.t 111) (.t 112) }, { d := some 114, op := .load true 3 (.t 113) }, { d := some 115, op := .call 126 [.t 114] }, { d := some 116, op := .un .not (.t 115) }]) (.cond (.t 116)
 (.seq (.reg 13 false [ { d := some 2, op := .mov (.c (.bool false)) }]) (.ret)) (.skip)))) (.reg 11 false [ { d := some 108, op := .mov (.t 5) }, { d := some 109, op := .bin .add (.t 108) (.c (.int .i64 1)) }, { d := some 5, op := .mov (.t 109) }]))))))
 (.seq (.reg 14 false [ { d := some 2, op := .mov (.c (.bool true)) }]) (.ret)))))
def rr_ref02_Issue : List RRes := [.t 2]
theorem pc_ref02_Issue {G : Nat → Option (List AV)} {args : List AV} {v : AV} (hn : args.length ≤ Tryd.f107.ntmps) (h : ∀ R : Run, R.G = G → R.Top → AR Tryd.prog R rc_ref02_Issue (initSt args) (Fin rr_ref02_Issue v)) : PC Tryd.prog G 107 args v :=
  PC_of Tryd.func107 rfl (by kernel_rfl) (rc := rc_ref02_Issue) (by kernel_rfl) (rs := rr_ref02_Issue) (by kernel_rfl) hn (fun R _ hG hr => h R hG hr)

def rc_ref02_Numbers : RCode :=
  .seq (.reg 0 false [ { d := some 1, op := .box (.t 0) }, { d := some 2, op := .mov (.c (.nils)) }])
 (.seq (.reg 1 false [ { d := some 3, op := .mov (.c (.nils)) }]) (.seq
 (.seq (.reg 2 false [ { d := some 4, op := .mov (.c (.int .i64 0)) }]) (.block 0 (.loop (.seq
 (.seq (.reg 3 false [ { d := some 6, op := .mov (.t 4) }, { d := some 7, op := .faddr 0 (.t 1) }, { d := some 8, op := .load false 1 (.t 7) }, { d := some 9, op := .len (.t 8) }, { d := some 10, op := .bin .lss (.t 6) (.t 9) }]) (.cond (.t 10) (.skip) (.exit 0))) (.seq (.block 1
 (.seq (.reg 5 false [ { d := some 13, op := .faddr 0 (.t 1) }, { d := some 14, op := .load false 1 (.t 13) }, { d := some 15, op := .mov (.t 4) }, { d := some 16, op := .iaddr 5 (.t 14) (.t 15) }, { d := some 17, op := .faddr 0 (.t 16) }, { d := some 18, op := .load false 1 (.t 17) }, { d := some 5, op := .mov (.t 18) }])
 (.seq (.reg 6 false [ { d := some 19, op := .mov (.t 4) }, { d := some 20, op := .bin .eql (.t 19) (.c (.int .i64 0)) }, { d := some 21, op := .mov (.t 20) }, { d := some 22, op := .faddr 0 (.t 1), guard := some (21, false) }, { d := some 23, op := .load false 1 (.t 22), guard := some (21, false) }, { d := some 24, op := .mov (.t 4), guard := some (21, false) }, { d := some 25, op := .bin .sub (.t 24) (.c (.int .i64 1)), guard := some (21, false) }, { d := some 26, op := .iaddr 5 (.t 23) (.t 25), guard := some (21, false) }, { d := some 27, op := .faddr 0 (.t 26), guard := some (21, false) }, { d := some 28, op := .load false 1 (.t 27), guard := some (21, false) }, { d := some 29, op := .mov (.t 5), guard := some (21, false) }, { d := some 30, op := .bin .neq (.t 28) (.t 29), guard := some (21, false) }, { d := some 31, op := .pick (.t 21) (.c (.bool true)) (.t 30) }]) (.cond (.t 31) (.reg 7 false [ { d := some 32, op := .mov (.t 3) }, { d := some 33, op := .mov (.t 5) }, { d := some 34, op := .bsl false 1 1 [.int .i64 0] [(0, .t 33)] }, { d := some 35, op := .app 1 8 (.t 32) (.t 34) }, { d := some 3, op := .mov (.t 35) }]) (.skip))))) (.reg 4 false [ { d := some 11, op := .mov (.t 4) }, { d := some 12, op := .bin .add (.t 11) (.c (.int .i64 1)) }, { d := some 4, op := .mov (.t 12) }]))))))
 (.seq (.reg 8 false [ { d := some 36, op := .mov (.t 3) }, { d := some 2, op := .mov (.t 36) }]) (.ret))))
def rr_ref02_Numbers : List RRes := [.t 2]
theorem pc_ref02_Numbers {G : Nat → Option (List AV)} {args : List AV} {v : AV} (hn : args.length ≤ Tryd.f55.ntmps) (h : ∀ R : Run, R.G = G → R.Top → AR Tryd.prog R rc_ref02_Numbers (initSt args) (Fin rr_ref02_Numbers v)) : PC Tryd.prog G 55 args v :=
  PC_of Tryd.func55 rfl (by kernel_rfl) (rc := rc_ref02_Numbers) (by kernel_rfl) (rs := rr_ref02_Numbers) (by kernel_rfl) hn (fun R _ hG hr => h R hG hr)

def rc_ref02_Index : RCode :=
  .seq (.reg 0 false [ { d := some 4, op := .mov (.c (.int .i64 0)) }]) (.seq
 (.seq (.reg 1 false [ { d := some 5, op := .mov (.c (.int .i64 0)) }]) (.block 0 (.loop (.seq
 (.seq (.reg 2 false [ { d := some 6, op := .mov (.t 5) }, { d := some 7, op := .mov (.t 0) }, { d := some 8, op := .len (.t 7) }, { d := some 9, op := .bin .lss (.t 6) (.t 8) }]) (.cond (.t 9) (.skip) (.exit 0))) (.seq (.block 1
 (.seq (.reg 4 false [ { d := some 12, op := .mov (.t 0) }, { d := some 13, op := .mov (.t 5) }, { d := some 14, op := .iaddr 1 (.t 12) (.t 13) }, { d := some 15, op := .load false 1 (.t 14) }, { d := some 16, op := .mov (.t 1) }, { d := some 17, op := .bin .eql (.t 15) (.t 16) }]) (.cond (.t 17)
 (.seq (.reg 5 false [ { d := some 18, op := .mov (.t 5) }, { d := some 4, op := .mov (.t 18) }]) (.ret)) (.skip)))) (.reg 3 false [ { d := some 10, op := .mov (.t 5) }, { d := some 11, op := .bin .add (.t 10) (.c (.int .i64 1)) }, { d := some 5, op := .mov (.t 11) }]))))))
 (.seq (.reg 6 false [ { d := some 4, op := .mov (.c (.int .i64 (-1))) }]) (.ret)))
def rr_ref02_Index : List RRes := [.t 4]
theorem pc_ref02_Index {G : Nat → Option (List AV)} {args : List AV} {v : AV} (hn : args.length ≤ Tryd.f56.ntmps) (h : ∀ R : Run, R.G = G → R.Top → AR Tryd.prog R rc_ref02_Index (initSt args) (Fin rr_ref02_Index v)) : PC Tryd.prog G 56 args v :=
  PC_of Tryd.func56 rfl (by kernel_rfl) (rc := rc_ref02_Index) (by kernel_rfl) (rs := rr_ref02_Index) (by kernel_rfl) hn (fun R _ hG hr => h R hG hr)

def rc_ref02_listed : RCode :=
  .seq (.reg 0 false [ { d := some 1, op := .box (.t 0) }, { d := some 2, op := .mov (.c (.bool false)) }]) (.seq
 (.seq (.reg 1 false [ { d := some 9, op := .faddr 0 (.t 1) }, { d := some 10, op := .load false 1 (.t 9) }, { d := some 11, op := .len (.t 10) }, { d := some 12, op := .call 106 [.t 11, .c (.int .i64 1), .c (.int .i64 60)] }, { d := some 13, op := .un .not (.t 12) }]) (.cond (.t 13)
 (.seq (.reg 2 false [ { d := some 2, op := .mov (.c (.bool false)) }]) (.ret)) (.skip))) (.seq
 (.seq (.reg 3 false [ { d := some 3, op := .mov (.c (.int .i64 0)) }]) (.block 0 (.loop (.seq
 (.seq (.reg 4 false [ { d := some 14, op := .mov (.t 3) }, { d := some 15, op := .faddr 0 (.t 1) }, { d := some 16, op := .load false 1 (.t 15) }, { d := some 17, op := .len (.t 16) }, { d := some 18, op := .bin .lss (.t 14) (.t 17) }]) (.cond (.t 18) (.skip) (.exit 0))) (.seq (.block 1
 (.seq (.reg 6 false [ { d := some 21, op := .faddr 0 (.t 1) }, { d := some 22, op := .load false 1 (.t 21) }, { d := some 23, op := .mov (.t 3) }, { d := some 24, op := .iaddr 5 (.t 22) (.t 23) }, { d := some 25, op := .load true 5 (.t 24) }, { d := some 4, op := .alloc [.int .i64 0, .int .i64 0, .int .u8 0, .nils, .nils] }, { d := none, op := .store 5 (.t 4) (.t 25) }]) (.seq
 (.seq (.reg 7 false [ { d := some 26, op := .load true 5 (.t 4) }, { d := some 27, op := .call 107 [.t 26] }, { d := some 28, op := .un .not (.t 27) }]) (.cond (.t 28)
 (.seq (.reg 8 false [ { d := some 2, op := .mov (.c (.bool false)) }]) (.ret)) (.skip)))
 (.seq (.reg 9 false [ { d := some 29, op := .build [.int .i64 0, .int .i64 0, .int .u8 0, .nils, .nils] [] }, { d := some 5, op := .alloc [.int .i64 0, .int .i64 0, .int .u8 0, .nils, .nils] }, { d := none, op := .store 5 (.t 5) (.t 29) }]) (.seq
 (.seq (.reg 10 false [ { d := some 30, op := .mov (.t 3) }, { d := some 31, op := .bin .gtr (.t 30) (.c (.int .i64 0)) }]) (.cond (.t 31) (.reg 11 false [ { d := some 32, op := .faddr 0 (.t 1) }, { d := some 33, op := .load false 1 (.t 32) }, { d := some 34, op := .mov (.t 3) }, { d := some 35, op := .bin .sub (.t 34) (.c (.int .i64 1)) }, { d := some 36, op := .iaddr 5 (.t 33) (.t 35) }, { d := some 37, op := .load true 5 (.t 36) }, { d := none, op := .store 5 (.t 5) (.t 37) }]) (.skip))) (.block 2
 (.seq (.reg 12 false [ { d := some 39, op := .faddr 0 (.t 4) }, { d := some 40, op := .load false 1 (.t 39) }, { d := some 41, op := .faddr 0 (.t 5) }, { d := some 42, op := .load false 1 (.t 41) }, { d := some 43, op := .bin .lss (.t 40) (.t 42) }, { d := some 38, op := .mov (.t 43) }]) (.cond (.t 38)
 (.seq (.reg 13 false [ { d := some 2, op := .mov (.c (.bool false)) }]) (.ret))
 (.seq (.reg 14 false [ { d := some 45, op := .faddr 0 (.t 4) }, { d := some 46, op := .load false 1 (.t 45) }, { d := some 47, op := .faddr 0 (.t 5) }, { d := some 48, op := .load false 1 (.t 47) }, { d := some 49, op := .bin .gtr (.t 46) (.t 48) }, { d := some 44, op := .mov (.t 49) }]) (.cond (.t 44)
 (.seq (.reg 15 false [ { d := some 50, op := .faddr 1 (.t 4) }, { d := some 51, op := .load false 1 (.t 50) }, { d := some 52, op := .bin .neq (.t 51) (.c (.int .i64 1)) }]) (.cond (.t 52)
 (.seq (.reg 16 false [ { d := some 2, op := .mov (.c (.bool false)) }]) (.ret)) (.skip)))
 (.seq (.reg 17 false [ { d := some 54, op := .faddr 1 (.t 4) }, { d := some 55, op := .load false 1 (.t 54) }, { d := some 56, op := .faddr 1 (.t 5) }, { d := some 57, op := .load false 1 (.t 56) }, { d := some 58, op := .bin .add (.t 57) (.c (.int .i64 1)) }, { d := some 59, op := .bin .neq (.t 55) (.t 58) }, { d := some 60, op := .mov (.t 59) }, { d := some 61, op := .faddr 2 (.t 4), guard := some (60, false) }, { d := some 62, op := .load false 1 (.t 61), guard := some (60, false) }, { d := some 63, op := .faddr 2 (.t 5), guard := some (60, false) }, { d := some 64, op := .load false 1 (.t 63), guard := some (60, false) }, { d := some 65, op := .bin .neq (.t 62) (.t 64), guard := some (60, false) }, { d := some 66, op := .pick (.t 60) (.c (.bool true)) (.t 65) }, { d := some 53, op := .mov (.t 66) }]) (.cond (.t 53)
 (.seq (.reg 18 false [ { d := some 2, op := .mov (.c (.bool false)) }]) (.ret)) (.skip))))))))))))) (.reg 5 false [ { d := some 19, op := .mov (.t 3) }, { d := some 20, op := .bin .add (.t 19) (.c (.int .i64 1)) }, { d := some 3, op := .mov (.t 20) }]))))))
 (.seq (.reg 19 false [ { d := some 67, op := .load true 1 (.t 1) }, { d := some 68, op := .call 55 [.t 67] }, { d := some 6, op := .mov (.t 68) }]) (.seq
 (.seq (.reg 20 false [ { d := some 7, op := .mov (.c (.int .i64 0)) }]) (.block 3 (.loop (.seq
 (.seq (.reg 21 false [ { d := some 69, op := .mov (.t 7) }, { d := some 70, op := .faddr 0 (.t 1) }, { d := some 71, op := .load false 1 (.t 70) }, { d := some 72, op := .len (.t 71) }, { d := some 73, op := .bin .lss (.t 69) (.t 72) }]) (.cond (.t 73) (.skip) (.exit 3))) (.seq (.block 4
 (.seq (.reg 23 false [ { d := some 8, op := .mov (.c (.int .i64 0)) }]) (.block 5 (.loop (.seq
 (.seq (.reg 24 false [ { d := some 76, op := .mov (.t 8) }, { d := some 77, op := .faddr 0 (.t 1) }, { d := some 78, op := .load false 1 (.t 77) }, { d := some 79, op := .mov (.t 7) }, { d := some 80, op := .iaddr 5 (.t 78) (.t 79) }, { d := some 81, op := .faddr 3 (.t 80) }, { d := some 82, op := .load false 1 (.t 81) }, { d := some 83, op := .len (.t 82) }, { d := some 84, op := .bin .lss (.t 76) (.t 83) }]) (.cond (.t 84) (.skip) (.exit 5))) (.seq (.block 6
 (.seq (.reg 26 false [ { d := some 87, op := .mov (.t 6) }, { d := some 88, op := .faddr 0 (.t 1) }, { d := some 89, op := .load false 1 (.t 88) }, { d := some 90, op := .mov (.t 7) }, { d := some 91, op := .iaddr 5 (.t 89) (.t 90) }, { d := some 92, op := .faddr 3 (.t 91) }, { d := some 93, op := .load false 1 (.t 92) }, { d := some 94, op := .mov (.t 8) }, { d := some 95, op := .iaddr 2 (.t 93) (.t 94) }, { d := some 96, op := .faddr 0 (.t 95) }, { d := some 97, op := .load false 1 (.t 96) }, { d := some 98, op := .call 56 [.t 87, .t 97] }, { d := some 99, op := .bin .lss (.t 98) (.c (.int .i64 0)) }]) (.cond (.t 99)
 (.seq (.reg 27 false [ { d := some 2, op := .mov (.c (.bool false)) }]) (.ret)) (.skip)))) (.reg 25 false [ { d := some 85, op := .mov (.t 8) }, { d := some 86, op := .bin .add (.t 85) (.c (.int .i64 1)) }, { d := some 8, op := .mov (.t 86) }]))))))) (.reg 22 false [ { d := some 74, op := .mov (.t 7) }, { d := some 75, op := .bin .add (.t 74) (.c (.int .i64 1)) }, { d := some 7, op := .mov (.t 75) }]))))))
 (.seq (.reg 28 false [ { d := some 100, op := .mov (.t 6) }, { d := some 101, op := .len (.t 100) }, { d := some 102, op := .bin .leq (.t 101) (.c (.int .i64 20)) }, { d := some 2, op := .mov (.t 102) }]) (.ret))))))
def rr_ref02_listed : List RRes := [.t 2]
theorem pc_ref02_listed {G : Nat → Option (List AV)} {args : List AV} {v : AV} (hn : args.length ≤ Tryd.f70.ntmps) (h : ∀ R : Run, R.G = G → R.Top → AR Tryd.prog R rc_ref02_listed (initSt args) (Fin rr_ref02_listed v)) : PC Tryd.prog G 70 args v :=
  PC_of Tryd.func70 rfl (by kernel_rfl) (rc := rc_ref02_listed) (by kernel_rfl) (rs := rr_ref02_listed) (by kernel_rfl) hn (fun R _ hG hr => h R hG hr)

def rc_ref02_depths : RCode :=
  .seq (.reg 0 false [ { d := some 1, op := .box (.t 0) }, { d := some 2, op := .mov (.c (.nils)) }])
 (.seq (.reg 1 false [ { d := some 11, op := .load true 1 (.t 1) }, { d := some 12, op := .call 55 [.t 11] }, { d := some 3, op := .mov (.t 12) }])
 (.seq (.reg 2 false [ { d := some 13, op := .mov (.t 3) }, { d := some 14, op := .len (.t 13) }, { d := some 15, op := .mksl 1 8 [.int .i64 0] (.t 14) }, { d := some 4, op := .mov (.t 15) }]) (.seq
 (.seq (.reg 3 false [ { d := some 5, op := .mov (.c (.int .i64 0)) }]) (.block 0 (.loop (.seq
 (.seq (.reg 4 false [ { d := some 16, op := .mov (.t 5) }, { d := some 17, op := .mov (.t 3) }, { d := some 18, op := .len (.t 17) }, { d := some 19, op := .bin .leq (.t 16) (.t 18) }]) (.cond (.t 19) (.skip) (.exit 0))) (.seq (.block 1
 (.seq (.reg 6 false [ { d := some 22, op := .mov (.t 3) }, { d := some 23, op := .len (.t 22) }, { d := some 24, op := .mksl 1 8 [.int .i64 0] (.t 23) }, { d := some 6, op := .mov (.t 24) }]) (.seq
 (.seq (.reg 7 false [ { d := some 7, op := .mov (.c (.int .i64 0)) }]) (.block 2 (.loop (.seq
 (.seq (.reg 8 false [ { d := some 25, op := .mov (.t 7) }, { d := some 26, op := .faddr 0 (.t 1) }, { d := some 27, op := .load false 1 (.t 26) }, { d := some 28, op := .len (.t 27) }, { d := some 29, op := .bin .lss (.t 25) (.t 28) }]) (.cond (.t 29) (.skip) (.exit 2))) (.seq (.block 3
 (.seq (.reg 10 false [ { d := some 32, op := .faddr 0 (.t 1) }, { d := some 33, op := .load false 1 (.t 32) }, { d := some 34, op := .mov (.t 7) }, { d := some 35, op := .iaddr 5 (.t 33) (.t 34) }, { d := some 36, op := .load true 5 (.t 35) }, { d := some 8, op := .alloc [.int .i64 0, .int .i64 0, .int .u8 0, .nils, .nils] }, { d := none, op := .store 5 (.t 8) (.t 36) }])
 (.seq (.reg 11 false [ { d := some 37, op := .mov (.t 3) }, { d := some 38, op := .faddr 0 (.t 8) }, { d := some 39, op := .load false 1 (.t 38) }, { d := some 40, op := .call 56 [.t 37, .t 39] }, { d := some 9, op := .mov (.t 40) }])
 (.seq (.reg 12 false [ { d := some 41, op := .mov (.t 6) }, { d := some 42, op := .mov (.t 9) }, { d := some 43, op := .mov (.t 6) }, { d := some 44, op := .mov (.t 9) }, { d := some 45, op := .iaddr 1 (.t 43) (.t 44) }, { d := some 46, op := .load false 1 (.t 45) }, { d := some 47, op := .mx true (.t 46) [.c (.int .i64 1)] }, { d := some 48, op := .iaddr 1 (.t 41) (.t 42) }, { d := none, op := .store 1 (.t 48) (.t 47) }])
 (.seq (.reg 13 false [ { d := some 10, op := .mov (.c (.int .i64 0)) }]) (.block 4 (.loop (.seq
 (.seq (.reg 14 false [ { d := some 49, op := .mov (.t 10) }, { d := some 50, op := .faddr 3 (.t 8) }, { d := some 51, op := .load false 1 (.t 50) }, { d := some 52, op := .len (.t 51) }, { d := some 53, op := .bin .lss (.t 49) (.t 52) }]) (.cond (.t 53) (.skip) (.exit 4))) (.seq (.block 5 (.reg 16 true [ { d := some 56, op := .mov (.t 6), aft := [] }, { d := some 57, op := .mov (.t 9), aft := [] }, { d := some 58, op := .mov (.t 6), aft := [] }, { d := some 59, op := .mov (.t 9), aft := [] }, { d := some 60, op := .iaddr 1 (.t 58) (.t 59), aft := [2, 3] }, { d := some 61, op := .load false 1 (.t 60), aft := [4] }, { d := some 62, op := .mov (.t 4), aft := [] }, { d := some 63, op := .mov (.t 3), aft := [] }, { d := some 64, op := .faddr 3 (.t 8), aft := [] }, { d := some 65, op := .load false 1 (.t 64), aft := [8] }, { d := some 66, op := .mov (.t 10), aft := [] }, { d := some 67, op := .iaddr 2 (.t 65) (.t 66), aft := [9, 10] }, { d := some 68, op := .faddr 0 (.t 67), aft := [11] }, { d := some 69, op := .load false 1 (.t 68), aft := [12] }, { d := some 70, op := .call 56 [.t 63, .t 69], aft := [7, 13] }, { d := some 71, op := .iaddr 1 (.t 62) (.t 70), aft := [6, 14] }, { d := some 72, op := .load false 1 (.t 71), aft := [15] }, { d := some 73, op := .bin .add (.c (.int .i64 1)) (.t 72), aft := [16] }, { d := some 74, op := .mx true (.t 61) [.t 73], aft := [5, 17] }, { d := some 75, op := .iaddr 1 (.t 56) (.t 57), aft := [0, 1, 0, 1, 2, 3, 4, 5, 6, 7, 8, 9, 10, 11, 12, 13, 14, 15, 16, 17, 18] }, { d := none, op := .store 1 (.t 75) (.t 74), aft := [19, 18, 14, 0, 1, 2, 3, 4, 5, 6, 7, 8, 9, 10, 11, 12, 13, 14, 15, 16, 17, 18] }])) (.reg 15 false [ { d := some 54, op := .mov (.t 10) }, { d := some 55, op := .bin .add (.t 54) (.c (.int .i64 1)) }, { d := some 10, op := .mov (.t 55) }])))))))))) (.reg 9 false [ { d := some 30, op := .mov (.t 7) }, { d := some 31, op := .bin .add (.t 30) (.c (.int .i64 1)) }, { d := some 7, op := .mov (.t 31) }])))))) (.reg 17 false [ { d := some 76, op := .mov (.t 6) }, { d := some 4, op := .mov (.t 76) }])))) (.reg 5 false [ { d := some 20, op := .mov (.t 5) }, { d := some 21, op := .bin .add (.t 20) (.c (.int .i64 1)) }, { d := some 5, op := .mov (.t 21) }]))))))
 (.seq (.reg 18 false [ { d := some 77, op := .mov (.t 4) }, { d := some 2, op := .mov (.t 77) }]) (.ret)))))
def rr_ref02_depths : List RRes := [.t 2]
theorem pc_ref02_depths {G : Nat → Option (List AV)} {args : List AV} {v : AV} (hn : args.length ≤ Tryd.f71.ntmps) (h : ∀ R : Run, R.G = G → R.Top → AR Tryd.prog R rc_ref02_depths (initSt args) (Fin rr_ref02_depths v)) : PC Tryd.prog G 71 args v :=
  PC_of Tryd.func71 rfl (by kernel_rfl) (rc := rc_ref02_depths) (by kernel_rfl) (rs := rr_ref02_depths) (by kernel_rfl) hn (fun R _ hG hr => h R hG hr)

def rc_ref02_Check : RCode :=
  .seq (.reg 0 false [ { d := some 1, op := .box (.t 0) }, { d := some 2, op := .mov (.c (.int .i64 0)) }]) (.seq
 (.seq (.reg 1 false [ { d := some 6, op := .load true 1 (.t 1) }, { d := some 7, op := .call 70 [.t 6] }, { d := some 8, op := .un .not (.t 7) }]) (.cond (.t 8)
 (.seq (.reg 2 false [ { d := some 2, op := .mov (.c (.int .i64 20)) }]) (.ret)) (.skip)))
 (.seq (.reg 3 false [ { d := some 9, op := .load true 1 (.t 1) }, { d := some 10, op := .call 71 [.t 9] }, { d := some 3, op := .mov (.t 10) }])
 (.seq (.reg 4 false [ { d := some 4, op := .mov (.c (.int .i64 0)) }]) (.seq
 (.seq (.reg 5 false [ { d := some 5, op := .mov (.c (.int .i64 0)) }]) (.block 0 (.loop (.seq
 (.seq (.reg 6 false [ { d := some 11, op := .mov (.t 5) }, { d := some 12, op := .mov (.t 3) }, { d := some 13, op := .len (.t 12) }, { d := some 14, op := .bin .lss (.t 11) (.t 13) }]) (.cond (.t 14) (.skip) (.exit 0))) (.seq (.block 1 (.reg 8 false [ { d := some 17, op := .mov (.t 4) }, { d := some 18, op := .mov (.t 3) }, { d := some 19, op := .mov (.t 5) }, { d := some 20, op := .iaddr 1 (.t 18) (.t 19) }, { d := some 21, op := .load false 1 (.t 20) }, { d := some 22, op := .mx true (.t 17) [.t 21] }, { d := some 4, op := .mov (.t 22) }])) (.reg 7 false [ { d := some 15, op := .mov (.t 5) }, { d := some 16, op := .bin .add (.t 15) (.c (.int .i64 1)) }, { d := some 5, op := .mov (.t 16) }])))))) (.seq (.block 2
 (.seq (.reg 9 false [ { d := some 24, op := .mov (.t 4) }, { d := some 25, op := .mov (.t 3) }, { d := some 26, op := .len (.t 25) }, { d := some 27, op := .bin .gtr (.t 24) (.t 26) }, { d := some 23, op := .mov (.t 27) }]) (.cond (.t 23)
 (.seq (.reg 10 false [ { d := some 2, op := .mov (.c (.int .i64 21)) }]) (.ret))
 (.seq (.reg 11 false [ { d := some 29, op := .mov (.t 4) }, { d := some 30, op := .bin .gtr (.t 29) (.c (.int .i64 6)) }, { d := some 28, op := .mov (.t 30) }]) (.cond (.t 28)
 (.seq (.reg 12 false [ { d := some 2, op := .mov (.c (.int .i64 20)) }]) (.ret)) (.skip))))))
 (.seq (.reg 13 false [ { d := some 2, op := .mov (.c (.int .i64 0)) }]) (.ret)))))))
def rr_ref02_Check : List RRes := [.t 2]
theorem pc_ref02_Check {G : Nat → Option (List AV)} {args : List AV} {v : AV} (hn : args.length ≤ Tryd.f25.ntmps) (h : ∀ R : Run, R.G = G → R.Top → AR Tryd.prog R rc_ref02_Check (initSt args) (Fin rr_ref02_Check v)) : PC Tryd.prog G 25 args v :=
  PC_of Tryd.func25 rfl (by kernel_rfl) (rc := rc_ref02_Check) (by kernel_rfl) (rs := rr_ref02_Check) (by kernel_rfl) hn (fun R _ hG hr => h R hG hr)

def rc_ref02_LastOf : RCode :=
  .seq (.reg 0 false [ { d := some 2, op := .box (.t 0) }, { d := some 4, op := .mov (.c (.int .i64 0)) }])
 (.seq (.reg 1 false [ { d := some 5, op := .mov (.c (.int .i64 0)) }]) (.seq
 (.seq (.reg 2 false [ { d := some 6, op := .mov (.c (.int .i64 0)) }]) (.block 0 (.loop (.seq
 (.seq (.reg 3 false [ { d := some 7, op := .mov (.t 6) }, { d := some 8, op := .faddr 0 (.t 2) }, { d := some 9, op := .load false 1 (.t 8) }, { d := some 10, op := .len (.t 9) }, { d := some 11, op := .bin .lss (.t 7) (.t 10) }]) (.cond (.t 11) (.skip) (.exit 0))) (.seq (.block 1
 (.seq (.reg 5 false [ { d := some 14, op := .faddr 0 (.t 2) }, { d := some 15, op := .load false 1 (.t 14) }, { d := some 16, op := .mov (.t 6) }, { d := some 17, op := .iaddr 5 (.t 15) (.t 16) }, { d := some 18, op := .faddr 0 (.t 17) }, { d := some 19, op := .load false 1 (.t 18) }, { d := some 20, op := .mov (.t 1) }, { d := some 21, op := .bin .eql (.t 19) (.t 20) }]) (.cond (.t 21) (.reg 6 false [ { d := some 22, op := .mov (.t 5) }, { d := some 23, op := .faddr 0 (.t 2) }, { d := some 24, op := .load false 1 (.t 23) }, { d := some 25, op := .mov (.t 6) }, { d := some 26, op := .iaddr 5 (.t 24) (.t 25) }, { d := some 27, op := .faddr 1 (.t 26) }, { d := some 28, op := .load false 1 (.t 27) }, { d := some 29, op := .mx true (.t 22) [.t 28] }, { d := some 5, op := .mov (.t 29) }]) (.skip)))) (.reg 4 false [ { d := some 12, op := .mov (.t 6) }, { d := some 13, op := .bin .add (.t 12) (.c (.int .i64 1)) }, { d := some 6, op := .mov (.t 13) }]))))))
 (.seq (.reg 7 false [ { d := some 30, op := .mov (.t 5) }, { d := some 4, op := .mov (.t 30) }]) (.ret))))
def rr_ref02_LastOf : List RRes := [.t 4]
theorem pc_ref02_LastOf {G : Nat → Option (List AV)} {args : List AV} {v : AV} (hn : args.length ≤ Tryd.f59.ntmps) (h : ∀ R : Run, R.G = G → R.Top → AR Tryd.prog R rc_ref02_LastOf (initSt args) (Fin rr_ref02_LastOf v)) : PC Tryd.prog G 59 args v :=
  PC_of Tryd.func59 rfl (by kernel_rfl) (rc := rc_ref02_LastOf) (by kernel_rfl) (rs := rr_ref02_LastOf) (by kernel_rfl) hn (fun R _ hG hr => h R hG hr)

def rc_ref02_SameInts : RCode :=
  .seq (.reg 0 false [ { d := some 4, op := .mov (.c (.bool false)) }]) (.seq
 (.seq (.reg 1 false [ { d := some 6, op := .mov (.t 0) }, { d := some 7, op := .len (.t 6) }, { d := some 8, op := .mov (.t 1) }, { d := some 9, op := .len (.t 8) }, { d := some 10, op := .bin .neq (.t 7) (.t 9) }]) (.cond (.t 10)
 (.seq (.reg 2 false [ { d := some 4, op := .mov (.c (.bool false)) }]) (.ret)) (.skip))) (.seq
 (.seq (.reg 3 false [ { d := some 5, op := .mov (.c (.int .i64 0)) }]) (.block 0 (.loop (.seq
 (.seq (.reg 4 false [ { d := some 11, op := .mov (.t 5) }, { d := some 12, op := .mov (.t 0) }, { d := some 13, op := .len (.t 12) }, { d := some 14, op := .bin .lss (.t 11) (.t 13) }]) (.cond (.t 14) (.skip) (.exit 0))) (.seq (.block 1
 (.seq (.reg 6 true [ { d := some 17, op := .mov (.t 0), aft := [] }, { d := some 18, op := .mov (.t 5), aft := [] }, { d := some 19, op := .iaddr 1 (.t 17) (.t 18), aft := [0, 1] }, { d := some 20, op := .load false 1 (.t 19), aft := [2] }, { d := some 21, op := .mov (.t 1), aft := [] }, { d := some 22, op := .mov (.t 5), aft := [] }, { d := some 23, op := .iaddr 1 (.t 21) (.t 22), aft := [4, 5] }, { d := some 24, op := .load false 1 (.t 23), aft := [6] }, { d := some 25, op := .bin .neq (.t 20) (.t 24), aft := [3, 7] }]) (.cond (.t 25)
 (.seq (.reg 7 false [ { d := some 4, op := .mov (.c (.bool false)) }]) (.ret)) (.skip)))) (.reg 5 false [ { d := some 15, op := .mov (.t 5) }, { d := some 16, op := .bin .add (.t 15) (.c (.int .i64 1)) }, { d := some 5, op := .mov (.t 16) }]))))))
 (.seq (.reg 8 false [ { d := some 4, op := .mov (.c (.bool true)) }]) (.ret))))
def rr_ref02_SameInts : List RRes := [.t 4]
theorem pc_ref02_SameInts {G : Nat → Option (List AV)} {args : List AV} {v : AV} (hn : args.length ≤ Tryd.f26.ntmps) (h : ∀ R : Run, R.G = G → R.Top → AR Tryd.prog R rc_ref02_SameInts (initSt args) (Fin rr_ref02_SameInts v)) : PC Tryd.prog G 26 args v :=
  PC_of Tryd.func26 rfl (by kernel_rfl) (rc := rc_ref02_SameInts) (by kernel_rfl) (rs := rr_ref02_SameInts) (by kernel_rfl) hn (fun R _ hG hr => h R hG hr)

def rc_ref02_SameItems : RCode :=
  .seq (.reg 0 false [ { d := some 4, op := .mov (.c (.bool false)) }]) (.seq
 (.seq (.reg 1 false [ { d := some 6, op := .mov (.t 0) }, { d := some 7, op := .len (.t 6) }, { d := some 8, op := .mov (.t 1) }, { d := some 9, op := .len (.t 8) }, { d := some 10, op := .bin .neq (.t 7) (.t 9) }]) (.cond (.t 10)
 (.seq (.reg 2 false [ { d := some 4, op := .mov (.c (.bool false)) }]) (.ret)) (.skip))) (.seq
 (.seq (.reg 3 false [ { d := some 5, op := .mov (.c (.int .i64 0)) }]) (.block 0 (.loop (.seq
 (.seq (.reg 4 false [ { d := some 11, op := .mov (.t 5) }, { d := some 12, op := .mov (.t 0) }, { d := some 13, op := .len (.t 12) }, { d := some 14, op := .bin .lss (.t 11) (.t 13) }]) (.cond (.t 14) (.skip) (.exit 0))) (.seq (.block 1
 (.seq (.reg 6 true [ { d := some 17, op := .mov (.t 0), aft := [] }, { d := some 18, op := .mov (.t 5), aft := [] }, { d := some 19, op := .iaddr 2 (.t 17) (.t 18), aft := [0, 1] }, { d := some 20, op := .load true 2 (.t 19), aft := [2] }, { d := some 21, op := .mov (.t 1), aft := [] }, { d := some 22, op := .mov (.t 5), aft := [] }, { d := some 23, op := .iaddr 2 (.t 21) (.t 22), aft := [4, 5] }, { d := some 24, op := .load true 2 (.t 23), aft := [6] }, { d := some 25, op := .eqs true [.i, .i] (.t 20) (.t 24), aft := [3, 7] }]) (.cond (.t 25)
 (.seq (.reg 7 false [ { d := some 4, op := .mov (.c (.bool false)) }]) (.ret)) (.skip)))) (.reg 5 false [ { d := some 15, op := .mov (.t 5) }, { d := some 16, op := .bin .add (.t 15) (.c (.int .i64 1)) }, { d := some 5, op := .mov (.t 16) }]))))))
 (.seq (.reg 8 false [ { d := some 4, op := .mov (.c (.bool true)) }]) (.ret))))
def rr_ref02_SameItems : List RRes := [.t 4]
theorem pc_ref02_SameItems {G : Nat → Option (List AV)} {args : List AV} {v : AV} (hn : args.length ≤ Tryd.f37.ntmps) (h : ∀ R : Run, R.G = G → R.Top → AR Tryd.prog R rc_ref02_SameItems (initSt args) (Fin rr_ref02_SameItems v)) : PC Tryd.prog G 37 args v :=
  PC_of Tryd.func37 rfl (by kernel_rfl) (rc := rc_ref02_SameItems) (by kernel_rfl) (rs := rr_ref02_SameItems) (by kernel_rfl) hn (fun R _ hG hr => h R hG hr)

def rc_ref02_SameIssue : RCode :=
  .seq (.reg 0 false [ { d := some 2, op := .box (.t 0) }, { d := some 3, op := .box (.t 1) }, { d := some 4, op := .mov (.c (.bool false)) }]) (.seq
 (.seq (.reg 1 false [ { d := some 6, op := .faddr 0 (.t 2) }, { d := some 7, op := .load false 1 (.t 6) }, { d := some 8, op := .faddr 0 (.t 3) }, { d := some 9, op := .load false 1 (.t 8) }, { d := some 10, op := .bin .neq (.t 7) (.t 9) }, { d := some 11, op := .mov (.t 10) }, { d := some 12, op := .faddr 1 (.t 2), guard := some (11, false) }, { d := some 13, op := .load false 1 (.t 12), guard := some (11, false) }, { d := some 14, op := .faddr 1 (.t 3), guard := some (11, false) }, { d := some 15, op := .load false 1 (.t 14), guard := some (11, false) }, { d := some 16, op := .bin .neq (.t 13) (.t 15), guard := some (11, false) }, { d := some 17, op := .pick (.t 11) (.c (.bool true)) (.t 16) }, { d := some 18, op := .mov (.t 17) }, { d := some 19, op := .faddr 2 (.t 2), guard := some (18, false) }, { d := some 20, op := .load false 1 (.t 19), guard := some (18, false) }, { d := some 21, op := .faddr 2 (.t 3), guard := some (18, false) }, { d := some 22, op := .load false 1 (.t 21), guard := some (18, false) }, { d := some 23, op := .bin .neq (.t 20) (.t 22), guard := some (18, false) }, { d := some 24, op := .pick (.t 18) (.c (.bool true)) (.t 23) }, { d := some 25, op := .mov (.t 24) }, { d := some 26, op := .faddr 3 (.t 2), guard := some (25, false) }, { d := some 27, op := .load false 1 (.t 26), guard := some (25, false) }, { d := some 28, op := .faddr 3 (.t 3), guard := some (25, false) }, { d := some 29, op := .load false 1 (.t 28), guard := some (25, false) }, { d := some 30, op := .call 37 [.t 27, .t 29], guard := some (25, false) }, { d := some 31, op := .un .not (.t 30), guard := some (25, false) }, { d := some 32, op := .pick (.t 25) (.c (.bool true)) (.t 31) }, { d := some 33, op := .mov (.t 32) }, { d := some 34, op := .faddr 4 (.t 2), guard := some (33, false) }, { d := some 35, op := .load false 1 (.t 34), guard := some (33, false) }, { d := some 36, op := .len (.t 35), guard := some (33, false) }, { d := some 37, op := .faddr 4 (.t 3), guard := some (33, false) }, { d := some 38, op := .load false 1 (.t 37), guard := some (33, false) }, { d := some 39, op := .len (.t 38), guard := some (33, false) }, { d := some 40, op := .bin .neq (.t 36) (.t 39), guard := some (33, false) }, { d := some 41, op := .pick (.t 33) (.c (.bool true)) (.t 40) }]) (.cond (.t 41)
 (.seq (.reg 2 false [ { d := some 4, op := .mov (.c (.bool false)) }]) (.ret)) (.skip))) (.seq
 (.seq (.reg 3 false [ { d := some 5, op := .mov (.c (.int .i64 0)) }]) (.block 0 (.loop (.seq
 (.seq (.reg 4 false [ { d := some 42, op := .mov (.t 5) }, { d := some 43, op := .faddr 4 (.t 2) }, { d := some 44, op := .load false 1 (.t 43) }, { d := some 45, op := .len (.t 44) }, { d := some 46, op := .bin .lss (.t 42) (.t 45) }]) (.cond (.t 46) (.skip) (.exit 0))) (.seq (.block 1
 (.seq (.reg 6 true [ { d := some 49, op := .faddr 4 (.t 2), aft := [] }, { d := some 50, op := .load false 1 (.t 49), aft := [0] }, { d := some 51, op := .mov (.t 5), aft := [] }, { d := some 52, op := .iaddr 3 (.t 50) (.t 51), aft := [1, 2] }, { d := some 53, op := .load true 3 (.t 52), aft := [3] }, { d := some 54, op := .faddr 4 (.t 3), aft := [] }, { d := some 55, op := .load false 1 (.t 54), aft := [5] }, { d := some 56, op := .mov (.t 5), aft := [] }, { d := some 57, op := .iaddr 3 (.t 55) (.t 56), aft := [6, 7] }, { d := some 58, op := .load true 3 (.t 57), aft := [8] }, { d := some 59, op := .eqs true [.i, .i, .i] (.t 53) (.t 58), aft := [4, 9] }]) (.cond (.t 59)
 (.seq (.reg 7 false [ { d := some 4, op := .mov (.c (.bool false)) }]) (.ret)) (.skip)))) (.reg 5 false [ { d := some 47, op := .mov (.t 5) }, { d := some 48, op := .bin .add (.t 47) (.c (.int .i64 1)) }, { d := some 5, op := .mov (.t 48) }]))))))
 (.seq (.reg 8 false [ { d := some 4, op := .mov (.c (.bool true)) }]) (.ret))))
def rr_ref02_SameIssue : List RRes := [.t 4]
theorem pc_ref02_SameIssue {G : Nat → Option (List AV)} {args : List AV} {v : AV} (hn : args.length ≤ Tryd.f31.ntmps) (h : ∀ R : Run, R.G = G → R.Top → AR Tryd.prog R rc_ref02_SameIssue (initSt args) (Fin rr_ref02_SameIssue v)) : PC Tryd.prog G 31 args v :=
  PC_of Tryd.func31 rfl (by kernel_rfl) (rc := rc_ref02_SameIssue) (by kernel_rfl) (rs := rr_ref02_SameIssue) (by kernel_rfl) hn (fun R _ hG hr => h R hG hr)

def rc_ref02_Same : RCode :=
  .seq (.reg 0 false [ { d := some 2, op := .box (.t 0) }, { d := some 3, op := .box (.t 1) }, { d := some 4, op := .mov (.c (.bool false)) }]) (.seq
 (.seq (.reg 1 false [ { d := some 6, op := .faddr 0 (.t 2) }, { d := some 7, op := .load false 1 (.t 6) }, { d := some 8, op := .len (.t 7) }, { d := some 9, op := .faddr 0 (.t 3) }, { d := some 10, op := .load false 1 (.t 9) }, { d := some 11, op := .len (.t 10) }, { d := some 12, op := .bin .neq (.t 8) (.t 11) }]) (.cond (.t 12)
 (.seq (.reg 2 false [ { d := some 4, op := .mov (.c (.bool false)) }]) (.ret)) (.skip))) (.seq
 (.seq (.reg 3 false [ { d := some 5, op := .mov (.c (.int .i64 0)) }]) (.block 0 (.loop (.seq
 (.seq (.reg 4 false [ { d := some 13, op := .mov (.t 5) }, { d := some 14, op := .faddr 0 (.t 2) }, { d := some 15, op := .load false 1 (.t 14) }, { d := some 16, op := .len (.t 15) }, { d := some 17, op := .bin .lss (.t 13) (.t 16) }]) (.cond (.t 17) (.skip) (.exit 0))) (.seq (.block 1
 (.seq (.reg 6 true [ { d := some 20, op := .faddr 0 (.t 2), aft := [] }, { d := some 21, op := .load false 1 (.t 20), aft := [0] }, { d := some 22, op := .mov (.t 5), aft := [] }, { d := some 23, op := .iaddr 5 (.t 21) (.t 22), aft := [1, 2] }, { d := some 24, op := .load true 5 (.t 23), aft := [3] }, { d := some 25, op := .faddr 0 (.t 3), aft := [] }, { d := some 26, op := .load false 1 (.t 25), aft := [5] }, { d := some 27, op := .mov (.t 5), aft := [] }, { d := some 28, op := .iaddr 5 (.t 26) (.t 27), aft := [6, 7] }, { d := some 29, op := .load true 5 (.t 28), aft := [8] }, { d := some 30, op := .call 31 [.t 24, .t 29], aft := [4, 9] }, { d := some 31, op := .un .not (.t 30), aft := [10] }]) (.cond (.t 31)
 (.seq (.reg 7 false [ { d := some 4, op := .mov (.c (.bool false)) }]) (.ret)) (.skip)))) (.reg 5 false [ { d := some 18, op := .mov (.t 5) }, { d := some 19, op := .bin .add (.t 18) (.c (.int .i64 1)) }, { d := some 5, op := .mov (.t 19) }]))))))
 (.seq (.reg 8 false [ { d := some 4, op := .mov (.c (.bool true)) }]) (.ret))))
def rr_ref02_Same : List RRes := [.t 4]
theorem pc_ref02_Same {G : Nat → Option (List AV)} {args : List AV} {v : AV} (hn : args.length ≤ Tryd.f32.ntmps) (h : ∀ R : Run, R.G = G → R.Top → AR Tryd.prog R rc_ref02_Same (initSt args) (Fin rr_ref02_Same v)) : PC Tryd.prog G 32 args v :=
  PC_of Tryd.func32 rfl (by kernel_rfl) (rc := rc_ref02_Same) (by kernel_rfl) (rs := rr_ref02_Same) (by kernel_rfl) hn (fun R _ hG hr => h R hG hr)

def rc_ref02_Great : RCode :=
  .seq (.reg 0 false [ { d := some 1, op := .box (.t 0) }, { d := some 2, op := .mov (.c (.bool false)) }]) (.seq
 (.seq (.reg 1 false [ { d := some 4, op := .faddr 0 (.t 1) }, { d := some 5, op := .load false 1 (.t 4) }, { d := some 6, op := .len (.t 5) }, { d := some 7, op := .bin .gtr (.t 6) (.c (.int .i64 80)) }]) (.cond (.t 7)
 (.seq (.reg 2 false [ { d := some 2, op := .mov (.c (.bool true)) }]) (.ret)) (.skip))) (.seq
 (.seq (.reg 3 false [ { d := some 3, op := .mov (.c (.int .i64 0)) }]) (.block 0 (.loop (.seq
 (.seq (.reg 4 false [ { d := some 8, op := .mov (.t 3) }, { d := some 9, op := .faddr 0 (.t 1) }, { d := some 10, op := .load false 1 (.t 9) }, { d := some 11, op := .len (.t 10) }, { d := some 12, op := .bin .lss (.t 8) (.t 11) }]) (.cond (.t 12) (.skip) (.exit 0))) (.seq (.block 1
 (.seq (.reg 6 false [ { d := some 15, op := .faddr 0 (.t 1) }, { d := some 16, op := .load false 1 (.t 15) }, { d := some 17, op := .mov (.t 3) }, { d := some 18, op := .iaddr 5 (.t 16) (.t 17) }, { d := some 19, op := .faddr 3 (.t 18) }, { d := some 20, op := .load false 1 (.t 19) }, { d := some 21, op := .len (.t 20) }, { d := some 22, op := .bin .gtr (.t 21) (.c (.int .i64 16)) }, { d := some 23, op := .mov (.t 22) }, { d := some 24, op := .faddr 0 (.t 1), guard := some (23, false) }, { d := some 25, op := .load false 1 (.t 24), guard := some (23, false) }, { d := some 26, op := .mov (.t 3), guard := some (23, false) }, { d := some 27, op := .iaddr 5 (.t 25) (.t 26), guard := some (23, false) }, { d := some 28, op := .faddr 4 (.t 27), guard := some (23, false) }, { d := some 29, op := .load false 1 (.t 28), guard := some (23, false) }, { d := some 30, op := .len (.t 29), guard := some (23, false) }, { d := some 31, op := .bin .gtr (.t 30) (.c (.int .i64 8)), guard := some (23, false) }, { d := some 32, op := .pick (.t 23) (.c (.bool true)) (.t 31) }]) (.cond (.t 32)
 (.seq (.reg 7 false [ { d := some 2, op := .mov (.c (.bool true)) }]) (.ret)) (.skip)))) (.reg 5 false [ { d := some 13, op := .mov (.t 3) }, { d := some 14, op := .bin .add (.t 13) (.c (.int .i64 1)) }, { d := some 3, op := .mov (.t 14) }]))))))
 (.seq (.reg 8 false [ { d := some 2, op := .mov (.c (.bool false)) }]) (.ret))))
def rr_ref02_Great : List RRes := [.t 2]
theorem pc_ref02_Great {G : Nat → Option (List AV)} {args : List AV} {v : AV} (hn : args.length ≤ Tryd.f18.ntmps) (h : ∀ R : Run, R.G = G → R.Top → AR Tryd.prog R rc_ref02_Great (initSt args) (Fin rr_ref02_Great v)) : PC Tryd.prog G 18 args v :=
  PC_of Tryd.func18 rfl (by kernel_rfl) (rc := rc_ref02_Great) (by kernel_rfl) (rs := rr_ref02_Great) (by kernel_rfl) hn (fun R _ hG hr => h R hG hr)

end Go.Proofs.YtdpmioiamcgfkaaDoor

/-! Registers as trees; what the reference's small functions compute, by the abstract machine. -/
namespace Go.Proofs.YtdpmioiamcgfkaaDoor
open Go.RowKit

theorem mixed : Tryd.prog.follows .mixedOrders = true := by kernel_rfl
def inR (n lo hi : Int) : Bool := decide (lo ≤ n ∧ n ≤ hi)
theorem wrapI {n : Int} (h0 : -9223372036854775808 ≤ n) (h1 : n ≤ 9223372036854775807) : IntKind.i64.wrap n = n := IntWalk.i64_in _ ⟨h0, h1⟩

/-- A loop that counts. -/
def RndF (S : Nat → St) (I : Nat → Prop) (i : Nat) (Φ : Exit → St → Prop) : Exit → St → Prop
  | .normal, st => Weak st (S (i + 1)) ∧ I (i + 1)
  | e, st => Φ e st
def RndE (Φ : Exit → St → Prop) : Exit → St → Prop
  | .normal, _ => False
  | e, st => Φ e st
section
variable {P : Program} {R : Run} {st : St} {Φ : Exit → St → Prop} {S : Nat → St} {I : Nat → Prop} {i : Nat}
theorem RndF_nor : RndF S I i Φ .normal st = (Weak st (S (i + 1)) ∧ I (i + 1)) := rfl
theorem RndF_ret : RndF S I i Φ .ret st = Φ .ret st := rfl
theorem RndF_exit {j : Nat} : RndF S I i Φ (.exit j) st = Φ (.exit j) st := rfl
theorem RndE_ret : RndE Φ .ret st = Φ .ret st := rfl
theorem RndE_exit {j : Nat} : RndE Φ (.exit j) st = Φ (.exit j) st := rfl
attribute [simp] RndF_nor RndF_ret RndF_exit RndE_ret RndE_exit
theorem AR_for {c : RCode} (S : Nat → St) (I : Nat → Prop) (N : Nat) (h0 : Weak st (S 0)) (hi : I 0) (hr : ∀ i, i < N → I i → AR P R c (S i) (RndF S I i Φ)) (he : I N → AR P R c (S N) (RndE Φ)) : AR P R (.loop c) st Φ := by
  refine AR_loop S (fun i => i ≤ N ∧ I i) (fun i => N - i) 0 h0 ⟨Nat.zero_le _, hi⟩ ?_
  rintro i ⟨h1, h2⟩
  by_cases h3 : i < N
  · refine AR_mono (hr i h3 h2) fun e s hs => ?_
    cases e with
    | normal => exact ⟨i + 1, hs.1, ⟨by omega, hs.2⟩, by show N - (i + 1) < N - i; omega⟩
    | _ => exact hs
  · obtain rfl : i = N := by omega
    refine AR_mono (he h2) fun e s hs => ?_
    cases e with
    | normal => exact hs.elim
    | _ => exact hs
end

/-- An issue: its drawing, its letter, its kind; items (a drawing, a count); sizes. -/
structure Iss where
  d : Int
  l : Int
  k : Int
  its : List (Int × Int)
  dms : List Dm
  deriving DecidableEq, Inhabited

def ia (n : Int) : List AV := [.int .i64 n]
def ita (p : Int × Int) : List AV := [.int .i64 p.1, .int .i64 p.2]
def dma (d : Dm) : List AV := [.int .i64 d.n, .int .i64 d.l, .int .i64 d.u]
def isa (x : Iss) : List AV := [.int .i64 x.d, .int .i64 x.l, .int .u8 x.k, .vsl (x.its.map ita), .vsl (x.dms.map dma)]
def rega (r : List Iss) : AV := .agg [.vsl (r.map isa)]
/-- Lists that a machine can hold. -/
def Sml {α : Type} (l : List α) : Prop := l.length ≤ 16777216

section
variable {G : Nat → Option (List AV)}

theorem within1_pc (n lo hi : Int) : PC Tryd.prog G 136 [.int .i64 n, .int .i64 lo, .int .i64 hi] (.bool (inR n lo hi)) := by
  (refine pc_ref01_within (Nat.le_of_ble_eq_true rfl) fun R hG hrd => GO_AR mixed 1000 ?_; subst hG)
  by_cases h1 : lo ≤ n <;> simp -implicitDefEqProofs [rc_ref01_within, rr_ref01_within, h1, inR]

theorem dim_pc (n l u : Int) : PC Tryd.prog G 126 [.agg [.int .i64 n, .int .i64 l, .int .i64 u]] (.bool (vd ⟨n, l, u⟩)) := by
  (refine pc_ref01_Dim (Nat.le_of_ble_eq_true rfl) fun R hG hrd => GO_AR mixed 1000 ?_; subst hG)
  have e : vd ⟨n, l, u⟩ = (inR n 0 1000000000 && (inR u 0 1000000000 && inR l 0 u)) := by
    unfold vd inR
    rw [← Bool.decide_and, ← Bool.decide_and]
    exact decide_eq_decide.2 (by simp only; omega)
  simp -implicitDefEqProofs [rc_ref01_Dim, rr_ref01_Dim, e]
  (first | refine CallK.of (within1_pc _ _ _) (by simp) ?_ | refine CallD.of (within1_pc _ _ _) (by simp) ?_)
  cases h1 : inR n 0 1000000000
  · simp -implicitDefEqProofs
  · simp -implicitDefEqProofs
    (first | refine CallK.of (within1_pc _ _ _) (by simp) ?_ | refine CallD.of (within1_pc _ _ _) (by simp) ?_)
    cases h2 : inR u 0 1000000000
    · simp -implicitDefEqProofs
    · simp -implicitDefEqProofs
      (first | refine CallK.of (within1_pc _ _ _) (by simp) ?_ | refine CallD.of (within1_pc _ _ _) (by simp) ?_)
      simp -implicitDefEqProofs

theorem within_pc (n lo hi : Int) : PC Tryd.prog G 106 [.int .i64 n, .int .i64 lo, .int .i64 hi] (.bool (inR n lo hi)) := by
  (refine pc_ref02_within (Nat.le_of_ble_eq_true rfl) fun R hG hrd => GO_AR mixed 1000 ?_; subst hG)
  by_cases h1 : lo ≤ n <;> simp -implicitDefEqProofs [rc_ref02_within, rr_ref02_within, h1, inR]

/-- The index of a number; -1 if it is not there. -/
def idx (l : List Int) (n : Int) : Int := if n ∈ l then (l.idxOf n : Int) else -1

theorem idx_at {l : List Int} {n : Int} {i : Nat} (hi : i < l.length) (he : l[i] = n) (hb : ∀ j (h : j < i), l[j] ≠ n) : idx l n = i := by
  have hm : n ∈ l := by rw [← he]; exact List.getElem_mem hi
  rw [idx, if_pos hm]
  have h1 : l.idxOf n < l.length := List.idxOf_lt_length_iff.2 hm
  have h2 : l[l.idxOf n] = n := List.getElem_idxOf h1
  have h3 : ¬ l.idxOf n < i := fun h => hb _ h h2
  have h4 : ¬ i < l.idxOf n := fun h => by
    have := List.not_of_lt_findIdx (p := (· == n)) h
    simp [he] at this
  congr 1; omega
theorem idx_no {l : List Int} {n : Int} (hb : ∀ j (h : j < l.length), l[j] ≠ n) : idx l n = -1 := by
  rw [idx, if_neg]
  intro hm
  obtain ⟨j, h1, h2⟩ := List.getElem_of_mem hm
  exact hb j h1 h2

theorem index_pc (l : List Int) (n : Int) (hl : Sml l) : PC Tryd.prog G 56 [.vsl (l.map ia), .int .i64 n] (.int .i64 (idx l n)) := by
  (refine pc_ref02_Index (Nat.le_of_ble_eq_true rfl) fun R hG hrd => GO_AR mixed 1000 ?_; subst hG)
  simp -implicitDefEqProofs [rc_ref02_Index, rr_ref02_Index]
  refine AR_for (fun i => ⟨[(5, .int .i64 i), (0, .vsl (l.map ia)), (1, .int .i64 n)], []⟩) (fun i => ∀ j (h : j < l.length), j < i → l[j] ≠ n) l.length (by (first | exact Weak.tm (by simp [lk]) | exact Weak.sub (by simp [lk, keptA, AV.keys]) (by simp [lk, keptO, keptA, AV.keys]))) (by simp) ?_ ?_
  · intro i hi he
    refine GO_AR mixed 1000 ?_
    unfold Sml at hl
    have w1 : IntKind.i64.wrap ((i : Int) + 1) = ((i + 1 : Nat) : Int) := wrapI (by omega) (by omega)
    by_cases h2 : l[i] = n
    · simp -implicitDefEqProofs [hi, ia, h2]
      refine GO_ret mixed 1000 ?_
      simp -implicitDefEqProofs [idx_at hi h2 (fun j h => he j (by omega) h)]
    · simp -implicitDefEqProofs [hi, ia, h2, w1]
      refine ⟨(by (first | exact Weak.tm (by simp [lk]) | exact Weak.sub (by simp [lk, keptA, AV.keys]) (by simp [lk, keptO, keptA, AV.keys]))), fun j h1 h3 => ?_⟩
      by_cases e : j = i
      · subst e; exact h2
      · exact he j h1 (by omega)
  · intro he
    refine GO_AR mixed 1000 ?_
    simp -implicitDefEqProofs []
    refine GO_ret mixed 1000 ?_
    simp -implicitDefEqProofs [idx_no (fun j h => he j h h)]

theorem sameInts_pc (a b : List Int) (ha : Sml a) : PC Tryd.prog G 26 [.vsl (a.map ia), .vsl (b.map ia)] (.bool (decide (a = b))) := by
  (refine pc_ref02_SameInts (Nat.le_of_ble_eq_true rfl) fun R hG hrd => GO_AR mixed 1000 ?_; subst hG)
  by_cases hl : a.length = b.length
  · have hl' : (a.length : Int) = b.length := by omega
    simp -implicitDefEqProofs [rc_ref02_SameInts, rr_ref02_SameInts, hl']
    refine AR_for (fun i => ⟨[(5, .int .i64 i), (0, .vsl (a.map ia)), (1, .vsl (b.map ia))], []⟩) (fun i => ∀ j (h : j < a.length), j < i → a[j] = b[j]) a.length (by (first | exact Weak.tm (by simp [lk]) | exact Weak.sub (by simp [lk, keptA, AV.keys]) (by simp [lk, keptO, keptA, AV.keys]))) (by simp) ?_ ?_
    · intro i hi he
      refine GO_AR mixed 1000 ?_
      unfold Sml at ha
      have hi2 : i < b.length := by omega
      have w1 : IntKind.i64.wrap ((i : Int) + 1) = ((i + 1 : Nat) : Int) := wrapI (by omega) (by omega)
      by_cases h2 : a[i] = b[i]
      · simp -implicitDefEqProofs [hi, hi2, ia, h2, w1]
        refine ⟨rfl, (by (first | exact Weak.tm (by simp [lk]) | exact Weak.sub (by simp [lk, keptA, AV.keys]) (by simp [lk, keptO, keptA, AV.keys]))), fun j h1 h3 => ?_⟩
        by_cases e : j = i
        · subst e; exact h2
        · exact he j h1 (by omega)
      · have h3 : ¬ a = b := fun e => h2 (by subst e; rfl)
        simp -implicitDefEqProofs [hi, hi2, ia, h2]
        refine ⟨rfl, ?_⟩
        refine GO_ret mixed 1000 ?_
        simp -implicitDefEqProofs [h3]
    · intro he
      refine GO_AR mixed 1000 ?_
      have h3 : a = b := List.ext_getElem hl fun j h1 h2 => he j h1 h1
      simp -implicitDefEqProofs []
      refine GO_ret mixed 1000 ?_
      simp -implicitDefEqProofs [h3]
  · have hl' : ¬ (a.length : Int) = b.length := by omega
    have h3 : ¬ a = b := fun e => hl (by rw [e])
    simp -implicitDefEqProofs [rc_ref02_SameInts, rr_ref02_SameInts, hl', h3]
end
end Go.Proofs.YtdpmioiamcgfkaaDoor

/-! What the reference's functions on registers compute: the same, twins, numbers, the last letter, an issue. -/
namespace Go.Proofs.YtdpmioiamcgfkaaDoor
open Go.RowKit

/-- An empty list for one that is nil. -/
def nz : AV → AV
  | .nils => .vsl []
  | .agg xs => .agg (xs.attach.map fun ⟨x, _⟩ => nz x)
  | .tup xs => .tup (xs.attach.map fun ⟨x, _⟩ => nz x)
  | x => x
theorem nz_at (xs : List AV) : (xs.attach.map fun ⟨x, _⟩ => nz x) = xs.map nz := by
  have h : (xs.attach.map fun ⟨x, _⟩ => nz x) = (xs.attach.map Subtype.val).map nz := by rw [List.map_map]; rfl
  rw [h, List.attach_map_subtype_val]
theorem nz_agg (xs : List AV) : nz (.agg xs) = .agg (xs.map nz) := by rw [nz, nz_at]
theorem nz_tup (xs : List AV) : nz (.tup xs) = .tup (xs.map nz) := by rw [nz, nz_at]
theorem PV.nz {M : Nat → Prop} {W : World} {x : AV} {v : Value} (h : PV M W x v) : PV M W (nz x) v := by
  induction h with
  | nils => simp only [Go.Proofs.YtdpmioiamcgfkaaDoor.nz]; exact .vsl [] none 0 1 0 0 (fun _ _ => undef) (Nat.le_refl _) (Nat.zero_le _) (fun h => absurd rfl h) (fun _ => ⟨rfl, rfl⟩) (by simp) (by simp) (by simp)
  | agg xs us h1 hx ih =>
    rw [nz_agg]
    refine .agg _ us (by simpa using h1) fun i x u hi hu => ?_
    rw [List.getElem?_map, Option.map_eq_some_iff] at hi
    obtain ⟨y, hy, rfl⟩ := hi
    exact ih i y u hy hu
  | tup xs us h1 hx ih =>
    rw [nz_tup]
    refine .tup _ us (by simpa using h1) fun i x u hi hu => ?_
    rw [List.getElem?_map, Option.map_eq_some_iff] at hi
    obtain ⟨y, hy, rfl⟩ := hi
    exact ih i y u hy hu
  | hole => simp only [Go.Proofs.YtdpmioiamcgfkaaDoor.nz]; exact .hole
  | int k n => simp only [Go.Proofs.YtdpmioiamcgfkaaDoor.nz]; exact .int k n
  | bool b => simp only [Go.Proofs.YtdpmioiamcgfkaaDoor.nz]; exact .bool b
  | abool b => simp only [Go.Proofs.YtdpmioiamcgfkaaDoor.nz]; exact .abool b
  | str s => simp only [Go.Proofs.YtdpmioiamcgfkaaDoor.nz]; exact .str s
  | nilp => simp only [Go.Proofs.YtdpmioiamcgfkaaDoor.nz]; exact .nilp
  | nilm => simp only [Go.Proofs.YtdpmioiamcgfkaaDoor.nz]; exact .nilm
  | nilf => simp only [Go.Proofs.YtdpmioiamcgfkaaDoor.nz]; exact .nilf
  | vptr cells off b o f hb hM hc hr ih => simp only [Go.Proofs.YtdpmioiamcgfkaaDoor.nz]; exact .vptr cells off b o f hb hM hc hr
  | vsl rows a cap sz b o f hcap hmax ha hn hs hc hr ih => simp only [Go.Proofs.YtdpmioiamcgfkaaDoor.nz]; exact .vsl rows a cap sz b o f hcap hmax ha hn hs hc hr
  | func fn xs ys us vs h1 h2 hx hy ihx ihy => simp only [Go.Proofs.YtdpmioiamcgfkaaDoor.nz]; exact .func fn xs ys us vs h1 h2 hx hy
  | vmap kvs b es clock hb hM ho hs hn hk' hv ihk ihv => simp only [Go.Proofs.YtdpmioiamcgfkaaDoor.nz]; exact .vmap kvs b es clock hb hM ho hs hn hk' hv
theorem PC.nzR {P : Program} {G : Nat → Option (List AV)} {f : FuncId} {args : List AV} {v v' : AV} (h : PC P G f args v) (e : nz v = v') : PC P G f args v' := by
  subst e
  refine ⟨h.1, fun M W vs hM hG hs hv => (h.2 M W vs hM hG hs hv).mono ?_⟩
  rintro e W' ⟨u, h1, h2, h3⟩
  exact ⟨u, h1, h2.nz, h3⟩

theorem pair_ne {a b : Int × Int} (h : ¬ a = b) : (!decide (a.1 = b.1) || !decide (a.2 = b.2)) = true := by
  cases h5 : (!decide (a.1 = b.1) || !decide (a.2 = b.2))
  · simp only [Bool.or_eq_false_iff, Bool.not_eq_false', decide_eq_true_eq] at h5
    exact absurd (Prod.ext h5.1 h5.2) h
  · rfl
theorem dm_ne {a b : Dm} (h : ¬ a = b) : (!decide (a.n = b.n) || (!decide (a.l = b.l) || !decide (a.u = b.u))) = true := by
  cases h5 : (!decide (a.n = b.n) || (!decide (a.l = b.l) || !decide (a.u = b.u)))
  · simp only [Bool.or_eq_false_iff, Bool.not_eq_false', decide_eq_true_eq] at h5
    cases a; cases b; simp_all
  · rfl

section
variable {G : Nat → Option (List AV)}

theorem sameItems_pc (a b : List (Int × Int)) (ha : Sml a) : PC Tryd.prog G 37 [.vsl (a.map ita), .vsl (b.map ita)] (.bool (decide (a = b))) := by
  (refine pc_ref02_SameItems (Nat.le_of_ble_eq_true rfl) fun R hG hrd => GO_AR mixed 1000 ?_; subst hG)
  by_cases hl : a.length = b.length
  · have hl' : (a.length : Int) = b.length := by omega
    simp -implicitDefEqProofs [rc_ref02_SameItems, rr_ref02_SameItems, hl']
    refine AR_for (fun i => ⟨[(5, .int .i64 i), (0, .vsl (a.map ita)), (1, .vsl (b.map ita))], []⟩) (fun i => ∀ j (h : j < a.length), j < i → a[j] = b[j]) a.length (by (first | exact Weak.tm (by simp [lk]) | exact Weak.sub (by simp [lk, keptA, AV.keys]) (by simp [lk, keptO, keptA, AV.keys]))) (by simp) ?_ ?_
    · intro i hi he
      refine GO_AR mixed 1000 ?_
      unfold Sml at ha
      have hi2 : i < b.length := by omega
      have w1 : IntKind.i64.wrap ((i : Int) + 1) = ((i + 1 : Nat) : Int) := wrapI (by omega) (by omega)
      simp -implicitDefEqProofs [hi, hi2, ita]
      refine ⟨rfl, ?_⟩
      by_cases h2 : a[i] = b[i]
      · simp -implicitDefEqProofs [h2, w1]
        refine ⟨(by (first | exact Weak.tm (by simp [lk]) | exact Weak.sub (by simp [lk, keptA, AV.keys]) (by simp [lk, keptO, keptA, AV.keys]))), fun j h1 h3 => ?_⟩
        by_cases e : j = i
        · subst e; exact h2
        · exact he j h1 (by omega)
      · have h3 : ¬ a = b := fun e => h2 (by subst e; rfl)
        rw [pair_ne h2]
        simp -implicitDefEqProofs []
        refine GO_ret mixed 1000 ?_
        simp -implicitDefEqProofs [h3]
    · intro he
      refine GO_AR mixed 1000 ?_
      have h3 : a = b := List.ext_getElem hl fun j h1 h2 => he j h1 h1
      simp -implicitDefEqProofs []
      refine GO_ret mixed 1000 ?_
      simp -implicitDefEqProofs [h3]
  · have hl' : ¬ (a.length : Int) = b.length := by omega
    have h3 : ¬ a = b := fun e => hl (by rw [e])
    simp -implicitDefEqProofs [rc_ref02_SameItems, rr_ref02_SameItems, hl', h3]

theorem sameIssue_pc (a b : Iss) (h1 : Sml a.its) (h2 : Sml a.dms) : PC Tryd.prog G 31 [.agg (isa a), .agg (isa b)] (.bool (decide (a = b))) := by
  (refine pc_ref02_SameIssue (Nat.le_of_ble_eq_true rfl) fun R hG hrd => GO_AR mixed 1000 ?_; subst hG)
  by_cases e1 : a.d = b.d
  case neg =>
    have e : ¬ a = b := fun e => e1 (by rw [e])
    simp -implicitDefEqProofs [rc_ref02_SameIssue, rr_ref02_SameIssue, isa, e1, e]
  by_cases e2 : a.l = b.l
  case neg =>
    have e : ¬ a = b := fun e => e2 (by rw [e])
    simp -implicitDefEqProofs [rc_ref02_SameIssue, rr_ref02_SameIssue, isa, e1, e2, e]
  by_cases e3 : a.k = b.k
  case neg =>
    have e : ¬ a = b := fun e => e3 (by rw [e])
    simp -implicitDefEqProofs [rc_ref02_SameIssue, rr_ref02_SameIssue, isa, e1, e2, e3, e]
  simp -implicitDefEqProofs [rc_ref02_SameIssue, rr_ref02_SameIssue, isa, e1, e2, e3]
  (first | refine CallK.of (sameItems_pc a.its b.its h1) (by simp) ?_ | refine CallD.of (sameItems_pc a.its b.its h1) (by simp) ?_)
  by_cases e4 : a.its = b.its
  case neg =>
    have e : ¬ a = b := fun e => e4 (by rw [e])
    simp -implicitDefEqProofs [e4, e]
  by_cases e5 : a.dms.length = b.dms.length
  case neg =>
    have e5' : ¬ (a.dms.length : Int) = b.dms.length := by omega
    have e : ¬ a = b := fun e => e5 (by rw [e])
    simp -implicitDefEqProofs [e4, e5', e]
  have e5' : (a.dms.length : Int) = b.dms.length := by omega
  simp -implicitDefEqProofs [e4, e5']
  refine AR_for (fun i => ⟨[(5, .int .i64 i), (2, .ptr 2 0), (3, .ptr 3 0)], [(2, .box (isa a)), (3, .box (isa b))]⟩) (fun i => ∀ j (h : j < a.dms.length), j < i → a.dms[j] = b.dms[j]) a.dms.length (by (first | exact Weak.tm (by simp [lk, isa, e1, e2, e3, e4]) | exact Weak.sub (by simp [lk, keptA, AV.keys, isa, e1, e2, e3, e4]) (by simp [lk, keptO, keptA, AV.keys, isa, e1, e2, e3, e4]))) (by simp) ?_ ?_
  · intro i hi he
    refine GO_AR mixed 1000 ?_
    unfold Sml at h2
    have hi2 : i < b.dms.length := by omega
    have w1 : IntKind.i64.wrap ((i : Int) + 1) = ((i + 1 : Nat) : Int) := wrapI (by omega) (by omega)
    simp -implicitDefEqProofs [hi, hi2, isa, dma]
    refine ⟨rfl, ?_⟩
    by_cases h2 : a.dms[i] = b.dms[i]
    · simp -implicitDefEqProofs [h2, w1]
      refine ⟨(by (first | exact Weak.tm (by simp [lk, isa, dma]) | exact Weak.sub (by simp [lk, keptA, AV.keys, isa, dma]) (by simp [lk, keptO, keptA, AV.keys, isa, dma]))), fun j h1 h3 => ?_⟩
      by_cases e : j = i
      · subst e; exact h2
      · exact he j h1 (by omega)
    · have h3 : ¬ a = b := fun e => h2 (by subst e; rfl)
      rw [dm_ne h2]
      simp -implicitDefEqProofs []
      refine GO_ret mixed 1000 ?_
      simp -implicitDefEqProofs [h3]
  · intro he
    refine GO_AR mixed 1000 ?_
    have h3 : a.dms = b.dms := List.ext_getElem e5 fun j h1 h2 => he j h1 h1
    have h4 : a = b := by cases a; cases b; simp_all
    simp -implicitDefEqProofs [isa]
    refine GO_ret mixed 1000 ?_
    simp -implicitDefEqProofs [h4]

/-- All lists of a register are such that a machine can hold them. -/
def SmlR (r : List Iss) : Prop := Sml r ∧ ∀ x ∈ r, Sml x.its ∧ Sml x.dms

theorem same_pc (a b : List Iss) (ha : SmlR a) : PC Tryd.prog G 32 [rega a, rega b] (.bool (decide (a = b))) := by
  (refine pc_ref02_Same (Nat.le_of_ble_eq_true rfl) fun R hG hrd => GO_AR mixed 1000 ?_; subst hG)
  by_cases hl : a.length = b.length
  · have hl' : (a.length : Int) = b.length := by omega
    simp -implicitDefEqProofs [rc_ref02_Same, rr_ref02_Same, hl', rega]
    refine AR_for (fun i => ⟨[(5, .int .i64 i), (2, .ptr 2 0), (3, .ptr 3 0)], [(2, .box [.vsl (a.map isa)]), (3, .box [.vsl (b.map isa)])]⟩) (fun i => ∀ j (h : j < a.length), j < i → a[j] = b[j]) a.length (by (first | exact Weak.tm (by simp [lk]) | exact Weak.sub (by simp [lk, keptA, AV.keys]) (by simp [lk, keptO, keptA, AV.keys]))) (by simp) ?_ ?_
    · intro i hi he
      refine GO_AR mixed 1000 ?_
      have hs := ha.1
      unfold Sml at hs
      have hi2 : i < b.length := by omega
      have w1 : IntKind.i64.wrap ((i : Int) + 1) = ((i + 1 : Nat) : Int) := wrapI (by omega) (by omega)
      have hx := ha.2 a[i] (List.getElem_mem hi)
      simp -implicitDefEqProofs [hi, hi2, isa]
      (first | refine CallK.of (sameIssue_pc a[i] b[i] hx.1 hx.2) (by simp) ?_ | refine CallD.of (sameIssue_pc a[i] b[i] hx.1 hx.2) (by simp) ?_)
      simp -implicitDefEqProofs []
      refine ⟨rfl, ?_⟩
      by_cases h2 : a[i] = b[i]
      · simp -implicitDefEqProofs [h2, w1]
        refine ⟨(by (first | exact Weak.tm (by simp [lk]) | exact Weak.sub (by simp [lk, keptA, AV.keys]) (by simp [lk, keptO, keptA, AV.keys]))), fun j h1 h3 => ?_⟩
        by_cases e : j = i
        · subst e; exact h2
        · exact he j h1 (by omega)
      · have h3 : ¬ a = b := fun e => h2 (by subst e; rfl)
        simp -implicitDefEqProofs [h2]
        refine GO_ret mixed 1000 ?_
        simp -implicitDefEqProofs [h3]
    · intro he
      refine GO_AR mixed 1000 ?_
      have h3 : a = b := List.ext_getElem hl fun j h1 h2 => he j h1 h1
      simp -implicitDefEqProofs []
      refine GO_ret mixed 1000 ?_
      simp -implicitDefEqProofs [h3]
  · have hl' : ¬ (a.length : Int) = b.length := by omega
    have h3 : ¬ a = b := fun e => hl (by rw [e])
    simp -implicitDefEqProofs [rc_ref02_Same, rr_ref02_Same, hl', h3, rega]

end
end Go.Proofs.YtdpmioiamcgfkaaDoor

/-! What the reference's functions on registers compute: twins, great ones, numbers, the last letter, an issue. -/
namespace Go.Proofs.YtdpmioiamcgfkaaDoor
open Go.RowKit

/-- An issue at a place. -/
def at' (r : List Iss) (i : Nat) : Iss := r.getD i default
theorem at_eq {r : List Iss} {i : Nat} (h : i < r.length) : at' r i = r[i] := by simp [at', List.getD, h]

/-- The drawings' numbers. -/
def newB (r : List Iss) (i : Nat) : Bool := i == 0 || !decide ((at' r (i - 1)).d = (at' r i).d)
def numsN (r : List Iss) : Nat → List Int
  | 0 => []
  | i + 1 => if newB r i = true then numsN r i ++ [(at' r i).d] else numsN r i
def nums (r : List Iss) : List Int := numsN r r.length
theorem numsN_len (r : List Iss) : ∀ i, (numsN r i).length ≤ i
  | 0 => by simp [numsN]
  | i + 1 => by
    have := numsN_len r i
    simp only [numsN]
    split
    · simp; omega
    · omega
/-- The greatest letter. -/
def lastN (r : List Iss) (n : Int) : Nat → Int
  | 0 => 0
  | i + 1 => if (at' r i).d = n then max (lastN r n i) (at' r i).l else lastN r n i
def lastV (r : List Iss) (n : Int) : Int := lastN r n r.length

/-- An issue by its name. -/
def findN (d l : Int) : List Iss → Option Iss
  | [] => none
  | x :: r => if x.d = d ∧ x.l = l then some x else findN d l r
def noIs : AV := .agg [.int .i64 0, .int .i64 0, .int .u8 0, .nils, .nils]
def fndA : Option Iss → AV
  | some x => .tup [.agg (isa x), .bool true]
  | none => .tup [noIs, .bool false]

/-- Larger than the statements consider. -/
def greatB (r : List Iss) : Bool := decide (80 < r.length) || r.any fun x => decide (16 < x.its.length) || decide (8 < x.dms.length)

theorem findN_at {d l : Int} : ∀ {r : List Iss} {i : Nat} (h : i < r.length), r[i].d = d → r[i].l = l → (∀ j (h : j < r.length), j < i → ¬ (r[j].d = d ∧ r[j].l = l)) → findN d l r = some r[i]
  | x :: r, 0, h, h1, h2, _ => by simp only [findN]; rw [if_pos ⟨h1, h2⟩]; rfl
  | x :: r, i + 1, h, h1, h2, hb => by
    simp only [findN]
    rw [if_neg (show ¬ (x.d = d ∧ x.l = l) from hb 0 (by simp) (by omega))]
    exact findN_at (by simpa using h) h1 h2 fun j hj hi => hb (j + 1) (by simpa using hj) (by omega)
section
variable {G : Nat → Option (List AV)}

theorem great_pc (r : List Iss) (h : Sml r) : PC Tryd.prog G 18 [rega r] (.bool (greatB r)) := by
  (refine pc_ref02_Great (Nat.le_of_ble_eq_true rfl) fun R hG hrd => GO_AR mixed 1000 ?_; subst hG)
  unfold Sml at h
  by_cases h1 : 80 < r.length
  · have h1' : (80 : Int) < r.length := by omega
    simp -implicitDefEqProofs [rc_ref02_Great, rr_ref02_Great, rega, h1', greatB, h1]
  have h1' : ¬ (80 : Int) < r.length := by omega
  simp -implicitDefEqProofs [rc_ref02_Great, rr_ref02_Great, rega, h1']
  refine AR_for (fun i => ⟨[(3, .int .i64 i), (1, .ptr 1 0)], [(1, .box [.vsl (r.map isa)])]⟩) (fun i => ∀ j (h : j < r.length), j < i → r[j].its.length ≤ 16 ∧ r[j].dms.length ≤ 8) r.length (by (first | exact Weak.tm (by simp [lk]) | exact Weak.sub (by simp [lk, keptA, AV.keys]) (by simp [lk, keptO, keptA, AV.keys]))) (by simp) ?_ ?_
  · intro i hi he
    refine GO_AR mixed 1000 ?_
    have w1 : IntKind.i64.wrap ((i : Int) + 1) = ((i + 1 : Nat) : Int) := wrapI (by omega) (by omega)
    have bad : (16 < r[i].its.length ∨ 8 < r[i].dms.length) → greatB r = true := fun hb => by
      simp only [greatB, Bool.or_eq_true, List.any_eq_true, decide_eq_true_eq]
      exact .inr ⟨r[i], List.getElem_mem hi, hb⟩
    by_cases h2 : 16 < r[i].its.length
    · have h2' : (16 : Int) < r[i].its.length := by omega
      simp -implicitDefEqProofs [hi, isa, h2']
      refine GO_ret mixed 1000 ?_
      simp -implicitDefEqProofs [bad (.inl h2)]
    have h2' : ¬ (16 : Int) < r[i].its.length := by omega
    by_cases h3 : 8 < r[i].dms.length
    · have h3' : (8 : Int) < r[i].dms.length := by omega
      simp -implicitDefEqProofs [hi, isa, h2', h3']
      refine GO_ret mixed 1000 ?_
      simp -implicitDefEqProofs [bad (.inr h3)]
    have h3' : ¬ (8 : Int) < r[i].dms.length := by omega
    simp -implicitDefEqProofs [hi, isa, h2', h3', w1]
    refine ⟨(by (first | exact Weak.tm (by simp [lk]) | exact Weak.sub (by simp [lk, keptA, AV.keys]) (by simp [lk, keptO, keptA, AV.keys]))), fun j q1 q3 => ?_⟩
    by_cases e : j = i
    · subst e; exact ⟨by omega, by omega⟩
    · exact he j q1 (by omega)
  · intro he
    refine GO_AR mixed 1000 ?_
    have hg : greatB r = false := by
      simp only [greatB, Bool.or_eq_false_iff, decide_eq_false_iff_not, h1, not_false_eq_true, true_and, List.any_eq_false, Bool.not_eq_true, Bool.or_eq_true, decide_eq_true_eq]
      intro x hx
      obtain ⟨j, hj, rfl⟩ := List.getElem_of_mem hx
      have := he j hj hj
      omega
    simp -implicitDefEqProofs []
    refine GO_ret mixed 1000 ?_
    simp -implicitDefEqProofs [hg]

theorem lastOf_pc (r : List Iss) (n : Int) (h : Sml r) : PC Tryd.prog G 59 [rega r, .int .i64 n] (.int .i64 (lastV r n)) := by
  (refine pc_ref02_LastOf (Nat.le_of_ble_eq_true rfl) fun R hG hrd => GO_AR mixed 1000 ?_; subst hG)
  unfold Sml at h
  simp -implicitDefEqProofs [rc_ref02_LastOf, rr_ref02_LastOf, rega]
  refine AR_for (fun i => ⟨[(6, .int .i64 i), (5, .int .i64 (lastN r n i)), (2, .ptr 2 0), (1, .int .i64 n)], [(2, .box [.vsl (r.map isa)])]⟩) (fun _ => True) r.length (by (first | exact Weak.tm (by simp [lk, lastN]) | exact Weak.sub (by simp [lk, keptA, AV.keys, lastN]) (by simp [lk, keptO, keptA, AV.keys, lastN]))) trivial ?_ ?_
  · intro i hi he
    refine GO_AR mixed 1000 ?_
    have w1 : IntKind.i64.wrap ((i : Int) + 1) = ((i + 1 : Nat) : Int) := wrapI (by omega) (by omega)
    have e1 := at_eq hi
    by_cases h2 : r[i].d = n
    · simp -implicitDefEqProofs [hi, isa, h2, w1]
      exact Weak.sub (by simp [lk, keptA, AV.keys, lastN, e1, h2]) (by simp [lk, keptO, keptA, AV.keys])
    · simp -implicitDefEqProofs [hi, isa, h2, w1]
      exact Weak.sub (by simp [lk, keptA, AV.keys, lastN, e1, h2]) (by simp [lk, keptO, keptA, AV.keys])
  · intro he
    refine GO_AR mixed 1000 ?_
    simp -implicitDefEqProofs []
    refine GO_ret mixed 1000 ?_
    simp -implicitDefEqProofs [lastV]

end
end Go.Proofs.YtdpmioiamcgfkaaDoor

/-! What the reference's functions on registers compute: numbers, a valid issue. -/
namespace Go.Proofs.YtdpmioiamcgfkaaDoor
open Go.RowKit

/-- The item at a place is right. -/
def itAt (x : Iss) (i : Nat) : Int × Int := x.its.getD i (0, 0)
def itOk (x : Iss) (i : Nat) : Bool := inR (itAt x i).1 1 9999 && inR (itAt x i).2 1 20 && !decide ((itAt x i).1 = x.d) && (i == 0 || decide ((itAt x (i - 1)).1 < (itAt x i).1))
def headB (x : Iss) : Bool := inR x.d 1 9999 && inR x.l 1 8 && inR x.k 1 3 && (if x.k = 1 then inR x.its.length 1 8 && decide (x.dms.length = 0) else decide (x.dms.length ≤ 4) && decide (x.its.length = 0))
/-- An issue that is valid by itself. -/
def issB (x : Iss) : Bool := headB x && (List.range x.its.length).all (itOk x) && x.dms.all vd

theorem range_all {n : Nat} {p : Nat → Bool} : (List.range n).all p = true ↔ ∀ j, j < n → p j = true := by simp [List.all_eq_true]

section
variable {G : Nat → Option (List AV)}

def nuS (r : List Iss) : Nat → St
  | 0 => ⟨[(4, .int .i64 0), (3, .nils), (1, .ptr 1 0)], [(1, .box [.vsl (r.map isa)])]⟩
  | i + 1 => ⟨[(4, .int .i64 (i + 1 : Nat)), (3, .osl 35 (numsN r (i + 1)).length), (1, .ptr 1 0)], [(1, .box [.vsl (r.map isa)]), (35, .row 1 ((numsN r (i + 1)).map ia))]⟩

theorem numbers_pc (r : List Iss) (h : Sml r) (h0 : r ≠ []) : PC Tryd.prog G 55 [rega r] (.vsl ((nums r).map ia)) := by
  (refine pc_ref02_Numbers (Nat.le_of_ble_eq_true rfl) fun R hG hrd => GO_AR mixed 1000 ?_; subst hG)
  unfold Sml at h
  simp -implicitDefEqProofs [rc_ref02_Numbers, rr_ref02_Numbers, rega]
  refine AR_for (nuS r) (fun _ => True) r.length (by simp only [nuS]; (first | exact Weak.tm (by simp [lk]) | exact Weak.sub (by simp [lk, keptA, AV.keys]) (by simp [lk, keptO, keptA, AV.keys]))) trivial ?_ ?_
  · intro i hi he
    refine GO_AR mixed 1000 ?_
    have e1 := at_eq hi
    cases i with
    | zero =>
      have hn : numsN r 1 = [r[0].d] := by simp [numsN, newB, e1]
      have w1 : IntKind.i64.wrap 1 = 1 := rfl
      simp -implicitDefEqProofs [nuS, hi, isa, w1]
      exact Weak.sub (by simp [lk, keptA, AV.keys, hn]) (by simp [lk, keptO, keptA, AV.keys, hn, ia])
    | succ i =>
      have w1 : IntKind.i64.wrap ((i : Int) + 1 + 1) = (i : Int) + 1 + 1 := wrapI (by omega) (by omega)
      have w2 : IntKind.i64.wrap (i : Int) = (i : Int) := wrapI (by omega) (by omega)
      have k1 : (i : Int) + 1 < r.length := by omega
      have k2 : ((i : Int) + 1).toNat = i + 1 := by omega
      have k3 : (0 : Int) ≤ (i : Int) + 1 := by omega
      have k4 : ¬ (i : Int) + 1 = 0 := by omega
      have hi2 : i < r.length := by omega
      have e2 := at_eq hi2
      have b1 := numsN_len r (i + 1)
      have b2 : ((numsN r (i + 1)).length + 1) * 8 ≤ 70368744177664 := by omega
      by_cases h2 : r[i].d = r[i + 1].d
      · have hn : numsN r (i + 1 + 1) = numsN r (i + 1) := by rw [numsN]; simp [newB, e1, e2, h2]
        simp -implicitDefEqProofs [nuS, hi, hi2, k1, k2, k3, k4, isa, w1, w2, h2]
        exact Weak.sub (by simp [lk, keptA, AV.keys, hn]) (by simp [lk, keptO, keptA, AV.keys, hn, ia])
      · have hn : numsN r (i + 1 + 1) = numsN r (i + 1) ++ [r[i + 1].d] := by rw [numsN]; simp [newB, e1, e2, h2]
        simp -implicitDefEqProofs [nuS, hi, hi2, k1, k2, k3, k4, isa, w1, w2, h2, b2]
        exact Weak.sub (by simp [lk, keptA, AV.keys, hn]) (by simp [lk, keptO, keptA, AV.keys, hn, ia])
  · intro he
    refine GO_AR mixed 1000 ?_
    obtain ⟨n, hn⟩ : ∃ n, r.length = n + 1 := ⟨r.length - 1, by
      have : r.length ≠ 0 := by simpa using h0
      omega⟩
    have e : numsN r (n + 1) = nums r := by rw [nums, hn]
    have pu : ((nums r).map ia).all (fun x => x.all AV.pure) = true := by simp [ia, AV.pure]
    rw [hn]
    have k1 : ¬ (n : Int) + 1 < n + 1 := by omega
    simp -implicitDefEqProofs [nuS, e, hn, k1]
    refine GO_ret mixed 1000 ?_
    simp -implicitDefEqProofs [pu]

theorem issue_pc (x : Iss) (h1 : Sml x.its) (h2 : Sml x.dms) (hk : 0 ≤ x.k ∧ x.k ≤ 255) : PC Tryd.prog G 107 [.agg (isa x)] (.bool (issB x)) := by
  (refine pc_ref02_Issue (Nat.le_of_ble_eq_true rfl) fun R hG hrd => GO_AR mixed 1000 ?_; subst hG)
  unfold Sml at h1 h2
  have wk : IntKind.i64.wrap x.k = x.k := wrapI (by omega) (by omega)
  have bad : headB x = false → issB x = false := fun e => by simp [issB, e]
  simp -implicitDefEqProofs [rc_ref02_Issue, rr_ref02_Issue, isa]
  (first | refine CallK.of (within_pc _ _ _) (by simp) ?_ | refine CallD.of (within_pc _ _ _) (by simp) ?_)
  cases q1 : inR x.d 1 9999
  · simp -implicitDefEqProofs [bad (by simp [headB, q1])]
  simp -implicitDefEqProofs []
  (first | refine CallK.of (within_pc _ _ _) (by simp) ?_ | refine CallD.of (within_pc _ _ _) (by simp) ?_)
  cases q2 : inR x.l 1 8
  · simp -implicitDefEqProofs [bad (by simp [headB, q2])]
  simp -implicitDefEqProofs [wk]
  (first | refine CallK.of (within_pc _ _ _) (by simp) ?_ | refine CallD.of (within_pc _ _ _) (by simp) ?_)
  cases q3 : inR x.k 1 3
  · simp -implicitDefEqProofs [bad (by simp [headB, q3])]
  have q3' : 1 ≤ x.k ∧ x.k ≤ 3 := of_decide_eq_true q3
  by_cases c1 : x.k = 1
  · simp -implicitDefEqProofs [c1]
    (first | refine CallK.of (within_pc _ _ _) (by simp) ?_ | refine CallD.of (within_pc _ _ _) (by simp) ?_)
    cases q4 : inR x.its.length 1 8
    · simp -implicitDefEqProofs [bad (by simp [headB, q4, c1])]
    have n1 : ¬ (1 : Int) < 1 := by omega
    by_cases q5 : x.dms.length = 0
    · have q5n : ¬ 0 < x.dms.length := by omega
      have hB : headB x = true := by simp [headB, q1, q2, c1, q4, q5]; rfl
      simp -implicitDefEqProofs [q5n, q5]
      refine AR_for (fun i => ⟨[(3, .int .i64 i), (1, .ptr 1 0)], [(1, .box (isa x))]⟩) (fun i => ∀ j, j < i → itOk x j = true) x.its.length (by (first | exact Weak.tm (by simp [lk, isa, c1]) | exact Weak.sub (by simp [lk, keptA, AV.keys, isa, c1]) (by simp [lk, keptO, keptA, AV.keys, isa, c1]))) (by simp) ?_ ?_
      · intro i hi he
        refine GO_AR mixed 1000 ?_
        have w1 : IntKind.i64.wrap ((i : Int) + 1) = ((i + 1 : Nat) : Int) := wrapI (by omega) (by omega)
        have a1 : itAt x i = x.its[i] := by simp [itAt, List.getD, hi]
        have no : itOk x i = false → issB x = false := fun e => by
          cases hI : issB x
          · rfl
          · simp only [issB, Bool.and_eq_true] at hI
            rw [range_all.1 hI.1.2 i hi] at e; cases e
        simp -implicitDefEqProofs [hi, isa, ita]
        (first | refine CallK.of (within_pc _ _ _) (by simp) ?_ | refine CallD.of (within_pc _ _ _) (by simp) ?_)
        cases p1 : inR x.its[i].1 1 9999
        · simp -implicitDefEqProofs []
          refine ⟨rfl, ?_⟩
          refine GO_ret mixed 1000 ?_
          simp -implicitDefEqProofs [no (by simp [itOk, a1, p1])]
        simp -implicitDefEqProofs []
        (first | refine CallK.of (within_pc _ _ _) (by simp) ?_ | refine CallD.of (within_pc _ _ _) (by simp) ?_)
        cases p2 : inR x.its[i].2 1 20
        · simp -implicitDefEqProofs []
          refine ⟨rfl, ?_⟩
          refine GO_ret mixed 1000 ?_
          simp -implicitDefEqProofs [no (by simp [itOk, a1, p2])]
        by_cases p3 : x.its[i].1 = x.d
        · simp -implicitDefEqProofs [p3]
          refine ⟨rfl, ?_⟩
          refine GO_ret mixed 1000 ?_
          simp -implicitDefEqProofs [no (by simp [itOk, a1, p3])]
        cases i with
        | zero =>
          have ok : itOk x 0 = true := by simp [itOk, a1, p1, p2, p3]
          have w0 : IntKind.i64.wrap 1 = 1 := rfl
          simp -implicitDefEqProofs [p3, w0]
          exact ⟨rfl, (by (first | exact Weak.tm (by simp [lk, isa]) | exact Weak.sub (by simp [lk, keptA, AV.keys, isa]) (by simp [lk, keptO, keptA, AV.keys, isa]))), ok⟩
        | succ i =>
          have w2 : IntKind.i64.wrap (i : Int) = (i : Int) := wrapI (by omega) (by omega)
          have w3 : IntKind.i64.wrap ((i : Int) + 1 + 1) = (i : Int) + 1 + 1 := wrapI (by omega) (by omega)
          have k3 : (0 : Int) < (i : Int) + 1 := by omega
          have hi2 : i < x.its.length := by omega
          have a2 : itAt x i = x.its[i] := by simp [itAt, List.getD, hi2]
          by_cases p4 : x.its[i + 1].1 ≤ x.its[i].1
          · simp -implicitDefEqProofs [p3, k3, w2, hi2, ita, p4]
            refine ⟨rfl, ?_⟩
            refine GO_ret mixed 1000 ?_
            simp -implicitDefEqProofs [no (by simp [itOk, a1, a2, p4])]
          · have ok : itOk x (i + 1) = true := by simp [itOk, a1, a2, p1, p2, p3]; omega
            simp -implicitDefEqProofs [p3, k3, w2, w3, hi2, ita, p4]
            refine ⟨rfl, (by (first | exact Weak.tm (by simp [lk, isa]) | exact Weak.sub (by simp [lk, keptA, AV.keys, isa]) (by simp [lk, keptO, keptA, AV.keys, isa]))), fun j hj => ?_⟩
            by_cases e : j = i + 1
            · subst e; exact ok
            · exact he j (by omega)
      · intro he
        refine GO_AR mixed 1000 ?_
        have hI : (List.range x.its.length).all (itOk x) = true := range_all.2 he
        simp -implicitDefEqProofs [isa]
        refine GO_ret mixed 1000 ?_
        simp -implicitDefEqProofs []
        refine AR_for (fun i => ⟨[(5, .int .i64 i), (1, .ptr 1 0)], [(1, .box (isa x))]⟩) (fun i => ∀ j (h : j < x.dms.length), j < i → vd x.dms[j] = true) x.dms.length (by (first | exact Weak.tm (by simp [lk, isa]) | exact Weak.sub (by simp [lk, keptA, AV.keys, isa]) (by simp [lk, keptO, keptA, AV.keys, isa]))) (by simp) ?_ ?_
        · intro i hi he
          refine GO_AR mixed 1000 ?_
          have w1 : IntKind.i64.wrap ((i : Int) + 1) = ((i + 1 : Nat) : Int) := wrapI (by omega) (by omega)
          simp -implicitDefEqProofs [hi, isa, dma]
          (first | refine CallK.of (dim_pc _ _ _) (by simp) ?_ | refine CallD.of (dim_pc _ _ _) (by simp) ?_)
          cases p1 : vd x.dms[i]
          · have hn : issB x = false := by
              cases hI2 : issB x
              · rfl
              · simp only [issB, Bool.and_eq_true] at hI2
                rw [List.all_eq_true.1 hI2.2 _ (List.getElem_mem hi)] at p1; cases p1
            have p1' : vd ⟨x.dms[i].n, x.dms[i].l, x.dms[i].u⟩ = false := p1
            simp -implicitDefEqProofs [p1']
            refine GO_ret mixed 1000 ?_
            simp -implicitDefEqProofs [hn]
          · have p1' : vd ⟨x.dms[i].n, x.dms[i].l, x.dms[i].u⟩ = true := p1
            simp -implicitDefEqProofs [p1', w1]
            refine ⟨(by (first | exact Weak.tm (by simp [lk, isa]) | exact Weak.sub (by simp [lk, keptA, AV.keys, isa]) (by simp [lk, keptO, keptA, AV.keys, isa]))), fun j h1 hj => ?_⟩
            by_cases e : j = i
            · subst e; exact p1
            · exact he j h1 (by omega)
        · intro hd
          refine GO_AR mixed 1000 ?_
          have hD : x.dms.all vd = true := List.all_eq_true.2 fun y hy => by
            obtain ⟨j, hj, rfl⟩ := List.getElem_of_mem hy
            exact hd j hj hj
          have hT : issB x = true := by simp [issB, hB, hI, hD]
          simp -implicitDefEqProofs [isa]
          refine GO_ret mixed 1000 ?_
          simp -implicitDefEqProofs [hT]
    · have q5n : 0 < x.dms.length := by omega
      simp -implicitDefEqProofs [q5n, bad (by simp [headB, q5, c1])]
  · have c2 : 1 < x.k := by omega
    by_cases q4 : x.dms.length ≤ 4
    case neg =>
      have q4n : 4 < x.dms.length := by omega
      have q4i : (4 : Int) < x.dms.length := by omega
      simp -implicitDefEqProofs [c1, c2, q4n, q4i, bad (by simp [headB, q4, c1])]
    have q4n : ¬ 4 < x.dms.length := by omega
    have q4i : ¬ (4 : Int) < x.dms.length := by omega
    by_cases q5 : x.its.length = 0
    · have q5n : ¬ 0 < x.its.length := by omega
      have hB : headB x = true := by simp [headB, q1, q2, q3, c1, q4, q5]
      simp -implicitDefEqProofs [c1, c2, q4n, q4i, q5n, q5]
      refine AR_for (fun i => ⟨[(3, .int .i64 i), (1, .ptr 1 0)], [(1, .box (isa x))]⟩) (fun i => ∀ j, j < i → itOk x j = true) x.its.length (by (first | exact Weak.tm (by simp [lk, isa, c1]) | exact Weak.sub (by simp [lk, keptA, AV.keys, isa, c1]) (by simp [lk, keptO, keptA, AV.keys, isa, c1]))) (by simp) ?_ ?_
      · intro i hi he
        refine GO_AR mixed 1000 ?_
        have w1 : IntKind.i64.wrap ((i : Int) + 1) = ((i + 1 : Nat) : Int) := wrapI (by omega) (by omega)
        have a1 : itAt x i = x.its[i] := by simp [itAt, List.getD, hi]
        have no : itOk x i = false → issB x = false := fun e => by
          cases hI : issB x
          · rfl
          · simp only [issB, Bool.and_eq_true] at hI
            rw [range_all.1 hI.1.2 i hi] at e; cases e
        simp -implicitDefEqProofs [hi, isa, ita]
        (first | refine CallK.of (within_pc _ _ _) (by simp) ?_ | refine CallD.of (within_pc _ _ _) (by simp) ?_)
        cases p1 : inR x.its[i].1 1 9999
        · simp -implicitDefEqProofs []
          refine ⟨rfl, ?_⟩
          refine GO_ret mixed 1000 ?_
          simp -implicitDefEqProofs [no (by simp [itOk, a1, p1])]
        simp -implicitDefEqProofs []
        (first | refine CallK.of (within_pc _ _ _) (by simp) ?_ | refine CallD.of (within_pc _ _ _) (by simp) ?_)
        cases p2 : inR x.its[i].2 1 20
        · simp -implicitDefEqProofs []
          refine ⟨rfl, ?_⟩
          refine GO_ret mixed 1000 ?_
          simp -implicitDefEqProofs [no (by simp [itOk, a1, p2])]
        by_cases p3 : x.its[i].1 = x.d
        · simp -implicitDefEqProofs [p3]
          refine ⟨rfl, ?_⟩
          refine GO_ret mixed 1000 ?_
          simp -implicitDefEqProofs [no (by simp [itOk, a1, p3])]
        cases i with
        | zero =>
          have ok : itOk x 0 = true := by simp [itOk, a1, p1, p2, p3]
          have w0 : IntKind.i64.wrap 1 = 1 := rfl
          simp -implicitDefEqProofs [p3, w0]
          exact ⟨rfl, (by (first | exact Weak.tm (by simp [lk, isa]) | exact Weak.sub (by simp [lk, keptA, AV.keys, isa]) (by simp [lk, keptO, keptA, AV.keys, isa]))), ok⟩
        | succ i =>
          have w2 : IntKind.i64.wrap (i : Int) = (i : Int) := wrapI (by omega) (by omega)
          have w3 : IntKind.i64.wrap ((i : Int) + 1 + 1) = (i : Int) + 1 + 1 := wrapI (by omega) (by omega)
          have k3 : (0 : Int) < (i : Int) + 1 := by omega
          have hi2 : i < x.its.length := by omega
          have a2 : itAt x i = x.its[i] := by simp [itAt, List.getD, hi2]
          by_cases p4 : x.its[i + 1].1 ≤ x.its[i].1
          · simp -implicitDefEqProofs [p3, k3, w2, hi2, ita, p4]
            refine ⟨rfl, ?_⟩
            refine GO_ret mixed 1000 ?_
            simp -implicitDefEqProofs [no (by simp [itOk, a1, a2, p4])]
          · have ok : itOk x (i + 1) = true := by simp [itOk, a1, a2, p1, p2, p3]; omega
            simp -implicitDefEqProofs [p3, k3, w2, w3, hi2, ita, p4]
            refine ⟨rfl, (by (first | exact Weak.tm (by simp [lk, isa]) | exact Weak.sub (by simp [lk, keptA, AV.keys, isa]) (by simp [lk, keptO, keptA, AV.keys, isa]))), fun j hj => ?_⟩
            by_cases e : j = i + 1
            · subst e; exact ok
            · exact he j (by omega)
      · intro he
        refine GO_AR mixed 1000 ?_
        have hI : (List.range x.its.length).all (itOk x) = true := range_all.2 he
        simp -implicitDefEqProofs [isa]
        refine GO_ret mixed 1000 ?_
        simp -implicitDefEqProofs []
        refine AR_for (fun i => ⟨[(5, .int .i64 i), (1, .ptr 1 0)], [(1, .box (isa x))]⟩) (fun i => ∀ j (h : j < x.dms.length), j < i → vd x.dms[j] = true) x.dms.length (by (first | exact Weak.tm (by simp [lk, isa]) | exact Weak.sub (by simp [lk, keptA, AV.keys, isa]) (by simp [lk, keptO, keptA, AV.keys, isa]))) (by simp) ?_ ?_
        · intro i hi he
          refine GO_AR mixed 1000 ?_
          have w1 : IntKind.i64.wrap ((i : Int) + 1) = ((i + 1 : Nat) : Int) := wrapI (by omega) (by omega)
          simp -implicitDefEqProofs [hi, isa, dma]
          (first | refine CallK.of (dim_pc _ _ _) (by simp) ?_ | refine CallD.of (dim_pc _ _ _) (by simp) ?_)
          cases p1 : vd x.dms[i]
          · have hn : issB x = false := by
              cases hI2 : issB x
              · rfl
              · simp only [issB, Bool.and_eq_true] at hI2
                rw [List.all_eq_true.1 hI2.2 _ (List.getElem_mem hi)] at p1; cases p1
            have p1' : vd ⟨x.dms[i].n, x.dms[i].l, x.dms[i].u⟩ = false := p1
            simp -implicitDefEqProofs [p1']
            refine GO_ret mixed 1000 ?_
            simp -implicitDefEqProofs [hn]
          · have p1' : vd ⟨x.dms[i].n, x.dms[i].l, x.dms[i].u⟩ = true := p1
            simp -implicitDefEqProofs [p1', w1]
            refine ⟨(by (first | exact Weak.tm (by simp [lk, isa]) | exact Weak.sub (by simp [lk, keptA, AV.keys, isa]) (by simp [lk, keptO, keptA, AV.keys, isa]))), fun j h1 hj => ?_⟩
            by_cases e : j = i
            · subst e; exact p1
            · exact he j h1 (by omega)
        · intro hd
          refine GO_AR mixed 1000 ?_
          have hD : x.dms.all vd = true := List.all_eq_true.2 fun y hy => by
            obtain ⟨j, hj, rfl⟩ := List.getElem_of_mem hy
            exact hd j hj hj
          have hT : issB x = true := by simp [issB, hB, hI, hD]
          simp -implicitDefEqProofs [isa]
          refine GO_ret mixed 1000 ?_
          simp -implicitDefEqProofs [hT]
    · have q5n : 0 < x.its.length := by omega
      simp -implicitDefEqProofs [c1, c2, q4n, q4i, q5n, bad (by simp [headB, q5, c1])]
end
end Go.Proofs.YtdpmioiamcgfkaaDoor

/-! What the reference's functions on registers compute: whether all is valid but for circles and chains. -/
namespace Go.Proofs.YtdpmioiamcgfkaaDoor
open Go.RowKit

/-- What the machine's types say of a register. -/
def Wf (r : List Iss) : Prop := SmlR r ∧ ∀ x ∈ r, 0 ≤ x.k ∧ x.k ≤ 255

/-- An issue stands in order behind the one before it. -/
def ordB (r : List Iss) : Nat → Bool
  | 0 => decide ((at' r 0).l = 1)
  | i + 1 => if (at' r (i + 1)).d < (at' r i).d then false else if (at' r i).d < (at' r (i + 1)).d then decide ((at' r (i + 1)).l = 1)
    else decide ((at' r (i + 1)).l = (at' r i).l + 1) && decide ((at' r (i + 1)).k = (at' r i).k)
def inB (r : List Iss) : Bool := r.all fun x => x.its.all fun y => decide (y.1 ∈ nums r)
/-- All items of an issue are drawings. -/
def ItsIn (r : List Iss) (x : Iss) : Prop := ∀ y ∈ x.its, y.1 ∈ nums r
/-- All is valid but for circles and chains. -/
def listedB (r : List Iss) : Bool := inR r.length 1 60 && r.all issB && (List.range r.length).all (ordB r) && inB r && decide ((nums r).length ≤ 20)

theorem listed_no1 {r : List Iss} {i : Nat} (h : i < r.length) (e : issB r[i] = false) : listedB r = false := by
  cases hI : listedB r
  · rfl
  · simp only [listedB, Bool.and_eq_true] at hI
    rw [List.all_eq_true.1 hI.1.1.1.2 _ (List.getElem_mem h)] at e; cases e
theorem listed_no2 {r : List Iss} {i : Nat} (h : i < r.length) (e : ordB r i = false) : listedB r = false := by
  cases hI : listedB r
  · rfl
  · simp only [listedB, Bool.and_eq_true] at hI
    rw [range_all.1 hI.1.1.2 i h] at e; cases e
theorem listed_no3 {r : List Iss} {i k : Nat} (h : i < r.length) (hk : k < r[i].its.length) (e : r[i].its[k].1 ∉ nums r) : listedB r = false := by
  cases hI : listedB r
  · rfl
  · simp only [listedB, Bool.and_eq_true, inB] at hI
    have := List.all_eq_true.1 (List.all_eq_true.1 hI.1.2 _ (List.getElem_mem h)) _ (List.getElem_mem hk)
    exact absurd (of_decide_eq_true this) e

theorem idx_neg {l : List Int} {n : Int} : idx l n < 0 ↔ n ∉ l := by
  unfold idx
  split
  · rename_i h; simp [h]
  · rename_i h; simp [h]
theorem idx_mem {l : List Int} {n : Int} (h : n ∈ l) : ∃ i : Nat, idx l n = i ∧ i < l.length ∧ l[i]? = some n := by
  refine ⟨l.idxOf n, by rw [idx, if_pos h], List.idxOf_lt_length_iff.2 h, ?_⟩
  have h1 : l.idxOf n < l.length := List.idxOf_lt_length_iff.2 h
  rw [List.getElem?_eq_getElem h1, List.getElem_idxOf h1]

theorem nums_len (r : List Iss) : (nums r).length ≤ r.length := numsN_len r _

section
variable {G : Nat → Option (List AV)}

theorem listed_pc (r : List Iss) (h : Wf r) : PC Tryd.prog G 70 [rega r] (.bool (listedB r)) := by
  (refine pc_ref02_listed (Nat.le_of_ble_eq_true rfl) fun R hG hrd => GO_AR mixed 1000 ?_; subst hG)
  have hs := h.1.1
  unfold Sml at hs
  simp -implicitDefEqProofs [rc_ref02_listed, rr_ref02_listed, rega]
  (first | refine CallK.of (within_pc _ _ _) (by simp) ?_ | refine CallD.of (within_pc _ _ _) (by simp) ?_)
  cases q1 : inR r.length 1 60
  · simp -implicitDefEqProofs [show listedB r = false by simp [listedB, q1]]
  have q1' : 1 ≤ r.length ∧ r.length ≤ 60 := by
    have := of_decide_eq_true q1
    omega
  have hne : r ≠ [] := by intro e; subst e; simp at q1'
  simp -implicitDefEqProofs []
  refine AR_for (fun i => ⟨[(3, .int .i64 i), (1, .ptr 1 0)], [(1, .box [.vsl (r.map isa)])]⟩) (fun i => ∀ j (h : j < r.length), j < i → issB r[j] = true ∧ ordB r j = true) r.length (by (first | exact Weak.tm (by simp [lk]) | exact Weak.sub (by simp [lk, keptA, AV.keys]) (by simp [lk, keptO, keptA, AV.keys]))) (by simp) ?_ ?_
  · intro i hi he
    refine GO_AR mixed 1000 ?_
    have w1 : IntKind.i64.wrap ((i : Int) + 1) = ((i + 1 : Nat) : Int) := wrapI (by omega) (by omega)
    have a1 := at_eq hi
    have hx := h.1.2 r[i] (List.getElem_mem hi)
    have hk := h.2 r[i] (List.getElem_mem hi)
    have go : issB r[i] = true → ordB r i = true → ∀ j (h : j < r.length), j < i + 1 → issB r[j] = true ∧ ordB r j = true := fun g1 g2 j q1 q2 => by
      by_cases e : j = i
      · subst e; exact ⟨g1, g2⟩
      · exact he j q1 (by omega)
    simp -implicitDefEqProofs [hi, isa]
    (first | refine CallK.of (issue_pc r[i] hx.1 hx.2 hk) (by simp) ?_ | refine CallD.of (issue_pc r[i] hx.1 hx.2 hk) (by simp) ?_)
    cases p1 : issB r[i]
    · simp -implicitDefEqProofs []
      refine GO_ret mixed 1000 ?_
      simp -implicitDefEqProofs [listed_no1 hi p1]
    have hd : 1 ≤ r[i].d := by
      have p2 := p1
      simp only [issB, headB, Bool.and_eq_true, inR, decide_eq_true_eq] at p2
      exact p2.1.1.1.1.1.1
    cases i with
    | zero =>
      have n1 : ¬ r[0].d < (0 : Int) := by omega
      have n2 : (0 : Int) < r[0].d := by omega
      by_cases p3 : r[0].l = 1
      · have ok : ordB r 0 = true := by simp [ordB, a1, p3]
        have w0 : IntKind.i64.wrap 1 = 1 := rfl
        simp -implicitDefEqProofs [n1, n2, p3, w0]
        exact ⟨(by (first | exact Weak.tm (by simp [lk]) | exact Weak.sub (by simp [lk, keptA, AV.keys]) (by simp [lk, keptO, keptA, AV.keys]))), fun j q1 q2 => by subst q2; exact ⟨p1, ok⟩⟩
      · simp -implicitDefEqProofs [n1, n2, p3]
        refine GO_ret mixed 1000 ?_
        simp -implicitDefEqProofs [listed_no2 hi (by simp [ordB, a1, p3])]
    | succ i =>
      have w2 : IntKind.i64.wrap (i : Int) = (i : Int) := wrapI (by omega) (by omega)
      have w3 : IntKind.i64.wrap ((i : Int) + 1 + 1) = (i : Int) + 1 + 1 := wrapI (by omega) (by omega)
      have k3 : (0 : Int) < (i : Int) + 1 := by omega
      have hi2 : i < r.length := by omega
      have a2 := at_eq hi2
      have bl := (he i hi2 (by omega)).1
      simp only [issB, headB, Bool.and_eq_true, inR, decide_eq_true_eq] at bl
      have w4 : IntKind.i64.wrap (r[i].l + 1) = r[i].l + 1 := wrapI (by omega) (by omega)
      by_cases p3 : r[i + 1].d < r[i].d
      · simp -implicitDefEqProofs [k3, w2, hi2, isa, p3]
        refine GO_ret mixed 1000 ?_
        simp -implicitDefEqProofs [listed_no2 hi (by simp [ordB, a1, a2, p3])]
      by_cases p4 : r[i].d < r[i + 1].d
      · by_cases p5 : r[i + 1].l = 1
        · have ok : ordB r (i + 1) = true := by simp [ordB, a1, a2, p3, p4, p5]
          simp -implicitDefEqProofs [k3, w2, w3, hi2, isa, p3, p4, p5]
          exact ⟨(by (first | exact Weak.tm (by simp [lk]) | exact Weak.sub (by simp [lk, keptA, AV.keys]) (by simp [lk, keptO, keptA, AV.keys]))), go p1 ok⟩
        · simp -implicitDefEqProofs [k3, w2, hi2, isa, p3, p4, p5]
          refine GO_ret mixed 1000 ?_
          simp -implicitDefEqProofs [listed_no2 hi (by simp [ordB, a1, a2, p3, p4, p5])]
      by_cases p5 : r[i + 1].l = r[i].l + 1
      case neg =>
        simp -implicitDefEqProofs [k3, w2, w4, hi2, isa, p3, p4, p5]
        refine GO_ret mixed 1000 ?_
        simp -implicitDefEqProofs [listed_no2 hi (by simp [ordB, a1, a2, p3, p4, p5])]
      by_cases p6 : r[i + 1].k = r[i].k
      · have ok : ordB r (i + 1) = true := by simp [ordB, a1, a2, p3, p4, p5, p6]
        simp -implicitDefEqProofs [k3, w2, w3, w4, hi2, isa, p3, p4, p5, p6]
        exact ⟨(by (first | exact Weak.tm (by simp [lk]) | exact Weak.sub (by simp [lk, keptA, AV.keys]) (by simp [lk, keptO, keptA, AV.keys]))), go p1 ok⟩
      · simp -implicitDefEqProofs [k3, w2, w4, hi2, isa, p3, p4, p5, p6]
        refine GO_ret mixed 1000 ?_
        simp -implicitDefEqProofs [listed_no2 hi (by simp [ordB, a1, a2, p3, p4, p5, p6])]
  · intro he
    refine GO_AR mixed 1000 ?_
    have g1 : r.all issB = true := List.all_eq_true.2 fun x hx => by
      obtain ⟨j, hj, rfl⟩ := List.getElem_of_mem hx
      exact (he j hj hj).1
    have g2 : (List.range r.length).all (ordB r) = true := range_all.2 fun j hj => (he j hj hj).2
    have hns : Sml (nums r) := by have := nums_len r; unfold Sml; omega
    simp -implicitDefEqProofs []
    refine GO_ret mixed 1000 ?_
    simp -implicitDefEqProofs []
    (first | refine CallK.of (numbers_pc r h.1.1 hne) (by simp) ?_ | refine CallD.of (numbers_pc r h.1.1 hne) (by simp) ?_)
    simp -implicitDefEqProofs []
    refine AR_for (fun i => ⟨[(7, .int .i64 i), (6, .vsl ((nums r).map ia)), (1, .ptr 1 0)], [(1, .box [.vsl (r.map isa)])]⟩) (fun i => ∀ j (h : j < r.length), j < i → ItsIn r r[j]) r.length (by (first | exact Weak.tm (by simp [lk]) | exact Weak.sub (by simp [lk, keptA, AV.keys]) (by simp [lk, keptO, keptA, AV.keys]))) (by simp) ?_ ?_
    · intro i hi hb
      refine GO_AR mixed 1000 ?_
      have w1 : IntKind.i64.wrap ((i : Int) + 1) = ((i + 1 : Nat) : Int) := wrapI (by omega) (by omega)
      have hx := (h.1.2 r[i] (List.getElem_mem hi)).1
      unfold Sml at hx
      simp -implicitDefEqProofs [hi]
      refine AR_for (fun k => ⟨[(8, .int .i64 k), (7, .int .i64 i), (6, .vsl ((nums r).map ia)), (1, .ptr 1 0)], [(1, .box [.vsl (r.map isa)])]⟩) (fun k => ∀ j (h : j < r[i].its.length), j < k → r[i].its[j].1 ∈ nums r) r[i].its.length (by (first | exact Weak.tm (by simp [lk]) | exact Weak.sub (by simp [lk, keptA, AV.keys]) (by simp [lk, keptO, keptA, AV.keys]))) (by simp) ?_ ?_
      · intro k hk hc
        refine GO_AR mixed 1000 ?_
        have w2 : IntKind.i64.wrap ((k : Int) + 1) = ((k + 1 : Nat) : Int) := wrapI (by omega) (by omega)
        simp -implicitDefEqProofs [hi, isa, hk, ita]
        (first | refine CallK.of (index_pc (nums r) _ hns) (by simp) ?_ | refine CallD.of (index_pc (nums r) _ hns) (by simp) ?_)
        by_cases p1 : r[i].its[k].1 ∈ nums r
        · have n1 : ¬ idx (nums r) r[i].its[k].1 < 0 := fun e => idx_neg.1 e p1
          simp -implicitDefEqProofs [n1, w2]
          refine ⟨(by (first | exact Weak.tm (by simp [lk]) | exact Weak.sub (by simp [lk, keptA, AV.keys]) (by simp [lk, keptO, keptA, AV.keys]))), fun j q1 q2 => ?_⟩
          by_cases e : j = k
          · subst e; exact p1
          · exact hc j q1 (by omega)
        · have n1 : idx (nums r) r[i].its[k].1 < 0 := idx_neg.2 p1
          simp -implicitDefEqProofs [n1]
          refine GO_ret mixed 1000 ?_
          simp -implicitDefEqProofs []
          refine GO_ret mixed 1000 ?_
          simp -implicitDefEqProofs [listed_no3 hi hk p1]
      · intro hc
        refine GO_AR mixed 1000 ?_
        simp -implicitDefEqProofs [hi, isa]
        refine GO_ret mixed 1000 ?_
        simp -implicitDefEqProofs [w1]
        refine ⟨(by (first | exact Weak.tm (by simp [lk]) | exact Weak.sub (by simp [lk, keptA, AV.keys]) (by simp [lk, keptO, keptA, AV.keys]))), fun j q1 q2 => ?_⟩
        by_cases e : j = i
        · subst e
          intro y hy
          obtain ⟨n, hn, rfl⟩ := List.getElem_of_mem hy
          exact hc n hn hn
        · exact hb j q1 (by omega)
    · intro hb
      refine GO_AR mixed 1000 ?_
      have g3 : inB r = true := List.all_eq_true.2 fun x hx => List.all_eq_true.2 fun y hy => by
        obtain ⟨j, hj, rfl⟩ := List.getElem_of_mem hx
        exact decide_eq_true (hb j hj hj y hy)
      have g4 : listedB r = decide ((nums r).length ≤ 20) := by simp [listedB, q1, g1, g2, g3]
      simp -implicitDefEqProofs []
      refine GO_ret mixed 1000 ?_
      simp -implicitDefEqProofs [g4]
      omega
end
end Go.Proofs.YtdpmioiamcgfkaaDoor

/-! Registers in order: their numbers; how long chains are, round by round; what depths and Check of the reference compute. -/
namespace Go.Proofs.YtdpmioiamcgfkaaDoor
open Go.RowKit

/-- Issues are in the order of their drawings. -/
def Ord (r : List Iss) : Prop := ∀ i, i + 1 < r.length → (at' r i).d ≤ (at' r (i + 1)).d
theorem Ord.mono {r : List Iss} (h : Ord r) : ∀ {i j : Nat}, i ≤ j → j < r.length → (at' r i).d ≤ (at' r j).d := by
  intro i j hij hj
  induction j with
  | zero => obtain rfl : i = 0 := by omega
            exact Int.le_refl _
  | succ j ih =>
    by_cases e : i = j + 1
    · subst e; exact Int.le_refl _
    · exact Int.le_trans (ih (by omega) (by omega)) (h j hj)
theorem ord_of {r : List Iss} (h : listedB r = true) : Ord r := by
  intro i hi
  simp only [listedB, Bool.and_eq_true] at h
  have := range_all.1 h.1.1.2 (i + 1) hi
  simp only [ordB] at this
  split at this
  · cases this
  · omega

theorem numsN_spec {r : List Iss} (h : Ord r) : ∀ i, i ≤ r.length → (numsN r i).Pairwise (· < ·) ∧ (∀ y ∈ numsN r i, ∃ j, j < i ∧ (at' r j).d = y) ∧ ∀ j, j < i → (at' r j).d ∈ numsN r i := by
  intro i
  induction i with
  | zero => intro _; simp [numsN]
  | succ i ih =>
    intro hi
    obtain ⟨h1, h2, h3⟩ := ih (by omega)
    simp only [numsN]
    split
    · rename_i hb
      refine ⟨List.pairwise_append.2 ⟨h1, by simp, fun a ha b hb' => ?_⟩, fun y hy => ?_, fun j hj => ?_⟩
      · simp only [List.mem_singleton] at hb'
        subst hb'
        obtain ⟨j, hj, rfl⟩ := h2 a ha
        simp only [newB, Bool.or_eq_true, beq_iff_eq, Bool.not_eq_true', decide_eq_false_iff_not] at hb
        have m1 := h.mono (show j ≤ i - 1 by omega) (by omega)
        have m2 := h.mono (show i - 1 ≤ i by omega) (by omega)
        rcases hb with hb | hb
        · omega
        · omega
      · rcases List.mem_append.1 hy with hy | hy
        · obtain ⟨j, hj, e⟩ := h2 y hy; exact ⟨j, by omega, e⟩
        · exact ⟨i, by omega, (List.mem_singleton.1 hy).symm⟩
      · by_cases e : j = i
        · subst e; simp
        · exact List.mem_append.2 (.inl (h3 j (by omega)))
    · rename_i hb
      refine ⟨h1, fun y hy => ?_, fun j hj => ?_⟩
      · obtain ⟨j, hj, e⟩ := h2 y hy; exact ⟨j, by omega, e⟩
      · by_cases e : j = i
        · subst e
          simp only [newB, Bool.or_eq_true, beq_iff_eq, Bool.not_eq_true', decide_eq_false_iff_not, not_or, Decidable.not_not] at hb
          rw [← hb.2]
          exact h3 _ (by omega)
        · exact h3 j (by omega)

theorem nums_lt {r : List Iss} (h : Ord r) : (nums r).Pairwise (· < ·) := (numsN_spec h _ (Nat.le_refl _)).1
theorem nums_nodup {r : List Iss} (h : Ord r) : (nums r).Nodup := (nums_lt h).imp fun h => Int.ne_of_lt h
theorem nums_of {r : List Iss} (h : Ord r) {n : Int} (hn : n ∈ nums r) : ∃ i, ∃ hi : i < r.length, r[i].d = n := by
  obtain ⟨i, hi, e⟩ := (numsN_spec h _ (Nat.le_refl _)).2.1 n hn
  exact ⟨i, hi, by rw [← at_eq hi]; exact e⟩
theorem nums_mem {r : List Iss} (h : Ord r) {i : Nat} (hi : i < r.length) : r[i].d ∈ nums r := by
  have := (numsN_spec h _ (Nat.le_refl _)).2.2 i hi
  rwa [at_eq hi] at this

/-- How long chains are, one round more. -/
def dvIt (f : Int → Int) (m : Int) (its : List (Int × Int)) : Int := its.foldl (fun m y => max m (1 + f y.1)) m
def dvN (r : List Iss) (f : Int → Int) (n : Int) : Nat → Int
  | 0 => 0
  | i + 1 => if (at' r i).d = n then dvIt f (max (dvN r f n i) 1) (at' r i).its else dvN r f n i
def Dv (r : List Iss) : Nat → Int → Int
  | 0, _ => 0
  | k + 1, n => dvN r (Dv r k) n r.length

theorem dvIt_bd {f : Int → Int} {K : Int} (hf : ∀ n, 0 ≤ f n ∧ f n ≤ K) : ∀ (its : List (Int × Int)) (m : Int), 0 ≤ m → m ≤ K + 1 → 0 ≤ dvIt f m its ∧ dvIt f m its ≤ K + 1
  | [], m, h1, h2 => ⟨h1, h2⟩
  | y :: its, m, h1, h2 => by
    have := hf y.1
    exact dvIt_bd hf its (max m (1 + f y.1)) (by omega) (by omega)
theorem dvN_bd (r : List Iss) {f : Int → Int} {K : Int} (hK : 0 ≤ K) (hf : ∀ n, 0 ≤ f n ∧ f n ≤ K) (n : Int) : ∀ i, 0 ≤ dvN r f n i ∧ dvN r f n i ≤ K + 1
  | 0 => by simp only [dvN]; omega
  | i + 1 => by
    have := dvN_bd r hK hf n i
    simp only [dvN]
    split
    · exact dvIt_bd hf _ _ (by omega) (by omega)
    · exact this
theorem Dv_bd (r : List Iss) : ∀ k n, 0 ≤ Dv r k n ∧ Dv r k n ≤ k
  | 0, n => by simp [Dv]
  | k + 1, n => by
    have := dvN_bd r (K := (k : Int)) (by omega) (Dv_bd r k) n r.length
    simp only [Dv]; omega

/-- A row of numbers, by the drawings. -/
def rowF (l : List Int) (g : Int → Int) : List (List AV) := l.map fun n => [.int .i64 (g n)]
theorem rowF_set {l : List Int} (hn : l.Nodup) {g : Int → Int} {j : Nat} {d v : Int} (hj : l[j]? = some d) : (rowF l g).set j [.int .i64 v] = rowF l fun n => if n = d then v else g n := by
  apply List.ext_getElem?
  intro i
  obtain ⟨hlt, he⟩ := List.getElem?_eq_some_iff.1 hj
  simp only [rowF, List.getElem?_set, List.getElem?_map, List.length_map]
  by_cases e : j = i
  · subst e
    simp [hlt, he]
  · rw [if_neg e]
    cases hi : l[i]? with
    | none => rfl
    | some x =>
      obtain ⟨hlt2, he2⟩ := List.getElem?_eq_some_iff.1 hi
      have : x ≠ d := fun q => e ((List.getElem_inj hn).1 (by rw [he, he2, q]))
      simp [this]
theorem rowF_len {l : List Int} {g : Int → Int} : (rowF l g).length = l.length := by simp [rowF]
theorem rowF_pure {l : List Int} {g : Int → Int} : (rowF l g).all (fun r => r.all AV.pure) = true := by simp [rowF, AV.pure]
theorem rowF_all {l : List Int} {g : Int → Int} {p : List AV → Bool} : (rowF l g).all p = l.all fun n => p [.int .i64 (g n)] := by simp [rowF, List.all_map, Function.comp_def]
attribute [simp] rowF_all
theorem rowF_at {l : List Int} {g : Int → Int} {j : Nat} (h : j < (rowF l g).length) : (rowF l g)[j] = [.int .i64 (g (l[j]'(by simpa [rowF] using h)))] := by simp [rowF]
attribute [simp] rowF_at rowF_len
theorem rowF_rep {l : List Int} : List.replicate l.length [AV.int .i64 0] = rowF l fun _ => 0 := by
  simp only [rowF]; induction l with
  | nil => rfl
  | cons x l ih => simp [List.replicate_succ, ih]

theorem dvIt_take (f : Int → Int) (m : Int) (its : List (Int × Int)) (k : Nat) (h : k < its.length) : dvIt f m (its.take (k + 1)) = max (dvIt f m (its.take k)) (1 + f its[k].1) := by
  rw [List.take_succ_eq_append_getElem h, dvIt, List.foldl_append]; rfl
theorem ite_same {d : Int} {v v0 : Int} {g : Int → Int} : (fun n => if n = d then v else if n = d then v0 else g n) = fun n => if n = d then v else g n := by
  funext n; split <;> rfl

theorem Weak.trans {a b c : St} (h : Weak a b) (g : Weak b c) : Weak a c := fun R x W s => g R x W (h R x W s)

section
variable {G : Nat → Option (List AV)}

set_option maxRecDepth 8000 in
theorem depthsR_pc (r : List Iss) (h : Wf r) (hL : listedB r = true) : PC Tryd.prog G 71 [rega r] (.vsl (rowF (nums r) (Dv r ((nums r).length + 1)))) := by
  (refine pc_ref02_depths (Nat.le_of_ble_eq_true rfl) fun R hG hrd => GO_AR mixed 1000 ?_; subst hG)
  have hs := h.1.1
  unfold Sml at hs
  have hO := ord_of hL
  have hl := nums_len r
  have hnd := nums_nodup hO
  have hL2 := hL
  simp only [listedB, Bool.and_eq_true, inB, decide_eq_true_eq] at hL2
  obtain ⟨⟨⟨⟨l1, l2⟩, l3⟩, l4⟩, l5⟩ := hL2
  have l1' := of_decide_eq_true l1
  have hne : r ≠ [] := by intro e; subst e; simp at l1'
  have hns : Sml (nums r) := by unfold Sml; omega
  simp -implicitDefEqProofs [rc_ref02_depths, rr_ref02_depths, rega]
  (first | refine CallK.of (numbers_pc r h.1.1 hne) (by simp) ?_ | refine CallD.of (numbers_pc r h.1.1 hne) (by simp) ?_)
  have b1 : ((nums r).length : Int) ≤ 16777216 := by omega
  simp -implicitDefEqProofs [b1, rowF_rep]
  refine AR_for (fun k => ⟨[(5, .int .i64 k), (4, .vsl (rowF (nums r) (Dv r k))), (3, .vsl ((nums r).map ia)), (1, .ptr 1 0)], [(1, .box [.vsl (r.map isa)])]⟩) (fun _ => True) ((nums r).length + 1) ?_ trivial ?_ ?_
  · refine Weak.trans (Weak.frz (fun k => k == 15) _) ?_
    have e0 : (fun n => Dv r 0 n) = fun _ => 0 := rfl
    exact Weak.sub (by simp [lk, keptA, AV.keys, frzSt, frzA, frzO, frz, snapF, St.get, rowF_len, rowF_pure, Dv, Function.const]) (by simp [lk, keptO, keptA, AV.keys, frzSt, frzA, frzO, frz]) (by simp [frzSt, lk]; try omega)
  · intro k hk _
    refine GO_AR mixed 1000 ?_
    have k1 : (k : Int) ≤ (nums r).length := by omega
    simp -implicitDefEqProofs [k1, b1, rowF_rep]
    have bd := Dv_bd r k
    have hkb : (k : Int) ≤ 61 := by omega
    refine AR_for (fun i => ⟨[(7, .int .i64 i), (6, .osl 24 (nums r).length), (5, .int .i64 k), (4, .vsl (rowF (nums r) (Dv r k))), (3, .vsl ((nums r).map ia)), (1, .ptr 1 0)], [(1, .box [.vsl (r.map isa)]), (24, .row 1 (rowF (nums r) fun n => dvN r (Dv r k) n i))]⟩) (fun _ => True) r.length (by (first | exact Weak.tm (by simp [lk, dvN]) | exact Weak.sub (by simp [lk, keptA, AV.keys, dvN]) (by simp [lk, keptO, keptA, AV.keys, dvN]))) trivial ?_ ?_
    · intro i hi _
      refine GO_AR mixed 1000 ?_
      have w1 : IntKind.i64.wrap ((i : Int) + 1) = ((i + 1 : Nat) : Int) := wrapI (by omega) (by omega)
      have a1 := at_eq hi
      have hx := (h.1.2 r[i] (List.getElem_mem hi)).1
      unfold Sml at hx
      have hits : ∀ m (hm : m < r[i].its.length), r[i].its[m].1 ∈ nums r := fun m hm =>
        of_decide_eq_true (List.all_eq_true.1 (List.all_eq_true.1 l4 _ (List.getElem_mem hi)) _ (List.getElem_mem hm))
      simp -implicitDefEqProofs [hi, isa]
      (first | refine CallK.of (index_pc (nums r) _ hns) (by simp) ?_ | refine CallD.of (index_pc (nums r) _ hns) (by simp) ?_)
      obtain ⟨j, hj, hlt, hget⟩ := idx_mem (nums_mem hO hi)
      rw [hj]
      have hset := fun g v => rowF_set (g := g) (v := v) hnd hget
      have hgt : (nums r)[j] = r[i].d := (List.getElem?_eq_some_iff.1 hget).2
      simp -implicitDefEqProofs [hlt, hgt, hset]
      refine AR_for (fun m => ⟨[(10, .int .i64 m), (9, .int .i64 j), (8, .ptr 8 0), (7, .int .i64 i), (6, .osl 24 (nums r).length), (5, .int .i64 k), (4, .vsl (rowF (nums r) (Dv r k))), (3, .vsl ((nums r).map ia)), (1, .ptr 1 0)],
        [(1, .box [.vsl (r.map isa)]), (8, .box (isa r[i])), (24, .row 1 (rowF (nums r) fun n => if n = r[i].d then dvIt (Dv r k) (max (dvN r (Dv r k) r[i].d i) 1) (r[i].its.take m) else dvN r (Dv r k) n i))]⟩) (fun _ => True) r[i].its.length (by (first | exact Weak.tm (by simp [lk, dvIt, isa]) | exact Weak.sub (by simp [lk, keptA, AV.keys, dvIt, isa]) (by simp [lk, keptO, keptA, AV.keys, dvIt, isa]))) trivial ?_ ?_
      · intro m hm _
        refine GO_AR mixed 1000 ?_
        have w2 : IntKind.i64.wrap ((m : Int) + 1) = ((m + 1 : Nat) : Int) := wrapI (by omega) (by omega)
        obtain ⟨j2, hj2, hlt2, hget2⟩ := idx_mem (hits m hm)
        have hgt2 : (nums r)[j2] = r[i].its[m].1 := (List.getElem?_eq_some_iff.1 hget2).2
        have bd2 := bd r[i].its[m].1
        have w3 : IntKind.i64.wrap (1 + Dv r k r[i].its[m].1) = 1 + Dv r k r[i].its[m].1 := wrapI (by omega) (by omega)
        simp -implicitDefEqProofs [isa, hm, ita, hlt, hgt]
        (first | refine CallK.of (index_pc (nums r) _ hns) (by simp) ?_ | refine CallD.of (index_pc (nums r) _ hns) (by simp) ?_)
        rw [hj2]
        have tk := dvIt_take (Dv r k) (max (dvN r (Dv r k) r[i].d i) 1) r[i].its m hm
        simp -implicitDefEqProofs [hlt2, hgt2, w2, w3, hlt, hgt, hset, ite_same]
        refine ⟨rfl, ?_⟩
        rw [← tk]
        (first | exact Weak.tm (by simp [lk, isa]) | exact Weak.sub (by simp [lk, keptA, AV.keys, isa]) (by simp [lk, keptO, keptA, AV.keys, isa]))
      · intro _
        refine GO_AR mixed 1000 ?_
        simp -implicitDefEqProofs [isa]
        refine GO_ret mixed 1000 ?_
        simp -implicitDefEqProofs [w1]
        have e : (fun n => if n = r[i].d then dvIt (Dv r k) (max (dvN r (Dv r k) r[i].d i) 1) r[i].its else dvN r (Dv r k) n i) = fun n => dvN r (Dv r k) n (i + 1) := by
          funext n
          simp only [dvN, a1]
          by_cases q : r[i].d = n
          · subst q; simp
          · rw [if_neg q, if_neg (fun e => q e.symm)]
        rw [e]
        (first | exact Weak.tm (by simp [lk]) | exact Weak.sub (by simp [lk, keptA, AV.keys]) (by simp [lk, keptO, keptA, AV.keys]))
    · intro _
      refine GO_AR mixed 1000 ?_
      simp -implicitDefEqProofs []
      refine GO_ret mixed 1000 ?_
      have w1 : IntKind.i64.wrap ((k : Int) + 1) = ((k + 1 : Nat) : Int) := wrapI (by omega) (by omega)
      simp -implicitDefEqProofs [w1]
      have e : (fun n => dvN r (Dv r k) n r.length) = Dv r (k + 1) := rfl
      rw [e]
      refine Weak.trans (Weak.frz (fun k => k == 24) _) ?_
      exact Weak.sub (by simp [lk, keptA, AV.keys, frzSt, frzA, frzO, frz, snapF, St.get, rowF_pure]) (by simp [lk, keptO, keptA, AV.keys, frzSt, frzA, frzO, frz]) (by simp [frzSt, lk]; try omega)
  · intro _
    refine GO_AR mixed 1000 ?_
    have k1 : ¬ ((nums r).length : Int) + 1 ≤ (nums r).length := by omega
    simp -implicitDefEqProofs [k1]
    refine GO_ret mixed 1000 ?_
    simp -implicitDefEqProofs []
end
end Go.Proofs.YtdpmioiamcgfkaaDoor

/-! What Check, Drawings, Last, At, Depth of the reference compute. -/
namespace Go.Proofs.YtdpmioiamcgfkaaDoor
open Go.RowKit

theorem rega_pure (r : List Iss) : (rega r).pure = true := by simp [rega, AV.pure]
attribute [simp] rega_pure

/-- The longest chain of all. -/
def mostV (l : List Int) (g : Int → Int) : Int := l.foldl (fun m n => max m (g n)) 0
/-- The error of a register. -/
def chkV (r : List Iss) : Int := if listedB r = true then
    if ((nums r).length : Int) < mostV (nums r) (Dv r ((nums r).length + 1)) then 21 else if 6 < mostV (nums r) (Dv r ((nums r).length + 1)) then 20 else 0
  else 20
def zI : Iss := ⟨0, 0, 0, [], []⟩
theorem findN_mem {d l : Int} : ∀ {r : List Iss} {x : Iss}, findN d l r = some x → x ∈ r ∧ x.d = d ∧ x.l = l
  | [], x, h => by simp [findN] at h
  | y :: r, x, h => by
    simp only [findN] at h
    split at h
    · rename_i e; cases h; exact ⟨List.mem_cons_self .., e⟩
    · obtain ⟨h1, h2⟩ := findN_mem h; exact ⟨List.mem_cons_of_mem _ h1, h2⟩
theorem mostV_take (l : List Int) (g : Int → Int) (k : Nat) (h : k < l.length) : mostV (l.take (k + 1)) g = max (mostV (l.take k) g) (g l[k]) := by
  rw [List.take_succ_eq_append_getElem h, mostV, List.foldl_append]; rfl

section
variable {G : Nat → Option (List AV)}

theorem checkR_pc (r : List Iss) (h : Wf r) : PC Tryd.prog G 25 [rega r] (.int .i64 (chkV r)) := by
  (refine pc_ref02_Check (Nat.le_of_ble_eq_true rfl) fun R hG hrd => GO_AR mixed 1000 ?_; subst hG)
  simp -implicitDefEqProofs [rc_ref02_Check, rr_ref02_Check, rega]
  (first | refine CallK.of (listed_pc r h) (by simp) ?_ | refine CallD.of (listed_pc r h) (by simp) ?_)
  cases hL : listedB r
  · simp -implicitDefEqProofs [show chkV r = 20 by simp [chkV, hL]]
  simp -implicitDefEqProofs []
  (first | refine CallK.of (depthsR_pc r h hL) (by simp) ?_ | refine CallD.of (depthsR_pc r h hL) (by simp) ?_)
  have hs := h.1.1
  unfold Sml at hs
  have hl := nums_len r
  simp -implicitDefEqProofs []
  refine AR_for (fun k => ⟨[(5, .int .i64 k), (4, .int .i64 (mostV ((nums r).take k) (Dv r ((nums r).length + 1)))), (3, .vsl (rowF (nums r) (Dv r ((nums r).length + 1)))), (1, .ptr 1 0)], [(1, .box [.vsl (r.map isa)])]⟩) (fun _ => True) (nums r).length (by (first | exact Weak.tm (by simp [lk, mostV]) | exact Weak.sub (by simp [lk, keptA, AV.keys, mostV]) (by simp [lk, keptO, keptA, AV.keys, mostV]))) trivial ?_ ?_
  · intro k hk _
    refine GO_AR mixed 1000 ?_
    have w1 : IntKind.i64.wrap ((k : Int) + 1) = ((k + 1 : Nat) : Int) := wrapI (by omega) (by omega)
    have tk := mostV_take (nums r) (Dv r ((nums r).length + 1)) k hk
    simp -implicitDefEqProofs [hk, w1]
    rw [← tk]
    (first | exact Weak.tm (by simp [lk]) | exact Weak.sub (by simp [lk, keptA, AV.keys]) (by simp [lk, keptO, keptA, AV.keys]))
  · intro _
    refine GO_AR mixed 1000 ?_
    simp -implicitDefEqProofs []
    refine GO_ret mixed 1000 ?_
    generalize hm : mostV (nums r) (Dv r ((nums r).length + 1)) = m
    by_cases q1 : ((nums r).length : Int) < m
    · simp -implicitDefEqProofs [q1, show chkV r = 21 by simp [chkV, hL, hm, q1]]
    by_cases q2 : 6 < m
    · simp -implicitDefEqProofs [q1, q2, show chkV r = 20 by simp [chkV, hL, hm, q1, q2]]
    · simp -implicitDefEqProofs [q1, q2, show chkV r = 0 by simp [chkV, hL, hm, q1, q2]]

end
end Go.Proofs.YtdpmioiamcgfkaaDoor
