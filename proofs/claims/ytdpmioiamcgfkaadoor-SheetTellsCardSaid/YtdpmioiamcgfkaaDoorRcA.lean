/-
  The abstract machine's code of functions of the program, as a program of ours printed it; that it is theirs is proved beside each.
-/
import Derived.Test.YtdpmioiamcgfkaaDoorAmO
import Derived.Test.YtdpmioiamcgfkaaDoorProg
namespace Go.Proofs.YtdpmioiamcgfkaaDoor
open Go.RowKit

def rc_ref01_within : RCode :=
  .seq (.reg 0 false [
    { d := some 6, op := .mov (.c (.bool false)) }])
  (.seq (.reg 1 false [
    { d := some 7, op := .mov (.t 0) },
    { d := some 8, op := .mov (.t 1) },
    { d := some 9, op := .bin .geq (.t 7) (.t 8) },
    { d := some 10, op := .mov (.t 9) },
    { d := some 11, op := .mov (.t 0), guard := some (10, true) },
    { d := some 12, op := .mov (.t 2), guard := some (10, true) },
    { d := some 13, op := .bin .leq (.t 11) (.t 12), guard := some (10, true) },
    { d := some 14, op := .pick (.t 10) (.t 13) (.c (.bool false)) },
    { d := some 6, op := .mov (.t 14) }])
  (.ret))
def rr_ref01_within : List RRes := [.t 6]
theorem pc_ref01_within {G : Nat → Option (List AV)} {args : List AV} {v : AV} (hn : args.length ≤ Tryd.f136.ntmps) (h : ∀ R : Run, R.G = G → R.Top → AR Tryd.prog R rc_ref01_within (initSt args) (Fin rr_ref01_within v)) : PC Tryd.prog G 136 args v :=
  PC_of Tryd.func136 rfl (by kernel_rfl) (rc := rc_ref01_within) (by kernel_rfl) (rs := rr_ref01_within) (by kernel_rfl) hn (fun R _ hG hr => h R hG hr)

theorem pb_ref01_within {G : Nat → Option (List AV)} {objs objs' : List (Nat × AObj)} {args : List AV} {v : AV} (hn : args.length ≤ Tryd.f136.ntmps) (h : ∀ R : Run, R.G = G → R.Top → AR Tryd.prog R rc_ref01_within ⟨iniT 0 args, objs⟩ (FinB rr_ref01_within v objs')) : PB Tryd.prog G 136 objs args v objs' :=
  PB_of Tryd.func136 rfl (by kernel_rfl) (rc := rc_ref01_within) (by kernel_rfl) (rs := rr_ref01_within) (by kernel_rfl) hn (fun R _ hG hr => h R hG hr)

theorem pp_ref01_within {G : Nat → Option (List AV)} {args : List AV} {ch : List PanicEntry} (hn : args.length ≤ Tryd.f136.ntmps) (h : ∀ R : Run, R.G = G → R.Top → AR Tryd.prog R rc_ref01_within (initSt args) (FinP ch)) : PPC Tryd.prog G 136 args ch :=
  PPC_of Tryd.func136 rfl (by kernel_rfl) (rc := rc_ref01_within) (by kernel_rfl) hn (fun R _ hG hr => h R hG hr)

def rc_ref01_Dim : RCode :=
  .seq (.reg 0 false [
    { d := some 1, op := .box (.t 0) },
    { d := some 2, op := .mov (.c (.bool false)) }])
  (.seq (.reg 1 false [
    { d := some 3, op := .faddr 0 (.t 1) },
    { d := some 4, op := .load false 1 (.t 3) },
    { d := some 5, op := .call 136 [.t 4, .c (.int .i64 0), .c (.int .i64 1000000000)] },
    { d := some 6, op := .mov (.t 5) },
    { d := some 7, op := .faddr 2 (.t 1), guard := some (6, true) },
    { d := some 8, op := .load false 1 (.t 7), guard := some (6, true) },
    { d := some 9, op := .call 136 [.t 8, .c (.int .i64 0), .c (.int .i64 1000000000)], guard := some (6, true) },
    { d := some 10, op := .pick (.t 6) (.t 9) (.c (.bool false)) },
    { d := some 11, op := .mov (.t 10) },
    { d := some 12, op := .faddr 1 (.t 1), guard := some (11, true) },
    { d := some 13, op := .load false 1 (.t 12), guard := some (11, true) },
    { d := some 14, op := .faddr 2 (.t 1), guard := some (11, true) },
    { d := some 15, op := .load false 1 (.t 14), guard := some (11, true) },
    { d := some 16, op := .call 136 [.t 13, .c (.int .i64 0), .t 15], guard := some (11, true) },
    { d := some 17, op := .pick (.t 11) (.t 16) (.c (.bool false)) },
    { d := some 2, op := .mov (.t 17) }])
  (.ret))
def rr_ref01_Dim : List RRes := [.t 2]
theorem pc_ref01_Dim {G : Nat → Option (List AV)} {args : List AV} {v : AV} (hn : args.length ≤ Tryd.f126.ntmps) (h : ∀ R : Run, R.G = G → R.Top → AR Tryd.prog R rc_ref01_Dim (initSt args) (Fin rr_ref01_Dim v)) : PC Tryd.prog G 126 args v :=
  PC_of Tryd.func126 rfl (by kernel_rfl) (rc := rc_ref01_Dim) (by kernel_rfl) (rs := rr_ref01_Dim) (by kernel_rfl) hn (fun R _ hG hr => h R hG hr)

theorem pb_ref01_Dim {G : Nat → Option (List AV)} {objs objs' : List (Nat × AObj)} {args : List AV} {v : AV} (hn : args.length ≤ Tryd.f126.ntmps) (h : ∀ R : Run, R.G = G → R.Top → AR Tryd.prog R rc_ref01_Dim ⟨iniT 0 args, objs⟩ (FinB rr_ref01_Dim v objs')) : PB Tryd.prog G 126 objs args v objs' :=
  PB_of Tryd.func126 rfl (by kernel_rfl) (rc := rc_ref01_Dim) (by kernel_rfl) (rs := rr_ref01_Dim) (by kernel_rfl) hn (fun R _ hG hr => h R hG hr)

theorem pp_ref01_Dim {G : Nat → Option (List AV)} {args : List AV} {ch : List PanicEntry} (hn : args.length ≤ Tryd.f126.ntmps) (h : ∀ R : Run, R.G = G → R.Top → AR Tryd.prog R rc_ref01_Dim (initSt args) (FinP ch)) : PPC Tryd.prog G 126 args ch :=
  PPC_of Tryd.func126 rfl (by kernel_rfl) (rc := rc_ref01_Dim) (by kernel_rfl) hn (fun R _ hG hr => h R hG hr)

def rc_ref02_within : RCode :=
  .seq (.reg 0 false [
    { d := some 6, op := .mov (.c (.bool false)) }])
  (.seq (.reg 1 false [
    { d := some 7, op := .mov (.t 0) },
    { d := some 8, op := .mov (.t 1) },
    { d := some 9, op := .bin .geq (.t 7) (.t 8) },
    { d := some 10, op := .mov (.t 9) },
    { d := some 11, op := .mov (.t 0), guard := some (10, true) },
    { d := some 12, op := .mov (.t 2), guard := some (10, true) },
    { d := some 13, op := .bin .leq (.t 11) (.t 12), guard := some (10, true) },
    { d := some 14, op := .pick (.t 10) (.t 13) (.c (.bool false)) },
    { d := some 6, op := .mov (.t 14) }])
  (.ret))
def rr_ref02_within : List RRes := [.t 6]
theorem pc_ref02_within {G : Nat → Option (List AV)} {args : List AV} {v : AV} (hn : args.length ≤ Tryd.f106.ntmps) (h : ∀ R : Run, R.G = G → R.Top → AR Tryd.prog R rc_ref02_within (initSt args) (Fin rr_ref02_within v)) : PC Tryd.prog G 106 args v :=
  PC_of Tryd.func106 rfl (by kernel_rfl) (rc := rc_ref02_within) (by kernel_rfl) (rs := rr_ref02_within) (by kernel_rfl) hn (fun R _ hG hr => h R hG hr)

theorem pb_ref02_within {G : Nat → Option (List AV)} {objs objs' : List (Nat × AObj)} {args : List AV} {v : AV} (hn : args.length ≤ Tryd.f106.ntmps) (h : ∀ R : Run, R.G = G → R.Top → AR Tryd.prog R rc_ref02_within ⟨iniT 0 args, objs⟩ (FinB rr_ref02_within v objs')) : PB Tryd.prog G 106 objs args v objs' :=
  PB_of Tryd.func106 rfl (by kernel_rfl) (rc := rc_ref02_within) (by kernel_rfl) (rs := rr_ref02_within) (by kernel_rfl) hn (fun R _ hG hr => h R hG hr)

theorem pp_ref02_within {G : Nat → Option (List AV)} {args : List AV} {ch : List PanicEntry} (hn : args.length ≤ Tryd.f106.ntmps) (h : ∀ R : Run, R.G = G → R.Top → AR Tryd.prog R rc_ref02_within (initSt args) (FinP ch)) : PPC Tryd.prog G 106 args ch :=
  PPC_of Tryd.func106 rfl (by kernel_rfl) (rc := rc_ref02_within) (by kernel_rfl) hn (fun R _ hG hr => h R hG hr)

def rc_ref02_Issue : RCode :=
  .seq (.reg 0 false [
    { d := some 1, op := .box (.t 0) },
    { d := some 2, op := .mov (.c (.bool false)) }])
  (.seq (.seq (.reg 1 false [
    { d := some 6, op := .faddr 0 (.t 1) },
    { d := some 7, op := .load false 1 (.t 6) },
    { d := some 8, op := .call 106 [.t 7, .c (.int .i64 1), .c (.int .i64 9999)] },
    { d := some 9, op := .un .not (.t 8) },
    { d := some 10, op := .mov (.t 9) },
    { d := some 11, op := .faddr 1 (.t 1), guard := some (10, false) },
    { d := some 12, op := .load false 1 (.t 11), guard := some (10, false) },
    { d := some 13, op := .call 106 [.t 12, .c (.int .i64 1), .c (.int .i64 8)], guard := some (10, false) },
    { d := some 14, op := .un .not (.t 13), guard := some (10, false) },
    { d := some 15, op := .pick (.t 10) (.c (.bool true)) (.t 14) },
    { d := some 16, op := .mov (.t 15) },
    { d := some 17, op := .faddr 2 (.t 1), guard := some (16, false) },
    { d := some 18, op := .load false 1 (.t 17), guard := some (16, false) },
    { d := some 19, op := .conv .i64 (.t 18), guard := some (16, false) },
    { d := some 20, op := .call 106 [.t 19, .c (.int .i64 1), .c (.int .i64 3)], guard := some (16, false) },
    { d := some 21, op := .un .not (.t 20), guard := some (16, false) },
    { d := some 22, op := .pick (.t 16) (.c (.bool true)) (.t 21) },
    { d := some 23, op := .mov (.t 22) },
    { d := some 24, op := .faddr 2 (.t 1), guard := some (23, false) },
    { d := some 25, op := .load false 1 (.t 24), guard := some (23, false) },
    { d := some 26, op := .bin .eql (.t 25) (.c (.int .u8 1)), guard := some (23, false) },
    { d := some 27, op := .mov (.t 26), guard := some (23, false) },
    { d := some 28, op := .faddr 3 (.t 1), guard := some (27, true) },
    { d := some 29, op := .load false 1 (.t 28), guard := some (27, true) },
    { d := some 30, op := .len (.t 29), guard := some (27, true) },
    { d := some 31, op := .call 106 [.t 30, .c (.int .i64 1), .c (.int .i64 8)], guard := some (27, true) },
    { d := some 32, op := .un .not (.t 31), guard := some (27, true) },
    { d := some 33, op := .mov (.t 32), guard := some (27, true) },
    { d := some 34, op := .faddr 4 (.t 1), guard := some (33, false) },
    { d := some 35, op := .load false 1 (.t 34), guard := some (33, false) },
    { d := some 36, op := .len (.t 35), guard := some (33, false) },
    { d := some 37, op := .bin .gtr (.t 36) (.c (.int .i64 0)), guard := some (33, false) },
    { d := some 38, op := .pick (.t 33) (.c (.bool true)) (.t 37), guard := some (27, true) },
    { d := some 39, op := .pick (.t 27) (.t 38) (.c (.bool false)), guard := some (23, false) },
    { d := some 40, op := .pick (.t 23) (.c (.bool true)) (.t 39) },
    { d := some 41, op := .mov (.t 40) },
    { d := some 42, op := .faddr 2 (.t 1), guard := some (41, false) },
    { d := some 43, op := .load false 1 (.t 42), guard := some (41, false) },
    { d := some 44, op := .bin .gtr (.t 43) (.c (.int .u8 1)), guard := some (41, false) },
    { d := some 45, op := .mov (.t 44), guard := some (41, false) },
    { d := some 46, op := .faddr 4 (.t 1), guard := some (45, true) },
    { d := some 47, op := .load false 1 (.t 46), guard := some (45, true) },
    { d := some 48, op := .len (.t 47), guard := some (45, true) },
    { d := some 49, op := .bin .gtr (.t 48) (.c (.int .i64 4)), guard := some (45, true) },
    { d := some 50, op := .mov (.t 49), guard := some (45, true) },
    { d := some 51, op := .faddr 3 (.t 1), guard := some (50, false) },
    { d := some 52, op := .load false 1 (.t 51), guard := some (50, false) },
    { d := some 53, op := .len (.t 52), guard := some (50, false) },
    { d := some 54, op := .bin .gtr (.t 53) (.c (.int .i64 0)), guard := some (50, false) },
    { d := some 55, op := .pick (.t 50) (.c (.bool true)) (.t 54), guard := some (45, true) },
    { d := some 56, op := .pick (.t 45) (.t 55) (.c (.bool false)), guard := some (41, false) },
    { d := some 57, op := .pick (.t 41) (.c (.bool true)) (.t 56) }])
  (.cond (.t 57)
    (.seq (.reg 2 false [
      { d := some 2, op := .mov (.c (.bool false)) }])
    (.ret))
    (.skip)))
  (.seq (.seq (.reg 3 false [
    { d := some 3, op := .mov (.c (.int .i64 0)) }])
  (.block 0
    (.loop
      (.seq (.seq (.reg 4 false [
        { d := some 58, op := .mov (.t 3) },
        { d := some 59, op := .faddr 3 (.t 1) },
        { d := some 60, op := .load false 1 (.t 59) },
        { d := some 61, op := .len (.t 60) },
        { d := some 62, op := .bin .lss (.t 58) (.t 61) }])
      (.cond (.t 62)
        (.skip)
        (.exit 0)))
      (.seq (.block 1
        (.seq (.reg 6 false [
          { d := some 65, op := .faddr 3 (.t 1) },
          { d := some 66, op := .load false 1 (.t 65) },
          { d := some 67, op := .mov (.t 3) },
          { d := some 68, op := .iaddr 2 (.t 66) (.t 67) },
          { d := some 69, op := .load true 2 (.t 68) },
          { d := some 4, op := .alloc [.int .i64 0, .int .i64 0] },
          { d := none, op := .store 2 (.t 4) (.t 69) }])
        (.seq (.reg 7 true [
          { d := some 70, op := .faddr 0 (.t 4), aft := [] },
          { d := some 71, op := .load false 1 (.t 70), aft := [0] },
          { d := some 72, op := .call 106 [.t 71, .c (.int .i64 1), .c (.int .i64 9999)], aft := [1] },
          { d := some 73, op := .un .not (.t 72), aft := [2] },
          { d := some 74, op := .mov (.t 73), aft := [3, 2] },
          { d := some 75, op := .faddr 1 (.t 4), guard := some (74, false), aft := [4] },
          { d := some 76, op := .load false 1 (.t 75), guard := some (74, false), aft := [5, 4] },
          { d := some 77, op := .call 106 [.t 76, .c (.int .i64 1), .c (.int .i64 20)], guard := some (74, false), aft := [6, 4, 4] },
          { d := some 78, op := .un .not (.t 77), guard := some (74, false), aft := [7, 4] },
          { d := some 79, op := .pick (.t 74) (.c (.bool true)) (.t 78), aft := [4, 8] },
          { d := some 80, op := .mov (.t 79), aft := [9, 7] },
          { d := some 81, op := .faddr 0 (.t 4), guard := some (80, false), aft := [10] },
          { d := some 82, op := .load false 1 (.t 81), guard := some (80, false), aft := [11, 10] },
          { d := some 83, op := .faddr 0 (.t 1), guard := some (80, false), aft := [10] },
          { d := some 84, op := .load false 1 (.t 83), guard := some (80, false), aft := [13, 10] },
          { d := some 85, op := .bin .eql (.t 82) (.t 84), guard := some (80, false), aft := [12, 14, 10] },
          { d := some 86, op := .pick (.t 80) (.c (.bool true)) (.t 85), aft := [10, 15] },
          { d := some 87, op := .mov (.t 86), aft := [16, 10] },
          { d := some 88, op := .mov (.t 3), guard := some (87, false), aft := [17] },
          { d := some 89, op := .bin .gtr (.t 88) (.c (.int .i64 0)), guard := some (87, false), aft := [18, 17] },
          { d := some 90, op := .mov (.t 89), guard := some (87, false), aft := [19, 17, 17] },
          { d := some 91, op := .faddr 3 (.t 1), guard := some (90, true), aft := [20] },
          { d := some 92, op := .load false 1 (.t 91), guard := some (90, true), aft := [21, 20] },
          { d := some 93, op := .mov (.t 3), guard := some (90, true), aft := [20] },
          { d := some 94, op := .bin .sub (.t 93) (.c (.int .i64 1)), guard := some (90, true), aft := [23, 20] },
          { d := some 95, op := .iaddr 2 (.t 92) (.t 94), guard := some (90, true), aft := [22, 24, 20] },
          { d := some 96, op := .faddr 0 (.t 95), guard := some (90, true), aft := [25, 20] },
          { d := some 97, op := .load false 1 (.t 96), guard := some (90, true), aft := [26, 20] },
          { d := some 98, op := .faddr 0 (.t 4), guard := some (90, true), aft := [20] },
          { d := some 99, op := .load false 1 (.t 98), guard := some (90, true), aft := [28, 20] },
          { d := some 100, op := .bin .geq (.t 97) (.t 99), guard := some (90, true), aft := [27, 29, 20] },
          { d := some 101, op := .pick (.t 90) (.t 100) (.c (.bool false)), guard := some (87, false), aft := [20, 30, 17] },
          { d := some 102, op := .pick (.t 87) (.c (.bool true)) (.t 101), aft := [17, 31] }])
        (.cond (.t 102)
          (.seq (.reg 8 false [
            { d := some 2, op := .mov (.c (.bool false)) }])
          (.ret))
          (.skip)))))
      (.reg 5 false [
        { d := some 63, op := .mov (.t 3) },
        { d := some 64, op := .bin .add (.t 63) (.c (.int .i64 1)) },
        { d := some 3, op := .mov (.t 64) }]))))))
  (.seq (.seq (.reg 9 false [
    { d := some 5, op := .mov (.c (.int .i64 0)) }])
  (.block 2
    (.loop
      (.seq (.seq (.reg 10 false [
        { d := some 103, op := .mov (.t 5) },
        { d := some 104, op := .faddr 4 (.t 1) },
        { d := some 105, op := .load false 1 (.t 104) },
        { d := some 106, op := .len (.t 105) },
        { d := some 107, op := .bin .lss (.t 103) (.t 106) }])
      (.cond (.t 107)
        (.skip)
        (.exit 2)))
      (.seq (.block 3
        (.seq (.reg 12 false [
          { d := some 110, op := .faddr 4 (.t 1) },
          { d := some 111, op := .load false 1 (.t 110) },
          { d := some 112, op := .mov (.t 5) },
          { d := some 113, op := .iaddr 3 (.t 111) (.t 112) },
          { d := some 114, op := .load true 3 (.t 113) },
          { d := some 115, op := .call 126 [.t 114] },
          { d := some 116, op := .un .not (.t 115) }])
        (.cond (.t 116)
          (.seq (.reg 13 false [
            { d := some 2, op := .mov (.c (.bool false)) }])
          (.ret))
          (.skip))))
      (.reg 11 false [
        { d := some 108, op := .mov (.t 5) },
        { d := some 109, op := .bin .add (.t 108) (.c (.int .i64 1)) },
        { d := some 5, op := .mov (.t 109) }]))))))
  (.seq (.reg 14 false [
    { d := some 2, op := .mov (.c (.bool true)) }])
  (.ret)))))
def rr_ref02_Issue : List RRes := [.t 2]
theorem pc_ref02_Issue {G : Nat → Option (List AV)} {args : List AV} {v : AV} (hn : args.length ≤ Tryd.f107.ntmps) (h : ∀ R : Run, R.G = G → R.Top → AR Tryd.prog R rc_ref02_Issue (initSt args) (Fin rr_ref02_Issue v)) : PC Tryd.prog G 107 args v :=
  PC_of Tryd.func107 rfl (by kernel_rfl) (rc := rc_ref02_Issue) (by kernel_rfl) (rs := rr_ref02_Issue) (by kernel_rfl) hn (fun R _ hG hr => h R hG hr)

theorem pb_ref02_Issue {G : Nat → Option (List AV)} {objs objs' : List (Nat × AObj)} {args : List AV} {v : AV} (hn : args.length ≤ Tryd.f107.ntmps) (h : ∀ R : Run, R.G = G → R.Top → AR Tryd.prog R rc_ref02_Issue ⟨iniT 0 args, objs⟩ (FinB rr_ref02_Issue v objs')) : PB Tryd.prog G 107 objs args v objs' :=
  PB_of Tryd.func107 rfl (by kernel_rfl) (rc := rc_ref02_Issue) (by kernel_rfl) (rs := rr_ref02_Issue) (by kernel_rfl) hn (fun R _ hG hr => h R hG hr)

theorem pp_ref02_Issue {G : Nat → Option (List AV)} {args : List AV} {ch : List PanicEntry} (hn : args.length ≤ Tryd.f107.ntmps) (h : ∀ R : Run, R.G = G → R.Top → AR Tryd.prog R rc_ref02_Issue (initSt args) (FinP ch)) : PPC Tryd.prog G 107 args ch :=
  PPC_of Tryd.func107 rfl (by kernel_rfl) (rc := rc_ref02_Issue) (by kernel_rfl) hn (fun R _ hG hr => h R hG hr)

def rc_ref02_Numbers : RCode :=
  .seq (.reg 0 false [
    { d := some 1, op := .box (.t 0) },
    { d := some 2, op := .mov (.c (.nils)) }])
  (.seq (.reg 1 false [
    { d := some 3, op := .mov (.c (.nils)) }])
  (.seq (.seq (.reg 2 false [
    { d := some 4, op := .mov (.c (.int .i64 0)) }])
  (.block 0
    (.loop
      (.seq (.seq (.reg 3 false [
        { d := some 6, op := .mov (.t 4) },
        { d := some 7, op := .faddr 0 (.t 1) },
        { d := some 8, op := .load false 1 (.t 7) },
        { d := some 9, op := .len (.t 8) },
        { d := some 10, op := .bin .lss (.t 6) (.t 9) }])
      (.cond (.t 10)
        (.skip)
        (.exit 0)))
      (.seq (.block 1
        (.seq (.reg 5 false [
          { d := some 13, op := .faddr 0 (.t 1) },
          { d := some 14, op := .load false 1 (.t 13) },
          { d := some 15, op := .mov (.t 4) },
          { d := some 16, op := .iaddr 5 (.t 14) (.t 15) },
          { d := some 17, op := .faddr 0 (.t 16) },
          { d := some 18, op := .load false 1 (.t 17) },
          { d := some 5, op := .mov (.t 18) }])
        (.seq (.reg 6 false [
          { d := some 19, op := .mov (.t 4) },
          { d := some 20, op := .bin .eql (.t 19) (.c (.int .i64 0)) },
          { d := some 21, op := .mov (.t 20) },
          { d := some 22, op := .faddr 0 (.t 1), guard := some (21, false) },
          { d := some 23, op := .load false 1 (.t 22), guard := some (21, false) },
          { d := some 24, op := .mov (.t 4), guard := some (21, false) },
          { d := some 25, op := .bin .sub (.t 24) (.c (.int .i64 1)), guard := some (21, false) },
          { d := some 26, op := .iaddr 5 (.t 23) (.t 25), guard := some (21, false) },
          { d := some 27, op := .faddr 0 (.t 26), guard := some (21, false) },
          { d := some 28, op := .load false 1 (.t 27), guard := some (21, false) },
          { d := some 29, op := .mov (.t 5), guard := some (21, false) },
          { d := some 30, op := .bin .neq (.t 28) (.t 29), guard := some (21, false) },
          { d := some 31, op := .pick (.t 21) (.c (.bool true)) (.t 30) }])
        (.cond (.t 31)
          (.reg 7 false [
            { d := some 32, op := .mov (.t 3) },
            { d := some 33, op := .mov (.t 5) },
            { d := some 34, op := .bsl false 1 1 [.int .i64 0] [(0, .t 33)] },
            { d := some 35, op := .app 1 8 (.t 32) (.t 34) },
            { d := some 3, op := .mov (.t 35) }])
          (.skip)))))
      (.reg 4 false [
        { d := some 11, op := .mov (.t 4) },
        { d := some 12, op := .bin .add (.t 11) (.c (.int .i64 1)) },
        { d := some 4, op := .mov (.t 12) }]))))))
  (.seq (.reg 8 false [
    { d := some 36, op := .mov (.t 3) },
    { d := some 2, op := .mov (.t 36) }])
  (.ret))))
def rr_ref02_Numbers : List RRes := [.t 2]
theorem pc_ref02_Numbers {G : Nat → Option (List AV)} {args : List AV} {v : AV} (hn : args.length ≤ Tryd.f55.ntmps) (h : ∀ R : Run, R.G = G → R.Top → AR Tryd.prog R rc_ref02_Numbers (initSt args) (Fin rr_ref02_Numbers v)) : PC Tryd.prog G 55 args v :=
  PC_of Tryd.func55 rfl (by kernel_rfl) (rc := rc_ref02_Numbers) (by kernel_rfl) (rs := rr_ref02_Numbers) (by kernel_rfl) hn (fun R _ hG hr => h R hG hr)

theorem pb_ref02_Numbers {G : Nat → Option (List AV)} {objs objs' : List (Nat × AObj)} {args : List AV} {v : AV} (hn : args.length ≤ Tryd.f55.ntmps) (h : ∀ R : Run, R.G = G → R.Top → AR Tryd.prog R rc_ref02_Numbers ⟨iniT 0 args, objs⟩ (FinB rr_ref02_Numbers v objs')) : PB Tryd.prog G 55 objs args v objs' :=
  PB_of Tryd.func55 rfl (by kernel_rfl) (rc := rc_ref02_Numbers) (by kernel_rfl) (rs := rr_ref02_Numbers) (by kernel_rfl) hn (fun R _ hG hr => h R hG hr)

theorem pp_ref02_Numbers {G : Nat → Option (List AV)} {args : List AV} {ch : List PanicEntry} (hn : args.length ≤ Tryd.f55.ntmps) (h : ∀ R : Run, R.G = G → R.Top → AR Tryd.prog R rc_ref02_Numbers (initSt args) (FinP ch)) : PPC Tryd.prog G 55 args ch :=
  PPC_of Tryd.func55 rfl (by kernel_rfl) (rc := rc_ref02_Numbers) (by kernel_rfl) hn (fun R _ hG hr => h R hG hr)

def rc_ref02_Index : RCode :=
  .seq (.reg 0 false [
    { d := some 4, op := .mov (.c (.int .i64 0)) }])
  (.seq (.seq (.reg 1 false [
    { d := some 5, op := .mov (.c (.int .i64 0)) }])
  (.block 0
    (.loop
      (.seq (.seq (.reg 2 false [
        { d := some 6, op := .mov (.t 5) },
        { d := some 7, op := .mov (.t 0) },
        { d := some 8, op := .len (.t 7) },
        { d := some 9, op := .bin .lss (.t 6) (.t 8) }])
      (.cond (.t 9)
        (.skip)
        (.exit 0)))
      (.seq (.block 1
        (.seq (.reg 4 false [
          { d := some 12, op := .mov (.t 0) },
          { d := some 13, op := .mov (.t 5) },
          { d := some 14, op := .iaddr 1 (.t 12) (.t 13) },
          { d := some 15, op := .load false 1 (.t 14) },
          { d := some 16, op := .mov (.t 1) },
          { d := some 17, op := .bin .eql (.t 15) (.t 16) }])
        (.cond (.t 17)
          (.seq (.reg 5 false [
            { d := some 18, op := .mov (.t 5) },
            { d := some 4, op := .mov (.t 18) }])
          (.ret))
          (.skip))))
      (.reg 3 false [
        { d := some 10, op := .mov (.t 5) },
        { d := some 11, op := .bin .add (.t 10) (.c (.int .i64 1)) },
        { d := some 5, op := .mov (.t 11) }]))))))
  (.seq (.reg 6 false [
    { d := some 4, op := .mov (.c (.int .i64 (-1))) }])
  (.ret)))
def rr_ref02_Index : List RRes := [.t 4]
theorem pc_ref02_Index {G : Nat → Option (List AV)} {args : List AV} {v : AV} (hn : args.length ≤ Tryd.f56.ntmps) (h : ∀ R : Run, R.G = G → R.Top → AR Tryd.prog R rc_ref02_Index (initSt args) (Fin rr_ref02_Index v)) : PC Tryd.prog G 56 args v :=
  PC_of Tryd.func56 rfl (by kernel_rfl) (rc := rc_ref02_Index) (by kernel_rfl) (rs := rr_ref02_Index) (by kernel_rfl) hn (fun R _ hG hr => h R hG hr)

theorem pb_ref02_Index {G : Nat → Option (List AV)} {objs objs' : List (Nat × AObj)} {args : List AV} {v : AV} (hn : args.length ≤ Tryd.f56.ntmps) (h : ∀ R : Run, R.G = G → R.Top → AR Tryd.prog R rc_ref02_Index ⟨iniT 0 args, objs⟩ (FinB rr_ref02_Index v objs')) : PB Tryd.prog G 56 objs args v objs' :=
  PB_of Tryd.func56 rfl (by kernel_rfl) (rc := rc_ref02_Index) (by kernel_rfl) (rs := rr_ref02_Index) (by kernel_rfl) hn (fun R _ hG hr => h R hG hr)

theorem pp_ref02_Index {G : Nat → Option (List AV)} {args : List AV} {ch : List PanicEntry} (hn : args.length ≤ Tryd.f56.ntmps) (h : ∀ R : Run, R.G = G → R.Top → AR Tryd.prog R rc_ref02_Index (initSt args) (FinP ch)) : PPC Tryd.prog G 56 args ch :=
  PPC_of Tryd.func56 rfl (by kernel_rfl) (rc := rc_ref02_Index) (by kernel_rfl) hn (fun R _ hG hr => h R hG hr)

def rc_ref02_listed : RCode :=
  .seq (.reg 0 false [
    { d := some 1, op := .box (.t 0) },
    { d := some 2, op := .mov (.c (.bool false)) }])
  (.seq (.seq (.reg 1 false [
    { d := some 9, op := .faddr 0 (.t 1) },
    { d := some 10, op := .load false 1 (.t 9) },
    { d := some 11, op := .len (.t 10) },
    { d := some 12, op := .call 106 [.t 11, .c (.int .i64 1), .c (.int .i64 60)] },
    { d := some 13, op := .un .not (.t 12) }])
  (.cond (.t 13)
    (.seq (.reg 2 false [
      { d := some 2, op := .mov (.c (.bool false)) }])
    (.ret))
    (.skip)))
  (.seq (.seq (.reg 3 false [
    { d := some 3, op := .mov (.c (.int .i64 0)) }])
  (.block 0
    (.loop
      (.seq (.seq (.reg 4 false [
        { d := some 14, op := .mov (.t 3) },
        { d := some 15, op := .faddr 0 (.t 1) },
        { d := some 16, op := .load false 1 (.t 15) },
        { d := some 17, op := .len (.t 16) },
        { d := some 18, op := .bin .lss (.t 14) (.t 17) }])
      (.cond (.t 18)
        (.skip)
        (.exit 0)))
      (.seq (.block 1
        (.seq (.reg 6 false [
          { d := some 21, op := .faddr 0 (.t 1) },
          { d := some 22, op := .load false 1 (.t 21) },
          { d := some 23, op := .mov (.t 3) },
          { d := some 24, op := .iaddr 5 (.t 22) (.t 23) },
          { d := some 25, op := .load true 5 (.t 24) },
          { d := some 4, op := .alloc [.int .i64 0, .int .i64 0, .int .u8 0, .nils, .nils] },
          { d := none, op := .store 5 (.t 4) (.t 25) }])
        (.seq (.seq (.reg 7 false [
          { d := some 26, op := .load true 5 (.t 4) },
          { d := some 27, op := .call 107 [.t 26] },
          { d := some 28, op := .un .not (.t 27) }])
        (.cond (.t 28)
          (.seq (.reg 8 false [
            { d := some 2, op := .mov (.c (.bool false)) }])
          (.ret))
          (.skip)))
        (.seq (.reg 9 false [
          { d := some 29, op := .build [.int .i64 0, .int .i64 0, .int .u8 0, .nils, .nils] [] },
          { d := some 5, op := .alloc [.int .i64 0, .int .i64 0, .int .u8 0, .nils, .nils] },
          { d := none, op := .store 5 (.t 5) (.t 29) }])
        (.seq (.seq (.reg 10 false [
          { d := some 30, op := .mov (.t 3) },
          { d := some 31, op := .bin .gtr (.t 30) (.c (.int .i64 0)) }])
        (.cond (.t 31)
          (.reg 11 false [
            { d := some 32, op := .faddr 0 (.t 1) },
            { d := some 33, op := .load false 1 (.t 32) },
            { d := some 34, op := .mov (.t 3) },
            { d := some 35, op := .bin .sub (.t 34) (.c (.int .i64 1)) },
            { d := some 36, op := .iaddr 5 (.t 33) (.t 35) },
            { d := some 37, op := .load true 5 (.t 36) },
            { d := none, op := .store 5 (.t 5) (.t 37) }])
          (.skip)))
        (.block 2
          (.seq (.reg 12 false [
            { d := some 39, op := .faddr 0 (.t 4) },
            { d := some 40, op := .load false 1 (.t 39) },
            { d := some 41, op := .faddr 0 (.t 5) },
            { d := some 42, op := .load false 1 (.t 41) },
            { d := some 43, op := .bin .lss (.t 40) (.t 42) },
            { d := some 38, op := .mov (.t 43) }])
          (.cond (.t 38)
            (.seq (.reg 13 false [
              { d := some 2, op := .mov (.c (.bool false)) }])
            (.ret))
            (.seq (.reg 14 false [
              { d := some 45, op := .faddr 0 (.t 4) },
              { d := some 46, op := .load false 1 (.t 45) },
              { d := some 47, op := .faddr 0 (.t 5) },
              { d := some 48, op := .load false 1 (.t 47) },
              { d := some 49, op := .bin .gtr (.t 46) (.t 48) },
              { d := some 44, op := .mov (.t 49) }])
            (.cond (.t 44)
              (.seq (.reg 15 false [
                { d := some 50, op := .faddr 1 (.t 4) },
                { d := some 51, op := .load false 1 (.t 50) },
                { d := some 52, op := .bin .neq (.t 51) (.c (.int .i64 1)) }])
              (.cond (.t 52)
                (.seq (.reg 16 false [
                  { d := some 2, op := .mov (.c (.bool false)) }])
                (.ret))
                (.skip)))
              (.seq (.reg 17 false [
                { d := some 54, op := .faddr 1 (.t 4) },
                { d := some 55, op := .load false 1 (.t 54) },
                { d := some 56, op := .faddr 1 (.t 5) },
                { d := some 57, op := .load false 1 (.t 56) },
                { d := some 58, op := .bin .add (.t 57) (.c (.int .i64 1)) },
                { d := some 59, op := .bin .neq (.t 55) (.t 58) },
                { d := some 60, op := .mov (.t 59) },
                { d := some 61, op := .faddr 2 (.t 4), guard := some (60, false) },
                { d := some 62, op := .load false 1 (.t 61), guard := some (60, false) },
                { d := some 63, op := .faddr 2 (.t 5), guard := some (60, false) },
                { d := some 64, op := .load false 1 (.t 63), guard := some (60, false) },
                { d := some 65, op := .bin .neq (.t 62) (.t 64), guard := some (60, false) },
                { d := some 66, op := .pick (.t 60) (.c (.bool true)) (.t 65) },
                { d := some 53, op := .mov (.t 66) }])
              (.cond (.t 53)
                (.seq (.reg 18 false [
                  { d := some 2, op := .mov (.c (.bool false)) }])
                (.ret))
                (.skip)))))))))))))
      (.reg 5 false [
        { d := some 19, op := .mov (.t 3) },
        { d := some 20, op := .bin .add (.t 19) (.c (.int .i64 1)) },
        { d := some 3, op := .mov (.t 20) }]))))))
  (.seq (.reg 19 false [
    { d := some 67, op := .load true 1 (.t 1) },
    { d := some 68, op := .call 55 [.t 67] },
    { d := some 6, op := .mov (.t 68) }])
  (.seq (.seq (.reg 20 false [
    { d := some 7, op := .mov (.c (.int .i64 0)) }])
  (.block 3
    (.loop
      (.seq (.seq (.reg 21 false [
        { d := some 69, op := .mov (.t 7) },
        { d := some 70, op := .faddr 0 (.t 1) },
        { d := some 71, op := .load false 1 (.t 70) },
        { d := some 72, op := .len (.t 71) },
        { d := some 73, op := .bin .lss (.t 69) (.t 72) }])
      (.cond (.t 73)
        (.skip)
        (.exit 3)))
      (.seq (.block 4
        (.seq (.reg 23 false [
          { d := some 8, op := .mov (.c (.int .i64 0)) }])
        (.block 5
          (.loop
            (.seq (.seq (.reg 24 false [
              { d := some 76, op := .mov (.t 8) },
              { d := some 77, op := .faddr 0 (.t 1) },
              { d := some 78, op := .load false 1 (.t 77) },
              { d := some 79, op := .mov (.t 7) },
              { d := some 80, op := .iaddr 5 (.t 78) (.t 79) },
              { d := some 81, op := .faddr 3 (.t 80) },
              { d := some 82, op := .load false 1 (.t 81) },
              { d := some 83, op := .len (.t 82) },
              { d := some 84, op := .bin .lss (.t 76) (.t 83) }])
            (.cond (.t 84)
              (.skip)
              (.exit 5)))
            (.seq (.block 6
              (.seq (.reg 26 false [
                { d := some 87, op := .mov (.t 6) },
                { d := some 88, op := .faddr 0 (.t 1) },
                { d := some 89, op := .load false 1 (.t 88) },
                { d := some 90, op := .mov (.t 7) },
                { d := some 91, op := .iaddr 5 (.t 89) (.t 90) },
                { d := some 92, op := .faddr 3 (.t 91) },
                { d := some 93, op := .load false 1 (.t 92) },
                { d := some 94, op := .mov (.t 8) },
                { d := some 95, op := .iaddr 2 (.t 93) (.t 94) },
                { d := some 96, op := .faddr 0 (.t 95) },
                { d := some 97, op := .load false 1 (.t 96) },
                { d := some 98, op := .call 56 [.t 87, .t 97] },
                { d := some 99, op := .bin .lss (.t 98) (.c (.int .i64 0)) }])
              (.cond (.t 99)
                (.seq (.reg 27 false [
                  { d := some 2, op := .mov (.c (.bool false)) }])
                (.ret))
                (.skip))))
            (.reg 25 false [
              { d := some 85, op := .mov (.t 8) },
              { d := some 86, op := .bin .add (.t 85) (.c (.int .i64 1)) },
              { d := some 8, op := .mov (.t 86) }])))))))
      (.reg 22 false [
        { d := some 74, op := .mov (.t 7) },
        { d := some 75, op := .bin .add (.t 74) (.c (.int .i64 1)) },
        { d := some 7, op := .mov (.t 75) }]))))))
  (.seq (.reg 28 false [
    { d := some 100, op := .mov (.t 6) },
    { d := some 101, op := .len (.t 100) },
    { d := some 102, op := .bin .leq (.t 101) (.c (.int .i64 20)) },
    { d := some 2, op := .mov (.t 102) }])
  (.ret))))))
def rr_ref02_listed : List RRes := [.t 2]
theorem pc_ref02_listed {G : Nat → Option (List AV)} {args : List AV} {v : AV} (hn : args.length ≤ Tryd.f70.ntmps) (h : ∀ R : Run, R.G = G → R.Top → AR Tryd.prog R rc_ref02_listed (initSt args) (Fin rr_ref02_listed v)) : PC Tryd.prog G 70 args v :=
  PC_of Tryd.func70 rfl (by kernel_rfl) (rc := rc_ref02_listed) (by kernel_rfl) (rs := rr_ref02_listed) (by kernel_rfl) hn (fun R _ hG hr => h R hG hr)

theorem pb_ref02_listed {G : Nat → Option (List AV)} {objs objs' : List (Nat × AObj)} {args : List AV} {v : AV} (hn : args.length ≤ Tryd.f70.ntmps) (h : ∀ R : Run, R.G = G → R.Top → AR Tryd.prog R rc_ref02_listed ⟨iniT 0 args, objs⟩ (FinB rr_ref02_listed v objs')) : PB Tryd.prog G 70 objs args v objs' :=
  PB_of Tryd.func70 rfl (by kernel_rfl) (rc := rc_ref02_listed) (by kernel_rfl) (rs := rr_ref02_listed) (by kernel_rfl) hn (fun R _ hG hr => h R hG hr)

theorem pp_ref02_listed {G : Nat → Option (List AV)} {args : List AV} {ch : List PanicEntry} (hn : args.length ≤ Tryd.f70.ntmps) (h : ∀ R : Run, R.G = G → R.Top → AR Tryd.prog R rc_ref02_listed (initSt args) (FinP ch)) : PPC Tryd.prog G 70 args ch :=
  PPC_of Tryd.func70 rfl (by kernel_rfl) (rc := rc_ref02_listed) (by kernel_rfl) hn (fun R _ hG hr => h R hG hr)

def rc_ref02_depths : RCode :=
  .seq (.reg 0 false [
    { d := some 1, op := .box (.t 0) },
    { d := some 2, op := .mov (.c (.nils)) }])
  (.seq (.reg 1 false [
    { d := some 11, op := .load true 1 (.t 1) },
    { d := some 12, op := .call 55 [.t 11] },
    { d := some 3, op := .mov (.t 12) }])
  (.seq (.reg 2 false [
    { d := some 13, op := .mov (.t 3) },
    { d := some 14, op := .len (.t 13) },
    { d := some 15, op := .mksl 1 8 [.int .i64 0] (.t 14) },
    { d := some 4, op := .mov (.t 15) }])
  (.seq (.seq (.reg 3 false [
    { d := some 5, op := .mov (.c (.int .i64 0)) }])
  (.block 0
    (.loop
      (.seq (.seq (.reg 4 false [
        { d := some 16, op := .mov (.t 5) },
        { d := some 17, op := .mov (.t 3) },
        { d := some 18, op := .len (.t 17) },
        { d := some 19, op := .bin .leq (.t 16) (.t 18) }])
      (.cond (.t 19)
        (.skip)
        (.exit 0)))
      (.seq (.block 1
        (.seq (.reg 6 false [
          { d := some 22, op := .mov (.t 3) },
          { d := some 23, op := .len (.t 22) },
          { d := some 24, op := .mksl 1 8 [.int .i64 0] (.t 23) },
          { d := some 6, op := .mov (.t 24) }])
        (.seq (.seq (.reg 7 false [
          { d := some 7, op := .mov (.c (.int .i64 0)) }])
        (.block 2
          (.loop
            (.seq (.seq (.reg 8 false [
              { d := some 25, op := .mov (.t 7) },
              { d := some 26, op := .faddr 0 (.t 1) },
              { d := some 27, op := .load false 1 (.t 26) },
              { d := some 28, op := .len (.t 27) },
              { d := some 29, op := .bin .lss (.t 25) (.t 28) }])
            (.cond (.t 29)
              (.skip)
              (.exit 2)))
            (.seq (.block 3
              (.seq (.reg 10 false [
                { d := some 32, op := .faddr 0 (.t 1) },
                { d := some 33, op := .load false 1 (.t 32) },
                { d := some 34, op := .mov (.t 7) },
                { d := some 35, op := .iaddr 5 (.t 33) (.t 34) },
                { d := some 36, op := .load true 5 (.t 35) },
                { d := some 8, op := .alloc [.int .i64 0, .int .i64 0, .int .u8 0, .nils, .nils] },
                { d := none, op := .store 5 (.t 8) (.t 36) }])
              (.seq (.reg 11 false [
                { d := some 37, op := .mov (.t 3) },
                { d := some 38, op := .faddr 0 (.t 8) },
                { d := some 39, op := .load false 1 (.t 38) },
                { d := some 40, op := .call 56 [.t 37, .t 39] },
                { d := some 9, op := .mov (.t 40) }])
              (.seq (.reg 12 false [
                { d := some 41, op := .mov (.t 6) },
                { d := some 42, op := .mov (.t 9) },
                { d := some 43, op := .mov (.t 6) },
                { d := some 44, op := .mov (.t 9) },
                { d := some 45, op := .iaddr 1 (.t 43) (.t 44) },
                { d := some 46, op := .load false 1 (.t 45) },
                { d := some 47, op := .mx true (.t 46) [.c (.int .i64 1)] },
                { d := some 48, op := .iaddr 1 (.t 41) (.t 42) },
                { d := none, op := .store 1 (.t 48) (.t 47) }])
              (.seq (.reg 13 false [
                { d := some 10, op := .mov (.c (.int .i64 0)) }])
              (.block 4
                (.loop
                  (.seq (.seq (.reg 14 false [
                    { d := some 49, op := .mov (.t 10) },
                    { d := some 50, op := .faddr 3 (.t 8) },
                    { d := some 51, op := .load false 1 (.t 50) },
                    { d := some 52, op := .len (.t 51) },
                    { d := some 53, op := .bin .lss (.t 49) (.t 52) }])
                  (.cond (.t 53)
                    (.skip)
                    (.exit 4)))
                  (.seq (.block 5
                    (.reg 16 true [
                      { d := some 56, op := .mov (.t 6), aft := [] },
                      { d := some 57, op := .mov (.t 9), aft := [] },
                      { d := some 58, op := .mov (.t 6), aft := [] },
                      { d := some 59, op := .mov (.t 9), aft := [] },
                      { d := some 60, op := .iaddr 1 (.t 58) (.t 59), aft := [2, 3] },
                      { d := some 61, op := .load false 1 (.t 60), aft := [4] },
                      { d := some 62, op := .mov (.t 4), aft := [] },
                      { d := some 63, op := .mov (.t 3), aft := [] },
                      { d := some 64, op := .faddr 3 (.t 8), aft := [] },
                      { d := some 65, op := .load false 1 (.t 64), aft := [8] },
                      { d := some 66, op := .mov (.t 10), aft := [] },
                      { d := some 67, op := .iaddr 2 (.t 65) (.t 66), aft := [9, 10] },
                      { d := some 68, op := .faddr 0 (.t 67), aft := [11] },
                      { d := some 69, op := .load false 1 (.t 68), aft := [12] },
                      { d := some 70, op := .call 56 [.t 63, .t 69], aft := [7, 13] },
                      { d := some 71, op := .iaddr 1 (.t 62) (.t 70), aft := [6, 14] },
                      { d := some 72, op := .load false 1 (.t 71), aft := [15] },
                      { d := some 73, op := .bin .add (.c (.int .i64 1)) (.t 72), aft := [16] },
                      { d := some 74, op := .mx true (.t 61) [.t 73], aft := [5, 17] },
                      { d := some 75, op := .iaddr 1 (.t 56) (.t 57), aft := [0, 1, 0, 1, 2, 3, 4, 5, 6, 7, 8, 9, 10, 11, 12, 13, 14, 15, 16, 17, 18] },
                      { d := none, op := .store 1 (.t 75) (.t 74), aft := [19, 18, 14, 0, 1, 2, 3, 4, 5, 6, 7, 8, 9, 10, 11, 12, 13, 14, 15, 16, 17, 18] }]))
                  (.reg 15 false [
                    { d := some 54, op := .mov (.t 10) },
                    { d := some 55, op := .bin .add (.t 54) (.c (.int .i64 1)) },
                    { d := some 10, op := .mov (.t 55) }]))))))))))
            (.reg 9 false [
              { d := some 30, op := .mov (.t 7) },
              { d := some 31, op := .bin .add (.t 30) (.c (.int .i64 1)) },
              { d := some 7, op := .mov (.t 31) }]))))))
        (.reg 17 false [
          { d := some 76, op := .mov (.t 6) },
          { d := some 4, op := .mov (.t 76) }]))))
      (.reg 5 false [
        { d := some 20, op := .mov (.t 5) },
        { d := some 21, op := .bin .add (.t 20) (.c (.int .i64 1)) },
        { d := some 5, op := .mov (.t 21) }]))))))
  (.seq (.reg 18 false [
    { d := some 77, op := .mov (.t 4) },
    { d := some 2, op := .mov (.t 77) }])
  (.ret)))))
def rr_ref02_depths : List RRes := [.t 2]
theorem pc_ref02_depths {G : Nat → Option (List AV)} {args : List AV} {v : AV} (hn : args.length ≤ Tryd.f71.ntmps) (h : ∀ R : Run, R.G = G → R.Top → AR Tryd.prog R rc_ref02_depths (initSt args) (Fin rr_ref02_depths v)) : PC Tryd.prog G 71 args v :=
  PC_of Tryd.func71 rfl (by kernel_rfl) (rc := rc_ref02_depths) (by kernel_rfl) (rs := rr_ref02_depths) (by kernel_rfl) hn (fun R _ hG hr => h R hG hr)

theorem pb_ref02_depths {G : Nat → Option (List AV)} {objs objs' : List (Nat × AObj)} {args : List AV} {v : AV} (hn : args.length ≤ Tryd.f71.ntmps) (h : ∀ R : Run, R.G = G → R.Top → AR Tryd.prog R rc_ref02_depths ⟨iniT 0 args, objs⟩ (FinB rr_ref02_depths v objs')) : PB Tryd.prog G 71 objs args v objs' :=
  PB_of Tryd.func71 rfl (by kernel_rfl) (rc := rc_ref02_depths) (by kernel_rfl) (rs := rr_ref02_depths) (by kernel_rfl) hn (fun R _ hG hr => h R hG hr)

theorem pp_ref02_depths {G : Nat → Option (List AV)} {args : List AV} {ch : List PanicEntry} (hn : args.length ≤ Tryd.f71.ntmps) (h : ∀ R : Run, R.G = G → R.Top → AR Tryd.prog R rc_ref02_depths (initSt args) (FinP ch)) : PPC Tryd.prog G 71 args ch :=
  PPC_of Tryd.func71 rfl (by kernel_rfl) (rc := rc_ref02_depths) (by kernel_rfl) hn (fun R _ hG hr => h R hG hr)

def rc_ref02_Check : RCode :=
  .seq (.reg 0 false [
    { d := some 1, op := .box (.t 0) },
    { d := some 2, op := .mov (.c (.int .i64 0)) }])
  (.seq (.seq (.reg 1 false [
    { d := some 6, op := .load true 1 (.t 1) },
    { d := some 7, op := .call 70 [.t 6] },
    { d := some 8, op := .un .not (.t 7) }])
  (.cond (.t 8)
    (.seq (.reg 2 false [
      { d := some 2, op := .mov (.c (.int .i64 20)) }])
    (.ret))
    (.skip)))
  (.seq (.reg 3 false [
    { d := some 9, op := .load true 1 (.t 1) },
    { d := some 10, op := .call 71 [.t 9] },
    { d := some 3, op := .mov (.t 10) }])
  (.seq (.reg 4 false [
    { d := some 4, op := .mov (.c (.int .i64 0)) }])
  (.seq (.seq (.reg 5 false [
    { d := some 5, op := .mov (.c (.int .i64 0)) }])
  (.block 0
    (.loop
      (.seq (.seq (.reg 6 false [
        { d := some 11, op := .mov (.t 5) },
        { d := some 12, op := .mov (.t 3) },
        { d := some 13, op := .len (.t 12) },
        { d := some 14, op := .bin .lss (.t 11) (.t 13) }])
      (.cond (.t 14)
        (.skip)
        (.exit 0)))
      (.seq (.block 1
        (.reg 8 false [
          { d := some 17, op := .mov (.t 4) },
          { d := some 18, op := .mov (.t 3) },
          { d := some 19, op := .mov (.t 5) },
          { d := some 20, op := .iaddr 1 (.t 18) (.t 19) },
          { d := some 21, op := .load false 1 (.t 20) },
          { d := some 22, op := .mx true (.t 17) [.t 21] },
          { d := some 4, op := .mov (.t 22) }]))
      (.reg 7 false [
        { d := some 15, op := .mov (.t 5) },
        { d := some 16, op := .bin .add (.t 15) (.c (.int .i64 1)) },
        { d := some 5, op := .mov (.t 16) }]))))))
  (.seq (.block 2
    (.seq (.reg 9 false [
      { d := some 24, op := .mov (.t 4) },
      { d := some 25, op := .mov (.t 3) },
      { d := some 26, op := .len (.t 25) },
      { d := some 27, op := .bin .gtr (.t 24) (.t 26) },
      { d := some 23, op := .mov (.t 27) }])
    (.cond (.t 23)
      (.seq (.reg 10 false [
        { d := some 2, op := .mov (.c (.int .i64 21)) }])
      (.ret))
      (.seq (.reg 11 false [
        { d := some 29, op := .mov (.t 4) },
        { d := some 30, op := .bin .gtr (.t 29) (.c (.int .i64 6)) },
        { d := some 28, op := .mov (.t 30) }])
      (.cond (.t 28)
        (.seq (.reg 12 false [
          { d := some 2, op := .mov (.c (.int .i64 20)) }])
        (.ret))
        (.skip))))))
  (.seq (.reg 13 false [
    { d := some 2, op := .mov (.c (.int .i64 0)) }])
  (.ret)))))))
def rr_ref02_Check : List RRes := [.t 2]
theorem pc_ref02_Check {G : Nat → Option (List AV)} {args : List AV} {v : AV} (hn : args.length ≤ Tryd.f25.ntmps) (h : ∀ R : Run, R.G = G → R.Top → AR Tryd.prog R rc_ref02_Check (initSt args) (Fin rr_ref02_Check v)) : PC Tryd.prog G 25 args v :=
  PC_of Tryd.func25 rfl (by kernel_rfl) (rc := rc_ref02_Check) (by kernel_rfl) (rs := rr_ref02_Check) (by kernel_rfl) hn (fun R _ hG hr => h R hG hr)

theorem pb_ref02_Check {G : Nat → Option (List AV)} {objs objs' : List (Nat × AObj)} {args : List AV} {v : AV} (hn : args.length ≤ Tryd.f25.ntmps) (h : ∀ R : Run, R.G = G → R.Top → AR Tryd.prog R rc_ref02_Check ⟨iniT 0 args, objs⟩ (FinB rr_ref02_Check v objs')) : PB Tryd.prog G 25 objs args v objs' :=
  PB_of Tryd.func25 rfl (by kernel_rfl) (rc := rc_ref02_Check) (by kernel_rfl) (rs := rr_ref02_Check) (by kernel_rfl) hn (fun R _ hG hr => h R hG hr)

theorem pp_ref02_Check {G : Nat → Option (List AV)} {args : List AV} {ch : List PanicEntry} (hn : args.length ≤ Tryd.f25.ntmps) (h : ∀ R : Run, R.G = G → R.Top → AR Tryd.prog R rc_ref02_Check (initSt args) (FinP ch)) : PPC Tryd.prog G 25 args ch :=
  PPC_of Tryd.func25 rfl (by kernel_rfl) (rc := rc_ref02_Check) (by kernel_rfl) hn (fun R _ hG hr => h R hG hr)

def rc_ref02_Drawings : RCode :=
  .seq (.reg 0 false [
    { d := some 1, op := .box (.t 0) },
    { d := some 2, op := .mov (.c (.nils)) },
    { d := some 3, op := .mov (.c (.int .i64 0)) }])
  (.seq (.seq (.reg 1 false [
    { d := some 5, op := .load true 1 (.t 1) },
    { d := some 6, op := .call 25 [.t 5] },
    { d := some 4, op := .mov (.t 6) }])
  (.seq (.reg 2 false [
    { d := some 7, op := .mov (.t 4) },
    { d := some 8, op := .bin .neq (.t 7) (.c (.int .i64 0)) }])
  (.cond (.t 8)
    (.seq (.reg 3 false [
      { d := some 9, op := .mov (.t 4) },
      { d := some 2, op := .mov (.c (.nils)) },
      { d := some 3, op := .mov (.t 9) }])
    (.ret))
    (.skip))))
  (.seq (.reg 4 false [
    { d := some 10, op := .load true 1 (.t 1) },
    { d := some 11, op := .call 55 [.t 10] },
    { d := some 2, op := .mov (.t 11) },
    { d := some 3, op := .mov (.c (.int .i64 0)) }])
  (.ret)))
def rr_ref02_Drawings : List RRes := [.t 2, .t 3]
theorem pc_ref02_Drawings {G : Nat → Option (List AV)} {args : List AV} {v : AV} (hn : args.length ≤ Tryd.f21.ntmps) (h : ∀ R : Run, R.G = G → R.Top → AR Tryd.prog R rc_ref02_Drawings (initSt args) (Fin rr_ref02_Drawings v)) : PC Tryd.prog G 21 args v :=
  PC_of Tryd.func21 rfl (by kernel_rfl) (rc := rc_ref02_Drawings) (by kernel_rfl) (rs := rr_ref02_Drawings) (by kernel_rfl) hn (fun R _ hG hr => h R hG hr)

theorem pb_ref02_Drawings {G : Nat → Option (List AV)} {objs objs' : List (Nat × AObj)} {args : List AV} {v : AV} (hn : args.length ≤ Tryd.f21.ntmps) (h : ∀ R : Run, R.G = G → R.Top → AR Tryd.prog R rc_ref02_Drawings ⟨iniT 0 args, objs⟩ (FinB rr_ref02_Drawings v objs')) : PB Tryd.prog G 21 objs args v objs' :=
  PB_of Tryd.func21 rfl (by kernel_rfl) (rc := rc_ref02_Drawings) (by kernel_rfl) (rs := rr_ref02_Drawings) (by kernel_rfl) hn (fun R _ hG hr => h R hG hr)

theorem pp_ref02_Drawings {G : Nat → Option (List AV)} {args : List AV} {ch : List PanicEntry} (hn : args.length ≤ Tryd.f21.ntmps) (h : ∀ R : Run, R.G = G → R.Top → AR Tryd.prog R rc_ref02_Drawings (initSt args) (FinP ch)) : PPC Tryd.prog G 21 args ch :=
  PPC_of Tryd.func21 rfl (by kernel_rfl) (rc := rc_ref02_Drawings) (by kernel_rfl) hn (fun R _ hG hr => h R hG hr)

def rc_ref02_LastOf : RCode :=
  .seq (.reg 0 false [
    { d := some 2, op := .box (.t 0) },
    { d := some 4, op := .mov (.c (.int .i64 0)) }])
  (.seq (.reg 1 false [
    { d := some 5, op := .mov (.c (.int .i64 0)) }])
  (.seq (.seq (.reg 2 false [
    { d := some 6, op := .mov (.c (.int .i64 0)) }])
  (.block 0
    (.loop
      (.seq (.seq (.reg 3 false [
        { d := some 7, op := .mov (.t 6) },
        { d := some 8, op := .faddr 0 (.t 2) },
        { d := some 9, op := .load false 1 (.t 8) },
        { d := some 10, op := .len (.t 9) },
        { d := some 11, op := .bin .lss (.t 7) (.t 10) }])
      (.cond (.t 11)
        (.skip)
        (.exit 0)))
      (.seq (.block 1
        (.seq (.reg 5 false [
          { d := some 14, op := .faddr 0 (.t 2) },
          { d := some 15, op := .load false 1 (.t 14) },
          { d := some 16, op := .mov (.t 6) },
          { d := some 17, op := .iaddr 5 (.t 15) (.t 16) },
          { d := some 18, op := .faddr 0 (.t 17) },
          { d := some 19, op := .load false 1 (.t 18) },
          { d := some 20, op := .mov (.t 1) },
          { d := some 21, op := .bin .eql (.t 19) (.t 20) }])
        (.cond (.t 21)
          (.reg 6 false [
            { d := some 22, op := .mov (.t 5) },
            { d := some 23, op := .faddr 0 (.t 2) },
            { d := some 24, op := .load false 1 (.t 23) },
            { d := some 25, op := .mov (.t 6) },
            { d := some 26, op := .iaddr 5 (.t 24) (.t 25) },
            { d := some 27, op := .faddr 1 (.t 26) },
            { d := some 28, op := .load false 1 (.t 27) },
            { d := some 29, op := .mx true (.t 22) [.t 28] },
            { d := some 5, op := .mov (.t 29) }])
          (.skip))))
      (.reg 4 false [
        { d := some 12, op := .mov (.t 6) },
        { d := some 13, op := .bin .add (.t 12) (.c (.int .i64 1)) },
        { d := some 6, op := .mov (.t 13) }]))))))
  (.seq (.reg 7 false [
    { d := some 30, op := .mov (.t 5) },
    { d := some 4, op := .mov (.t 30) }])
  (.ret))))
def rr_ref02_LastOf : List RRes := [.t 4]
theorem pc_ref02_LastOf {G : Nat → Option (List AV)} {args : List AV} {v : AV} (hn : args.length ≤ Tryd.f59.ntmps) (h : ∀ R : Run, R.G = G → R.Top → AR Tryd.prog R rc_ref02_LastOf (initSt args) (Fin rr_ref02_LastOf v)) : PC Tryd.prog G 59 args v :=
  PC_of Tryd.func59 rfl (by kernel_rfl) (rc := rc_ref02_LastOf) (by kernel_rfl) (rs := rr_ref02_LastOf) (by kernel_rfl) hn (fun R _ hG hr => h R hG hr)

theorem pb_ref02_LastOf {G : Nat → Option (List AV)} {objs objs' : List (Nat × AObj)} {args : List AV} {v : AV} (hn : args.length ≤ Tryd.f59.ntmps) (h : ∀ R : Run, R.G = G → R.Top → AR Tryd.prog R rc_ref02_LastOf ⟨iniT 0 args, objs⟩ (FinB rr_ref02_LastOf v objs')) : PB Tryd.prog G 59 objs args v objs' :=
  PB_of Tryd.func59 rfl (by kernel_rfl) (rc := rc_ref02_LastOf) (by kernel_rfl) (rs := rr_ref02_LastOf) (by kernel_rfl) hn (fun R _ hG hr => h R hG hr)

theorem pp_ref02_LastOf {G : Nat → Option (List AV)} {args : List AV} {ch : List PanicEntry} (hn : args.length ≤ Tryd.f59.ntmps) (h : ∀ R : Run, R.G = G → R.Top → AR Tryd.prog R rc_ref02_LastOf (initSt args) (FinP ch)) : PPC Tryd.prog G 59 args ch :=
  PPC_of Tryd.func59 rfl (by kernel_rfl) (rc := rc_ref02_LastOf) (by kernel_rfl) hn (fun R _ hG hr => h R hG hr)

def rc_ref02_Last : RCode :=
  .seq (.reg 0 false [
    { d := some 2, op := .box (.t 0) },
    { d := some 4, op := .mov (.c (.int .i64 0)) },
    { d := some 5, op := .mov (.c (.int .i64 0)) }])
  (.seq (.seq (.reg 1 false [
    { d := some 8, op := .load true 1 (.t 2) },
    { d := some 9, op := .call 25 [.t 8] },
    { d := some 6, op := .mov (.t 9) }])
  (.seq (.reg 2 false [
    { d := some 10, op := .mov (.t 6) },
    { d := some 11, op := .bin .neq (.t 10) (.c (.int .i64 0)) }])
  (.cond (.t 11)
    (.seq (.reg 3 false [
      { d := some 12, op := .mov (.t 6) },
      { d := some 4, op := .mov (.c (.int .i64 0)) },
      { d := some 5, op := .mov (.t 12) }])
    (.ret))
    (.skip))))
  (.seq (.reg 4 false [
    { d := some 13, op := .load true 1 (.t 2) },
    { d := some 14, op := .mov (.t 1) },
    { d := some 15, op := .call 59 [.t 13, .t 14] },
    { d := some 7, op := .mov (.t 15) }])
  (.seq (.seq (.reg 5 false [
    { d := some 16, op := .mov (.t 7) },
    { d := some 17, op := .bin .eql (.t 16) (.c (.int .i64 0)) }])
  (.cond (.t 17)
    (.seq (.reg 6 false [
      { d := some 4, op := .mov (.c (.int .i64 0)) },
      { d := some 5, op := .mov (.c (.int .i64 6)) }])
    (.ret))
    (.skip)))
  (.seq (.reg 7 false [
    { d := some 18, op := .mov (.t 7) },
    { d := some 4, op := .mov (.t 18) },
    { d := some 5, op := .mov (.c (.int .i64 0)) }])
  (.ret)))))
def rr_ref02_Last : List RRes := [.t 4, .t 5]
theorem pc_ref02_Last {G : Nat → Option (List AV)} {args : List AV} {v : AV} (hn : args.length ≤ Tryd.f23.ntmps) (h : ∀ R : Run, R.G = G → R.Top → AR Tryd.prog R rc_ref02_Last (initSt args) (Fin rr_ref02_Last v)) : PC Tryd.prog G 23 args v :=
  PC_of Tryd.func23 rfl (by kernel_rfl) (rc := rc_ref02_Last) (by kernel_rfl) (rs := rr_ref02_Last) (by kernel_rfl) hn (fun R _ hG hr => h R hG hr)

theorem pb_ref02_Last {G : Nat → Option (List AV)} {objs objs' : List (Nat × AObj)} {args : List AV} {v : AV} (hn : args.length ≤ Tryd.f23.ntmps) (h : ∀ R : Run, R.G = G → R.Top → AR Tryd.prog R rc_ref02_Last ⟨iniT 0 args, objs⟩ (FinB rr_ref02_Last v objs')) : PB Tryd.prog G 23 objs args v objs' :=
  PB_of Tryd.func23 rfl (by kernel_rfl) (rc := rc_ref02_Last) (by kernel_rfl) (rs := rr_ref02_Last) (by kernel_rfl) hn (fun R _ hG hr => h R hG hr)

theorem pp_ref02_Last {G : Nat → Option (List AV)} {args : List AV} {ch : List PanicEntry} (hn : args.length ≤ Tryd.f23.ntmps) (h : ∀ R : Run, R.G = G → R.Top → AR Tryd.prog R rc_ref02_Last (initSt args) (FinP ch)) : PPC Tryd.prog G 23 args ch :=
  PPC_of Tryd.func23 rfl (by kernel_rfl) (rc := rc_ref02_Last) (by kernel_rfl) hn (fun R _ hG hr => h R hG hr)

def rc_ref02_Find : RCode :=
  .seq (.reg 0 false [
    { d := some 2, op := .box (.t 0) },
    { d := some 3, op := .box (.t 1) },
    { d := some 4, op := .alloc [.int .i64 0, .int .i64 0, .int .u8 0, .nils, .nils] },
    { d := some 5, op := .mov (.c (.bool false)) }])
  (.seq (.seq (.reg 1 false [
    { d := some 6, op := .mov (.c (.int .i64 0)) }])
  (.block 0
    (.loop
      (.seq (.seq (.reg 2 false [
        { d := some 8, op := .mov (.t 6) },
        { d := some 9, op := .faddr 0 (.t 2) },
        { d := some 10, op := .load false 1 (.t 9) },
        { d := some 11, op := .len (.t 10) },
        { d := some 12, op := .bin .lss (.t 8) (.t 11) }])
      (.cond (.t 12)
        (.skip)
        (.exit 0)))
      (.seq (.block 1
        (.seq (.reg 4 false [
          { d := some 15, op := .faddr 0 (.t 2) },
          { d := some 16, op := .load false 1 (.t 15) },
          { d := some 17, op := .mov (.t 6) },
          { d := some 18, op := .iaddr 5 (.t 16) (.t 17) },
          { d := some 19, op := .load true 5 (.t 18) },
          { d := some 7, op := .alloc [.int .i64 0, .int .i64 0, .int .u8 0, .nils, .nils] },
          { d := none, op := .store 5 (.t 7) (.t 19) }])
        (.seq (.reg 5 false [
          { d := some 20, op := .faddr 0 (.t 7) },
          { d := some 21, op := .load false 1 (.t 20) },
          { d := some 22, op := .faddr 0 (.t 3) },
          { d := some 23, op := .load false 1 (.t 22) },
          { d := some 24, op := .bin .eql (.t 21) (.t 23) },
          { d := some 25, op := .mov (.t 24) },
          { d := some 26, op := .faddr 1 (.t 7), guard := some (25, true) },
          { d := some 27, op := .load false 1 (.t 26), guard := some (25, true) },
          { d := some 28, op := .faddr 1 (.t 3), guard := some (25, true) },
          { d := some 29, op := .load false 1 (.t 28), guard := some (25, true) },
          { d := some 30, op := .bin .eql (.t 27) (.t 29), guard := some (25, true) },
          { d := some 31, op := .pick (.t 25) (.t 30) (.c (.bool false)) }])
        (.cond (.t 31)
          (.seq (.reg 6 false [
            { d := some 32, op := .load true 5 (.t 7) },
            { d := none, op := .store 5 (.t 4) (.t 32) },
            { d := some 5, op := .mov (.c (.bool true)) }])
          (.ret))
          (.skip)))))
      (.reg 3 false [
        { d := some 13, op := .mov (.t 6) },
        { d := some 14, op := .bin .add (.t 13) (.c (.int .i64 1)) },
        { d := some 6, op := .mov (.t 14) }]))))))
  (.seq (.reg 7 false [
    { d := some 33, op := .build [.int .i64 0, .int .i64 0, .int .u8 0, .nils, .nils] [] },
    { d := none, op := .store 5 (.t 4) (.t 33) },
    { d := some 5, op := .mov (.c (.bool false)) }])
  (.ret)))
def rr_ref02_Find : List RRes := [.c 4 true 5, .t 5]
theorem pc_ref02_Find {G : Nat → Option (List AV)} {args : List AV} {v : AV} (hn : args.length ≤ Tryd.f74.ntmps) (h : ∀ R : Run, R.G = G → R.Top → AR Tryd.prog R rc_ref02_Find (initSt args) (Fin rr_ref02_Find v)) : PC Tryd.prog G 74 args v :=
  PC_of Tryd.func74 rfl (by kernel_rfl) (rc := rc_ref02_Find) (by kernel_rfl) (rs := rr_ref02_Find) (by kernel_rfl) hn (fun R _ hG hr => h R hG hr)

theorem pb_ref02_Find {G : Nat → Option (List AV)} {objs objs' : List (Nat × AObj)} {args : List AV} {v : AV} (hn : args.length ≤ Tryd.f74.ntmps) (h : ∀ R : Run, R.G = G → R.Top → AR Tryd.prog R rc_ref02_Find ⟨iniT 0 args, objs⟩ (FinB rr_ref02_Find v objs')) : PB Tryd.prog G 74 objs args v objs' :=
  PB_of Tryd.func74 rfl (by kernel_rfl) (rc := rc_ref02_Find) (by kernel_rfl) (rs := rr_ref02_Find) (by kernel_rfl) hn (fun R _ hG hr => h R hG hr)

theorem pp_ref02_Find {G : Nat → Option (List AV)} {args : List AV} {ch : List PanicEntry} (hn : args.length ≤ Tryd.f74.ntmps) (h : ∀ R : Run, R.G = G → R.Top → AR Tryd.prog R rc_ref02_Find (initSt args) (FinP ch)) : PPC Tryd.prog G 74 args ch :=
  PPC_of Tryd.func74 rfl (by kernel_rfl) (rc := rc_ref02_Find) (by kernel_rfl) hn (fun R _ hG hr => h R hG hr)

def rc_ref02_At : RCode :=
  .seq (.reg 0 false [
    { d := some 2, op := .box (.t 0) },
    { d := some 3, op := .box (.t 1) },
    { d := some 4, op := .alloc [.int .i64 0, .int .i64 0, .int .u8 0, .nils, .nils] },
    { d := some 5, op := .mov (.c (.int .i64 0)) }])
  (.seq (.seq (.reg 1 false [
    { d := some 9, op := .load true 1 (.t 2) },
    { d := some 10, op := .call 25 [.t 9] },
    { d := some 6, op := .mov (.t 10) }])
  (.seq (.reg 2 false [
    { d := some 11, op := .mov (.t 6) },
    { d := some 12, op := .bin .neq (.t 11) (.c (.int .i64 0)) }])
  (.cond (.t 12)
    (.seq (.reg 3 false [
      { d := some 13, op := .build [.int .i64 0, .int .i64 0, .int .u8 0, .nils, .nils] [] },
      { d := some 14, op := .mov (.t 6) },
      { d := none, op := .store 5 (.t 4) (.t 13) },
      { d := some 5, op := .mov (.t 14) }])
    (.ret))
    (.skip))))
  (.seq (.reg 4 false [
    { d := some 16, op := .load true 1 (.t 2) },
    { d := some 17, op := .load true 2 (.t 3) },
    { d := some 18, op := .call 74 [.t 16, .t 17] },
    { d := some 15, op := .mov (.t 18) },
    { d := some 19, op := .ext 0 (.t 15) },
    { d := some 20, op := .ext 1 (.t 15) },
    { d := some 7, op := .alloc [.int .i64 0, .int .i64 0, .int .u8 0, .nils, .nils] },
    { d := none, op := .store 5 (.t 7) (.t 19) },
    { d := some 8, op := .mov (.t 20) }])
  (.seq (.seq (.reg 5 false [
    { d := some 21, op := .mov (.t 8) },
    { d := some 22, op := .un .not (.t 21) }])
  (.cond (.t 22)
    (.seq (.reg 6 false [
      { d := some 23, op := .build [.int .i64 0, .int .i64 0, .int .u8 0, .nils, .nils] [] },
      { d := none, op := .store 5 (.t 4) (.t 23) },
      { d := some 5, op := .mov (.c (.int .i64 6)) }])
    (.ret))
    (.skip)))
  (.seq (.reg 7 false [
    { d := some 24, op := .load true 5 (.t 7) },
    { d := some 25, op := .call 66 [.t 24] },
    { d := none, op := .store 5 (.t 4) (.t 25) },
    { d := some 5, op := .mov (.c (.int .i64 0)) }])
  (.ret)))))
def rr_ref02_At : List RRes := [.c 4 true 5, .t 5]
theorem pc_ref02_At {G : Nat → Option (List AV)} {args : List AV} {v : AV} (hn : args.length ≤ Tryd.f28.ntmps) (h : ∀ R : Run, R.G = G → R.Top → AR Tryd.prog R rc_ref02_At (initSt args) (Fin rr_ref02_At v)) : PC Tryd.prog G 28 args v :=
  PC_of Tryd.func28 rfl (by kernel_rfl) (rc := rc_ref02_At) (by kernel_rfl) (rs := rr_ref02_At) (by kernel_rfl) hn (fun R _ hG hr => h R hG hr)

theorem pb_ref02_At {G : Nat → Option (List AV)} {objs objs' : List (Nat × AObj)} {args : List AV} {v : AV} (hn : args.length ≤ Tryd.f28.ntmps) (h : ∀ R : Run, R.G = G → R.Top → AR Tryd.prog R rc_ref02_At ⟨iniT 0 args, objs⟩ (FinB rr_ref02_At v objs')) : PB Tryd.prog G 28 objs args v objs' :=
  PB_of Tryd.func28 rfl (by kernel_rfl) (rc := rc_ref02_At) (by kernel_rfl) (rs := rr_ref02_At) (by kernel_rfl) hn (fun R _ hG hr => h R hG hr)

theorem pp_ref02_At {G : Nat → Option (List AV)} {args : List AV} {ch : List PanicEntry} (hn : args.length ≤ Tryd.f28.ntmps) (h : ∀ R : Run, R.G = G → R.Top → AR Tryd.prog R rc_ref02_At (initSt args) (FinP ch)) : PPC Tryd.prog G 28 args ch :=
  PPC_of Tryd.func28 rfl (by kernel_rfl) (rc := rc_ref02_At) (by kernel_rfl) hn (fun R _ hG hr => h R hG hr)

def rc_ref02_Depth : RCode :=
  .seq (.reg 0 false [
    { d := some 2, op := .box (.t 0) },
    { d := some 4, op := .mov (.c (.int .i64 0)) },
    { d := some 5, op := .mov (.c (.int .i64 0)) }])
  (.seq (.seq (.reg 1 false [
    { d := some 8, op := .load true 1 (.t 2) },
    { d := some 9, op := .call 25 [.t 8] },
    { d := some 6, op := .mov (.t 9) }])
  (.seq (.reg 2 false [
    { d := some 10, op := .mov (.t 6) },
    { d := some 11, op := .bin .neq (.t 10) (.c (.int .i64 0)) }])
  (.cond (.t 11)
    (.seq (.reg 3 false [
      { d := some 12, op := .mov (.t 6) },
      { d := some 4, op := .mov (.c (.int .i64 0)) },
      { d := some 5, op := .mov (.t 12) }])
    (.ret))
    (.skip))))
  (.seq (.reg 4 false [
    { d := some 13, op := .load true 1 (.t 2) },
    { d := some 14, op := .call 55 [.t 13] },
    { d := some 15, op := .mov (.t 1) },
    { d := some 16, op := .call 56 [.t 14, .t 15] },
    { d := some 7, op := .mov (.t 16) }])
  (.seq (.seq (.reg 5 false [
    { d := some 17, op := .mov (.t 7) },
    { d := some 18, op := .bin .lss (.t 17) (.c (.int .i64 0)) }])
  (.cond (.t 18)
    (.seq (.reg 6 false [
      { d := some 4, op := .mov (.c (.int .i64 0)) },
      { d := some 5, op := .mov (.c (.int .i64 6)) }])
    (.ret))
    (.skip)))
  (.seq (.reg 7 false [
    { d := some 19, op := .load true 1 (.t 2) },
    { d := some 20, op := .call 71 [.t 19] },
    { d := some 21, op := .mov (.t 7) },
    { d := some 22, op := .iaddr 1 (.t 20) (.t 21) },
    { d := some 23, op := .load false 1 (.t 22) },
    { d := some 4, op := .mov (.t 23) },
    { d := some 5, op := .mov (.c (.int .i64 0)) }])
  (.ret)))))
def rr_ref02_Depth : List RRes := [.t 4, .t 5]
theorem pc_ref02_Depth {G : Nat → Option (List AV)} {args : List AV} {v : AV} (hn : args.length ≤ Tryd.f30.ntmps) (h : ∀ R : Run, R.G = G → R.Top → AR Tryd.prog R rc_ref02_Depth (initSt args) (Fin rr_ref02_Depth v)) : PC Tryd.prog G 30 args v :=
  PC_of Tryd.func30 rfl (by kernel_rfl) (rc := rc_ref02_Depth) (by kernel_rfl) (rs := rr_ref02_Depth) (by kernel_rfl) hn (fun R _ hG hr => h R hG hr)

theorem pb_ref02_Depth {G : Nat → Option (List AV)} {objs objs' : List (Nat × AObj)} {args : List AV} {v : AV} (hn : args.length ≤ Tryd.f30.ntmps) (h : ∀ R : Run, R.G = G → R.Top → AR Tryd.prog R rc_ref02_Depth ⟨iniT 0 args, objs⟩ (FinB rr_ref02_Depth v objs')) : PB Tryd.prog G 30 objs args v objs' :=
  PB_of Tryd.func30 rfl (by kernel_rfl) (rc := rc_ref02_Depth) (by kernel_rfl) (rs := rr_ref02_Depth) (by kernel_rfl) hn (fun R _ hG hr => h R hG hr)

theorem pp_ref02_Depth {G : Nat → Option (List AV)} {args : List AV} {ch : List PanicEntry} (hn : args.length ≤ Tryd.f30.ntmps) (h : ∀ R : Run, R.G = G → R.Top → AR Tryd.prog R rc_ref02_Depth (initSt args) (FinP ch)) : PPC Tryd.prog G 30 args ch :=
  PPC_of Tryd.func30 rfl (by kernel_rfl) (rc := rc_ref02_Depth) (by kernel_rfl) hn (fun R _ hG hr => h R hG hr)

def rc_ref02_SameInts : RCode :=
  .seq (.reg 0 false [
    { d := some 4, op := .mov (.c (.bool false)) }])
  (.seq (.seq (.reg 1 false [
    { d := some 6, op := .mov (.t 0) },
    { d := some 7, op := .len (.t 6) },
    { d := some 8, op := .mov (.t 1) },
    { d := some 9, op := .len (.t 8) },
    { d := some 10, op := .bin .neq (.t 7) (.t 9) }])
  (.cond (.t 10)
    (.seq (.reg 2 false [
      { d := some 4, op := .mov (.c (.bool false)) }])
    (.ret))
    (.skip)))
  (.seq (.seq (.reg 3 false [
    { d := some 5, op := .mov (.c (.int .i64 0)) }])
  (.block 0
    (.loop
      (.seq (.seq (.reg 4 false [
        { d := some 11, op := .mov (.t 5) },
        { d := some 12, op := .mov (.t 0) },
        { d := some 13, op := .len (.t 12) },
        { d := some 14, op := .bin .lss (.t 11) (.t 13) }])
      (.cond (.t 14)
        (.skip)
        (.exit 0)))
      (.seq (.block 1
        (.seq (.reg 6 true [
          { d := some 17, op := .mov (.t 0), aft := [] },
          { d := some 18, op := .mov (.t 5), aft := [] },
          { d := some 19, op := .iaddr 1 (.t 17) (.t 18), aft := [0, 1] },
          { d := some 20, op := .load false 1 (.t 19), aft := [2] },
          { d := some 21, op := .mov (.t 1), aft := [] },
          { d := some 22, op := .mov (.t 5), aft := [] },
          { d := some 23, op := .iaddr 1 (.t 21) (.t 22), aft := [4, 5] },
          { d := some 24, op := .load false 1 (.t 23), aft := [6] },
          { d := some 25, op := .bin .neq (.t 20) (.t 24), aft := [3, 7] }])
        (.cond (.t 25)
          (.seq (.reg 7 false [
            { d := some 4, op := .mov (.c (.bool false)) }])
          (.ret))
          (.skip))))
      (.reg 5 false [
        { d := some 15, op := .mov (.t 5) },
        { d := some 16, op := .bin .add (.t 15) (.c (.int .i64 1)) },
        { d := some 5, op := .mov (.t 16) }]))))))
  (.seq (.reg 8 false [
    { d := some 4, op := .mov (.c (.bool true)) }])
  (.ret))))
def rr_ref02_SameInts : List RRes := [.t 4]
theorem pc_ref02_SameInts {G : Nat → Option (List AV)} {args : List AV} {v : AV} (hn : args.length ≤ Tryd.f26.ntmps) (h : ∀ R : Run, R.G = G → R.Top → AR Tryd.prog R rc_ref02_SameInts (initSt args) (Fin rr_ref02_SameInts v)) : PC Tryd.prog G 26 args v :=
  PC_of Tryd.func26 rfl (by kernel_rfl) (rc := rc_ref02_SameInts) (by kernel_rfl) (rs := rr_ref02_SameInts) (by kernel_rfl) hn (fun R _ hG hr => h R hG hr)

theorem pb_ref02_SameInts {G : Nat → Option (List AV)} {objs objs' : List (Nat × AObj)} {args : List AV} {v : AV} (hn : args.length ≤ Tryd.f26.ntmps) (h : ∀ R : Run, R.G = G → R.Top → AR Tryd.prog R rc_ref02_SameInts ⟨iniT 0 args, objs⟩ (FinB rr_ref02_SameInts v objs')) : PB Tryd.prog G 26 objs args v objs' :=
  PB_of Tryd.func26 rfl (by kernel_rfl) (rc := rc_ref02_SameInts) (by kernel_rfl) (rs := rr_ref02_SameInts) (by kernel_rfl) hn (fun R _ hG hr => h R hG hr)

theorem pp_ref02_SameInts {G : Nat → Option (List AV)} {args : List AV} {ch : List PanicEntry} (hn : args.length ≤ Tryd.f26.ntmps) (h : ∀ R : Run, R.G = G → R.Top → AR Tryd.prog R rc_ref02_SameInts (initSt args) (FinP ch)) : PPC Tryd.prog G 26 args ch :=
  PPC_of Tryd.func26 rfl (by kernel_rfl) (rc := rc_ref02_SameInts) (by kernel_rfl) hn (fun R _ hG hr => h R hG hr)

def rc_ref02_SameItems : RCode :=
  .seq (.reg 0 false [
    { d := some 4, op := .mov (.c (.bool false)) }])
  (.seq (.seq (.reg 1 false [
    { d := some 6, op := .mov (.t 0) },
    { d := some 7, op := .len (.t 6) },
    { d := some 8, op := .mov (.t 1) },
    { d := some 9, op := .len (.t 8) },
    { d := some 10, op := .bin .neq (.t 7) (.t 9) }])
  (.cond (.t 10)
    (.seq (.reg 2 false [
      { d := some 4, op := .mov (.c (.bool false)) }])
    (.ret))
    (.skip)))
  (.seq (.seq (.reg 3 false [
    { d := some 5, op := .mov (.c (.int .i64 0)) }])
  (.block 0
    (.loop
      (.seq (.seq (.reg 4 false [
        { d := some 11, op := .mov (.t 5) },
        { d := some 12, op := .mov (.t 0) },
        { d := some 13, op := .len (.t 12) },
        { d := some 14, op := .bin .lss (.t 11) (.t 13) }])
      (.cond (.t 14)
        (.skip)
        (.exit 0)))
      (.seq (.block 1
        (.seq (.reg 6 true [
          { d := some 17, op := .mov (.t 0), aft := [] },
          { d := some 18, op := .mov (.t 5), aft := [] },
          { d := some 19, op := .iaddr 2 (.t 17) (.t 18), aft := [0, 1] },
          { d := some 20, op := .load true 2 (.t 19), aft := [2] },
          { d := some 21, op := .mov (.t 1), aft := [] },
          { d := some 22, op := .mov (.t 5), aft := [] },
          { d := some 23, op := .iaddr 2 (.t 21) (.t 22), aft := [4, 5] },
          { d := some 24, op := .load true 2 (.t 23), aft := [6] },
          { d := some 25, op := .eqs true [.i, .i] (.t 20) (.t 24), aft := [3, 7] }])
        (.cond (.t 25)
          (.seq (.reg 7 false [
            { d := some 4, op := .mov (.c (.bool false)) }])
          (.ret))
          (.skip))))
      (.reg 5 false [
        { d := some 15, op := .mov (.t 5) },
        { d := some 16, op := .bin .add (.t 15) (.c (.int .i64 1)) },
        { d := some 5, op := .mov (.t 16) }]))))))
  (.seq (.reg 8 false [
    { d := some 4, op := .mov (.c (.bool true)) }])
  (.ret))))
def rr_ref02_SameItems : List RRes := [.t 4]
theorem pc_ref02_SameItems {G : Nat → Option (List AV)} {args : List AV} {v : AV} (hn : args.length ≤ Tryd.f37.ntmps) (h : ∀ R : Run, R.G = G → R.Top → AR Tryd.prog R rc_ref02_SameItems (initSt args) (Fin rr_ref02_SameItems v)) : PC Tryd.prog G 37 args v :=
  PC_of Tryd.func37 rfl (by kernel_rfl) (rc := rc_ref02_SameItems) (by kernel_rfl) (rs := rr_ref02_SameItems) (by kernel_rfl) hn (fun R _ hG hr => h R hG hr)

theorem pb_ref02_SameItems {G : Nat → Option (List AV)} {objs objs' : List (Nat × AObj)} {args : List AV} {v : AV} (hn : args.length ≤ Tryd.f37.ntmps) (h : ∀ R : Run, R.G = G → R.Top → AR Tryd.prog R rc_ref02_SameItems ⟨iniT 0 args, objs⟩ (FinB rr_ref02_SameItems v objs')) : PB Tryd.prog G 37 objs args v objs' :=
  PB_of Tryd.func37 rfl (by kernel_rfl) (rc := rc_ref02_SameItems) (by kernel_rfl) (rs := rr_ref02_SameItems) (by kernel_rfl) hn (fun R _ hG hr => h R hG hr)

theorem pp_ref02_SameItems {G : Nat → Option (List AV)} {args : List AV} {ch : List PanicEntry} (hn : args.length ≤ Tryd.f37.ntmps) (h : ∀ R : Run, R.G = G → R.Top → AR Tryd.prog R rc_ref02_SameItems (initSt args) (FinP ch)) : PPC Tryd.prog G 37 args ch :=
  PPC_of Tryd.func37 rfl (by kernel_rfl) (rc := rc_ref02_SameItems) (by kernel_rfl) hn (fun R _ hG hr => h R hG hr)

def rc_ref02_SameIssue : RCode :=
  .seq (.reg 0 false [
    { d := some 2, op := .box (.t 0) },
    { d := some 3, op := .box (.t 1) },
    { d := some 4, op := .mov (.c (.bool false)) }])
  (.seq (.seq (.reg 1 false [
    { d := some 6, op := .faddr 0 (.t 2) },
    { d := some 7, op := .load false 1 (.t 6) },
    { d := some 8, op := .faddr 0 (.t 3) },
    { d := some 9, op := .load false 1 (.t 8) },
    { d := some 10, op := .bin .neq (.t 7) (.t 9) },
    { d := some 11, op := .mov (.t 10) },
    { d := some 12, op := .faddr 1 (.t 2), guard := some (11, false) },
    { d := some 13, op := .load false 1 (.t 12), guard := some (11, false) },
    { d := some 14, op := .faddr 1 (.t 3), guard := some (11, false) },
    { d := some 15, op := .load false 1 (.t 14), guard := some (11, false) },
    { d := some 16, op := .bin .neq (.t 13) (.t 15), guard := some (11, false) },
    { d := some 17, op := .pick (.t 11) (.c (.bool true)) (.t 16) },
    { d := some 18, op := .mov (.t 17) },
    { d := some 19, op := .faddr 2 (.t 2), guard := some (18, false) },
    { d := some 20, op := .load false 1 (.t 19), guard := some (18, false) },
    { d := some 21, op := .faddr 2 (.t 3), guard := some (18, false) },
    { d := some 22, op := .load false 1 (.t 21), guard := some (18, false) },
    { d := some 23, op := .bin .neq (.t 20) (.t 22), guard := some (18, false) },
    { d := some 24, op := .pick (.t 18) (.c (.bool true)) (.t 23) },
    { d := some 25, op := .mov (.t 24) },
    { d := some 26, op := .faddr 3 (.t 2), guard := some (25, false) },
    { d := some 27, op := .load false 1 (.t 26), guard := some (25, false) },
    { d := some 28, op := .faddr 3 (.t 3), guard := some (25, false) },
    { d := some 29, op := .load false 1 (.t 28), guard := some (25, false) },
    { d := some 30, op := .call 37 [.t 27, .t 29], guard := some (25, false) },
    { d := some 31, op := .un .not (.t 30), guard := some (25, false) },
    { d := some 32, op := .pick (.t 25) (.c (.bool true)) (.t 31) },
    { d := some 33, op := .mov (.t 32) },
    { d := some 34, op := .faddr 4 (.t 2), guard := some (33, false) },
    { d := some 35, op := .load false 1 (.t 34), guard := some (33, false) },
    { d := some 36, op := .len (.t 35), guard := some (33, false) },
    { d := some 37, op := .faddr 4 (.t 3), guard := some (33, false) },
    { d := some 38, op := .load false 1 (.t 37), guard := some (33, false) },
    { d := some 39, op := .len (.t 38), guard := some (33, false) },
    { d := some 40, op := .bin .neq (.t 36) (.t 39), guard := some (33, false) },
    { d := some 41, op := .pick (.t 33) (.c (.bool true)) (.t 40) }])
  (.cond (.t 41)
    (.seq (.reg 2 false [
      { d := some 4, op := .mov (.c (.bool false)) }])
    (.ret))
    (.skip)))
  (.seq (.seq (.reg 3 false [
    { d := some 5, op := .mov (.c (.int .i64 0)) }])
  (.block 0
    (.loop
      (.seq (.seq (.reg 4 false [
        { d := some 42, op := .mov (.t 5) },
        { d := some 43, op := .faddr 4 (.t 2) },
        { d := some 44, op := .load false 1 (.t 43) },
        { d := some 45, op := .len (.t 44) },
        { d := some 46, op := .bin .lss (.t 42) (.t 45) }])
      (.cond (.t 46)
        (.skip)
        (.exit 0)))
      (.seq (.block 1
        (.seq (.reg 6 true [
          { d := some 49, op := .faddr 4 (.t 2), aft := [] },
          { d := some 50, op := .load false 1 (.t 49), aft := [0] },
          { d := some 51, op := .mov (.t 5), aft := [] },
          { d := some 52, op := .iaddr 3 (.t 50) (.t 51), aft := [1, 2] },
          { d := some 53, op := .load true 3 (.t 52), aft := [3] },
          { d := some 54, op := .faddr 4 (.t 3), aft := [] },
          { d := some 55, op := .load false 1 (.t 54), aft := [5] },
          { d := some 56, op := .mov (.t 5), aft := [] },
          { d := some 57, op := .iaddr 3 (.t 55) (.t 56), aft := [6, 7] },
          { d := some 58, op := .load true 3 (.t 57), aft := [8] },
          { d := some 59, op := .eqs true [.i, .i, .i] (.t 53) (.t 58), aft := [4, 9] }])
        (.cond (.t 59)
          (.seq (.reg 7 false [
            { d := some 4, op := .mov (.c (.bool false)) }])
          (.ret))
          (.skip))))
      (.reg 5 false [
        { d := some 47, op := .mov (.t 5) },
        { d := some 48, op := .bin .add (.t 47) (.c (.int .i64 1)) },
        { d := some 5, op := .mov (.t 48) }]))))))
  (.seq (.reg 8 false [
    { d := some 4, op := .mov (.c (.bool true)) }])
  (.ret))))
def rr_ref02_SameIssue : List RRes := [.t 4]
theorem pc_ref02_SameIssue {G : Nat → Option (List AV)} {args : List AV} {v : AV} (hn : args.length ≤ Tryd.f31.ntmps) (h : ∀ R : Run, R.G = G → R.Top → AR Tryd.prog R rc_ref02_SameIssue (initSt args) (Fin rr_ref02_SameIssue v)) : PC Tryd.prog G 31 args v :=
  PC_of Tryd.func31 rfl (by kernel_rfl) (rc := rc_ref02_SameIssue) (by kernel_rfl) (rs := rr_ref02_SameIssue) (by kernel_rfl) hn (fun R _ hG hr => h R hG hr)

theorem pb_ref02_SameIssue {G : Nat → Option (List AV)} {objs objs' : List (Nat × AObj)} {args : List AV} {v : AV} (hn : args.length ≤ Tryd.f31.ntmps) (h : ∀ R : Run, R.G = G → R.Top → AR Tryd.prog R rc_ref02_SameIssue ⟨iniT 0 args, objs⟩ (FinB rr_ref02_SameIssue v objs')) : PB Tryd.prog G 31 objs args v objs' :=
  PB_of Tryd.func31 rfl (by kernel_rfl) (rc := rc_ref02_SameIssue) (by kernel_rfl) (rs := rr_ref02_SameIssue) (by kernel_rfl) hn (fun R _ hG hr => h R hG hr)

theorem pp_ref02_SameIssue {G : Nat → Option (List AV)} {args : List AV} {ch : List PanicEntry} (hn : args.length ≤ Tryd.f31.ntmps) (h : ∀ R : Run, R.G = G → R.Top → AR Tryd.prog R rc_ref02_SameIssue (initSt args) (FinP ch)) : PPC Tryd.prog G 31 args ch :=
  PPC_of Tryd.func31 rfl (by kernel_rfl) (rc := rc_ref02_SameIssue) (by kernel_rfl) hn (fun R _ hG hr => h R hG hr)

def rc_ref02_Same : RCode :=
  .seq (.reg 0 false [
    { d := some 2, op := .box (.t 0) },
    { d := some 3, op := .box (.t 1) },
    { d := some 4, op := .mov (.c (.bool false)) }])
  (.seq (.seq (.reg 1 false [
    { d := some 6, op := .faddr 0 (.t 2) },
    { d := some 7, op := .load false 1 (.t 6) },
    { d := some 8, op := .len (.t 7) },
    { d := some 9, op := .faddr 0 (.t 3) },
    { d := some 10, op := .load false 1 (.t 9) },
    { d := some 11, op := .len (.t 10) },
    { d := some 12, op := .bin .neq (.t 8) (.t 11) }])
  (.cond (.t 12)
    (.seq (.reg 2 false [
      { d := some 4, op := .mov (.c (.bool false)) }])
    (.ret))
    (.skip)))
  (.seq (.seq (.reg 3 false [
    { d := some 5, op := .mov (.c (.int .i64 0)) }])
  (.block 0
    (.loop
      (.seq (.seq (.reg 4 false [
        { d := some 13, op := .mov (.t 5) },
        { d := some 14, op := .faddr 0 (.t 2) },
        { d := some 15, op := .load false 1 (.t 14) },
        { d := some 16, op := .len (.t 15) },
        { d := some 17, op := .bin .lss (.t 13) (.t 16) }])
      (.cond (.t 17)
        (.skip)
        (.exit 0)))
      (.seq (.block 1
        (.seq (.reg 6 true [
          { d := some 20, op := .faddr 0 (.t 2), aft := [] },
          { d := some 21, op := .load false 1 (.t 20), aft := [0] },
          { d := some 22, op := .mov (.t 5), aft := [] },
          { d := some 23, op := .iaddr 5 (.t 21) (.t 22), aft := [1, 2] },
          { d := some 24, op := .load true 5 (.t 23), aft := [3] },
          { d := some 25, op := .faddr 0 (.t 3), aft := [] },
          { d := some 26, op := .load false 1 (.t 25), aft := [5] },
          { d := some 27, op := .mov (.t 5), aft := [] },
          { d := some 28, op := .iaddr 5 (.t 26) (.t 27), aft := [6, 7] },
          { d := some 29, op := .load true 5 (.t 28), aft := [8] },
          { d := some 30, op := .call 31 [.t 24, .t 29], aft := [4, 9] },
          { d := some 31, op := .un .not (.t 30), aft := [10] }])
        (.cond (.t 31)
          (.seq (.reg 7 false [
            { d := some 4, op := .mov (.c (.bool false)) }])
          (.ret))
          (.skip))))
      (.reg 5 false [
        { d := some 18, op := .mov (.t 5) },
        { d := some 19, op := .bin .add (.t 18) (.c (.int .i64 1)) },
        { d := some 5, op := .mov (.t 19) }]))))))
  (.seq (.reg 8 false [
    { d := some 4, op := .mov (.c (.bool true)) }])
  (.ret))))
def rr_ref02_Same : List RRes := [.t 4]
theorem pc_ref02_Same {G : Nat → Option (List AV)} {args : List AV} {v : AV} (hn : args.length ≤ Tryd.f32.ntmps) (h : ∀ R : Run, R.G = G → R.Top → AR Tryd.prog R rc_ref02_Same (initSt args) (Fin rr_ref02_Same v)) : PC Tryd.prog G 32 args v :=
  PC_of Tryd.func32 rfl (by kernel_rfl) (rc := rc_ref02_Same) (by kernel_rfl) (rs := rr_ref02_Same) (by kernel_rfl) hn (fun R _ hG hr => h R hG hr)

theorem pb_ref02_Same {G : Nat → Option (List AV)} {objs objs' : List (Nat × AObj)} {args : List AV} {v : AV} (hn : args.length ≤ Tryd.f32.ntmps) (h : ∀ R : Run, R.G = G → R.Top → AR Tryd.prog R rc_ref02_Same ⟨iniT 0 args, objs⟩ (FinB rr_ref02_Same v objs')) : PB Tryd.prog G 32 objs args v objs' :=
  PB_of Tryd.func32 rfl (by kernel_rfl) (rc := rc_ref02_Same) (by kernel_rfl) (rs := rr_ref02_Same) (by kernel_rfl) hn (fun R _ hG hr => h R hG hr)

theorem pp_ref02_Same {G : Nat → Option (List AV)} {args : List AV} {ch : List PanicEntry} (hn : args.length ≤ Tryd.f32.ntmps) (h : ∀ R : Run, R.G = G → R.Top → AR Tryd.prog R rc_ref02_Same (initSt args) (FinP ch)) : PPC Tryd.prog G 32 args ch :=
  PPC_of Tryd.func32 rfl (by kernel_rfl) (rc := rc_ref02_Same) (by kernel_rfl) hn (fun R _ hG hr => h R hG hr)

def rc_ref02_TwinIssue : RCode :=
  .seq (.reg 0 false [
    { d := some 1, op := .box (.t 0) },
    { d := some 2, op := .alloc [.int .i64 0, .int .i64 0, .int .u8 0, .nils, .nils] }])
  (.seq (.reg 1 true [
    { d := some 3, op := .bsl true 2 0 [] [], aft := [] },
    { d := some 4, op := .faddr 3 (.t 1), aft := [] },
    { d := some 5, op := .load false 1 (.t 4), aft := [1] },
    { d := some 6, op := .app 2 16 (.t 3) (.t 5), aft := [0, 2] },
    { d := some 7, op := .bsl true 3 0 [] [], aft := [] },
    { d := some 8, op := .faddr 4 (.t 1), aft := [] },
    { d := some 9, op := .load false 1 (.t 8), aft := [5] },
    { d := some 10, op := .app 3 24 (.t 7) (.t 9), aft := [4, 6, 3] },
    { d := some 11, op := .faddr 3 (.t 1), aft := [0, 1, 2, 3, 5, 6] },
    { d := none, op := .store 1 (.t 11) (.t 6), aft := [8, 3, 7, 0, 1, 2, 3, 5, 6] },
    { d := some 12, op := .faddr 4 (.t 1), aft := [0, 1, 2, 3, 4, 5, 6, 7, 8, 9] },
    { d := none, op := .store 1 (.t 12) (.t 10), aft := [10, 7, 9, 0, 1, 2, 3, 4, 5, 6, 7, 8, 9] }])
  (.seq (.reg 2 false [
    { d := some 13, op := .load true 5 (.t 1) },
    { d := none, op := .store 5 (.t 2) (.t 13) }])
  (.ret)))
def rr_ref02_TwinIssue : List RRes := [.c 2 true 5]
theorem pc_ref02_TwinIssue {G : Nat → Option (List AV)} {args : List AV} {v : AV} (hn : args.length ≤ Tryd.f66.ntmps) (h : ∀ R : Run, R.G = G → R.Top → AR Tryd.prog R rc_ref02_TwinIssue (initSt args) (Fin rr_ref02_TwinIssue v)) : PC Tryd.prog G 66 args v :=
  PC_of Tryd.func66 rfl (by kernel_rfl) (rc := rc_ref02_TwinIssue) (by kernel_rfl) (rs := rr_ref02_TwinIssue) (by kernel_rfl) hn (fun R _ hG hr => h R hG hr)

theorem pb_ref02_TwinIssue {G : Nat → Option (List AV)} {objs objs' : List (Nat × AObj)} {args : List AV} {v : AV} (hn : args.length ≤ Tryd.f66.ntmps) (h : ∀ R : Run, R.G = G → R.Top → AR Tryd.prog R rc_ref02_TwinIssue ⟨iniT 0 args, objs⟩ (FinB rr_ref02_TwinIssue v objs')) : PB Tryd.prog G 66 objs args v objs' :=
  PB_of Tryd.func66 rfl (by kernel_rfl) (rc := rc_ref02_TwinIssue) (by kernel_rfl) (rs := rr_ref02_TwinIssue) (by kernel_rfl) hn (fun R _ hG hr => h R hG hr)

theorem pp_ref02_TwinIssue {G : Nat → Option (List AV)} {args : List AV} {ch : List PanicEntry} (hn : args.length ≤ Tryd.f66.ntmps) (h : ∀ R : Run, R.G = G → R.Top → AR Tryd.prog R rc_ref02_TwinIssue (initSt args) (FinP ch)) : PPC Tryd.prog G 66 args ch :=
  PPC_of Tryd.func66 rfl (by kernel_rfl) (rc := rc_ref02_TwinIssue) (by kernel_rfl) hn (fun R _ hG hr => h R hG hr)

def rc_ref02_Twin : RCode :=
  .seq (.reg 0 false [
    { d := some 1, op := .box (.t 0) },
    { d := some 2, op := .alloc [.nils] }])
  (.seq (.reg 1 false [
    { d := some 3, op := .alloc [.nils] }])
  (.seq (.seq (.reg 2 false [
    { d := some 4, op := .mov (.c (.int .i64 0)) }])
  (.block 0
    (.loop
      (.seq (.seq (.reg 3 false [
        { d := some 5, op := .mov (.t 4) },
        { d := some 6, op := .faddr 0 (.t 1) },
        { d := some 7, op := .load false 1 (.t 6) },
        { d := some 8, op := .len (.t 7) },
        { d := some 9, op := .bin .lss (.t 5) (.t 8) }])
      (.cond (.t 9)
        (.skip)
        (.exit 0)))
      (.seq (.block 1
        (.reg 5 true [
          { d := some 12, op := .faddr 0 (.t 3), aft := [] },
          { d := some 13, op := .load false 1 (.t 12), aft := [0] },
          { d := some 14, op := .faddr 0 (.t 1), aft := [] },
          { d := some 15, op := .load false 1 (.t 14), aft := [2] },
          { d := some 16, op := .mov (.t 4), aft := [] },
          { d := some 17, op := .iaddr 5 (.t 15) (.t 16), aft := [3, 4] },
          { d := some 18, op := .load true 5 (.t 17), aft := [5] },
          { d := some 19, op := .call 66 [.t 18], aft := [6] },
          { d := some 20, op := .bsl false 5 1 [.int .i64 0, .int .i64 0, .int .u8 0, .nils, .nils] [(0, .t 19)], aft := [7] },
          { d := some 21, op := .app 5 72 (.t 13) (.t 20), aft := [1, 8, 7] },
          { d := some 22, op := .faddr 0 (.t 3), aft := [0, 1, 2, 3, 4, 5, 6, 7, 8, 9] },
          { d := none, op := .store 1 (.t 22) (.t 21), aft := [10, 9, 9, 0, 1, 2, 3, 4, 5, 6, 7, 8, 9] }]))
      (.reg 4 false [
        { d := some 10, op := .mov (.t 4) },
        { d := some 11, op := .bin .add (.t 10) (.c (.int .i64 1)) },
        { d := some 4, op := .mov (.t 11) }]))))))
  (.seq (.reg 6 false [
    { d := some 23, op := .load true 1 (.t 3) },
    { d := none, op := .store 1 (.t 2) (.t 23) }])
  (.ret))))
def rr_ref02_Twin : List RRes := [.c 2 true 1]
theorem pc_ref02_Twin {G : Nat → Option (List AV)} {args : List AV} {v : AV} (hn : args.length ≤ Tryd.f19.ntmps) (h : ∀ R : Run, R.G = G → R.Top → AR Tryd.prog R rc_ref02_Twin (initSt args) (Fin rr_ref02_Twin v)) : PC Tryd.prog G 19 args v :=
  PC_of Tryd.func19 rfl (by kernel_rfl) (rc := rc_ref02_Twin) (by kernel_rfl) (rs := rr_ref02_Twin) (by kernel_rfl) hn (fun R _ hG hr => h R hG hr)

theorem pb_ref02_Twin {G : Nat → Option (List AV)} {objs objs' : List (Nat × AObj)} {args : List AV} {v : AV} (hn : args.length ≤ Tryd.f19.ntmps) (h : ∀ R : Run, R.G = G → R.Top → AR Tryd.prog R rc_ref02_Twin ⟨iniT 0 args, objs⟩ (FinB rr_ref02_Twin v objs')) : PB Tryd.prog G 19 objs args v objs' :=
  PB_of Tryd.func19 rfl (by kernel_rfl) (rc := rc_ref02_Twin) (by kernel_rfl) (rs := rr_ref02_Twin) (by kernel_rfl) hn (fun R _ hG hr => h R hG hr)

theorem pp_ref02_Twin {G : Nat → Option (List AV)} {args : List AV} {ch : List PanicEntry} (hn : args.length ≤ Tryd.f19.ntmps) (h : ∀ R : Run, R.G = G → R.Top → AR Tryd.prog R rc_ref02_Twin (initSt args) (FinP ch)) : PPC Tryd.prog G 19 args ch :=
  PPC_of Tryd.func19 rfl (by kernel_rfl) (rc := rc_ref02_Twin) (by kernel_rfl) hn (fun R _ hG hr => h R hG hr)

def rc_ref02_Great : RCode :=
  .seq (.reg 0 false [
    { d := some 1, op := .box (.t 0) },
    { d := some 2, op := .mov (.c (.bool false)) }])
  (.seq (.seq (.reg 1 false [
    { d := some 4, op := .faddr 0 (.t 1) },
    { d := some 5, op := .load false 1 (.t 4) },
    { d := some 6, op := .len (.t 5) },
    { d := some 7, op := .bin .gtr (.t 6) (.c (.int .i64 80)) }])
  (.cond (.t 7)
    (.seq (.reg 2 false [
      { d := some 2, op := .mov (.c (.bool true)) }])
    (.ret))
    (.skip)))
  (.seq (.seq (.reg 3 false [
    { d := some 3, op := .mov (.c (.int .i64 0)) }])
  (.block 0
    (.loop
      (.seq (.seq (.reg 4 false [
        { d := some 8, op := .mov (.t 3) },
        { d := some 9, op := .faddr 0 (.t 1) },
        { d := some 10, op := .load false 1 (.t 9) },
        { d := some 11, op := .len (.t 10) },
        { d := some 12, op := .bin .lss (.t 8) (.t 11) }])
      (.cond (.t 12)
        (.skip)
        (.exit 0)))
      (.seq (.block 1
        (.seq (.reg 6 false [
          { d := some 15, op := .faddr 0 (.t 1) },
          { d := some 16, op := .load false 1 (.t 15) },
          { d := some 17, op := .mov (.t 3) },
          { d := some 18, op := .iaddr 5 (.t 16) (.t 17) },
          { d := some 19, op := .faddr 3 (.t 18) },
          { d := some 20, op := .load false 1 (.t 19) },
          { d := some 21, op := .len (.t 20) },
          { d := some 22, op := .bin .gtr (.t 21) (.c (.int .i64 16)) },
          { d := some 23, op := .mov (.t 22) },
          { d := some 24, op := .faddr 0 (.t 1), guard := some (23, false) },
          { d := some 25, op := .load false 1 (.t 24), guard := some (23, false) },
          { d := some 26, op := .mov (.t 3), guard := some (23, false) },
          { d := some 27, op := .iaddr 5 (.t 25) (.t 26), guard := some (23, false) },
          { d := some 28, op := .faddr 4 (.t 27), guard := some (23, false) },
          { d := some 29, op := .load false 1 (.t 28), guard := some (23, false) },
          { d := some 30, op := .len (.t 29), guard := some (23, false) },
          { d := some 31, op := .bin .gtr (.t 30) (.c (.int .i64 8)), guard := some (23, false) },
          { d := some 32, op := .pick (.t 23) (.c (.bool true)) (.t 31) }])
        (.cond (.t 32)
          (.seq (.reg 7 false [
            { d := some 2, op := .mov (.c (.bool true)) }])
          (.ret))
          (.skip))))
      (.reg 5 false [
        { d := some 13, op := .mov (.t 3) },
        { d := some 14, op := .bin .add (.t 13) (.c (.int .i64 1)) },
        { d := some 3, op := .mov (.t 14) }]))))))
  (.seq (.reg 8 false [
    { d := some 2, op := .mov (.c (.bool false)) }])
  (.ret))))
def rr_ref02_Great : List RRes := [.t 2]
theorem pc_ref02_Great {G : Nat → Option (List AV)} {args : List AV} {v : AV} (hn : args.length ≤ Tryd.f18.ntmps) (h : ∀ R : Run, R.G = G → R.Top → AR Tryd.prog R rc_ref02_Great (initSt args) (Fin rr_ref02_Great v)) : PC Tryd.prog G 18 args v :=
  PC_of Tryd.func18 rfl (by kernel_rfl) (rc := rc_ref02_Great) (by kernel_rfl) (rs := rr_ref02_Great) (by kernel_rfl) hn (fun R _ hG hr => h R hG hr)

theorem pb_ref02_Great {G : Nat → Option (List AV)} {objs objs' : List (Nat × AObj)} {args : List AV} {v : AV} (hn : args.length ≤ Tryd.f18.ntmps) (h : ∀ R : Run, R.G = G → R.Top → AR Tryd.prog R rc_ref02_Great ⟨iniT 0 args, objs⟩ (FinB rr_ref02_Great v objs')) : PB Tryd.prog G 18 objs args v objs' :=
  PB_of Tryd.func18 rfl (by kernel_rfl) (rc := rc_ref02_Great) (by kernel_rfl) (rs := rr_ref02_Great) (by kernel_rfl) hn (fun R _ hG hr => h R hG hr)

theorem pp_ref02_Great {G : Nat → Option (List AV)} {args : List AV} {ch : List PanicEntry} (hn : args.length ≤ Tryd.f18.ntmps) (h : ∀ R : Run, R.G = G → R.Top → AR Tryd.prog R rc_ref02_Great (initSt args) (FinP ch)) : PPC Tryd.prog G 18 args ch :=
  PPC_of Tryd.func18 rfl (by kernel_rfl) (rc := rc_ref02_Great) (by kernel_rfl) hn (fun R _ hG hr => h R hG hr)

end Go.Proofs.YtdpmioiamcgfkaaDoor
