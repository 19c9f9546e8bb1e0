/-
  The abstract machine's code of functions of the program, as a program of ours printed it; that it is theirs is proved beside each.
-/
import Derived.Test.YtikjooemblpnbaaDoorAmL
import Derived.Test.YtikjooemblpnbaaDoorProg
namespace Go.Proofs.YtikjooemblpnbaaDoor
open Go.RowKit

def rc_law01_SizeRead : RCode :=
  .seq (.reg 0 false [
    { d := some 3, op := .box (.t 0) },
    { d := some 6, op := .mov (.c (.bool false)) }])
  (.seq (.reg 1 false [
    { d := some 20, op := .call 41 [] },
    { d := some 7, op := .mov (.t 20) }])
  (.seq (.seq (.reg 2 false [
    { d := some 21, op := .mov (.t 2) },
    { d := some 22, op := .slen (.t 21) },
    { d := some 23, op := .bin .gtr (.t 22) (.c (.int .i64 200)) },
    { d := some 24, op := .mov (.t 23) },
    { d := some 25, op := .mov (.t 7), guard := some (24, false) },
    { d := some 26, op := .un .not (.t 25), guard := some (24, false) },
    { d := some 27, op := .pick (.t 24) (.c (.bool true)) (.t 26) }])
  (.cond (.t 27)
    (.seq (.reg 3 false [
      { d := some 28, op := .mov (.t 7) },
      { d := some 6, op := .mov (.t 28) }])
    (.ret))
    (.skip)))
  (.seq (.reg 4 false [
    { d := some 30, op := .mov (.t 1) },
    { d := some 31, op := .call 43 [.t 30] },
    { d := some 29, op := .mov (.t 31) },
    { d := some 32, op := .ext 0 (.t 29) },
    { d := some 33, op := .ext 1 (.t 29) },
    { d := some 8, op := .mov (.t 32) },
    { d := some 9, op := .mov (.t 33) }])
  (.seq (.reg 5 false [
    { d := some 35, op := .load true 3 (.t 3) },
    { d := some 36, op := .mov (.t 8) },
    { d := some 37, op := .call 35 [.t 35, .t 36] },
    { d := some 34, op := .mov (.t 37) },
    { d := some 38, op := .ext 0 (.t 34) },
    { d := some 39, op := .ext 1 (.t 34) },
    { d := some 10, op := .mov (.t 38) },
    { d := some 11, op := .mov (.t 39) }])
  (.seq (.reg 6 false [
    { d := some 41, op := .load true 3 (.t 3) },
    { d := some 42, op := .call 33 [.t 41] },
    { d := some 40, op := .mov (.t 42) },
    { d := some 43, op := .ext 0 (.t 40) },
    { d := some 44, op := .ext 1 (.t 40) },
    { d := some 12, op := .mov (.t 43) },
    { d := some 13, op := .mov (.t 44) }])
  (.seq (.seq (.reg 7 false [
    { d := some 45, op := .mov (.t 11) },
    { d := some 46, op := .bin .eql (.t 45) (.c (.int .i64 0)) },
    { d := some 47, op := .mov (.t 13) },
    { d := some 48, op := .bin .eql (.t 47) (.c (.int .i64 0)) },
    { d := some 49, op := .mov (.t 48) },
    { d := some 50, op := .mov (.t 12), guard := some (49, true) },
    { d := some 51, op := .mov (.t 8), guard := some (49, true) },
    { d := some 52, op := .vop (.bits .and) [(.t 50), (.t 51)], guard := some (49, true) },
    { d := some 53, op := .mov (.t 8), guard := some (49, true) },
    { d := some 54, op := .bin .eql (.t 52) (.t 53), guard := some (49, true) },
    { d := some 55, op := .pick (.t 49) (.t 54) (.c (.bool false)) },
    { d := some 56, op := .vop (.beq true) [(.t 46), (.t 55)] }])
  (.cond (.t 56)
    (.seq (.reg 8 false [
      { d := some 6, op := .mov (.c (.bool false)) }])
    (.ret))
    (.skip)))
  (.seq (.seq (.reg 9 false [
    { d := some 57, op := .mov (.t 11) },
    { d := some 58, op := .bin .eql (.t 57) (.c (.int .i64 0)) }])
  (.cond (.t 58)
    (.seq (.reg 10 false [
      { d := some 60, op := .mov (.t 10) },
      { d := some 61, op := .call 37 [.t 60] },
      { d := some 59, op := .mov (.t 61) },
      { d := some 62, op := .ext 0 (.t 59) },
      { d := some 63, op := .ext 1 (.t 59) },
      { d := some 64, op := .ext 2 (.t 59) },
      { d := some 14, op := .alloc [.int .i64 0, .int .i64 0, .int .i64 0] },
      { d := none, op := .store 3 (.t 14) (.t 62) },
      { d := some 15, op := .mov (.t 63) },
      { d := some 16, op := .mov (.t 64) }])
    (.seq (.reg 11 false [
      { d := some 65, op := .mov (.t 16) },
      { d := some 66, op := .bin .neq (.t 65) (.c (.int .i64 0)) },
      { d := some 67, op := .mov (.t 66) },
      { d := some 68, op := .load true 3 (.t 14), guard := some (67, false) },
      { d := some 69, op := .load true 3 (.t 3), guard := some (67, false) },
      { d := some 70, op := .eqs true [.i, .i, .i] (.t 68) (.t 69), guard := some (67, false) },
      { d := some 71, op := .pick (.t 67) (.c (.bool true)) (.t 70) },
      { d := some 72, op := .mov (.t 71) },
      { d := some 73, op := .mov (.t 15), guard := some (72, false) },
      { d := some 74, op := .mov (.t 8), guard := some (72, false) },
      { d := some 75, op := .bin .neq (.t 73) (.t 74), guard := some (72, false) },
      { d := some 76, op := .pick (.t 72) (.c (.bool true)) (.t 75) }])
    (.cond (.t 76)
      (.seq (.reg 12 false [
        { d := some 6, op := .mov (.c (.bool false)) }])
      (.ret))
      (.skip))))
    (.skip)))
  (.seq (.reg 13 false [
    { d := some 78, op := .mov (.t 2) },
    { d := some 79, op := .call 37 [.t 78] },
    { d := some 77, op := .mov (.t 79) },
    { d := some 80, op := .ext 0 (.t 77) },
    { d := some 81, op := .ext 1 (.t 77) },
    { d := some 82, op := .ext 2 (.t 77) },
    { d := some 17, op := .alloc [.int .i64 0, .int .i64 0, .int .i64 0] },
    { d := none, op := .store 3 (.t 17) (.t 80) },
    { d := some 18, op := .mov (.t 81) },
    { d := some 19, op := .mov (.t 82) }])
  (.seq (.seq (.reg 14 false [
    { d := some 83, op := .mov (.t 19) },
    { d := some 84, op := .bin .neq (.t 83) (.c (.int .i64 0)) }])
  (.cond (.t 84)
    (.seq (.reg 15 false [
      { d := some 85, op := .mov (.t 7) },
      { d := some 86, op := .mov (.t 85) },
      { d := some 87, op := .mov (.t 19), guard := some (86, true) },
      { d := some 88, op := .bin .eql (.t 87) (.c (.int .i64 13)), guard := some (86, true) },
      { d := some 89, op := .pick (.t 86) (.t 88) (.c (.bool false)) },
      { d := some 90, op := .mov (.t 89) },
      { d := some 91, op := .load true 3 (.t 17), guard := some (90, true) },
      { d := some 92, op := .build [.int .i64 0, .int .i64 0, .int .i64 0] [], guard := some (90, true) },
      { d := some 93, op := .eqs false [.i, .i, .i] (.t 91) (.t 92), guard := some (90, true) },
      { d := some 94, op := .pick (.t 90) (.t 93) (.c (.bool false)) },
      { d := some 95, op := .mov (.t 94) },
      { d := some 96, op := .mov (.t 18), guard := some (95, true) },
      { d := some 97, op := .bin .eql (.t 96) (.c (.int .u8 0)), guard := some (95, true) },
      { d := some 98, op := .pick (.t 95) (.t 97) (.c (.bool false)) },
      { d := some 6, op := .mov (.t 98) }])
    (.ret))
    (.skip)))
  (.seq (.reg 16 false [
    { d := some 100, op := .load true 3 (.t 17) },
    { d := some 101, op := .mov (.t 18) },
    { d := some 102, op := .call 35 [.t 100, .t 101] },
    { d := some 99, op := .mov (.t 102) },
    { d := some 103, op := .ext 0 (.t 99) },
    { d := some 104, op := .ext 1 (.t 99) },
    { d := some 10, op := .mov (.t 103) },
    { d := some 11, op := .mov (.t 104) }])
  (.seq (.reg 17 false [
    { d := some 105, op := .mov (.t 7) },
    { d := some 106, op := .mov (.t 105) },
    { d := some 107, op := .mov (.t 11), guard := some (106, true) },
    { d := some 108, op := .bin .eql (.t 107) (.c (.int .i64 0)), guard := some (106, true) },
    { d := some 109, op := .pick (.t 106) (.t 108) (.c (.bool false)) },
    { d := some 110, op := .mov (.t 109) },
    { d := some 111, op := .mov (.t 10), guard := some (110, true) },
    { d := some 112, op := .mov (.t 2), guard := some (110, true) },
    { d := some 113, op := .bin .eql (.t 111) (.t 112), guard := some (110, true) },
    { d := some 114, op := .pick (.t 110) (.t 113) (.c (.bool false)) },
    { d := some 115, op := .mov (.t 114) },
    { d := some 116, op := .load true 3 (.t 17), guard := some (115, true) },
    { d := some 117, op := .call 39 [.t 116], guard := some (115, true) },
    { d := some 118, op := .bin .eql (.t 117) (.c (.int .i64 0)), guard := some (115, true) },
    { d := some 119, op := .pick (.t 115) (.t 118) (.c (.bool false)) },
    { d := some 6, op := .mov (.t 119) }])
  (.ret))))))))))))
def rr_law01_SizeRead : List RRes := [.t 6]
theorem pc_law01_SizeRead {G : Nat → Option (List AV)} {args : List AV} {v : AV} (hn : args.length ≤ Tryd.f9.ntmps) (h : ∀ R : Run, R.G = G → AR Tryd.prog R rc_law01_SizeRead (initSt args) (Fin rr_law01_SizeRead v)) : PC Tryd.prog G 9 args v :=
  PC_of Tryd.func9 rfl (by kernel_rfl) (rc := rc_law01_SizeRead) (by kernel_rfl) (rs := rr_law01_SizeRead) (by kernel_rfl) hn (fun R _ hG => h R hG)

theorem pb_law01_SizeRead {G : Nat → Option (List AV)} {objs objs' : List (Nat × AObj)} {args : List AV} {v : AV} (hn : args.length ≤ Tryd.f9.ntmps) (h : ∀ R : Run, R.G = G → AR Tryd.prog R rc_law01_SizeRead ⟨iniT 0 args, objs⟩ (FinB rr_law01_SizeRead v objs')) : PB Tryd.prog G 9 objs args v objs' :=
  PB_of Tryd.func9 rfl (by kernel_rfl) (rc := rc_law01_SizeRead) (by kernel_rfl) (rs := rr_law01_SizeRead) (by kernel_rfl) hn (fun R _ hG => h R hG)

theorem pp_law01_SizeRead {G : Nat → Option (List AV)} {args : List AV} {ch : List PanicEntry} (hn : args.length ≤ Tryd.f9.ntmps) (h : ∀ R : Run, R.G = G → AR Tryd.prog R rc_law01_SizeRead (initSt args) (FinP ch)) : PPC Tryd.prog G 9 args ch :=
  PPC_of Tryd.func9 rfl (by kernel_rfl) (rc := rc_law01_SizeRead) (by kernel_rfl) hn (fun R _ hG => h R hG)

def rc_law01_SizeWrites : RCode :=
  .seq (.reg 0 false [
    { d := some 3, op := .box (.t 0) },
    { d := some 6, op := .mov (.c (.bool false)) }])
  (.seq (.seq (.reg 1 false [
    { d := some 21, op := .mov (.t 2) },
    { d := some 22, op := .slen (.t 21) },
    { d := some 23, op := .bin .gtr (.t 22) (.c (.int .i64 200)) }])
  (.cond (.t 23)
    (.seq (.reg 2 false [
      { d := some 6, op := .mov (.c (.bool true)) }])
    (.ret))
    (.skip)))
  (.seq (.reg 3 false [
    { d := some 25, op := .load true 3 (.t 3) },
    { d := some 26, op := .call 33 [.t 25] },
    { d := some 24, op := .mov (.t 26) },
    { d := some 27, op := .ext 0 (.t 24) },
    { d := some 28, op := .ext 1 (.t 24) },
    { d := some 7, op := .mov (.t 27) },
    { d := some 8, op := .mov (.t 28) }])
  (.seq (.reg 4 false [
    { d := some 30, op := .load true 3 (.t 3) },
    { d := some 31, op := .call 34 [.t 30] },
    { d := some 29, op := .mov (.t 31) },
    { d := some 32, op := .ext 0 (.t 29) },
    { d := some 33, op := .ext 1 (.t 29) },
    { d := some 9, op := .mov (.t 32) },
    { d := some 10, op := .mov (.t 33) }])
  (.seq (.reg 5 false [
    { d := some 35, op := .load true 3 (.t 3) },
    { d := some 36, op := .mov (.t 1) },
    { d := some 37, op := .call 35 [.t 35, .t 36] },
    { d := some 34, op := .mov (.t 37) },
    { d := some 38, op := .ext 0 (.t 34) },
    { d := some 39, op := .ext 1 (.t 34) },
    { d := some 11, op := .mov (.t 38) },
    { d := some 12, op := .mov (.t 39) }])
  (.seq (.reg 6 false [
    { d := some 41, op := .load true 3 (.t 3) },
    { d := some 42, op := .mov (.t 1) },
    { d := some 43, op := .call 36 [.t 41, .t 42] },
    { d := some 40, op := .mov (.t 43) },
    { d := some 44, op := .ext 0 (.t 40) },
    { d := some 45, op := .ext 1 (.t 40) },
    { d := some 13, op := .mov (.t 44) },
    { d := some 14, op := .mov (.t 45) }])
  (.seq (.reg 7 false [
    { d := some 47, op := .mov (.t 2) },
    { d := some 48, op := .call 37 [.t 47] },
    { d := some 46, op := .mov (.t 48) },
    { d := some 49, op := .ext 0 (.t 46) },
    { d := some 50, op := .ext 1 (.t 46) },
    { d := some 51, op := .ext 2 (.t 46) },
    { d := some 15, op := .alloc [.int .i64 0, .int .i64 0, .int .i64 0] },
    { d := none, op := .store 3 (.t 15) (.t 49) },
    { d := some 16, op := .mov (.t 50) },
    { d := some 17, op := .mov (.t 51) }])
  (.seq (.reg 8 false [
    { d := some 53, op := .mov (.t 2) },
    { d := some 54, op := .call 38 [.t 53] },
    { d := some 52, op := .mov (.t 54) },
    { d := some 55, op := .ext 0 (.t 52) },
    { d := some 56, op := .ext 1 (.t 52) },
    { d := some 57, op := .ext 2 (.t 52) },
    { d := some 18, op := .alloc [.int .i64 0, .int .i64 0, .int .i64 0] },
    { d := none, op := .store 3 (.t 18) (.t 55) },
    { d := some 19, op := .mov (.t 56) },
    { d := some 20, op := .mov (.t 57) }])
  (.seq (.reg 9 true [
    { d := some 58, op := .load true 3 (.t 3), aft := [] },
    { d := some 59, op := .call 39 [.t 58], aft := [0] },
    { d := some 60, op := .load true 3 (.t 3), aft := [] },
    { d := some 61, op := .call 40 [.t 60], aft := [2, 1] },
    { d := some 62, op := .bin .eql (.t 59) (.t 61), aft := [1, 3] },
    { d := some 63, op := .mov (.t 62), aft := [4, 3] },
    { d := some 64, op := .mov (.t 7), guard := some (63, true), aft := [5] },
    { d := some 65, op := .mov (.t 9), guard := some (63, true), aft := [5] },
    { d := some 66, op := .bin .eql (.t 64) (.t 65), guard := some (63, true), aft := [6, 7, 5] },
    { d := some 67, op := .pick (.t 63) (.t 66) (.c (.bool false)), aft := [5, 8] },
    { d := some 68, op := .mov (.t 67), aft := [9, 5] },
    { d := some 69, op := .mov (.t 8), guard := some (68, true), aft := [10] },
    { d := some 70, op := .mov (.t 10), guard := some (68, true), aft := [10] },
    { d := some 71, op := .bin .eql (.t 69) (.t 70), guard := some (68, true), aft := [11, 12, 10] },
    { d := some 72, op := .pick (.t 68) (.t 71) (.c (.bool false)), aft := [10, 13] },
    { d := some 73, op := .mov (.t 72), aft := [14, 10] },
    { d := some 74, op := .mov (.t 11), guard := some (73, true), aft := [15] },
    { d := some 75, op := .mov (.t 13), guard := some (73, true), aft := [15] },
    { d := some 76, op := .bin .eql (.t 74) (.t 75), guard := some (73, true), aft := [16, 17, 15] },
    { d := some 77, op := .pick (.t 73) (.t 76) (.c (.bool false)), aft := [15, 18] },
    { d := some 78, op := .mov (.t 77), aft := [19, 15] },
    { d := some 79, op := .mov (.t 12), guard := some (78, true), aft := [20] },
    { d := some 80, op := .mov (.t 14), guard := some (78, true), aft := [20] },
    { d := some 81, op := .bin .eql (.t 79) (.t 80), guard := some (78, true), aft := [21, 22, 20] },
    { d := some 82, op := .pick (.t 78) (.t 81) (.c (.bool false)), aft := [20, 23] },
    { d := some 83, op := .mov (.t 82), aft := [24, 20] },
    { d := some 84, op := .load true 3 (.t 15), guard := some (83, true), aft := [25] },
    { d := some 85, op := .load true 3 (.t 18), guard := some (83, true), aft := [25] },
    { d := some 86, op := .eqs false [.i, .i, .i] (.t 84) (.t 85), guard := some (83, true), aft := [26, 27, 25] },
    { d := some 87, op := .pick (.t 83) (.t 86) (.c (.bool false)), aft := [25, 28] },
    { d := some 88, op := .mov (.t 87), aft := [29, 25] },
    { d := some 89, op := .mov (.t 16), guard := some (88, true), aft := [30] },
    { d := some 90, op := .mov (.t 19), guard := some (88, true), aft := [30] },
    { d := some 91, op := .bin .eql (.t 89) (.t 90), guard := some (88, true), aft := [31, 32, 30] },
    { d := some 92, op := .pick (.t 88) (.t 91) (.c (.bool false)), aft := [30, 33] },
    { d := some 93, op := .mov (.t 92), aft := [34, 30] },
    { d := some 94, op := .mov (.t 17), guard := some (93, true), aft := [35] },
    { d := some 95, op := .mov (.t 20), guard := some (93, true), aft := [35] },
    { d := some 96, op := .bin .eql (.t 94) (.t 95), guard := some (93, true), aft := [36, 37, 35] },
    { d := some 97, op := .pick (.t 93) (.t 96) (.c (.bool false)), aft := [35, 38] },
    { d := some 6, op := .mov (.t 97), aft := [39, 35, 0, 1, 2, 3, 4, 5, 6, 7, 8, 9, 10, 11, 12, 13, 14, 15, 16, 17, 18, 19, 20, 21, 22, 23, 24, 25, 26, 27, 28, 29, 30, 31, 32, 33, 34, 35, 36, 37, 38, 39] }])
  (.ret)))))))))
def rr_law01_SizeWrites : List RRes := [.t 6]
theorem pc_law01_SizeWrites {G : Nat → Option (List AV)} {args : List AV} {v : AV} (hn : args.length ≤ Tryd.f5.ntmps) (h : ∀ R : Run, R.G = G → AR Tryd.prog R rc_law01_SizeWrites (initSt args) (Fin rr_law01_SizeWrites v)) : PC Tryd.prog G 5 args v :=
  PC_of Tryd.func5 rfl (by kernel_rfl) (rc := rc_law01_SizeWrites) (by kernel_rfl) (rs := rr_law01_SizeWrites) (by kernel_rfl) hn (fun R _ hG => h R hG)

theorem pb_law01_SizeWrites {G : Nat → Option (List AV)} {objs objs' : List (Nat × AObj)} {args : List AV} {v : AV} (hn : args.length ≤ Tryd.f5.ntmps) (h : ∀ R : Run, R.G = G → AR Tryd.prog R rc_law01_SizeWrites ⟨iniT 0 args, objs⟩ (FinB rr_law01_SizeWrites v objs')) : PB Tryd.prog G 5 objs args v objs' :=
  PB_of Tryd.func5 rfl (by kernel_rfl) (rc := rc_law01_SizeWrites) (by kernel_rfl) (rs := rr_law01_SizeWrites) (by kernel_rfl) hn (fun R _ hG => h R hG)

theorem pp_law01_SizeWrites {G : Nat → Option (List AV)} {args : List AV} {ch : List PanicEntry} (hn : args.length ≤ Tryd.f5.ntmps) (h : ∀ R : Run, R.G = G → AR Tryd.prog R rc_law01_SizeWrites (initSt args) (FinP ch)) : PPC Tryd.prog G 5 args ch :=
  PPC_of Tryd.func5 rfl (by kernel_rfl) (rc := rc_law01_SizeWrites) (by kernel_rfl) hn (fun R _ hG => h R hG)

def rc_law01_SizeExamples : RCode :=
  .seq (.reg 0 false [
    { d := some 0, op := .mov (.c (.bool false)) }])
  (.seq (.seq (.reg 1 false [
    { d := some 40, op := .mov (.c (.bool false)) },
    { d := some 41, op := .call 47 [.c (.int .i64 10)], guard := some (40, false) },
    { d := some 42, op := .bin .neq (.t 41) (.c (.str ⟨#[101, 114, 114, 111, 114, 32, 49, 48]⟩)), guard := some (40, false) },
    { d := some 43, op := .pick (.t 40) (.c (.bool true)) (.t 42) },
    { d := some 44, op := .mov (.t 43) },
    { d := some 45, op := .call 41 [], guard := some (44, false) },
    { d := some 46, op := .un .not (.t 45), guard := some (44, false) },
    { d := some 47, op := .pick (.t 44) (.c (.bool true)) (.t 46) }])
  (.cond (.t 47)
    (.seq (.reg 2 false [
      { d := some 0, op := .mov (.c (.bool false)) }])
    (.ret))
    (.skip)))
  (.seq (.reg 3 false [
    { d := some 49, op := .call 44 [.c (.int .i64 1270000), .c (.int .i64 1270000), .c (.int .i64 1270000)] },
    { d := some 50, op := .call 33 [.t 49] },
    { d := some 48, op := .mov (.t 50) },
    { d := some 51, op := .ext 0 (.t 48) },
    { d := some 52, op := .ext 1 (.t 48) },
    { d := some 1, op := .mov (.t 51) },
    { d := some 2, op := .mov (.t 52) }])
  (.seq (.reg 4 false [
    { d := some 54, op := .call 48 [] },
    { d := some 55, op := .call 49 [] },
    { d := some 56, op := .call 24 [.t 54, .t 55] },
    { d := some 53, op := .mov (.t 56) },
    { d := some 57, op := .ext 0 (.t 53) },
    { d := some 58, op := .ext 1 (.t 53) },
    { d := some 59, op := .ext 2 (.t 53) },
    { d := some 3, op := .alloc [.int .i64 0, .int .i64 0] },
    { d := none, op := .store 2 (.t 3) (.t 57) },
    { d := some 4, op := .mov (.t 58) },
    { d := some 5, op := .mov (.t 59) }])
  (.seq (.reg 5 false [
    { d := some 61, op := .call 49 [] },
    { d := some 62, op := .call 48 [] },
    { d := some 63, op := .call 24 [.t 61, .t 62] },
    { d := some 60, op := .mov (.t 63) },
    { d := some 64, op := .ext 0 (.t 60) },
    { d := some 65, op := .ext 1 (.t 60) },
    { d := some 66, op := .ext 2 (.t 60) },
    { d := some 6, op := .alloc [.int .i64 0, .int .i64 0] },
    { d := none, op := .store 2 (.t 6) (.t 64) },
    { d := some 7, op := .mov (.t 65) },
    { d := some 8, op := .mov (.t 66) }])
  (.seq (.seq (.reg 6 false [
    { d := some 67, op := .mov (.t 2) },
    { d := some 68, op := .bin .neq (.t 67) (.c (.int .i64 0)) },
    { d := some 69, op := .mov (.t 68) },
    { d := some 70, op := .mov (.t 1), guard := some (69, false) },
    { d := some 71, op := .bin .neq (.t 70) (.c (.int .u8 3)), guard := some (69, false) },
    { d := some 72, op := .pick (.t 69) (.c (.bool true)) (.t 71) },
    { d := some 73, op := .mov (.t 72) },
    { d := some 74, op := .mov (.t 5), guard := some (73, false) },
    { d := some 75, op := .bin .neq (.t 74) (.c (.int .i64 0)), guard := some (73, false) },
    { d := some 76, op := .pick (.t 73) (.c (.bool true)) (.t 75) },
    { d := some 77, op := .mov (.t 76) },
    { d := some 78, op := .load true 2 (.t 3), guard := some (77, false) },
    { d := some 79, op := .build [.int .i64 0, .int .i64 0] [(0, 1, .c (.int .i64 700)), (1, 1, .c (.int .i64 4100))], guard := some (77, false) },
    { d := some 80, op := .eqs true [.i, .i] (.t 78) (.t 79), guard := some (77, false) },
    { d := some 81, op := .pick (.t 77) (.c (.bool true)) (.t 80) },
    { d := some 82, op := .mov (.t 81) },
    { d := some 83, op := .mov (.t 4), guard := some (82, false) },
    { d := some 84, op := .bin .neq (.t 83) (.c (.int .u8 1)), guard := some (82, false) },
    { d := some 85, op := .pick (.t 82) (.c (.bool true)) (.t 84) },
    { d := some 86, op := .mov (.t 85) },
    { d := some 87, op := .mov (.t 8), guard := some (86, false) },
    { d := some 88, op := .bin .neq (.t 87) (.c (.int .i64 0)), guard := some (86, false) },
    { d := some 89, op := .pick (.t 86) (.c (.bool true)) (.t 88) },
    { d := some 90, op := .mov (.t 89) },
    { d := some 91, op := .mov (.t 7), guard := some (90, false) },
    { d := some 92, op := .bin .neq (.t 91) (.c (.int .u8 2)), guard := some (90, false) },
    { d := some 93, op := .pick (.t 90) (.c (.bool true)) (.t 92) }])
  (.cond (.t 93)
    (.seq (.reg 7 false [
      { d := some 0, op := .mov (.c (.bool false)) }])
    (.ret))
    (.skip)))
  (.seq (.reg 8 false [
    { d := some 94, op := .call 44 [.c (.int .i64 0), .c (.int .i64 1), .c (.int .i64 0)] },
    { d := some 9, op := .alloc [.int .i64 0, .int .i64 0, .int .i64 0] },
    { d := none, op := .store 3 (.t 9) (.t 94) }])
  (.seq (.reg 9 false [
    { d := some 96, op := .load true 3 (.t 9) },
    { d := some 97, op := .call 33 [.t 96] },
    { d := some 95, op := .mov (.t 97) },
    { d := some 98, op := .ext 0 (.t 95) },
    { d := some 99, op := .ext 1 (.t 95) },
    { d := some 2, op := .mov (.t 99) }])
  (.seq (.reg 10 false [
    { d := some 101, op := .call 48 [] },
    { d := some 102, op := .call 35 [.t 101, .c (.int .u8 0)] },
    { d := some 100, op := .mov (.t 102) },
    { d := some 103, op := .ext 0 (.t 100) },
    { d := some 104, op := .ext 1 (.t 100) },
    { d := some 5, op := .mov (.t 104) }])
  (.seq (.reg 11 false [
    { d := some 106, op := .call 48 [] },
    { d := some 107, op := .call 35 [.t 106, .c (.int .u8 2)] },
    { d := some 105, op := .mov (.t 107) },
    { d := some 108, op := .ext 0 (.t 105) },
    { d := some 109, op := .ext 1 (.t 105) },
    { d := some 8, op := .mov (.t 109) }])
  (.seq (.reg 12 false [
    { d := some 111, op := .call 37 [.c (.str ⟨#[50, 48, 46, 48, 48, 48, 32, 45, 48, 46, 48, 48, 48, 32, 43, 48, 46, 48, 48, 55, 32, 109, 109]⟩)] },
    { d := some 110, op := .mov (.t 111) },
    { d := some 112, op := .ext 0 (.t 110) },
    { d := some 113, op := .ext 1 (.t 110) },
    { d := some 114, op := .ext 2 (.t 110) },
    { d := some 10, op := .alloc [.int .i64 0, .int .i64 0, .int .i64 0] },
    { d := none, op := .store 3 (.t 10) (.t 112) },
    { d := some 11, op := .mov (.t 113) },
    { d := some 12, op := .mov (.t 114) }])
  (.seq (.reg 13 false [
    { d := some 116, op := .call 44 [.c (.int .i64 5), .c (.int .i64 1), .c (.int .i64 99)] },
    { d := some 117, op := .call 16 [.t 116, .c (.int .u8 1)] },
    { d := some 115, op := .mov (.t 117) },
    { d := some 118, op := .ext 0 (.t 115) },
    { d := some 119, op := .ext 1 (.t 115) },
    { d := some 13, op := .alloc [.int .i64 0, .int .i64 0, .int .i64 0] },
    { d := none, op := .store 3 (.t 13) (.t 118) },
    { d := some 14, op := .mov (.t 119) }])
  (.seq (.reg 14 true [
    { d := some 121, op := .call 48 [], aft := [] },
    { d := some 122, op := .mksl 1 1 [.int .u8 0] (.c (.int .i64 21)), aft := [] },
    { d := some 123, op := .call 18 [.t 121, .t 122], aft := [0, 1, 0] },
    { d := some 120, op := .mov (.t 123), aft := [2] },
    { d := some 124, op := .ext 0 (.t 120), aft := [3] },
    { d := some 125, op := .ext 1 (.t 120), aft := [3] },
    { d := some 15, op := .alloc [.int .i64 0, .int .i64 0, .int .i64 0], aft := [] },
    { d := none, op := .store 3 (.t 15) (.t 124), aft := [6, 4, 2, 0, 1, 2, 3, 4, 6] },
    { d := some 16, op := .mov (.t 125), aft := [5, 7, 0, 1, 2, 3, 4, 5, 6, 7] }])
  (.seq (.reg 15 false [
    { d := some 127, op := .call 48 [] },
    { d := some 128, op := .bsl false 1 2 [.int .u8 0, .int .u8 0] [(0, .c (.int .u8 1)), (1, .c (.int .u8 3))] },
    { d := some 129, op := .call 18 [.t 127, .t 128] },
    { d := some 126, op := .mov (.t 129) },
    { d := some 130, op := .ext 0 (.t 126) },
    { d := some 131, op := .ext 1 (.t 126) },
    { d := some 17, op := .alloc [.int .i64 0, .int .i64 0, .int .i64 0] },
    { d := none, op := .store 3 (.t 17) (.t 130) },
    { d := some 18, op := .mov (.t 131) }])
  (.seq (.reg 16 false [
    { d := some 133, op := .call 48 [] },
    { d := some 134, op := .call 20 [.t 133, .c (.int .u8 3)] },
    { d := some 132, op := .mov (.t 134) },
    { d := some 135, op := .ext 0 (.t 132) },
    { d := some 136, op := .ext 1 (.t 132) },
    { d := some 137, op := .ext 2 (.t 132) },
    { d := some 19, op := .mov (.t 135) },
    { d := some 20, op := .mov (.t 136) },
    { d := some 21, op := .mov (.t 137) }])
  (.seq (.reg 17 true [
    { d := some 139, op := .call 48 [], aft := [] },
    { d := some 140, op := .load true 3 (.t 9), aft := [] },
    { d := some 141, op := .call 22 [.t 139, .t 140], aft := [0, 1, 0] },
    { d := some 138, op := .mov (.t 141), aft := [2] },
    { d := some 142, op := .ext 0 (.t 138), aft := [3] },
    { d := some 143, op := .ext 1 (.t 138), aft := [3] },
    { d := some 22, op := .mov (.t 142), aft := [4, 2, 0, 1, 2, 3, 4] },
    { d := some 23, op := .mov (.t 143), aft := [5, 6, 0, 1, 2, 3, 4, 5, 6] }])
  (.seq (.reg 18 false [
    { d := some 145, op := .call 48 [] },
    { d := some 146, op := .build [.int .i64 0, .int .i64 0] [(0, 1, .c (.int .i64 1))] },
    { d := some 147, op := .call 26 [.t 145, .t 146] },
    { d := some 144, op := .mov (.t 147) },
    { d := some 148, op := .ext 0 (.t 144) },
    { d := some 149, op := .ext 1 (.t 144) },
    { d := some 24, op := .alloc [.int .i64 0, .int .i64 0, .int .i64 0] },
    { d := none, op := .store 3 (.t 24) (.t 148) },
    { d := some 25, op := .mov (.t 149) }])
  (.seq (.reg 19 false [
    { d := some 151, op := .call 48 [] },
    { d := some 152, op := .build [.int .i64 0, .int .i64 0] [(0, 1, .c (.int .i64 700)), (1, 1, .c (.int .i64 800))] },
    { d := some 153, op := .call 26 [.t 151, .t 152] },
    { d := some 150, op := .mov (.t 153) },
    { d := some 154, op := .ext 0 (.t 150) },
    { d := some 155, op := .ext 1 (.t 150) },
    { d := some 26, op := .alloc [.int .i64 0, .int .i64 0, .int .i64 0] },
    { d := none, op := .store 3 (.t 26) (.t 154) },
    { d := some 27, op := .mov (.t 155) }])
  (.seq (.reg 20 false [
    { d := some 157, op := .build [.int .i64 0, .int .i64 0] [(0, 1, .c (.int .i64 700)), (1, 1, .c (.int .i64 4100))] },
    { d := some 158, op := .call 28 [.c (.int .i64 2000000), .t 157, .c (.int .u8 2)] },
    { d := some 156, op := .mov (.t 158) },
    { d := some 159, op := .ext 0 (.t 156) },
    { d := some 160, op := .ext 1 (.t 156) },
    { d := some 161, op := .ext 2 (.t 156) },
    { d := some 28, op := .alloc [.int .i64 0, .int .i64 0, .int .i64 0] },
    { d := some 29, op := .alloc [.int .i64 0, .int .i64 0, .int .i64 0] },
    { d := none, op := .store 3 (.t 28) (.t 159) },
    { d := none, op := .store 3 (.t 29) (.t 160) },
    { d := some 30, op := .mov (.t 161) }])
  (.seq (.reg 21 false [
    { d := some 163, op := .call 48 [] },
    { d := some 164, op := .call 49 [] },
    { d := some 165, op := .bsl false 3 2 [.int .i64 0, .int .i64 0, .int .i64 0, .int .i64 0, .int .i64 0, .int .i64 0] [(0, .t 163), (1, .t 164)] },
    { d := some 166, op := .call 30 [.t 165] },
    { d := some 162, op := .mov (.t 166) },
    { d := some 167, op := .ext 0 (.t 162) },
    { d := some 168, op := .ext 1 (.t 162) },
    { d := some 31, op := .alloc [.int .i64 0, .int .i64 0] },
    { d := none, op := .store 2 (.t 31) (.t 167) },
    { d := some 32, op := .mov (.t 168) }])
  (.seq (.reg 22 false [
    { d := some 170, op := .call 30 [.c (.nils)] },
    { d := some 169, op := .mov (.t 170) },
    { d := some 171, op := .ext 0 (.t 169) },
    { d := some 172, op := .ext 1 (.t 169) },
    { d := some 33, op := .alloc [.int .i64 0, .int .i64 0] },
    { d := none, op := .store 2 (.t 33) (.t 171) },
    { d := some 34, op := .mov (.t 172) }])
  (.seq (.reg 23 false [
    { d := some 174, op := .mksl 3 24 [.int .i64 0, .int .i64 0, .int .i64 0] (.c (.int .i64 21)) },
    { d := some 175, op := .call 30 [.t 174] },
    { d := some 173, op := .mov (.t 175) },
    { d := some 176, op := .ext 0 (.t 173) },
    { d := some 177, op := .ext 1 (.t 173) },
    { d := some 35, op := .alloc [.int .i64 0, .int .i64 0] },
    { d := none, op := .store 2 (.t 35) (.t 176) },
    { d := some 36, op := .mov (.t 177) }])
  (.seq (.reg 24 false [
    { d := some 179, op := .build [.int .i64 0, .int .i64 0] [] },
    { d := some 180, op := .call 28 [.c (.int .i64 (-1)), .t 179, .c (.int .u8 1)] },
    { d := some 178, op := .mov (.t 180) },
    { d := some 181, op := .ext 0 (.t 178) },
    { d := some 182, op := .ext 1 (.t 178) },
    { d := some 183, op := .ext 2 (.t 178) },
    { d := some 37, op := .alloc [.int .i64 0, .int .i64 0, .int .i64 0] },
    { d := some 38, op := .alloc [.int .i64 0, .int .i64 0, .int .i64 0] },
    { d := none, op := .store 3 (.t 37) (.t 181) },
    { d := none, op := .store 3 (.t 38) (.t 182) },
    { d := some 39, op := .mov (.t 183) }])
  (.seq (.reg 25 false [
    { d := some 184, op := .mov (.t 2) },
    { d := some 185, op := .bin .eql (.t 184) (.c (.int .i64 10)) },
    { d := some 186, op := .mov (.t 185) },
    { d := some 187, op := .mov (.t 5), guard := some (186, true) },
    { d := some 188, op := .bin .eql (.t 187) (.c (.int .i64 11)), guard := some (186, true) },
    { d := some 189, op := .pick (.t 186) (.t 188) (.c (.bool false)) },
    { d := some 190, op := .mov (.t 189) },
    { d := some 191, op := .mov (.t 8), guard := some (190, true) },
    { d := some 192, op := .bin .eql (.t 191) (.c (.int .i64 12)), guard := some (190, true) },
    { d := some 193, op := .pick (.t 190) (.t 192) (.c (.bool false)) },
    { d := some 194, op := .mov (.t 193) },
    { d := some 195, op := .mov (.t 12), guard := some (194, true) },
    { d := some 196, op := .bin .eql (.t 195) (.c (.int .i64 13)), guard := some (194, true) },
    { d := some 197, op := .pick (.t 194) (.t 196) (.c (.bool false)) },
    { d := some 198, op := .mov (.t 197) },
    { d := some 199, op := .mov (.t 14), guard := some (198, true) },
    { d := some 200, op := .bin .eql (.t 199) (.c (.int .i64 6)), guard := some (198, true) },
    { d := some 201, op := .pick (.t 198) (.t 200) (.c (.bool false)) },
    { d := some 202, op := .mov (.t 201) },
    { d := some 203, op := .mov (.t 16), guard := some (202, true) },
    { d := some 204, op := .bin .eql (.t 203) (.c (.int .i64 4)), guard := some (202, true) },
    { d := some 205, op := .pick (.t 202) (.t 204) (.c (.bool false)) },
    { d := some 206, op := .mov (.t 205) },
    { d := some 207, op := .mov (.t 18), guard := some (206, true) },
    { d := some 208, op := .bin .eql (.t 207) (.c (.int .i64 11)), guard := some (206, true) },
    { d := some 209, op := .pick (.t 206) (.t 208) (.c (.bool false)) },
    { d := some 210, op := .mov (.t 209) },
    { d := some 211, op := .mov (.t 21), guard := some (210, true) },
    { d := some 212, op := .bin .eql (.t 211) (.c (.int .i64 11)), guard := some (210, true) },
    { d := some 213, op := .pick (.t 210) (.t 212) (.c (.bool false)) },
    { d := some 214, op := .mov (.t 213) },
    { d := some 215, op := .mov (.t 23), guard := some (214, true) },
    { d := some 216, op := .bin .eql (.t 215) (.c (.int .i64 10)), guard := some (214, true) },
    { d := some 217, op := .pick (.t 214) (.t 216) (.c (.bool false)) },
    { d := some 218, op := .mov (.t 217) },
    { d := some 219, op := .mov (.t 25), guard := some (218, true) },
    { d := some 220, op := .bin .eql (.t 219) (.c (.int .i64 2)), guard := some (218, true) },
    { d := some 221, op := .pick (.t 218) (.t 220) (.c (.bool false)) },
    { d := some 222, op := .mov (.t 221) },
    { d := some 223, op := .mov (.t 27), guard := some (222, true) },
    { d := some 224, op := .bin .eql (.t 223) (.c (.int .i64 6)), guard := some (222, true) },
    { d := some 225, op := .pick (.t 222) (.t 224) (.c (.bool false)) },
    { d := some 226, op := .mov (.t 225) },
    { d := some 227, op := .mov (.t 30), guard := some (226, true) },
    { d := some 228, op := .bin .eql (.t 227) (.c (.int .i64 12)), guard := some (226, true) },
    { d := some 229, op := .pick (.t 226) (.t 228) (.c (.bool false)) },
    { d := some 230, op := .mov (.t 229) },
    { d := some 231, op := .mov (.t 32), guard := some (230, true) },
    { d := some 232, op := .bin .eql (.t 231) (.c (.int .i64 6)), guard := some (230, true) },
    { d := some 233, op := .pick (.t 230) (.t 232) (.c (.bool false)) },
    { d := some 234, op := .mov (.t 233) },
    { d := some 235, op := .mov (.t 34), guard := some (234, true) },
    { d := some 236, op := .bin .eql (.t 235) (.c (.int .i64 6)), guard := some (234, true) },
    { d := some 237, op := .pick (.t 234) (.t 236) (.c (.bool false)) },
    { d := some 238, op := .mov (.t 237) },
    { d := some 239, op := .mov (.t 36), guard := some (238, true) },
    { d := some 240, op := .bin .eql (.t 239) (.c (.int .i64 4)), guard := some (238, true) },
    { d := some 241, op := .pick (.t 238) (.t 240) (.c (.bool false)) },
    { d := some 242, op := .mov (.t 241) },
    { d := some 243, op := .mov (.t 39), guard := some (242, true) },
    { d := some 244, op := .bin .eql (.t 243) (.c (.int .i64 2)), guard := some (242, true) },
    { d := some 245, op := .pick (.t 242) (.t 244) (.c (.bool false)) },
    { d := some 0, op := .mov (.t 245) }])
  (.ret))))))))))))))))))))))))
def rr_law01_SizeExamples : List RRes := [.t 0]
theorem pc_law01_SizeExamples {G : Nat → Option (List AV)} {args : List AV} {v : AV} (hn : args.length ≤ Tryd.f15.ntmps) (h : ∀ R : Run, R.G = G → AR Tryd.prog R rc_law01_SizeExamples (initSt args) (Fin rr_law01_SizeExamples v)) : PC Tryd.prog G 15 args v :=
  PC_of Tryd.func15 rfl (by kernel_rfl) (rc := rc_law01_SizeExamples) (by kernel_rfl) (rs := rr_law01_SizeExamples) (by kernel_rfl) hn (fun R _ hG => h R hG)

theorem pb_law01_SizeExamples {G : Nat → Option (List AV)} {objs objs' : List (Nat × AObj)} {args : List AV} {v : AV} (hn : args.length ≤ Tryd.f15.ntmps) (h : ∀ R : Run, R.G = G → AR Tryd.prog R rc_law01_SizeExamples ⟨iniT 0 args, objs⟩ (FinB rr_law01_SizeExamples v objs')) : PB Tryd.prog G 15 objs args v objs' :=
  PB_of Tryd.func15 rfl (by kernel_rfl) (rc := rc_law01_SizeExamples) (by kernel_rfl) (rs := rr_law01_SizeExamples) (by kernel_rfl) hn (fun R _ hG => h R hG)

theorem pp_law01_SizeExamples {G : Nat → Option (List AV)} {args : List AV} {ch : List PanicEntry} (hn : args.length ≤ Tryd.f15.ntmps) (h : ∀ R : Run, R.G = G → AR Tryd.prog R rc_law01_SizeExamples (initSt args) (FinP ch)) : PPC Tryd.prog G 15 args ch :=
  PPC_of Tryd.func15 rfl (by kernel_rfl) (rc := rc_law01_SizeExamples) (by kernel_rfl) hn (fun R _ hG => h R hG)

def rc_ref01_Write : RCode :=
  .seq (.reg 0 false [
    { d := some 2, op := .box (.t 0) },
    { d := some 4, op := .mov (.c (.str ⟨#[]⟩)) },
    { d := some 5, op := .mov (.c (.int .i64 0)) }])
  (.seq (.block 0
    (.seq (.reg 1 false [
      { d := some 7, op := .load true 3 (.t 2) },
      { d := some 8, op := .call 42 [.t 7] },
      { d := some 9, op := .un .not (.t 8) },
      { d := some 6, op := .mov (.t 9) }])
    (.cond (.t 6)
      (.seq (.reg 2 false [
        { d := some 4, op := .mov (.c (.str ⟨#[]⟩)) },
        { d := some 5, op := .mov (.c (.int .i64 10)) }])
      (.ret))
      (.seq (.reg 3 false [
        { d := some 11, op := .mov (.t 1) },
        { d := some 12, op := .call 50 [.t 11] },
        { d := some 13, op := .bin .eql (.t 12) (.c (.int .i64 0)) },
        { d := some 10, op := .mov (.t 13) }])
      (.cond (.t 10)
        (.seq (.reg 4 false [
          { d := some 4, op := .mov (.c (.str ⟨#[]⟩)) },
          { d := some 5, op := .mov (.c (.int .i64 11)) }])
        (.ret))
        (.seq (.reg 5 true [
          { d := some 15, op := .load true 3 (.t 2), aft := [] },
          { d := some 16, op := .mov (.t 1), aft := [] },
          { d := some 17, op := .call 50 [.t 16], aft := [1] },
          { d := some 18, op := .call 62 [.t 15, .t 17], aft := [0, 2, 2] },
          { d := some 19, op := .un .not (.t 18), aft := [3] },
          { d := some 14, op := .mov (.t 19), aft := [4, 3] }])
        (.cond (.t 14)
          (.seq (.reg 6 false [
            { d := some 4, op := .mov (.c (.str ⟨#[]⟩)) },
            { d := some 5, op := .mov (.c (.int .i64 12)) }])
          (.ret))
          (.skip))))))))
  (.seq (.reg 7 false [
    { d := some 20, op := .load true 3 (.t 2) },
    { d := some 21, op := .mov (.t 1) },
    { d := some 22, op := .call 66 [.t 20, .t 21] },
    { d := some 4, op := .mov (.t 22) },
    { d := some 5, op := .mov (.c (.int .i64 0)) }])
  (.ret)))
def rr_ref01_Write : List RRes := [.t 4, .t 5]
theorem pc_ref01_Write {G : Nat → Option (List AV)} {args : List AV} {v : AV} (hn : args.length ≤ Tryd.f36.ntmps) (h : ∀ R : Run, R.G = G → AR Tryd.prog R rc_ref01_Write (initSt args) (Fin rr_ref01_Write v)) : PC Tryd.prog G 36 args v :=
  PC_of Tryd.func36 rfl (by kernel_rfl) (rc := rc_ref01_Write) (by kernel_rfl) (rs := rr_ref01_Write) (by kernel_rfl) hn (fun R _ hG => h R hG)

theorem pb_ref01_Write {G : Nat → Option (List AV)} {objs objs' : List (Nat × AObj)} {args : List AV} {v : AV} (hn : args.length ≤ Tryd.f36.ntmps) (h : ∀ R : Run, R.G = G → AR Tryd.prog R rc_ref01_Write ⟨iniT 0 args, objs⟩ (FinB rr_ref01_Write v objs')) : PB Tryd.prog G 36 objs args v objs' :=
  PB_of Tryd.func36 rfl (by kernel_rfl) (rc := rc_ref01_Write) (by kernel_rfl) (rs := rr_ref01_Write) (by kernel_rfl) hn (fun R _ hG => h R hG)

theorem pp_ref01_Write {G : Nat → Option (List AV)} {args : List AV} {ch : List PanicEntry} (hn : args.length ≤ Tryd.f36.ntmps) (h : ∀ R : Run, R.G = G → AR Tryd.prog R rc_ref01_Write (initSt args) (FinP ch)) : PPC Tryd.prog G 36 args ch :=
  PPC_of Tryd.func36 rfl (by kernel_rfl) (rc := rc_ref01_Write) (by kernel_rfl) hn (fun R _ hG => h R hG)

def rc_ref01_written : RCode :=
  .seq (.reg 0 false [
    { d := some 2, op := .box (.t 0) },
    { d := some 4, op := .mov (.c (.str ⟨#[]⟩)) }])
  (.seq (.reg 1 false [
    { d := some 8, op := .mov (.t 1) },
    { d := some 9, op := .call 50 [.t 8] },
    { d := some 5, op := .mov (.t 9) }])
  (.seq (.reg 2 false [
    { d := some 6, op := .mov (.c (.int .i64 3)) },
    { d := some 7, op := .mov (.c (.str ⟨#[32, 109, 109]⟩)) }])
  (.seq (.seq (.reg 3 false [
    { d := some 10, op := .mov (.t 1) },
    { d := some 11, op := .bin .eql (.t 10) (.c (.int .u8 2)) }])
  (.cond (.t 11)
    (.reg 4 false [
      { d := some 6, op := .mov (.c (.int .i64 4)) },
      { d := some 7, op := .mov (.c (.str ⟨#[32, 105, 110]⟩)) }])
    (.skip)))
  (.seq (.reg 5 true [
    { d := some 12, op := .faddr 0 (.t 2), aft := [] },
    { d := some 13, op := .load false 1 (.t 12), aft := [0] },
    { d := some 14, op := .mov (.t 5), aft := [] },
    { d := some 15, op := .bin .quo (.t 13) (.t 14), aft := [1, 2] },
    { d := some 16, op := .mov (.t 6), aft := [] },
    { d := some 17, op := .call 88 [.t 15, .t 16], aft := [3, 4] },
    { d := some 18, op := .bin .add (.t 17) (.c (.str ⟨#[32]⟩)), aft := [5] },
    { d := some 19, op := .faddr 1 (.t 2), aft := [] },
    { d := some 20, op := .load false 1 (.t 19), aft := [7] },
    { d := some 21, op := .faddr 0 (.t 2), aft := [] },
    { d := some 22, op := .load false 1 (.t 21), aft := [9] },
    { d := some 23, op := .bin .sub (.t 20) (.t 22), aft := [8, 10] },
    { d := some 24, op := .mov (.t 5), aft := [] },
    { d := some 25, op := .bin .quo (.t 23) (.t 24), aft := [11, 12] },
    { d := some 26, op := .mov (.t 6), aft := [] },
    { d := some 27, op := .call 89 [.t 25, .t 26], aft := [13, 14, 5] },
    { d := some 28, op := .bin .add (.t 18) (.t 27), aft := [6, 15] },
    { d := some 29, op := .bin .add (.t 28) (.c (.str ⟨#[32]⟩)), aft := [16] },
    { d := some 30, op := .faddr 2 (.t 2), aft := [] },
    { d := some 31, op := .load false 1 (.t 30), aft := [18] },
    { d := some 32, op := .faddr 0 (.t 2), aft := [] },
    { d := some 33, op := .load false 1 (.t 32), aft := [20] },
    { d := some 34, op := .bin .sub (.t 31) (.t 33), aft := [19, 21] },
    { d := some 35, op := .mov (.t 5), aft := [] },
    { d := some 36, op := .bin .quo (.t 34) (.t 35), aft := [22, 23] },
    { d := some 37, op := .mov (.t 6), aft := [] },
    { d := some 38, op := .call 89 [.t 36, .t 37], aft := [24, 25, 15] },
    { d := some 39, op := .bin .add (.t 29) (.t 38), aft := [17, 26] },
    { d := some 40, op := .mov (.t 7), aft := [] },
    { d := some 41, op := .bin .add (.t 39) (.t 40), aft := [27, 28] },
    { d := some 4, op := .mov (.t 41), aft := [29, 26, 0, 1, 2, 3, 4, 5, 6, 7, 8, 9, 10, 11, 12, 13, 14, 15, 16, 17, 18, 19, 20, 21, 22, 23, 24, 25, 26, 27, 28, 29] }])
  (.ret)))))
def rr_ref01_written : List RRes := [.t 4]
theorem pc_ref01_written {G : Nat → Option (List AV)} {args : List AV} {v : AV} (hn : args.length ≤ Tryd.f66.ntmps) (h : ∀ R : Run, R.G = G → AR Tryd.prog R rc_ref01_written (initSt args) (Fin rr_ref01_written v)) : PC Tryd.prog G 66 args v :=
  PC_of Tryd.func66 rfl (by kernel_rfl) (rc := rc_ref01_written) (by kernel_rfl) (rs := rr_ref01_written) (by kernel_rfl) hn (fun R _ hG => h R hG)

theorem pb_ref01_written {G : Nat → Option (List AV)} {objs objs' : List (Nat × AObj)} {args : List AV} {v : AV} (hn : args.length ≤ Tryd.f66.ntmps) (h : ∀ R : Run, R.G = G → AR Tryd.prog R rc_ref01_written ⟨iniT 0 args, objs⟩ (FinB rr_ref01_written v objs')) : PB Tryd.prog G 66 objs args v objs' :=
  PB_of Tryd.func66 rfl (by kernel_rfl) (rc := rc_ref01_written) (by kernel_rfl) (rs := rr_ref01_written) (by kernel_rfl) hn (fun R _ hG => h R hG)

theorem pp_ref01_written {G : Nat → Option (List AV)} {args : List AV} {ch : List PanicEntry} (hn : args.length ≤ Tryd.f66.ntmps) (h : ∀ R : Run, R.G = G → AR Tryd.prog R rc_ref01_written (initSt args) (FinP ch)) : PPC Tryd.prog G 66 args ch :=
  PPC_of Tryd.func66 rfl (by kernel_rfl) (rc := rc_ref01_written) (by kernel_rfl) hn (fun R _ hG => h R hG)

def rc_ref01_number : RCode :=
  .seq (.reg 0 false [
    { d := some 4, op := .mov (.c (.str ⟨#[]⟩)) }])
  (.seq (.reg 1 false [
    { d := some 6, op := .mov (.t 0) },
    { d := some 7, op := .mov (.t 1) },
    { d := some 8, op := .bin .add (.t 7) (.c (.int .i64 1)) },
    { d := some 9, op := .call 96 [.t 6, .t 8] },
    { d := some 5, op := .mov (.t 9) }])
  (.seq (.reg 2 true [
    { d := some 10, op := .mov (.t 5), aft := [] },
    { d := some 11, op := .mov (.t 5), aft := [] },
    { d := some 12, op := .slen (.t 11), aft := [1] },
    { d := some 13, op := .mov (.t 1), aft := [] },
    { d := some 14, op := .bin .sub (.t 12) (.t 13), aft := [2, 3] },
    { d := some 15, op := .sslc (.t 10) none (some (.t 14)), aft := [0, 4] },
    { d := some 16, op := .bin .add (.t 15) (.c (.str ⟨#[46]⟩)), aft := [5] },
    { d := some 17, op := .mov (.t 5), aft := [] },
    { d := some 18, op := .mov (.t 5), aft := [] },
    { d := some 19, op := .slen (.t 18), aft := [8] },
    { d := some 20, op := .mov (.t 1), aft := [] },
    { d := some 21, op := .bin .sub (.t 19) (.t 20), aft := [9, 10] },
    { d := some 22, op := .sslc (.t 17) (some (.t 21)) none, aft := [7, 11] },
    { d := some 23, op := .bin .add (.t 16) (.t 22), aft := [6, 12] },
    { d := some 4, op := .mov (.t 23), aft := [13, 0, 1, 2, 3, 4, 5, 6, 7, 8, 9, 10, 11, 12, 13] }])
  (.ret)))
def rr_ref01_number : List RRes := [.t 4]
theorem pc_ref01_number {G : Nat → Option (List AV)} {args : List AV} {v : AV} (hn : args.length ≤ Tryd.f88.ntmps) (h : ∀ R : Run, R.G = G → AR Tryd.prog R rc_ref01_number (initSt args) (Fin rr_ref01_number v)) : PC Tryd.prog G 88 args v :=
  PC_of Tryd.func88 rfl (by kernel_rfl) (rc := rc_ref01_number) (by kernel_rfl) (rs := rr_ref01_number) (by kernel_rfl) hn (fun R _ hG => h R hG)

theorem pb_ref01_number {G : Nat → Option (List AV)} {objs objs' : List (Nat × AObj)} {args : List AV} {v : AV} (hn : args.length ≤ Tryd.f88.ntmps) (h : ∀ R : Run, R.G = G → AR Tryd.prog R rc_ref01_number ⟨iniT 0 args, objs⟩ (FinB rr_ref01_number v objs')) : PB Tryd.prog G 88 objs args v objs' :=
  PB_of Tryd.func88 rfl (by kernel_rfl) (rc := rc_ref01_number) (by kernel_rfl) (rs := rr_ref01_number) (by kernel_rfl) hn (fun R _ hG => h R hG)

theorem pp_ref01_number {G : Nat → Option (List AV)} {args : List AV} {ch : List PanicEntry} (hn : args.length ≤ Tryd.f88.ntmps) (h : ∀ R : Run, R.G = G → AR Tryd.prog R rc_ref01_number (initSt args) (FinP ch)) : PPC Tryd.prog G 88 args ch :=
  PPC_of Tryd.func88 rfl (by kernel_rfl) (rc := rc_ref01_number) (by kernel_rfl) hn (fun R _ hG => h R hG)

def rc_ref01_signed : RCode :=
  .seq (.reg 0 false [
    { d := some 4, op := .mov (.c (.str ⟨#[]⟩)) }])
  (.seq (.seq (.reg 1 false [
    { d := some 5, op := .mov (.t 0) },
    { d := some 6, op := .bin .lss (.t 5) (.c (.int .i64 0)) }])
  (.cond (.t 6)
    (.seq (.reg 2 false [
      { d := some 7, op := .mov (.t 0) },
      { d := some 8, op := .un .neg (.t 7) },
      { d := some 9, op := .mov (.t 1) },
      { d := some 10, op := .call 88 [.t 8, .t 9] },
      { d := some 11, op := .bin .add (.c (.str ⟨#[45]⟩)) (.t 10) },
      { d := some 4, op := .mov (.t 11) }])
    (.ret))
    (.skip)))
  (.seq (.reg 3 false [
    { d := some 12, op := .mov (.t 0) },
    { d := some 13, op := .mov (.t 1) },
    { d := some 14, op := .call 88 [.t 12, .t 13] },
    { d := some 15, op := .bin .add (.c (.str ⟨#[43]⟩)) (.t 14) },
    { d := some 4, op := .mov (.t 15) }])
  (.ret)))
def rr_ref01_signed : List RRes := [.t 4]
theorem pc_ref01_signed {G : Nat → Option (List AV)} {args : List AV} {v : AV} (hn : args.length ≤ Tryd.f89.ntmps) (h : ∀ R : Run, R.G = G → AR Tryd.prog R rc_ref01_signed (initSt args) (Fin rr_ref01_signed v)) : PC Tryd.prog G 89 args v :=
  PC_of Tryd.func89 rfl (by kernel_rfl) (rc := rc_ref01_signed) (by kernel_rfl) (rs := rr_ref01_signed) (by kernel_rfl) hn (fun R _ hG => h R hG)

theorem pb_ref01_signed {G : Nat → Option (List AV)} {objs objs' : List (Nat × AObj)} {args : List AV} {v : AV} (hn : args.length ≤ Tryd.f89.ntmps) (h : ∀ R : Run, R.G = G → AR Tryd.prog R rc_ref01_signed ⟨iniT 0 args, objs⟩ (FinB rr_ref01_signed v objs')) : PB Tryd.prog G 89 objs args v objs' :=
  PB_of Tryd.func89 rfl (by kernel_rfl) (rc := rc_ref01_signed) (by kernel_rfl) (rs := rr_ref01_signed) (by kernel_rfl) hn (fun R _ hG => h R hG)

theorem pp_ref01_signed {G : Nat → Option (List AV)} {args : List AV} {ch : List PanicEntry} (hn : args.length ≤ Tryd.f89.ntmps) (h : ∀ R : Run, R.G = G → AR Tryd.prog R rc_ref01_signed (initSt args) (FinP ch)) : PPC Tryd.prog G 89 args ch :=
  PPC_of Tryd.func89 rfl (by kernel_rfl) (rc := rc_ref01_signed) (by kernel_rfl) hn (fun R _ hG => h R hG)

def rc_ref01_digits : RCode :=
  .seq (.reg 0 false [
    { d := some 4, op := .mov (.c (.str ⟨#[]⟩)) }])
  (.seq (.reg 1 false [
    { d := some 5, op := .mov (.c (.str ⟨#[]⟩)) }])
  (.seq (.block 0
    (.loop
      (.seq (.seq (.reg 2 false [
        { d := some 6, op := .mov (.t 0) },
        { d := some 7, op := .bin .gtr (.t 6) (.c (.int .i64 0)) },
        { d := some 8, op := .mov (.t 7) },
        { d := some 9, op := .mov (.t 5), guard := some (8, false) },
        { d := some 10, op := .slen (.t 9), guard := some (8, false) },
        { d := some 11, op := .mov (.t 1), guard := some (8, false) },
        { d := some 12, op := .bin .lss (.t 10) (.t 11), guard := some (8, false) },
        { d := some 13, op := .pick (.t 8) (.c (.bool true)) (.t 12) }])
      (.cond (.t 13)
        (.skip)
        (.exit 0)))
      (.block 1
        (.seq (.reg 3 false [
          { d := some 14, op := .mov (.t 0) },
          { d := some 15, op := .bin .rem (.t 14) (.c (.int .i64 10)) },
          { d := some 16, op := .mov (.t 0) },
          { d := some 17, op := .bin .rem (.t 16) (.c (.int .i64 10)) },
          { d := some 18, op := .bin .add (.t 17) (.c (.int .i64 1)) },
          { d := some 19, op := .sslc (.c (.str ⟨#[48, 49, 50, 51, 52, 53, 54, 55, 56, 57]⟩)) (some (.t 15)) (some (.t 18)) },
          { d := some 20, op := .mov (.t 5) },
          { d := some 21, op := .bin .add (.t 19) (.t 20) },
          { d := some 5, op := .mov (.t 21) }])
        (.reg 4 false [
          { d := some 22, op := .mov (.t 0) },
          { d := some 23, op := .bin .quo (.t 22) (.c (.int .i64 10)) },
          { d := some 0, op := .mov (.t 23) }]))))))
  (.seq (.reg 5 false [
    { d := some 24, op := .mov (.t 5) },
    { d := some 4, op := .mov (.t 24) }])
  (.ret))))
def rr_ref01_digits : List RRes := [.t 4]
theorem pc_ref01_digits {G : Nat → Option (List AV)} {args : List AV} {v : AV} (hn : args.length ≤ Tryd.f96.ntmps) (h : ∀ R : Run, R.G = G → AR Tryd.prog R rc_ref01_digits (initSt args) (Fin rr_ref01_digits v)) : PC Tryd.prog G 96 args v :=
  PC_of Tryd.func96 rfl (by kernel_rfl) (rc := rc_ref01_digits) (by kernel_rfl) (rs := rr_ref01_digits) (by kernel_rfl) hn (fun R _ hG => h R hG)

theorem pb_ref01_digits {G : Nat → Option (List AV)} {objs objs' : List (Nat × AObj)} {args : List AV} {v : AV} (hn : args.length ≤ Tryd.f96.ntmps) (h : ∀ R : Run, R.G = G → AR Tryd.prog R rc_ref01_digits ⟨iniT 0 args, objs⟩ (FinB rr_ref01_digits v objs')) : PB Tryd.prog G 96 objs args v objs' :=
  PB_of Tryd.func96 rfl (by kernel_rfl) (rc := rc_ref01_digits) (by kernel_rfl) (rs := rr_ref01_digits) (by kernel_rfl) hn (fun R _ hG => h R hG)

theorem pp_ref01_digits {G : Nat → Option (List AV)} {args : List AV} {ch : List PanicEntry} (hn : args.length ≤ Tryd.f96.ntmps) (h : ∀ R : Run, R.G = G → AR Tryd.prog R rc_ref01_digits (initSt args) (FinP ch)) : PPC Tryd.prog G 96 args ch :=
  PPC_of Tryd.func96 rfl (by kernel_rfl) (rc := rc_ref01_digits) (by kernel_rfl) hn (fun R _ hG => h R hG)

def rc_ref01_value : RCode :=
  .seq (.reg 0 false [
    { d := some 2, op := .mov (.c (.int .i64 0)) }])
  (.seq (.reg 1 false [
    { d := some 3, op := .mov (.c (.int .i64 0)) }])
  (.seq (.seq (.reg 2 false [
    { d := some 4, op := .mov (.c (.int .i64 0)) }])
  (.block 0
    (.loop
      (.seq (.seq (.reg 3 false [
        { d := some 5, op := .mov (.t 4) },
        { d := some 6, op := .mov (.t 0) },
        { d := some 7, op := .slen (.t 6) },
        { d := some 8, op := .bin .lss (.t 5) (.t 7) }])
      (.cond (.t 8)
        (.skip)
        (.exit 0)))
      (.seq (.block 1
        (.seq (.reg 5 false [
          { d := some 11, op := .mov (.t 0) },
          { d := some 12, op := .mov (.t 4) },
          { d := some 13, op := .vop .sidx [(.t 11), (.t 12)] },
          { d := some 14, op := .bin .geq (.t 13) (.c (.int .u8 48)) },
          { d := some 15, op := .mov (.t 14) },
          { d := some 16, op := .mov (.t 0), guard := some (15, true) },
          { d := some 17, op := .mov (.t 4), guard := some (15, true) },
          { d := some 18, op := .vop .sidx [(.t 16), (.t 17)], guard := some (15, true) },
          { d := some 19, op := .bin .leq (.t 18) (.c (.int .u8 57)), guard := some (15, true) },
          { d := some 20, op := .pick (.t 15) (.t 19) (.c (.bool false)) },
          { d := some 21, op := .mov (.t 20) },
          { d := some 22, op := .mov (.t 3), guard := some (21, true) },
          { d := some 23, op := .bin .lss (.t 22) (.c (.int .i64 1000000000)), guard := some (21, true) },
          { d := some 24, op := .pick (.t 21) (.t 23) (.c (.bool false)) }])
        (.cond (.t 24)
          (.reg 6 false [
            { d := some 25, op := .mov (.t 3) },
            { d := some 26, op := .bin .mul (.c (.int .i64 10)) (.t 25) },
            { d := some 27, op := .mov (.t 0) },
            { d := some 28, op := .mov (.t 4) },
            { d := some 29, op := .vop .sidx [(.t 27), (.t 28)] },
            { d := some 30, op := .bin .sub (.t 29) (.c (.int .u8 48)) },
            { d := some 31, op := .conv .i64 (.t 30) },
            { d := some 32, op := .bin .add (.t 26) (.t 31) },
            { d := some 3, op := .mov (.t 32) }])
          (.skip))))
      (.reg 4 false [
        { d := some 9, op := .mov (.t 4) },
        { d := some 10, op := .bin .add (.t 9) (.c (.int .i64 1)) },
        { d := some 4, op := .mov (.t 10) }]))))))
  (.seq (.seq (.reg 7 false [
    { d := some 33, op := .mov (.t 0) },
    { d := some 34, op := .slen (.t 33) },
    { d := some 35, op := .bin .gtr (.t 34) (.c (.int .i64 0)) },
    { d := some 36, op := .mov (.t 35) },
    { d := some 37, op := .mov (.t 0), guard := some (36, true) },
    { d := some 38, op := .vop .sidx [(.t 37), (.c (.int .i64 0))], guard := some (36, true) },
    { d := some 39, op := .bin .eql (.t 38) (.c (.int .u8 45)), guard := some (36, true) },
    { d := some 40, op := .pick (.t 36) (.t 39) (.c (.bool false)) }])
  (.cond (.t 40)
    (.seq (.reg 8 false [
      { d := some 41, op := .mov (.t 3) },
      { d := some 42, op := .un .neg (.t 41) },
      { d := some 2, op := .mov (.t 42) }])
    (.ret))
    (.skip)))
  (.seq (.reg 9 false [
    { d := some 43, op := .mov (.t 3) },
    { d := some 2, op := .mov (.t 43) }])
  (.ret)))))
def rr_ref01_value : List RRes := [.t 2]
theorem pc_ref01_value {G : Nat → Option (List AV)} {args : List AV} {v : AV} (hn : args.length ≤ Tryd.f73.ntmps) (h : ∀ R : Run, R.G = G → AR Tryd.prog R rc_ref01_value (initSt args) (Fin rr_ref01_value v)) : PC Tryd.prog G 73 args v :=
  PC_of Tryd.func73 rfl (by kernel_rfl) (rc := rc_ref01_value) (by kernel_rfl) (rs := rr_ref01_value) (by kernel_rfl) hn (fun R _ hG => h R hG)

theorem pb_ref01_value {G : Nat → Option (List AV)} {objs objs' : List (Nat × AObj)} {args : List AV} {v : AV} (hn : args.length ≤ Tryd.f73.ntmps) (h : ∀ R : Run, R.G = G → AR Tryd.prog R rc_ref01_value ⟨iniT 0 args, objs⟩ (FinB rr_ref01_value v objs')) : PB Tryd.prog G 73 objs args v objs' :=
  PB_of Tryd.func73 rfl (by kernel_rfl) (rc := rc_ref01_value) (by kernel_rfl) (rs := rr_ref01_value) (by kernel_rfl) hn (fun R _ hG => h R hG)

theorem pp_ref01_value {G : Nat → Option (List AV)} {args : List AV} {ch : List PanicEntry} (hn : args.length ≤ Tryd.f73.ntmps) (h : ∀ R : Run, R.G = G → AR Tryd.prog R rc_ref01_value (initSt args) (FinP ch)) : PPC Tryd.prog G 73 args ch :=
  PPC_of Tryd.func73 rfl (by kernel_rfl) (rc := rc_ref01_value) (by kernel_rfl) hn (fun R _ hG => h R hG)

def rc_ref01_words : RCode :=
  .seq (.reg 0 false [
    { d := some 2, op := .mov (.c (.nils)) }])
  (.seq (.reg 1 false [
    { d := some 5, op := .bsl false 1 1 [.str ⟨#[]⟩] [(0, .c (.str ⟨#[]⟩))] },
    { d := some 3, op := .mov (.t 5) }])
  (.seq (.seq (.reg 2 false [
    { d := some 4, op := .mov (.c (.int .i64 0)) }])
  (.block 0
    (.loop
      (.seq (.seq (.reg 3 false [
        { d := some 6, op := .mov (.t 4) },
        { d := some 7, op := .mov (.t 0) },
        { d := some 8, op := .slen (.t 7) },
        { d := some 9, op := .bin .lss (.t 6) (.t 8) }])
      (.cond (.t 9)
        (.skip)
        (.exit 0)))
      (.seq (.block 1
        (.seq (.reg 5 false [
          { d := some 12, op := .mov (.t 0) },
          { d := some 13, op := .mov (.t 4) },
          { d := some 14, op := .vop .sidx [(.t 12), (.t 13)] },
          { d := some 15, op := .bin .eql (.t 14) (.c (.int .u8 32)) }])
        (.cond (.t 15)
          (.reg 6 false [
            { d := some 16, op := .mov (.t 3) },
            { d := some 17, op := .bsl false 1 1 [.str ⟨#[]⟩] [(0, .c (.str ⟨#[]⟩))] },
            { d := some 18, op := .app 1 16 (.t 16) (.t 17) },
            { d := some 3, op := .mov (.t 18) }])
          (.reg 7 true [
            { d := some 19, op := .mov (.t 3), aft := [] },
            { d := some 20, op := .mov (.t 3), aft := [] },
            { d := some 21, op := .len (.t 20), aft := [1] },
            { d := some 22, op := .bin .sub (.t 21) (.c (.int .i64 1)), aft := [2] },
            { d := some 23, op := .iaddr 1 (.t 19) (.t 22), aft := [0, 3] },
            { d := some 24, op := .load false 1 (.t 23), aft := [4] },
            { d := some 25, op := .mov (.t 0), aft := [] },
            { d := some 26, op := .mov (.t 4), aft := [] },
            { d := some 27, op := .mov (.t 4), aft := [] },
            { d := some 28, op := .bin .add (.t 27) (.c (.int .i64 1)), aft := [8] },
            { d := some 29, op := .sslc (.t 25) (some (.t 26)) (some (.t 28)), aft := [6, 7, 9] },
            { d := some 30, op := .bin .add (.t 24) (.t 29), aft := [5, 10] },
            { d := some 31, op := .iaddr 1 (.t 19) (.t 22), aft := [0, 3, 0, 1, 2, 3, 4, 5, 6, 7, 8, 9, 10, 11] },
            { d := none, op := .store 1 (.t 31) (.t 30), aft := [12, 11, 0, 1, 2, 3, 4, 5, 6, 7, 8, 9, 10, 11] }]))))
      (.reg 4 false [
        { d := some 10, op := .mov (.t 4) },
        { d := some 11, op := .bin .add (.t 10) (.c (.int .i64 1)) },
        { d := some 4, op := .mov (.t 11) }]))))))
  (.seq (.reg 8 false [
    { d := some 32, op := .mov (.t 3) },
    { d := some 2, op := .mov (.t 32) }])
  (.ret))))
def rr_ref01_words : List RRes := [.t 2]
theorem pc_ref01_words {G : Nat → Option (List AV)} {args : List AV} {v : AV} (hn : args.length ≤ Tryd.f72.ntmps) (h : ∀ R : Run, R.G = G → AR Tryd.prog R rc_ref01_words (initSt args) (Fin rr_ref01_words v)) : PC Tryd.prog G 72 args v :=
  PC_of Tryd.func72 rfl (by kernel_rfl) (rc := rc_ref01_words) (by kernel_rfl) (rs := rr_ref01_words) (by kernel_rfl) hn (fun R _ hG => h R hG)

theorem pb_ref01_words {G : Nat → Option (List AV)} {objs objs' : List (Nat × AObj)} {args : List AV} {v : AV} (hn : args.length ≤ Tryd.f72.ntmps) (h : ∀ R : Run, R.G = G → AR Tryd.prog R rc_ref01_words ⟨iniT 0 args, objs⟩ (FinB rr_ref01_words v objs')) : PB Tryd.prog G 72 objs args v objs' :=
  PB_of Tryd.func72 rfl (by kernel_rfl) (rc := rc_ref01_words) (by kernel_rfl) (rs := rr_ref01_words) (by kernel_rfl) hn (fun R _ hG => h R hG)

theorem pp_ref01_words {G : Nat → Option (List AV)} {args : List AV} {ch : List PanicEntry} (hn : args.length ≤ Tryd.f72.ntmps) (h : ∀ R : Run, R.G = G → AR Tryd.prog R rc_ref01_words (initSt args) (FinP ch)) : PPC Tryd.prog G 72 args ch :=
  PPC_of Tryd.func72 rfl (by kernel_rfl) (rc := rc_ref01_words) (by kernel_rfl) hn (fun R _ hG => h R hG)

def rc_ref01_Read : RCode :=
  .seq (.reg 0 false [
    { d := some 2, op := .alloc [.int .i64 0, .int .i64 0, .int .i64 0] },
    { d := some 3, op := .mov (.c (.int .u8 0)) },
    { d := some 4, op := .mov (.c (.int .i64 0)) }])
  (.seq (.seq (.reg 1 false [
    { d := some 10, op := .mov (.t 0) },
    { d := some 11, op := .slen (.t 10) },
    { d := some 12, op := .bin .gtr (.t 11) (.c (.int .i64 80)) }])
  (.cond (.t 12)
    (.seq (.reg 2 false [
      { d := some 13, op := .build [.int .i64 0, .int .i64 0, .int .i64 0] [] },
      { d := none, op := .store 3 (.t 2) (.t 13) },
      { d := some 3, op := .mov (.c (.int .u8 0)) },
      { d := some 4, op := .mov (.c (.int .i64 13)) }])
    (.ret))
    (.skip)))
  (.seq (.reg 3 false [
    { d := some 14, op := .mov (.t 0) },
    { d := some 15, op := .call 72 [.t 14] },
    { d := some 5, op := .mov (.t 15) }])
  (.seq (.seq (.reg 4 false [
    { d := some 16, op := .mov (.t 5) },
    { d := some 17, op := .len (.t 16) },
    { d := some 18, op := .bin .neq (.t 17) (.c (.int .i64 4)) }])
  (.cond (.t 18)
    (.seq (.reg 5 false [
      { d := some 19, op := .build [.int .i64 0, .int .i64 0, .int .i64 0] [] },
      { d := none, op := .store 3 (.t 2) (.t 19) },
      { d := some 3, op := .mov (.c (.int .u8 0)) },
      { d := some 4, op := .mov (.c (.int .i64 13)) }])
    (.ret))
    (.skip)))
  (.seq (.seq (.reg 6 false [
    { d := some 6, op := .mov (.c (.int .u8 1)) }])
  (.block 0
    (.loop
      (.seq (.seq (.reg 7 false [
        { d := some 20, op := .mov (.t 6) },
        { d := some 21, op := .bin .leq (.t 20) (.c (.int .u8 2)) }])
      (.cond (.t 21)
        (.skip)
        (.exit 0)))
      (.seq (.block 1
        (.seq (.reg 9 false [
          { d := some 24, op := .mov (.t 6) },
          { d := some 25, op := .call 50 [.t 24] },
          { d := some 7, op := .mov (.t 25) }])
        (.seq (.reg 10 false [
          { d := some 26, op := .mov (.t 5) },
          { d := some 27, op := .iaddr 1 (.t 26) (.c (.int .i64 0)) },
          { d := some 28, op := .load false 1 (.t 27) },
          { d := some 29, op := .call 73 [.t 28] },
          { d := some 8, op := .mov (.t 29) }])
        (.seq (.reg 11 true [
          { d := some 30, op := .mov (.t 8), aft := [] },
          { d := some 31, op := .mov (.t 7), aft := [] },
          { d := some 32, op := .bin .mul (.t 30) (.t 31), aft := [0, 1] },
          { d := some 33, op := .mov (.t 8), aft := [] },
          { d := some 34, op := .mov (.t 5), aft := [] },
          { d := some 35, op := .iaddr 1 (.t 34) (.c (.int .i64 1)), aft := [4] },
          { d := some 36, op := .load false 1 (.t 35), aft := [5] },
          { d := some 37, op := .call 73 [.t 36], aft := [6] },
          { d := some 38, op := .bin .add (.t 33) (.t 37), aft := [3, 7] },
          { d := some 39, op := .mov (.t 7), aft := [] },
          { d := some 40, op := .bin .mul (.t 38) (.t 39), aft := [8, 9] },
          { d := some 41, op := .mov (.t 8), aft := [] },
          { d := some 42, op := .mov (.t 5), aft := [] },
          { d := some 43, op := .iaddr 1 (.t 42) (.c (.int .i64 2)), aft := [12] },
          { d := some 44, op := .load false 1 (.t 43), aft := [13] },
          { d := some 45, op := .call 73 [.t 44], aft := [14, 7] },
          { d := some 46, op := .bin .add (.t 41) (.t 45), aft := [11, 15] },
          { d := some 47, op := .mov (.t 7), aft := [] },
          { d := some 48, op := .bin .mul (.t 46) (.t 47), aft := [16, 17] },
          { d := some 49, op := .build [.int .i64 0, .int .i64 0, .int .i64 0] [(0, 1, .t 32), (1, 1, .t 40), (2, 1, .t 48)], aft := [2, 10, 18] },
          { d := some 9, op := .alloc [.int .i64 0, .int .i64 0, .int .i64 0], aft := [] },
          { d := none, op := .store 3 (.t 9) (.t 49), aft := [20, 19, 15, 0, 1, 2, 3, 4, 5, 6, 7, 8, 9, 10, 11, 12, 13, 14, 15, 16, 17, 18, 19, 20] }])
        (.seq (.reg 12 false [
          { d := some 50, op := .load true 3 (.t 9) },
          { d := some 51, op := .call 42 [.t 50] },
          { d := some 52, op := .mov (.t 51) },
          { d := some 53, op := .load true 3 (.t 9), guard := some (52, true) },
          { d := some 54, op := .mov (.t 6), guard := some (52, true) },
          { d := some 55, op := .call 66 [.t 53, .t 54], guard := some (52, true) },
          { d := some 56, op := .mov (.t 0), guard := some (52, true) },
          { d := some 57, op := .bin .eql (.t 55) (.t 56), guard := some (52, true) },
          { d := some 58, op := .pick (.t 52) (.t 57) (.c (.bool false)) }])
        (.cond (.t 58)
          (.seq (.reg 13 false [
            { d := some 59, op := .load true 3 (.t 9) },
            { d := some 60, op := .mov (.t 6) },
            { d := none, op := .store 3 (.t 2) (.t 59) },
            { d := some 3, op := .mov (.t 60) },
            { d := some 4, op := .mov (.c (.int .i64 0)) }])
          (.ret))
          (.skip)))))))
      (.reg 8 false [
        { d := some 22, op := .mov (.t 6) },
        { d := some 23, op := .bin .add (.t 22) (.c (.int .u8 1)) },
        { d := some 6, op := .mov (.t 23) }]))))))
  (.seq (.reg 14 false [
    { d := some 61, op := .build [.int .i64 0, .int .i64 0, .int .i64 0] [] },
    { d := none, op := .store 3 (.t 2) (.t 61) },
    { d := some 3, op := .mov (.c (.int .u8 0)) },
    { d := some 4, op := .mov (.c (.int .i64 13)) }])
  (.ret))))))
def rr_ref01_Read : List RRes := [.c 2 true 3, .t 3, .t 4]
theorem pc_ref01_Read {G : Nat → Option (List AV)} {args : List AV} {v : AV} (hn : args.length ≤ Tryd.f38.ntmps) (h : ∀ R : Run, R.G = G → AR Tryd.prog R rc_ref01_Read (initSt args) (Fin rr_ref01_Read v)) : PC Tryd.prog G 38 args v :=
  PC_of Tryd.func38 rfl (by kernel_rfl) (rc := rc_ref01_Read) (by kernel_rfl) (rs := rr_ref01_Read) (by kernel_rfl) hn (fun R _ hG => h R hG)

theorem pb_ref01_Read {G : Nat → Option (List AV)} {objs objs' : List (Nat × AObj)} {args : List AV} {v : AV} (hn : args.length ≤ Tryd.f38.ntmps) (h : ∀ R : Run, R.G = G → AR Tryd.prog R rc_ref01_Read ⟨iniT 0 args, objs⟩ (FinB rr_ref01_Read v objs')) : PB Tryd.prog G 38 objs args v objs' :=
  PB_of Tryd.func38 rfl (by kernel_rfl) (rc := rc_ref01_Read) (by kernel_rfl) (rs := rr_ref01_Read) (by kernel_rfl) hn (fun R _ hG => h R hG)

theorem pp_ref01_Read {G : Nat → Option (List AV)} {args : List AV} {ch : List PanicEntry} (hn : args.length ≤ Tryd.f38.ntmps) (h : ∀ R : Run, R.G = G → AR Tryd.prog R rc_ref01_Read (initSt args) (FinP ch)) : PPC Tryd.prog G 38 args ch :=
  PPC_of Tryd.func38 rfl (by kernel_rfl) (rc := rc_ref01_Read) (by kernel_rfl) hn (fun R _ hG => h R hG)

end Go.Proofs.YtikjooemblpnbaaDoor
