/-
  The abstract machine's code of functions of the program, as a program of ours printed it; that it is theirs is proved beside each.
-/
import Derived.Test.YtikjooemblpnbaaDoorAmL
import Derived.Test.YtikjooemblpnbaaDoorProg
namespace Go.Proofs.YtikjooemblpnbaaDoor
open Go.RowKit

def rc_law01_SizeMeetsO : RCode :=
  .seq (.reg 0 false [
    { d := some 5, op := .box (.t 1) },
    { d := some 8, op := .mov (.c (.bool false)) }])
  (.seq (.reg 1 false [
    { d := some 20, op := .call 41 [] },
    { d := some 9, op := .mov (.t 20) }])
  (.seq (.seq (.reg 2 false [
    { d := some 21, op := .mov (.t 0) },
    { d := some 22, op := .len (.t 21) },
    { d := some 23, op := .bin .eql (.t 22) (.c (.int .i64 0)) },
    { d := some 24, op := .mov (.t 23) },
    { d := some 25, op := .mov (.t 0), guard := some (24, false) },
    { d := some 26, op := .len (.t 25), guard := some (24, false) },
    { d := some 27, op := .bin .geq (.t 26) (.c (.int .i64 20)), guard := some (24, false) },
    { d := some 28, op := .pick (.t 24) (.c (.bool true)) (.t 27) },
    { d := some 29, op := .mov (.t 28) },
    { d := some 30, op := .load true 3 (.t 5), guard := some (29, false) },
    { d := some 31, op := .call 42 [.t 30], guard := some (29, false) },
    { d := some 32, op := .un .not (.t 31), guard := some (29, false) },
    { d := some 33, op := .pick (.t 29) (.c (.bool true)) (.t 32) },
    { d := some 34, op := .mov (.t 33) },
    { d := some 35, op := .mov (.t 9), guard := some (34, false) },
    { d := some 36, op := .un .not (.t 35), guard := some (34, false) },
    { d := some 37, op := .pick (.t 34) (.c (.bool true)) (.t 36) }])
  (.cond (.t 37)
    (.seq (.reg 3 false [
      { d := some 38, op := .mov (.t 9) },
      { d := some 8, op := .mov (.t 38) }])
    (.ret))
    (.skip)))
  (.seq (.reg 4 false [
    { d := some 10, op := .mov (.c (.bool true)) }])
  (.seq (.reg 5 false [
    { d := some 11, op := .mov (.c (.nils)) }])
  (.seq (.seq (.reg 6 false [
    { d := some 39, op := .mov (.t 0) },
    { d := some 40, op := .len (.t 39) },
    { d := some 41, op := .mov (.c (.int .i64 0)) }])
  (.block 0
    (.loop
      (.seq (.reg 7 false [
        { d := some 42, op := .bin .lss (.t 41) (.t 40) }])
      (.seq (.cond (.t 42)
        (.skip)
        (.exit 0))
      (.seq (.block 1
        (.seq (.reg 8 false [
          { d := some 43, op := .mov (.t 41) },
          { d := some 44, op := .iaddr 3 (.t 39) (.t 41) },
          { d := some 45, op := .load true 3 (.t 44) },
          { d := some 13, op := .alloc [.int .i64 0, .int .i64 0, .int .i64 0] },
          { d := some 12, op := .mov (.t 43) },
          { d := none, op := .store 3 (.t 13) (.t 45) }])
        (.seq (.seq (.reg 9 false [
          { d := some 46, op := .load true 3 (.t 13) },
          { d := some 47, op := .call 42 [.t 46] },
          { d := some 48, op := .un .not (.t 47) }])
        (.cond (.t 48)
          (.seq (.reg 10 false [
            { d := some 49, op := .mov (.t 9) },
            { d := some 8, op := .mov (.t 49) }])
          (.ret))
          (.skip)))
        (.seq (.reg 11 false [
          { d := some 50, op := .mov (.t 10) },
          { d := some 51, op := .mov (.t 50) },
          { d := some 52, op := .mov (.t 2), guard := some (51, true) },
          { d := some 53, op := .faddr 1 (.t 13), guard := some (51, true) },
          { d := some 54, op := .load false 1 (.t 53), guard := some (51, true) },
          { d := some 55, op := .bin .geq (.t 52) (.t 54), guard := some (51, true) },
          { d := some 56, op := .pick (.t 51) (.t 55) (.c (.bool false)) },
          { d := some 57, op := .mov (.t 56) },
          { d := some 58, op := .mov (.t 2), guard := some (57, true) },
          { d := some 59, op := .faddr 2 (.t 13), guard := some (57, true) },
          { d := some 60, op := .load false 1 (.t 59), guard := some (57, true) },
          { d := some 61, op := .bin .leq (.t 58) (.t 60), guard := some (57, true) },
          { d := some 62, op := .pick (.t 57) (.t 61) (.c (.bool false)) },
          { d := some 10, op := .mov (.t 62) }])
        (.reg 12 false [
          { d := some 63, op := .mov (.t 11) },
          { d := some 64, op := .mov (.t 0) },
          { d := some 65, op := .mov (.t 12) },
          { d := some 66, op := .mov (.t 3) },
          { d := some 67, op := .conv .i64 (.t 66) },
          { d := some 68, op := .mov (.t 0) },
          { d := some 69, op := .len (.t 68) },
          { d := some 70, op := .bin .rem (.t 67) (.t 69) },
          { d := some 71, op := .bin .add (.t 65) (.t 70) },
          { d := some 72, op := .mov (.t 0) },
          { d := some 73, op := .len (.t 72) },
          { d := some 74, op := .bin .rem (.t 71) (.t 73) },
          { d := some 75, op := .iaddr 3 (.t 64) (.t 74) },
          { d := some 76, op := .load true 3 (.t 75) },
          { d := some 77, op := .bsl false 3 1 [.int .i64 0, .int .i64 0, .int .i64 0] [(0, .t 76)] },
          { d := some 78, op := .app 3 24 (.t 63) (.t 77) },
          { d := some 11, op := .mov (.t 78) }])))))
      (.reg 13 false [
        { d := some 79, op := .bin .add (.t 41) (.c (.int .i64 1)) },
        { d := some 41, op := .mov (.t 79) }])))))))
  (.seq (.reg 14 false [
    { d := some 81, op := .mov (.t 0) },
    { d := some 82, op := .call 30 [.t 81] },
    { d := some 80, op := .mov (.t 82) },
    { d := some 83, op := .ext 0 (.t 80) },
    { d := some 84, op := .ext 1 (.t 80) },
    { d := some 14, op := .alloc [.int .i64 0, .int .i64 0] },
    { d := none, op := .store 2 (.t 14) (.t 83) },
    { d := some 15, op := .mov (.t 84) }])
  (.seq (.reg 15 false [
    { d := some 86, op := .mov (.t 11) },
    { d := some 87, op := .call 30 [.t 86] },
    { d := some 85, op := .mov (.t 87) },
    { d := some 88, op := .ext 0 (.t 85) },
    { d := some 89, op := .ext 1 (.t 85) },
    { d := some 16, op := .alloc [.int .i64 0, .int .i64 0] },
    { d := none, op := .store 2 (.t 16) (.t 88) },
    { d := some 17, op := .mov (.t 89) }])
  (.seq (.reg 16 true [
    { d := some 91, op := .bsl true 3 0 [] [], aft := [] },
    { d := some 92, op := .mov (.t 0), aft := [] },
    { d := some 93, op := .app 3 24 (.t 91) (.t 92), aft := [0, 1] },
    { d := some 94, op := .load true 3 (.t 5), aft := [] },
    { d := some 95, op := .bsl false 3 1 [.int .i64 0, .int .i64 0, .int .i64 0] [(0, .t 94)], aft := [3] },
    { d := some 96, op := .app 3 24 (.t 93) (.t 95), aft := [2, 4, 2] },
    { d := some 97, op := .call 30 [.t 96], aft := [5, 5] },
    { d := some 90, op := .mov (.t 97), aft := [6] },
    { d := some 98, op := .ext 0 (.t 90), aft := [7] },
    { d := some 99, op := .ext 1 (.t 90), aft := [7] },
    { d := some 18, op := .alloc [.int .i64 0, .int .i64 0], aft := [] },
    { d := none, op := .store 2 (.t 18) (.t 98), aft := [10, 8, 6, 0, 1, 2, 3, 4, 5, 6, 7, 8, 10] },
    { d := some 19, op := .mov (.t 99), aft := [9, 11, 0, 1, 2, 3, 4, 5, 6, 7, 8, 9, 10, 11] }])
  (.seq (.seq (.reg 17 false [
    { d := some 100, op := .load true 2 (.t 14) },
    { d := some 101, op := .load true 2 (.t 16) },
    { d := some 102, op := .eqs true [.i, .i] (.t 100) (.t 101) },
    { d := some 103, op := .mov (.t 102) },
    { d := some 104, op := .mov (.t 15), guard := some (103, false) },
    { d := some 105, op := .mov (.t 17), guard := some (103, false) },
    { d := some 106, op := .bin .neq (.t 104) (.t 105), guard := some (103, false) },
    { d := some 107, op := .pick (.t 103) (.c (.bool true)) (.t 106) }])
  (.cond (.t 107)
    (.seq (.reg 18 false [
      { d := some 8, op := .mov (.c (.bool false)) }])
    (.ret))
    (.skip)))
  (.seq (.seq (.reg 19 false [
    { d := some 108, op := .mov (.t 15) },
    { d := some 109, op := .bin .neq (.t 108) (.c (.int .i64 0)) }])
  (.cond (.t 109)
    (.seq (.reg 20 false [
      { d := some 110, op := .mov (.t 9) },
      { d := some 111, op := .mov (.t 110) },
      { d := some 112, op := .mov (.t 15), guard := some (111, true) },
      { d := some 113, op := .bin .eql (.t 112) (.c (.int .i64 6)), guard := some (111, true) },
      { d := some 114, op := .pick (.t 111) (.t 113) (.c (.bool false)) },
      { d := some 115, op := .mov (.t 114) },
      { d := some 116, op := .mov (.t 10), guard := some (115, true) },
      { d := some 117, op := .un .not (.t 116), guard := some (115, true) },
      { d := some 118, op := .pick (.t 115) (.t 117) (.c (.bool false)) },
      { d := some 119, op := .mov (.t 118) },
      { d := some 120, op := .mov (.t 19), guard := some (119, true) },
      { d := some 121, op := .mov (.t 15), guard := some (119, true) },
      { d := some 122, op := .bin .eql (.t 120) (.t 121), guard := some (119, true) },
      { d := some 123, op := .pick (.t 119) (.t 122) (.c (.bool false)) },
      { d := some 124, op := .mov (.t 123) },
      { d := some 125, op := .load true 2 (.t 14), guard := some (124, true) },
      { d := some 126, op := .build [.int .i64 0, .int .i64 0] [], guard := some (124, true) },
      { d := some 127, op := .eqs false [.i, .i] (.t 125) (.t 126), guard := some (124, true) },
      { d := some 128, op := .pick (.t 124) (.t 127) (.c (.bool false)) },
      { d := some 8, op := .mov (.t 128) }])
    (.ret))
    (.skip)))
  (.seq (.seq (.reg 21 false [
    { d := some 129, op := .mov (.t 10) },
    { d := some 130, op := .mov (.t 2) },
    { d := some 131, op := .faddr 0 (.t 14) },
    { d := some 132, op := .load false 1 (.t 131) },
    { d := some 133, op := .bin .geq (.t 130) (.t 132) },
    { d := some 134, op := .mov (.t 133) },
    { d := some 135, op := .mov (.t 2), guard := some (134, true) },
    { d := some 136, op := .faddr 1 (.t 14), guard := some (134, true) },
    { d := some 137, op := .load false 1 (.t 136), guard := some (134, true) },
    { d := some 138, op := .bin .leq (.t 135) (.t 137), guard := some (134, true) },
    { d := some 139, op := .pick (.t 134) (.t 138) (.c (.bool false)) },
    { d := some 140, op := .vop (.beq true) [(.t 129), (.t 139)] },
    { d := some 141, op := .mov (.t 140) },
    { d := some 142, op := .faddr 0 (.t 14), guard := some (141, false) },
    { d := some 143, op := .load false 1 (.t 142), guard := some (141, false) },
    { d := some 144, op := .faddr 1 (.t 14), guard := some (141, false) },
    { d := some 145, op := .load false 1 (.t 144), guard := some (141, false) },
    { d := some 146, op := .bin .gtr (.t 143) (.t 145), guard := some (141, false) },
    { d := some 147, op := .pick (.t 141) (.c (.bool true)) (.t 146) }])
  (.cond (.t 147)
    (.seq (.reg 22 false [
      { d := some 8, op := .mov (.c (.bool false)) }])
    (.ret))
    (.skip)))
  (.seq (.seq (.reg 23 false [
    { d := some 148, op := .mov (.t 19) },
    { d := some 149, op := .bin .neq (.t 148) (.c (.int .i64 0)) }])
  (.cond (.t 149)
    (.seq (.reg 24 false [
      { d := some 150, op := .mov (.t 9) },
      { d := some 151, op := .mov (.t 150) },
      { d := some 152, op := .mov (.t 19), guard := some (151, true) },
      { d := some 153, op := .bin .eql (.t 152) (.c (.int .i64 6)), guard := some (151, true) },
      { d := some 154, op := .pick (.t 151) (.t 153) (.c (.bool false)) },
      { d := some 155, op := .mov (.t 154) },
      { d := some 156, op := .faddr 2 (.t 5), guard := some (155, true) },
      { d := some 157, op := .load false 1 (.t 156), guard := some (155, true) },
      { d := some 158, op := .faddr 0 (.t 14), guard := some (155, true) },
      { d := some 159, op := .load false 1 (.t 158), guard := some (155, true) },
      { d := some 160, op := .bin .lss (.t 157) (.t 159), guard := some (155, true) },
      { d := some 161, op := .mov (.t 160), guard := some (155, true) },
      { d := some 162, op := .faddr 1 (.t 5), guard := some (161, false) },
      { d := some 163, op := .load false 1 (.t 162), guard := some (161, false) },
      { d := some 164, op := .faddr 1 (.t 14), guard := some (161, false) },
      { d := some 165, op := .load false 1 (.t 164), guard := some (161, false) },
      { d := some 166, op := .bin .gtr (.t 163) (.t 165), guard := some (161, false) },
      { d := some 167, op := .pick (.t 161) (.c (.bool true)) (.t 166), guard := some (155, true) },
      { d := some 168, op := .pick (.t 155) (.t 167) (.c (.bool false)) },
      { d := some 8, op := .mov (.t 168) }])
    (.ret))
    (.skip)))
  (.seq (.reg 25 false [
    { d := some 169, op := .mov (.t 9) },
    { d := some 170, op := .mov (.t 169) },
    { d := some 171, op := .faddr 0 (.t 18), guard := some (170, true) },
    { d := some 172, op := .load false 1 (.t 171), guard := some (170, true) },
    { d := some 173, op := .faddr 0 (.t 14), guard := some (170, true) },
    { d := some 174, op := .load false 1 (.t 173), guard := some (170, true) },
    { d := some 175, op := .faddr 1 (.t 5), guard := some (170, true) },
    { d := some 176, op := .load false 1 (.t 175), guard := some (170, true) },
    { d := some 177, op := .mx true (.t 174) [.t 176], guard := some (170, true) },
    { d := some 178, op := .bin .eql (.t 172) (.t 177), guard := some (170, true) },
    { d := some 179, op := .pick (.t 170) (.t 178) (.c (.bool false)) },
    { d := some 180, op := .mov (.t 179) },
    { d := some 181, op := .faddr 1 (.t 18), guard := some (180, true) },
    { d := some 182, op := .load false 1 (.t 181), guard := some (180, true) },
    { d := some 183, op := .faddr 1 (.t 14), guard := some (180, true) },
    { d := some 184, op := .load false 1 (.t 183), guard := some (180, true) },
    { d := some 185, op := .faddr 2 (.t 5), guard := some (180, true) },
    { d := some 186, op := .load false 1 (.t 185), guard := some (180, true) },
    { d := some 187, op := .mx false (.t 184) [.t 186], guard := some (180, true) },
    { d := some 188, op := .bin .eql (.t 182) (.t 187), guard := some (180, true) },
    { d := some 189, op := .pick (.t 180) (.t 188) (.c (.bool false)) },
    { d := some 8, op := .mov (.t 189) }])
  (.ret))))))))))))))
def rr_law01_SizeMeetsO : List RRes := [.t 8]
theorem pc_law01_SizeMeetsO {G : Nat → Option (List AV)} {args : List AV} {v : AV} (hn : args.length ≤ Tryd.f14.ntmps) (h : ∀ R : Run, R.G = G → AR Tryd.prog R rc_law01_SizeMeetsO (initSt args) (Fin rr_law01_SizeMeetsO v)) : PC Tryd.prog G 14 args v :=
  PC_of Tryd.func14 rfl (by kernel_rfl) (rc := rc_law01_SizeMeetsO) (by kernel_rfl) (rs := rr_law01_SizeMeetsO) (by kernel_rfl) hn (fun R _ hG => h R hG)

theorem pb_law01_SizeMeetsO {G : Nat → Option (List AV)} {objs objs' : List (Nat × AObj)} {args : List AV} {v : AV} (hn : args.length ≤ Tryd.f14.ntmps) (h : ∀ R : Run, R.G = G → AR Tryd.prog R rc_law01_SizeMeetsO ⟨iniT 0 args, objs⟩ (FinB rr_law01_SizeMeetsO v objs')) : PB Tryd.prog G 14 objs args v objs' :=
  PB_of Tryd.func14 rfl (by kernel_rfl) (rc := rc_law01_SizeMeetsO) (by kernel_rfl) (rs := rr_law01_SizeMeetsO) (by kernel_rfl) hn (fun R _ hG => h R hG)

theorem pp_law01_SizeMeetsO {G : Nat → Option (List AV)} {args : List AV} {ch : List PanicEntry} (hn : args.length ≤ Tryd.f14.ntmps) (h : ∀ R : Run, R.G = G → AR Tryd.prog R rc_law01_SizeMeetsO (initSt args) (FinP ch)) : PPC Tryd.prog G 14 args ch :=
  PPC_of Tryd.func14 rfl (by kernel_rfl) (rc := rc_law01_SizeMeetsO) (by kernel_rfl) hn (fun R _ hG => h R hG)

def rc_law01_SizeNeverO : RCode :=
  .seq (.reg 0 false [
    { d := some 2, op := .box (.t 0) },
    { d := some 4, op := .mov (.c (.bool false)) }])
  (.seq (.reg 1 false [
    { d := some 27, op := .call 41 [] },
    { d := some 5, op := .mov (.t 27) }])
  (.seq (.seq (.reg 2 false [
    { d := some 28, op := .load true 3 (.t 2) },
    { d := some 29, op := .call 42 [.t 28] },
    { d := some 30, op := .un .not (.t 29) },
    { d := some 31, op := .mov (.t 30) },
    { d := some 32, op := .mov (.t 1), guard := some (31, false) },
    { d := some 33, op := .len (.t 32), guard := some (31, false) },
    { d := some 34, op := .bin .gtr (.t 33) (.c (.int .i64 20)), guard := some (31, false) },
    { d := some 35, op := .pick (.t 31) (.c (.bool true)) (.t 34) },
    { d := some 36, op := .mov (.t 35) },
    { d := some 37, op := .mov (.t 5), guard := some (36, false) },
    { d := some 38, op := .un .not (.t 37), guard := some (36, false) },
    { d := some 39, op := .pick (.t 36) (.c (.bool true)) (.t 38) }])
  (.cond (.t 39)
    (.seq (.reg 3 false [
      { d := some 40, op := .mov (.t 5) },
      { d := some 4, op := .mov (.t 40) }])
    (.ret))
    (.skip)))
  (.seq (.reg 4 false [
    { d := some 6, op := .mov (.c (.nils)) }])
  (.seq (.reg 5 true [
    { d := some 41, op := .load true 3 (.t 2), aft := [] },
    { d := some 8, op := .alloc [.int .i64 0, .int .i64 0, .int .i64 0], aft := [] },
    { d := some 7, op := .mov (.c (.int .i64 0)), aft := [1] },
    { d := none, op := .store 3 (.t 8) (.t 41), aft := [1, 0, 2, 0, 1, 2] }])
  (.seq (.seq (.reg 6 false [
    { d := some 42, op := .mov (.t 1) },
    { d := some 43, op := .len (.t 42) },
    { d := some 44, op := .mov (.c (.int .i64 0)) }])
  (.block 0
    (.loop
      (.seq (.reg 7 false [
        { d := some 45, op := .bin .lss (.t 44) (.t 43) }])
      (.seq (.cond (.t 45)
        (.skip)
        (.exit 0))
      (.seq (.block 1
        (.seq (.reg 8 false [
          { d := some 46, op := .mov (.t 44) },
          { d := some 47, op := .iaddr 1 (.t 42) (.t 44) },
          { d := some 48, op := .load false 1 (.t 47) },
          { d := some 9, op := .mov (.t 46) },
          { d := some 10, op := .mov (.t 48) }])
        (.seq (.reg 9 false [
          { d := some 50, op := .mov (.t 10) },
          { d := some 51, op := .call 43 [.t 50] },
          { d := some 49, op := .mov (.t 51) },
          { d := some 52, op := .ext 0 (.t 49) },
          { d := some 53, op := .ext 1 (.t 49) },
          { d := some 11, op := .mov (.t 52) },
          { d := some 12, op := .mov (.t 53) }])
        (.seq (.reg 10 false [
          { d := some 54, op := .mov (.t 6) },
          { d := some 55, op := .mov (.t 11) },
          { d := some 56, op := .bsl false 1 1 [.int .u8 0] [(0, .t 55)] },
          { d := some 57, op := .app 1 1 (.t 54) (.t 56) },
          { d := some 6, op := .mov (.t 57) }])
        (.seq (.reg 11 false [
          { d := some 58, op := .mov (.t 7) },
          { d := some 59, op := .mov (.t 12) },
          { d := some 60, op := .bin .add (.t 58) (.t 59) },
          { d := some 7, op := .mov (.t 60) }])
        (.seq (.reg 12 false [
          { d := some 62, op := .load true 3 (.t 8) },
          { d := some 63, op := .mov (.t 11) },
          { d := some 64, op := .call 16 [.t 62, .t 63] },
          { d := some 61, op := .mov (.t 64) },
          { d := some 65, op := .ext 0 (.t 61) },
          { d := some 66, op := .ext 1 (.t 61) },
          { d := some 13, op := .alloc [.int .i64 0, .int .i64 0, .int .i64 0] },
          { d := none, op := .store 3 (.t 13) (.t 65) },
          { d := some 14, op := .mov (.t 66) }])
        (.seq (.reg 13 false [
          { d := some 68, op := .load true 3 (.t 2) },
          { d := some 69, op := .mov (.t 6) },
          { d := some 70, op := .call 18 [.t 68, .t 69] },
          { d := some 67, op := .mov (.t 70) },
          { d := some 71, op := .ext 0 (.t 67) },
          { d := some 72, op := .ext 1 (.t 67) },
          { d := some 15, op := .alloc [.int .i64 0, .int .i64 0, .int .i64 0] },
          { d := none, op := .store 3 (.t 15) (.t 71) },
          { d := some 16, op := .mov (.t 72) }])
        (.seq (.seq (.reg 14 false [
          { d := some 73, op := .mov (.t 14) },
          { d := some 74, op := .mov (.t 16) },
          { d := some 75, op := .bin .neq (.t 73) (.t 74) }])
        (.cond (.t 75)
          (.seq (.reg 15 false [
            { d := some 4, op := .mov (.c (.bool false)) }])
          (.ret))
          (.skip)))
        (.seq (.seq (.reg 16 false [
          { d := some 76, op := .mov (.t 14) },
          { d := some 77, op := .bin .neq (.t 76) (.c (.int .i64 0)) }])
        (.cond (.t 77)
          (.seq (.reg 17 true [
            { d := some 79, op := .load true 3 (.t 2), aft := [] },
            { d := some 80, op := .bsl true 1 0 [] [], aft := [] },
            { d := some 81, op := .mov (.t 6), aft := [] },
            { d := some 82, op := .app 1 1 (.t 80) (.t 81), aft := [1, 2] },
            { d := some 83, op := .mov (.t 6), aft := [] },
            { d := some 84, op := .mov (.t 9), aft := [] },
            { d := some 85, op := .mov (.t 6), aft := [] },
            { d := some 86, op := .len (.t 85), aft := [6] },
            { d := some 87, op := .bin .sub (.c (.int .i64 20)) (.t 86), aft := [7] },
            { d := some 88, op := .mx false (.t 84) [.t 87], aft := [5, 8] },
            { d := some 89, op := .slc 1 (.t 83) none (some (.t 88)), aft := [4, 9] },
            { d := some 90, op := .app 1 1 (.t 82) (.t 89), aft := [3, 10, 3] },
            { d := some 91, op := .call 18 [.t 79, .t 90], aft := [0, 11, 11] },
            { d := some 78, op := .mov (.t 91), aft := [12] },
            { d := some 92, op := .ext 0 (.t 78), aft := [13] },
            { d := some 93, op := .ext 1 (.t 78), aft := [13] },
            { d := some 17, op := .alloc [.int .i64 0, .int .i64 0, .int .i64 0], aft := [] },
            { d := none, op := .store 3 (.t 17) (.t 92), aft := [16, 14, 12, 0, 1, 2, 3, 4, 5, 6, 7, 8, 9, 10, 11, 12, 13, 14, 16] },
            { d := some 18, op := .mov (.t 93), aft := [15, 17, 0, 1, 2, 3, 4, 5, 6, 7, 8, 9, 10, 11, 12, 13, 14, 15, 16, 17] }])
          (.seq (.reg 18 false [
            { d := some 94, op := .mov (.t 5) },
            { d := some 95, op := .mov (.t 94) },
            { d := some 96, op := .mov (.t 14), guard := some (95, true) },
            { d := some 97, op := .bin .eql (.t 96) (.c (.int .i64 6)), guard := some (95, true) },
            { d := some 98, op := .pick (.t 95) (.t 97) (.c (.bool false)) },
            { d := some 99, op := .mov (.t 98) },
            { d := some 100, op := .mov (.t 18), guard := some (99, true) },
            { d := some 101, op := .bin .eql (.t 100) (.c (.int .i64 6)), guard := some (99, true) },
            { d := some 102, op := .pick (.t 99) (.t 101) (.c (.bool false)) },
            { d := some 4, op := .mov (.t 102) }])
          (.ret)))
          (.skip)))
        (.seq (.reg 19 false [
          { d := some 104, op := .load true 3 (.t 8) },
          { d := some 105, op := .call 33 [.t 104] },
          { d := some 103, op := .mov (.t 105) },
          { d := some 106, op := .ext 0 (.t 103) },
          { d := some 107, op := .ext 1 (.t 103) },
          { d := some 19, op := .mov (.t 106) },
          { d := some 20, op := .mov (.t 107) }])
        (.seq (.reg 20 false [
          { d := some 109, op := .load true 3 (.t 13) },
          { d := some 110, op := .load true 3 (.t 2) },
          { d := some 111, op := .call 22 [.t 109, .t 110] },
          { d := some 108, op := .mov (.t 111) },
          { d := some 112, op := .ext 0 (.t 108) },
          { d := some 113, op := .ext 1 (.t 108) },
          { d := some 21, op := .mov (.t 112) },
          { d := some 22, op := .mov (.t 113) }])
        (.seq (.reg 21 false [
          { d := some 115, op := .load true 3 (.t 13) },
          { d := some 116, op := .mov (.t 11) },
          { d := some 117, op := .call 16 [.t 115, .t 116] },
          { d := some 114, op := .mov (.t 117) },
          { d := some 118, op := .ext 0 (.t 114) },
          { d := some 119, op := .ext 1 (.t 114) },
          { d := some 23, op := .alloc [.int .i64 0, .int .i64 0, .int .i64 0] },
          { d := none, op := .store 3 (.t 23) (.t 118) },
          { d := some 24, op := .mov (.t 119) }])
        (.seq (.seq (.reg 22 false [
          { d := some 120, op := .load true 3 (.t 15) },
          { d := some 121, op := .load true 3 (.t 13) },
          { d := some 122, op := .eqs true [.i, .i, .i] (.t 120) (.t 121) },
          { d := some 123, op := .mov (.t 122) },
          { d := some 124, op := .mov (.t 20), guard := some (123, false) },
          { d := some 125, op := .bin .neq (.t 124) (.c (.int .i64 0)), guard := some (123, false) },
          { d := some 126, op := .pick (.t 123) (.c (.bool true)) (.t 125) },
          { d := some 127, op := .mov (.t 126) },
          { d := some 128, op := .mov (.t 19), guard := some (127, false) },
          { d := some 129, op := .mov (.t 11), guard := some (127, false) },
          { d := some 130, op := .vop (.bits .and) [(.t 128), (.t 129)], guard := some (127, false) },
          { d := some 131, op := .mov (.t 11), guard := some (127, false) },
          { d := some 132, op := .bin .eql (.t 130) (.t 131), guard := some (127, false) },
          { d := some 133, op := .mov (.t 132), guard := some (127, false) },
          { d := some 134, op := .load true 3 (.t 13), guard := some (133, true) },
          { d := some 135, op := .load true 3 (.t 8), guard := some (133, true) },
          { d := some 136, op := .eqs true [.i, .i, .i] (.t 134) (.t 135), guard := some (133, true) },
          { d := some 137, op := .pick (.t 133) (.t 136) (.c (.bool false)), guard := some (127, false) },
          { d := some 138, op := .pick (.t 127) (.c (.bool true)) (.t 137) },
          { d := some 139, op := .mov (.t 138) },
          { d := some 140, op := .mov (.t 22), guard := some (139, false) },
          { d := some 141, op := .bin .neq (.t 140) (.c (.int .i64 0)), guard := some (139, false) },
          { d := some 142, op := .pick (.t 139) (.c (.bool true)) (.t 141) },
          { d := some 143, op := .mov (.t 142) },
          { d := some 144, op := .mov (.t 21), guard := some (143, false) },
          { d := some 145, op := .un .not (.t 144), guard := some (143, false) },
          { d := some 146, op := .pick (.t 143) (.c (.bool true)) (.t 145) },
          { d := some 147, op := .mov (.t 146) },
          { d := some 148, op := .mov (.t 24), guard := some (147, false) },
          { d := some 149, op := .bin .neq (.t 148) (.c (.int .i64 0)), guard := some (147, false) },
          { d := some 150, op := .pick (.t 147) (.c (.bool true)) (.t 149) },
          { d := some 151, op := .mov (.t 150) },
          { d := some 152, op := .load true 3 (.t 23), guard := some (151, false) },
          { d := some 153, op := .load true 3 (.t 13), guard := some (151, false) },
          { d := some 154, op := .eqs true [.i, .i, .i] (.t 152) (.t 153), guard := some (151, false) },
          { d := some 155, op := .pick (.t 151) (.c (.bool true)) (.t 154) },
          { d := some 156, op := .mov (.t 155) },
          { d := some 157, op := .faddr 1 (.t 13), guard := some (156, false) },
          { d := some 158, op := .load false 1 (.t 157), guard := some (156, false) },
          { d := some 159, op := .faddr 1 (.t 2), guard := some (156, false) },
          { d := some 160, op := .load false 1 (.t 159), guard := some (156, false) },
          { d := some 161, op := .bin .sub (.t 158) (.t 160), guard := some (156, false) },
          { d := some 162, op := .mov (.t 7), guard := some (156, false) },
          { d := some 163, op := .bin .geq (.t 161) (.t 162), guard := some (156, false) },
          { d := some 164, op := .pick (.t 156) (.c (.bool true)) (.t 163) },
          { d := some 165, op := .mov (.t 164) },
          { d := some 166, op := .faddr 2 (.t 2), guard := some (165, false) },
          { d := some 167, op := .load false 1 (.t 166), guard := some (165, false) },
          { d := some 168, op := .faddr 2 (.t 13), guard := some (165, false) },
          { d := some 169, op := .load false 1 (.t 168), guard := some (165, false) },
          { d := some 170, op := .bin .sub (.t 167) (.t 169), guard := some (165, false) },
          { d := some 171, op := .mov (.t 7), guard := some (165, false) },
          { d := some 172, op := .bin .geq (.t 170) (.t 171), guard := some (165, false) },
          { d := some 173, op := .pick (.t 165) (.c (.bool true)) (.t 172) }])
        (.cond (.t 173)
          (.seq (.reg 23 false [
            { d := some 4, op := .mov (.c (.bool false)) }])
          (.ret))
          (.skip)))
        (.reg 24 false [
          { d := some 174, op := .load true 3 (.t 13) },
          { d := none, op := .store 3 (.t 8) (.t 174) }]))))))))))))))
      (.reg 25 false [
        { d := some 175, op := .bin .add (.t 44) (.c (.int .i64 1)) },
        { d := some 44, op := .mov (.t 175) }])))))))
  (.seq (.reg 26 false [
    { d := some 177, op := .load true 3 (.t 2) },
    { d := some 178, op := .mov (.t 6) },
    { d := some 179, op := .call 18 [.t 177, .t 178] },
    { d := some 176, op := .mov (.t 179) },
    { d := some 180, op := .ext 0 (.t 176) },
    { d := some 181, op := .ext 1 (.t 176) },
    { d := some 25, op := .alloc [.int .i64 0, .int .i64 0, .int .i64 0] },
    { d := none, op := .store 3 (.t 25) (.t 180) },
    { d := some 26, op := .mov (.t 181) }])
  (.seq (.reg 27 false [
    { d := some 182, op := .mov (.t 5) },
    { d := some 183, op := .mov (.t 182) },
    { d := some 184, op := .mov (.t 26), guard := some (183, true) },
    { d := some 185, op := .bin .eql (.t 184) (.c (.int .i64 0)), guard := some (183, true) },
    { d := some 186, op := .pick (.t 183) (.t 185) (.c (.bool false)) },
    { d := some 187, op := .mov (.t 186) },
    { d := some 188, op := .load true 3 (.t 25), guard := some (187, true) },
    { d := some 189, op := .load true 3 (.t 8), guard := some (187, true) },
    { d := some 190, op := .eqs false [.i, .i, .i] (.t 188) (.t 189), guard := some (187, true) },
    { d := some 191, op := .pick (.t 187) (.t 190) (.c (.bool false)) },
    { d := some 4, op := .mov (.t 191) }])
  (.ret))))))))
def rr_law01_SizeNeverO : List RRes := [.t 4]
theorem pc_law01_SizeNeverO {G : Nat → Option (List AV)} {args : List AV} {v : AV} (hn : args.length ≤ Tryd.f7.ntmps) (h : ∀ R : Run, R.G = G → AR Tryd.prog R rc_law01_SizeNeverO (initSt args) (Fin rr_law01_SizeNeverO v)) : PC Tryd.prog G 7 args v :=
  PC_of Tryd.func7 rfl (by kernel_rfl) (rc := rc_law01_SizeNeverO) (by kernel_rfl) (rs := rr_law01_SizeNeverO) (by kernel_rfl) hn (fun R _ hG => h R hG)

theorem pb_law01_SizeNeverO {G : Nat → Option (List AV)} {objs objs' : List (Nat × AObj)} {args : List AV} {v : AV} (hn : args.length ≤ Tryd.f7.ntmps) (h : ∀ R : Run, R.G = G → AR Tryd.prog R rc_law01_SizeNeverO ⟨iniT 0 args, objs⟩ (FinB rr_law01_SizeNeverO v objs')) : PB Tryd.prog G 7 objs args v objs' :=
  PB_of Tryd.func7 rfl (by kernel_rfl) (rc := rc_law01_SizeNeverO) (by kernel_rfl) (rs := rr_law01_SizeNeverO) (by kernel_rfl) hn (fun R _ hG => h R hG)

theorem pp_law01_SizeNeverO {G : Nat → Option (List AV)} {args : List AV} {ch : List PanicEntry} (hn : args.length ≤ Tryd.f7.ntmps) (h : ∀ R : Run, R.G = G → AR Tryd.prog R rc_law01_SizeNeverO (initSt args) (FinP ch)) : PPC Tryd.prog G 7 args ch :=
  PPC_of Tryd.func7 rfl (by kernel_rfl) (rc := rc_law01_SizeNeverO) (by kernel_rfl) hn (fun R _ hG => h R hG)

end Go.Proofs.YtikjooemblpnbaaDoor
