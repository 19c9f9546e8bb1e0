/-
  The abstract machine's code of functions of the program, as a program of ours printed it; that it is theirs is proved beside each.
-/
import Derived.Test.YtdpmioiamcgfkaaDoorAmO
import Derived.Test.YtdpmioiamcgfkaaDoorProg
namespace Go.Proofs.YtdpmioiamcgfkaaDoor
open Go.RowKit

def rc_law02_SheetTells : RCode :=
  .seq (.reg 0 false [
    { d := some 3, op := .box (.t 0) },
    { d := some 5, op := .box (.t 2) },
    { d := some 6, op := .mov (.c (.bool false)) }])
  (.seq (.seq (.reg 1 false [
    { d := some 21, op := .load true 1 (.t 3) },
    { d := some 22, op := .call 18 [.t 21] }])
  (.cond (.t 22)
    (.seq (.reg 2 false [
      { d := some 6, op := .mov (.c (.bool true)) }])
    (.ret))
    (.skip)))
  (.seq (.reg 3 false [
    { d := some 23, op := .load true 1 (.t 3) },
    { d := some 24, op := .call 19 [.t 23] },
    { d := some 7, op := .alloc [.nils] },
    { d := none, op := .store 1 (.t 7) (.t 24) }])
  (.seq (.reg 4 false [
    { d := some 26, op := .load true 1 (.t 7) },
    { d := some 27, op := .call 20 [.t 26] },
    { d := some 25, op := .mov (.t 27) },
    { d := some 28, op := .ext 0 (.t 25) },
    { d := some 29, op := .ext 1 (.t 25) },
    { d := some 8, op := .mov (.t 28) },
    { d := some 9, op := .mov (.t 29) }])
  (.seq (.reg 5 false [
    { d := some 31, op := .load true 1 (.t 3) },
    { d := some 32, op := .call 21 [.t 31] },
    { d := some 30, op := .mov (.t 32) },
    { d := some 33, op := .ext 0 (.t 30) },
    { d := some 34, op := .ext 1 (.t 30) },
    { d := some 10, op := .mov (.t 33) },
    { d := some 11, op := .mov (.t 34) }])
  (.seq (.reg 6 false [
    { d := some 36, op := .load true 1 (.t 7) },
    { d := some 37, op := .mov (.t 1) },
    { d := some 38, op := .call 22 [.t 36, .t 37] },
    { d := some 35, op := .mov (.t 38) },
    { d := some 39, op := .ext 0 (.t 35) },
    { d := some 40, op := .ext 1 (.t 35) },
    { d := some 12, op := .mov (.t 39) },
    { d := some 13, op := .mov (.t 40) }])
  (.seq (.reg 7 false [
    { d := some 42, op := .load true 1 (.t 3) },
    { d := some 43, op := .mov (.t 1) },
    { d := some 44, op := .call 23 [.t 42, .t 43] },
    { d := some 41, op := .mov (.t 44) },
    { d := some 45, op := .ext 0 (.t 41) },
    { d := some 46, op := .ext 1 (.t 41) },
    { d := some 14, op := .mov (.t 45) },
    { d := some 15, op := .mov (.t 46) }])
  (.seq (.seq (.reg 8 true [
    { d := some 47, op := .load true 1 (.t 7), aft := [] },
    { d := some 48, op := .call 24 [.t 47], aft := [0] },
    { d := some 49, op := .load true 1 (.t 3), aft := [] },
    { d := some 50, op := .call 25 [.t 49], aft := [2, 1] },
    { d := some 51, op := .bin .neq (.t 48) (.t 50), aft := [1, 3] },
    { d := some 52, op := .mov (.t 51), aft := [4, 3] },
    { d := some 53, op := .mov (.t 8), guard := some (52, false), aft := [5] },
    { d := some 54, op := .mov (.t 10), guard := some (52, false), aft := [5] },
    { d := some 55, op := .call 26 [.t 53, .t 54], guard := some (52, false), aft := [6, 7, 5, 5] },
    { d := some 56, op := .un .not (.t 55), guard := some (52, false), aft := [8, 5] },
    { d := some 57, op := .pick (.t 52) (.c (.bool true)) (.t 56), aft := [5, 9] },
    { d := some 58, op := .mov (.t 57), aft := [10, 8] },
    { d := some 59, op := .mov (.t 9), guard := some (58, false), aft := [11] },
    { d := some 60, op := .mov (.t 11), guard := some (58, false), aft := [11] },
    { d := some 61, op := .bin .neq (.t 59) (.t 60), guard := some (58, false), aft := [12, 13, 11] },
    { d := some 62, op := .pick (.t 58) (.c (.bool true)) (.t 61), aft := [11, 14] },
    { d := some 63, op := .mov (.t 62), aft := [15, 11] },
    { d := some 64, op := .mov (.t 12), guard := some (63, false), aft := [16] },
    { d := some 65, op := .mov (.t 14), guard := some (63, false), aft := [16] },
    { d := some 66, op := .bin .neq (.t 64) (.t 65), guard := some (63, false), aft := [17, 18, 16] },
    { d := some 67, op := .pick (.t 63) (.c (.bool true)) (.t 66), aft := [16, 19] },
    { d := some 68, op := .mov (.t 67), aft := [20, 16] },
    { d := some 69, op := .mov (.t 13), guard := some (68, false), aft := [21] },
    { d := some 70, op := .mov (.t 15), guard := some (68, false), aft := [21] },
    { d := some 71, op := .bin .neq (.t 69) (.t 70), guard := some (68, false), aft := [22, 23, 21] },
    { d := some 72, op := .pick (.t 68) (.c (.bool true)) (.t 71), aft := [21, 24] }])
  (.cond (.t 72)
    (.seq (.reg 9 false [
      { d := some 6, op := .mov (.c (.bool false)) }])
    (.ret))
    (.skip)))
  (.seq (.reg 10 false [
    { d := some 74, op := .load true 1 (.t 7) },
    { d := some 75, op := .load true 2 (.t 5) },
    { d := some 76, op := .call 27 [.t 74, .t 75] },
    { d := some 73, op := .mov (.t 76) },
    { d := some 77, op := .ext 0 (.t 73) },
    { d := some 78, op := .ext 1 (.t 73) },
    { d := some 16, op := .alloc [.int .i64 0, .int .i64 0, .int .u8 0, .nils, .nils] },
    { d := none, op := .store 5 (.t 16) (.t 77) },
    { d := some 9, op := .mov (.t 78) }])
  (.seq (.reg 11 false [
    { d := some 80, op := .load true 1 (.t 3) },
    { d := some 81, op := .load true 2 (.t 5) },
    { d := some 82, op := .call 28 [.t 80, .t 81] },
    { d := some 79, op := .mov (.t 82) },
    { d := some 83, op := .ext 0 (.t 79) },
    { d := some 84, op := .ext 1 (.t 79) },
    { d := some 17, op := .alloc [.int .i64 0, .int .i64 0, .int .u8 0, .nils, .nils] },
    { d := none, op := .store 5 (.t 17) (.t 83) },
    { d := some 11, op := .mov (.t 84) }])
  (.seq (.reg 12 false [
    { d := some 86, op := .load true 1 (.t 7) },
    { d := some 87, op := .mov (.t 1) },
    { d := some 88, op := .call 29 [.t 86, .t 87] },
    { d := some 85, op := .mov (.t 88) },
    { d := some 89, op := .ext 0 (.t 85) },
    { d := some 90, op := .ext 1 (.t 85) },
    { d := some 12, op := .mov (.t 89) },
    { d := some 13, op := .mov (.t 90) }])
  (.seq (.reg 13 false [
    { d := some 92, op := .load true 1 (.t 3) },
    { d := some 93, op := .mov (.t 1) },
    { d := some 94, op := .call 30 [.t 92, .t 93] },
    { d := some 91, op := .mov (.t 94) },
    { d := some 95, op := .ext 0 (.t 91) },
    { d := some 96, op := .ext 1 (.t 91) },
    { d := some 14, op := .mov (.t 95) },
    { d := some 15, op := .mov (.t 96) }])
  (.seq (.reg 14 false [
    { d := some 97, op := .load true 5 (.t 16) },
    { d := some 98, op := .load true 5 (.t 17) },
    { d := some 99, op := .call 31 [.t 97, .t 98] },
    { d := some 100, op := .mov (.t 99) },
    { d := some 101, op := .mov (.t 9), guard := some (100, true) },
    { d := some 102, op := .mov (.t 11), guard := some (100, true) },
    { d := some 103, op := .bin .eql (.t 101) (.t 102), guard := some (100, true) },
    { d := some 104, op := .pick (.t 100) (.t 103) (.c (.bool false)) },
    { d := some 105, op := .mov (.t 104) },
    { d := some 106, op := .mov (.t 12), guard := some (105, true) },
    { d := some 107, op := .mov (.t 14), guard := some (105, true) },
    { d := some 108, op := .bin .eql (.t 106) (.t 107), guard := some (105, true) },
    { d := some 109, op := .pick (.t 105) (.t 108) (.c (.bool false)) },
    { d := some 110, op := .mov (.t 109) },
    { d := some 111, op := .mov (.t 13), guard := some (110, true) },
    { d := some 112, op := .mov (.t 15), guard := some (110, true) },
    { d := some 113, op := .bin .eql (.t 111) (.t 112), guard := some (110, true) },
    { d := some 114, op := .pick (.t 110) (.t 113) (.c (.bool false)) },
    { d := some 18, op := .mov (.t 114) }])
  (.seq (.seq (.reg 15 false [
    { d := some 115, op := .faddr 3 (.t 16) },
    { d := some 116, op := .load false 1 (.t 115) },
    { d := some 117, op := .len (.t 116) },
    { d := some 118, op := .mov (.c (.int .i64 0)) }])
  (.block 0
    (.loop
      (.seq (.reg 16 false [
        { d := some 119, op := .bin .lss (.t 118) (.t 117) }])
      (.seq (.cond (.t 119)
        (.skip)
        (.exit 0))
      (.seq (.block 1
        (.seq (.reg 17 false [
          { d := some 120, op := .mov (.t 118) },
          { d := some 19, op := .mov (.t 120) }])
        (.reg 18 false [
          { d := some 121, op := .faddr 3 (.t 16) },
          { d := some 122, op := .load false 1 (.t 121) },
          { d := some 123, op := .mov (.t 19) },
          { d := some 124, op := .iaddr 2 (.t 122) (.t 123) },
          { d := some 125, op := .faddr 1 (.t 124) },
          { d := none, op := .store 1 (.t 125) (.c (.int .i64 0)) }])))
      (.reg 19 false [
        { d := some 126, op := .bin .add (.t 118) (.c (.int .i64 1)) },
        { d := some 118, op := .mov (.t 126) }])))))))
  (.seq (.seq (.reg 20 false [
    { d := some 127, op := .faddr 4 (.t 16) },
    { d := some 128, op := .load false 1 (.t 127) },
    { d := some 129, op := .len (.t 128) },
    { d := some 130, op := .mov (.c (.int .i64 0)) }])
  (.block 2
    (.loop
      (.seq (.reg 21 false [
        { d := some 131, op := .bin .lss (.t 130) (.t 129) }])
      (.seq (.cond (.t 131)
        (.skip)
        (.exit 2))
      (.seq (.block 3
        (.seq (.reg 22 false [
          { d := some 132, op := .mov (.t 130) },
          { d := some 20, op := .mov (.t 132) }])
        (.reg 23 false [
          { d := some 133, op := .faddr 4 (.t 16) },
          { d := some 134, op := .load false 1 (.t 133) },
          { d := some 135, op := .mov (.t 20) },
          { d := some 136, op := .iaddr 3 (.t 134) (.t 135) },
          { d := some 137, op := .faddr 1 (.t 136) },
          { d := none, op := .store 1 (.t 137) (.c (.int .i64 (-7))) }])))
      (.reg 24 false [
        { d := some 138, op := .bin .add (.t 130) (.c (.int .i64 1)) },
        { d := some 130, op := .mov (.t 138) }])))))))
  (.seq (.reg 25 false [
    { d := some 139, op := .mov (.t 18) },
    { d := some 140, op := .mov (.t 139) },
    { d := some 141, op := .load true 1 (.t 7), guard := some (140, true) },
    { d := some 142, op := .load true 1 (.t 3), guard := some (140, true) },
    { d := some 143, op := .call 32 [.t 141, .t 142], guard := some (140, true) },
    { d := some 144, op := .pick (.t 140) (.t 143) (.c (.bool false)) },
    { d := some 6, op := .mov (.t 144) }])
  (.ret))))))))))))))))
def rr_law02_SheetTells : List RRes := [.t 6]
theorem pc_law02_SheetTells {G : Nat → Option (List AV)} {args : List AV} {v : AV} (hn : args.length ≤ Tryd.f3.ntmps) (h : ∀ R : Run, R.G = G → R.Top → AR Tryd.prog R rc_law02_SheetTells (initSt args) (Fin rr_law02_SheetTells v)) : PC Tryd.prog G 3 args v :=
  PC_of Tryd.func3 rfl (by kernel_rfl) (rc := rc_law02_SheetTells) (by kernel_rfl) (rs := rr_law02_SheetTells) (by kernel_rfl) hn (fun R _ hG hr => h R hG hr)

theorem pb_law02_SheetTells {G : Nat → Option (List AV)} {objs objs' : List (Nat × AObj)} {args : List AV} {v : AV} (hn : args.length ≤ Tryd.f3.ntmps) (h : ∀ R : Run, R.G = G → R.Top → AR Tryd.prog R rc_law02_SheetTells ⟨iniT 0 args, objs⟩ (FinB rr_law02_SheetTells v objs')) : PB Tryd.prog G 3 objs args v objs' :=
  PB_of Tryd.func3 rfl (by kernel_rfl) (rc := rc_law02_SheetTells) (by kernel_rfl) (rs := rr_law02_SheetTells) (by kernel_rfl) hn (fun R _ hG hr => h R hG hr)

theorem pp_law02_SheetTells {G : Nat → Option (List AV)} {args : List AV} {ch : List PanicEntry} (hn : args.length ≤ Tryd.f3.ntmps) (h : ∀ R : Run, R.G = G → R.Top → AR Tryd.prog R rc_law02_SheetTells (initSt args) (FinP ch)) : PPC Tryd.prog G 3 args ch :=
  PPC_of Tryd.func3 rfl (by kernel_rfl) (rc := rc_law02_SheetTells) (by kernel_rfl) hn (fun R _ hG hr => h R hG hr)

end Go.Proofs.YtdpmioiamcgfkaaDoor
