/-
  The abstract machine's code of functions of the program, as a program of ours printed it; that it is theirs is proved beside each.
-/
import Derived.Test.YtdpmioiamcgfkaaDoorAmO
import Derived.Test.YtdpmioiamcgfkaaDoorProg
namespace Go.Proofs.YtdpmioiamcgfkaaDoor
open Go.RowKit

noncomputable def rc_sheet_open : RCode :=
  .seq (.reg 0 false [
    { d := some 1, op := .box (.t 0) },
    { d := some 2, op := .mov (.c (.nilp)) },
    { d := some 3, op := .mov (.c (.int .i64 0)) }])
  (.scope (.seq (.reg 1 false [
    { d := some 16, op := .load true 1 (.t 1) },
    { d := some 17, op := .build [.nils, .nils] [(0, 1, .t 16)] },
    { d := some 18, op := .box (.t 17) },
    { d := some 4, op := .alloc [.nilp] },
    { d := none, op := .store 1 (.t 4) (.t 18) }])
  (.seq (.seq (.reg 2 false [
    { d := some 19, op := .faddr 0 (.t 1) },
    { d := some 20, op := .load false 1 (.t 19) },
    { d := some 21, op := .len (.t 20) },
    { d := some 22, op := .bsl false 1 1 [.int .i64 0] [(0, .t 21)] },
    { d := some 23, op := .call 101 [.c (.int .i64 1), .c (.int .i64 60), .t 22] },
    { d := some 24, op := .un .not (.t 23) }])
  (.cond (.t 24)
    (.seq (.reg 3 false [
      { d := some 2, op := .mov (.c (.nilp)) },
      { d := some 3, op := .mov (.c (.int .i64 20)) }])
    (.ret))
    (.skip)))
  (.seq (.label 0)
  (.seq (.seq (.reg 4 false [
    { d := some 25, op := .faddr 0 (.t 1) },
    { d := some 26, op := .load false 1 (.t 25) },
    { d := some 27, op := .len (.t 26) },
    { d := some 28, op := .mov (.c (.int .i64 0)) }])
  (.block 0
    (.loop
      (.seq (.reg 5 false [
        { d := some 29, op := .bin .lss (.t 28) (.t 27) }])
      (.seq (.cond (.t 29)
        (.skip)
        (.exit 0))
      (.seq (.block 1
        (.seq (.reg 6 false [
          { d := some 30, op := .mov (.t 28) },
          { d := some 31, op := .iaddr 5 (.t 26) (.t 28) },
          { d := some 32, op := .load true 5 (.t 31) },
          { d := some 6, op := .alloc [.int .i64 0, .int .i64 0, .int .u8 0, .nils, .nils] },
          { d := some 5, op := .mov (.t 30) },
          { d := none, op := .store 5 (.t 6) (.t 32) }])
        (.seq (.seq (.reg 7 false [
          { d := some 33, op := .load true 4 (.g 0) },
          { d := some 34, op := .mov (.c (.int .i64 0)) }])
        (.block 2
          (.loop
            (.seq (.reg 8 false [
              { d := some 35, op := .bin .lss (.t 34) (.c (.int .i64 4)) }])
            (.seq (.cond (.t 35)
              (.skip)
              (.exit 2))
            (.seq (.block 3
              (.seq (.reg 9 false [
                { d := some 36, op := .vop (.aidx true 4 1) [(.t 33), (.t 34)] },
                { d := some 8, op := .alloc [.nilf] },
                { d := none, op := .store 1 (.t 8) (.t 36) }])
              (.seq (.reg 10 false [
                { d := some 37, op := .faddr 0 (.t 8) },
                { d := some 38, op := .load false 1 (.t 37) },
                { d := some 39, op := .load true 5 (.t 6) },
                { d := some 40, op := .callv (.t 38) [.t 39] },
                { d := some 41, op := .un .not (.t 40) }])
              (.cond (.t 41)
                (.seq (.reg 11 false [
                  { d := some 2, op := .mov (.c (.nilp)) },
                  { d := some 3, op := .mov (.c (.int .i64 20)) }])
                (.ret))
                (.skip)))))
            (.reg 12 false [
              { d := some 42, op := .bin .add (.t 34) (.c (.int .i64 1)) },
              { d := some 34, op := .mov (.t 42) }])))))))
        (.seq (.seq (.reg 13 false [
          { d := some 43, op := .mov (.t 5) },
          { d := some 44, op := .bin .gtr (.t 43) (.c (.int .i64 0)) }])
        (.cond (.t 44)
          (.seq (.reg 14 false [
            { d := some 45, op := .faddr 0 (.t 1) },
            { d := some 46, op := .load false 1 (.t 45) },
            { d := some 47, op := .mov (.t 5) },
            { d := some 48, op := .bin .sub (.t 47) (.c (.int .i64 1)) },
            { d := some 49, op := .iaddr 5 (.t 46) (.t 48) },
            { d := some 50, op := .load true 5 (.t 49) },
            { d := some 9, op := .alloc [.int .i64 0, .int .i64 0, .int .u8 0, .nils, .nils] },
            { d := none, op := .store 5 (.t 9) (.t 50) }])
          (.seq (.reg 15 false [
            { d := some 51, op := .faddr 0 (.t 9) },
            { d := some 52, op := .load false 1 (.t 51) },
            { d := some 53, op := .faddr 0 (.t 6) },
            { d := some 54, op := .load false 1 (.t 53) },
            { d := some 55, op := .bin .eql (.t 52) (.t 54) }])
          (.cond (.t 55)
            (.seq (.seq (.reg 16 false [
              { d := some 56, op := .faddr 1 (.t 9) },
              { d := some 57, op := .load false 1 (.t 56) },
              { d := some 58, op := .bin .add (.t 57) (.c (.int .i64 1)) },
              { d := some 59, op := .faddr 1 (.t 6) },
              { d := some 60, op := .load false 1 (.t 59) },
              { d := some 61, op := .bin .neq (.t 58) (.t 60) },
              { d := some 62, op := .mov (.t 61) },
              { d := some 63, op := .faddr 2 (.t 9), guard := some (62, false) },
              { d := some 64, op := .load false 1 (.t 63), guard := some (62, false) },
              { d := some 65, op := .faddr 2 (.t 6), guard := some (62, false) },
              { d := some 66, op := .load false 1 (.t 65), guard := some (62, false) },
              { d := some 67, op := .bin .neq (.t 64) (.t 66), guard := some (62, false) },
              { d := some 68, op := .pick (.t 62) (.c (.bool true)) (.t 67) }])
            (.cond (.t 68)
              (.seq (.reg 17 false [
                { d := some 2, op := .mov (.c (.nilp)) },
                { d := some 3, op := .mov (.c (.int .i64 20)) }])
              (.ret))
              (.skip)))
            (.exit 1))
            (.seq (.reg 18 false [
              { d := some 69, op := .faddr 0 (.t 9) },
              { d := some 70, op := .load false 1 (.t 69) },
              { d := some 71, op := .faddr 0 (.t 6) },
              { d := some 72, op := .load false 1 (.t 71) },
              { d := some 73, op := .bin .gtr (.t 70) (.t 72) }])
            (.cond (.t 73)
              (.seq (.reg 19 false [
                { d := some 2, op := .mov (.c (.nilp)) },
                { d := some 3, op := .mov (.c (.int .i64 20)) }])
              (.ret))
              (.skip))))))
          (.skip)))
        (.seq (.seq (.reg 20 false [
          { d := some 74, op := .faddr 1 (.t 6) },
          { d := some 75, op := .load false 1 (.t 74) },
          { d := some 76, op := .bin .neq (.t 75) (.c (.int .i64 1)) }])
        (.cond (.t 76)
          (.seq (.reg 21 false [
            { d := some 2, op := .mov (.c (.nilp)) },
            { d := some 3, op := .mov (.c (.int .i64 20)) }])
          (.ret))
          (.skip)))
        (.reg 22 true [
          { d := some 77, op := .load false 1 (.t 4), aft := [] },
          { d := some 78, op := .load false 1 (.t 4), aft := [] },
          { d := some 79, op := .nilck (.t 78), aft := [1] },
          { d := some 80, op := .faddr 1 (.t 79), aft := [2] },
          { d := some 81, op := .load false 1 (.t 80), aft := [3] },
          { d := some 82, op := .faddr 0 (.t 6), aft := [] },
          { d := some 83, op := .load false 1 (.t 82), aft := [5] },
          { d := some 84, op := .bsl false 1 1 [.int .i64 0] [(0, .t 83)], aft := [6] },
          { d := some 85, op := .app 1 8 (.t 81) (.t 84), aft := [4, 7] },
          { d := some 86, op := .nilck (.t 77), aft := [0, 0, 1, 2, 3, 4, 5, 6, 7, 8] },
          { d := some 87, op := .faddr 1 (.t 86), aft := [9, 0, 1, 2, 3, 4, 5, 6, 7, 8] },
          { d := none, op := .store 1 (.t 87) (.t 85), aft := [10, 8, 8, 0, 1, 2, 3, 4, 5, 6, 7, 8] }]))))))
      (.reg 23 false [
        { d := some 88, op := .bin .add (.t 28) (.c (.int .i64 1)) },
        { d := some 28, op := .mov (.t 88) }])))))))
  (.seq (.seq (.reg 24 false [
    { d := some 89, op := .load false 1 (.t 4) },
    { d := some 90, op := .nilck (.t 89) },
    { d := some 91, op := .faddr 1 (.t 90) },
    { d := some 92, op := .load false 1 (.t 91) },
    { d := some 93, op := .len (.t 92) },
    { d := some 94, op := .bin .gtr (.t 93) (.c (.int .i64 20)) }])
  (.cond (.t 94)
    (.seq (.reg 25 false [
      { d := some 2, op := .mov (.c (.nilp)) },
      { d := some 3, op := .mov (.c (.int .i64 20)) }])
    (.ret))
    (.skip)))
  (.seq (.seq (.reg 26 false [
    { d := some 95, op := .faddr 0 (.t 1) },
    { d := some 96, op := .load false 1 (.t 95) },
    { d := some 97, op := .len (.t 96) },
    { d := some 98, op := .mov (.c (.int .i64 0)) }])
  (.block 4
    (.loop
      (.seq (.reg 27 false [
        { d := some 99, op := .bin .lss (.t 98) (.t 97) }])
      (.seq (.cond (.t 99)
        (.skip)
        (.exit 4))
      (.seq (.block 5
        (.seq (.reg 28 false [
          { d := some 100, op := .iaddr 5 (.t 96) (.t 98) },
          { d := some 101, op := .load true 5 (.t 100) },
          { d := some 11, op := .alloc [.int .i64 0, .int .i64 0, .int .u8 0, .nils, .nils] },
          { d := none, op := .store 5 (.t 11) (.t 101) }])
        (.seq (.reg 29 false [
          { d := some 102, op := .faddr 3 (.t 11) },
          { d := some 103, op := .load false 1 (.t 102) },
          { d := some 104, op := .mkf (.func 103) [] [.t 4] },
          { d := some 105, op := .call 102 [.t 103, .t 104] }])
        (.cond (.t 105)
          (.seq (.reg 30 false [
            { d := some 2, op := .mov (.c (.nilp)) },
            { d := some 3, op := .mov (.c (.int .i64 20)) }])
          (.ret))
          (.skip)))))
      (.reg 31 false [
        { d := some 106, op := .bin .add (.t 98) (.c (.int .i64 1)) },
        { d := some 98, op := .mov (.t 106) }])))))))
  (.seq (.reg 32 false [
    { d := some 108, op := .load false 1 (.t 4) },
    { d := some 109, op := .call 75 [.t 108] },
    { d := some 107, op := .mov (.t 109) },
    { d := some 110, op := .ext 0 (.t 107) },
    { d := some 111, op := .ext 1 (.t 107) },
    { d := some 12, op := .mov (.t 110) },
    { d := some 13, op := .mov (.t 111) }])
  (.seq (.seq (.reg 33 false [
    { d := some 112, op := .mov (.t 13) }])
  (.cond (.t 112)
    (.seq (.reg 34 false [
      { d := some 2, op := .mov (.c (.nilp)) },
      { d := some 3, op := .mov (.c (.int .i64 21)) }])
    (.ret))
    (.skip)))
  (.seq (.raw (opnR Tryd.prog))
  (.seq (.reg 40 false [
    { d := some 121, op := .load false 1 (.t 4) },
    { d := some 2, op := .mov (.t 121) },
    { d := some 3, op := .mov (.c (.int .i64 0)) }])
  (.ret))))))))))))
def rr_sheet_open : List RRes := [.t 2, .t 3]
theorem pc_sheet_open {G : Nat → Option (List AV)} {args : List AV} {v : AV} (hn : args.length ≤ Tryd.f67.ntmps) (h : ∀ R : Run, R.G = G → R.Top → AR Tryd.prog R rc_sheet_open (initSt args) (Fin rr_sheet_open v)) : PC Tryd.prog G 67 args v :=
  PC_of Tryd.func67 rfl (by kernel_rfl) (rc := rc_sheet_open) (by kernel_rfl) (rs := rr_sheet_open) (by kernel_rfl) hn (fun R _ hG hr => h R hG hr)

theorem pb_sheet_open {G : Nat → Option (List AV)} {objs objs' : List (Nat × AObj)} {args : List AV} {v : AV} (hn : args.length ≤ Tryd.f67.ntmps) (h : ∀ R : Run, R.G = G → R.Top → AR Tryd.prog R rc_sheet_open ⟨iniT 0 args, objs⟩ (FinB rr_sheet_open v objs')) : PB Tryd.prog G 67 objs args v objs' :=
  PB_of Tryd.func67 rfl (by kernel_rfl) (rc := rc_sheet_open) (by kernel_rfl) (rs := rr_sheet_open) (by kernel_rfl) hn (fun R _ hG hr => h R hG hr)

theorem pp_sheet_open {G : Nat → Option (List AV)} {args : List AV} {ch : List PanicEntry} (hn : args.length ≤ Tryd.f67.ntmps) (h : ∀ R : Run, R.G = G → R.Top → AR Tryd.prog R rc_sheet_open (initSt args) (FinP ch)) : PPC Tryd.prog G 67 args ch :=
  PPC_of Tryd.func67 rfl (by kernel_rfl) (rc := rc_sheet_open) (by kernel_rfl) hn (fun R _ hG hr => h R hG hr)

end Go.Proofs.YtdpmioiamcgfkaaDoor
