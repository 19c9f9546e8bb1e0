/-
  The abstract machine's code of functions of the program, as a program of ours printed it; that it is theirs is proved beside each.
-/
import Derived.Test.YtdpmioiamcgfkaaDoorJAmOToMath
import Derived.Test.YtdpmioiamcgfkaaDoorProg
set_option linter.unusedSimpArgs false
set_option linter.unusedVariables false
namespace Go.Proofs.YtdpmioiamcgfkaaDoor
open Go.RowKit

def rc_law02_ready : RCode :=
  .seq (.reg 0 false [ { d := some 1, op := .box (.t 0) }, { d := some 2, op := .mov (.c (.bool false)) }])
 (.seq (.reg 1 false [ { d := some 3, op := .load true 1 (.t 1) }, { d := some 4, op := .call 18 [.t 3] }, { d := some 5, op := .un .not (.t 4) }, { d := some 6, op := .mov (.t 5) }, { d := some 7, op := .load true 1 (.t 1), guard := some (6, true) }, { d := some 8, op := .call 25 [.t 7], guard := some (6, true) }, { d := some 9, op := .bin .eql (.t 8) (.c (.int .i64 0)), guard := some (6, true) }, { d := some 10, op := .pick (.t 6) (.t 9) (.c (.bool false)) }, { d := some 2, op := .mov (.t 10) }]) (.ret))
def rr_law02_ready : List RRes := [.t 2]
theorem pc_law02_ready {G : Nat → Option (List AV)} {args : List AV} {v : AV} (hn : args.length ≤ Tryd.f52.ntmps) (h : ∀ R : Run, R.G = G → R.Top → AR Tryd.prog R rc_law02_ready (initSt args) (Fin rr_law02_ready v)) : PC Tryd.prog G 52 args v :=
  PC_of Tryd.func52 rfl (by kernel_rfl) (rc := rc_law02_ready) (by kernel_rfl) (rs := rr_law02_ready) (by kernel_rfl) hn (fun R _ hG hr => h R hG hr)

def rc_law02_letters : RCode :=
  .seq (.reg 0 false [ { d := some 2, op := .box (.t 0) }, { d := some 4, op := .mov (.c (.nils)) }])
 (.seq (.reg 1 false [ { d := some 5, op := .mov (.c (.nils)) }]) (.seq
 (.seq (.reg 2 false [ { d := some 8, op := .load true 1 (.t 2) }, { d := some 9, op := .call 55 [.t 8] }, { d := some 10, op := .len (.t 9) }, { d := some 11, op := .mov (.c (.int .i64 0)) }]) (.block 0 (.loop
 (.seq (.reg 3 false [ { d := some 12, op := .bin .lss (.t 11) (.t 10) }]) (.seq (.cond (.t 12) (.skip) (.exit 0)) (.seq (.block 1
 (.seq (.reg 4 false [ { d := some 13, op := .mov (.t 11) }, { d := some 14, op := .iaddr 1 (.t 9) (.t 11) }, { d := some 15, op := .load false 1 (.t 14) }, { d := some 6, op := .mov (.t 13) }, { d := some 7, op := .mov (.t 15) }]) (.reg 5 true [ { d := some 16, op := .mov (.t 5), aft := [] }, { d := some 17, op := .mov (.t 1), aft := [] }, { d := some 18, op := .mov (.t 6), aft := [] }, { d := some 19, op := .call 97 [.t 17, .t 18], aft := [1, 2] }, { d := some 20, op := .load true 1 (.t 2), aft := [] }, { d := some 21, op := .mov (.t 7), aft := [] }, { d := some 22, op := .call 59 [.t 20, .t 21], aft := [4, 5, 3] }, { d := some 23, op := .bin .rem (.t 19) (.t 22), aft := [3, 6] }, { d := some 24, op := .bin .add (.c (.int .i64 1)) (.t 23), aft := [7] }, { d := some 25, op := .bsl false 1 1 [.int .i64 0] [(0, .t 24)], aft := [8] }, { d := some 26, op := .app 1 8 (.t 16) (.t 25), aft := [0, 9, 6] }, { d := some 5, op := .mov (.t 26), aft := [10, 10, 0, 1, 2, 3, 4, 5, 6, 7, 8, 9, 10] }]))) (.reg 6 false [ { d := some 27, op := .bin .add (.t 11) (.c (.int .i64 1)) }, { d := some 11, op := .mov (.t 27) }])))))))
 (.seq (.reg 7 false [ { d := some 28, op := .mov (.t 5) }, { d := some 4, op := .mov (.t 28) }]) (.ret))))
def rr_law02_letters : List RRes := [.t 4]
theorem pc_law02_letters {G : Nat → Option (List AV)} {args : List AV} {v : AV} (hn : args.length ≤ Tryd.f53.ntmps) (h : ∀ R : Run, R.G = G → R.Top → AR Tryd.prog R rc_law02_letters (initSt args) (Fin rr_law02_letters v)) : PC Tryd.prog G 53 args v :=
  PC_of Tryd.func53 rfl (by kernel_rfl) (rc := rc_law02_letters) (by kernel_rfl) (rs := rr_law02_letters) (by kernel_rfl) hn (fun R _ hG hr => h R hG hr)

def rc_law02_drawing : RCode :=
  .seq (.reg 0 false [ { d := some 2, op := .box (.t 0) }, { d := some 4, op := .mov (.c (.int .i64 0)) }])
 (.seq (.reg 1 false [ { d := some 6, op := .load true 1 (.t 2) }, { d := some 7, op := .call 55 [.t 6] }, { d := some 5, op := .mov (.t 7) }])
 (.seq (.reg 2 false [ { d := some 8, op := .mov (.t 5) }, { d := some 9, op := .mov (.t 1) }, { d := some 10, op := .conv .i64 (.t 9) }, { d := some 11, op := .mov (.t 5) }, { d := some 12, op := .len (.t 11) }, { d := some 13, op := .bin .rem (.t 10) (.t 12) }, { d := some 14, op := .iaddr 1 (.t 8) (.t 13) }, { d := some 15, op := .load false 1 (.t 14) }, { d := some 4, op := .mov (.t 15) }]) (.ret)))
def rr_law02_drawing : List RRes := [.t 4]
theorem pc_law02_drawing {G : Nat → Option (List AV)} {args : List AV} {v : AV} (hn : args.length ≤ Tryd.f54.ntmps) (h : ∀ R : Run, R.G = G → R.Top → AR Tryd.prog R rc_law02_drawing (initSt args) (Fin rr_law02_drawing v)) : PC Tryd.prog G 54 args v :=
  PC_of Tryd.func54 rfl (by kernel_rfl) (rc := rc_law02_drawing) (by kernel_rfl) (rs := rr_law02_drawing) (by kernel_rfl) hn (fun R _ hG hr => h R hG hr)

def rc_law02_choose : RCode :=
  .seq (.reg 0 false [ { d := some 4, op := .mov (.c (.int .i64 0)) }]) (.seq
 (.seq (.reg 1 false [ { d := some 5, op := .mov (.t 0) }, { d := some 6, op := .len (.t 5) }, { d := some 7, op := .bin .eql (.t 6) (.c (.int .i64 0)) }]) (.cond (.t 7)
 (.seq (.reg 2 false [ { d := some 4, op := .mov (.c (.int .i64 0)) }]) (.ret)) (.skip)))
 (.seq (.reg 3 false [ { d := some 8, op := .mov (.t 0) }, { d := some 9, op := .mov (.t 1) }, { d := some 10, op := .mov (.t 0) }, { d := some 11, op := .len (.t 10) }, { d := some 12, op := .bin .rem (.t 9) (.t 11) }, { d := some 13, op := .iaddr 1 (.t 8) (.t 12) }, { d := some 14, op := .load false 1 (.t 13) }, { d := some 15, op := .conv .i64 (.t 14) }, { d := some 4, op := .mov (.t 15) }]) (.ret)))
def rr_law02_choose : List RRes := [.t 4]
theorem pc_law02_choose {G : Nat → Option (List AV)} {args : List AV} {v : AV} (hn : args.length ≤ Tryd.f97.ntmps) (h : ∀ R : Run, R.G = G → R.Top → AR Tryd.prog R rc_law02_choose (initSt args) (Fin rr_law02_choose v)) : PC Tryd.prog G 97 args v :=
  PC_of Tryd.func97 rfl (by kernel_rfl) (rc := rc_law02_choose) (by kernel_rfl) (rs := rr_law02_choose) (by kernel_rfl) hn (fun R _ hG hr => h R hG hr)

def rc_law02_SheetItems : RCode :=
  .seq (.reg 0 false [ { d := some 3, op := .box (.t 0) }, { d := some 6, op := .mov (.c (.bool false)) }])
 (.seq (.reg 1 false [ { d := some 25, op := .call 51 [] }, { d := some 7, op := .mov (.t 25) }]) (.seq
 (.seq (.reg 2 false [ { d := some 26, op := .load true 1 (.t 3) }, { d := some 27, op := .call 52 [.t 26] }, { d := some 28, op := .un .not (.t 27) }, { d := some 29, op := .mov (.t 28) }, { d := some 30, op := .mov (.t 7), guard := some (29, false) }, { d := some 31, op := .un .not (.t 30), guard := some (29, false) }, { d := some 32, op := .pick (.t 29) (.c (.bool true)) (.t 31) }]) (.cond (.t 32)
 (.seq (.reg 3 false [ { d := some 33, op := .mov (.t 7) }, { d := some 6, op := .mov (.t 33) }]) (.ret)) (.skip)))
 (.seq (.reg 4 true [ { d := some 34, op := .load true 1 (.t 3), aft := [] }, { d := some 35, op := .mov (.t 1), aft := [] }, { d := some 36, op := .call 53 [.t 34, .t 35], aft := [0, 1] }, { d := some 37, op := .load true 1 (.t 3), aft := [] }, { d := some 38, op := .mov (.t 2), aft := [] }, { d := some 39, op := .call 54 [.t 37, .t 38], aft := [3, 4, 2] }, { d := some 8, op := .mov (.t 36), aft := [2, 5, 0, 1, 2] }, { d := some 9, op := .mov (.t 39), aft := [5, 6, 0, 1, 2, 3, 4, 5, 6] }])
 (.seq (.reg 5 false [ { d := some 41, op := .load true 1 (.t 3) }, { d := some 42, op := .mov (.t 8) }, { d := some 43, op := .mov (.t 9) }, { d := some 44, op := .call 33 [.t 41, .t 42, .t 43] }, { d := some 40, op := .mov (.t 44) }, { d := some 45, op := .ext 0 (.t 40) }, { d := some 46, op := .ext 1 (.t 40) }, { d := some 10, op := .mov (.t 45) }, { d := some 11, op := .mov (.t 46) }])
 (.seq (.reg 6 true [ { d := some 48, op := .load true 1 (.t 3), aft := [] }, { d := some 49, op := .mov (.t 9), aft := [] }, { d := some 50, op := .mov (.t 8), aft := [] }, { d := some 51, op := .load true 1 (.t 3), aft := [] }, { d := some 52, op := .call 55 [.t 51], aft := [3] }, { d := some 53, op := .mov (.t 9), aft := [] }, { d := some 54, op := .call 56 [.t 52, .t 53], aft := [4, 5, 4] }, { d := some 55, op := .iaddr 1 (.t 50) (.t 54), aft := [2, 6] }, { d := some 56, op := .load false 1 (.t 55), aft := [7] }, { d := some 57, op := .build [.int .i64 0, .int .i64 0] [(0, 1, .t 49), (1, 1, .t 56)], aft := [1, 8] }, { d := some 58, op := .call 27 [.t 48, .t 57], aft := [0, 9, 6] }, { d := some 47, op := .mov (.t 58), aft := [10] }, { d := some 59, op := .ext 0 (.t 47), aft := [11] }, { d := some 60, op := .ext 1 (.t 47), aft := [11] }, { d := some 12, op := .alloc [.int .i64 0, .int .i64 0, .int .u8 0, .nils, .nils], aft := [] }, { d := none, op := .store 5 (.t 12) (.t 59), aft := [14, 12, 10, 0, 1, 2, 3, 4, 5, 6, 7, 8, 9, 10, 11, 12, 14] }, { d := some 13, op := .mov (.t 60), aft := [13, 15, 0, 1, 2, 3, 4, 5, 6, 7, 8, 9, 10, 11, 12, 13, 14, 15] }]) (.seq
 (.seq (.reg 7 false [ { d := some 61, op := .mov (.t 11) }, { d := some 62, op := .bin .neq (.t 61) (.c (.int .i64 0)) }, { d := some 63, op := .mov (.t 62) }, { d := some 64, op := .mov (.t 13), guard := some (63, false) }, { d := some 65, op := .bin .neq (.t 64) (.c (.int .i64 0)), guard := some (63, false) }, { d := some 66, op := .pick (.t 63) (.c (.bool true)) (.t 65) }]) (.cond (.t 66)
 (.seq (.reg 8 false [ { d := some 6, op := .mov (.c (.bool false)) }]) (.ret)) (.skip))) (.seq
 (.seq (.reg 9 false [ { d := some 67, op := .faddr 2 (.t 12) }, { d := some 68, op := .load false 1 (.t 67) }, { d := some 69, op := .bin .neq (.t 68) (.c (.int .u8 1)) }]) (.cond (.t 69)
 (.seq (.reg 10 false [ { d := some 70, op := .mov (.t 7) }, { d := some 71, op := .mov (.t 70) }, { d := some 72, op := .mov (.t 10), guard := some (71, true) }, { d := some 73, op := .mov (.t 9), guard := some (71, true) }, { d := some 74, op := .call 58 [.t 73, .c (.int .i64 1)], guard := some (71, true) }, { d := some 75, op := .bsl false 2 1 [.int .i64 0, .int .i64 0] [(0, .t 74)], guard := some (71, true) }, { d := some 76, op := .call 37 [.t 72, .t 75], guard := some (71, true) }, { d := some 77, op := .pick (.t 71) (.t 76) (.c (.bool false)) }, { d := some 6, op := .mov (.t 77) }]) (.ret)) (.skip)))
 (.seq (.reg 11 false [ { d := some 78, op := .mkmap }, { d := some 14, op := .mov (.t 78) }]) (.seq
 (.seq (.reg 12 false [ { d := some 79, op := .faddr 3 (.t 12) }, { d := some 80, op := .load false 1 (.t 79) }, { d := some 81, op := .len (.t 80) }, { d := some 82, op := .mov (.c (.int .i64 0)) }]) (.block 0 (.loop
 (.seq (.reg 13 false [ { d := some 83, op := .bin .lss (.t 82) (.t 81) }]) (.seq (.cond (.t 83) (.skip) (.exit 0)) (.seq (.block 1
 (.seq (.reg 14 false [ { d := some 84, op := .iaddr 2 (.t 80) (.t 82) }, { d := some 85, op := .load true 2 (.t 84) }, { d := some 16, op := .alloc [.int .i64 0, .int .i64 0] }, { d := none, op := .store 2 (.t 16) (.t 85) }])
 (.seq (.reg 15 false [ { d := some 87, op := .load true 1 (.t 3) }, { d := some 88, op := .mov (.t 8) }, { d := some 89, op := .faddr 0 (.t 16) }, { d := some 90, op := .load false 1 (.t 89) }, { d := some 91, op := .call 33 [.t 87, .t 88, .t 90] }, { d := some 86, op := .mov (.t 91) }, { d := some 92, op := .ext 0 (.t 86) }, { d := some 93, op := .ext 1 (.t 86) }, { d := some 17, op := .mov (.t 92) }, { d := some 18, op := .mov (.t 93) }]) (.seq
 (.seq (.reg 16 false [ { d := some 94, op := .mov (.t 18) }, { d := some 95, op := .bin .neq (.t 94) (.c (.int .i64 0)) }, { d := some 96, op := .mov (.t 95) }, { d := some 97, op := .mov (.t 17), guard := some (96, false) }, { d := some 98, op := .len (.t 97), guard := some (96, false) }, { d := some 99, op := .bin .eql (.t 98) (.c (.int .i64 0)), guard := some (96, false) }, { d := some 100, op := .pick (.t 96) (.c (.bool true)) (.t 99) }]) (.cond (.t 100)
 (.seq (.reg 17 false [ { d := some 6, op := .mov (.c (.bool false)) }]) (.ret)) (.skip)))
 (.seq (.reg 18 false [ { d := some 101, op := .mov (.t 17) }, { d := some 102, op := .len (.t 101) }, { d := some 103, op := .mov (.c (.int .i64 0)) }]) (.block 2 (.loop
 (.seq (.reg 19 false [ { d := some 104, op := .bin .lss (.t 103) (.t 102) }]) (.seq (.cond (.t 104) (.skip) (.exit 2)) (.seq (.block 3
 (.seq (.reg 20 false [ { d := some 105, op := .iaddr 2 (.t 101) (.t 103) }, { d := some 106, op := .load true 2 (.t 105) }, { d := some 20, op := .alloc [.int .i64 0, .int .i64 0] }, { d := none, op := .store 2 (.t 20) (.t 106) }]) (.reg 21 false [ { d := some 107, op := .mov (.t 14) }, { d := some 108, op := .faddr 0 (.t 20) }, { d := some 109, op := .load false 1 (.t 108) }, { d := some 110, op := .look (.i .i64) (.int .i64 0) false (.t 107) (.t 109) }, { d := some 111, op := .faddr 1 (.t 20) }, { d := some 112, op := .load false 1 (.t 111) }, { d := some 113, op := .faddr 1 (.t 16) }, { d := some 114, op := .load false 1 (.t 113) }, { d := some 115, op := .bin .mul (.t 112) (.t 114) }, { d := some 116, op := .bin .add (.t 110) (.t 115) }, { d := none, op := .mupd (.i .i64) (.t 107) (.t 109) (.t 116) }]))) (.reg 22 false [ { d := some 117, op := .bin .add (.t 103) (.c (.int .i64 1)) }, { d := some 103, op := .mov (.t 117) }]))))))))))) (.reg 23 false [ { d := some 118, op := .bin .add (.t 82) (.c (.int .i64 1)) }, { d := some 82, op := .mov (.t 118) }]))))))) (.seq
 (.seq (.reg 24 false [ { d := some 119, op := .mov (.t 14) }, { d := some 120, op := .mlen (.t 119) }, { d := some 121, op := .mov (.t 10) }, { d := some 122, op := .len (.t 121) }, { d := some 123, op := .bin .neq (.t 120) (.t 122) }]) (.cond (.t 123)
 (.seq (.reg 25 false [ { d := some 6, op := .mov (.c (.bool false)) }]) (.ret)) (.skip))) (.seq
 (.seq (.reg 26 false [ { d := some 124, op := .mov (.t 10) }, { d := some 125, op := .len (.t 124) }, { d := some 126, op := .mov (.c (.int .i64 0)) }]) (.block 4 (.loop
 (.seq (.reg 27 false [ { d := some 127, op := .bin .lss (.t 126) (.t 125) }]) (.seq (.cond (.t 127) (.skip) (.exit 4)) (.seq (.block 5
 (.seq (.reg 28 false [ { d := some 128, op := .iaddr 2 (.t 124) (.t 126) }, { d := some 129, op := .load true 2 (.t 128) }, { d := some 22, op := .alloc [.int .i64 0, .int .i64 0] }, { d := none, op := .store 2 (.t 22) (.t 129) }])
 (.seq (.reg 29 false [ { d := some 131, op := .load true 1 (.t 3) }, { d := some 132, op := .faddr 0 (.t 22) }, { d := some 133, op := .load false 1 (.t 132) }, { d := some 134, op := .build [.int .i64 0, .int .i64 0] [(0, 1, .t 133), (1, 1, .c (.int .i64 1))] }, { d := some 135, op := .call 27 [.t 131, .t 134] }, { d := some 130, op := .mov (.t 135) }, { d := some 136, op := .ext 0 (.t 130) }, { d := some 137, op := .ext 1 (.t 130) }, { d := some 23, op := .alloc [.int .i64 0, .int .i64 0, .int .u8 0, .nils, .nils] }, { d := none, op := .store 5 (.t 23) (.t 136) }, { d := some 24, op := .mov (.t 137) }])
 (.seq (.reg 30 false [ { d := some 138, op := .mov (.t 14) }, { d := some 139, op := .faddr 0 (.t 22) }, { d := some 140, op := .load false 1 (.t 139) }, { d := some 141, op := .look (.i .i64) (.int .i64 0) false (.t 138) (.t 140) }, { d := some 142, op := .faddr 1 (.t 22) }, { d := some 143, op := .load false 1 (.t 142) }, { d := some 144, op := .bin .neq (.t 141) (.t 143) }, { d := some 145, op := .mov (.t 144) }, { d := some 146, op := .mov (.t 24), guard := some (145, false) }, { d := some 147, op := .bin .neq (.t 146) (.c (.int .i64 0)), guard := some (145, false) }, { d := some 148, op := .pick (.t 145) (.c (.bool true)) (.t 147) }, { d := some 149, op := .mov (.t 148) }, { d := some 150, op := .faddr 2 (.t 23), guard := some (149, false) }, { d := some 151, op := .load false 1 (.t 150), guard := some (149, false) }, { d := some 152, op := .bin .eql (.t 151) (.c (.int .u8 1)), guard := some (149, false) }, { d := some 153, op := .pick (.t 149) (.c (.bool true)) (.t 152) }]) (.cond (.t 153)
 (.seq (.reg 31 false [ { d := some 6, op := .mov (.c (.bool false)) }]) (.ret)) (.skip)))))) (.reg 32 false [ { d := some 154, op := .bin .add (.t 126) (.c (.int .i64 1)) }, { d := some 126, op := .mov (.t 154) }])))))))
 (.seq (.reg 33 false [ { d := some 155, op := .mov (.t 7) }, { d := some 6, op := .mov (.t 155) }]) (.ret)))))))))))))
def rr_law02_SheetItems : List RRes := [.t 6]
theorem pc_law02_SheetItems {G : Nat → Option (List AV)} {args : List AV} {v : AV} (hn : args.length ≤ Tryd.f8.ntmps) (h : ∀ R : Run, R.G = G → R.Top → AR Tryd.prog R rc_law02_SheetItems (initSt args) (Fin rr_law02_SheetItems v)) : PC Tryd.prog G 8 args v :=
  PC_of Tryd.func8 rfl (by kernel_rfl) (rc := rc_law02_SheetItems) (by kernel_rfl) (rs := rr_law02_SheetItems) (by kernel_rfl) hn (fun R _ hG hr => h R hG hr)

end Go.Proofs.YtdpmioiamcgfkaaDoor

/-! The abstract machine's code of functions of the program, as a program of ours printed it; that it is theirs is proved beside each. -/
namespace Go.Proofs.YtdpmioiamcgfkaaDoor
open Go.RowKit

noncomputable def rc_slices_Concat_api_Issue_api_Issue : RCode :=
  .seq (.reg 0 false [ { d := some 2, op := .mov (.c (.nils)) }])
 (.seq (.reg 1 false [ { d := some 3, op := .mov (.c (.int .i64 0)) }]) (.seq
 (.seq (.reg 2 false [ { d := some 9, op := .mov (.t 0) }, { d := some 10, op := .len (.t 9) }, { d := some 11, op := .mov (.c (.int .i64 0)) }]) (.block 0 (.loop
 (.seq (.reg 3 false [ { d := some 12, op := .bin .lss (.t 11) (.t 10) }]) (.seq (.cond (.t 12) (.skip) (.exit 0)) (.seq (.block 1
 (.seq (.reg 4 false [ { d := some 13, op := .iaddr 1 (.t 9) (.t 11) }, { d := some 14, op := .load false 1 (.t 13) }, { d := some 5, op := .mov (.t 14) }])
 (.seq (.reg 5 false [ { d := some 15, op := .mov (.t 3) }, { d := some 16, op := .mov (.t 5) }, { d := some 17, op := .len (.t 16) }, { d := some 18, op := .bin .add (.t 15) (.t 17) }, { d := some 3, op := .mov (.t 18) }])
 (.seq (.reg 6 false [ { d := some 19, op := .mov (.t 3) }, { d := some 20, op := .bin .lss (.t 19) (.c (.int .i64 0)) }]) (.cond (.t 20) (.raw (fun _ _ => true)) (.skip)))))) (.reg 8 false [ { d := some 22, op := .bin .add (.t 11) (.c (.int .i64 1)) }, { d := some 11, op := .mov (.t 22) }])))))))
 (.seq (.reg 9 false [ { d := some 23, op := .mov (.t 3) }, { d := some 24, op := .calln 115 [.c (.nils), .t 23] }, { d := some 6, op := .mov (.t 24) }]) (.seq
 (.seq (.reg 10 false [ { d := some 25, op := .mov (.t 0) }, { d := some 26, op := .len (.t 25) }, { d := some 27, op := .mov (.c (.int .i64 0)) }]) (.block 2 (.loop
 (.seq (.reg 11 false [ { d := some 28, op := .bin .lss (.t 27) (.t 26) }]) (.seq (.cond (.t 28) (.skip) (.exit 2)) (.seq (.block 3
 (.seq (.reg 12 false [ { d := some 29, op := .iaddr 1 (.t 25) (.t 27) }, { d := some 30, op := .load false 1 (.t 29) }, { d := some 8, op := .mov (.t 30) }]) (.reg 13 false [ { d := some 31, op := .mov (.t 6) }, { d := some 32, op := .mov (.t 8) }, { d := some 33, op := .app 5 72 (.t 31) (.t 32) }, { d := some 6, op := .mov (.t 33) }]))) (.reg 14 false [ { d := some 34, op := .bin .add (.t 27) (.c (.int .i64 1)) }, { d := some 27, op := .mov (.t 34) }])))))))
 (.seq (.reg 15 false [ { d := some 35, op := .mov (.t 6) }, { d := some 2, op := .mov (.t 35) }]) (.ret))))))
def rr_slices_Concat_api_Issue_api_Issue : List RRes := [.t 2]
theorem pc_slices_Concat_api_Issue_api_Issue {G : Nat → Option (List AV)} {args : List AV} {v : AV} (hn : args.length ≤ Tryd.f90.ntmps) (h : ∀ R : Run, R.G = G → R.Top → AR Tryd.prog R rc_slices_Concat_api_Issue_api_Issue (initSt args) (Fin rr_slices_Concat_api_Issue_api_Issue v)) : PC Tryd.prog G 90 args v :=
  PC_of Tryd.func90 rfl (by kernel_rfl) (rc := rc_slices_Concat_api_Issue_api_Issue) (by kernel_rfl) (rs := rr_slices_Concat_api_Issue_api_Issue) (by kernel_rfl) hn (fun R _ hG hr => h R hG hr)

def rc_slices_SortStableFunc_api_Issue_api_Issue : RCode :=
  .reg 0 false [ { d := some 4, op := .mov (.t 0) }, { d := some 5, op := .mov (.t 0) }, { d := some 6, op := .len (.t 5) }, { d := some 7, op := .mov (.t 1) }, { d := some 8, op := .call 116 [.t 4, .t 6, .t 7] }]
def rr_slices_SortStableFunc_api_Issue_api_Issue : List RRes := []
theorem pb_slices_SortStableFunc_api_Issue_api_Issue {G : Nat → Option (List AV)} {objs objs' : List (Nat × AObj)} {args : List AV} {v : AV} (hn : args.length ≤ Tryd.f91.ntmps) (h : ∀ R : Run, R.G = G → R.Top → AR Tryd.prog R rc_slices_SortStableFunc_api_Issue_api_Issue ⟨iniT 0 args, objs⟩ (FinB rr_slices_SortStableFunc_api_Issue_api_Issue v objs')) : PB Tryd.prog G 91 objs args v objs' :=
  PB_of Tryd.func91 rfl (by kernel_rfl) (rc := rc_slices_SortStableFunc_api_Issue_api_Issue) (by kernel_rfl) (rs := rr_slices_SortStableFunc_api_Issue_api_Issue) (by kernel_rfl) hn (fun R _ hG hr => h R hG hr)

def rc_slices_stableCmpFunc_api_Issue : RCode :=
  .seq (.reg 0 false [ { d := some 6, op := .mov (.c (.int .i64 20)) }])
 (.seq (.reg 1 false [ { d := some 10, op := .mov (.t 6) }, { d := some 7, op := .mov (.c (.int .i64 0)) }, { d := some 8, op := .mov (.t 10) }]) (.seq (.block 0 (.loop (.seq
 (.seq (.reg 2 false [ { d := some 11, op := .mov (.t 8) }, { d := some 12, op := .mov (.t 1) }, { d := some 13, op := .bin .leq (.t 11) (.t 12) }]) (.cond (.t 13) (.skip) (.exit 0))) (.block 1
 (.seq (.reg 3 false [ { d := some 14, op := .mov (.t 0) }, { d := some 15, op := .mov (.t 7) }, { d := some 16, op := .mov (.t 8) }, { d := some 17, op := .mov (.t 2) }, { d := some 18, op := .call 130 [.t 14, .t 15, .t 16, .t 17] }])
 (.seq (.reg 4 false [ { d := some 19, op := .mov (.t 8) }, { d := some 7, op := .mov (.t 19) }]) (.reg 5 false [ { d := some 20, op := .mov (.t 8) }, { d := some 21, op := .mov (.t 6) }, { d := some 22, op := .bin .add (.t 20) (.t 21) }, { d := some 8, op := .mov (.t 22) }])))))))
 (.seq (.reg 6 false [ { d := some 23, op := .mov (.t 0) }, { d := some 24, op := .mov (.t 7) }, { d := some 25, op := .mov (.t 1) }, { d := some 26, op := .mov (.t 2) }, { d := some 27, op := .call 130 [.t 23, .t 24, .t 25, .t 26] }]) (.block 2 (.loop (.seq
 (.seq (.reg 7 false [ { d := some 28, op := .mov (.t 6) }, { d := some 29, op := .mov (.t 1) }, { d := some 30, op := .bin .lss (.t 28) (.t 29) }]) (.cond (.t 30) (.skip) (.exit 2))) (.block 3
 (.seq (.reg 8 false [ { d := some 31, op := .mov (.t 6) }, { d := some 32, op := .bin .mul (.c (.int .i64 2)) (.t 31) }, { d := some 7, op := .mov (.c (.int .i64 0)) }, { d := some 8, op := .mov (.t 32) }]) (.seq (.block 4 (.loop (.seq
 (.seq (.reg 9 false [ { d := some 33, op := .mov (.t 8) }, { d := some 34, op := .mov (.t 1) }, { d := some 35, op := .bin .leq (.t 33) (.t 34) }]) (.cond (.t 35) (.skip) (.exit 4))) (.block 5
 (.seq (.reg 10 false [ { d := some 36, op := .mov (.t 0) }, { d := some 37, op := .mov (.t 7) }, { d := some 38, op := .mov (.t 7) }, { d := some 39, op := .mov (.t 6) }, { d := some 40, op := .bin .add (.t 38) (.t 39) }, { d := some 41, op := .mov (.t 8) }, { d := some 42, op := .mov (.t 2) }, { d := some 43, op := .call 131 [.t 36, .t 37, .t 40, .t 41, .t 42] }])
 (.seq (.reg 11 false [ { d := some 44, op := .mov (.t 8) }, { d := some 7, op := .mov (.t 44) }]) (.reg 12 false [ { d := some 45, op := .mov (.t 8) }, { d := some 46, op := .mov (.t 6) }, { d := some 47, op := .bin .mul (.c (.int .i64 2)) (.t 46) }, { d := some 48, op := .bin .add (.t 45) (.t 47) }, { d := some 8, op := .mov (.t 48) }]))))))) (.seq
 (.seq (.reg 13 false [ { d := some 49, op := .mov (.t 7) }, { d := some 50, op := .mov (.t 6) }, { d := some 51, op := .bin .add (.t 49) (.t 50) }, { d := some 9, op := .mov (.t 51) }])
 (.seq (.reg 14 false [ { d := some 52, op := .mov (.t 9) }, { d := some 53, op := .mov (.t 1) }, { d := some 54, op := .bin .lss (.t 52) (.t 53) }]) (.cond (.t 54) (.reg 15 false [ { d := some 55, op := .mov (.t 0) }, { d := some 56, op := .mov (.t 7) }, { d := some 57, op := .mov (.t 9) }, { d := some 58, op := .mov (.t 1) }, { d := some 59, op := .mov (.t 2) }, { d := some 60, op := .call 131 [.t 55, .t 56, .t 57, .t 58, .t 59] }]) (.skip)))) (.reg 16 false [ { d := some 61, op := .mov (.t 6) }, { d := some 62, op := .bin .mul (.t 61) (.c (.int .i64 2)) }, { d := some 6, op := .mov (.t 62) }])))))))))))
def rr_slices_stableCmpFunc_api_Issue : List RRes := []
theorem pb_slices_stableCmpFunc_api_Issue {G : Nat → Option (List AV)} {objs objs' : List (Nat × AObj)} {args : List AV} {v : AV} (hn : args.length ≤ Tryd.f116.ntmps) (h : ∀ R : Run, R.G = G → R.Top → AR Tryd.prog R rc_slices_stableCmpFunc_api_Issue ⟨iniT 0 args, objs⟩ (FinB rr_slices_stableCmpFunc_api_Issue v objs')) : PB Tryd.prog G 116 objs args v objs' :=
  PB_of Tryd.func116 rfl (by kernel_rfl) (rc := rc_slices_stableCmpFunc_api_Issue) (by kernel_rfl) (rs := rr_slices_stableCmpFunc_api_Issue) (by kernel_rfl) hn (fun R _ hG hr => h R hG hr)

def rc_slices_insertionSortCmpFunc_api_Issue : RCode :=
  .seq (.reg 0 false [ { d := some 10, op := .mov (.t 1) }, { d := some 11, op := .bin .add (.t 10) (.c (.int .i64 1)) }, { d := some 8, op := .mov (.t 11) }]) (.block 0 (.loop (.seq
 (.seq (.reg 1 false [ { d := some 12, op := .mov (.t 8) }, { d := some 13, op := .mov (.t 2) }, { d := some 14, op := .bin .lss (.t 12) (.t 13) }]) (.cond (.t 14) (.skip) (.exit 0))) (.seq (.block 1
 (.seq (.reg 3 false [ { d := some 17, op := .mov (.t 8) }, { d := some 9, op := .mov (.t 17) }]) (.block 2 (.loop (.seq
 (.seq (.reg 4 true [ { d := some 18, op := .mov (.t 9), aft := [] }, { d := some 19, op := .mov (.t 1), aft := [] }, { d := some 20, op := .bin .gtr (.t 18) (.t 19), aft := [0, 1] }, { d := some 21, op := .mov (.t 20), aft := [2] }, { d := some 22, op := .mov (.t 3), guard := some (21, true), aft := [3] }, { d := some 23, op := .mov (.t 0), guard := some (21, true), aft := [3] }, { d := some 24, op := .mov (.t 9), guard := some (21, true), aft := [3] }, { d := some 25, op := .iaddr 5 (.t 23) (.t 24), guard := some (21, true), aft := [5, 6, 3] }, { d := some 26, op := .load true 5 (.t 25), guard := some (21, true), aft := [7, 3] }, { d := some 27, op := .mov (.t 0), guard := some (21, true), aft := [3] }, { d := some 28, op := .mov (.t 9), guard := some (21, true), aft := [3] }, { d := some 29, op := .bin .sub (.t 28) (.c (.int .i64 1)), guard := some (21, true), aft := [10, 3] }, { d := some 30, op := .iaddr 5 (.t 27) (.t 29), guard := some (21, true), aft := [9, 11, 3] }, { d := some 31, op := .load true 5 (.t 30), guard := some (21, true), aft := [12, 3] }, { d := some 32, op := .callv (.t 22) [.t 26, .t 31], guard := some (21, true), aft := [4, 8, 13, 3, 3] }, { d := some 33, op := .bin .lss (.t 32) (.c (.int .i64 0)), guard := some (21, true), aft := [14, 3] }, { d := some 34, op := .pick (.t 21) (.t 33) (.c (.bool false)), aft := [3, 15] }]) (.cond (.t 34) (.skip) (.exit 2))) (.seq (.block 3 (.reg 6 true [ { d := some 37, op := .mov (.t 0), aft := [] }, { d := some 38, op := .mov (.t 9), aft := [] }, { d := some 39, op := .mov (.t 0), aft := [] }, { d := some 40, op := .mov (.t 9), aft := [] }, { d := some 41, op := .bin .sub (.t 40) (.c (.int .i64 1)), aft := [3] }, { d := some 42, op := .mov (.t 0), aft := [] }, { d := some 43, op := .mov (.t 9), aft := [] }, { d := some 44, op := .bin .sub (.t 43) (.c (.int .i64 1)), aft := [6] }, { d := some 45, op := .iaddr 5 (.t 42) (.t 44), aft := [5, 7] }, { d := some 46, op := .load true 5 (.t 45), aft := [8] }, { d := some 47, op := .mov (.t 0), aft := [] }, { d := some 48, op := .mov (.t 9), aft := [] }, { d := some 49, op := .iaddr 5 (.t 47) (.t 48), aft := [10, 11] }, { d := some 50, op := .load true 5 (.t 49), aft := [12] }, { d := some 51, op := .iaddr 5 (.t 37) (.t 38), aft := [0, 1, 0, 1, 5, 6, 7, 8, 9, 13] }, { d := none, op := .store 5 (.t 51) (.t 46), aft := [14, 9, 0, 1, 5, 6, 7, 8, 9, 13] }, { d := some 52, op := .iaddr 5 (.t 39) (.t 41), aft := [2, 4, 0, 1, 2, 3, 4, 5, 6, 7, 8, 9, 10, 11, 12, 13, 14, 15] }, { d := none, op := .store 5 (.t 52) (.t 50), aft := [16, 13, 15, 0, 1, 2, 3, 4, 5, 6, 7, 8, 9, 10, 11, 12, 13, 14, 15] }])) (.reg 5 false [ { d := some 35, op := .mov (.t 9) }, { d := some 36, op := .bin .sub (.t 35) (.c (.int .i64 1)) }, { d := some 9, op := .mov (.t 36) }]))))))) (.reg 2 false [ { d := some 15, op := .mov (.t 8) }, { d := some 16, op := .bin .add (.t 15) (.c (.int .i64 1)) }, { d := some 8, op := .mov (.t 16) }])))))
def rr_slices_insertionSortCmpFunc_api_Issue : List RRes := []
theorem pb_slices_insertionSortCmpFunc_api_Issue {G : Nat → Option (List AV)} {objs objs' : List (Nat × AObj)} {args : List AV} {v : AV} (hn : args.length ≤ Tryd.f130.ntmps) (h : ∀ R : Run, R.G = G → R.Top → AR Tryd.prog R rc_slices_insertionSortCmpFunc_api_Issue ⟨iniT 0 args, objs⟩ (FinB rr_slices_insertionSortCmpFunc_api_Issue v objs')) : PB Tryd.prog G 130 objs args v objs' :=
  PB_of Tryd.func130 rfl (by kernel_rfl) (rc := rc_slices_insertionSortCmpFunc_api_Issue) (by kernel_rfl) (rs := rr_slices_insertionSortCmpFunc_api_Issue) (by kernel_rfl) hn (fun R _ hG hr => h R hG hr)

def rc_sheet_Merge_1 : RCode :=
  .seq (.reg 0 false [ { d := some 2, op := .box (.t 0) }, { d := some 3, op := .box (.t 1) }, { d := some 4, op := .mov (.c (.int .i64 0)) }])
 (.seq (.reg 1 false [ { d := some 5, op := .faddr 0 (.t 2) }, { d := some 6, op := .load false 1 (.t 5) }, { d := some 7, op := .faddr 0 (.t 3) }, { d := some 8, op := .load false 1 (.t 7) }, { d := some 9, op := .bin .sub (.t 6) (.t 8) }, { d := some 10, op := .faddr 1 (.t 2) }, { d := some 11, op := .load false 1 (.t 10) }, { d := some 12, op := .faddr 1 (.t 3) }, { d := some 13, op := .load false 1 (.t 12) }, { d := some 14, op := .bin .sub (.t 11) (.t 13) }, { d := some 15, op := .bsl false 1 2 [.int .i64 0, .int .i64 0] [(0, .t 9), (1, .t 14)] }, { d := some 16, op := .call 93 [.t 15] }, { d := some 4, op := .mov (.t 16) }]) (.ret))
def rr_sheet_Merge_1 : List RRes := [.t 4]
theorem pc_sheet_Merge_1 {G : Nat → Option (List AV)} {args : List AV} {v : AV} (hn : args.length ≤ Tryd.f92.ntmps) (h : ∀ R : Run, R.G = G → R.Top → AR Tryd.prog R rc_sheet_Merge_1 (initSt args) (Fin rr_sheet_Merge_1 v)) : PC Tryd.prog G 92 args v :=
  PC_of Tryd.func92 rfl (by kernel_rfl) (rc := rc_sheet_Merge_1) (by kernel_rfl) (rs := rr_sheet_Merge_1) (by kernel_rfl) hn (fun R _ hG hr => h R hG hr)

def rc_sheet_Merge_2 : RCode :=
  .seq (.reg 0 false [ { d := some 2, op := .box (.t 0) }, { d := some 3, op := .box (.t 1) }, { d := some 4, op := .mov (.c (.bool false)) }])
 (.seq (.reg 1 true [ { d := some 5, op := .load true 5 (.t 2), aft := [] }, { d := some 6, op := .call 84 [.t 5], aft := [0] }, { d := some 7, op := .load true 5 (.t 3), aft := [] }, { d := some 8, op := .call 84 [.t 7], aft := [2, 1] }, { d := some 9, op := .eqs false [.i, .i] (.t 6) (.t 8), aft := [1, 3] }, { d := some 4, op := .mov (.t 9), aft := [4, 3, 0, 1, 2, 3, 4] }]) (.ret))
def rr_sheet_Merge_2 : List RRes := [.t 4]
theorem pc_sheet_Merge_2 {G : Nat → Option (List AV)} {args : List AV} {v : AV} (hn : args.length ≤ Tryd.f95.ntmps) (h : ∀ R : Run, R.G = G → R.Top → AR Tryd.prog R rc_sheet_Merge_2 (initSt args) (Fin rr_sheet_Merge_2 v)) : PC Tryd.prog G 95 args v :=
  PC_of Tryd.func95 rfl (by kernel_rfl) (rc := rc_sheet_Merge_2) (by kernel_rfl) (rs := rr_sheet_Merge_2) (by kernel_rfl) hn (fun R _ hG hr => h R hG hr)

def rc_cmp_Or_int : RCode :=
  .seq (.reg 0 false [ { d := some 2, op := .mov (.c (.int .i64 0)) }])
 (.seq (.reg 1 false [ { d := some 3, op := .mov (.c (.int .i64 0)) }]) (.seq
 (.seq (.reg 2 false [ { d := some 6, op := .mov (.t 0) }, { d := some 7, op := .len (.t 6) }, { d := some 8, op := .mov (.c (.int .i64 0)) }]) (.block 0 (.loop
 (.seq (.reg 3 false [ { d := some 9, op := .bin .lss (.t 8) (.t 7) }]) (.seq (.cond (.t 9) (.skip) (.exit 0)) (.seq (.block 1
 (.seq (.reg 4 false [ { d := some 10, op := .iaddr 1 (.t 6) (.t 8) }, { d := some 11, op := .load false 1 (.t 10) }, { d := some 5, op := .mov (.t 11) }])
 (.seq (.reg 5 false [ { d := some 12, op := .mov (.t 5) }, { d := some 13, op := .mov (.t 3) }, { d := some 14, op := .bin .neq (.t 12) (.t 13) }]) (.cond (.t 14)
 (.seq (.reg 6 false [ { d := some 15, op := .mov (.t 5) }, { d := some 2, op := .mov (.t 15) }]) (.ret)) (.skip))))) (.reg 7 false [ { d := some 16, op := .bin .add (.t 8) (.c (.int .i64 1)) }, { d := some 8, op := .mov (.t 16) }])))))))
 (.seq (.reg 8 false [ { d := some 17, op := .mov (.t 3) }, { d := some 2, op := .mov (.t 17) }]) (.ret))))
def rr_cmp_Or_int : List RRes := [.t 2]
theorem pc_cmp_Or_int {G : Nat → Option (List AV)} {args : List AV} {v : AV} (hn : args.length ≤ Tryd.f93.ntmps) (h : ∀ R : Run, R.G = G → R.Top → AR Tryd.prog R rc_cmp_Or_int (initSt args) (Fin rr_cmp_Or_int v)) : PC Tryd.prog G 93 args v :=
  PC_of Tryd.func93 rfl (by kernel_rfl) (rc := rc_cmp_Or_int) (by kernel_rfl) (rs := rr_cmp_Or_int) (by kernel_rfl) hn (fun R _ hG hr => h R hG hr)

def rc_slices_CompactFunc_api_Issue_api_Issue : RCode :=
  .seq (.reg 0 false [ { d := some 4, op := .mov (.c (.nils)) }]) (.seq
 (.seq (.reg 1 false [ { d := some 8, op := .mov (.t 0) }, { d := some 9, op := .len (.t 8) }, { d := some 10, op := .bin .lss (.t 9) (.c (.int .i64 2)) }]) (.cond (.t 10)
 (.seq (.reg 2 false [ { d := some 11, op := .mov (.t 0) }, { d := some 4, op := .mov (.t 11) }]) (.ret)) (.skip))) (.seq
 (.seq (.reg 3 false [ { d := some 5, op := .mov (.c (.int .i64 1)) }]) (.block 0 (.loop (.seq
 (.seq (.reg 4 false [ { d := some 12, op := .mov (.t 5) }, { d := some 13, op := .mov (.t 0) }, { d := some 14, op := .len (.t 13) }, { d := some 15, op := .bin .lss (.t 12) (.t 14) }]) (.cond (.t 15) (.skip) (.exit 0))) (.seq (.block 1
 (.seq (.reg 6 true [ { d := some 18, op := .mov (.t 1), aft := [] }, { d := some 19, op := .mov (.t 0), aft := [] }, { d := some 20, op := .mov (.t 5), aft := [] }, { d := some 21, op := .iaddr 5 (.t 19) (.t 20), aft := [1, 2] }, { d := some 22, op := .load true 5 (.t 21), aft := [3] }, { d := some 23, op := .mov (.t 0), aft := [] }, { d := some 24, op := .mov (.t 5), aft := [] }, { d := some 25, op := .bin .sub (.t 24) (.c (.int .i64 1)), aft := [6] }, { d := some 26, op := .iaddr 5 (.t 23) (.t 25), aft := [5, 7] }, { d := some 27, op := .load true 5 (.t 26), aft := [8] }, { d := some 28, op := .callv (.t 18) [.t 22, .t 27], aft := [0, 4, 9] }]) (.cond (.t 28)
 (.seq (.reg 7 false [ { d := some 29, op := .mov (.t 0) }, { d := some 30, op := .mov (.t 5) }, { d := some 31, op := .slc 5 (.t 29) (some (.t 30)) none }, { d := some 6, op := .mov (.t 31) }]) (.seq
 (.seq (.reg 8 false [ { d := some 7, op := .mov (.c (.int .i64 1)) }]) (.block 2 (.loop (.seq
 (.seq (.reg 9 false [ { d := some 32, op := .mov (.t 7) }, { d := some 33, op := .mov (.t 6) }, { d := some 34, op := .len (.t 33) }, { d := some 35, op := .bin .lss (.t 32) (.t 34) }]) (.cond (.t 35) (.skip) (.exit 2))) (.seq (.block 3
 (.seq (.reg 11 true [ { d := some 38, op := .mov (.t 1), aft := [] }, { d := some 39, op := .mov (.t 6), aft := [] }, { d := some 40, op := .mov (.t 7), aft := [] }, { d := some 41, op := .iaddr 5 (.t 39) (.t 40), aft := [1, 2] }, { d := some 42, op := .load true 5 (.t 41), aft := [3] }, { d := some 43, op := .mov (.t 6), aft := [] }, { d := some 44, op := .mov (.t 7), aft := [] }, { d := some 45, op := .bin .sub (.t 44) (.c (.int .i64 1)), aft := [6] }, { d := some 46, op := .iaddr 5 (.t 43) (.t 45), aft := [5, 7] }, { d := some 47, op := .load true 5 (.t 46), aft := [8] }, { d := some 48, op := .callv (.t 38) [.t 42, .t 47], aft := [0, 4, 9] }, { d := some 49, op := .un .not (.t 48), aft := [10] }]) (.cond (.t 49)
 (.seq (.reg 12 false [ { d := some 50, op := .mov (.t 0) }, { d := some 51, op := .mov (.t 5) }, { d := some 52, op := .mov (.t 6) }, { d := some 53, op := .mov (.t 7) }, { d := some 54, op := .iaddr 5 (.t 52) (.t 53) }, { d := some 55, op := .load true 5 (.t 54) }, { d := some 56, op := .iaddr 5 (.t 50) (.t 51) }, { d := none, op := .store 5 (.t 56) (.t 55) }]) (.reg 13 false [ { d := some 57, op := .mov (.t 5) }, { d := some 58, op := .bin .add (.t 57) (.c (.int .i64 1)) }, { d := some 5, op := .mov (.t 58) }])) (.skip)))) (.reg 10 false [ { d := some 36, op := .mov (.t 7) }, { d := some 37, op := .bin .add (.t 36) (.c (.int .i64 1)) }, { d := some 7, op := .mov (.t 37) }]))))))
 (.seq (.reg 14 false [ { d := some 59, op := .mov (.t 0) }, { d := some 60, op := .mov (.t 5) }, { d := some 61, op := .slc 5 (.t 59) (some (.t 60)) none }, { d := none, op := .clr 5 [.int .i64 0, .int .i64 0, .int .u8 0, .nils, .nils] (.t 61) }])
 (.seq (.reg 15 false [ { d := some 62, op := .mov (.t 0) }, { d := some 63, op := .mov (.t 5) }, { d := some 64, op := .slc 5 (.t 62) none (some (.t 63)) }, { d := some 4, op := .mov (.t 64) }]) (.ret))))) (.skip)))) (.reg 5 false [ { d := some 16, op := .mov (.t 5) }, { d := some 17, op := .bin .add (.t 16) (.c (.int .i64 1)) }, { d := some 5, op := .mov (.t 17) }]))))))
 (.seq (.reg 16 false [ { d := some 65, op := .mov (.t 0) }, { d := some 4, op := .mov (.t 65) }]) (.ret))))
def rr_slices_CompactFunc_api_Issue_api_Issue : List RRes := [.t 4]
theorem pb_slices_CompactFunc_api_Issue_api_Issue {G : Nat → Option (List AV)} {objs objs' : List (Nat × AObj)} {args : List AV} {v : AV} (hn : args.length ≤ Tryd.f94.ntmps) (h : ∀ R : Run, R.G = G → R.Top → AR Tryd.prog R rc_slices_CompactFunc_api_Issue_api_Issue ⟨iniT 0 args, objs⟩ (FinB rr_slices_CompactFunc_api_Issue_api_Issue v objs')) : PB Tryd.prog G 94 objs args v objs' :=
  PB_of Tryd.func94 rfl (by kernel_rfl) (rc := rc_slices_CompactFunc_api_Issue_api_Issue) (by kernel_rfl) (rs := rr_slices_CompactFunc_api_Issue_api_Issue) (by kernel_rfl) hn (fun R _ hG hr => h R hG hr)

def rc_sheet_Merge : RCode :=
  .seq (.reg 0 false [ { d := some 2, op := .box (.t 0) }, { d := some 3, op := .box (.t 1) }, { d := some 4, op := .alloc [.nils] }, { d := some 5, op := .mov (.c (.int .i64 0)) }])
 (.seq (.reg 1 false [ { d := some 14, op := .load true 1 (.t 2) }, { d := some 15, op := .load true 1 (.t 3) }, { d := some 16, op := .call 87 [.t 14, .t 15] }, { d := some 13, op := .mov (.t 16) }, { d := some 17, op := .ext 0 (.t 13) }, { d := some 18, op := .ext 1 (.t 13) }, { d := some 19, op := .ext 2 (.t 13) }, { d := some 6, op := .mov (.t 17) }, { d := some 7, op := .mov (.t 18) }, { d := some 8, op := .mov (.t 19) }]) (.seq
 (.seq (.reg 2 false [ { d := some 20, op := .mov (.t 8) }, { d := some 21, op := .bin .neq (.t 20) (.c (.int .i64 0)) }]) (.cond (.t 21)
 (.seq (.reg 3 false [ { d := some 22, op := .build [.nils] [] }, { d := some 23, op := .mov (.t 8) }, { d := none, op := .store 1 (.t 4) (.t 22) }, { d := some 5, op := .mov (.t 23) }]) (.ret)) (.skip))) (.seq
 (.seq (.reg 4 false [ { d := some 24, op := .mov (.t 6) }, { d := some 25, op := .len (.t 24) }, { d := some 26, op := .bin .gtr (.t 25) (.c (.int .i64 0)) }]) (.cond (.t 26)
 (.seq (.reg 5 false [ { d := some 27, op := .build [.nils] [] }, { d := none, op := .store 1 (.t 4) (.t 27) }, { d := some 5, op := .mov (.c (.int .i64 23)) }]) (.ret)) (.skip)))
 (.seq (.reg 6 false [ { d := some 9, op := .alloc [.nils] }]) (.seq
 (.seq (.reg 7 false [ { d := some 28, op := .faddr 0 (.t 2) }, { d := some 29, op := .load false 1 (.t 28) }, { d := some 30, op := .faddr 0 (.t 3) }, { d := some 31, op := .load false 1 (.t 30) }, { d := some 32, op := .bsl false 1 2 [.nils, .nils] [(0, .t 29), (1, .t 31)] }, { d := some 33, op := .call 90 [.t 32] }, { d := some 34, op := .len (.t 33) }, { d := some 35, op := .mov (.c (.int .i64 0)) }]) (.block 0 (.loop
 (.seq (.reg 8 false [ { d := some 36, op := .bin .lss (.t 35) (.t 34) }]) (.seq (.cond (.t 36) (.skip) (.exit 0)) (.seq (.block 1
 (.seq (.reg 9 false [ { d := some 37, op := .iaddr 5 (.t 33) (.t 35) }, { d := some 38, op := .load true 5 (.t 37) }, { d := some 11, op := .alloc [.int .i64 0, .int .i64 0, .int .u8 0, .nils, .nils] }, { d := none, op := .store 5 (.t 11) (.t 38) }]) (.reg 10 true [ { d := some 39, op := .faddr 0 (.t 9), aft := [] }, { d := some 40, op := .load false 1 (.t 39), aft := [0] }, { d := some 41, op := .load true 5 (.t 11), aft := [] }, { d := some 42, op := .call 73 [.t 41], aft := [2] }, { d := some 43, op := .bsl false 5 1 [.int .i64 0, .int .i64 0, .int .u8 0, .nils, .nils] [(0, .t 42)], aft := [3] }, { d := some 44, op := .app 5 72 (.t 40) (.t 43), aft := [1, 4, 3] }, { d := some 45, op := .faddr 0 (.t 9), aft := [0, 1, 2, 3, 4, 5] }, { d := none, op := .store 1 (.t 45) (.t 44), aft := [6, 5, 5, 0, 1, 2, 3, 4, 5] }]))) (.reg 11 false [ { d := some 46, op := .bin .add (.t 35) (.c (.int .i64 1)) }, { d := some 35, op := .mov (.t 46) }])))))))
 (.seq (.reg 12 false [ { d := some 47, op := .faddr 0 (.t 9) }, { d := some 48, op := .load false 1 (.t 47) }, { d := some 49, op := .call 91 [.t 48, .c (.func (.func 92) [] [])] }])
 (.seq (.reg 13 false [ { d := some 50, op := .faddr 0 (.t 9) }, { d := some 51, op := .load false 1 (.t 50) }, { d := some 52, op := .call 94 [.t 51, .c (.func (.func 95) [] [])] }, { d := some 53, op := .faddr 0 (.t 9) }, { d := none, op := .store 1 (.t 53) (.t 52) }]) (.seq
 (.seq (.reg 14 false [ { d := some 54, op := .load true 1 (.t 9) }, { d := some 55, op := .call 24 [.t 54] }, { d := some 12, op := .mov (.t 55) }])
 (.seq (.reg 15 false [ { d := some 56, op := .mov (.t 12) }, { d := some 57, op := .bin .neq (.t 56) (.c (.int .i64 0)) }]) (.cond (.t 57)
 (.seq (.reg 16 false [ { d := some 58, op := .build [.nils] [] }, { d := some 59, op := .mov (.t 12) }, { d := none, op := .store 1 (.t 4) (.t 58) }, { d := some 5, op := .mov (.t 59) }]) (.ret)) (.skip))))
 (.seq (.reg 17 false [ { d := some 60, op := .load true 1 (.t 9) }, { d := none, op := .store 1 (.t 4) (.t 60) }, { d := some 5, op := .mov (.c (.int .i64 0)) }]) (.ret))))))))))
def rr_sheet_Merge : List RRes := [.c 4 true 1, .t 5]
theorem pc_sheet_Merge {G : Nat → Option (List AV)} {args : List AV} {v : AV} (hn : args.length ≤ Tryd.f49.ntmps) (h : ∀ R : Run, R.G = G → R.Top → AR Tryd.prog R rc_sheet_Merge (initSt args) (Fin rr_sheet_Merge v)) : PC Tryd.prog G 49 args v :=
  PC_of Tryd.func49 rfl (by kernel_rfl) (rc := rc_sheet_Merge) (by kernel_rfl) (rs := rr_sheet_Merge) (by kernel_rfl) hn (fun R _ hG hr => h R hG hr)

def rc_sheet_clash : RCode :=
  .seq (.reg 0 false [ { d := some 2, op := .box (.t 0) }, { d := some 3, op := .box (.t 1) }, { d := some 4, op := .mov (.c (.nils)) }, { d := some 5, op := .mov (.c (.nilp)) }, { d := some 6, op := .mov (.c (.int .i64 0)) }]) (.seq
 (.seq (.reg 1 false [ { d := some 15, op := .load true 1 (.t 2) }, { d := some 16, op := .call 24 [.t 15] }, { d := some 7, op := .mov (.t 16) }])
 (.seq (.reg 2 false [ { d := some 17, op := .mov (.t 7) }, { d := some 18, op := .bin .neq (.t 17) (.c (.int .i64 0)) }]) (.cond (.t 18)
 (.seq (.reg 3 false [ { d := some 19, op := .mov (.t 7) }, { d := some 4, op := .mov (.c (.nils)) }, { d := some 5, op := .mov (.c (.nilp)) }, { d := some 6, op := .mov (.t 19) }]) (.ret)) (.skip))))
 (.seq (.reg 4 false [ { d := some 21, op := .load true 1 (.t 3) }, { d := some 22, op := .call 67 [.t 21] }, { d := some 20, op := .mov (.t 22) }, { d := some 23, op := .ext 0 (.t 20) }, { d := some 24, op := .ext 1 (.t 20) }, { d := some 8, op := .mov (.t 23) }, { d := some 9, op := .mov (.t 24) }]) (.seq
 (.seq (.reg 5 false [ { d := some 25, op := .mov (.t 9) }, { d := some 26, op := .bin .neq (.t 25) (.c (.int .i64 0)) }]) (.cond (.t 26)
 (.seq (.reg 6 false [ { d := some 27, op := .mov (.t 9) }, { d := some 4, op := .mov (.c (.nils)) }, { d := some 5, op := .mov (.c (.nilp)) }, { d := some 6, op := .mov (.t 27) }]) (.ret)) (.skip)))
 (.seq (.reg 7 false [ { d := some 10, op := .mov (.c (.nils)) }]) (.seq
 (.seq (.reg 8 false [ { d := some 28, op := .faddr 0 (.t 2) }, { d := some 29, op := .load false 1 (.t 28) }, { d := some 30, op := .len (.t 29) }, { d := some 31, op := .mov (.c (.int .i64 0)) }]) (.block 0 (.loop
 (.seq (.reg 9 false [ { d := some 32, op := .bin .lss (.t 31) (.t 30) }]) (.seq (.cond (.t 32) (.skip) (.exit 0)) (.seq (.block 1
 (.seq (.reg 10 false [ { d := some 33, op := .iaddr 5 (.t 29) (.t 31) }, { d := some 34, op := .load true 5 (.t 33) }, { d := some 12, op := .alloc [.int .i64 0, .int .i64 0, .int .u8 0, .nils, .nils] }, { d := none, op := .store 5 (.t 12) (.t 34) }])
 (.seq (.reg 11 false [ { d := some 36, op := .mov (.t 8) }, { d := some 37, op := .load true 5 (.t 12) }, { d := some 38, op := .call 84 [.t 37] }, { d := some 39, op := .call 72 [.t 36, .t 38] }, { d := some 35, op := .mov (.t 39) }, { d := some 40, op := .ext 0 (.t 35) }, { d := some 41, op := .ext 1 (.t 35) }, { d := some 13, op := .alloc [.int .i64 0, .int .i64 0, .int .u8 0, .nils, .nils] }, { d := none, op := .store 5 (.t 13) (.t 40) }, { d := some 14, op := .mov (.t 41) }])
 (.seq (.reg 12 false [ { d := some 42, op := .mov (.t 14) }, { d := some 43, op := .mov (.t 42) }, { d := some 44, op := .load true 5 (.t 12), guard := some (43, true) }, { d := some 45, op := .load true 5 (.t 13), guard := some (43, true) }, { d := some 46, op := .call 114 [.t 44, .t 45], guard := some (43, true) }, { d := some 47, op := .un .not (.t 46), guard := some (43, true) }, { d := some 48, op := .pick (.t 43) (.t 47) (.c (.bool false)) }]) (.cond (.t 48) (.reg 13 false [ { d := some 49, op := .mov (.t 10) }, { d := some 50, op := .load true 5 (.t 12) }, { d := some 51, op := .call 84 [.t 50] }, { d := some 52, op := .bsl false 2 1 [.int .i64 0, .int .i64 0] [(0, .t 51)] }, { d := some 53, op := .app 2 16 (.t 49) (.t 52) }, { d := some 10, op := .mov (.t 53) }]) (.skip)))))) (.reg 14 false [ { d := some 54, op := .bin .add (.t 31) (.c (.int .i64 1)) }, { d := some 31, op := .mov (.t 54) }])))))))
 (.seq (.reg 15 false [ { d := some 55, op := .mov (.t 10) }, { d := some 56, op := .mov (.t 8) }, { d := some 4, op := .mov (.t 55) }, { d := some 5, op := .mov (.t 56) }, { d := some 6, op := .mov (.c (.int .i64 0)) }]) (.ret)))))))
def rr_sheet_clash : List RRes := [.t 4, .t 5, .t 6]
theorem pc_sheet_clash {G : Nat → Option (List AV)} {args : List AV} {v : AV} (hn : args.length ≤ Tryd.f87.ntmps) (h : ∀ R : Run, R.G = G → R.Top → AR Tryd.prog R rc_sheet_clash (initSt args) (Fin rr_sheet_clash v)) : PC Tryd.prog G 87 args v :=
  PC_of Tryd.func87 rfl (by kernel_rfl) (rc := rc_sheet_clash) (by kernel_rfl) (rs := rr_sheet_clash) (by kernel_rfl) hn (fun R _ hG hr => h R hG hr)

def rc_sheet_same : RCode :=
  .seq (.reg 0 false [ { d := some 2, op := .box (.t 0) }, { d := some 3, op := .box (.t 1) }, { d := some 4, op := .mov (.c (.bool false)) }])
 (.seq (.reg 1 true [ { d := some 5, op := .load true 5 (.t 2), aft := [] }, { d := some 6, op := .call 84 [.t 5], aft := [0] }, { d := some 7, op := .load true 5 (.t 3), aft := [] }, { d := some 8, op := .call 84 [.t 7], aft := [2, 1] }, { d := some 9, op := .eqs false [.i, .i] (.t 6) (.t 8), aft := [1, 3] }, { d := some 10, op := .mov (.t 9), aft := [4, 3] }, { d := some 11, op := .faddr 2 (.t 2), guard := some (10, true), aft := [5] }, { d := some 12, op := .load false 1 (.t 11), guard := some (10, true), aft := [6, 5] }, { d := some 13, op := .faddr 2 (.t 3), guard := some (10, true), aft := [5] }, { d := some 14, op := .load false 1 (.t 13), guard := some (10, true), aft := [8, 5] }, { d := some 15, op := .bin .eql (.t 12) (.t 14), guard := some (10, true), aft := [7, 9, 5] }, { d := some 16, op := .pick (.t 10) (.t 15) (.c (.bool false)), aft := [5, 10] }, { d := some 17, op := .mov (.t 16), aft := [11, 5] }, { d := some 18, op := .faddr 3 (.t 2), guard := some (17, true), aft := [12] }, { d := some 19, op := .load false 1 (.t 18), guard := some (17, true), aft := [13, 12] }, { d := some 20, op := .faddr 3 (.t 3), guard := some (17, true), aft := [12] }, { d := some 21, op := .load false 1 (.t 20), guard := some (17, true), aft := [15, 12] }, { d := some 22, op := .mkf (.func 128) [] [.t 2, .t 3], guard := some (17, true), aft := [12] }, { d := some 23, op := .call 127 [.t 19, .t 21, .t 22], guard := some (17, true), aft := [14, 16, 17, 12, 12] }, { d := some 24, op := .pick (.t 17) (.t 23) (.c (.bool false)), aft := [12, 18] }, { d := some 4, op := .mov (.t 24), aft := [19, 18, 0, 1, 2, 3, 4, 5, 6, 7, 8, 9, 10, 11, 12, 13, 14, 15, 16, 17, 18, 19] }]) (.ret))
def rr_sheet_same : List RRes := [.t 4]
theorem pc_sheet_same {G : Nat → Option (List AV)} {args : List AV} {v : AV} (hn : args.length ≤ Tryd.f114.ntmps) (h : ∀ R : Run, R.G = G → R.Top → AR Tryd.prog R rc_sheet_same (initSt args) (Fin rr_sheet_same v)) : PC Tryd.prog G 114 args v :=
  PC_of Tryd.func114 rfl (by kernel_rfl) (rc := rc_sheet_same) (by kernel_rfl) (rs := rr_sheet_same) (by kernel_rfl) hn (fun R _ hG hr => h R hG hr)

def rc_sheet_same_1 : RCode :=
  .seq (.reg 0 false [ { d := some 2, op := .mov (.c (.bool false)) }])
 (.seq (.reg 1 false [ { d := some 3, op := .faddr 4 (.t 0) }, { d := some 4, op := .load false 1 (.t 3) }, { d := some 5, op := .faddr 4 (.t 1) }, { d := some 6, op := .load false 1 (.t 5) }, { d := some 7, op := .call 129 [.t 4, .t 6] }, { d := some 2, op := .mov (.t 7) }]) (.ret))
def rr_sheet_same_1 : List RRes := [.t 2]
theorem pc_sheet_same_1 {G : Nat → Option (List AV)} {args : List AV} {v : AV} (hn : args.length ≤ Tryd.f128.ntmps) (h : ∀ R : Run, R.G = G → R.Top → AR Tryd.prog R rc_sheet_same_1 (initSt args) (Fin rr_sheet_same_1 v)) : PC Tryd.prog G 128 args v :=
  PC_of Tryd.func128 rfl (by kernel_rfl) (rc := rc_sheet_same_1) (by kernel_rfl) (rs := rr_sheet_same_1) (by kernel_rfl) hn (fun R _ hG hr => h R hG hr)

def rc_sheet_alike_api_Item : RCode :=
  .seq (.reg 0 false [ { d := some 6, op := .mov (.c (.bool false)) }])
 (.seq (.reg 1 false [ { d := some 7, op := .mov (.t 0) }, { d := some 8, op := .mov (.t 1) }, { d := some 9, op := .call 137 [.t 7, .t 8] }, { d := some 10, op := .mov (.t 9) }, { d := some 11, op := .mov (.t 2), guard := some (10, true) }, { d := some 12, op := .callv (.t 11) [], guard := some (10, true) }, { d := some 13, op := .pick (.t 10) (.t 12) (.c (.bool false)) }, { d := some 6, op := .mov (.t 13) }]) (.ret))
def rr_sheet_alike_api_Item : List RRes := [.t 6]
theorem pc_sheet_alike_api_Item {G : Nat → Option (List AV)} {args : List AV} {v : AV} (hn : args.length ≤ Tryd.f127.ntmps) (h : ∀ R : Run, R.G = G → R.Top → AR Tryd.prog R rc_sheet_alike_api_Item (initSt args) (Fin rr_sheet_alike_api_Item v)) : PC Tryd.prog G 127 args v :=
  PC_of Tryd.func127 rfl (by kernel_rfl) (rc := rc_sheet_alike_api_Item) (by kernel_rfl) (rs := rr_sheet_alike_api_Item) (by kernel_rfl) hn (fun R _ hG hr => h R hG hr)

def rc_slices_Equal_api_Dim_api_Dim : RCode :=
  .seq (.reg 0 false [ { d := some 4, op := .mov (.c (.bool false)) }]) (.seq
 (.seq (.reg 1 false [ { d := some 6, op := .mov (.t 0) }, { d := some 7, op := .len (.t 6) }, { d := some 8, op := .mov (.t 1) }, { d := some 9, op := .len (.t 8) }, { d := some 10, op := .bin .neq (.t 7) (.t 9) }]) (.cond (.t 10)
 (.seq (.reg 2 false [ { d := some 4, op := .mov (.c (.bool false)) }]) (.ret)) (.skip))) (.seq
 (.seq (.reg 3 false [ { d := some 11, op := .mov (.t 0) }, { d := some 12, op := .len (.t 11) }, { d := some 13, op := .mov (.c (.int .i64 0)) }]) (.block 0 (.loop
 (.seq (.reg 4 false [ { d := some 14, op := .bin .lss (.t 13) (.t 12) }]) (.seq (.cond (.t 14) (.skip) (.exit 0)) (.seq (.block 1
 (.seq (.reg 5 false [ { d := some 15, op := .mov (.t 13) }, { d := some 5, op := .mov (.t 15) }])
 (.seq (.reg 6 true [ { d := some 16, op := .mov (.t 0), aft := [] }, { d := some 17, op := .mov (.t 5), aft := [] }, { d := some 18, op := .iaddr 3 (.t 16) (.t 17), aft := [0, 1] }, { d := some 19, op := .load true 3 (.t 18), aft := [2] }, { d := some 20, op := .mov (.t 1), aft := [] }, { d := some 21, op := .mov (.t 5), aft := [] }, { d := some 22, op := .iaddr 3 (.t 20) (.t 21), aft := [4, 5] }, { d := some 23, op := .load true 3 (.t 22), aft := [6] }, { d := some 24, op := .eqs true [.i, .i, .i] (.t 19) (.t 23), aft := [3, 7] }]) (.cond (.t 24)
 (.seq (.reg 7 false [ { d := some 4, op := .mov (.c (.bool false)) }]) (.ret)) (.skip))))) (.reg 8 false [ { d := some 25, op := .bin .add (.t 13) (.c (.int .i64 1)) }, { d := some 13, op := .mov (.t 25) }])))))))
 (.seq (.reg 9 false [ { d := some 4, op := .mov (.c (.bool true)) }]) (.ret))))
def rr_slices_Equal_api_Dim_api_Dim : List RRes := [.t 4]
theorem pc_slices_Equal_api_Dim_api_Dim {G : Nat → Option (List AV)} {args : List AV} {v : AV} (hn : args.length ≤ Tryd.f129.ntmps) (h : ∀ R : Run, R.G = G → R.Top → AR Tryd.prog R rc_slices_Equal_api_Dim_api_Dim (initSt args) (Fin rr_slices_Equal_api_Dim_api_Dim v)) : PC Tryd.prog G 129 args v :=
  PC_of Tryd.func129 rfl (by kernel_rfl) (rc := rc_slices_Equal_api_Dim_api_Dim) (by kernel_rfl) (rs := rr_slices_Equal_api_Dim_api_Dim) (by kernel_rfl) hn (fun R _ hG hr => h R hG hr)

def rc_slices_Equal_api_Item_api_Item : RCode :=
  .seq (.reg 0 false [ { d := some 4, op := .mov (.c (.bool false)) }]) (.seq
 (.seq (.reg 1 false [ { d := some 6, op := .mov (.t 0) }, { d := some 7, op := .len (.t 6) }, { d := some 8, op := .mov (.t 1) }, { d := some 9, op := .len (.t 8) }, { d := some 10, op := .bin .neq (.t 7) (.t 9) }]) (.cond (.t 10)
 (.seq (.reg 2 false [ { d := some 4, op := .mov (.c (.bool false)) }]) (.ret)) (.skip))) (.seq
 (.seq (.reg 3 false [ { d := some 11, op := .mov (.t 0) }, { d := some 12, op := .len (.t 11) }, { d := some 13, op := .mov (.c (.int .i64 0)) }]) (.block 0 (.loop
 (.seq (.reg 4 false [ { d := some 14, op := .bin .lss (.t 13) (.t 12) }]) (.seq (.cond (.t 14) (.skip) (.exit 0)) (.seq (.block 1
 (.seq (.reg 5 false [ { d := some 15, op := .mov (.t 13) }, { d := some 5, op := .mov (.t 15) }])
 (.seq (.reg 6 true [ { d := some 16, op := .mov (.t 0), aft := [] }, { d := some 17, op := .mov (.t 5), aft := [] }, { d := some 18, op := .iaddr 2 (.t 16) (.t 17), aft := [0, 1] }, { d := some 19, op := .load true 2 (.t 18), aft := [2] }, { d := some 20, op := .mov (.t 1), aft := [] }, { d := some 21, op := .mov (.t 5), aft := [] }, { d := some 22, op := .iaddr 2 (.t 20) (.t 21), aft := [4, 5] }, { d := some 23, op := .load true 2 (.t 22), aft := [6] }, { d := some 24, op := .eqs true [.i, .i] (.t 19) (.t 23), aft := [3, 7] }]) (.cond (.t 24)
 (.seq (.reg 7 false [ { d := some 4, op := .mov (.c (.bool false)) }]) (.ret)) (.skip))))) (.reg 8 false [ { d := some 25, op := .bin .add (.t 13) (.c (.int .i64 1)) }, { d := some 13, op := .mov (.t 25) }])))))))
 (.seq (.reg 9 false [ { d := some 4, op := .mov (.c (.bool true)) }]) (.ret))))
def rr_slices_Equal_api_Item_api_Item : List RRes := [.t 4]
theorem pc_slices_Equal_api_Item_api_Item {G : Nat → Option (List AV)} {args : List AV} {v : AV} (hn : args.length ≤ Tryd.f137.ntmps) (h : ∀ R : Run, R.G = G → R.Top → AR Tryd.prog R rc_slices_Equal_api_Item_api_Item (initSt args) (Fin rr_slices_Equal_api_Item_api_Item v)) : PC Tryd.prog G 137 args v :=
  PC_of Tryd.func137 rfl (by kernel_rfl) (rc := rc_slices_Equal_api_Item_api_Item) (by kernel_rfl) (rs := rr_slices_Equal_api_Item_api_Item) (by kernel_rfl) hn (fun R _ hG hr => h R hG hr)

def rc_law02_register : RCode :=
  .seq (.reg 0 false [ { d := some 0, op := .alloc [.nils] }])
 (.seq (.reg 1 false [ { d := some 1, op := .call 58 [.c (.int .i64 20), .c (.int .i64 2)] }, { d := some 2, op := .call 58 [.c (.int .i64 30), .c (.int .i64 1)] }, { d := some 3, op := .bsl false 2 2 [.int .i64 0, .int .i64 0, .int .i64 0, .int .i64 0] [(0, .t 1), (1, .t 2)] }, { d := some 4, op := .call 99 [.c (.int .i64 10), .c (.int .i64 1), .t 3] }, { d := some 5, op := .call 58 [.c (.int .i64 20), .c (.int .i64 1)] }, { d := some 6, op := .call 58 [.c (.int .i64 30), .c (.int .i64 2)] }, { d := some 7, op := .call 58 [.c (.int .i64 40), .c (.int .i64 2)] }, { d := some 8, op := .bsl false 2 3 [.int .i64 0, .int .i64 0, .int .i64 0, .int .i64 0, .int .i64 0, .int .i64 0] [(0, .t 5), (1, .t 6), (2, .t 7)] }, { d := some 9, op := .call 99 [.c (.int .i64 10), .c (.int .i64 2), .t 8] }, { d := some 10, op := .call 58 [.c (.int .i64 30), .c (.int .i64 3)] }, { d := some 11, op := .call 58 [.c (.int .i64 50), .c (.int .i64 1)] }, { d := some 12, op := .bsl false 2 2 [.int .i64 0, .int .i64 0, .int .i64 0, .int .i64 0] [(0, .t 10), (1, .t 11)] }, { d := some 13, op := .call 99 [.c (.int .i64 20), .c (.int .i64 1), .t 12] }, { d := some 14, op := .build [.int .i64 0, .int .i64 0, .int .i64 0] [(0, 1, .c (.int .i64 150)), (1, 1, .c (.int .i64 100)), (2, 1, .c (.int .i64 200))] }, { d := some 15, op := .bsl false 3 1 [.int .i64 0, .int .i64 0, .int .i64 0] [(0, .t 14)] }, { d := some 16, op := .call 100 [.c (.int .i64 30), .c (.int .i64 1), .c (.int .u8 2), .t 15] }, { d := some 17, op := .build [.int .i64 0, .int .i64 0, .int .i64 0] [(0, 1, .c (.int .i64 150)), (1, 1, .c (.int .i64 120)), (2, 1, .c (.int .i64 200))] }, { d := some 18, op := .bsl false 3 1 [.int .i64 0, .int .i64 0, .int .i64 0] [(0, .t 17)] }, { d := some 19, op := .call 100 [.c (.int .i64 30), .c (.int .i64 2), .c (.int .u8 2), .t 18] }, { d := some 20, op := .call 100 [.c (.int .i64 40), .c (.int .i64 1), .c (.int .u8 2), .c (.nils)] }, { d := some 21, op := .call 100 [.c (.int .i64 50), .c (.int .i64 1), .c (.int .u8 3), .c (.nils)] }, { d := some 22, op := .bsl false 5 7 [.int .i64 0, .int .i64 0, .int .u8 0, .nils, .nils, .int .i64 0, .int .i64 0, .int .u8 0, .nils, .nils, .int .i64 0, .int .i64 0, .int .u8 0, .nils, .nils, .int .i64 0, .int .i64 0, .int .u8 0, .nils, .nils, .int .i64 0, .int .i64 0, .int .u8 0, .nils, .nils, .int .i64 0, .int .i64 0, .int .u8 0, .nils, .nils, .int .i64 0, .int .i64 0, .int .u8 0, .nils, .nils] [(0, .t 4), (1, .t 9), (2, .t 13), (3, .t 16), (4, .t 19), (5, .t 20), (6, .t 21)] }, { d := some 23, op := .build [.nils] [(0, 1, .t 22)] }, { d := none, op := .store 1 (.t 0) (.t 23) }]) (.ret))
def rr_law02_register : List RRes := [.c 0 true 1]
theorem pc_law02_register {G : Nat → Option (List AV)} {args : List AV} {v : AV} (hn : args.length ≤ Tryd.f63.ntmps) (h : ∀ R : Run, R.G = G → R.Top → AR Tryd.prog R rc_law02_register (initSt args) (Fin rr_law02_register v)) : PC Tryd.prog G 63 args v :=
  PC_of Tryd.func63 rfl (by kernel_rfl) (rc := rc_law02_register) (by kernel_rfl) (rs := rr_law02_register) (by kernel_rfl) hn (fun R _ hG hr => h R hG hr)

def rc_law02_first : RCode :=
  .seq (.reg 0 false [ { d := some 0, op := .mov (.c (.nils)) }])
 (.seq (.reg 1 false [ { d := some 1, op := .bsl false 1 5 [.int .i64 0, .int .i64 0, .int .i64 0, .int .i64 0, .int .i64 0] [(0, .c (.int .i64 1)), (1, .c (.int .i64 1)), (2, .c (.int .i64 1)), (3, .c (.int .i64 1)), (4, .c (.int .i64 1))] }, { d := some 0, op := .mov (.t 1) }]) (.ret))
def rr_law02_first : List RRes := [.t 0]
theorem pc_law02_first {G : Nat → Option (List AV)} {args : List AV} {v : AV} (hn : args.length ≤ Tryd.f65.ntmps) (h : ∀ R : Run, R.G = G → R.Top → AR Tryd.prog R rc_law02_first (initSt args) (Fin rr_law02_first v)) : PC Tryd.prog G 65 args v :=
  PC_of Tryd.func65 rfl (by kernel_rfl) (rc := rc_law02_first) (by kernel_rfl) (rs := rr_law02_first) (by kernel_rfl) hn (fun R _ hG hr => h R hG hr)

def rc_law02_second : RCode :=
  .seq (.reg 0 false [ { d := some 0, op := .mov (.c (.nils)) }])
 (.seq (.reg 1 false [ { d := some 1, op := .bsl false 1 5 [.int .i64 0, .int .i64 0, .int .i64 0, .int .i64 0, .int .i64 0] [(0, .c (.int .i64 2)), (1, .c (.int .i64 1)), (2, .c (.int .i64 1)), (3, .c (.int .i64 1)), (4, .c (.int .i64 1))] }, { d := some 0, op := .mov (.t 1) }]) (.ret))
def rr_law02_second : List RRes := [.t 0]
theorem pc_law02_second {G : Nat → Option (List AV)} {args : List AV} {v : AV} (hn : args.length ≤ Tryd.f64.ntmps) (h : ∀ R : Run, R.G = G → R.Top → AR Tryd.prog R rc_law02_second (initSt args) (Fin rr_law02_second v)) : PC Tryd.prog G 64 args v :=
  PC_of Tryd.func64 rfl (by kernel_rfl) (rc := rc_law02_second) (by kernel_rfl) (rs := rr_law02_second) (by kernel_rfl) hn (fun R _ hG hr => h R hG hr)

def rc_law02_assembly : RCode :=
  .seq (.reg 0 false [ { d := some 6, op := .alloc [.int .i64 0, .int .i64 0, .int .u8 0, .nils, .nils] }])
 (.seq (.reg 1 false [ { d := some 7, op := .mov (.t 0) }, { d := some 8, op := .mov (.t 1) }, { d := some 9, op := .mov (.t 2) }, { d := some 10, op := .build [.int .i64 0, .int .i64 0, .int .u8 0, .nils, .nils] [(0, 1, .t 7), (1, 1, .t 8), (2, 1, .c (.int .u8 1)), (3, 1, .t 9)] }, { d := none, op := .store 5 (.t 6) (.t 10) }]) (.ret))
def rr_law02_assembly : List RRes := [.c 6 true 5]
theorem pc_law02_assembly {G : Nat → Option (List AV)} {args : List AV} {v : AV} (hn : args.length ≤ Tryd.f99.ntmps) (h : ∀ R : Run, R.G = G → R.Top → AR Tryd.prog R rc_law02_assembly (initSt args) (Fin rr_law02_assembly v)) : PC Tryd.prog G 99 args v :=
  PC_of Tryd.func99 rfl (by kernel_rfl) (rc := rc_law02_assembly) (by kernel_rfl) (rs := rr_law02_assembly) (by kernel_rfl) hn (fun R _ hG hr => h R hG hr)

def rc_law02_part : RCode :=
  .seq (.reg 0 false [ { d := some 8, op := .alloc [.int .i64 0, .int .i64 0, .int .u8 0, .nils, .nils] }])
 (.seq (.reg 1 false [ { d := some 9, op := .mov (.t 0) }, { d := some 10, op := .mov (.t 1) }, { d := some 11, op := .mov (.t 2) }, { d := some 12, op := .mov (.t 3) }, { d := some 13, op := .build [.int .i64 0, .int .i64 0, .int .u8 0, .nils, .nils] [(0, 1, .t 9), (1, 1, .t 10), (2, 1, .t 11), (4, 1, .t 12)] }, { d := none, op := .store 5 (.t 8) (.t 13) }]) (.ret))
def rr_law02_part : List RRes := [.c 8 true 5]
theorem pc_law02_part {G : Nat → Option (List AV)} {args : List AV} {v : AV} (hn : args.length ≤ Tryd.f100.ntmps) (h : ∀ R : Run, R.G = G → R.Top → AR Tryd.prog R rc_law02_part (initSt args) (Fin rr_law02_part v)) : PC Tryd.prog G 100 args v :=
  PC_of Tryd.func100 rfl (by kernel_rfl) (rc := rc_law02_part) (by kernel_rfl) (rs := rr_law02_part) (by kernel_rfl) hn (fun R _ hG hr => h R hG hr)

def rc_law02_item : RCode :=
  .seq (.reg 0 false [ { d := some 4, op := .alloc [.int .i64 0, .int .i64 0] }])
 (.seq (.reg 1 false [ { d := some 5, op := .mov (.t 0) }, { d := some 6, op := .mov (.t 1) }, { d := some 7, op := .build [.int .i64 0, .int .i64 0] [(0, 1, .t 5), (1, 1, .t 6)] }, { d := none, op := .store 2 (.t 4) (.t 7) }]) (.ret))
def rr_law02_item : List RRes := [.c 4 true 2]
theorem pc_law02_item {G : Nat → Option (List AV)} {args : List AV} {v : AV} (hn : args.length ≤ Tryd.f58.ntmps) (h : ∀ R : Run, R.G = G → R.Top → AR Tryd.prog R rc_law02_item (initSt args) (Fin rr_law02_item v)) : PC Tryd.prog G 58 args v :=
  PC_of Tryd.func58 rfl (by kernel_rfl) (rc := rc_law02_item) (by kernel_rfl) (rs := rr_law02_item) (by kernel_rfl) hn (fun R _ hG hr => h R hG hr)

def rc_law02_alive : RCode :=
  .seq (.reg 0 false [ { d := some 0, op := .mov (.c (.bool false)) }])
 (.seq (.reg 1 false [ { d := some 24, op := .call 63 [] }, { d := some 25, op := .call 20 [.t 24] }, { d := some 23, op := .mov (.t 25) }, { d := some 26, op := .ext 0 (.t 23) }, { d := some 27, op := .ext 1 (.t 23) }, { d := some 1, op := .mov (.t 26) }, { d := some 2, op := .mov (.t 27) }])
 (.seq (.reg 2 false [ { d := some 29, op := .call 63 [] }, { d := some 30, op := .call 65 [] }, { d := some 31, op := .call 33 [.t 29, .t 30, .c (.int .i64 10)] }, { d := some 28, op := .mov (.t 31) }, { d := some 32, op := .ext 0 (.t 28) }, { d := some 33, op := .ext 1 (.t 28) }, { d := some 3, op := .mov (.t 32) }, { d := some 4, op := .mov (.t 33) }])
 (.seq (.reg 3 false [ { d := some 35, op := .call 63 [] }, { d := some 36, op := .bsl false 1 5 [.int .i64 0, .int .i64 0, .int .i64 0, .int .i64 0, .int .i64 0] [(0, .c (.int .i64 1)), (1, .c (.int .i64 1)), (2, .c (.int .i64 2)), (3, .c (.int .i64 1)), (4, .c (.int .i64 1))] }, { d := some 37, op := .call 35 [.t 35, .t 36, .c (.int .i64 10)] }, { d := some 34, op := .mov (.t 37) }, { d := some 38, op := .ext 0 (.t 34) }, { d := some 39, op := .ext 1 (.t 34) }, { d := some 5, op := .mov (.t 38) }, { d := some 6, op := .mov (.t 39) }])
 (.seq (.reg 4 false [ { d := some 41, op := .call 63 [] }, { d := some 42, op := .call 39 [.t 41, .c (.int .i64 30)] }, { d := some 40, op := .mov (.t 42) }, { d := some 43, op := .ext 0 (.t 40) }, { d := some 44, op := .ext 1 (.t 40) }, { d := some 7, op := .mov (.t 43) }, { d := some 8, op := .mov (.t 44) }])
 (.seq (.reg 5 false [ { d := some 46, op := .call 63 [] }, { d := some 47, op := .call 64 [] }, { d := some 48, op := .call 41 [.t 46, .t 47, .c (.int .i64 40)] }, { d := some 45, op := .mov (.t 48) }, { d := some 49, op := .ext 0 (.t 45) }, { d := some 50, op := .ext 1 (.t 45) }, { d := some 9, op := .mov (.t 49) }, { d := some 10, op := .mov (.t 50) }])
 (.seq (.reg 6 false [ { d := some 52, op := .call 63 [] }, { d := some 53, op := .call 44 [.t 52, .c (.int .i64 10), .c (.int .i64 1), .c (.int .i64 2)] }, { d := some 51, op := .mov (.t 53) }, { d := some 54, op := .ext 0 (.t 51) }, { d := some 55, op := .ext 1 (.t 51) }, { d := some 56, op := .ext 2 (.t 51) }, { d := some 11, op := .mov (.t 54) }, { d := some 12, op := .mov (.t 55) }, { d := some 13, op := .mov (.t 56) }])
 (.seq (.reg 7 false [ { d := some 58, op := .call 63 [] }, { d := some 59, op := .call 29 [.t 58, .c (.int .i64 10)] }, { d := some 57, op := .mov (.t 59) }, { d := some 60, op := .ext 0 (.t 57) }, { d := some 61, op := .ext 1 (.t 57) }, { d := some 14, op := .mov (.t 60) }, { d := some 15, op := .mov (.t 61) }])
 (.seq (.reg 8 false [ { d := some 63, op := .call 63 [] }, { d := some 64, op := .call 22 [.t 63, .c (.int .i64 30)] }, { d := some 62, op := .mov (.t 64) }, { d := some 65, op := .ext 0 (.t 62) }, { d := some 66, op := .ext 1 (.t 62) }, { d := some 16, op := .mov (.t 65) }, { d := some 17, op := .mov (.t 66) }])
 (.seq (.reg 9 false [ { d := some 68, op := .call 63 [] }, { d := some 69, op := .build [.int .i64 0, .int .i64 0] [(0, 1, .c (.int .i64 30)), (1, 1, .c (.int .i64 2))] }, { d := some 70, op := .call 27 [.t 68, .t 69] }, { d := some 67, op := .mov (.t 70) }, { d := some 71, op := .ext 0 (.t 67) }, { d := some 72, op := .ext 1 (.t 67) }, { d := some 18, op := .alloc [.int .i64 0, .int .i64 0, .int .u8 0, .nils, .nils] }, { d := none, op := .store 5 (.t 18) (.t 71) }, { d := some 19, op := .mov (.t 72) }])
 (.seq (.reg 10 false [ { d := some 74, op := .call 63 [] }, { d := some 75, op := .call 63 [] }, { d := some 76, op := .call 49 [.t 74, .t 75] }, { d := some 73, op := .mov (.t 76) }, { d := some 77, op := .ext 0 (.t 73) }, { d := some 78, op := .ext 1 (.t 73) }, { d := some 20, op := .alloc [.nils] }, { d := none, op := .store 1 (.t 20) (.t 77) }, { d := some 21, op := .mov (.t 78) }])
 (.seq (.reg 11 false [ { d := some 79, op := .build [.int .i64 0, .int .i64 0, .int .i64 0, .int .i64 0] [(0, 1, .c (.int .i64 0)), (1, 1, .c (.int .i64 10)), (2, 1, .c (.int .i64 1)), (3, 1, .c (.int .i64 1))] }, { d := some 80, op := .build [.int .i64 0, .int .i64 0, .int .i64 0, .int .i64 0] [(0, 1, .c (.int .i64 1)), (1, 1, .c (.int .i64 20)), (2, 1, .c (.int .i64 1)), (3, 1, .c (.int .i64 2))] }, { d := some 81, op := .build [.int .i64 0, .int .i64 0, .int .i64 0, .int .i64 0] [(0, 1, .c (.int .i64 2)), (1, 1, .c (.int .i64 30)), (2, 1, .c (.int .i64 2)), (3, 1, .c (.int .i64 3))] }, { d := some 82, op := .build [.int .i64 0, .int .i64 0, .int .i64 0, .int .i64 0] [(0, 1, .c (.int .i64 2)), (1, 1, .c (.int .i64 50)), (2, 1, .c (.int .i64 1)), (3, 1, .c (.int .i64 1))] }, { d := some 83, op := .build [.int .i64 0, .int .i64 0, .int .i64 0, .int .i64 0] [(0, 1, .c (.int .i64 1)), (1, 1, .c (.int .i64 30)), (2, 1, .c (.int .i64 2)), (3, 1, .c (.int .i64 1))] }, { d := some 84, op := .bsl false 4 5 [.int .i64 0, .int .i64 0, .int .i64 0, .int .i64 0, .int .i64 0, .int .i64 0, .int .i64 0, .int .i64 0, .int .i64 0, .int .i64 0, .int .i64 0, .int .i64 0, .int .i64 0, .int .i64 0, .int .i64 0, .int .i64 0, .int .i64 0, .int .i64 0, .int .i64 0, .int .i64 0] [(0, .t 79), (1, .t 80), (2, .t 81), (3, .t 82), (4, .t 83)] }, { d := some 22, op := .mov (.t 84) }]) (.seq
 (.seq (.reg 12 false [ { d := some 85, op := .mov (.t 2) }, { d := some 86, op := .bin .neq (.t 85) (.c (.int .i64 0)) }, { d := some 87, op := .mov (.t 86) }, { d := some 88, op := .mov (.t 1), guard := some (87, false) }, { d := some 89, op := .bsl false 1 5 [.int .i64 0, .int .i64 0, .int .i64 0, .int .i64 0, .int .i64 0] [(0, .c (.int .i64 10)), (1, .c (.int .i64 20)), (2, .c (.int .i64 30)), (3, .c (.int .i64 40)), (4, .c (.int .i64 50))], guard := some (87, false) }, { d := some 90, op := .call 26 [.t 88, .t 89], guard := some (87, false) }, { d := some 91, op := .un .not (.t 90), guard := some (87, false) }, { d := some 92, op := .pick (.t 87) (.c (.bool true)) (.t 91) }, { d := some 93, op := .mov (.t 92) }, { d := some 94, op := .mov (.t 4), guard := some (93, false) }, { d := some 95, op := .bin .neq (.t 94) (.c (.int .i64 0)), guard := some (93, false) }, { d := some 96, op := .pick (.t 93) (.c (.bool true)) (.t 95) }, { d := some 97, op := .mov (.t 96) }, { d := some 98, op := .mov (.t 3), guard := some (97, false) }, { d := some 99, op := .call 58 [.c (.int .i64 30), .c (.int .i64 7)], guard := some (97, false) }, { d := some 100, op := .call 58 [.c (.int .i64 50), .c (.int .i64 2)], guard := some (97, false) }, { d := some 101, op := .bsl false 2 2 [.int .i64 0, .int .i64 0, .int .i64 0, .int .i64 0] [(0, .t 99), (1, .t 100)], guard := some (97, false) }, { d := some 102, op := .call 37 [.t 98, .t 101], guard := some (97, false) }, { d := some 103, op := .un .not (.t 102), guard := some (97, false) }, { d := some 104, op := .pick (.t 97) (.c (.bool true)) (.t 103) }, { d := some 105, op := .mov (.t 104) }, { d := some 106, op := .mov (.t 6), guard := some (105, false) }, { d := some 107, op := .bin .neq (.t 106) (.c (.int .i64 0)), guard := some (105, false) }, { d := some 108, op := .pick (.t 105) (.c (.bool true)) (.t 107) }, { d := some 109, op := .mov (.t 108) }, { d := some 110, op := .mov (.t 5), guard := some (109, false) }, { d := some 111, op := .mov (.t 22), guard := some (109, false) }, { d := some 112, op := .call 38 [.t 110, .t 111], guard := some (109, false) }, { d := some 113, op := .un .not (.t 112), guard := some (109, false) }, { d := some 114, op := .pick (.t 109) (.c (.bool true)) (.t 113) }, { d := some 115, op := .mov (.t 114) }, { d := some 116, op := .mov (.t 8), guard := some (115, false) }, { d := some 117, op := .bin .neq (.t 116) (.c (.int .i64 0)), guard := some (115, false) }, { d := some 118, op := .pick (.t 115) (.c (.bool true)) (.t 117) }, { d := some 119, op := .mov (.t 118) }, { d := some 120, op := .mov (.t 7), guard := some (119, false) }, { d := some 121, op := .build [.int .i64 0, .int .i64 0] [(0, 1, .c (.int .i64 10)), (1, 1, .c (.int .i64 1))], guard := some (119, false) }, { d := some 122, op := .build [.int .i64 0, .int .i64 0] [(0, 1, .c (.int .i64 10)), (1, 1, .c (.int .i64 2))], guard := some (119, false) }, { d := some 123, op := .build [.int .i64 0, .int .i64 0] [(0, 1, .c (.int .i64 20)), (1, 1, .c (.int .i64 1))], guard := some (119, false) }, { d := some 124, op := .bsl false 2 3 [.int .i64 0, .int .i64 0, .int .i64 0, .int .i64 0, .int .i64 0, .int .i64 0] [(0, .t 121), (1, .t 122), (2, .t 123)], guard := some (119, false) }, { d := some 125, op := .call 43 [.t 120, .t 124], guard := some (119, false) }, { d := some 126, op := .un .not (.t 125), guard := some (119, false) }, { d := some 127, op := .pick (.t 119) (.c (.bool true)) (.t 126) }]) (.cond (.t 127)
 (.seq (.reg 13 false [ { d := some 0, op := .mov (.c (.bool false)) }]) (.ret)) (.skip)))
 (.seq (.reg 14 true [ { d := some 128, op := .mov (.t 10), aft := [] }, { d := some 129, op := .bin .eql (.t 128) (.c (.int .i64 0)), aft := [0] }, { d := some 130, op := .mov (.t 129), aft := [1] }, { d := some 131, op := .mov (.t 9), guard := some (130, true), aft := [2] }, { d := some 132, op := .bsl false 1 1 [.int .i64 0] [(0, .c (.int .i64 10))], guard := some (130, true), aft := [2] }, { d := some 133, op := .call 26 [.t 131, .t 132], guard := some (130, true), aft := [3, 4, 2, 2] }, { d := some 134, op := .pick (.t 130) (.t 133) (.c (.bool false)), aft := [2, 5] }, { d := some 135, op := .mov (.t 134), aft := [6, 5] }, { d := some 136, op := .mov (.t 13), guard := some (135, true), aft := [7] }, { d := some 137, op := .bin .eql (.t 136) (.c (.int .i64 0)), guard := some (135, true), aft := [8, 7] }, { d := some 138, op := .pick (.t 135) (.t 137) (.c (.bool false)), aft := [7, 9] }, { d := some 139, op := .mov (.t 138), aft := [10, 7] }, { d := some 140, op := .mov (.t 11), guard := some (139, true), aft := [11] }, { d := some 141, op := .build [.int .i64 0, .int .i64 0, .int .i64 0] [(0, 1, .c (.int .i64 20)), (1, 1, .c (.int .i64 2)), (2, 1, .c (.int .i64 1))], guard := some (139, true), aft := [11] }, { d := some 142, op := .build [.int .i64 0, .int .i64 0, .int .i64 0] [(0, 1, .c (.int .i64 30)), (1, 1, .c (.int .i64 1)), (2, 1, .c (.int .i64 2))], guard := some (139, true), aft := [11] }, { d := some 143, op := .build [.int .i64 0, .int .i64 0, .int .i64 0] [(0, 1, .c (.int .i64 40)), (2, 1, .c (.int .i64 2))], guard := some (139, true), aft := [11] }, { d := some 144, op := .bsl false 3 3 [.int .i64 0, .int .i64 0, .int .i64 0, .int .i64 0, .int .i64 0, .int .i64 0, .int .i64 0, .int .i64 0, .int .i64 0] [(0, .t 141), (1, .t 142), (2, .t 143)], guard := some (139, true), aft := [13, 14, 15, 11] }, { d := some 145, op := .call 46 [.t 140, .t 144], guard := some (139, true), aft := [12, 16, 11, 11] }, { d := some 146, op := .pick (.t 139) (.t 145) (.c (.bool false)), aft := [11, 17] }, { d := some 147, op := .mov (.t 146), aft := [18, 17] }, { d := some 148, op := .mov (.t 12), guard := some (147, true), aft := [19] }, { d := some 149, op := .len (.t 148), guard := some (147, true), aft := [20, 19] }, { d := some 150, op := .bin .eql (.t 149) (.c (.int .i64 0)), guard := some (147, true), aft := [21, 19] }, { d := some 151, op := .pick (.t 147) (.t 150) (.c (.bool false)), aft := [19, 22] }, { d := some 152, op := .mov (.t 151), aft := [23, 19] }, { d := some 153, op := .mov (.t 15), guard := some (152, true), aft := [24] }, { d := some 154, op := .bin .eql (.t 153) (.c (.int .i64 0)), guard := some (152, true), aft := [25, 24] }, { d := some 155, op := .pick (.t 152) (.t 154) (.c (.bool false)), aft := [24, 26] }, { d := some 156, op := .mov (.t 155), aft := [27, 24] }, { d := some 157, op := .mov (.t 14), guard := some (156, true), aft := [28] }, { d := some 158, op := .bin .eql (.t 157) (.c (.int .i64 3)), guard := some (156, true), aft := [29, 28] }, { d := some 159, op := .pick (.t 156) (.t 158) (.c (.bool false)), aft := [28, 30] }, { d := some 160, op := .mov (.t 159), aft := [31, 28] }, { d := some 161, op := .mov (.t 17), guard := some (160, true), aft := [32] }, { d := some 162, op := .bin .eql (.t 161) (.c (.int .i64 0)), guard := some (160, true), aft := [33, 32] }, { d := some 163, op := .pick (.t 160) (.t 162) (.c (.bool false)), aft := [32, 34] }, { d := some 164, op := .mov (.t 163), aft := [35, 32] }, { d := some 165, op := .mov (.t 16), guard := some (164, true), aft := [36] }, { d := some 166, op := .bin .eql (.t 165) (.c (.int .i64 2)), guard := some (164, true), aft := [37, 36] }, { d := some 167, op := .pick (.t 164) (.t 166) (.c (.bool false)), aft := [36, 38] }, { d := some 168, op := .mov (.t 167), aft := [39, 36] }, { d := some 169, op := .mov (.t 19), guard := some (168, true), aft := [40] }, { d := some 170, op := .bin .eql (.t 169) (.c (.int .i64 0)), guard := some (168, true), aft := [41, 40] }, { d := some 171, op := .pick (.t 168) (.t 170) (.c (.bool false)), aft := [40, 42] }, { d := some 172, op := .mov (.t 171), aft := [43, 40] }, { d := some 173, op := .load true 5 (.t 18), guard := some (172, true), aft := [44] }, { d := some 174, op := .call 63 [], guard := some (172, true), aft := [44, 44] }, { d := some 175, op := .field false 0 1 (.t 174), guard := some (172, true), aft := [46, 44] }, { d := some 176, op := .iaddr 5 (.t 175) (.c (.int .i64 4)), guard := some (172, true), aft := [47, 44] }, { d := some 177, op := .load true 5 (.t 176), guard := some (172, true), aft := [48, 44] }, { d := some 178, op := .call 31 [.t 173, .t 177], guard := some (172, true), aft := [45, 49, 46, 44] }, { d := some 179, op := .pick (.t 172) (.t 178) (.c (.bool false)), aft := [44, 50] }, { d := some 180, op := .mov (.t 179), aft := [51, 50] }, { d := some 181, op := .mov (.t 21), guard := some (180, true), aft := [52] }, { d := some 182, op := .bin .eql (.t 181) (.c (.int .i64 0)), guard := some (180, true), aft := [53, 52] }, { d := some 183, op := .pick (.t 180) (.t 182) (.c (.bool false)), aft := [52, 54] }, { d := some 184, op := .mov (.t 183), aft := [55, 52] }, { d := some 185, op := .load true 1 (.t 20), guard := some (184, true), aft := [56] }, { d := some 186, op := .call 63 [], guard := some (184, true), aft := [56, 56] }, { d := some 187, op := .call 32 [.t 185, .t 186], guard := some (184, true), aft := [57, 58, 58, 56] }, { d := some 188, op := .pick (.t 184) (.t 187) (.c (.bool false)), aft := [56, 59] }, { d := some 0, op := .mov (.t 188), aft := [60, 59, 0, 1, 2, 3, 4, 5, 6, 7, 8, 9, 10, 11, 12, 13, 14, 15, 16, 17, 18, 19, 20, 21, 22, 23, 24, 25, 26, 27, 28, 29, 30, 31, 32, 33, 34, 35, 36, 37, 38, 39, 40, 41, 42, 43, 44, 45, 46, 47, 48, 49, 50, 51, 52, 53, 54, 55, 56, 57, 58, 59, 60] }]) (.ret))))))))))))))
def rr_law02_alive : List RRes := [.t 0]
theorem pc_law02_alive {G : Nat → Option (List AV)} {args : List AV} {v : AV} (hn : args.length ≤ Tryd.f51.ntmps) (h : ∀ R : Run, R.G = G → R.Top → AR Tryd.prog R rc_law02_alive (initSt args) (Fin rr_law02_alive v)) : PC Tryd.prog G 51 args v :=
  PC_of Tryd.func51 rfl (by kernel_rfl) (rc := rc_law02_alive) (by kernel_rfl) (rs := rr_law02_alive) (by kernel_rfl) hn (fun R _ hG hr => h R hG hr)

end Go.Proofs.YtdpmioiamcgfkaaDoor

/-! The abstract machine's code of functions of the program, as a program of ours printed it; that it is theirs is proved beside each. -/
namespace Go.Proofs.YtdpmioiamcgfkaaDoor
open Go.RowKit

def rc_ref02_SameRefs : RCode :=
  .seq (.reg 0 false [ { d := some 4, op := .mov (.c (.bool false)) }]) (.seq
 (.seq (.reg 1 false [ { d := some 6, op := .mov (.t 0) }, { d := some 7, op := .len (.t 6) }, { d := some 8, op := .mov (.t 1) }, { d := some 9, op := .len (.t 8) }, { d := some 10, op := .bin .neq (.t 7) (.t 9) }]) (.cond (.t 10)
 (.seq (.reg 2 false [ { d := some 4, op := .mov (.c (.bool false)) }]) (.ret)) (.skip))) (.seq
 (.seq (.reg 3 false [ { d := some 5, op := .mov (.c (.int .i64 0)) }]) (.block 0 (.loop (.seq
 (.seq (.reg 4 false [ { d := some 11, op := .mov (.t 5) }, { d := some 12, op := .mov (.t 0) }, { d := some 13, op := .len (.t 12) }, { d := some 14, op := .bin .lss (.t 11) (.t 13) }]) (.cond (.t 14) (.skip) (.exit 0))) (.seq (.block 1
 (.seq (.reg 6 true [ { d := some 17, op := .mov (.t 0), aft := [] }, { d := some 18, op := .mov (.t 5), aft := [] }, { d := some 19, op := .iaddr 2 (.t 17) (.t 18), aft := [0, 1] }, { d := some 20, op := .load true 2 (.t 19), aft := [2] }, { d := some 21, op := .mov (.t 1), aft := [] }, { d := some 22, op := .mov (.t 5), aft := [] }, { d := some 23, op := .iaddr 2 (.t 21) (.t 22), aft := [4, 5] }, { d := some 24, op := .load true 2 (.t 23), aft := [6] }, { d := some 25, op := .eqs true [.i, .i] (.t 20) (.t 24), aft := [3, 7] }]) (.cond (.t 25)
 (.seq (.reg 7 false [ { d := some 4, op := .mov (.c (.bool false)) }]) (.ret)) (.skip)))) (.reg 5 false [ { d := some 15, op := .mov (.t 5) }, { d := some 16, op := .bin .add (.t 15) (.c (.int .i64 1)) }, { d := some 5, op := .mov (.t 16) }]))))))
 (.seq (.reg 8 false [ { d := some 4, op := .mov (.c (.bool true)) }]) (.ret))))
def rr_ref02_SameRefs : List RRes := [.t 4]
theorem pc_ref02_SameRefs {G : Nat → Option (List AV)} {args : List AV} {v : AV} (hn : args.length ≤ Tryd.f43.ntmps) (h : ∀ R : Run, R.G = G → R.Top → AR Tryd.prog R rc_ref02_SameRefs (initSt args) (Fin rr_ref02_SameRefs v)) : PC Tryd.prog G 43 args v :=
  PC_of Tryd.func43 rfl (by kernel_rfl) (rc := rc_ref02_SameRefs) (by kernel_rfl) (rs := rr_ref02_SameRefs) (by kernel_rfl) hn (fun R _ hG hr => h R hG hr)

def rc_ref02_SameChanges : RCode :=
  .seq (.reg 0 false [ { d := some 4, op := .mov (.c (.bool false)) }]) (.seq
 (.seq (.reg 1 false [ { d := some 6, op := .mov (.t 0) }, { d := some 7, op := .len (.t 6) }, { d := some 8, op := .mov (.t 1) }, { d := some 9, op := .len (.t 8) }, { d := some 10, op := .bin .neq (.t 7) (.t 9) }]) (.cond (.t 10)
 (.seq (.reg 2 false [ { d := some 4, op := .mov (.c (.bool false)) }]) (.ret)) (.skip))) (.seq
 (.seq (.reg 3 false [ { d := some 5, op := .mov (.c (.int .i64 0)) }]) (.block 0 (.loop (.seq
 (.seq (.reg 4 false [ { d := some 11, op := .mov (.t 5) }, { d := some 12, op := .mov (.t 0) }, { d := some 13, op := .len (.t 12) }, { d := some 14, op := .bin .lss (.t 11) (.t 13) }]) (.cond (.t 14) (.skip) (.exit 0))) (.seq (.block 1
 (.seq (.reg 6 true [ { d := some 17, op := .mov (.t 0), aft := [] }, { d := some 18, op := .mov (.t 5), aft := [] }, { d := some 19, op := .iaddr 3 (.t 17) (.t 18), aft := [0, 1] }, { d := some 20, op := .load true 3 (.t 19), aft := [2] }, { d := some 21, op := .mov (.t 1), aft := [] }, { d := some 22, op := .mov (.t 5), aft := [] }, { d := some 23, op := .iaddr 3 (.t 21) (.t 22), aft := [4, 5] }, { d := some 24, op := .load true 3 (.t 23), aft := [6] }, { d := some 25, op := .eqs true [.i, .i, .i] (.t 20) (.t 24), aft := [3, 7] }]) (.cond (.t 25)
 (.seq (.reg 7 false [ { d := some 4, op := .mov (.c (.bool false)) }]) (.ret)) (.skip)))) (.reg 5 false [ { d := some 15, op := .mov (.t 5) }, { d := some 16, op := .bin .add (.t 15) (.c (.int .i64 1)) }, { d := some 5, op := .mov (.t 16) }]))))))
 (.seq (.reg 8 false [ { d := some 4, op := .mov (.c (.bool true)) }]) (.ret))))
def rr_ref02_SameChanges : List RRes := [.t 4]
theorem pc_ref02_SameChanges {G : Nat → Option (List AV)} {args : List AV} {v : AV} (hn : args.length ≤ Tryd.f46.ntmps) (h : ∀ R : Run, R.G = G → R.Top → AR Tryd.prog R rc_ref02_SameChanges (initSt args) (Fin rr_ref02_SameChanges v)) : PC Tryd.prog G 46 args v :=
  PC_of Tryd.func46 rfl (by kernel_rfl) (rc := rc_ref02_SameChanges) (by kernel_rfl) (rs := rr_ref02_SameChanges) (by kernel_rfl) hn (fun R _ hG hr => h R hG hr)

def rc_sheet_needs : RCode :=
  .seq (.reg 0 false [ { d := some 2, op := .box (.t 0) }, { d := some 3, op := .box (.t 1) }, { d := some 4, op := .mov (.c (.bool false)) }])
 (.seq (.reg 1 false [ { d := some 5, op := .faddr 3 (.t 2) }, { d := some 6, op := .load false 1 (.t 5) }, { d := some 7, op := .mkf (.func 113) [] [.t 3] }, { d := some 8, op := .call 102 [.t 6, .t 7] }, { d := some 4, op := .mov (.t 8) }]) (.ret))
def rr_sheet_needs : List RRes := [.t 4]
theorem pc_sheet_needs {G : Nat → Option (List AV)} {args : List AV} {v : AV} (hn : args.length ≤ Tryd.f83.ntmps) (h : ∀ R : Run, R.G = G → R.Top → AR Tryd.prog R rc_sheet_needs (initSt args) (Fin rr_sheet_needs v)) : PC Tryd.prog G 83 args v :=
  PC_of Tryd.func83 rfl (by kernel_rfl) (rc := rc_sheet_needs) (by kernel_rfl) (rs := rr_sheet_needs) (by kernel_rfl) hn (fun R _ hG hr => h R hG hr)

def rc_sheet_needs_1 : RCode :=
  .seq (.reg 0 false [ { d := some 2, op := .box (.t 0) }, { d := some 3, op := .mov (.c (.bool false)) }])
 (.seq (.reg 1 false [ { d := some 4, op := .faddr 0 (.t 2) }, { d := some 5, op := .load false 1 (.t 4) }, { d := some 6, op := .load false 1 (.t 1) }, { d := some 7, op := .bin .eql (.t 5) (.t 6) }, { d := some 3, op := .mov (.t 7) }]) (.ret))
def rr_sheet_needs_1 : List RRes := [.t 3]
theorem pc_sheet_needs_1 {G : Nat → Option (List AV)} {args : List AV} {v : AV} (hn : args.length ≤ Tryd.f113.ntmps) (h : ∀ R : Run, R.G = G → R.Top → AR Tryd.prog R rc_sheet_needs_1 (initSt args) (Fin rr_sheet_needs_1 v)) : PC Tryd.prog G 113 args v :=
  PC_of Tryd.func113 rfl (by kernel_rfl) (rc := rc_sheet_needs_1) (by kernel_rfl) (rs := rr_sheet_needs_1) (by kernel_rfl) hn (fun R _ hG hr => h R hG hr)

def rc_sheet_Uses : RCode :=
  .seq (.reg 0 false [ { d := some 2, op := .box (.t 0) }, { d := some 4, op := .mov (.c (.nils)) }, { d := some 5, op := .mov (.c (.int .i64 0)) }])
 (.seq (.reg 1 false [ { d := some 12, op := .load true 1 (.t 2) }, { d := some 13, op := .mov (.t 1) }, { d := some 14, op := .call 68 [.t 12, .t 13] }, { d := some 11, op := .mov (.t 14) }, { d := some 15, op := .ext 0 (.t 11) }, { d := some 16, op := .ext 1 (.t 11) }, { d := some 6, op := .mov (.t 15) }, { d := some 7, op := .mov (.t 16) }]) (.seq
 (.seq (.reg 2 false [ { d := some 17, op := .mov (.t 7) }, { d := some 18, op := .bin .neq (.t 17) (.c (.int .i64 0)) }]) (.cond (.t 18)
 (.seq (.reg 3 false [ { d := some 19, op := .mov (.t 7) }, { d := some 4, op := .mov (.c (.nils)) }, { d := some 5, op := .mov (.t 19) }]) (.ret)) (.skip)))
 (.seq (.reg 4 false [ { d := some 8, op := .mov (.c (.nils)) }]) (.seq
 (.seq (.reg 5 false [ { d := some 20, op := .mov (.t 6) }, { d := some 21, op := .nilck (.t 20) }, { d := some 22, op := .faddr 0 (.t 21) }, { d := some 23, op := .faddr 0 (.t 22) }, { d := some 24, op := .load false 1 (.t 23) }, { d := some 25, op := .len (.t 24) }, { d := some 26, op := .mov (.c (.int .i64 0)) }]) (.block 0 (.loop
 (.seq (.reg 6 false [ { d := some 27, op := .bin .lss (.t 26) (.t 25) }]) (.seq (.cond (.t 27) (.skip) (.exit 0)) (.seq (.block 1
 (.seq (.reg 7 false [ { d := some 28, op := .iaddr 5 (.t 24) (.t 26) }, { d := some 29, op := .load true 5 (.t 28) }, { d := some 10, op := .alloc [.int .i64 0, .int .i64 0, .int .u8 0, .nils, .nils] }, { d := none, op := .store 5 (.t 10) (.t 29) }])
 (.seq (.reg 8 false [ { d := some 30, op := .load true 5 (.t 10) }, { d := some 31, op := .mov (.t 1) }, { d := some 32, op := .call 83 [.t 30, .t 31] }]) (.cond (.t 32) (.reg 9 false [ { d := some 33, op := .mov (.t 8) }, { d := some 34, op := .load true 5 (.t 10) }, { d := some 35, op := .call 84 [.t 34] }, { d := some 36, op := .bsl false 2 1 [.int .i64 0, .int .i64 0] [(0, .t 35)] }, { d := some 37, op := .app 2 16 (.t 33) (.t 36) }, { d := some 8, op := .mov (.t 37) }]) (.skip))))) (.reg 10 false [ { d := some 38, op := .bin .add (.t 26) (.c (.int .i64 1)) }, { d := some 26, op := .mov (.t 38) }])))))))
 (.seq (.reg 11 false [ { d := some 39, op := .mov (.t 8) }, { d := some 4, op := .mov (.t 39) }, { d := some 5, op := .mov (.c (.int .i64 0)) }]) (.ret))))))
def rr_sheet_Uses : List RRes := [.t 4, .t 5]
theorem pc_sheet_Uses {G : Nat → Option (List AV)} {args : List AV} {v : AV} (hn : args.length ≤ Tryd.f39.ntmps) (h : ∀ R : Run, R.G = G → R.Top → AR Tryd.prog R rc_sheet_Uses (initSt args) (Fin rr_sheet_Uses v)) : PC Tryd.prog G 39 args v :=
  PC_of Tryd.func39 rfl (by kernel_rfl) (rc := rc_sheet_Uses) (by kernel_rfl) (rs := rr_sheet_Uses) (by kernel_rfl) hn (fun R _ hG hr => h R hG hr)

def rc_sheet_Above : RCode :=
  .seq (.reg 0 false [ { d := some 3, op := .box (.t 0) }, { d := some 6, op := .mov (.c (.nils)) }, { d := some 7, op := .mov (.c (.int .i64 0)) }])
 (.seq (.reg 1 false [ { d := some 17, op := .load true 1 (.t 3) }, { d := some 18, op := .mov (.t 1) }, { d := some 19, op := .mov (.t 2) }, { d := some 20, op := .call 76 [.t 17, .t 18, .t 19] }, { d := some 16, op := .mov (.t 20) }, { d := some 21, op := .ext 0 (.t 16) }, { d := some 22, op := .ext 1 (.t 16) }, { d := some 23, op := .ext 2 (.t 16) }, { d := some 8, op := .alloc [.nilp] }, { d := some 9, op := .alloc [.nilm] }, { d := none, op := .store 1 (.t 8) (.t 21) }, { d := none, op := .store 1 (.t 9) (.t 22) }, { d := some 10, op := .mov (.t 23) }]) (.seq
 (.seq (.reg 2 false [ { d := some 24, op := .mov (.t 10) }, { d := some 25, op := .bin .neq (.t 24) (.c (.int .i64 0)) }]) (.cond (.t 25)
 (.seq (.reg 3 false [ { d := some 26, op := .mov (.t 10) }, { d := some 6, op := .mov (.c (.nils)) }, { d := some 7, op := .mov (.t 26) }]) (.ret)) (.skip)))
 (.seq (.reg 4 false [ { d := some 27, op := .mkmap }, { d := some 11, op := .alloc [.nilm] }, { d := none, op := .store 1 (.t 11) (.t 27) }])
 (.seq (.reg 5 false [ { d := some 12, op := .alloc [.nilf] }])
 (.seq (.reg 6 false [ { d := some 28, op := .mkf (.func 85) [] [.t 8, .t 11, .t 9, .t 12] }, { d := none, op := .store 1 (.t 12) (.t 28) }])
 (.seq (.reg 7 false [ { d := some 29, op := .load false 1 (.t 12) }, { d := some 30, op := .mov (.t 2) }, { d := some 31, op := .callv (.t 29) [.t 30] }])
 (.seq (.reg 8 false [ { d := some 13, op := .mov (.c (.nils)) }]) (.seq
 (.seq (.reg 9 false [ { d := some 32, op := .load false 1 (.t 8) }, { d := some 33, op := .nilck (.t 32) }, { d := some 34, op := .faddr 1 (.t 33) }, { d := some 35, op := .load false 1 (.t 34) }, { d := some 36, op := .len (.t 35) }, { d := some 37, op := .mov (.c (.int .i64 0)) }]) (.block 0 (.loop
 (.seq (.reg 10 false [ { d := some 38, op := .bin .lss (.t 37) (.t 36) }]) (.seq (.cond (.t 38) (.skip) (.exit 0)) (.seq (.block 1
 (.seq (.reg 11 false [ { d := some 39, op := .iaddr 1 (.t 35) (.t 37) }, { d := some 40, op := .load false 1 (.t 39) }, { d := some 15, op := .mov (.t 40) }])
 (.seq (.reg 12 false [ { d := some 41, op := .load false 1 (.t 11) }, { d := some 42, op := .mov (.t 15) }, { d := some 43, op := .look (.i .i64) (.bool false) false (.t 41) (.t 42) }]) (.cond (.t 43) (.reg 13 false [ { d := some 44, op := .mov (.t 13) }, { d := some 45, op := .mov (.t 15) }, { d := some 46, op := .bsl false 1 1 [.int .i64 0] [(0, .t 45)] }, { d := some 47, op := .app 1 8 (.t 44) (.t 46) }, { d := some 13, op := .mov (.t 47) }]) (.skip))))) (.reg 14 false [ { d := some 48, op := .bin .add (.t 37) (.c (.int .i64 1)) }, { d := some 37, op := .mov (.t 48) }])))))))
 (.seq (.reg 15 false [ { d := some 49, op := .mov (.t 13) }, { d := some 6, op := .mov (.t 49) }, { d := some 7, op := .mov (.c (.int .i64 0)) }]) (.ret))))))))))
def rr_sheet_Above : List RRes := [.t 6, .t 7]
theorem pc_sheet_Above {G : Nat → Option (List AV)} {args : List AV} {v : AV} (hn : args.length ≤ Tryd.f41.ntmps) (h : ∀ R : Run, R.G = G → R.Top → AR Tryd.prog R rc_sheet_Above (initSt args) (Fin rr_sheet_Above v)) : PC Tryd.prog G 41 args v :=
  PC_of Tryd.func41 rfl (by kernel_rfl) (rc := rc_sheet_Above) (by kernel_rfl) (rs := rr_sheet_Above) (by kernel_rfl) hn (fun R _ hG hr => h R hG hr)

def rc_sheet_Above_1 : RCode :=
  .seq (.reg 0 false [ { d := some 8, op := .load false 1 (.t 1) }, { d := some 9, op := .nilck (.t 8) }, { d := some 10, op := .faddr 1 (.t 9) }, { d := some 11, op := .load false 1 (.t 10) }, { d := some 12, op := .len (.t 11) }, { d := some 13, op := .mov (.c (.int .i64 0)) }]) (.block 0 (.loop
 (.seq (.reg 1 false [ { d := some 14, op := .bin .lss (.t 13) (.t 12) }]) (.seq (.cond (.t 14) (.skip) (.exit 0)) (.seq (.block 1
 (.seq (.reg 2 false [ { d := some 15, op := .iaddr 1 (.t 11) (.t 13) }, { d := some 16, op := .load false 1 (.t 15) }, { d := some 7, op := .mov (.t 16) }])
 (.seq (.reg 3 false [ { d := some 17, op := .load false 1 (.t 2) }, { d := some 18, op := .mov (.t 7) }, { d := some 19, op := .look (.i .i64) (.bool false) false (.t 17) (.t 18) }, { d := some 20, op := .un .not (.t 19) }, { d := some 21, op := .mov (.t 20) }, { d := some 22, op := .load false 1 (.t 3), guard := some (21, true) }, { d := some 23, op := .mov (.t 7), guard := some (21, true) }, { d := some 24, op := .look (.i .i64) (.agg [.int .i64 0, .int .i64 0, .int .u8 0, .nils, .nils]) false (.t 22) (.t 23), guard := some (21, true) }, { d := some 25, op := .mov (.t 0), guard := some (21, true) }, { d := some 26, op := .call 83 [.t 24, .t 25], guard := some (21, true) }, { d := some 27, op := .pick (.t 21) (.t 26) (.c (.bool false)) }]) (.cond (.t 27)
 (.seq (.reg 4 false [ { d := some 28, op := .load false 1 (.t 2) }, { d := some 29, op := .mov (.t 7) }, { d := none, op := .mupd (.i .i64) (.t 28) (.t 29) (.c (.bool true)) }]) (.reg 5 false [ { d := some 30, op := .load false 1 (.t 4) }, { d := some 31, op := .mov (.t 7) }, { d := some 32, op := .callv (.t 30) [.t 31] }])) (.skip))))) (.reg 6 false [ { d := some 33, op := .bin .add (.t 13) (.c (.int .i64 1)) }, { d := some 13, op := .mov (.t 33) }]))))))
def rr_sheet_Above_1 : List RRes := []
theorem pb_sheet_Above_1 {G : Nat → Option (List AV)} {objs objs' : List (Nat × AObj)} {args : List AV} {v : AV} (hn : args.length ≤ Tryd.f85.ntmps) (h : ∀ R : Run, R.G = G → R.Top → AR Tryd.prog R rc_sheet_Above_1 ⟨iniT 0 args, objs⟩ (FinB rr_sheet_Above_1 v objs')) : PB Tryd.prog G 85 objs args v objs' :=
  PB_of Tryd.func85 rfl (by kernel_rfl) (rc := rc_sheet_Above_1) (by kernel_rfl) (rs := rr_sheet_Above_1) (by kernel_rfl) hn (fun R _ hG hr => h R hG hr)

def rc_sheet_Differ : RCode :=
  .seq (.reg 0 false [ { d := some 4, op := .box (.t 0) }, { d := some 8, op := .mov (.c (.nils)) }, { d := some 9, op := .mov (.c (.nils)) }, { d := some 10, op := .mov (.c (.int .i64 0)) }])
 (.seq (.reg 1 false [ { d := some 26, op := .load true 1 (.t 4) }, { d := some 27, op := .call 67 [.t 26] }, { d := some 25, op := .mov (.t 27) }, { d := some 28, op := .ext 0 (.t 25) }, { d := some 29, op := .ext 1 (.t 25) }, { d := some 11, op := .mov (.t 28) }, { d := some 10, op := .mov (.t 29) }]) (.seq
 (.seq (.reg 2 false [ { d := some 30, op := .mov (.t 10) }, { d := some 31, op := .bin .neq (.t 30) (.c (.int .i64 0)) }]) (.cond (.t 31)
 (.seq (.reg 3 false [ { d := some 32, op := .mov (.t 10) }, { d := some 8, op := .mov (.c (.nils)) }, { d := some 9, op := .mov (.c (.nils)) }, { d := some 10, op := .mov (.t 32) }]) (.ret)) (.skip)))
 (.seq (.reg 4 false [ { d := some 34, op := .mov (.t 11) }, { d := some 35, op := .mov (.t 1) }, { d := some 36, op := .mov (.t 2) }, { d := some 37, op := .build [.int .i64 0, .int .i64 0] [(0, 1, .t 35), (1, 1, .t 36)] }, { d := some 38, op := .call 72 [.t 34, .t 37] }, { d := some 33, op := .mov (.t 38) }, { d := some 39, op := .ext 0 (.t 33) }, { d := some 40, op := .ext 1 (.t 33) }, { d := some 12, op := .alloc [.int .i64 0, .int .i64 0, .int .u8 0, .nils, .nils] }, { d := none, op := .store 5 (.t 12) (.t 39) }, { d := some 13, op := .mov (.t 40) }])
 (.seq (.reg 5 false [ { d := some 42, op := .mov (.t 11) }, { d := some 43, op := .mov (.t 1) }, { d := some 44, op := .mov (.t 3) }, { d := some 45, op := .build [.int .i64 0, .int .i64 0] [(0, 1, .t 43), (1, 1, .t 44)] }, { d := some 46, op := .call 72 [.t 42, .t 45] }, { d := some 41, op := .mov (.t 46) }, { d := some 47, op := .ext 0 (.t 41) }, { d := some 48, op := .ext 1 (.t 41) }, { d := some 14, op := .alloc [.int .i64 0, .int .i64 0, .int .u8 0, .nils, .nils] }, { d := none, op := .store 5 (.t 14) (.t 47) }, { d := some 15, op := .mov (.t 48) }]) (.seq
 (.seq (.reg 6 false [ { d := some 49, op := .mov (.t 13) }, { d := some 50, op := .un .not (.t 49) }, { d := some 51, op := .mov (.t 50) }, { d := some 52, op := .mov (.t 15), guard := some (51, false) }, { d := some 53, op := .un .not (.t 52), guard := some (51, false) }, { d := some 54, op := .pick (.t 51) (.c (.bool true)) (.t 53) }]) (.cond (.t 54)
 (.seq (.reg 7 false [ { d := some 8, op := .mov (.c (.nils)) }, { d := some 9, op := .mov (.c (.nils)) }, { d := some 10, op := .mov (.c (.int .i64 6)) }]) (.ret)) (.skip)))
 (.seq (.reg 8 false [ { d := some 55, op := .mkmap }, { d := some 16, op := .mov (.t 55) }]) (.seq
 (.seq (.reg 9 false [ { d := some 56, op := .faddr 3 (.t 12) }, { d := some 57, op := .load false 1 (.t 56) }, { d := some 58, op := .len (.t 57) }, { d := some 59, op := .mov (.c (.int .i64 0)) }]) (.block 0 (.loop
 (.seq (.reg 10 false [ { d := some 60, op := .bin .lss (.t 59) (.t 58) }]) (.seq (.cond (.t 60) (.skip) (.exit 0)) (.seq (.block 1
 (.seq (.reg 11 false [ { d := some 61, op := .iaddr 2 (.t 57) (.t 59) }, { d := some 62, op := .load true 2 (.t 61) }, { d := some 18, op := .alloc [.int .i64 0, .int .i64 0] }, { d := none, op := .store 2 (.t 18) (.t 62) }]) (.reg 12 false [ { d := some 63, op := .mov (.t 16) }, { d := some 64, op := .faddr 0 (.t 18) }, { d := some 65, op := .load false 1 (.t 64) }, { d := some 66, op := .faddr 0 (.t 18) }, { d := some 67, op := .load false 1 (.t 66) }, { d := some 68, op := .faddr 1 (.t 18) }, { d := some 69, op := .load false 1 (.t 68) }, { d := some 70, op := .build [.int .i64 0, .int .i64 0, .int .i64 0] [(0, 1, .t 67), (1, 1, .t 69)] }, { d := none, op := .mupd (.i .i64) (.t 63) (.t 65) (.t 70) }]))) (.reg 13 false [ { d := some 71, op := .bin .add (.t 59) (.c (.int .i64 1)) }, { d := some 59, op := .mov (.t 71) }]))))))) (.seq
 (.seq (.reg 14 false [ { d := some 72, op := .faddr 3 (.t 14) }, { d := some 73, op := .load false 1 (.t 72) }, { d := some 74, op := .len (.t 73) }, { d := some 75, op := .mov (.c (.int .i64 0)) }]) (.block 2 (.loop
 (.seq (.reg 15 false [ { d := some 76, op := .bin .lss (.t 75) (.t 74) }]) (.seq (.cond (.t 76) (.skip) (.exit 2)) (.seq (.block 3
 (.seq (.reg 16 false [ { d := some 77, op := .iaddr 2 (.t 73) (.t 75) }, { d := some 78, op := .load true 2 (.t 77) }, { d := some 20, op := .alloc [.int .i64 0, .int .i64 0] }, { d := none, op := .store 2 (.t 20) (.t 78) }]) (.reg 17 false [ { d := some 79, op := .mov (.t 16) }, { d := some 80, op := .faddr 0 (.t 20) }, { d := some 81, op := .load false 1 (.t 80) }, { d := some 82, op := .faddr 0 (.t 20) }, { d := some 83, op := .load false 1 (.t 82) }, { d := some 84, op := .mov (.t 16) }, { d := some 85, op := .faddr 0 (.t 20) }, { d := some 86, op := .load false 1 (.t 85) }, { d := some 87, op := .look (.i .i64) (.agg [.int .i64 0, .int .i64 0, .int .i64 0]) false (.t 84) (.t 86) }, { d := some 88, op := .field false 1 1 (.t 87) }, { d := some 89, op := .faddr 1 (.t 20) }, { d := some 90, op := .load false 1 (.t 89) }, { d := some 91, op := .build [.int .i64 0, .int .i64 0, .int .i64 0] [(0, 1, .t 83), (1, 1, .t 88), (2, 1, .t 90)] }, { d := none, op := .mupd (.i .i64) (.t 79) (.t 81) (.t 91) }]))) (.reg 18 false [ { d := some 92, op := .bin .add (.t 75) (.c (.int .i64 1)) }, { d := some 75, op := .mov (.t 92) }]))))))) (.seq
 (.seq (.reg 19 false [ { d := some 93, op := .mov (.t 11) }, { d := some 94, op := .nilck (.t 93) }, { d := some 95, op := .faddr 1 (.t 94) }, { d := some 96, op := .load false 1 (.t 95) }, { d := some 97, op := .len (.t 96) }, { d := some 98, op := .mov (.c (.int .i64 0)) }]) (.block 4 (.loop
 (.seq (.reg 20 false [ { d := some 99, op := .bin .lss (.t 98) (.t 97) }]) (.seq (.cond (.t 99) (.skip) (.exit 4)) (.seq (.block 5
 (.seq (.reg 21 false [ { d := some 100, op := .iaddr 1 (.t 96) (.t 98) }, { d := some 101, op := .load false 1 (.t 100) }, { d := some 22, op := .mov (.t 101) }])
 (.seq (.reg 22 false [ { d := some 102, op := .mov (.t 16) }, { d := some 103, op := .mov (.t 22) }, { d := some 104, op := .look (.i .i64) (.agg [.int .i64 0, .int .i64 0, .int .i64 0]) false (.t 102) (.t 103) }, { d := some 23, op := .alloc [.int .i64 0, .int .i64 0, .int .i64 0] }, { d := none, op := .store 3 (.t 23) (.t 104) }])
 (.seq (.reg 23 false [ { d := some 105, op := .faddr 1 (.t 23) }, { d := some 106, op := .load false 1 (.t 105) }, { d := some 107, op := .faddr 2 (.t 23) }, { d := some 108, op := .load false 1 (.t 107) }, { d := some 109, op := .bin .neq (.t 106) (.t 108) }]) (.cond (.t 109) (.reg 24 false [ { d := some 110, op := .mov (.t 8) }, { d := some 111, op := .load true 3 (.t 23) }, { d := some 112, op := .bsl false 3 1 [.int .i64 0, .int .i64 0, .int .i64 0] [(0, .t 111)] }, { d := some 113, op := .app 3 24 (.t 110) (.t 112) }, { d := some 8, op := .mov (.t 113) }]) (.skip)))))) (.reg 25 false [ { d := some 114, op := .bin .add (.t 98) (.c (.int .i64 1)) }, { d := some 98, op := .mov (.t 114) }]))))))) (.seq
 (.seq (.reg 26 false [ { d := some 115, op := .faddr 4 (.t 12) }, { d := some 116, op := .load false 1 (.t 115) }, { d := some 117, op := .len (.t 116) }, { d := some 118, op := .faddr 4 (.t 14) }, { d := some 119, op := .load false 1 (.t 118) }, { d := some 120, op := .len (.t 119) }, { d := some 121, op := .mx true (.t 117) [.t 120] }, { d := some 122, op := .mov (.c (.int .i64 0)) }]) (.block 6 (.loop
 (.seq (.reg 27 false [ { d := some 123, op := .bin .lss (.t 122) (.t 121) }]) (.seq (.cond (.t 123) (.skip) (.exit 6)) (.seq (.block 7
 (.seq (.reg 28 false [ { d := some 124, op := .mov (.t 122) }, { d := some 24, op := .mov (.t 124) }])
 (.seq (.reg 29 true [ { d := some 125, op := .mov (.t 24), aft := [] }, { d := some 126, op := .faddr 4 (.t 12), aft := [] }, { d := some 127, op := .load false 1 (.t 126), aft := [1] }, { d := some 128, op := .len (.t 127), aft := [2] }, { d := some 129, op := .faddr 4 (.t 14), aft := [] }, { d := some 130, op := .load false 1 (.t 129), aft := [4] }, { d := some 131, op := .len (.t 130), aft := [5] }, { d := some 132, op := .mx false (.t 128) [.t 131], aft := [3, 6] }, { d := some 133, op := .bin .geq (.t 125) (.t 132), aft := [0, 7] }, { d := some 134, op := .mov (.t 133), aft := [8] }, { d := some 135, op := .faddr 4 (.t 12), guard := some (134, false), aft := [9] }, { d := some 136, op := .load false 1 (.t 135), guard := some (134, false), aft := [10, 9] }, { d := some 137, op := .mov (.t 24), guard := some (134, false), aft := [9] }, { d := some 138, op := .iaddr 3 (.t 136) (.t 137), guard := some (134, false), aft := [11, 12, 9] }, { d := some 139, op := .load true 3 (.t 138), guard := some (134, false), aft := [13, 9] }, { d := some 140, op := .faddr 4 (.t 14), guard := some (134, false), aft := [9] }, { d := some 141, op := .load false 1 (.t 140), guard := some (134, false), aft := [15, 9] }, { d := some 142, op := .mov (.t 24), guard := some (134, false), aft := [9] }, { d := some 143, op := .iaddr 3 (.t 141) (.t 142), guard := some (134, false), aft := [16, 17, 9] }, { d := some 144, op := .load true 3 (.t 143), guard := some (134, false), aft := [18, 9] }, { d := some 145, op := .eqs true [.i, .i, .i] (.t 139) (.t 144), guard := some (134, false), aft := [14, 19, 9] }, { d := some 146, op := .pick (.t 134) (.c (.bool true)) (.t 145), aft := [9, 20] }]) (.cond (.t 146) (.reg 30 false [ { d := some 147, op := .mov (.t 9) }, { d := some 148, op := .mov (.t 24) }, { d := some 149, op := .bsl false 1 1 [.int .i64 0] [(0, .t 148)] }, { d := some 150, op := .app 1 8 (.t 147) (.t 149) }, { d := some 9, op := .mov (.t 150) }]) (.skip))))) (.reg 31 false [ { d := some 151, op := .bin .add (.t 122) (.c (.int .i64 1)) }, { d := some 122, op := .mov (.t 151) }])))))))
 (.seq (.reg 32 false [ { d := some 152, op := .mov (.t 8) }, { d := some 153, op := .mov (.t 9) }, { d := some 8, op := .mov (.t 152) }, { d := some 9, op := .mov (.t 153) }, { d := some 10, op := .mov (.c (.int .i64 0)) }]) (.ret))))))))))))
def rr_sheet_Differ : List RRes := [.t 8, .t 9, .t 10]
theorem pc_sheet_Differ {G : Nat → Option (List AV)} {args : List AV} {v : AV} (hn : args.length ≤ Tryd.f44.ntmps) (h : ∀ R : Run, R.G = G → R.Top → AR Tryd.prog R rc_sheet_Differ (initSt args) (Fin rr_sheet_Differ v)) : PC Tryd.prog G 44 args v :=
  PC_of Tryd.func44 rfl (by kernel_rfl) (rc := rc_sheet_Differ) (by kernel_rfl) (rs := rr_sheet_Differ) (by kernel_rfl) hn (fun R _ hG hr => h R hG hr)

end Go.Proofs.YtdpmioiamcgfkaaDoor

/-! The abstract machine's code of functions of the program, as a program of ours printed it; that it is theirs is proved beside each. -/
namespace Go.Proofs.YtdpmioiamcgfkaaDoor
open Go.RowKit

def rc_sheet_taken : RCode :=
  .seq (.reg 0 false [ { d := some 3, op := .box (.t 0) }, { d := some 6, op := .mov (.c (.nilp)) }, { d := some 7, op := .mov (.c (.nilm)) }, { d := some 8, op := .mov (.c (.int .i64 0)) }])
 (.seq (.reg 1 false [ { d := some 16, op := .load true 1 (.t 3) }, { d := some 17, op := .call 67 [.t 16] }, { d := some 15, op := .mov (.t 17) }, { d := some 18, op := .ext 0 (.t 15) }, { d := some 19, op := .ext 1 (.t 15) }, { d := some 9, op := .mov (.t 18) }, { d := some 10, op := .mov (.t 19) }]) (.seq
 (.seq (.reg 2 false [ { d := some 20, op := .mov (.t 10) }, { d := some 21, op := .bin .neq (.t 20) (.c (.int .i64 0)) }]) (.cond (.t 21)
 (.seq (.reg 3 false [ { d := some 22, op := .mov (.t 10) }, { d := some 6, op := .mov (.c (.nilp)) }, { d := some 7, op := .mov (.c (.nilm)) }, { d := some 8, op := .mov (.t 22) }]) (.ret)) (.skip))) (.seq
 (.seq (.reg 4 false [ { d := some 23, op := .mov (.t 1) }, { d := some 24, op := .len (.t 23) }, { d := some 25, op := .mov (.t 9) }, { d := some 26, op := .nilck (.t 25) }, { d := some 27, op := .faddr 1 (.t 26) }, { d := some 28, op := .load false 1 (.t 27) }, { d := some 29, op := .len (.t 28) }, { d := some 30, op := .bin .neq (.t 24) (.t 29) }]) (.cond (.t 30)
 (.seq (.reg 5 false [ { d := some 6, op := .mov (.c (.nilp)) }, { d := some 7, op := .mov (.c (.nilm)) }, { d := some 8, op := .mov (.c (.int .i64 22)) }]) (.ret)) (.skip)))
 (.seq (.reg 6 false [ { d := some 31, op := .mkmap }, { d := some 11, op := .mov (.t 31) }]) (.seq
 (.seq (.reg 7 false [ { d := some 32, op := .mov (.t 1) }, { d := some 33, op := .len (.t 32) }, { d := some 34, op := .mov (.c (.int .i64 0)) }]) (.block 0 (.loop
 (.seq (.reg 8 false [ { d := some 35, op := .bin .lss (.t 34) (.t 33) }]) (.seq (.cond (.t 35) (.skip) (.exit 0)) (.seq (.block 1
 (.seq (.reg 9 false [ { d := some 36, op := .mov (.t 34) }, { d := some 12, op := .mov (.t 36) }])
 (.seq (.reg 10 true [ { d := some 38, op := .mov (.t 9), aft := [] }, { d := some 39, op := .mov (.t 9), aft := [] }, { d := some 40, op := .nilck (.t 39), aft := [1] }, { d := some 41, op := .faddr 1 (.t 40), aft := [2] }, { d := some 42, op := .load false 1 (.t 41), aft := [3] }, { d := some 43, op := .mov (.t 12), aft := [] }, { d := some 44, op := .iaddr 1 (.t 42) (.t 43), aft := [4, 5] }, { d := some 45, op := .load false 1 (.t 44), aft := [6] }, { d := some 46, op := .mov (.t 1), aft := [] }, { d := some 47, op := .mov (.t 12), aft := [] }, { d := some 48, op := .iaddr 1 (.t 46) (.t 47), aft := [8, 9] }, { d := some 49, op := .load false 1 (.t 48), aft := [10] }, { d := some 50, op := .build [.int .i64 0, .int .i64 0] [(0, 1, .t 45), (1, 1, .t 49)], aft := [7, 11] }, { d := some 51, op := .call 72 [.t 38, .t 50], aft := [0, 12] }, { d := some 37, op := .mov (.t 51), aft := [13] }, { d := some 52, op := .ext 0 (.t 37), aft := [14] }, { d := some 53, op := .ext 1 (.t 37), aft := [14] }, { d := some 13, op := .alloc [.int .i64 0, .int .i64 0, .int .u8 0, .nils, .nils], aft := [] }, { d := none, op := .store 5 (.t 13) (.t 52), aft := [17, 15, 13, 0, 1, 2, 3, 4, 5, 6, 7, 8, 9, 10, 11, 12, 13, 14, 15, 17] }, { d := some 14, op := .mov (.t 53), aft := [16, 18, 0, 1, 2, 3, 4, 5, 6, 7, 8, 9, 10, 11, 12, 13, 14, 15, 16, 17, 18] }]) (.seq
 (.seq (.reg 11 false [ { d := some 54, op := .mov (.t 14) }, { d := some 55, op := .un .not (.t 54) }]) (.cond (.t 55)
 (.seq (.reg 12 false [ { d := some 6, op := .mov (.c (.nilp)) }, { d := some 7, op := .mov (.c (.nilm)) }, { d := some 8, op := .mov (.c (.int .i64 22)) }]) (.ret)) (.skip))) (.reg 13 false [ { d := some 56, op := .mov (.t 11) }, { d := some 57, op := .faddr 0 (.t 13) }, { d := some 58, op := .load false 1 (.t 57) }, { d := some 59, op := .load true 5 (.t 13) }, { d := none, op := .mupd (.i .i64) (.t 56) (.t 58) (.t 59) }]))))) (.reg 14 false [ { d := some 60, op := .bin .add (.t 34) (.c (.int .i64 1)) }, { d := some 34, op := .mov (.t 60) }]))))))) (.seq
 (.seq (.reg 15 false [ { d := some 61, op := .mov (.t 9) }, { d := some 62, op := .mov (.t 2) }, { d := some 63, op := .call 104 [.t 61, .t 62] }, { d := some 64, op := .un .not (.t 63) }]) (.cond (.t 64)
 (.seq (.reg 16 false [ { d := some 6, op := .mov (.c (.nilp)) }, { d := some 7, op := .mov (.c (.nilm)) }, { d := some 8, op := .mov (.c (.int .i64 6)) }]) (.ret)) (.skip)))
 (.seq (.reg 17 false [ { d := some 65, op := .mov (.t 9) }, { d := some 66, op := .mov (.t 11) }, { d := some 6, op := .mov (.t 65) }, { d := some 7, op := .mov (.t 66) }, { d := some 8, op := .mov (.c (.int .i64 0)) }]) (.ret))))))))
def rr_sheet_taken : List RRes := [.t 6, .t 7, .t 8]
theorem pc_sheet_taken {G : Nat → Option (List AV)} {args : List AV} {v : AV} (hn : args.length ≤ Tryd.f76.ntmps) (h : ∀ R : Run, R.G = G → R.Top → AR Tryd.prog R rc_sheet_taken (initSt args) (Fin rr_sheet_taken v)) : PC Tryd.prog G 76 args v :=
  PC_of Tryd.func76 rfl (by kernel_rfl) (rc := rc_sheet_taken) (by kernel_rfl) (rs := rr_sheet_taken) (by kernel_rfl) hn (fun R _ hG hr => h R hG hr)

def rc_sheet_Explode : RCode :=
  .seq (.reg 0 false [ { d := some 3, op := .box (.t 0) }, { d := some 6, op := .mov (.c (.nils)) }, { d := some 7, op := .mov (.c (.int .i64 0)) }])
 (.seq (.reg 1 false [ { d := some 17, op := .load true 1 (.t 3) }, { d := some 18, op := .mov (.t 1) }, { d := some 19, op := .mov (.t 2) }, { d := some 20, op := .call 76 [.t 17, .t 18, .t 19] }, { d := some 16, op := .mov (.t 20) }, { d := some 21, op := .ext 0 (.t 16) }, { d := some 22, op := .ext 1 (.t 16) }, { d := some 23, op := .ext 2 (.t 16) }, { d := some 9, op := .alloc [.nilm] }, { d := some 8, op := .mov (.t 21) }, { d := none, op := .store 1 (.t 9) (.t 22) }, { d := some 10, op := .mov (.t 23) }]) (.seq
 (.seq (.reg 2 false [ { d := some 24, op := .mov (.t 10) }, { d := some 25, op := .bin .neq (.t 24) (.c (.int .i64 0)) }]) (.cond (.t 25)
 (.seq (.reg 3 false [ { d := some 26, op := .mov (.t 10) }, { d := some 6, op := .mov (.c (.nils)) }, { d := some 7, op := .mov (.t 26) }]) (.ret)) (.skip)))
 (.seq (.reg 4 false [ { d := some 27, op := .mkmap }, { d := some 11, op := .alloc [.nilm] }, { d := none, op := .store 1 (.t 11) (.t 27) }])
 (.seq (.reg 5 false [ { d := some 12, op := .alloc [.nilf] }])
 (.seq (.reg 6 false [ { d := some 28, op := .mkf (.func 77) [] [.t 9, .t 11, .t 12] }, { d := none, op := .store 1 (.t 12) (.t 28) }])
 (.seq (.reg 7 false [ { d := some 29, op := .load false 1 (.t 12) }, { d := some 30, op := .mov (.t 2) }, { d := some 31, op := .callv (.t 29) [.t 30, .c (.int .i64 1)] }])
 (.seq (.reg 8 false [ { d := some 13, op := .mov (.c (.nils)) }]) (.seq
 (.seq (.reg 9 false [ { d := some 32, op := .mov (.t 8) }, { d := some 33, op := .nilck (.t 32) }, { d := some 34, op := .faddr 1 (.t 33) }, { d := some 35, op := .load false 1 (.t 34) }, { d := some 36, op := .len (.t 35) }, { d := some 37, op := .mov (.c (.int .i64 0)) }]) (.block 0 (.loop
 (.seq (.reg 10 false [ { d := some 38, op := .bin .lss (.t 37) (.t 36) }]) (.seq (.cond (.t 38) (.skip) (.exit 0)) (.seq (.block 1
 (.seq (.reg 11 false [ { d := some 39, op := .iaddr 1 (.t 35) (.t 37) }, { d := some 40, op := .load false 1 (.t 39) }, { d := some 15, op := .mov (.t 40) }])
 (.seq (.reg 12 false [ { d := some 41, op := .load false 1 (.t 11) }, { d := some 42, op := .mov (.t 15) }, { d := some 43, op := .look (.i .i64) (.int .i64 0) false (.t 41) (.t 42) }, { d := some 44, op := .bin .gtr (.t 43) (.c (.int .i64 0)) }]) (.cond (.t 44) (.reg 13 false [ { d := some 45, op := .mov (.t 13) }, { d := some 46, op := .mov (.t 15) }, { d := some 47, op := .load false 1 (.t 11) }, { d := some 48, op := .mov (.t 15) }, { d := some 49, op := .look (.i .i64) (.int .i64 0) false (.t 47) (.t 48) }, { d := some 50, op := .build [.int .i64 0, .int .i64 0] [(0, 1, .t 46), (1, 1, .t 49)] }, { d := some 51, op := .bsl false 2 1 [.int .i64 0, .int .i64 0] [(0, .t 50)] }, { d := some 52, op := .app 2 16 (.t 45) (.t 51) }, { d := some 13, op := .mov (.t 52) }]) (.skip))))) (.reg 14 false [ { d := some 53, op := .bin .add (.t 37) (.c (.int .i64 1)) }, { d := some 37, op := .mov (.t 53) }])))))))
 (.seq (.reg 15 false [ { d := some 54, op := .mov (.t 13) }, { d := some 6, op := .mov (.t 54) }, { d := some 7, op := .mov (.c (.int .i64 0)) }]) (.ret))))))))))
def rr_sheet_Explode : List RRes := [.t 6, .t 7]
theorem pc_sheet_Explode {G : Nat → Option (List AV)} {args : List AV} {v : AV} (hn : args.length ≤ Tryd.f33.ntmps) (h : ∀ R : Run, R.G = G → R.Top → AR Tryd.prog R rc_sheet_Explode (initSt args) (Fin rr_sheet_Explode v)) : PC Tryd.prog G 33 args v :=
  PC_of Tryd.func33 rfl (by kernel_rfl) (rc := rc_sheet_Explode) (by kernel_rfl) (rs := rr_sheet_Explode) (by kernel_rfl) hn (fun R _ hG hr => h R hG hr)

def rc_sheet_Explode_1 : RCode :=
  .seq (.reg 0 false [ { d := some 10, op := .load false 1 (.t 2) }, { d := some 11, op := .mov (.t 0) }, { d := some 12, op := .look (.i .i64) (.agg [.int .i64 0, .int .i64 0, .int .u8 0, .nils, .nils]) false (.t 10) (.t 11) }, { d := some 7, op := .alloc [.int .i64 0, .int .i64 0, .int .u8 0, .nils, .nils] }, { d := none, op := .store 5 (.t 7) (.t 12) }]) (.seq
 (.seq (.reg 1 false [ { d := some 13, op := .faddr 2 (.t 7) }, { d := some 14, op := .load false 1 (.t 13) }, { d := some 15, op := .bin .neq (.t 14) (.c (.int .u8 1)) }]) (.cond (.t 15) (.reg 2 false [ { d := some 16, op := .load false 1 (.t 3) }, { d := some 17, op := .mov (.t 0) }, { d := some 18, op := .look (.i .i64) (.int .i64 0) false (.t 16) (.t 17) }, { d := some 19, op := .mov (.t 1) }, { d := some 20, op := .bin .add (.t 18) (.t 19) }, { d := none, op := .mupd (.i .i64) (.t 16) (.t 17) (.t 20) }]) (.skip)))
 (.seq (.reg 3 false [ { d := some 21, op := .faddr 3 (.t 7) }, { d := some 22, op := .load false 1 (.t 21) }, { d := some 23, op := .len (.t 22) }, { d := some 24, op := .mov (.c (.int .i64 0)) }]) (.block 0 (.loop
 (.seq (.reg 4 false [ { d := some 25, op := .bin .lss (.t 24) (.t 23) }]) (.seq (.cond (.t 25) (.skip) (.exit 0)) (.seq (.block 1
 (.seq (.reg 5 false [ { d := some 26, op := .iaddr 2 (.t 22) (.t 24) }, { d := some 27, op := .load true 2 (.t 26) }, { d := some 9, op := .alloc [.int .i64 0, .int .i64 0] }, { d := none, op := .store 2 (.t 9) (.t 27) }]) (.reg 6 false [ { d := some 28, op := .load false 1 (.t 4) }, { d := some 29, op := .faddr 0 (.t 9) }, { d := some 30, op := .load false 1 (.t 29) }, { d := some 31, op := .mov (.t 1) }, { d := some 32, op := .faddr 1 (.t 9) }, { d := some 33, op := .load false 1 (.t 32) }, { d := some 34, op := .bin .mul (.t 31) (.t 33) }, { d := some 35, op := .callv (.t 28) [.t 30, .t 34] }]))) (.reg 7 false [ { d := some 36, op := .bin .add (.t 24) (.c (.int .i64 1)) }, { d := some 24, op := .mov (.t 36) }]))))))))
def rr_sheet_Explode_1 : List RRes := []
theorem pb_sheet_Explode_1 {G : Nat → Option (List AV)} {objs objs' : List (Nat × AObj)} {args : List AV} {v : AV} (hn : args.length ≤ Tryd.f77.ntmps) (h : ∀ R : Run, R.G = G → R.Top → AR Tryd.prog R rc_sheet_Explode_1 ⟨iniT 0 args, objs⟩ (FinB rr_sheet_Explode_1 v objs')) : PB Tryd.prog G 77 objs args v objs' :=
  PB_of Tryd.func77 rfl (by kernel_rfl) (rc := rc_sheet_Explode_1) (by kernel_rfl) (rs := rr_sheet_Explode_1) (by kernel_rfl) hn (fun R _ hG hr => h R hG hr)

def rc_sheet_Tree : RCode :=
  .seq (.reg 0 false [ { d := some 3, op := .box (.t 0) }, { d := some 6, op := .mov (.c (.nils)) }, { d := some 7, op := .mov (.c (.int .i64 0)) }])
 (.seq (.reg 1 false [ { d := some 14, op := .load true 1 (.t 3) }, { d := some 15, op := .mov (.t 1) }, { d := some 16, op := .mov (.t 2) }, { d := some 17, op := .call 76 [.t 14, .t 15, .t 16] }, { d := some 13, op := .mov (.t 17) }, { d := some 18, op := .ext 0 (.t 13) }, { d := some 19, op := .ext 1 (.t 13) }, { d := some 20, op := .ext 2 (.t 13) }, { d := some 9, op := .alloc [.nilm] }, { d := some 8, op := .mov (.t 18) }, { d := none, op := .store 1 (.t 9) (.t 19) }, { d := some 10, op := .mov (.t 20) }]) (.seq
 (.seq (.reg 2 false [ { d := some 21, op := .mov (.t 10) }, { d := some 22, op := .bin .neq (.t 21) (.c (.int .i64 0)) }]) (.cond (.t 22)
 (.seq (.reg 3 false [ { d := some 23, op := .mov (.t 10) }, { d := some 6, op := .mov (.c (.nils)) }, { d := some 7, op := .mov (.t 23) }]) (.ret)) (.skip)))
 (.seq (.reg 4 false [ { d := some 11, op := .alloc [.nils] }])
 (.seq (.reg 5 false [ { d := some 12, op := .alloc [.nilf] }])
 (.seq (.reg 6 false [ { d := some 24, op := .mkf (.func 80) [] [.t 11, .t 9, .t 12] }, { d := none, op := .store 1 (.t 12) (.t 24) }])
 (.seq (.reg 7 false [ { d := some 25, op := .load false 1 (.t 12) }, { d := some 26, op := .mov (.t 2) }, { d := some 27, op := .build [.int .i64 0, .int .i64 0] [(0, 1, .t 26), (1, 1, .c (.int .i64 1))] }, { d := some 28, op := .callv (.t 25) [.c (.int .i64 0), .t 27] }]) (.seq
 (.seq (.reg 8 false [ { d := some 29, op := .load false 1 (.t 11) }, { d := some 30, op := .len (.t 29) }, { d := some 31, op := .bin .gtr (.t 30) (.c (.int .i64 500)) }]) (.cond (.t 31)
 (.seq (.reg 9 false [ { d := some 6, op := .mov (.c (.nils)) }, { d := some 7, op := .mov (.c (.int .i64 4)) }]) (.ret)) (.skip)))
 (.seq (.reg 10 false [ { d := some 32, op := .load false 1 (.t 11) }, { d := some 6, op := .mov (.t 32) }, { d := some 7, op := .mov (.c (.int .i64 0)) }]) (.ret)))))))))
def rr_sheet_Tree : List RRes := [.t 6, .t 7]
theorem pc_sheet_Tree {G : Nat → Option (List AV)} {args : List AV} {v : AV} (hn : args.length ≤ Tryd.f35.ntmps) (h : ∀ R : Run, R.G = G → R.Top → AR Tryd.prog R rc_sheet_Tree (initSt args) (Fin rr_sheet_Tree v)) : PC Tryd.prog G 35 args v :=
  PC_of Tryd.func35 rfl (by kernel_rfl) (rc := rc_sheet_Tree) (by kernel_rfl) (rs := rr_sheet_Tree) (by kernel_rfl) hn (fun R _ hG hr => h R hG hr)

def rc_sheet_Tree_1 : RCode :=
  .seq (.reg 0 false [ { d := some 6, op := .box (.t 1) }]) (.seq
 (.seq (.reg 1 false [ { d := some 10, op := .load false 1 (.t 2) }, { d := some 11, op := .len (.t 10) }, { d := some 12, op := .bin .gtr (.t 11) (.c (.int .i64 500)) }]) (.cond (.t 12) (.ret) (.skip)))
 (.seq (.reg 2 false [ { d := some 13, op := .load false 1 (.t 3) }, { d := some 14, op := .faddr 0 (.t 6) }, { d := some 15, op := .load false 1 (.t 14) }, { d := some 16, op := .look (.i .i64) (.agg [.int .i64 0, .int .i64 0, .int .u8 0, .nils, .nils]) false (.t 13) (.t 15) }, { d := some 7, op := .alloc [.int .i64 0, .int .i64 0, .int .u8 0, .nils, .nils] }, { d := none, op := .store 5 (.t 7) (.t 16) }])
 (.seq (.reg 3 false [ { d := some 17, op := .load false 1 (.t 2) }, { d := some 18, op := .mov (.t 0) }, { d := some 19, op := .faddr 0 (.t 7) }, { d := some 20, op := .load false 1 (.t 19) }, { d := some 21, op := .faddr 1 (.t 7) }, { d := some 22, op := .load false 1 (.t 21) }, { d := some 23, op := .faddr 1 (.t 6) }, { d := some 24, op := .load false 1 (.t 23) }, { d := some 25, op := .build [.int .i64 0, .int .i64 0, .int .i64 0, .int .i64 0] [(0, 1, .t 18), (1, 1, .t 20), (2, 1, .t 22), (3, 1, .t 24)] }, { d := some 26, op := .bsl false 4 1 [.int .i64 0, .int .i64 0, .int .i64 0, .int .i64 0] [(0, .t 25)] }, { d := some 27, op := .app 4 32 (.t 17) (.t 26) }, { d := none, op := .store 1 (.t 2) (.t 27) }])
 (.seq (.reg 4 false [ { d := some 28, op := .faddr 3 (.t 7) }, { d := some 29, op := .load false 1 (.t 28) }, { d := some 30, op := .len (.t 29) }, { d := some 31, op := .mov (.c (.int .i64 0)) }]) (.block 0 (.loop
 (.seq (.reg 5 false [ { d := some 32, op := .bin .lss (.t 31) (.t 30) }]) (.seq (.cond (.t 32) (.skip) (.exit 0)) (.seq (.block 1
 (.seq (.reg 6 false [ { d := some 33, op := .iaddr 2 (.t 29) (.t 31) }, { d := some 34, op := .load true 2 (.t 33) }, { d := some 9, op := .alloc [.int .i64 0, .int .i64 0] }, { d := none, op := .store 2 (.t 9) (.t 34) }]) (.reg 7 false [ { d := some 35, op := .load false 1 (.t 4) }, { d := some 36, op := .mov (.t 0) }, { d := some 37, op := .bin .add (.t 36) (.c (.int .i64 1)) }, { d := some 38, op := .load true 2 (.t 9) }, { d := some 39, op := .callv (.t 35) [.t 37, .t 38] }]))) (.reg 8 false [ { d := some 40, op := .bin .add (.t 31) (.c (.int .i64 1)) }, { d := some 31, op := .mov (.t 40) }]))))))))))
def rr_sheet_Tree_1 : List RRes := []
theorem pb_sheet_Tree_1 {G : Nat → Option (List AV)} {objs objs' : List (Nat × AObj)} {args : List AV} {v : AV} (hn : args.length ≤ Tryd.f80.ntmps) (h : ∀ R : Run, R.G = G → R.Top → AR Tryd.prog R rc_sheet_Tree_1 ⟨iniT 0 args, objs⟩ (FinB rr_sheet_Tree_1 v objs')) : PB Tryd.prog G 80 objs args v objs' :=
  PB_of Tryd.func80 rfl (by kernel_rfl) (rc := rc_sheet_Tree_1) (by kernel_rfl) (rs := rr_sheet_Tree_1) (by kernel_rfl) hn (fun R _ hG hr => h R hG hr)

end Go.Proofs.YtdpmioiamcgfkaaDoor

/-! The abstract machine's code of functions of the program, as a program of ours printed it; that it is theirs is proved beside each. -/
namespace Go.Proofs.YtdpmioiamcgfkaaDoor
open Go.RowKit

def rc_ref02_SameBranches : RCode :=
  .seq (.reg 0 false [ { d := some 4, op := .mov (.c (.bool false)) }]) (.seq
 (.seq (.reg 1 false [ { d := some 6, op := .mov (.t 0) }, { d := some 7, op := .len (.t 6) }, { d := some 8, op := .mov (.t 1) }, { d := some 9, op := .len (.t 8) }, { d := some 10, op := .bin .neq (.t 7) (.t 9) }]) (.cond (.t 10)
 (.seq (.reg 2 false [ { d := some 4, op := .mov (.c (.bool false)) }]) (.ret)) (.skip))) (.seq
 (.seq (.reg 3 false [ { d := some 5, op := .mov (.c (.int .i64 0)) }]) (.block 0 (.loop (.seq
 (.seq (.reg 4 false [ { d := some 11, op := .mov (.t 5) }, { d := some 12, op := .mov (.t 0) }, { d := some 13, op := .len (.t 12) }, { d := some 14, op := .bin .lss (.t 11) (.t 13) }]) (.cond (.t 14) (.skip) (.exit 0))) (.seq (.block 1
 (.seq (.reg 6 true [ { d := some 17, op := .mov (.t 0), aft := [] }, { d := some 18, op := .mov (.t 5), aft := [] }, { d := some 19, op := .iaddr 4 (.t 17) (.t 18), aft := [0, 1] }, { d := some 20, op := .load true 4 (.t 19), aft := [2] }, { d := some 21, op := .mov (.t 1), aft := [] }, { d := some 22, op := .mov (.t 5), aft := [] }, { d := some 23, op := .iaddr 4 (.t 21) (.t 22), aft := [4, 5] }, { d := some 24, op := .load true 4 (.t 23), aft := [6] }, { d := some 25, op := .eqs true [.i, .i, .i, .i] (.t 20) (.t 24), aft := [3, 7] }]) (.cond (.t 25)
 (.seq (.reg 7 false [ { d := some 4, op := .mov (.c (.bool false)) }]) (.ret)) (.skip)))) (.reg 5 false [ { d := some 15, op := .mov (.t 5) }, { d := some 16, op := .bin .add (.t 15) (.c (.int .i64 1)) }, { d := some 5, op := .mov (.t 16) }]))))))
 (.seq (.reg 8 false [ { d := some 4, op := .mov (.c (.bool true)) }]) (.ret))))
def rr_ref02_SameBranches : List RRes := [.t 4]
theorem pc_ref02_SameBranches {G : Nat → Option (List AV)} {args : List AV} {v : AV} (hn : args.length ≤ Tryd.f38.ntmps) (h : ∀ R : Run, R.G = G → R.Top → AR Tryd.prog R rc_ref02_SameBranches (initSt args) (Fin rr_ref02_SameBranches v)) : PC Tryd.prog G 38 args v :=
  PC_of Tryd.func38 rfl (by kernel_rfl) (rc := rc_ref02_SameBranches) (by kernel_rfl) (rs := rr_ref02_SameBranches) (by kernel_rfl) hn (fun R _ hG hr => h R hG hr)

end Go.Proofs.YtdpmioiamcgfkaaDoor

/-! The abstract machine's code of functions of the program, as a program of ours printed it; that it is theirs is proved beside each. -/
namespace Go.Proofs.YtdpmioiamcgfkaaDoor
open Go.RowKit

noncomputable def rc_sheet_open : RCode :=
  .seq (.reg 0 false [ { d := some 1, op := .box (.t 0) }, { d := some 2, op := .mov (.c (.nilp)) }, { d := some 3, op := .mov (.c (.int .i64 0)) }]) (.scope
 (.seq (.reg 1 false [ { d := some 16, op := .load true 1 (.t 1) }, { d := some 17, op := .build [.nils, .nils] [(0, 1, .t 16)] }, { d := some 18, op := .box (.t 17) }, { d := some 4, op := .alloc [.nilp] }, { d := none, op := .store 1 (.t 4) (.t 18) }]) (.seq
 (.seq (.reg 2 false [ { d := some 19, op := .faddr 0 (.t 1) }, { d := some 20, op := .load false 1 (.t 19) }, { d := some 21, op := .len (.t 20) }, { d := some 22, op := .bsl false 1 1 [.int .i64 0] [(0, .t 21)] }, { d := some 23, op := .call 101 [.c (.int .i64 1), .c (.int .i64 60), .t 22] }, { d := some 24, op := .un .not (.t 23) }]) (.cond (.t 24)
 (.seq (.reg 3 false [ { d := some 2, op := .mov (.c (.nilp)) }, { d := some 3, op := .mov (.c (.int .i64 20)) }]) (.ret)) (.skip))) (.seq (.label 0) (.seq
 (.seq (.reg 4 false [ { d := some 25, op := .faddr 0 (.t 1) }, { d := some 26, op := .load false 1 (.t 25) }, { d := some 27, op := .len (.t 26) }, { d := some 28, op := .mov (.c (.int .i64 0)) }]) (.block 0 (.loop
 (.seq (.reg 5 false [ { d := some 29, op := .bin .lss (.t 28) (.t 27) }]) (.seq (.cond (.t 29) (.skip) (.exit 0)) (.seq (.block 1
 (.seq (.reg 6 false [ { d := some 30, op := .mov (.t 28) }, { d := some 31, op := .iaddr 5 (.t 26) (.t 28) }, { d := some 32, op := .load true 5 (.t 31) }, { d := some 6, op := .alloc [.int .i64 0, .int .i64 0, .int .u8 0, .nils, .nils] }, { d := some 5, op := .mov (.t 30) }, { d := none, op := .store 5 (.t 6) (.t 32) }]) (.seq
 (.seq (.reg 7 false [ { d := some 33, op := .load true 4 (.g 0) }, { d := some 34, op := .mov (.c (.int .i64 0)) }]) (.block 2 (.loop
 (.seq (.reg 8 false [ { d := some 35, op := .bin .lss (.t 34) (.c (.int .i64 4)) }]) (.seq (.cond (.t 35) (.skip) (.exit 2)) (.seq (.block 3
 (.seq (.reg 9 false [ { d := some 36, op := .vop (.aidx true 4 1) [(.t 33), (.t 34)] }, { d := some 8, op := .alloc [.nilf] }, { d := none, op := .store 1 (.t 8) (.t 36) }])
 (.seq (.reg 10 false [ { d := some 37, op := .faddr 0 (.t 8) }, { d := some 38, op := .load false 1 (.t 37) }, { d := some 39, op := .load true 5 (.t 6) }, { d := some 40, op := .callv (.t 38) [.t 39] }, { d := some 41, op := .un .not (.t 40) }]) (.cond (.t 41)
 (.seq (.reg 11 false [ { d := some 2, op := .mov (.c (.nilp)) }, { d := some 3, op := .mov (.c (.int .i64 20)) }]) (.ret)) (.skip))))) (.reg 12 false [ { d := some 42, op := .bin .add (.t 34) (.c (.int .i64 1)) }, { d := some 34, op := .mov (.t 42) }]))))))) (.seq
 (.seq (.reg 13 false [ { d := some 43, op := .mov (.t 5) }, { d := some 44, op := .bin .gtr (.t 43) (.c (.int .i64 0)) }]) (.cond (.t 44)
 (.seq (.reg 14 false [ { d := some 45, op := .faddr 0 (.t 1) }, { d := some 46, op := .load false 1 (.t 45) }, { d := some 47, op := .mov (.t 5) }, { d := some 48, op := .bin .sub (.t 47) (.c (.int .i64 1)) }, { d := some 49, op := .iaddr 5 (.t 46) (.t 48) }, { d := some 50, op := .load true 5 (.t 49) }, { d := some 9, op := .alloc [.int .i64 0, .int .i64 0, .int .u8 0, .nils, .nils] }, { d := none, op := .store 5 (.t 9) (.t 50) }])
 (.seq (.reg 15 false [ { d := some 51, op := .faddr 0 (.t 9) }, { d := some 52, op := .load false 1 (.t 51) }, { d := some 53, op := .faddr 0 (.t 6) }, { d := some 54, op := .load false 1 (.t 53) }, { d := some 55, op := .bin .eql (.t 52) (.t 54) }]) (.cond (.t 55) (.seq
 (.seq (.reg 16 false [ { d := some 56, op := .faddr 1 (.t 9) }, { d := some 57, op := .load false 1 (.t 56) }, { d := some 58, op := .bin .add (.t 57) (.c (.int .i64 1)) }, { d := some 59, op := .faddr 1 (.t 6) }, { d := some 60, op := .load false 1 (.t 59) }, { d := some 61, op := .bin .neq (.t 58) (.t 60) }, { d := some 62, op := .mov (.t 61) }, { d := some 63, op := .faddr 2 (.t 9), guard := some (62, false) }, { d := some 64, op := .load false 1 (.t 63), guard := some (62, false) }, { d := some 65, op := .faddr 2 (.t 6), guard := some (62, false) }, { d := some 66, op := .load false 1 (.t 65), guard := some (62, false) }, { d := some 67, op := .bin .neq (.t 64) (.t 66), guard := some (62, false) }, { d := some 68, op := .pick (.t 62) (.c (.bool true)) (.t 67) }]) (.cond (.t 68)
 (.seq (.reg 17 false [ { d := some 2, op := .mov (.c (.nilp)) }, { d := some 3, op := .mov (.c (.int .i64 20)) }]) (.ret)) (.skip))) (.exit 1))
 (.seq (.reg 18 false [ { d := some 69, op := .faddr 0 (.t 9) }, { d := some 70, op := .load false 1 (.t 69) }, { d := some 71, op := .faddr 0 (.t 6) }, { d := some 72, op := .load false 1 (.t 71) }, { d := some 73, op := .bin .gtr (.t 70) (.t 72) }]) (.cond (.t 73)
 (.seq (.reg 19 false [ { d := some 2, op := .mov (.c (.nilp)) }, { d := some 3, op := .mov (.c (.int .i64 20)) }]) (.ret)) (.skip)))))) (.skip))) (.seq
 (.seq (.reg 20 false [ { d := some 74, op := .faddr 1 (.t 6) }, { d := some 75, op := .load false 1 (.t 74) }, { d := some 76, op := .bin .neq (.t 75) (.c (.int .i64 1)) }]) (.cond (.t 76)
 (.seq (.reg 21 false [ { d := some 2, op := .mov (.c (.nilp)) }, { d := some 3, op := .mov (.c (.int .i64 20)) }]) (.ret)) (.skip))) (.reg 22 true [ { d := some 77, op := .load false 1 (.t 4), aft := [] }, { d := some 78, op := .load false 1 (.t 4), aft := [] }, { d := some 79, op := .nilck (.t 78), aft := [1] }, { d := some 80, op := .faddr 1 (.t 79), aft := [2] }, { d := some 81, op := .load false 1 (.t 80), aft := [3] }, { d := some 82, op := .faddr 0 (.t 6), aft := [] }, { d := some 83, op := .load false 1 (.t 82), aft := [5] }, { d := some 84, op := .bsl false 1 1 [.int .i64 0] [(0, .t 83)], aft := [6] }, { d := some 85, op := .app 1 8 (.t 81) (.t 84), aft := [4, 7] }, { d := some 86, op := .nilck (.t 77), aft := [0, 0, 1, 2, 3, 4, 5, 6, 7, 8] }, { d := some 87, op := .faddr 1 (.t 86), aft := [9, 0, 1, 2, 3, 4, 5, 6, 7, 8] }, { d := none, op := .store 1 (.t 87) (.t 85), aft := [10, 8, 8, 0, 1, 2, 3, 4, 5, 6, 7, 8] }])))))) (.reg 23 false [ { d := some 88, op := .bin .add (.t 28) (.c (.int .i64 1)) }, { d := some 28, op := .mov (.t 88) }]))))))) (.seq
 (.seq (.reg 24 false [ { d := some 89, op := .load false 1 (.t 4) }, { d := some 90, op := .nilck (.t 89) }, { d := some 91, op := .faddr 1 (.t 90) }, { d := some 92, op := .load false 1 (.t 91) }, { d := some 93, op := .len (.t 92) }, { d := some 94, op := .bin .gtr (.t 93) (.c (.int .i64 20)) }]) (.cond (.t 94)
 (.seq (.reg 25 false [ { d := some 2, op := .mov (.c (.nilp)) }, { d := some 3, op := .mov (.c (.int .i64 20)) }]) (.ret)) (.skip))) (.seq
 (.seq (.reg 26 false [ { d := some 95, op := .faddr 0 (.t 1) }, { d := some 96, op := .load false 1 (.t 95) }, { d := some 97, op := .len (.t 96) }, { d := some 98, op := .mov (.c (.int .i64 0)) }]) (.block 4 (.loop
 (.seq (.reg 27 false [ { d := some 99, op := .bin .lss (.t 98) (.t 97) }]) (.seq (.cond (.t 99) (.skip) (.exit 4)) (.seq (.block 5
 (.seq (.reg 28 false [ { d := some 100, op := .iaddr 5 (.t 96) (.t 98) }, { d := some 101, op := .load true 5 (.t 100) }, { d := some 11, op := .alloc [.int .i64 0, .int .i64 0, .int .u8 0, .nils, .nils] }, { d := none, op := .store 5 (.t 11) (.t 101) }])
 (.seq (.reg 29 false [ { d := some 102, op := .faddr 3 (.t 11) }, { d := some 103, op := .load false 1 (.t 102) }, { d := some 104, op := .mkf (.func 103) [] [.t 4] }, { d := some 105, op := .call 102 [.t 103, .t 104] }]) (.cond (.t 105)
 (.seq (.reg 30 false [ { d := some 2, op := .mov (.c (.nilp)) }, { d := some 3, op := .mov (.c (.int .i64 20)) }]) (.ret)) (.skip))))) (.reg 31 false [ { d := some 106, op := .bin .add (.t 98) (.c (.int .i64 1)) }, { d := some 98, op := .mov (.t 106) }])))))))
 (.seq (.reg 32 false [ { d := some 108, op := .load false 1 (.t 4) }, { d := some 109, op := .call 75 [.t 108] }, { d := some 107, op := .mov (.t 109) }, { d := some 110, op := .ext 0 (.t 107) }, { d := some 111, op := .ext 1 (.t 107) }, { d := some 12, op := .mov (.t 110) }, { d := some 13, op := .mov (.t 111) }]) (.seq
 (.seq (.reg 33 false [ { d := some 112, op := .mov (.t 13) }]) (.cond (.t 112)
 (.seq (.reg 34 false [ { d := some 2, op := .mov (.c (.nilp)) }, { d := some 3, op := .mov (.c (.int .i64 21)) }]) (.ret)) (.skip))) (.seq (.raw (opnR Tryd.prog))
 (.seq (.reg 40 false [ { d := some 121, op := .load false 1 (.t 4) }, { d := some 2, op := .mov (.t 121) }, { d := some 3, op := .mov (.c (.int .i64 0)) }]) (.ret))))))))))))
def rr_sheet_open : List RRes := [.t 2, .t 3]
theorem pc_sheet_open {G : Nat → Option (List AV)} {args : List AV} {v : AV} (hn : args.length ≤ Tryd.f67.ntmps) (h : ∀ R : Run, R.G = G → R.Top → AR Tryd.prog R rc_sheet_open (initSt args) (Fin rr_sheet_open v)) : PC Tryd.prog G 67 args v :=
  PC_of Tryd.func67 rfl (by kernel_rfl) (rc := rc_sheet_open) (by kernel_rfl) (rs := rr_sheet_open) (by kernel_rfl) hn (fun R _ hG hr => h R hG hr)

end Go.Proofs.YtdpmioiamcgfkaaDoor

/-! The abstract machine's code of functions of the program, as a program of ours printed it; that it is theirs is proved beside each. -/
namespace Go.Proofs.YtdpmioiamcgfkaaDoor
open Go.RowKit

def rc_size_in : RCode :=
  .seq (.reg 0 false [ { d := some 3, op := .box (.t 0) }, { d := some 4, op := .box (.t 1) }, { d := some 6, op := .mov (.c (.bool false)) }])
 (.seq (.reg 1 false [ { d := some 7, op := .mov (.t 2) }, { d := some 8, op := .mkf (.func 118) [] [.t 3, .t 4] }, { d := some 9, op := .call 117 [.t 7, .t 8] }, { d := some 10, op := .un .not (.t 9) }, { d := some 6, op := .mov (.t 10) }]) (.ret))
def rr_size_in : List RRes := [.t 6]
theorem pc_size_in {G : Nat → Option (List AV)} {args : List AV} {v : AV} (hn : args.length ≤ Tryd.f98.ntmps) (h : ∀ R : Run, R.G = G → R.Top → AR Tryd.prog R rc_size_in (initSt args) (Fin rr_size_in v)) : PC Tryd.prog G 98 args v :=
  PC_of Tryd.func98 rfl (by kernel_rfl) (rc := rc_size_in) (by kernel_rfl) (rs := rr_size_in) (by kernel_rfl) hn (fun R _ hG hr => h R hG hr)

def rc_size_in_1 : RCode :=
  .seq (.reg 0 false [ { d := some 4, op := .mov (.c (.bool false)) }])
 (.seq (.reg 1 false [ { d := some 5, op := .mov (.t 0) }, { d := some 6, op := .load false 1 (.t 1) }, { d := some 7, op := .bin .lss (.t 5) (.t 6) }, { d := some 8, op := .mov (.t 7) }, { d := some 9, op := .mov (.t 0), guard := some (8, false) }, { d := some 10, op := .load false 1 (.t 2), guard := some (8, false) }, { d := some 11, op := .bin .gtr (.t 9) (.t 10), guard := some (8, false) }, { d := some 12, op := .pick (.t 8) (.c (.bool true)) (.t 11) }, { d := some 4, op := .mov (.t 12) }]) (.ret))
def rr_size_in_1 : List RRes := [.t 4]
theorem pc_size_in_1 {G : Nat → Option (List AV)} {args : List AV} {v : AV} (hn : args.length ≤ Tryd.f118.ntmps) (h : ∀ R : Run, R.G = G → R.Top → AR Tryd.prog R rc_size_in_1 (initSt args) (Fin rr_size_in_1 v)) : PC Tryd.prog G 118 args v :=
  PC_of Tryd.func118 rfl (by kernel_rfl) (rc := rc_size_in_1) (by kernel_rfl) (rs := rr_size_in_1) (by kernel_rfl) hn (fun R _ hG hr => h R hG hr)

def rc_slices_ContainsFunc_int_int : RCode :=
  .seq (.reg 0 false [ { d := some 4, op := .mov (.c (.bool false)) }])
 (.seq (.reg 1 false [ { d := some 5, op := .mov (.t 0) }, { d := some 6, op := .mov (.t 1) }, { d := some 7, op := .call 132 [.t 5, .t 6] }, { d := some 8, op := .bin .geq (.t 7) (.c (.int .i64 0)) }, { d := some 4, op := .mov (.t 8) }]) (.ret))
def rr_slices_ContainsFunc_int_int : List RRes := [.t 4]
theorem pc_slices_ContainsFunc_int_int {G : Nat → Option (List AV)} {args : List AV} {v : AV} (hn : args.length ≤ Tryd.f117.ntmps) (h : ∀ R : Run, R.G = G → R.Top → AR Tryd.prog R rc_slices_ContainsFunc_int_int (initSt args) (Fin rr_slices_ContainsFunc_int_int v)) : PC Tryd.prog G 117 args v :=
  PC_of Tryd.func117 rfl (by kernel_rfl) (rc := rc_slices_ContainsFunc_int_int) (by kernel_rfl) (rs := rr_slices_ContainsFunc_int_int) (by kernel_rfl) hn (fun R _ hG hr => h R hG hr)

def rc_slices_IndexFunc_int_int : RCode :=
  .seq (.reg 0 false [ { d := some 4, op := .mov (.c (.int .i64 0)) }]) (.seq
 (.seq (.reg 1 false [ { d := some 6, op := .mov (.t 0) }, { d := some 7, op := .len (.t 6) }, { d := some 8, op := .mov (.c (.int .i64 0)) }]) (.block 0 (.loop
 (.seq (.reg 2 false [ { d := some 9, op := .bin .lss (.t 8) (.t 7) }]) (.seq (.cond (.t 9) (.skip) (.exit 0)) (.seq (.block 1
 (.seq (.reg 3 false [ { d := some 10, op := .mov (.t 8) }, { d := some 5, op := .mov (.t 10) }])
 (.seq (.reg 4 false [ { d := some 11, op := .mov (.t 1) }, { d := some 12, op := .mov (.t 0) }, { d := some 13, op := .mov (.t 5) }, { d := some 14, op := .iaddr 1 (.t 12) (.t 13) }, { d := some 15, op := .load false 1 (.t 14) }, { d := some 16, op := .callv (.t 11) [.t 15] }]) (.cond (.t 16)
 (.seq (.reg 5 false [ { d := some 17, op := .mov (.t 5) }, { d := some 4, op := .mov (.t 17) }]) (.ret)) (.skip))))) (.reg 6 false [ { d := some 18, op := .bin .add (.t 8) (.c (.int .i64 1)) }, { d := some 8, op := .mov (.t 18) }])))))))
 (.seq (.reg 7 false [ { d := some 4, op := .mov (.c (.int .i64 (-1))) }]) (.ret)))
def rr_slices_IndexFunc_int_int : List RRes := [.t 4]
theorem pc_slices_IndexFunc_int_int {G : Nat → Option (List AV)} {args : List AV} {v : AV} (hn : args.length ≤ Tryd.f132.ntmps) (h : ∀ R : Run, R.G = G → R.Top → AR Tryd.prog R rc_slices_IndexFunc_int_int (initSt args) (Fin rr_slices_IndexFunc_int_int v)) : PC Tryd.prog G 132 args v :=
  PC_of Tryd.func132 rfl (by kernel_rfl) (rc := rc_slices_IndexFunc_int_int) (by kernel_rfl) (rs := rr_slices_IndexFunc_int_int) (by kernel_rfl) hn (fun R _ hG hr => h R hG hr)

def rc_size_Check : RCode :=
  .seq (.reg 0 false [ { d := some 1, op := .box (.t 0) }, { d := some 2, op := .mov (.c (.int .i64 0)) }]) (.seq
 (.seq (.reg 1 false [ { d := some 3, op := .faddr 0 (.t 1) }, { d := some 4, op := .load false 1 (.t 3) }, { d := some 5, op := .faddr 1 (.t 1) }, { d := some 6, op := .load false 1 (.t 5) }, { d := some 7, op := .faddr 2 (.t 1) }, { d := some 8, op := .load false 1 (.t 7) }, { d := some 9, op := .bsl false 1 3 [.int .i64 0, .int .i64 0, .int .i64 0] [(0, .t 4), (1, .t 6), (2, .t 8)] }, { d := some 10, op := .call 98 [.c (.int .i64 0), .c (.int .i64 1000000000), .t 9] }, { d := some 11, op := .un .not (.t 10) }, { d := some 12, op := .mov (.t 11) }, { d := some 13, op := .faddr 1 (.t 1), guard := some (12, false) }, { d := some 14, op := .load false 1 (.t 13), guard := some (12, false) }, { d := some 15, op := .faddr 2 (.t 1), guard := some (12, false) }, { d := some 16, op := .load false 1 (.t 15), guard := some (12, false) }, { d := some 17, op := .bin .gtr (.t 14) (.t 16), guard := some (12, false) }, { d := some 18, op := .pick (.t 12) (.c (.bool true)) (.t 17) }]) (.cond (.t 18)
 (.seq (.reg 2 false [ { d := some 2, op := .mov (.c (.int .i64 10)) }]) (.ret)) (.skip)))
 (.seq (.reg 3 false [ { d := some 2, op := .mov (.c (.int .i64 0)) }]) (.ret)))
def rr_size_Check : List RRes := [.t 2]
theorem pc_size_Check {G : Nat → Option (List AV)} {args : List AV} {v : AV} (hn : args.length ≤ Tryd.f62.ntmps) (h : ∀ R : Run, R.G = G → R.Top → AR Tryd.prog R rc_size_Check (initSt args) (Fin rr_size_Check v)) : PC Tryd.prog G 62 args v :=
  PC_of Tryd.func62 rfl (by kernel_rfl) (rc := rc_size_Check) (by kernel_rfl) (rs := rr_size_Check) (by kernel_rfl) hn (fun R _ hG hr => h R hG hr)

def rc_sheet_in : RCode :=
  .seq (.reg 0 false [ { d := some 3, op := .box (.t 0) }, { d := some 4, op := .box (.t 1) }, { d := some 6, op := .mov (.c (.bool false)) }])
 (.seq (.reg 1 false [ { d := some 7, op := .mov (.t 2) }, { d := some 8, op := .mkf (.func 119) [] [.t 3, .t 4] }, { d := some 9, op := .call 117 [.t 7, .t 8] }, { d := some 10, op := .un .not (.t 9) }, { d := some 6, op := .mov (.t 10) }]) (.ret))
def rr_sheet_in : List RRes := [.t 6]
theorem pc_sheet_in {G : Nat → Option (List AV)} {args : List AV} {v : AV} (hn : args.length ≤ Tryd.f101.ntmps) (h : ∀ R : Run, R.G = G → R.Top → AR Tryd.prog R rc_sheet_in (initSt args) (Fin rr_sheet_in v)) : PC Tryd.prog G 101 args v :=
  PC_of Tryd.func101 rfl (by kernel_rfl) (rc := rc_sheet_in) (by kernel_rfl) (rs := rr_sheet_in) (by kernel_rfl) hn (fun R _ hG hr => h R hG hr)

def rc_sheet_in_1 : RCode :=
  .seq (.reg 0 false [ { d := some 4, op := .mov (.c (.bool false)) }])
 (.seq (.reg 1 false [ { d := some 5, op := .mov (.t 0) }, { d := some 6, op := .load false 1 (.t 1) }, { d := some 7, op := .bin .lss (.t 5) (.t 6) }, { d := some 8, op := .mov (.t 7) }, { d := some 9, op := .mov (.t 0), guard := some (8, false) }, { d := some 10, op := .load false 1 (.t 2), guard := some (8, false) }, { d := some 11, op := .bin .gtr (.t 9) (.t 10), guard := some (8, false) }, { d := some 12, op := .pick (.t 8) (.c (.bool true)) (.t 11) }, { d := some 4, op := .mov (.t 12) }]) (.ret))
def rr_sheet_in_1 : List RRes := [.t 4]
theorem pc_sheet_in_1 {G : Nat → Option (List AV)} {args : List AV} {v : AV} (hn : args.length ≤ Tryd.f119.ntmps) (h : ∀ R : Run, R.G = G → R.Top → AR Tryd.prog R rc_sheet_in_1 (initSt args) (Fin rr_sheet_in_1 v)) : PC Tryd.prog G 119 args v :=
  PC_of Tryd.func119 rfl (by kernel_rfl) (rc := rc_sheet_in_1) (by kernel_rfl) (rs := rr_sheet_in_1) (by kernel_rfl) hn (fun R _ hG hr => h R hG hr)

def rc_sheet_name : RCode :=
  .seq (.reg 0 false [ { d := some 1, op := .box (.t 0) }, { d := some 2, op := .alloc [.int .i64 0, .int .i64 0] }])
 (.seq (.reg 1 false [ { d := some 3, op := .faddr 0 (.t 1) }, { d := some 4, op := .load false 1 (.t 3) }, { d := some 5, op := .faddr 1 (.t 1) }, { d := some 6, op := .load false 1 (.t 5) }, { d := some 7, op := .build [.int .i64 0, .int .i64 0] [(0, 1, .t 4), (1, 1, .t 6)] }, { d := none, op := .store 2 (.t 2) (.t 7) }]) (.ret))
def rr_sheet_name : List RRes := [.c 2 true 2]
theorem pc_sheet_name {G : Nat → Option (List AV)} {args : List AV} {v : AV} (hn : args.length ≤ Tryd.f84.ntmps) (h : ∀ R : Run, R.G = G → R.Top → AR Tryd.prog R rc_sheet_name (initSt args) (Fin rr_sheet_name v)) : PC Tryd.prog G 84 args v :=
  PC_of Tryd.func84 rfl (by kernel_rfl) (rc := rc_sheet_name) (by kernel_rfl) (rs := rr_sheet_name) (by kernel_rfl) hn (fun R _ hG hr => h R hG hr)

def rc_sheet_checks_1 : RCode :=
  .seq (.reg 0 false [ { d := some 1, op := .box (.t 0) }, { d := some 2, op := .mov (.c (.bool false)) }])
 (.seq (.reg 1 false [ { d := some 3, op := .faddr 0 (.t 1) }, { d := some 4, op := .load false 1 (.t 3) }, { d := some 5, op := .bsl false 1 1 [.int .i64 0] [(0, .t 4)] }, { d := some 6, op := .call 101 [.c (.int .i64 1), .c (.int .i64 9999), .t 5] }, { d := some 7, op := .mov (.t 6) }, { d := some 8, op := .faddr 1 (.t 1), guard := some (7, true) }, { d := some 9, op := .load false 1 (.t 8), guard := some (7, true) }, { d := some 10, op := .bsl false 1 1 [.int .i64 0] [(0, .t 9)], guard := some (7, true) }, { d := some 11, op := .call 101 [.c (.int .i64 1), .c (.int .i64 8), .t 10], guard := some (7, true) }, { d := some 12, op := .pick (.t 7) (.t 11) (.c (.bool false)) }, { d := some 2, op := .mov (.t 12) }]) (.ret))
def rr_sheet_checks_1 : List RRes := [.t 2]
theorem pc_sheet_checks_1 {G : Nat → Option (List AV)} {args : List AV} {v : AV} (hn : args.length ≤ Tryd.f157.ntmps) (h : ∀ R : Run, R.G = G → R.Top → AR Tryd.prog R rc_sheet_checks_1 (initSt args) (Fin rr_sheet_checks_1 v)) : PC Tryd.prog G 157 args v :=
  PC_of Tryd.func157 rfl (by kernel_rfl) (rc := rc_sheet_checks_1) (by kernel_rfl) (rs := rr_sheet_checks_1) (by kernel_rfl) hn (fun R _ hG hr => h R hG hr)

def rc_sheet_checks_2 : RCode :=
  .seq (.reg 0 false [ { d := some 1, op := .box (.t 0) }, { d := some 2, op := .mov (.c (.bool false)) }]) (.seq
 (.seq (.reg 1 false [ { d := some 3, op := .faddr 2 (.t 1) }, { d := some 4, op := .load false 1 (.t 3) }, { d := some 5, op := .bin .eql (.t 4) (.c (.int .u8 1)) }]) (.cond (.t 5)
 (.seq (.reg 2 false [ { d := some 6, op := .faddr 3 (.t 1) }, { d := some 7, op := .load false 1 (.t 6) }, { d := some 8, op := .len (.t 7) }, { d := some 9, op := .bsl false 1 1 [.int .i64 0] [(0, .t 8)] }, { d := some 10, op := .call 101 [.c (.int .i64 1), .c (.int .i64 8), .t 9] }, { d := some 11, op := .mov (.t 10) }, { d := some 12, op := .faddr 4 (.t 1), guard := some (11, true) }, { d := some 13, op := .load false 1 (.t 12), guard := some (11, true) }, { d := some 14, op := .len (.t 13), guard := some (11, true) }, { d := some 15, op := .bin .eql (.t 14) (.c (.int .i64 0)), guard := some (11, true) }, { d := some 16, op := .pick (.t 11) (.t 15) (.c (.bool false)) }, { d := some 2, op := .mov (.t 16) }]) (.ret)) (.skip)))
 (.seq (.reg 3 false [ { d := some 17, op := .faddr 2 (.t 1) }, { d := some 18, op := .load false 1 (.t 17) }, { d := some 19, op := .conv .i64 (.t 18) }, { d := some 20, op := .bsl false 1 1 [.int .i64 0] [(0, .t 19)] }, { d := some 21, op := .call 101 [.c (.int .i64 2), .c (.int .i64 3), .t 20] }, { d := some 22, op := .mov (.t 21) }, { d := some 23, op := .faddr 4 (.t 1), guard := some (22, true) }, { d := some 24, op := .load false 1 (.t 23), guard := some (22, true) }, { d := some 25, op := .len (.t 24), guard := some (22, true) }, { d := some 26, op := .bin .leq (.t 25) (.c (.int .i64 4)), guard := some (22, true) }, { d := some 27, op := .pick (.t 22) (.t 26) (.c (.bool false)) }, { d := some 28, op := .mov (.t 27) }, { d := some 29, op := .faddr 3 (.t 1), guard := some (28, true) }, { d := some 30, op := .load false 1 (.t 29), guard := some (28, true) }, { d := some 31, op := .len (.t 30), guard := some (28, true) }, { d := some 32, op := .bin .eql (.t 31) (.c (.int .i64 0)), guard := some (28, true) }, { d := some 33, op := .pick (.t 28) (.t 32) (.c (.bool false)) }, { d := some 2, op := .mov (.t 33) }]) (.ret)))
def rr_sheet_checks_2 : List RRes := [.t 2]
theorem pc_sheet_checks_2 {G : Nat → Option (List AV)} {args : List AV} {v : AV} (hn : args.length ≤ Tryd.f158.ntmps) (h : ∀ R : Run, R.G = G → R.Top → AR Tryd.prog R rc_sheet_checks_2 (initSt args) (Fin rr_sheet_checks_2 v)) : PC Tryd.prog G 158 args v :=
  PC_of Tryd.func158 rfl (by kernel_rfl) (rc := rc_sheet_checks_2) (by kernel_rfl) (rs := rr_sheet_checks_2) (by kernel_rfl) hn (fun R _ hG hr => h R hG hr)

def rc_sheet_checks_3 : RCode :=
  .seq (.reg 0 false [ { d := some 1, op := .box (.t 0) }, { d := some 2, op := .mov (.c (.bool false)) }]) (.seq
 (.seq (.reg 1 false [ { d := some 5, op := .faddr 3 (.t 1) }, { d := some 6, op := .load false 1 (.t 5) }, { d := some 7, op := .len (.t 6) }, { d := some 8, op := .mov (.c (.int .i64 0)) }]) (.block 0 (.loop
 (.seq (.reg 2 false [ { d := some 9, op := .bin .lss (.t 8) (.t 7) }]) (.seq (.cond (.t 9) (.skip) (.exit 0)) (.seq (.block 1
 (.seq (.reg 3 false [ { d := some 10, op := .mov (.t 8) }, { d := some 11, op := .iaddr 2 (.t 6) (.t 8) }, { d := some 12, op := .load true 2 (.t 11) }, { d := some 4, op := .alloc [.int .i64 0, .int .i64 0] }, { d := some 3, op := .mov (.t 10) }, { d := none, op := .store 2 (.t 4) (.t 12) }])
 (.seq (.reg 4 true [ { d := some 13, op := .faddr 0 (.t 4), aft := [] }, { d := some 14, op := .load false 1 (.t 13), aft := [0] }, { d := some 15, op := .bsl false 1 1 [.int .i64 0] [(0, .t 14)], aft := [1] }, { d := some 16, op := .call 101 [.c (.int .i64 1), .c (.int .i64 9999), .t 15], aft := [2] }, { d := some 17, op := .un .not (.t 16), aft := [3] }, { d := some 18, op := .mov (.t 17), aft := [4, 3] }, { d := some 19, op := .faddr 1 (.t 4), guard := some (18, false), aft := [5] }, { d := some 20, op := .load false 1 (.t 19), guard := some (18, false), aft := [6, 5] }, { d := some 21, op := .bsl false 1 1 [.int .i64 0] [(0, .t 20)], guard := some (18, false), aft := [7, 5] }, { d := some 22, op := .call 101 [.c (.int .i64 1), .c (.int .i64 20), .t 21], guard := some (18, false), aft := [8, 5, 5] }, { d := some 23, op := .un .not (.t 22), guard := some (18, false), aft := [9, 5] }, { d := some 24, op := .pick (.t 18) (.c (.bool true)) (.t 23), aft := [5, 10] }, { d := some 25, op := .mov (.t 24), aft := [11, 9] }, { d := some 26, op := .faddr 0 (.t 4), guard := some (25, false), aft := [12] }, { d := some 27, op := .load false 1 (.t 26), guard := some (25, false), aft := [13, 12] }, { d := some 28, op := .faddr 0 (.t 1), guard := some (25, false), aft := [12] }, { d := some 29, op := .load false 1 (.t 28), guard := some (25, false), aft := [15, 12] }, { d := some 30, op := .bin .eql (.t 27) (.t 29), guard := some (25, false), aft := [14, 16, 12] }, { d := some 31, op := .pick (.t 25) (.c (.bool true)) (.t 30), aft := [12, 17] }, { d := some 32, op := .mov (.t 31), aft := [18, 12] }, { d := some 33, op := .mov (.t 3), guard := some (32, false), aft := [19] }, { d := some 34, op := .bin .gtr (.t 33) (.c (.int .i64 0)), guard := some (32, false), aft := [20, 19] }, { d := some 35, op := .mov (.t 34), guard := some (32, false), aft := [21, 19, 19] }, { d := some 36, op := .faddr 3 (.t 1), guard := some (35, true), aft := [22] }, { d := some 37, op := .load false 1 (.t 36), guard := some (35, true), aft := [23, 22] }, { d := some 38, op := .mov (.t 3), guard := some (35, true), aft := [22] }, { d := some 39, op := .bin .sub (.t 38) (.c (.int .i64 1)), guard := some (35, true), aft := [25, 22] }, { d := some 40, op := .iaddr 2 (.t 37) (.t 39), guard := some (35, true), aft := [24, 26, 22] }, { d := some 41, op := .faddr 0 (.t 40), guard := some (35, true), aft := [27, 22] }, { d := some 42, op := .load false 1 (.t 41), guard := some (35, true), aft := [28, 22] }, { d := some 43, op := .faddr 0 (.t 4), guard := some (35, true), aft := [22] }, { d := some 44, op := .load false 1 (.t 43), guard := some (35, true), aft := [30, 22] }, { d := some 45, op := .bin .geq (.t 42) (.t 44), guard := some (35, true), aft := [29, 31, 22] }, { d := some 46, op := .pick (.t 35) (.t 45) (.c (.bool false)), guard := some (32, false), aft := [22, 32, 19] }, { d := some 47, op := .pick (.t 32) (.c (.bool true)) (.t 46), aft := [19, 33] }]) (.cond (.t 47)
 (.seq (.reg 5 false [ { d := some 2, op := .mov (.c (.bool false)) }]) (.ret)) (.skip))))) (.reg 6 false [ { d := some 48, op := .bin .add (.t 8) (.c (.int .i64 1)) }, { d := some 8, op := .mov (.t 48) }])))))))
 (.seq (.reg 7 false [ { d := some 2, op := .mov (.c (.bool true)) }]) (.ret)))
def rr_sheet_checks_3 : List RRes := [.t 2]
theorem pc_sheet_checks_3 {G : Nat → Option (List AV)} {args : List AV} {v : AV} (hn : args.length ≤ Tryd.f159.ntmps) (h : ∀ R : Run, R.G = G → R.Top → AR Tryd.prog R rc_sheet_checks_3 (initSt args) (Fin rr_sheet_checks_3 v)) : PC Tryd.prog G 159 args v :=
  PC_of Tryd.func159 rfl (by kernel_rfl) (rc := rc_sheet_checks_3) (by kernel_rfl) (rs := rr_sheet_checks_3) (by kernel_rfl) hn (fun R _ hG hr => h R hG hr)

def rc_sheet_checks_4 : RCode :=
  .seq (.reg 0 false [ { d := some 1, op := .box (.t 0) }, { d := some 2, op := .mov (.c (.bool false)) }])
 (.seq (.reg 1 false [ { d := some 3, op := .faddr 4 (.t 1) }, { d := some 4, op := .load false 1 (.t 3) }, { d := some 5, op := .call 161 [.t 4, .c (.func (.func 162) [] [])] }, { d := some 6, op := .un .not (.t 5) }, { d := some 2, op := .mov (.t 6) }]) (.ret))
def rr_sheet_checks_4 : List RRes := [.t 2]
theorem pc_sheet_checks_4 {G : Nat → Option (List AV)} {args : List AV} {v : AV} (hn : args.length ≤ Tryd.f160.ntmps) (h : ∀ R : Run, R.G = G → R.Top → AR Tryd.prog R rc_sheet_checks_4 (initSt args) (Fin rr_sheet_checks_4 v)) : PC Tryd.prog G 160 args v :=
  PC_of Tryd.func160 rfl (by kernel_rfl) (rc := rc_sheet_checks_4) (by kernel_rfl) (rs := rr_sheet_checks_4) (by kernel_rfl) hn (fun R _ hG hr => h R hG hr)

def rc_sheet_checks_4_1 : RCode :=
  .seq (.reg 0 false [ { d := some 1, op := .box (.t 0) }, { d := some 2, op := .mov (.c (.bool false)) }])
 (.seq (.reg 1 false [ { d := some 3, op := .load true 3 (.t 1) }, { d := some 4, op := .call 62 [.t 3] }, { d := some 5, op := .bin .neq (.t 4) (.c (.int .i64 0)) }, { d := some 2, op := .mov (.t 5) }]) (.ret))
def rr_sheet_checks_4_1 : List RRes := [.t 2]
theorem pc_sheet_checks_4_1 {G : Nat → Option (List AV)} {args : List AV} {v : AV} (hn : args.length ≤ Tryd.f162.ntmps) (h : ∀ R : Run, R.G = G → R.Top → AR Tryd.prog R rc_sheet_checks_4_1 (initSt args) (Fin rr_sheet_checks_4_1 v)) : PC Tryd.prog G 162 args v :=
  PC_of Tryd.func162 rfl (by kernel_rfl) (rc := rc_sheet_checks_4_1) (by kernel_rfl) (rs := rr_sheet_checks_4_1) (by kernel_rfl) hn (fun R _ hG hr => h R hG hr)

def rc_slices_ContainsFunc_api_Dim_api_Dim : RCode :=
  .seq (.reg 0 false [ { d := some 4, op := .mov (.c (.bool false)) }])
 (.seq (.reg 1 false [ { d := some 5, op := .mov (.t 0) }, { d := some 6, op := .mov (.t 1) }, { d := some 7, op := .call 163 [.t 5, .t 6] }, { d := some 8, op := .bin .geq (.t 7) (.c (.int .i64 0)) }, { d := some 4, op := .mov (.t 8) }]) (.ret))
def rr_slices_ContainsFunc_api_Dim_api_Dim : List RRes := [.t 4]
theorem pc_slices_ContainsFunc_api_Dim_api_Dim {G : Nat → Option (List AV)} {args : List AV} {v : AV} (hn : args.length ≤ Tryd.f161.ntmps) (h : ∀ R : Run, R.G = G → R.Top → AR Tryd.prog R rc_slices_ContainsFunc_api_Dim_api_Dim (initSt args) (Fin rr_slices_ContainsFunc_api_Dim_api_Dim v)) : PC Tryd.prog G 161 args v :=
  PC_of Tryd.func161 rfl (by kernel_rfl) (rc := rc_slices_ContainsFunc_api_Dim_api_Dim) (by kernel_rfl) (rs := rr_slices_ContainsFunc_api_Dim_api_Dim) (by kernel_rfl) hn (fun R _ hG hr => h R hG hr)

def rc_slices_IndexFunc_api_Dim_api_Dim : RCode :=
  .seq (.reg 0 false [ { d := some 4, op := .mov (.c (.int .i64 0)) }]) (.seq
 (.seq (.reg 1 false [ { d := some 6, op := .mov (.t 0) }, { d := some 7, op := .len (.t 6) }, { d := some 8, op := .mov (.c (.int .i64 0)) }]) (.block 0 (.loop
 (.seq (.reg 2 false [ { d := some 9, op := .bin .lss (.t 8) (.t 7) }]) (.seq (.cond (.t 9) (.skip) (.exit 0)) (.seq (.block 1
 (.seq (.reg 3 false [ { d := some 10, op := .mov (.t 8) }, { d := some 5, op := .mov (.t 10) }])
 (.seq (.reg 4 false [ { d := some 11, op := .mov (.t 1) }, { d := some 12, op := .mov (.t 0) }, { d := some 13, op := .mov (.t 5) }, { d := some 14, op := .iaddr 3 (.t 12) (.t 13) }, { d := some 15, op := .load true 3 (.t 14) }, { d := some 16, op := .callv (.t 11) [.t 15] }]) (.cond (.t 16)
 (.seq (.reg 5 false [ { d := some 17, op := .mov (.t 5) }, { d := some 4, op := .mov (.t 17) }]) (.ret)) (.skip))))) (.reg 6 false [ { d := some 18, op := .bin .add (.t 8) (.c (.int .i64 1)) }, { d := some 8, op := .mov (.t 18) }])))))))
 (.seq (.reg 7 false [ { d := some 4, op := .mov (.c (.int .i64 (-1))) }]) (.ret)))
def rr_slices_IndexFunc_api_Dim_api_Dim : List RRes := [.t 4]
theorem pc_slices_IndexFunc_api_Dim_api_Dim {G : Nat → Option (List AV)} {args : List AV} {v : AV} (hn : args.length ≤ Tryd.f163.ntmps) (h : ∀ R : Run, R.G = G → R.Top → AR Tryd.prog R rc_slices_IndexFunc_api_Dim_api_Dim (initSt args) (Fin rr_slices_IndexFunc_api_Dim_api_Dim v)) : PC Tryd.prog G 163 args v :=
  PC_of Tryd.func163 rfl (by kernel_rfl) (rc := rc_slices_IndexFunc_api_Dim_api_Dim) (by kernel_rfl) (rs := rr_slices_IndexFunc_api_Dim_api_Dim) (by kernel_rfl) hn (fun R _ hG hr => h R hG hr)

def rc_slices_ContainsFunc_api_Item_api_Item : RCode :=
  .seq (.reg 0 false [ { d := some 4, op := .mov (.c (.bool false)) }])
 (.seq (.reg 1 false [ { d := some 5, op := .mov (.t 0) }, { d := some 6, op := .mov (.t 1) }, { d := some 7, op := .call 120 [.t 5, .t 6] }, { d := some 8, op := .bin .geq (.t 7) (.c (.int .i64 0)) }, { d := some 4, op := .mov (.t 8) }]) (.ret))
def rr_slices_ContainsFunc_api_Item_api_Item : List RRes := [.t 4]
theorem pc_slices_ContainsFunc_api_Item_api_Item {G : Nat → Option (List AV)} {args : List AV} {v : AV} (hn : args.length ≤ Tryd.f102.ntmps) (h : ∀ R : Run, R.G = G → R.Top → AR Tryd.prog R rc_slices_ContainsFunc_api_Item_api_Item (initSt args) (Fin rr_slices_ContainsFunc_api_Item_api_Item v)) : PC Tryd.prog G 102 args v :=
  PC_of Tryd.func102 rfl (by kernel_rfl) (rc := rc_slices_ContainsFunc_api_Item_api_Item) (by kernel_rfl) (rs := rr_slices_ContainsFunc_api_Item_api_Item) (by kernel_rfl) hn (fun R _ hG hr => h R hG hr)

def rc_slices_IndexFunc_api_Item_api_Item : RCode :=
  .seq (.reg 0 false [ { d := some 4, op := .mov (.c (.int .i64 0)) }]) (.seq
 (.seq (.reg 1 false [ { d := some 6, op := .mov (.t 0) }, { d := some 7, op := .len (.t 6) }, { d := some 8, op := .mov (.c (.int .i64 0)) }]) (.block 0 (.loop
 (.seq (.reg 2 false [ { d := some 9, op := .bin .lss (.t 8) (.t 7) }]) (.seq (.cond (.t 9) (.skip) (.exit 0)) (.seq (.block 1
 (.seq (.reg 3 false [ { d := some 10, op := .mov (.t 8) }, { d := some 5, op := .mov (.t 10) }])
 (.seq (.reg 4 false [ { d := some 11, op := .mov (.t 1) }, { d := some 12, op := .mov (.t 0) }, { d := some 13, op := .mov (.t 5) }, { d := some 14, op := .iaddr 2 (.t 12) (.t 13) }, { d := some 15, op := .load true 2 (.t 14) }, { d := some 16, op := .callv (.t 11) [.t 15] }]) (.cond (.t 16)
 (.seq (.reg 5 false [ { d := some 17, op := .mov (.t 5) }, { d := some 4, op := .mov (.t 17) }]) (.ret)) (.skip))))) (.reg 6 false [ { d := some 18, op := .bin .add (.t 8) (.c (.int .i64 1)) }, { d := some 8, op := .mov (.t 18) }])))))))
 (.seq (.reg 7 false [ { d := some 4, op := .mov (.c (.int .i64 (-1))) }]) (.ret)))
def rr_slices_IndexFunc_api_Item_api_Item : List RRes := [.t 4]
theorem pc_slices_IndexFunc_api_Item_api_Item {G : Nat → Option (List AV)} {args : List AV} {v : AV} (hn : args.length ≤ Tryd.f120.ntmps) (h : ∀ R : Run, R.G = G → R.Top → AR Tryd.prog R rc_slices_IndexFunc_api_Item_api_Item (initSt args) (Fin rr_slices_IndexFunc_api_Item_api_Item v)) : PC Tryd.prog G 120 args v :=
  PC_of Tryd.func120 rfl (by kernel_rfl) (rc := rc_slices_IndexFunc_api_Item_api_Item) (by kernel_rfl) (rs := rr_slices_IndexFunc_api_Item_api_Item) (by kernel_rfl) hn (fun R _ hG hr => h R hG hr)

def rc_sheet_open_1 : RCode :=
  .seq (.reg 0 false [ { d := some 2, op := .box (.t 0) }, { d := some 3, op := .mov (.c (.bool false)) }])
 (.seq (.reg 1 false [ { d := some 4, op := .load false 1 (.t 1) }, { d := some 5, op := .faddr 0 (.t 2) }, { d := some 6, op := .load false 1 (.t 5) }, { d := some 7, op := .call 104 [.t 4, .t 6] }, { d := some 8, op := .un .not (.t 7) }, { d := some 3, op := .mov (.t 8) }]) (.ret))
def rr_sheet_open_1 : List RRes := [.t 3]
theorem pc_sheet_open_1 {G : Nat → Option (List AV)} {args : List AV} {v : AV} (hn : args.length ≤ Tryd.f103.ntmps) (h : ∀ R : Run, R.G = G → R.Top → AR Tryd.prog R rc_sheet_open_1 (initSt args) (Fin rr_sheet_open_1 v)) : PC Tryd.prog G 103 args v :=
  PC_of Tryd.func103 rfl (by kernel_rfl) (rc := rc_sheet_open_1) (by kernel_rfl) (rs := rr_sheet_open_1) (by kernel_rfl) hn (fun R _ hG hr => h R hG hr)

def rc_sheet_book_has : RCode :=
  .seq (.reg 0 false [ { d := some 4, op := .mov (.c (.bool false)) }])
 (.seq (.reg 1 false [ { d := some 8, op := .mov (.t 0) }, { d := some 9, op := .nilck (.t 8) }, { d := some 10, op := .faddr 1 (.t 9) }, { d := some 11, op := .load false 1 (.t 10) }, { d := some 12, op := .mov (.t 1) }, { d := some 13, op := .call 121 [.t 11, .t 12] }, { d := some 7, op := .mov (.t 13) }, { d := some 14, op := .ext 0 (.t 7) }, { d := some 15, op := .ext 1 (.t 7) }, { d := some 5, op := .mov (.t 14) }, { d := some 6, op := .mov (.t 15) }])
 (.seq (.reg 2 false [ { d := some 16, op := .mov (.t 6) }, { d := some 4, op := .mov (.t 16) }]) (.ret)))
def rr_sheet_book_has : List RRes := [.t 4]
theorem pc_sheet_book_has {G : Nat → Option (List AV)} {args : List AV} {v : AV} (hn : args.length ≤ Tryd.f104.ntmps) (h : ∀ R : Run, R.G = G → R.Top → AR Tryd.prog R rc_sheet_book_has (initSt args) (Fin rr_sheet_book_has v)) : PC Tryd.prog G 104 args v :=
  PC_of Tryd.func104 rfl (by kernel_rfl) (rc := rc_sheet_book_has) (by kernel_rfl) (rs := rr_sheet_book_has) (by kernel_rfl) hn (fun R _ hG hr => h R hG hr)

def rc_slices_BinarySearch_int_int : RCode :=
  .seq (.reg 0 false [ { d := some 4, op := .mov (.c (.int .i64 0)) }, { d := some 5, op := .mov (.c (.bool false)) }])
 (.seq (.reg 1 false [ { d := some 10, op := .mov (.t 0) }, { d := some 11, op := .len (.t 10) }, { d := some 6, op := .mov (.t 11) }])
 (.seq (.reg 2 false [ { d := some 12, op := .mov (.t 6) }, { d := some 7, op := .mov (.c (.int .i64 0)) }, { d := some 8, op := .mov (.t 12) }]) (.seq (.block 0 (.loop (.seq
 (.seq (.reg 3 false [ { d := some 13, op := .mov (.t 7) }, { d := some 14, op := .mov (.t 8) }, { d := some 15, op := .bin .lss (.t 13) (.t 14) }]) (.cond (.t 15) (.skip) (.exit 0))) (.block 1
 (.seq (.reg 4 false [ { d := some 16, op := .mov (.t 7) }, { d := some 17, op := .mov (.t 8) }, { d := some 18, op := .bin .add (.t 16) (.t 17) }, { d := some 19, op := .conv .u64 (.t 18) }, { d := some 20, op := .vop (.sh false) [(.t 19), (.c (.int .u64 1))] }, { d := some 21, op := .conv .i64 (.t 20) }, { d := some 9, op := .mov (.t 21) }])
 (.seq (.reg 5 false [ { d := some 22, op := .mov (.t 0) }, { d := some 23, op := .mov (.t 9) }, { d := some 24, op := .iaddr 1 (.t 22) (.t 23) }, { d := some 25, op := .load false 1 (.t 24) }, { d := some 26, op := .mov (.t 1) }, { d := some 27, op := .call 133 [.t 25, .t 26] }]) (.cond (.t 27) (.reg 6 false [ { d := some 28, op := .mov (.t 9) }, { d := some 29, op := .bin .add (.t 28) (.c (.int .i64 1)) }, { d := some 7, op := .mov (.t 29) }]) (.reg 7 false [ { d := some 30, op := .mov (.t 9) }, { d := some 8, op := .mov (.t 30) }]))))))))
 (.seq (.reg 8 false [ { d := some 31, op := .mov (.t 7) }, { d := some 32, op := .mov (.t 7) }, { d := some 33, op := .mov (.t 6) }, { d := some 34, op := .bin .lss (.t 32) (.t 33) }, { d := some 35, op := .mov (.t 34) }, { d := some 36, op := .mov (.t 0), guard := some (35, true) }, { d := some 37, op := .mov (.t 7), guard := some (35, true) }, { d := some 38, op := .iaddr 1 (.t 36) (.t 37), guard := some (35, true) }, { d := some 39, op := .load false 1 (.t 38), guard := some (35, true) }, { d := some 40, op := .mov (.t 1), guard := some (35, true) }, { d := some 41, op := .bin .eql (.t 39) (.t 40), guard := some (35, true) }, { d := some 42, op := .mov (.t 41), guard := some (35, true) }, { d := some 43, op := .mov (.t 0), guard := some (42, false) }, { d := some 44, op := .mov (.t 7), guard := some (42, false) }, { d := some 45, op := .iaddr 1 (.t 43) (.t 44), guard := some (42, false) }, { d := some 46, op := .load false 1 (.t 45), guard := some (42, false) }, { d := some 47, op := .call 134 [.t 46], guard := some (42, false) }, { d := some 48, op := .mov (.t 47), guard := some (42, false) }, { d := some 49, op := .mov (.t 1), guard := some (48, true) }, { d := some 50, op := .call 134 [.t 49], guard := some (48, true) }, { d := some 51, op := .pick (.t 48) (.t 50) (.c (.bool false)), guard := some (42, false) }, { d := some 52, op := .pick (.t 42) (.c (.bool true)) (.t 51), guard := some (35, true) }, { d := some 53, op := .pick (.t 35) (.t 52) (.c (.bool false)) }, { d := some 4, op := .mov (.t 31) }, { d := some 5, op := .mov (.t 53) }]) (.ret)))))
def rr_slices_BinarySearch_int_int : List RRes := [.t 4, .t 5]
theorem pc_slices_BinarySearch_int_int {G : Nat → Option (List AV)} {args : List AV} {v : AV} (hn : args.length ≤ Tryd.f121.ntmps) (h : ∀ R : Run, R.G = G → R.Top → AR Tryd.prog R rc_slices_BinarySearch_int_int (initSt args) (Fin rr_slices_BinarySearch_int_int v)) : PC Tryd.prog G 121 args v :=
  PC_of Tryd.func121 rfl (by kernel_rfl) (rc := rc_slices_BinarySearch_int_int) (by kernel_rfl) (rs := rr_slices_BinarySearch_int_int) (by kernel_rfl) hn (fun R _ hG hr => h R hG hr)

def rc_cmp_Less_int : RCode :=
  .seq (.reg 0 false [ { d := some 4, op := .mov (.c (.bool false)) }])
 (.seq (.reg 1 false [ { d := some 5, op := .mov (.t 0) }, { d := some 6, op := .call 135 [.t 5] }, { d := some 7, op := .mov (.t 6) }, { d := some 8, op := .mov (.t 1), guard := some (7, true) }, { d := some 9, op := .call 135 [.t 8], guard := some (7, true) }, { d := some 10, op := .un .not (.t 9), guard := some (7, true) }, { d := some 11, op := .pick (.t 7) (.t 10) (.c (.bool false)) }, { d := some 12, op := .mov (.t 11) }, { d := some 13, op := .mov (.t 0), guard := some (12, false) }, { d := some 14, op := .mov (.t 1), guard := some (12, false) }, { d := some 15, op := .bin .lss (.t 13) (.t 14), guard := some (12, false) }, { d := some 16, op := .pick (.t 12) (.c (.bool true)) (.t 15) }, { d := some 4, op := .mov (.t 16) }]) (.ret))
def rr_cmp_Less_int : List RRes := [.t 4]
theorem pc_cmp_Less_int {G : Nat → Option (List AV)} {args : List AV} {v : AV} (hn : args.length ≤ Tryd.f133.ntmps) (h : ∀ R : Run, R.G = G → R.Top → AR Tryd.prog R rc_cmp_Less_int (initSt args) (Fin rr_cmp_Less_int v)) : PC Tryd.prog G 133 args v :=
  PC_of Tryd.func133 rfl (by kernel_rfl) (rc := rc_cmp_Less_int) (by kernel_rfl) (rs := rr_cmp_Less_int) (by kernel_rfl) hn (fun R _ hG hr => h R hG hr)

def rc_cmp_isNaN_int : RCode :=
  .seq (.reg 0 false [ { d := some 2, op := .mov (.c (.bool false)) }])
 (.seq (.reg 1 false [ { d := some 3, op := .mov (.t 0) }, { d := some 4, op := .mov (.t 0) }, { d := some 5, op := .bin .neq (.t 3) (.t 4) }, { d := some 2, op := .mov (.t 5) }]) (.ret))
def rr_cmp_isNaN_int : List RRes := [.t 2]
theorem pc_cmp_isNaN_int {G : Nat → Option (List AV)} {args : List AV} {v : AV} (hn : args.length ≤ Tryd.f135.ntmps) (h : ∀ R : Run, R.G = G → R.Top → AR Tryd.prog R rc_cmp_isNaN_int (initSt args) (Fin rr_cmp_isNaN_int v)) : PC Tryd.prog G 135 args v :=
  PC_of Tryd.func135 rfl (by kernel_rfl) (rc := rc_cmp_isNaN_int) (by kernel_rfl) (rs := rr_cmp_isNaN_int) (by kernel_rfl) hn (fun R _ hG hr => h R hG hr)

def rc_slices_isNaN_int : RCode :=
  .seq (.reg 0 false [ { d := some 2, op := .mov (.c (.bool false)) }])
 (.seq (.reg 1 false [ { d := some 3, op := .mov (.t 0) }, { d := some 4, op := .mov (.t 0) }, { d := some 5, op := .bin .neq (.t 3) (.t 4) }, { d := some 2, op := .mov (.t 5) }]) (.ret))
def rr_slices_isNaN_int : List RRes := [.t 2]
theorem pc_slices_isNaN_int {G : Nat → Option (List AV)} {args : List AV} {v : AV} (hn : args.length ≤ Tryd.f134.ntmps) (h : ∀ R : Run, R.G = G → R.Top → AR Tryd.prog R rc_slices_isNaN_int (initSt args) (Fin rr_slices_isNaN_int v)) : PC Tryd.prog G 134 args v :=
  PC_of Tryd.func134 rfl (by kernel_rfl) (rc := rc_slices_isNaN_int) (by kernel_rfl) (rs := rr_slices_isNaN_int) (by kernel_rfl) hn (fun R _ hG hr => h R hG hr)

def rc_cmp_Compare_int : RCode :=
  .seq (.reg 0 false [ { d := some 4, op := .mov (.c (.int .i64 0)) }])
 (.seq (.reg 1 false [ { d := some 7, op := .mov (.t 0) }, { d := some 8, op := .call 135 [.t 7] }, { d := some 5, op := .mov (.t 8) }])
 (.seq (.reg 2 false [ { d := some 9, op := .mov (.t 1) }, { d := some 10, op := .call 135 [.t 9] }, { d := some 6, op := .mov (.t 10) }]) (.seq
 (.seq (.reg 3 false [ { d := some 11, op := .mov (.t 5) }]) (.cond (.t 11) (.seq
 (.seq (.reg 4 false [ { d := some 12, op := .mov (.t 6) }]) (.cond (.t 12)
 (.seq (.reg 5 false [ { d := some 4, op := .mov (.c (.int .i64 0)) }]) (.ret)) (.skip)))
 (.seq (.reg 6 false [ { d := some 4, op := .mov (.c (.int .i64 (-1))) }]) (.ret))) (.skip))) (.seq
 (.seq (.reg 7 false [ { d := some 13, op := .mov (.t 6) }]) (.cond (.t 13)
 (.seq (.reg 8 false [ { d := some 4, op := .mov (.c (.int .i64 1)) }]) (.ret)) (.skip))) (.seq
 (.seq (.reg 9 false [ { d := some 14, op := .mov (.t 0) }, { d := some 15, op := .mov (.t 1) }, { d := some 16, op := .bin .lss (.t 14) (.t 15) }]) (.cond (.t 16)
 (.seq (.reg 10 false [ { d := some 4, op := .mov (.c (.int .i64 (-1))) }]) (.ret)) (.skip))) (.seq
 (.seq (.reg 11 false [ { d := some 17, op := .mov (.t 0) }, { d := some 18, op := .mov (.t 1) }, { d := some 19, op := .bin .gtr (.t 17) (.t 18) }]) (.cond (.t 19)
 (.seq (.reg 12 false [ { d := some 4, op := .mov (.c (.int .i64 1)) }]) (.ret)) (.skip)))
 (.seq (.reg 13 false [ { d := some 4, op := .mov (.c (.int .i64 0)) }]) (.ret))))))))
def rr_cmp_Compare_int : List RRes := [.t 4]
theorem pc_cmp_Compare_int {G : Nat → Option (List AV)} {args : List AV} {v : AV} (hn : args.length ≤ Tryd.f125.ntmps) (h : ∀ R : Run, R.G = G → R.Top → AR Tryd.prog R rc_cmp_Compare_int (initSt args) (Fin rr_cmp_Compare_int v)) : PC Tryd.prog G 125 args v :=
  PC_of Tryd.func125 rfl (by kernel_rfl) (rc := rc_cmp_Compare_int) (by kernel_rfl) (rs := rr_cmp_Compare_int) (by kernel_rfl) hn (fun R _ hG hr => h R hG hr)

def rc_slices_BinarySearchFunc_api_Issue_api_Issue_int : RCode :=
  .seq (.reg 0 false [ { d := some 6, op := .mov (.c (.int .i64 0)) }, { d := some 7, op := .mov (.c (.bool false)) }])
 (.seq (.reg 1 false [ { d := some 12, op := .mov (.t 0) }, { d := some 13, op := .len (.t 12) }, { d := some 8, op := .mov (.t 13) }])
 (.seq (.reg 2 false [ { d := some 14, op := .mov (.t 8) }, { d := some 9, op := .mov (.c (.int .i64 0)) }, { d := some 10, op := .mov (.t 14) }]) (.seq (.block 0 (.loop (.seq
 (.seq (.reg 3 false [ { d := some 15, op := .mov (.t 9) }, { d := some 16, op := .mov (.t 10) }, { d := some 17, op := .bin .lss (.t 15) (.t 16) }]) (.cond (.t 17) (.skip) (.exit 0))) (.block 1
 (.seq (.reg 4 false [ { d := some 18, op := .mov (.t 9) }, { d := some 19, op := .mov (.t 10) }, { d := some 20, op := .bin .add (.t 18) (.t 19) }, { d := some 21, op := .conv .u64 (.t 20) }, { d := some 22, op := .vop (.sh false) [(.t 21), (.c (.int .u64 1))] }, { d := some 23, op := .conv .i64 (.t 22) }, { d := some 11, op := .mov (.t 23) }])
 (.seq (.reg 5 false [ { d := some 24, op := .mov (.t 2) }, { d := some 25, op := .mov (.t 0) }, { d := some 26, op := .mov (.t 11) }, { d := some 27, op := .iaddr 5 (.t 25) (.t 26) }, { d := some 28, op := .load true 5 (.t 27) }, { d := some 29, op := .mov (.t 1) }, { d := some 30, op := .callv (.t 24) [.t 28, .t 29] }, { d := some 31, op := .bin .lss (.t 30) (.c (.int .i64 0)) }]) (.cond (.t 31) (.reg 6 false [ { d := some 32, op := .mov (.t 11) }, { d := some 33, op := .bin .add (.t 32) (.c (.int .i64 1)) }, { d := some 9, op := .mov (.t 33) }]) (.reg 7 false [ { d := some 34, op := .mov (.t 11) }, { d := some 10, op := .mov (.t 34) }]))))))))
 (.seq (.reg 8 false [ { d := some 35, op := .mov (.t 9) }, { d := some 36, op := .mov (.t 9) }, { d := some 37, op := .mov (.t 8) }, { d := some 38, op := .bin .lss (.t 36) (.t 37) }, { d := some 39, op := .mov (.t 38) }, { d := some 40, op := .mov (.t 2), guard := some (39, true) }, { d := some 41, op := .mov (.t 0), guard := some (39, true) }, { d := some 42, op := .mov (.t 9), guard := some (39, true) }, { d := some 43, op := .iaddr 5 (.t 41) (.t 42), guard := some (39, true) }, { d := some 44, op := .load true 5 (.t 43), guard := some (39, true) }, { d := some 45, op := .mov (.t 1), guard := some (39, true) }, { d := some 46, op := .callv (.t 40) [.t 44, .t 45], guard := some (39, true) }, { d := some 47, op := .bin .eql (.t 46) (.c (.int .i64 0)), guard := some (39, true) }, { d := some 48, op := .pick (.t 39) (.t 47) (.c (.bool false)) }, { d := some 6, op := .mov (.t 35) }, { d := some 7, op := .mov (.t 48) }]) (.ret)))))
def rr_slices_BinarySearchFunc_api_Issue_api_Issue_int : List RRes := [.t 6, .t 7]
theorem pc_slices_BinarySearchFunc_api_Issue_api_Issue_int {G : Nat → Option (List AV)} {args : List AV} {v : AV} (hn : args.length ≤ Tryd.f123.ntmps) (h : ∀ R : Run, R.G = G → R.Top → AR Tryd.prog R rc_slices_BinarySearchFunc_api_Issue_api_Issue_int (initSt args) (Fin rr_slices_BinarySearchFunc_api_Issue_api_Issue_int v)) : PC Tryd.prog G 123 args v :=
  PC_of Tryd.func123 rfl (by kernel_rfl) (rc := rc_slices_BinarySearchFunc_api_Issue_api_Issue_int) (by kernel_rfl) (rs := rr_slices_BinarySearchFunc_api_Issue_api_Issue_int) (by kernel_rfl) hn (fun R _ hG hr => h R hG hr)

def rc_sheet_book_issues : RCode :=
  .seq (.reg 0 false [ { d := some 2, op := .box (.t 0) }, { d := some 3, op := .box (.t 1) }, { d := some 4, op := .mov (.c (.nilf)) }])
 (.seq (.reg 1 false [ { d := some 5, op := .mkf (.func 122) [] [.t 2, .t 3] }, { d := some 4, op := .mov (.t 5) }]) (.ret))
def rr_sheet_book_issues : List RRes := [.t 4]
theorem pc_sheet_book_issues {G : Nat → Option (List AV)} {args : List AV} {v : AV} (hn : args.length ≤ Tryd.f105.ntmps) (h : ∀ R : Run, R.G = G → R.Top → AR Tryd.prog R rc_sheet_book_issues (initSt args) (Fin rr_sheet_book_issues v)) : PC Tryd.prog G 105 args v :=
  PC_of Tryd.func105 rfl (by kernel_rfl) (rc := rc_sheet_book_issues) (by kernel_rfl) (rs := rr_sheet_book_issues) (by kernel_rfl) hn (fun R _ hG hr => h R hG hr)

def rc_sheet_book_issues_1_1 : RCode :=
  .seq (.reg 0 false [ { d := some 2, op := .box (.t 0) }, { d := some 4, op := .mov (.c (.int .i64 0)) }])
 (.seq (.reg 1 false [ { d := some 5, op := .faddr 0 (.t 2) }, { d := some 6, op := .load false 1 (.t 5) }, { d := some 7, op := .mov (.t 1) }, { d := some 8, op := .call 125 [.t 6, .t 7] }, { d := some 4, op := .mov (.t 8) }]) (.ret))
def rr_sheet_book_issues_1_1 : List RRes := [.t 4]
theorem pc_sheet_book_issues_1_1 {G : Nat → Option (List AV)} {args : List AV} {v : AV} (hn : args.length ≤ Tryd.f124.ntmps) (h : ∀ R : Run, R.G = G → R.Top → AR Tryd.prog R rc_sheet_book_issues_1_1 (initSt args) (Fin rr_sheet_book_issues_1_1 v)) : PC Tryd.prog G 124 args v :=
  PC_of Tryd.func124 rfl (by kernel_rfl) (rc := rc_sheet_book_issues_1_1) (by kernel_rfl) (rs := rr_sheet_book_issues_1_1) (by kernel_rfl) hn (fun R _ hG hr => h R hG hr)

def rc_sheet_book_last : RCode :=
  .seq (.reg 0 false [ { d := some 4, op := .mov (.c (.int .i64 0)) }])
 (.seq (.reg 1 false [ { d := some 5, op := .alloc [.int .i64 0] }, { d := none, op := .store 1 (.t 5) (.c (.int .i64 0)) }]) (.seq
 (.seq (.reg 2 false [ { d := some 6, op := .mov (.t 0) }, { d := some 7, op := .mov (.t 1) }, { d := some 8, op := .call 105 [.t 6, .t 7] }]) (.block 0 (.rngf (.t 8) [9] (.skip) (.block 1 (.reg 3 false [ { d := some 10, op := .load false 1 (.t 5) }, { d := some 11, op := .bin .add (.t 10) (.c (.int .i64 1)) }, { d := none, op := .store 1 (.t 5) (.t 11) }])))))
 (.seq (.reg 4 false [ { d := some 12, op := .load false 1 (.t 5) }, { d := some 4, op := .mov (.t 12) }]) (.ret))))
def rr_sheet_book_last : List RRes := [.t 4]
theorem pc_sheet_book_last {G : Nat → Option (List AV)} {args : List AV} {v : AV} (hn : args.length ≤ Tryd.f69.ntmps) (h : ∀ R : Run, R.G = G → R.Top → AR Tryd.prog R rc_sheet_book_last (initSt args) (Fin rr_sheet_book_last v)) : PC Tryd.prog G 69 args v :=
  PC_of Tryd.func69 rfl (by kernel_rfl) (rc := rc_sheet_book_last) (by kernel_rfl) (rs := rr_sheet_book_last) (by kernel_rfl) hn (fun R _ hG hr => h R hG hr)

def rc_sheet_book_find : RCode :=
  .seq (.reg 0 false [ { d := some 3, op := .box (.t 1) }, { d := some 4, op := .alloc [.int .i64 0, .int .i64 0, .int .u8 0, .nils, .nils] }, { d := some 5, op := .alloc [.bool false] }]) (.seq
 (.seq (.reg 1 false [ { d := some 7, op := .mov (.t 0) }, { d := some 8, op := .faddr 0 (.t 3) }, { d := some 9, op := .load false 1 (.t 8) }, { d := some 10, op := .call 105 [.t 7, .t 9] }]) (.block 0 (.rngf (.t 10) [11] (.reg 2 false [ { d := some 6, op := .alloc [.int .i64 0, .int .i64 0, .int .u8 0, .nils, .nils] }, { d := none, op := .store 5 (.t 6) (.t 11) }]) (.block 1
 (.seq (.reg 3 true [ { d := some 12, op := .load true 5 (.t 6), aft := [] }, { d := some 13, op := .call 84 [.t 12], aft := [0] }, { d := some 14, op := .load true 2 (.t 3), aft := [] }, { d := some 15, op := .eqs false [.i, .i] (.t 13) (.t 14), aft := [1, 2] }]) (.cond (.t 15)
 (.seq (.reg 4 false [ { d := some 16, op := .load true 5 (.t 6) }, { d := none, op := .store 5 (.t 4) (.t 16) }, { d := none, op := .store 1 (.t 5) (.c (.bool true)) }]) (.ret)) (.skip)))))))
 (.seq (.reg 5 false [ { d := some 17, op := .build [.int .i64 0, .int .i64 0, .int .u8 0, .nils, .nils] [] }, { d := none, op := .store 5 (.t 4) (.t 17) }, { d := none, op := .store 1 (.t 5) (.c (.bool false)) }]) (.ret)))
def rr_sheet_book_find : List RRes := [.c 4 true 5, .c 5 false 1]
theorem pc_sheet_book_find {G : Nat → Option (List AV)} {args : List AV} {v : AV} (hn : args.length ≤ Tryd.f72.ntmps) (h : ∀ R : Run, R.G = G → R.Top → AR Tryd.prog R rc_sheet_book_find (initSt args) (Fin rr_sheet_book_find v)) : PC Tryd.prog G 72 args v :=
  PC_of Tryd.func72 rfl (by kernel_rfl) (rc := rc_sheet_book_find) (by kernel_rfl) (rs := rr_sheet_book_find) (by kernel_rfl) hn (fun R _ hG hr => h R hG hr)

def rc_sheet_book_depths : RCode :=
  .seq (.reg 0 false [ { d := some 2, op := .mov (.c (.nilm)) }, { d := some 3, op := .mov (.c (.bool false)) }])
 (.seq (.reg 1 false [ { d := some 15, op := .mkmap }, { d := some 4, op := .alloc [.nilm] }, { d := none, op := .store 1 (.t 4) (.t 15) }])
 (.seq (.reg 2 false [ { d := some 16, op := .mkmap }, { d := some 5, op := .alloc [.nilm] }, { d := none, op := .store 1 (.t 5) (.t 16) }]) (.seq
 (.seq (.reg 3 false [ { d := some 17, op := .mov (.t 0) }, { d := some 18, op := .nilck (.t 17) }, { d := some 19, op := .faddr 1 (.t 18) }, { d := some 20, op := .load false 1 (.t 19) }, { d := some 21, op := .len (.t 20) }, { d := some 22, op := .mov (.c (.int .i64 0)) }]) (.block 0 (.loop
 (.seq (.reg 4 false [ { d := some 23, op := .bin .lss (.t 22) (.t 21) }]) (.seq (.cond (.t 23) (.skip) (.exit 0)) (.seq (.block 1
 (.seq (.reg 5 false [ { d := some 24, op := .iaddr 1 (.t 20) (.t 22) }, { d := some 25, op := .load false 1 (.t 24) }, { d := some 7, op := .mov (.t 25) }]) (.reg 6 false [ { d := some 26, op := .load false 1 (.t 5) }, { d := some 27, op := .mov (.t 7) }, { d := none, op := .mupd (.i .i64) (.t 26) (.t 27) (.c (.bool true)) }]))) (.reg 7 false [ { d := some 28, op := .bin .add (.t 22) (.c (.int .i64 1)) }, { d := some 22, op := .mov (.t 28) }]))))))) (.seq
 (.seq (.reg 8 false [ { d := some 29, op := .mov (.t 0) }, { d := some 30, op := .nilck (.t 29) }, { d := some 31, op := .faddr 1 (.t 30) }, { d := some 32, op := .load false 1 (.t 31) }, { d := some 33, op := .len (.t 32) }, { d := some 34, op := .mov (.c (.int .i64 0)) }]) (.block 2 (.loop
 (.seq (.reg 9 false [ { d := some 35, op := .bin .lss (.t 34) (.t 33) }]) (.seq (.cond (.t 35) (.skip) (.exit 2)) (.seq (.block 3
 (.seq (.reg 10 false [ { d := some 36, op := .mov (.t 0) }, { d := some 37, op := .nilck (.t 36) }, { d := some 38, op := .faddr 1 (.t 37) }, { d := some 39, op := .load false 1 (.t 38) }, { d := some 40, op := .len (.t 39) }, { d := some 41, op := .mov (.c (.int .i64 0)) }]) (.block 4 (.loop
 (.seq (.reg 11 false [ { d := some 42, op := .bin .lss (.t 41) (.t 40) }]) (.seq (.cond (.t 42) (.skip) (.exit 4)) (.seq (.block 5
 (.seq (.reg 12 false [ { d := some 43, op := .iaddr 1 (.t 39) (.t 41) }, { d := some 44, op := .load false 1 (.t 43) }, { d := some 9, op := .mov (.t 44) }])
 (.seq (.reg 13 true [ { d := some 45, op := .load false 1 (.t 5), aft := [] }, { d := some 46, op := .mov (.t 9), aft := [] }, { d := some 47, op := .look (.i .i64) (.bool false) false (.t 45) (.t 46), aft := [0, 1] }, { d := some 10, op := .alloc [.int .i64 0], aft := [] }, { d := some 11, op := .alloc [.bool false], aft := [] }, { d := none, op := .store 1 (.t 10) (.c (.int .i64 0)), aft := [3, 3, 4] }, { d := none, op := .store 1 (.t 11) (.t 47), aft := [4, 2, 5, 0, 1, 2, 3, 4, 5] }]) (.seq
 (.seq (.reg 14 false [ { d := some 48, op := .mov (.t 0) }, { d := some 49, op := .mov (.t 9) }, { d := some 50, op := .call 105 [.t 48, .t 49] }]) (.block 6 (.rngf (.t 50) [51] (.reg 15 false [ { d := some 12, op := .alloc [.int .i64 0, .int .i64 0, .int .u8 0, .nils, .nils] }, { d := none, op := .store 5 (.t 12) (.t 51) }]) (.block 7
 (.seq (.reg 16 false [ { d := some 52, op := .faddr 3 (.t 12) }, { d := some 53, op := .load false 1 (.t 52) }, { d := some 54, op := .len (.t 53) }, { d := some 55, op := .mov (.c (.int .i64 0)) }]) (.block 8 (.loop
 (.seq (.reg 17 false [ { d := some 56, op := .bin .lss (.t 55) (.t 54) }]) (.seq (.cond (.t 56) (.skip) (.exit 8)) (.seq (.block 9
 (.seq (.reg 18 false [ { d := some 57, op := .iaddr 2 (.t 53) (.t 55) }, { d := some 58, op := .load true 2 (.t 57) }, { d := some 14, op := .alloc [.int .i64 0, .int .i64 0] }, { d := none, op := .store 2 (.t 14) (.t 58) }])
 (.seq (.reg 19 false [ { d := some 59, op := .load false 1 (.t 11) }, { d := some 60, op := .mov (.t 59) }, { d := some 61, op := .load false 1 (.t 5), guard := some (60, true) }, { d := some 62, op := .faddr 0 (.t 14), guard := some (60, true) }, { d := some 63, op := .load false 1 (.t 62), guard := some (60, true) }, { d := some 64, op := .look (.i .i64) (.bool false) false (.t 61) (.t 63), guard := some (60, true) }, { d := some 65, op := .un .not (.t 64), guard := some (60, true) }, { d := some 66, op := .pick (.t 60) (.t 65) (.c (.bool false)) }, { d := none, op := .store 1 (.t 11) (.t 66) }]) (.reg 20 false [ { d := some 67, op := .load false 1 (.t 10) }, { d := some 68, op := .load false 1 (.t 4) }, { d := some 69, op := .faddr 0 (.t 14) }, { d := some 70, op := .load false 1 (.t 69) }, { d := some 71, op := .look (.i .i64) (.int .i64 0) false (.t 68) (.t 70) }, { d := some 72, op := .mx true (.t 67) [.t 71] }, { d := none, op := .store 1 (.t 10) (.t 72) }])))) (.reg 21 false [ { d := some 73, op := .bin .add (.t 55) (.c (.int .i64 1)) }, { d := some 55, op := .mov (.t 73) }])))))))))))
 (.seq (.reg 22 false [ { d := some 74, op := .load false 1 (.t 11) }]) (.cond (.t 74)
 (.seq (.reg 23 false [ { d := some 75, op := .load false 1 (.t 4) }, { d := some 76, op := .mov (.t 9) }, { d := some 77, op := .load false 1 (.t 10) }, { d := some 78, op := .bin .add (.t 77) (.c (.int .i64 1)) }, { d := none, op := .mupd (.i .i64) (.t 75) (.t 76) (.t 78) }]) (.reg 24 false [ { d := some 79, op := .load false 1 (.t 5) }, { d := some 80, op := .mov (.t 9) }, { d := none, op := .mdel (.i .i64) (.t 79) (.t 80) }])) (.skip))))))) (.reg 25 false [ { d := some 81, op := .bin .add (.t 41) (.c (.int .i64 1)) }, { d := some 41, op := .mov (.t 81) }])))))))) (.reg 26 false [ { d := some 82, op := .bin .add (.t 34) (.c (.int .i64 1)) }, { d := some 34, op := .mov (.t 82) }])))))))
 (.seq (.reg 27 false [ { d := some 83, op := .load false 1 (.t 4) }, { d := some 84, op := .load false 1 (.t 5) }, { d := some 85, op := .mlen (.t 84) }, { d := some 86, op := .bin .gtr (.t 85) (.c (.int .i64 0)) }, { d := some 2, op := .mov (.t 83) }, { d := some 3, op := .mov (.t 86) }]) (.ret))))))
def rr_sheet_book_depths : List RRes := [.t 2, .t 3]
theorem pc_sheet_book_depths {G : Nat → Option (List AV)} {args : List AV} {v : AV} (hn : args.length ≤ Tryd.f75.ntmps) (h : ∀ R : Run, R.G = G → R.Top → AR Tryd.prog R rc_sheet_book_depths (initSt args) (Fin rr_sheet_book_depths v)) : PC Tryd.prog G 75 args v :=
  PC_of Tryd.func75 rfl (by kernel_rfl) (rc := rc_sheet_book_depths) (by kernel_rfl) (rs := rr_sheet_book_depths) (by kernel_rfl) hn (fun R _ hG hr => h R hG hr)

def rc_sheet_copied : RCode :=
  .seq (.reg 0 false [ { d := some 1, op := .box (.t 0) }, { d := some 2, op := .alloc [.int .i64 0, .int .i64 0, .int .u8 0, .nils, .nils] }])
 (.seq (.reg 1 true [ { d := some 3, op := .faddr 3 (.t 1), aft := [] }, { d := some 4, op := .load false 1 (.t 3), aft := [0] }, { d := some 5, op := .calln 108 [.t 4], aft := [1] }, { d := some 6, op := .faddr 4 (.t 1), aft := [] }, { d := some 7, op := .load false 1 (.t 6), aft := [3] }, { d := some 8, op := .calln 109 [.t 7], aft := [4, 2] }, { d := some 9, op := .faddr 3 (.t 1), aft := [0, 1, 2, 3, 4] }, { d := none, op := .store 1 (.t 9) (.t 5), aft := [6, 2, 5, 0, 1, 2, 3, 4] }, { d := some 10, op := .faddr 4 (.t 1), aft := [0, 1, 2, 3, 4, 5, 6, 7] }, { d := none, op := .store 1 (.t 10) (.t 8), aft := [8, 5, 7, 0, 1, 2, 3, 4, 5, 6, 7] }])
 (.seq (.reg 2 false [ { d := some 11, op := .load true 5 (.t 1) }, { d := none, op := .store 5 (.t 2) (.t 11) }]) (.ret)))
def rr_sheet_copied : List RRes := [.c 2 true 5]
theorem pc_sheet_copied {G : Nat → Option (List AV)} {args : List AV} {v : AV} (hn : args.length ≤ Tryd.f73.ntmps) (h : ∀ R : Run, R.G = G → R.Top → AR Tryd.prog R rc_sheet_copied (initSt args) (Fin rr_sheet_copied v)) : PC Tryd.prog G 73 args v :=
  PC_of Tryd.func73 rfl (by kernel_rfl) (rc := rc_sheet_copied) (by kernel_rfl) (rs := rr_sheet_copied) (by kernel_rfl) hn (fun R _ hG hr => h R hG hr)

def rc_slices_Clone_api_Item_api_Item : RCode :=
  .seq (.reg 0 false [ { d := some 2, op := .mov (.c (.nils)) }]) (.seq
 (.seq (.reg 1 false [ { d := some 3, op := .mov (.t 0) }, { d := some 4, op := .vop (.eqn false) [(.t 3), (.c (.nils))] }]) (.cond (.t 4)
 (.seq (.reg 2 false [ { d := some 2, op := .mov (.c (.nils)) }]) (.ret)) (.skip)))
 (.seq (.reg 3 false [ { d := some 5, op := .bsl true 2 0 [] [] }, { d := some 6, op := .mov (.t 0) }, { d := some 7, op := .app 2 16 (.t 5) (.t 6) }, { d := some 2, op := .mov (.t 7) }]) (.ret)))
def rr_slices_Clone_api_Item_api_Item : List RRes := [.t 2]
def rc_slices_Clone_api_Dim_api_Dim : RCode :=
  .seq (.reg 0 false [ { d := some 2, op := .mov (.c (.nils)) }]) (.seq
 (.seq (.reg 1 false [ { d := some 3, op := .mov (.t 0) }, { d := some 4, op := .vop (.eqn false) [(.t 3), (.c (.nils))] }]) (.cond (.t 4)
 (.seq (.reg 2 false [ { d := some 2, op := .mov (.c (.nils)) }]) (.ret)) (.skip)))
 (.seq (.reg 3 false [ { d := some 5, op := .bsl true 3 0 [] [] }, { d := some 6, op := .mov (.t 0) }, { d := some 7, op := .app 3 24 (.t 5) (.t 6) }, { d := some 2, op := .mov (.t 7) }]) (.ret)))
def rr_slices_Clone_api_Dim_api_Dim : List RRes := [.t 2]
def rc_sheet_known : RCode :=
  .seq (.reg 0 false [ { d := some 2, op := .box (.t 0) }, { d := some 4, op := .mov (.c (.nilp)) }, { d := some 5, op := .mov (.c (.int .i64 0)) }])
 (.seq (.reg 1 false [ { d := some 9, op := .load true 1 (.t 2) }, { d := some 10, op := .call 67 [.t 9] }, { d := some 8, op := .mov (.t 10) }, { d := some 11, op := .ext 0 (.t 8) }, { d := some 12, op := .ext 1 (.t 8) }, { d := some 6, op := .mov (.t 11) }, { d := some 7, op := .mov (.t 12) }]) (.seq
 (.seq (.reg 2 false [ { d := some 13, op := .mov (.t 7) }, { d := some 14, op := .bin .neq (.t 13) (.c (.int .i64 0)) }]) (.cond (.t 14)
 (.seq (.reg 3 false [ { d := some 15, op := .mov (.t 7) }, { d := some 4, op := .mov (.c (.nilp)) }, { d := some 5, op := .mov (.t 15) }]) (.ret)) (.skip))) (.seq
 (.seq (.reg 4 false [ { d := some 16, op := .mov (.t 6) }, { d := some 17, op := .mov (.t 1) }, { d := some 18, op := .call 104 [.t 16, .t 17] }, { d := some 19, op := .un .not (.t 18) }]) (.cond (.t 19)
 (.seq (.reg 5 false [ { d := some 4, op := .mov (.c (.nilp)) }, { d := some 5, op := .mov (.c (.int .i64 6)) }]) (.ret)) (.skip)))
 (.seq (.reg 6 false [ { d := some 20, op := .mov (.t 6) }, { d := some 4, op := .mov (.t 20) }, { d := some 5, op := .mov (.c (.int .i64 0)) }]) (.ret)))))
def rr_sheet_known : List RRes := [.t 4, .t 5]
theorem pc_sheet_known {G : Nat → Option (List AV)} {args : List AV} {v : AV} (hn : args.length ≤ Tryd.f68.ntmps) (h : ∀ R : Run, R.G = G → R.Top → AR Tryd.prog R rc_sheet_known (initSt args) (Fin rr_sheet_known v)) : PC Tryd.prog G 68 args v :=
  PC_of Tryd.func68 rfl (by kernel_rfl) (rc := rc_sheet_known) (by kernel_rfl) (rs := rr_sheet_known) (by kernel_rfl) hn (fun R _ hG hr => h R hG hr)

def rc_sheet_Check : RCode :=
  .seq (.reg 0 false [ { d := some 1, op := .box (.t 0) }, { d := some 2, op := .mov (.c (.int .i64 0)) }])
 (.seq (.reg 1 false [ { d := some 6, op := .load true 1 (.t 1) }, { d := some 7, op := .call 67 [.t 6] }, { d := some 5, op := .mov (.t 7) }, { d := some 8, op := .ext 0 (.t 5) }, { d := some 9, op := .ext 1 (.t 5) }, { d := some 3, op := .mov (.t 8) }, { d := some 4, op := .mov (.t 9) }])
 (.seq (.reg 2 false [ { d := some 10, op := .mov (.t 4) }, { d := some 2, op := .mov (.t 10) }]) (.ret)))
def rr_sheet_Check : List RRes := [.t 2]
theorem pc_sheet_Check {G : Nat → Option (List AV)} {args : List AV} {v : AV} (hn : args.length ≤ Tryd.f24.ntmps) (h : ∀ R : Run, R.G = G → R.Top → AR Tryd.prog R rc_sheet_Check (initSt args) (Fin rr_sheet_Check v)) : PC Tryd.prog G 24 args v :=
  PC_of Tryd.func24 rfl (by kernel_rfl) (rc := rc_sheet_Check) (by kernel_rfl) (rs := rr_sheet_Check) (by kernel_rfl) hn (fun R _ hG hr => h R hG hr)

def rc_sheet_Drawings : RCode :=
  .seq (.reg 0 false [ { d := some 1, op := .box (.t 0) }, { d := some 2, op := .mov (.c (.nils)) }, { d := some 3, op := .mov (.c (.int .i64 0)) }])
 (.seq (.reg 1 false [ { d := some 7, op := .load true 1 (.t 1) }, { d := some 8, op := .call 67 [.t 7] }, { d := some 6, op := .mov (.t 8) }, { d := some 9, op := .ext 0 (.t 6) }, { d := some 10, op := .ext 1 (.t 6) }, { d := some 4, op := .mov (.t 9) }, { d := some 5, op := .mov (.t 10) }]) (.seq
 (.seq (.reg 2 false [ { d := some 11, op := .mov (.t 5) }, { d := some 12, op := .bin .neq (.t 11) (.c (.int .i64 0)) }]) (.cond (.t 12)
 (.seq (.reg 3 false [ { d := some 13, op := .mov (.t 5) }, { d := some 2, op := .mov (.c (.nils)) }, { d := some 3, op := .mov (.t 13) }]) (.ret)) (.skip)))
 (.seq (.reg 4 false [ { d := some 14, op := .mov (.t 4) }, { d := some 15, op := .nilck (.t 14) }, { d := some 16, op := .faddr 1 (.t 15) }, { d := some 17, op := .load false 1 (.t 16) }, { d := some 2, op := .mov (.t 17) }, { d := some 3, op := .mov (.c (.int .i64 0)) }]) (.ret))))
def rr_sheet_Drawings : List RRes := [.t 2, .t 3]
theorem pc_sheet_Drawings {G : Nat → Option (List AV)} {args : List AV} {v : AV} (hn : args.length ≤ Tryd.f20.ntmps) (h : ∀ R : Run, R.G = G → R.Top → AR Tryd.prog R rc_sheet_Drawings (initSt args) (Fin rr_sheet_Drawings v)) : PC Tryd.prog G 20 args v :=
  PC_of Tryd.func20 rfl (by kernel_rfl) (rc := rc_sheet_Drawings) (by kernel_rfl) (rs := rr_sheet_Drawings) (by kernel_rfl) hn (fun R _ hG hr => h R hG hr)

def rc_sheet_Last : RCode :=
  .seq (.reg 0 false [ { d := some 2, op := .box (.t 0) }, { d := some 4, op := .mov (.c (.int .i64 0)) }, { d := some 5, op := .mov (.c (.int .i64 0)) }])
 (.seq (.reg 1 false [ { d := some 9, op := .load true 1 (.t 2) }, { d := some 10, op := .mov (.t 1) }, { d := some 11, op := .call 68 [.t 9, .t 10] }, { d := some 8, op := .mov (.t 11) }, { d := some 12, op := .ext 0 (.t 8) }, { d := some 13, op := .ext 1 (.t 8) }, { d := some 6, op := .mov (.t 12) }, { d := some 7, op := .mov (.t 13) }]) (.seq
 (.seq (.reg 2 false [ { d := some 14, op := .mov (.t 7) }, { d := some 15, op := .bin .neq (.t 14) (.c (.int .i64 0)) }]) (.cond (.t 15)
 (.seq (.reg 3 false [ { d := some 16, op := .mov (.t 7) }, { d := some 4, op := .mov (.c (.int .i64 0)) }, { d := some 5, op := .mov (.t 16) }]) (.ret)) (.skip)))
 (.seq (.reg 4 false [ { d := some 17, op := .mov (.t 6) }, { d := some 18, op := .mov (.t 1) }, { d := some 19, op := .call 69 [.t 17, .t 18] }, { d := some 4, op := .mov (.t 19) }, { d := some 5, op := .mov (.c (.int .i64 0)) }]) (.ret))))
def rr_sheet_Last : List RRes := [.t 4, .t 5]
theorem pc_sheet_Last {G : Nat → Option (List AV)} {args : List AV} {v : AV} (hn : args.length ≤ Tryd.f22.ntmps) (h : ∀ R : Run, R.G = G → R.Top → AR Tryd.prog R rc_sheet_Last (initSt args) (Fin rr_sheet_Last v)) : PC Tryd.prog G 22 args v :=
  PC_of Tryd.func22 rfl (by kernel_rfl) (rc := rc_sheet_Last) (by kernel_rfl) (rs := rr_sheet_Last) (by kernel_rfl) hn (fun R _ hG hr => h R hG hr)

def rc_sheet_At : RCode :=
  .seq (.reg 0 false [ { d := some 2, op := .box (.t 0) }, { d := some 3, op := .box (.t 1) }, { d := some 4, op := .alloc [.int .i64 0, .int .i64 0, .int .u8 0, .nils, .nils] }, { d := some 5, op := .mov (.c (.int .i64 0)) }])
 (.seq (.reg 1 false [ { d := some 11, op := .load true 1 (.t 2) }, { d := some 12, op := .call 67 [.t 11] }, { d := some 10, op := .mov (.t 12) }, { d := some 13, op := .ext 0 (.t 10) }, { d := some 14, op := .ext 1 (.t 10) }, { d := some 6, op := .mov (.t 13) }, { d := some 7, op := .mov (.t 14) }]) (.seq
 (.seq (.reg 2 false [ { d := some 15, op := .mov (.t 7) }, { d := some 16, op := .bin .neq (.t 15) (.c (.int .i64 0)) }]) (.cond (.t 16)
 (.seq (.reg 3 false [ { d := some 17, op := .build [.int .i64 0, .int .i64 0, .int .u8 0, .nils, .nils] [] }, { d := some 18, op := .mov (.t 7) }, { d := none, op := .store 5 (.t 4) (.t 17) }, { d := some 5, op := .mov (.t 18) }]) (.ret)) (.skip)))
 (.seq (.reg 4 false [ { d := some 20, op := .mov (.t 6) }, { d := some 21, op := .load true 2 (.t 3) }, { d := some 22, op := .call 72 [.t 20, .t 21] }, { d := some 19, op := .mov (.t 22) }, { d := some 23, op := .ext 0 (.t 19) }, { d := some 24, op := .ext 1 (.t 19) }, { d := some 8, op := .alloc [.int .i64 0, .int .i64 0, .int .u8 0, .nils, .nils] }, { d := none, op := .store 5 (.t 8) (.t 23) }, { d := some 9, op := .mov (.t 24) }]) (.seq
 (.seq (.reg 5 false [ { d := some 25, op := .mov (.t 9) }, { d := some 26, op := .un .not (.t 25) }]) (.cond (.t 26)
 (.seq (.reg 6 false [ { d := some 27, op := .build [.int .i64 0, .int .i64 0, .int .u8 0, .nils, .nils] [] }, { d := none, op := .store 5 (.t 4) (.t 27) }, { d := some 5, op := .mov (.c (.int .i64 6)) }]) (.ret)) (.skip)))
 (.seq (.reg 7 false [ { d := some 28, op := .load true 5 (.t 8) }, { d := some 29, op := .call 73 [.t 28] }, { d := none, op := .store 5 (.t 4) (.t 29) }, { d := some 5, op := .mov (.c (.int .i64 0)) }]) (.ret))))))
def rr_sheet_At : List RRes := [.c 4 true 5, .t 5]
theorem pc_sheet_At {G : Nat → Option (List AV)} {args : List AV} {v : AV} (hn : args.length ≤ Tryd.f27.ntmps) (h : ∀ R : Run, R.G = G → R.Top → AR Tryd.prog R rc_sheet_At (initSt args) (Fin rr_sheet_At v)) : PC Tryd.prog G 27 args v :=
  PC_of Tryd.func27 rfl (by kernel_rfl) (rc := rc_sheet_At) (by kernel_rfl) (rs := rr_sheet_At) (by kernel_rfl) hn (fun R _ hG hr => h R hG hr)

def rc_sheet_Depth : RCode :=
  .seq (.reg 0 false [ { d := some 2, op := .box (.t 0) }, { d := some 4, op := .mov (.c (.int .i64 0)) }, { d := some 5, op := .mov (.c (.int .i64 0)) }])
 (.seq (.reg 1 false [ { d := some 11, op := .load true 1 (.t 2) }, { d := some 12, op := .mov (.t 1) }, { d := some 13, op := .call 68 [.t 11, .t 12] }, { d := some 10, op := .mov (.t 13) }, { d := some 14, op := .ext 0 (.t 10) }, { d := some 15, op := .ext 1 (.t 10) }, { d := some 6, op := .mov (.t 14) }, { d := some 7, op := .mov (.t 15) }]) (.seq
 (.seq (.reg 2 false [ { d := some 16, op := .mov (.t 7) }, { d := some 17, op := .bin .neq (.t 16) (.c (.int .i64 0)) }]) (.cond (.t 17)
 (.seq (.reg 3 false [ { d := some 18, op := .mov (.t 7) }, { d := some 4, op := .mov (.c (.int .i64 0)) }, { d := some 5, op := .mov (.t 18) }]) (.ret)) (.skip)))
 (.seq (.reg 4 false [ { d := some 20, op := .mov (.t 6) }, { d := some 21, op := .call 75 [.t 20] }, { d := some 19, op := .mov (.t 21) }, { d := some 22, op := .ext 0 (.t 19) }, { d := some 23, op := .ext 1 (.t 19) }, { d := some 8, op := .mov (.t 22) }, { d := some 9, op := .mov (.t 23) }])
 (.seq (.reg 5 false [ { d := some 24, op := .mov (.t 8) }, { d := some 25, op := .mov (.t 1) }, { d := some 26, op := .look (.i .i64) (.int .i64 0) false (.t 24) (.t 25) }, { d := some 4, op := .mov (.t 26) }, { d := some 5, op := .mov (.c (.int .i64 0)) }]) (.ret)))))
def rr_sheet_Depth : List RRes := [.t 4, .t 5]
theorem pc_sheet_Depth {G : Nat → Option (List AV)} {args : List AV} {v : AV} (hn : args.length ≤ Tryd.f29.ntmps) (h : ∀ R : Run, R.G = G → R.Top → AR Tryd.prog R rc_sheet_Depth (initSt args) (Fin rr_sheet_Depth v)) : PC Tryd.prog G 29 args v :=
  PC_of Tryd.func29 rfl (by kernel_rfl) (rc := rc_sheet_Depth) (by kernel_rfl) (rs := rr_sheet_Depth) (by kernel_rfl) hn (fun R _ hG hr => h R hG hr)

end Go.Proofs.YtdpmioiamcgfkaaDoor
