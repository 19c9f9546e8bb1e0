/-
  The abstract machine's code of functions of the program, as a program of ours printed it; that it is theirs is proved beside each.
-/
import Derived.Test.YtdpmioiamcgfkaaDoorJAmPToOpen
import Derived.Test.YtdpmioiamcgfkaaDoorProg
import Derived.Test.YtdpmioiamcgfkaaDoorJAmIToAmO
import Derived.IntWalk
set_option linter.unusedSimpArgs false
set_option linter.unusedVariables false
namespace Go.Proofs.YtdpmioiamcgfkaaDoor
open Go.RowKit

def rc_sheet_taken : RCode :=
  .seq (.reg 0 false [ { d := some 3, op := .box (.t 0) }, { d := some 6, op := .mov (.c (.nilp)) }, { d := some 7, op := .mov (.c (.nilm)) }, { d := some 8, op := .mov (.c (.int .i64 0)) }])
 (.seq (.reg 1 false [ { d := some 16, op := .load true 1 (.t 3) }, { d := some 17, op := .call 67 [.t 16] }, { d := some 15, op := .mov (.t 17) }, { d := some 18, op := .ext 0 (.t 15) }, { d := some 19, op := .ext 1 (.t 15) }, { d := some 9, op := .mov (.t 18) }, { d := some 10, op := .mov (.t 19) }]) (.seq
 (.seq (.reg 2 false [ { d := some 20, op := .mov (.t 10) }, { d := some 21, op := .bin .neq (.t 20) (.c (.int .i64 0)) }]) (.cond (.t 21)
 (.seq (.reg 3 false [ { d := some 22, op := .mov (.t 10) }, { d := some 6, op := .mov (.c (.nilp)) }, { d := some 7, op := .mov (.c (.nilm)) }, { d := some 8, op := .mov (.t 22) }]) (.ret)) (.skip))) (.seq
 (.seq (.reg 4 false [ { d := some 23, op := .mov (.t 1) }, { d := some 24, op := .len (.t 23) }, { d := some 25, op := .mov (.t 9) }, { d := some 26, op := .nilck (.t 25) }, { d := some 27, op := .faddr 1 (.t 26) }, { d := some 28, op := .load false 1 (.t 27) }, { d := some 29, op := .len (.t 28) }, { d := some 30, op := .bin .neq (.t 24) (.t 29) }]) (.cond (.t 30)
 (.seq (.reg 5 false [ { d := some 6, op := .mov (.c (.nilp)) }, { d := some 7, op := .mov (.c (.nilm)) }, { d := some 8, op := .mov (.c (.int .i64 22)) }]) (.ret)) (.skip)))
 (.seq (.reg 6 false [ { d := some 31, op := .mkmap }, { d := some 11, op := .mov (.t 31) }]) (.seq
 (.seq (.reg 7 false [ { d := some 32, op := .mov (.t 1) }, { d := some 33, op := .len (.t 32) }, { d := some 34, op := .mov (.c (.int .i64 0)) }]) (.block 0 (.loop
 (.seq (.reg 8 false [ { d := some 35, op := .bin .lss (.t 34) (.t 33) }]) (.seq (.cond (.t 35) (.skip) (.exit 0)) (.seq (.block 1
 (.seq (.reg 9 false [ { d := some 36, op := .mov (.t 34) }, { d := some 12, op := .mov (.t 36) }])
 (.seq (.reg 10 true [ { d := some 38, op := .mov (.t 9), aft := [] }, { d := some 39, op := .mov (.t 9), aft := [] }, { d := some 40, op := .nilck (.t 39), aft := [1] }, { d := some 41, op := .faddr 1 (.t 40), aft := [2] }, { d := some 42, op := .load false 1 (.t 41), aft := [3] }, { d := some 43, op := .mov (.t 12), aft := [] }, { d := some 44, op := .iaddr 1 (.t 42) (.t 43), aft := [4, 5] }, { d := some 45, op := .load false 1 (.t 44), aft := [6] }, { d := some 46, op := .mov (.t 1), aft := [] }, { d := some 47, op := .mov (.t 12), aft := [] }, { d := some 48, op := .iaddr 1 (.t 46) (.t 47), aft := [8, 9] }, { d := some 49, op := .load false 1 (.t 48), aft := [10] }, { d := some 50, op := .build [.int .i64 0, .int .i64 0] [(0, 1, .t 45), (1, 1, .t 49)], aft := [7, 11] }, { d := some 51, op := .call 72 [.t 38, .t 50], aft := [0, 12] }, { d := some 37, op := .mov (.t 51), aft := [13] }, { d := some 52, op := .ext 0 (.t 37), aft := [14] }, { d := some 53, op := .ext 1 (.t 37), aft := [14] }, { d := some 13, op := .alloc [.int .i64 0, .int .i64 0, .int .u8 0, .nils, .nils], aft := [] }, { d := none, op := .store 5 (.t 13) (.t 52), aft := [17, 15, 13, 0, 1, 2, 3, 4, 5, 6, 7, 8, 9, 10, 11, 12, 13, 14, 15, 17] }, { d := some 14, op := .mov (.t 53), aft := [16, 18, 0, 1, 2, 3, 4, 5, 6, 7, 8, 9, 10, 11, 12, 13, 14, 15, 16, 17, 18] }]) (.seq
 (.seq (.reg 11 false [ { d := some 54, op := .mov (.t 14) }, { d := some 55, op := .un .not (.t 54) }]) (.cond (.t 55)
 (.seq (.reg 12 false [ { d := some 6, op := .mov (.c (.nilp)) }, { d := some 7, op := .mov (.c (.nilm)) }, { d := some 8, op := .mov (.c (.int .i64 22)) }]) (.ret)) (.skip))) (.reg 13 false [ { d := some 56, op := .mov (.t 11) }, { d := some 57, op := .faddr 0 (.t 13) }, { d := some 58, op := .load false 1 (.t 57) }, { d := some 59, op := .load true 5 (.t 13) }, { d := none, op := .mupd (.i .i64) (.t 56) (.t 58) (.t 59) }]))))) (.reg 14 false [ { d := some 60, op := .bin .add (.t 34) (.c (.int .i64 1)) }, { d := some 34, op := .mov (.t 60) }]))))))) (.seq
 (.seq (.reg 15 false [ { d := some 61, op := .mov (.t 9) }, { d := some 62, op := .mov (.t 2) }, { d := some 63, op := .call 104 [.t 61, .t 62] }, { d := some 64, op := .un .not (.t 63) }]) (.cond (.t 64)
 (.seq (.reg 16 false [ { d := some 6, op := .mov (.c (.nilp)) }, { d := some 7, op := .mov (.c (.nilm)) }, { d := some 8, op := .mov (.c (.int .i64 6)) }]) (.ret)) (.skip)))
 (.seq (.reg 17 false [ { d := some 65, op := .mov (.t 9) }, { d := some 66, op := .mov (.t 11) }, { d := some 6, op := .mov (.t 65) }, { d := some 7, op := .mov (.t 66) }, { d := some 8, op := .mov (.c (.int .i64 0)) }]) (.ret))))))))
def rr_sheet_taken : List RRes := [.t 6, .t 7, .t 8]
theorem pc_sheet_taken {G : Nat → Option (List AV)} {args : List AV} {v : AV} (hn : args.length ≤ Tryd.f76.ntmps) (h : ∀ R : Run, R.G = G → R.Top → AR Tryd.prog R rc_sheet_taken (initSt args) (Fin rr_sheet_taken v)) : PC Tryd.prog G 76 args v :=
  PC_of Tryd.func76 rfl (by kernel_rfl) (rc := rc_sheet_taken) (by kernel_rfl) (rs := rr_sheet_taken) (by kernel_rfl) hn (fun R _ hG hr => h R hG hr)

def rc_sheet_Explode : RCode :=
  .seq (.reg 0 false [ { d := some 3, op := .box (.t 0) }, { d := some 6, op := .mov (.c (.nils)) }, { d := some 7, op := .mov (.c (.int .i64 0)) }])
 (.seq (.reg 1 false [ { d := some 17, op := .load true 1 (.t 3) }, { d := some 18, op := .mov (.t 1) }, { d := some 19, op := .mov (.t 2) }, { d := some 20, op := .call 76 [.t 17, .t 18, .t 19] }, { d := some 16, op := .mov (.t 20) }, { d := some 21, op := .ext 0 (.t 16) }, { d := some 22, op := .ext 1 (.t 16) }, { d := some 23, op := .ext 2 (.t 16) }, { d := some 9, op := .alloc [.nilm] }, { d := some 8, op := .mov (.t 21) }, { d := none, op := .store 1 (.t 9) (.t 22) }, { d := some 10, op := .mov (.t 23) }]) (.seq
 (.seq (.reg 2 false [ { d := some 24, op := .mov (.t 10) }, { d := some 25, op := .bin .neq (.t 24) (.c (.int .i64 0)) }]) (.cond (.t 25)
 (.seq (.reg 3 false [ { d := some 26, op := .mov (.t 10) }, { d := some 6, op := .mov (.c (.nils)) }, { d := some 7, op := .mov (.t 26) }]) (.ret)) (.skip)))
 (.seq (.reg 4 false [ { d := some 27, op := .mkmap }, { d := some 11, op := .alloc [.nilm] }, { d := none, op := .store 1 (.t 11) (.t 27) }])
 (.seq (.reg 5 false [ { d := some 12, op := .alloc [.nilf] }])
 (.seq (.reg 6 false [ { d := some 28, op := .mkf (.func 77) [] [.t 9, .t 11, .t 12] }, { d := none, op := .store 1 (.t 12) (.t 28) }])
 (.seq (.reg 7 false [ { d := some 29, op := .load false 1 (.t 12) }, { d := some 30, op := .mov (.t 2) }, { d := some 31, op := .callv (.t 29) [.t 30, .c (.int .i64 1)] }])
 (.seq (.reg 8 false [ { d := some 13, op := .mov (.c (.nils)) }]) (.seq
 (.seq (.reg 9 false [ { d := some 32, op := .mov (.t 8) }, { d := some 33, op := .nilck (.t 32) }, { d := some 34, op := .faddr 1 (.t 33) }, { d := some 35, op := .load false 1 (.t 34) }, { d := some 36, op := .len (.t 35) }, { d := some 37, op := .mov (.c (.int .i64 0)) }]) (.block 0 (.loop
 (.seq (.reg 10 false [ { d := some 38, op := .bin .lss (.t 37) (.t 36) }]) (.seq (.cond (.t 38) (.skip) (.exit 0)) (.seq (.block 1
 (.seq (.reg 11 false [ { d := some 39, op := .iaddr 1 (.t 35) (.t 37) }, { d := some 40, op := .load false 1 (.t 39) }, { d := some 15, op := .mov (.t 40) }])
 (.seq (.reg 12 false [ { d := some 41, op := .load false 1 (.t 11) }, { d := some 42, op := .mov (.t 15) }, { d := some 43, op := .look (.i .i64) (.int .i64 0) false (.t 41) (.t 42) }, { d := some 44, op := .bin .gtr (.t 43) (.c (.int .i64 0)) }]) (.cond (.t 44) (.reg 13 false [ { d := some 45, op := .mov (.t 13) }, { d := some 46, op := .mov (.t 15) }, { d := some 47, op := .load false 1 (.t 11) }, { d := some 48, op := .mov (.t 15) }, { d := some 49, op := .look (.i .i64) (.int .i64 0) false (.t 47) (.t 48) }, { d := some 50, op := .build [.int .i64 0, .int .i64 0] [(0, 1, .t 46), (1, 1, .t 49)] }, { d := some 51, op := .bsl false 2 1 [.int .i64 0, .int .i64 0] [(0, .t 50)] }, { d := some 52, op := .app 2 16 (.t 45) (.t 51) }, { d := some 13, op := .mov (.t 52) }]) (.skip))))) (.reg 14 false [ { d := some 53, op := .bin .add (.t 37) (.c (.int .i64 1)) }, { d := some 37, op := .mov (.t 53) }])))))))
 (.seq (.reg 15 false [ { d := some 54, op := .mov (.t 13) }, { d := some 6, op := .mov (.t 54) }, { d := some 7, op := .mov (.c (.int .i64 0)) }]) (.ret))))))))))
def rr_sheet_Explode : List RRes := [.t 6, .t 7]
theorem pc_sheet_Explode {G : Nat → Option (List AV)} {args : List AV} {v : AV} (hn : args.length ≤ Tryd.f33.ntmps) (h : ∀ R : Run, R.G = G → R.Top → AR Tryd.prog R rc_sheet_Explode (initSt args) (Fin rr_sheet_Explode v)) : PC Tryd.prog G 33 args v :=
  PC_of Tryd.func33 rfl (by kernel_rfl) (rc := rc_sheet_Explode) (by kernel_rfl) (rs := rr_sheet_Explode) (by kernel_rfl) hn (fun R _ hG hr => h R hG hr)

def rc_sheet_Explode_1 : RCode :=
  .seq (.reg 0 false [ { d := some 10, op := .load false 1 (.t 2) }, { d := some 11, op := .mov (.t 0) }, { d := some 12, op := .look (.i .i64) (.agg [.int .i64 0, .int .i64 0, .int .u8 0, .nils, .nils]) false (.t 10) (.t 11) }, { d := some 7, op := .alloc [.int .i64 0, .int .i64 0, .int .u8 0, .nils, .nils] }, { d := none, op := .store 5 (.t 7) (.t 12) }]) (.seq
 (.seq (.reg 1 false [ { d := some 13, op := .faddr 2 (.t 7) }, { d := some 14, op := .load false 1 (.t 13) }, { d := some 15, op := .bin .neq (.t 14) (.c (.int .u8 1)) }]) (.cond (.t 15) (.reg 2 false [ { d := some 16, op := .load false 1 (.t 3) }, { d := some 17, op := .mov (.t 0) }, { d := some 18, op := .look (.i .i64) (.int .i64 0) false (.t 16) (.t 17) }, { d := some 19, op := .mov (.t 1) }, { d := some 20, op := .bin .add (.t 18) (.t 19) }, { d := none, op := .mupd (.i .i64) (.t 16) (.t 17) (.t 20) }]) (.skip)))
 (.seq (.reg 3 false [ { d := some 21, op := .faddr 3 (.t 7) }, { d := some 22, op := .load false 1 (.t 21) }, { d := some 23, op := .len (.t 22) }, { d := some 24, op := .mov (.c (.int .i64 0)) }]) (.block 0 (.loop
 (.seq (.reg 4 false [ { d := some 25, op := .bin .lss (.t 24) (.t 23) }]) (.seq (.cond (.t 25) (.skip) (.exit 0)) (.seq (.block 1
 (.seq (.reg 5 false [ { d := some 26, op := .iaddr 2 (.t 22) (.t 24) }, { d := some 27, op := .load true 2 (.t 26) }, { d := some 9, op := .alloc [.int .i64 0, .int .i64 0] }, { d := none, op := .store 2 (.t 9) (.t 27) }]) (.reg 6 false [ { d := some 28, op := .load false 1 (.t 4) }, { d := some 29, op := .faddr 0 (.t 9) }, { d := some 30, op := .load false 1 (.t 29) }, { d := some 31, op := .mov (.t 1) }, { d := some 32, op := .faddr 1 (.t 9) }, { d := some 33, op := .load false 1 (.t 32) }, { d := some 34, op := .bin .mul (.t 31) (.t 33) }, { d := some 35, op := .callv (.t 28) [.t 30, .t 34] }]))) (.reg 7 false [ { d := some 36, op := .bin .add (.t 24) (.c (.int .i64 1)) }, { d := some 24, op := .mov (.t 36) }]))))))))
def rr_sheet_Explode_1 : List RRes := []
theorem pb_sheet_Explode_1 {G : Nat → Option (List AV)} {objs objs' : List (Nat × AObj)} {args : List AV} {v : AV} (hn : args.length ≤ Tryd.f77.ntmps) (h : ∀ R : Run, R.G = G → R.Top → AR Tryd.prog R rc_sheet_Explode_1 ⟨iniT 0 args, objs⟩ (FinB rr_sheet_Explode_1 v objs')) : PB Tryd.prog G 77 objs args v objs' :=
  PB_of Tryd.func77 rfl (by kernel_rfl) (rc := rc_sheet_Explode_1) (by kernel_rfl) (rs := rr_sheet_Explode_1) (by kernel_rfl) hn (fun R _ hG hr => h R hG hr)

def rc_sheet_Tree : RCode :=
  .seq (.reg 0 false [ { d := some 3, op := .box (.t 0) }, { d := some 6, op := .mov (.c (.nils)) }, { d := some 7, op := .mov (.c (.int .i64 0)) }])
 (.seq (.reg 1 false [ { d := some 14, op := .load true 1 (.t 3) }, { d := some 15, op := .mov (.t 1) }, { d := some 16, op := .mov (.t 2) }, { d := some 17, op := .call 76 [.t 14, .t 15, .t 16] }, { d := some 13, op := .mov (.t 17) }, { d := some 18, op := .ext 0 (.t 13) }, { d := some 19, op := .ext 1 (.t 13) }, { d := some 20, op := .ext 2 (.t 13) }, { d := some 9, op := .alloc [.nilm] }, { d := some 8, op := .mov (.t 18) }, { d := none, op := .store 1 (.t 9) (.t 19) }, { d := some 10, op := .mov (.t 20) }]) (.seq
 (.seq (.reg 2 false [ { d := some 21, op := .mov (.t 10) }, { d := some 22, op := .bin .neq (.t 21) (.c (.int .i64 0)) }]) (.cond (.t 22)
 (.seq (.reg 3 false [ { d := some 23, op := .mov (.t 10) }, { d := some 6, op := .mov (.c (.nils)) }, { d := some 7, op := .mov (.t 23) }]) (.ret)) (.skip)))
 (.seq (.reg 4 false [ { d := some 11, op := .alloc [.nils] }])
 (.seq (.reg 5 false [ { d := some 12, op := .alloc [.nilf] }])
 (.seq (.reg 6 false [ { d := some 24, op := .mkf (.func 80) [] [.t 11, .t 9, .t 12] }, { d := none, op := .store 1 (.t 12) (.t 24) }])
 (.seq (.reg 7 false [ { d := some 25, op := .load false 1 (.t 12) }, { d := some 26, op := .mov (.t 2) }, { d := some 27, op := .build [.int .i64 0, .int .i64 0] [(0, 1, .t 26), (1, 1, .c (.int .i64 1))] }, { d := some 28, op := .callv (.t 25) [.c (.int .i64 0), .t 27] }]) (.seq
 (.seq (.reg 8 false [ { d := some 29, op := .load false 1 (.t 11) }, { d := some 30, op := .len (.t 29) }, { d := some 31, op := .bin .gtr (.t 30) (.c (.int .i64 500)) }]) (.cond (.t 31)
 (.seq (.reg 9 false [ { d := some 6, op := .mov (.c (.nils)) }, { d := some 7, op := .mov (.c (.int .i64 4)) }]) (.ret)) (.skip)))
 (.seq (.reg 10 false [ { d := some 32, op := .load false 1 (.t 11) }, { d := some 6, op := .mov (.t 32) }, { d := some 7, op := .mov (.c (.int .i64 0)) }]) (.ret)))))))))
def rr_sheet_Tree : List RRes := [.t 6, .t 7]
theorem pc_sheet_Tree {G : Nat → Option (List AV)} {args : List AV} {v : AV} (hn : args.length ≤ Tryd.f35.ntmps) (h : ∀ R : Run, R.G = G → R.Top → AR Tryd.prog R rc_sheet_Tree (initSt args) (Fin rr_sheet_Tree v)) : PC Tryd.prog G 35 args v :=
  PC_of Tryd.func35 rfl (by kernel_rfl) (rc := rc_sheet_Tree) (by kernel_rfl) (rs := rr_sheet_Tree) (by kernel_rfl) hn (fun R _ hG hr => h R hG hr)

def rc_sheet_Tree_1 : RCode :=
  .seq (.reg 0 false [ { d := some 6, op := .box (.t 1) }]) (.seq
 (.seq (.reg 1 false [ { d := some 10, op := .load false 1 (.t 2) }, { d := some 11, op := .len (.t 10) }, { d := some 12, op := .bin .gtr (.t 11) (.c (.int .i64 500)) }]) (.cond (.t 12) (.ret) (.skip)))
 (.seq (.reg 2 false [ { d := some 13, op := .load false 1 (.t 3) }, { d := some 14, op := .faddr 0 (.t 6) }, { d := some 15, op := .load false 1 (.t 14) }, { d := some 16, op := .look (.i .i64) (.agg [.int .i64 0, .int .i64 0, .int .u8 0, .nils, .nils]) false (.t 13) (.t 15) }, { d := some 7, op := .alloc [.int .i64 0, .int .i64 0, .int .u8 0, .nils, .nils] }, { d := none, op := .store 5 (.t 7) (.t 16) }])
 (.seq (.reg 3 false [ { d := some 17, op := .load false 1 (.t 2) }, { d := some 18, op := .mov (.t 0) }, { d := some 19, op := .faddr 0 (.t 7) }, { d := some 20, op := .load false 1 (.t 19) }, { d := some 21, op := .faddr 1 (.t 7) }, { d := some 22, op := .load false 1 (.t 21) }, { d := some 23, op := .faddr 1 (.t 6) }, { d := some 24, op := .load false 1 (.t 23) }, { d := some 25, op := .build [.int .i64 0, .int .i64 0, .int .i64 0, .int .i64 0] [(0, 1, .t 18), (1, 1, .t 20), (2, 1, .t 22), (3, 1, .t 24)] }, { d := some 26, op := .bsl false 4 1 [.int .i64 0, .int .i64 0, .int .i64 0, .int .i64 0] [(0, .t 25)] }, { d := some 27, op := .app 4 32 (.t 17) (.t 26) }, { d := none, op := .store 1 (.t 2) (.t 27) }])
 (.seq (.reg 4 false [ { d := some 28, op := .faddr 3 (.t 7) }, { d := some 29, op := .load false 1 (.t 28) }, { d := some 30, op := .len (.t 29) }, { d := some 31, op := .mov (.c (.int .i64 0)) }]) (.block 0 (.loop
 (.seq (.reg 5 false [ { d := some 32, op := .bin .lss (.t 31) (.t 30) }]) (.seq (.cond (.t 32) (.skip) (.exit 0)) (.seq (.block 1
 (.seq (.reg 6 false [ { d := some 33, op := .iaddr 2 (.t 29) (.t 31) }, { d := some 34, op := .load true 2 (.t 33) }, { d := some 9, op := .alloc [.int .i64 0, .int .i64 0] }, { d := none, op := .store 2 (.t 9) (.t 34) }]) (.reg 7 false [ { d := some 35, op := .load false 1 (.t 4) }, { d := some 36, op := .mov (.t 0) }, { d := some 37, op := .bin .add (.t 36) (.c (.int .i64 1)) }, { d := some 38, op := .load true 2 (.t 9) }, { d := some 39, op := .callv (.t 35) [.t 37, .t 38] }]))) (.reg 8 false [ { d := some 40, op := .bin .add (.t 31) (.c (.int .i64 1)) }, { d := some 31, op := .mov (.t 40) }]))))))))))
def rr_sheet_Tree_1 : List RRes := []
theorem pb_sheet_Tree_1 {G : Nat → Option (List AV)} {objs objs' : List (Nat × AObj)} {args : List AV} {v : AV} (hn : args.length ≤ Tryd.f80.ntmps) (h : ∀ R : Run, R.G = G → R.Top → AR Tryd.prog R rc_sheet_Tree_1 ⟨iniT 0 args, objs⟩ (FinB rr_sheet_Tree_1 v objs')) : PB Tryd.prog G 80 objs args v objs' :=
  PB_of Tryd.func80 rfl (by kernel_rfl) (rc := rc_sheet_Tree_1) (by kernel_rfl) (rs := rr_sheet_Tree_1) (by kernel_rfl) hn (fun R _ hG hr => h R hG hr)

def rc_law02_SheetParts : RCode :=
  .seq (.reg 0 false [ { d := some 3, op := .box (.t 0) }, { d := some 6, op := .mov (.c (.bool false)) }]) (.seq
 (.seq (.reg 1 false [ { d := some 17, op := .load true 1 (.t 3) }, { d := some 18, op := .call 18 [.t 17] }, { d := some 19, op := .mov (.t 18) }, { d := some 20, op := .mov (.t 1), guard := some (19, false) }, { d := some 21, op := .len (.t 20), guard := some (19, false) }, { d := some 22, op := .bin .gtr (.t 21) (.c (.int .i64 80)), guard := some (19, false) }, { d := some 23, op := .pick (.t 19) (.c (.bool true)) (.t 22) }]) (.cond (.t 23)
 (.seq (.reg 2 false [ { d := some 6, op := .mov (.c (.bool true)) }]) (.ret)) (.skip)))
 (.seq (.reg 3 false [ { d := some 24, op := .load true 1 (.t 3) }, { d := some 25, op := .call 19 [.t 24] }, { d := some 26, op := .bsl true 1 0 [] [] }, { d := some 27, op := .mov (.t 1) }, { d := some 28, op := .app 1 8 (.t 26) (.t 27) }, { d := some 7, op := .alloc [.nils] }, { d := none, op := .store 1 (.t 7) (.t 25) }, { d := some 8, op := .mov (.t 28) }])
 (.seq (.reg 4 false [ { d := some 30, op := .load true 1 (.t 7) }, { d := some 31, op := .mov (.t 8) }, { d := some 32, op := .mov (.t 2) }, { d := some 33, op := .call 33 [.t 30, .t 31, .t 32] }, { d := some 29, op := .mov (.t 33) }, { d := some 34, op := .ext 0 (.t 29) }, { d := some 35, op := .ext 1 (.t 29) }, { d := some 9, op := .mov (.t 34) }, { d := some 10, op := .mov (.t 35) }])
 (.seq (.reg 5 false [ { d := some 37, op := .load true 1 (.t 3) }, { d := some 38, op := .mov (.t 1) }, { d := some 39, op := .mov (.t 2) }, { d := some 40, op := .call 34 [.t 37, .t 38, .t 39] }, { d := some 36, op := .mov (.t 40) }, { d := some 41, op := .ext 0 (.t 36) }, { d := some 42, op := .ext 1 (.t 36) }, { d := some 11, op := .mov (.t 41) }, { d := some 12, op := .mov (.t 42) }])
 (.seq (.reg 6 false [ { d := some 44, op := .load true 1 (.t 7) }, { d := some 45, op := .mov (.t 8) }, { d := some 46, op := .mov (.t 2) }, { d := some 47, op := .call 35 [.t 44, .t 45, .t 46] }, { d := some 43, op := .mov (.t 47) }, { d := some 48, op := .ext 0 (.t 43) }, { d := some 49, op := .ext 1 (.t 43) }, { d := some 13, op := .mov (.t 48) }, { d := some 14, op := .mov (.t 49) }])
 (.seq (.reg 7 false [ { d := some 51, op := .load true 1 (.t 3) }, { d := some 52, op := .mov (.t 1) }, { d := some 53, op := .mov (.t 2) }, { d := some 54, op := .call 36 [.t 51, .t 52, .t 53] }, { d := some 50, op := .mov (.t 54) }, { d := some 55, op := .ext 0 (.t 50) }, { d := some 56, op := .ext 1 (.t 50) }, { d := some 15, op := .mov (.t 55) }, { d := some 16, op := .mov (.t 56) }])
 (.seq (.reg 8 false [ { d := some 57, op := .mov (.t 9) }, { d := some 58, op := .mov (.t 11) }, { d := some 59, op := .call 37 [.t 57, .t 58] }, { d := some 60, op := .mov (.t 59) }, { d := some 61, op := .mov (.t 10), guard := some (60, true) }, { d := some 62, op := .mov (.t 12), guard := some (60, true) }, { d := some 63, op := .bin .eql (.t 61) (.t 62), guard := some (60, true) }, { d := some 64, op := .pick (.t 60) (.t 63) (.c (.bool false)) }, { d := some 65, op := .mov (.t 64) }, { d := some 66, op := .mov (.t 13), guard := some (65, true) }, { d := some 67, op := .mov (.t 15), guard := some (65, true) }, { d := some 68, op := .call 38 [.t 66, .t 67], guard := some (65, true) }, { d := some 69, op := .pick (.t 65) (.t 68) (.c (.bool false)) }, { d := some 70, op := .mov (.t 69) }, { d := some 71, op := .mov (.t 14), guard := some (70, true) }, { d := some 72, op := .mov (.t 16), guard := some (70, true) }, { d := some 73, op := .bin .eql (.t 71) (.t 72), guard := some (70, true) }, { d := some 74, op := .pick (.t 70) (.t 73) (.c (.bool false)) }, { d := some 75, op := .mov (.t 74) }, { d := some 76, op := .load true 1 (.t 7), guard := some (75, true) }, { d := some 77, op := .load true 1 (.t 3), guard := some (75, true) }, { d := some 78, op := .call 32 [.t 76, .t 77], guard := some (75, true) }, { d := some 79, op := .pick (.t 75) (.t 78) (.c (.bool false)) }, { d := some 80, op := .mov (.t 79) }, { d := some 81, op := .mov (.t 8), guard := some (80, true) }, { d := some 82, op := .mov (.t 1), guard := some (80, true) }, { d := some 83, op := .call 26 [.t 81, .t 82], guard := some (80, true) }, { d := some 84, op := .pick (.t 80) (.t 83) (.c (.bool false)) }, { d := some 6, op := .mov (.t 84) }]) (.ret))))))))
def rr_law02_SheetParts : List RRes := [.t 6]
theorem pc_law02_SheetParts {G : Nat → Option (List AV)} {args : List AV} {v : AV} (hn : args.length ≤ Tryd.f4.ntmps) (h : ∀ R : Run, R.G = G → R.Top → AR Tryd.prog R rc_law02_SheetParts (initSt args) (Fin rr_law02_SheetParts v)) : PC Tryd.prog G 4 args v :=
  PC_of Tryd.func4 rfl (by kernel_rfl) (rc := rc_law02_SheetParts) (by kernel_rfl) (rs := rr_law02_SheetParts) (by kernel_rfl) hn (fun R _ hG hr => h R hG hr)

end Go.Proofs.YtdpmioiamcgfkaaDoor

/-! The abstract machine's code of functions of the program, as a program of ours printed it; that it is theirs is proved beside each. -/
namespace Go.Proofs.YtdpmioiamcgfkaaDoor
open Go.RowKit

def rc_ref02_asked : RCode :=
  .seq (.reg 0 false [ { d := some 3, op := .box (.t 0) }, { d := some 6, op := .mov (.c (.int .i64 0)) }]) (.seq
 (.seq (.reg 1 false [ { d := some 8, op := .load true 1 (.t 3) }, { d := some 9, op := .call 25 [.t 8] }, { d := some 7, op := .mov (.t 9) }])
 (.seq (.reg 2 false [ { d := some 10, op := .mov (.t 7) }, { d := some 11, op := .bin .neq (.t 10) (.c (.int .i64 0)) }]) (.cond (.t 11)
 (.seq (.reg 3 false [ { d := some 12, op := .mov (.t 7) }, { d := some 6, op := .mov (.t 12) }]) (.ret)) (.skip)))) (.seq
 (.seq (.reg 4 false [ { d := some 13, op := .load true 1 (.t 3) }, { d := some 14, op := .mov (.t 1) }, { d := some 15, op := .call 110 [.t 13, .t 14] }, { d := some 16, op := .un .not (.t 15) }]) (.cond (.t 16)
 (.seq (.reg 5 false [ { d := some 6, op := .mov (.c (.int .i64 22)) }]) (.ret)) (.skip))) (.seq
 (.seq (.reg 6 false [ { d := some 17, op := .load true 1 (.t 3) }, { d := some 18, op := .call 55 [.t 17] }, { d := some 19, op := .mov (.t 2) }, { d := some 20, op := .call 56 [.t 18, .t 19] }, { d := some 21, op := .bin .lss (.t 20) (.c (.int .i64 0)) }]) (.cond (.t 21)
 (.seq (.reg 7 false [ { d := some 6, op := .mov (.c (.int .i64 6)) }]) (.ret)) (.skip)))
 (.seq (.reg 8 false [ { d := some 6, op := .mov (.c (.int .i64 0)) }]) (.ret)))))
def rr_ref02_asked : List RRes := [.t 6]
theorem pc_ref02_asked {G : Nat → Option (List AV)} {args : List AV} {v : AV} (hn : args.length ≤ Tryd.f78.ntmps) (h : ∀ R : Run, R.G = G → R.Top → AR Tryd.prog R rc_ref02_asked (initSt args) (Fin rr_ref02_asked v)) : PC Tryd.prog G 78 args v :=
  PC_of Tryd.func78 rfl (by kernel_rfl) (rc := rc_ref02_asked) (by kernel_rfl) (rs := rr_ref02_asked) (by kernel_rfl) hn (fun R _ hG hr => h R hG hr)

def rc_ref02_Letters : RCode :=
  .seq (.reg 0 false [ { d := some 2, op := .box (.t 0) }, { d := some 4, op := .mov (.c (.bool false)) }])
 (.seq (.reg 1 false [ { d := some 7, op := .load true 1 (.t 2) }, { d := some 8, op := .call 55 [.t 7] }, { d := some 5, op := .mov (.t 8) }]) (.seq
 (.seq (.reg 2 false [ { d := some 9, op := .mov (.t 1) }, { d := some 10, op := .len (.t 9) }, { d := some 11, op := .mov (.t 5) }, { d := some 12, op := .len (.t 11) }, { d := some 13, op := .bin .neq (.t 10) (.t 12) }]) (.cond (.t 13)
 (.seq (.reg 3 false [ { d := some 4, op := .mov (.c (.bool false)) }]) (.ret)) (.skip))) (.seq
 (.seq (.reg 4 false [ { d := some 6, op := .mov (.c (.int .i64 0)) }]) (.block 0 (.loop (.seq
 (.seq (.reg 5 false [ { d := some 14, op := .mov (.t 6) }, { d := some 15, op := .mov (.t 5) }, { d := some 16, op := .len (.t 15) }, { d := some 17, op := .bin .lss (.t 14) (.t 16) }]) (.cond (.t 17) (.skip) (.exit 0))) (.seq (.block 1
 (.seq (.reg 7 true [ { d := some 20, op := .mov (.t 1), aft := [] }, { d := some 21, op := .mov (.t 6), aft := [] }, { d := some 22, op := .iaddr 1 (.t 20) (.t 21), aft := [0, 1] }, { d := some 23, op := .load false 1 (.t 22), aft := [2] }, { d := some 24, op := .load true 1 (.t 2), aft := [] }, { d := some 25, op := .mov (.t 5), aft := [] }, { d := some 26, op := .mov (.t 6), aft := [] }, { d := some 27, op := .iaddr 1 (.t 25) (.t 26), aft := [5, 6] }, { d := some 28, op := .load false 1 (.t 27), aft := [7] }, { d := some 29, op := .call 59 [.t 24, .t 28], aft := [4, 8] }, { d := some 30, op := .call 106 [.t 23, .c (.int .i64 1), .t 29], aft := [3, 9, 9] }, { d := some 31, op := .un .not (.t 30), aft := [10] }]) (.cond (.t 31)
 (.seq (.reg 8 false [ { d := some 4, op := .mov (.c (.bool false)) }]) (.ret)) (.skip)))) (.reg 6 false [ { d := some 18, op := .mov (.t 6) }, { d := some 19, op := .bin .add (.t 18) (.c (.int .i64 1)) }, { d := some 6, op := .mov (.t 19) }]))))))
 (.seq (.reg 9 false [ { d := some 4, op := .mov (.c (.bool true)) }]) (.ret)))))
def rr_ref02_Letters : List RRes := [.t 4]
theorem pc_ref02_Letters {G : Nat → Option (List AV)} {args : List AV} {v : AV} (hn : args.length ≤ Tryd.f110.ntmps) (h : ∀ R : Run, R.G = G → R.Top → AR Tryd.prog R rc_ref02_Letters (initSt args) (Fin rr_ref02_Letters v)) : PC Tryd.prog G 110 args v :=
  PC_of Tryd.func110 rfl (by kernel_rfl) (rc := rc_ref02_Letters) (by kernel_rfl) (rs := rr_ref02_Letters) (by kernel_rfl) hn (fun R _ hG hr => h R hG hr)

def rc_ref02_Taken : RCode :=
  .seq (.reg 0 false [ { d := some 3, op := .box (.t 0) }, { d := some 6, op := .alloc [.int .i64 0, .int .i64 0, .int .u8 0, .nils, .nils] }])
 (.seq (.reg 1 true [ { d := some 10, op := .load true 1 (.t 3), aft := [] }, { d := some 11, op := .mov (.t 2), aft := [] }, { d := some 12, op := .mov (.t 1), aft := [] }, { d := some 13, op := .load true 1 (.t 3), aft := [] }, { d := some 14, op := .call 55 [.t 13], aft := [3] }, { d := some 15, op := .mov (.t 2), aft := [] }, { d := some 16, op := .call 56 [.t 14, .t 15], aft := [4, 5, 4] }, { d := some 17, op := .iaddr 1 (.t 12) (.t 16), aft := [2, 6] }, { d := some 18, op := .load false 1 (.t 17), aft := [7] }, { d := some 19, op := .build [.int .i64 0, .int .i64 0] [(0, 1, .t 11), (1, 1, .t 18)], aft := [1, 8] }, { d := some 20, op := .call 74 [.t 10, .t 19], aft := [0, 9, 6] }, { d := some 9, op := .mov (.t 20), aft := [10] }, { d := some 21, op := .ext 0 (.t 9), aft := [11] }, { d := some 22, op := .ext 1 (.t 9), aft := [11] }, { d := some 7, op := .alloc [.int .i64 0, .int .i64 0, .int .u8 0, .nils, .nils], aft := [] }, { d := none, op := .store 5 (.t 7) (.t 21), aft := [14, 12, 10, 0, 1, 2, 3, 4, 5, 6, 7, 8, 9, 10, 11, 12, 14] }, { d := some 8, op := .mov (.t 22), aft := [13, 15, 0, 1, 2, 3, 4, 5, 6, 7, 8, 9, 10, 11, 12, 13, 14, 15] }])
 (.seq (.reg 2 false [ { d := some 23, op := .load true 5 (.t 7) }, { d := none, op := .store 5 (.t 6) (.t 23) }]) (.ret)))
def rr_ref02_Taken : List RRes := [.c 6 true 5]
theorem pc_ref02_Taken {G : Nat → Option (List AV)} {args : List AV} {v : AV} (hn : args.length ≤ Tryd.f112.ntmps) (h : ∀ R : Run, R.G = G → R.Top → AR Tryd.prog R rc_ref02_Taken (initSt args) (Fin rr_ref02_Taken v)) : PC Tryd.prog G 112 args v :=
  PC_of Tryd.func112 rfl (by kernel_rfl) (rc := rc_ref02_Taken) (by kernel_rfl) (rs := rr_ref02_Taken) (by kernel_rfl) hn (fun R _ hG hr => h R hG hr)

def rc_ref02_parts : RCode :=
  .seq (.reg 0 false [ { d := some 5, op := .box (.t 0) }])
 (.seq (.reg 1 false [ { d := some 12, op := .load true 1 (.t 5) }, { d := some 13, op := .mov (.t 1) }, { d := some 14, op := .mov (.t 2) }, { d := some 15, op := .call 112 [.t 12, .t 13, .t 14] }, { d := some 10, op := .alloc [.int .i64 0, .int .i64 0, .int .u8 0, .nils, .nils] }, { d := none, op := .store 5 (.t 10) (.t 15) }]) (.seq
 (.seq (.reg 2 false [ { d := some 16, op := .faddr 2 (.t 10) }, { d := some 17, op := .load false 1 (.t 16) }, { d := some 18, op := .bin .gtr (.t 17) (.c (.int .u8 1)) }]) (.cond (.t 18)
 (.seq (.reg 3 false [ { d := some 19, op := .mov (.t 4) }, { d := some 20, op := .load true 1 (.t 5) }, { d := some 21, op := .call 55 [.t 20] }, { d := some 22, op := .mov (.t 2) }, { d := some 23, op := .call 56 [.t 21, .t 22] }, { d := some 24, op := .iaddr 1 (.t 19) (.t 23) }, { d := some 25, op := .load false 1 (.t 24) }, { d := some 26, op := .mov (.t 3) }, { d := some 27, op := .bin .add (.t 25) (.t 26) }, { d := some 28, op := .iaddr 1 (.t 19) (.t 23) }, { d := none, op := .store 1 (.t 28) (.t 27) }]) (.ret)) (.skip)))
 (.seq (.reg 4 false [ { d := some 11, op := .mov (.c (.int .i64 0)) }]) (.block 0 (.loop (.seq
 (.seq (.reg 5 false [ { d := some 29, op := .mov (.t 11) }, { d := some 30, op := .faddr 3 (.t 10) }, { d := some 31, op := .load false 1 (.t 30) }, { d := some 32, op := .len (.t 31) }, { d := some 33, op := .bin .lss (.t 29) (.t 32) }]) (.cond (.t 33) (.skip) (.exit 0))) (.seq (.block 1 (.reg 7 true [ { d := some 36, op := .load true 1 (.t 5), aft := [] }, { d := some 37, op := .mov (.t 1), aft := [] }, { d := some 38, op := .faddr 3 (.t 10), aft := [] }, { d := some 39, op := .load false 1 (.t 38), aft := [2] }, { d := some 40, op := .mov (.t 11), aft := [] }, { d := some 41, op := .iaddr 2 (.t 39) (.t 40), aft := [3, 4] }, { d := some 42, op := .faddr 0 (.t 41), aft := [5] }, { d := some 43, op := .load false 1 (.t 42), aft := [6] }, { d := some 44, op := .mov (.t 3), aft := [] }, { d := some 45, op := .faddr 3 (.t 10), aft := [] }, { d := some 46, op := .load false 1 (.t 45), aft := [9] }, { d := some 47, op := .mov (.t 11), aft := [] }, { d := some 48, op := .iaddr 2 (.t 46) (.t 47), aft := [10, 11] }, { d := some 49, op := .faddr 1 (.t 48), aft := [12] }, { d := some 50, op := .load false 1 (.t 49), aft := [13] }, { d := some 51, op := .bin .mul (.t 44) (.t 50), aft := [8, 14] }, { d := some 52, op := .mov (.t 4), aft := [] }, { d := some 53, op := .call 111 [.t 36, .t 37, .t 43, .t 51, .t 52], aft := [0, 1, 7, 15, 16] }])) (.reg 6 false [ { d := some 34, op := .mov (.t 11) }, { d := some 35, op := .bin .add (.t 34) (.c (.int .i64 1)) }, { d := some 11, op := .mov (.t 35) }]))))))))
def rr_ref02_parts : List RRes := []
theorem pb_ref02_parts {G : Nat → Option (List AV)} {objs objs' : List (Nat × AObj)} {args : List AV} {v : AV} (hn : args.length ≤ Tryd.f111.ntmps) (h : ∀ R : Run, R.G = G → R.Top → AR Tryd.prog R rc_ref02_parts ⟨iniT 0 args, objs⟩ (FinB rr_ref02_parts v objs')) : PB Tryd.prog G 111 objs args v objs' :=
  PB_of Tryd.func111 rfl (by kernel_rfl) (rc := rc_ref02_parts) (by kernel_rfl) (rs := rr_ref02_parts) (by kernel_rfl) hn (fun R _ hG hr => h R hG hr)

def rc_ref02_Parts : RCode :=
  .seq (.reg 0 false [ { d := some 3, op := .box (.t 0) }, { d := some 6, op := .mov (.c (.nils)) }])
 (.seq (.reg 1 false [ { d := some 11, op := .load true 1 (.t 3) }, { d := some 12, op := .call 55 [.t 11] }, { d := some 7, op := .mov (.t 12) }])
 (.seq (.reg 2 false [ { d := some 13, op := .mov (.t 7) }, { d := some 14, op := .len (.t 13) }, { d := some 15, op := .mksl 1 8 [.int .i64 0] (.t 14) }, { d := some 8, op := .mov (.t 15) }])
 (.seq (.reg 3 false [ { d := some 16, op := .load true 1 (.t 3) }, { d := some 17, op := .mov (.t 1) }, { d := some 18, op := .mov (.t 2) }, { d := some 19, op := .mov (.t 8) }, { d := some 20, op := .call 111 [.t 16, .t 17, .t 18, .c (.int .i64 1), .t 19] }])
 (.seq (.reg 4 false [ { d := some 9, op := .mov (.c (.nils)) }]) (.seq
 (.seq (.reg 5 false [ { d := some 10, op := .mov (.c (.int .i64 0)) }]) (.block 0 (.loop (.seq
 (.seq (.reg 6 false [ { d := some 21, op := .mov (.t 10) }, { d := some 22, op := .mov (.t 7) }, { d := some 23, op := .len (.t 22) }, { d := some 24, op := .bin .lss (.t 21) (.t 23) }]) (.cond (.t 24) (.skip) (.exit 0))) (.seq (.block 1
 (.seq (.reg 8 false [ { d := some 27, op := .mov (.t 8) }, { d := some 28, op := .mov (.t 10) }, { d := some 29, op := .iaddr 1 (.t 27) (.t 28) }, { d := some 30, op := .load false 1 (.t 29) }, { d := some 31, op := .bin .gtr (.t 30) (.c (.int .i64 0)) }]) (.cond (.t 31) (.reg 9 true [ { d := some 32, op := .mov (.t 9), aft := [] }, { d := some 33, op := .mov (.t 7), aft := [] }, { d := some 34, op := .mov (.t 10), aft := [] }, { d := some 35, op := .iaddr 1 (.t 33) (.t 34), aft := [1, 2] }, { d := some 36, op := .load false 1 (.t 35), aft := [3] }, { d := some 37, op := .mov (.t 8), aft := [] }, { d := some 38, op := .mov (.t 10), aft := [] }, { d := some 39, op := .iaddr 1 (.t 37) (.t 38), aft := [5, 6] }, { d := some 40, op := .load false 1 (.t 39), aft := [7] }, { d := some 41, op := .build [.int .i64 0, .int .i64 0] [(0, 1, .t 36), (1, 1, .t 40)], aft := [4, 8] }, { d := some 42, op := .bsl false 2 1 [.int .i64 0, .int .i64 0] [(0, .t 41)], aft := [9] }, { d := some 43, op := .app 2 16 (.t 32) (.t 42), aft := [0, 10] }, { d := some 9, op := .mov (.t 43), aft := [11, 11, 0, 1, 2, 3, 4, 5, 6, 7, 8, 9, 10, 11] }]) (.skip)))) (.reg 7 false [ { d := some 25, op := .mov (.t 10) }, { d := some 26, op := .bin .add (.t 25) (.c (.int .i64 1)) }, { d := some 10, op := .mov (.t 26) }]))))))
 (.seq (.reg 10 false [ { d := some 44, op := .mov (.t 9) }, { d := some 6, op := .mov (.t 44) }]) (.ret)))))))
def rr_ref02_Parts : List RRes := [.t 6]
theorem pc_ref02_Parts {G : Nat → Option (List AV)} {args : List AV} {v : AV} (hn : args.length ≤ Tryd.f79.ntmps) (h : ∀ R : Run, R.G = G → R.Top → AR Tryd.prog R rc_ref02_Parts (initSt args) (Fin rr_ref02_Parts v)) : PC Tryd.prog G 79 args v :=
  PC_of Tryd.func79 rfl (by kernel_rfl) (rc := rc_ref02_Parts) (by kernel_rfl) (rs := rr_ref02_Parts) (by kernel_rfl) hn (fun R _ hG hr => h R hG hr)

def rc_ref02_Explode : RCode :=
  .seq (.reg 0 false [ { d := some 3, op := .box (.t 0) }, { d := some 6, op := .mov (.c (.nils)) }, { d := some 7, op := .mov (.c (.int .i64 0)) }]) (.seq
 (.seq (.reg 1 false [ { d := some 9, op := .load true 1 (.t 3) }, { d := some 10, op := .mov (.t 1) }, { d := some 11, op := .mov (.t 2) }, { d := some 12, op := .call 78 [.t 9, .t 10, .t 11] }, { d := some 8, op := .mov (.t 12) }])
 (.seq (.reg 2 false [ { d := some 13, op := .mov (.t 8) }, { d := some 14, op := .bin .neq (.t 13) (.c (.int .i64 0)) }]) (.cond (.t 14)
 (.seq (.reg 3 false [ { d := some 15, op := .mov (.t 8) }, { d := some 6, op := .mov (.c (.nils)) }, { d := some 7, op := .mov (.t 15) }]) (.ret)) (.skip))))
 (.seq (.reg 4 false [ { d := some 16, op := .load true 1 (.t 3) }, { d := some 17, op := .mov (.t 1) }, { d := some 18, op := .mov (.t 2) }, { d := some 19, op := .call 79 [.t 16, .t 17, .t 18] }, { d := some 6, op := .mov (.t 19) }, { d := some 7, op := .mov (.c (.int .i64 0)) }]) (.ret)))
def rr_ref02_Explode : List RRes := [.t 6, .t 7]
theorem pc_ref02_Explode {G : Nat → Option (List AV)} {args : List AV} {v : AV} (hn : args.length ≤ Tryd.f34.ntmps) (h : ∀ R : Run, R.G = G → R.Top → AR Tryd.prog R rc_ref02_Explode (initSt args) (Fin rr_ref02_Explode v)) : PC Tryd.prog G 34 args v :=
  PC_of Tryd.func34 rfl (by kernel_rfl) (rc := rc_ref02_Explode) (by kernel_rfl) (rs := rr_ref02_Explode) (by kernel_rfl) hn (fun R _ hG hr => h R hG hr)

def rc_ref02_branches : RCode :=
  .seq (.reg 0 false [ { d := some 3, op := .box (.t 0) }, { d := some 6, op := .mov (.c (.int .i64 0)) }])
 (.seq (.reg 1 false [ { d := some 10, op := .load true 1 (.t 3) }, { d := some 11, op := .mov (.t 1) }, { d := some 12, op := .mov (.t 2) }, { d := some 13, op := .call 112 [.t 10, .t 11, .t 12] }, { d := some 7, op := .alloc [.int .i64 0, .int .i64 0, .int .u8 0, .nils, .nils] }, { d := none, op := .store 5 (.t 7) (.t 13) }])
 (.seq (.reg 2 false [ { d := some 8, op := .mov (.c (.int .i64 1)) }]) (.seq
 (.seq (.reg 3 false [ { d := some 9, op := .mov (.c (.int .i64 0)) }]) (.block 0 (.loop (.seq
 (.seq (.reg 4 false [ { d := some 14, op := .mov (.t 9) }, { d := some 15, op := .faddr 3 (.t 7) }, { d := some 16, op := .load false 1 (.t 15) }, { d := some 17, op := .len (.t 16) }, { d := some 18, op := .bin .lss (.t 14) (.t 17) }]) (.cond (.t 18) (.skip) (.exit 0))) (.seq (.block 1 (.reg 6 true [ { d := some 21, op := .mov (.t 8), aft := [] }, { d := some 22, op := .load true 1 (.t 3), aft := [] }, { d := some 23, op := .mov (.t 1), aft := [] }, { d := some 24, op := .faddr 3 (.t 7), aft := [] }, { d := some 25, op := .load false 1 (.t 24), aft := [3] }, { d := some 26, op := .mov (.t 9), aft := [] }, { d := some 27, op := .iaddr 2 (.t 25) (.t 26), aft := [4, 5] }, { d := some 28, op := .faddr 0 (.t 27), aft := [6] }, { d := some 29, op := .load false 1 (.t 28), aft := [7] }, { d := some 30, op := .call 81 [.t 22, .t 23, .t 29], aft := [1, 2, 8] }, { d := some 31, op := .bin .add (.t 21) (.t 30), aft := [0, 9] }, { d := some 8, op := .mov (.t 31), aft := [10, 9, 0, 1, 2, 3, 4, 5, 6, 7, 8, 9, 10] }])) (.reg 5 false [ { d := some 19, op := .mov (.t 9) }, { d := some 20, op := .bin .add (.t 19) (.c (.int .i64 1)) }, { d := some 9, op := .mov (.t 20) }]))))))
 (.seq (.reg 7 false [ { d := some 32, op := .mov (.t 8) }, { d := some 6, op := .mov (.t 32) }]) (.ret)))))
def rr_ref02_branches : List RRes := [.t 6]
theorem pc_ref02_branches {G : Nat → Option (List AV)} {args : List AV} {v : AV} (hn : args.length ≤ Tryd.f81.ntmps) (h : ∀ R : Run, R.G = G → R.Top → AR Tryd.prog R rc_ref02_branches (initSt args) (Fin rr_ref02_branches v)) : PC Tryd.prog G 81 args v :=
  PC_of Tryd.func81 rfl (by kernel_rfl) (rc := rc_ref02_branches) (by kernel_rfl) (rs := rr_ref02_branches) (by kernel_rfl) hn (fun R _ hG hr => h R hG hr)

def rc_ref02_tree : RCode :=
  .seq (.reg 0 false [ { d := some 5, op := .box (.t 0) }, { d := some 10, op := .mov (.c (.nils)) }])
 (.seq (.reg 1 false [ { d := some 14, op := .load true 1 (.t 5) }, { d := some 15, op := .mov (.t 1) }, { d := some 16, op := .mov (.t 2) }, { d := some 17, op := .call 112 [.t 14, .t 15, .t 16] }, { d := some 11, op := .alloc [.int .i64 0, .int .i64 0, .int .u8 0, .nils, .nils] }, { d := none, op := .store 5 (.t 11) (.t 17) }])
 (.seq (.reg 2 false [ { d := some 18, op := .mov (.t 3) }, { d := some 19, op := .mov (.t 2) }, { d := some 20, op := .faddr 1 (.t 11) }, { d := some 21, op := .load false 1 (.t 20) }, { d := some 22, op := .mov (.t 4) }, { d := some 23, op := .build [.int .i64 0, .int .i64 0, .int .i64 0, .int .i64 0] [(0, 1, .t 18), (1, 1, .t 19), (2, 1, .t 21), (3, 1, .t 22)] }, { d := some 24, op := .bsl true 4 1 [.int .i64 0, .int .i64 0, .int .i64 0, .int .i64 0] [(0, .t 23)] }, { d := some 12, op := .mov (.t 24) }]) (.seq
 (.seq (.reg 3 false [ { d := some 13, op := .mov (.c (.int .i64 0)) }]) (.block 0 (.loop (.seq
 (.seq (.reg 4 false [ { d := some 25, op := .mov (.t 13) }, { d := some 26, op := .faddr 3 (.t 11) }, { d := some 27, op := .load false 1 (.t 26) }, { d := some 28, op := .len (.t 27) }, { d := some 29, op := .bin .lss (.t 25) (.t 28) }]) (.cond (.t 29) (.skip) (.exit 0))) (.seq (.block 1 (.reg 6 true [ { d := some 32, op := .mov (.t 12), aft := [] }, { d := some 33, op := .load true 1 (.t 5), aft := [] }, { d := some 34, op := .mov (.t 1), aft := [] }, { d := some 35, op := .faddr 3 (.t 11), aft := [] }, { d := some 36, op := .load false 1 (.t 35), aft := [3] }, { d := some 37, op := .mov (.t 13), aft := [] }, { d := some 38, op := .iaddr 2 (.t 36) (.t 37), aft := [4, 5] }, { d := some 39, op := .faddr 0 (.t 38), aft := [6] }, { d := some 40, op := .load false 1 (.t 39), aft := [7] }, { d := some 41, op := .mov (.t 3), aft := [] }, { d := some 42, op := .bin .add (.t 41) (.c (.int .i64 1)), aft := [9] }, { d := some 43, op := .faddr 3 (.t 11), aft := [] }, { d := some 44, op := .load false 1 (.t 43), aft := [11] }, { d := some 45, op := .mov (.t 13), aft := [] }, { d := some 46, op := .iaddr 2 (.t 44) (.t 45), aft := [12, 13] }, { d := some 47, op := .faddr 1 (.t 46), aft := [14] }, { d := some 48, op := .load false 1 (.t 47), aft := [15] }, { d := some 49, op := .call 82 [.t 33, .t 34, .t 40, .t 42, .t 48], aft := [1, 2, 8, 10, 16] }, { d := some 50, op := .app 4 32 (.t 32) (.t 49), aft := [0, 17, 17] }, { d := some 12, op := .mov (.t 50), aft := [18, 18, 0, 1, 2, 3, 4, 5, 6, 7, 8, 9, 10, 11, 12, 13, 14, 15, 16, 17, 18] }])) (.reg 5 false [ { d := some 30, op := .mov (.t 13) }, { d := some 31, op := .bin .add (.t 30) (.c (.int .i64 1)) }, { d := some 13, op := .mov (.t 31) }]))))))
 (.seq (.reg 7 false [ { d := some 51, op := .mov (.t 12) }, { d := some 10, op := .mov (.t 51) }]) (.ret)))))
def rr_ref02_tree : List RRes := [.t 10]
theorem pc_ref02_tree {G : Nat → Option (List AV)} {args : List AV} {v : AV} (hn : args.length ≤ Tryd.f82.ntmps) (h : ∀ R : Run, R.G = G → R.Top → AR Tryd.prog R rc_ref02_tree (initSt args) (Fin rr_ref02_tree v)) : PC Tryd.prog G 82 args v :=
  PC_of Tryd.func82 rfl (by kernel_rfl) (rc := rc_ref02_tree) (by kernel_rfl) (rs := rr_ref02_tree) (by kernel_rfl) hn (fun R _ hG hr => h R hG hr)

def rc_ref02_Tree : RCode :=
  .seq (.reg 0 false [ { d := some 3, op := .box (.t 0) }, { d := some 6, op := .mov (.c (.nils)) }, { d := some 7, op := .mov (.c (.int .i64 0)) }]) (.seq
 (.seq (.reg 1 false [ { d := some 9, op := .load true 1 (.t 3) }, { d := some 10, op := .mov (.t 1) }, { d := some 11, op := .mov (.t 2) }, { d := some 12, op := .call 78 [.t 9, .t 10, .t 11] }, { d := some 8, op := .mov (.t 12) }])
 (.seq (.reg 2 false [ { d := some 13, op := .mov (.t 8) }, { d := some 14, op := .bin .neq (.t 13) (.c (.int .i64 0)) }]) (.cond (.t 14)
 (.seq (.reg 3 false [ { d := some 15, op := .mov (.t 8) }, { d := some 6, op := .mov (.c (.nils)) }, { d := some 7, op := .mov (.t 15) }]) (.ret)) (.skip)))) (.seq
 (.seq (.reg 4 false [ { d := some 16, op := .load true 1 (.t 3) }, { d := some 17, op := .mov (.t 1) }, { d := some 18, op := .mov (.t 2) }, { d := some 19, op := .call 81 [.t 16, .t 17, .t 18] }, { d := some 20, op := .bin .gtr (.t 19) (.c (.int .i64 500)) }]) (.cond (.t 20)
 (.seq (.reg 5 false [ { d := some 6, op := .mov (.c (.nils)) }, { d := some 7, op := .mov (.c (.int .i64 4)) }]) (.ret)) (.skip)))
 (.seq (.reg 6 false [ { d := some 21, op := .load true 1 (.t 3) }, { d := some 22, op := .mov (.t 1) }, { d := some 23, op := .mov (.t 2) }, { d := some 24, op := .call 82 [.t 21, .t 22, .t 23, .c (.int .i64 0), .c (.int .i64 1)] }, { d := some 6, op := .mov (.t 24) }, { d := some 7, op := .mov (.c (.int .i64 0)) }]) (.ret))))
def rr_ref02_Tree : List RRes := [.t 6, .t 7]
theorem pc_ref02_Tree {G : Nat → Option (List AV)} {args : List AV} {v : AV} (hn : args.length ≤ Tryd.f36.ntmps) (h : ∀ R : Run, R.G = G → R.Top → AR Tryd.prog R rc_ref02_Tree (initSt args) (Fin rr_ref02_Tree v)) : PC Tryd.prog G 36 args v :=
  PC_of Tryd.func36 rfl (by kernel_rfl) (rc := rc_ref02_Tree) (by kernel_rfl) (rs := rr_ref02_Tree) (by kernel_rfl) hn (fun R _ hG hr => h R hG hr)

def rc_ref02_SameBranches : RCode :=
  .seq (.reg 0 false [ { d := some 4, op := .mov (.c (.bool false)) }]) (.seq
 (.seq (.reg 1 false [ { d := some 6, op := .mov (.t 0) }, { d := some 7, op := .len (.t 6) }, { d := some 8, op := .mov (.t 1) }, { d := some 9, op := .len (.t 8) }, { d := some 10, op := .bin .neq (.t 7) (.t 9) }]) (.cond (.t 10)
 (.seq (.reg 2 false [ { d := some 4, op := .mov (.c (.bool false)) }]) (.ret)) (.skip))) (.seq
 (.seq (.reg 3 false [ { d := some 5, op := .mov (.c (.int .i64 0)) }]) (.block 0 (.loop (.seq
 (.seq (.reg 4 false [ { d := some 11, op := .mov (.t 5) }, { d := some 12, op := .mov (.t 0) }, { d := some 13, op := .len (.t 12) }, { d := some 14, op := .bin .lss (.t 11) (.t 13) }]) (.cond (.t 14) (.skip) (.exit 0))) (.seq (.block 1
 (.seq (.reg 6 true [ { d := some 17, op := .mov (.t 0), aft := [] }, { d := some 18, op := .mov (.t 5), aft := [] }, { d := some 19, op := .iaddr 4 (.t 17) (.t 18), aft := [0, 1] }, { d := some 20, op := .load true 4 (.t 19), aft := [2] }, { d := some 21, op := .mov (.t 1), aft := [] }, { d := some 22, op := .mov (.t 5), aft := [] }, { d := some 23, op := .iaddr 4 (.t 21) (.t 22), aft := [4, 5] }, { d := some 24, op := .load true 4 (.t 23), aft := [6] }, { d := some 25, op := .eqs true [.i, .i, .i, .i] (.t 20) (.t 24), aft := [3, 7] }]) (.cond (.t 25)
 (.seq (.reg 7 false [ { d := some 4, op := .mov (.c (.bool false)) }]) (.ret)) (.skip)))) (.reg 5 false [ { d := some 15, op := .mov (.t 5) }, { d := some 16, op := .bin .add (.t 15) (.c (.int .i64 1)) }, { d := some 5, op := .mov (.t 16) }]))))))
 (.seq (.reg 8 false [ { d := some 4, op := .mov (.c (.bool true)) }]) (.ret))))
def rr_ref02_SameBranches : List RRes := [.t 4]
theorem pc_ref02_SameBranches {G : Nat → Option (List AV)} {args : List AV} {v : AV} (hn : args.length ≤ Tryd.f38.ntmps) (h : ∀ R : Run, R.G = G → R.Top → AR Tryd.prog R rc_ref02_SameBranches (initSt args) (Fin rr_ref02_SameBranches v)) : PC Tryd.prog G 38 args v :=
  PC_of Tryd.func38 rfl (by kernel_rfl) (rc := rc_ref02_SameBranches) (by kernel_rfl) (rs := rr_ref02_SameBranches) (by kernel_rfl) hn (fun R _ hG hr => h R hG hr)

end Go.Proofs.YtdpmioiamcgfkaaDoor

/-! The abstract machine's code of functions of the program, as a program of ours printed it; that it is theirs is proved beside each. -/
namespace Go.Proofs.YtdpmioiamcgfkaaDoor
open Go.RowKit

noncomputable def rc_sheet_open : RCode :=
  .seq (.reg 0 false [ { d := some 1, op := .box (.t 0) }, { d := some 2, op := .mov (.c (.nilp)) }, { d := some 3, op := .mov (.c (.int .i64 0)) }]) (.scope
 (.seq (.reg 1 false [ { d := some 16, op := .load true 1 (.t 1) }, { d := some 17, op := .build [.nils, .nils] [(0, 1, .t 16)] }, { d := some 18, op := .box (.t 17) }, { d := some 4, op := .alloc [.nilp] }, { d := none, op := .store 1 (.t 4) (.t 18) }]) (.seq
 (.seq (.reg 2 false [ { d := some 19, op := .faddr 0 (.t 1) }, { d := some 20, op := .load false 1 (.t 19) }, { d := some 21, op := .len (.t 20) }, { d := some 22, op := .bsl false 1 1 [.int .i64 0] [(0, .t 21)] }, { d := some 23, op := .call 101 [.c (.int .i64 1), .c (.int .i64 60), .t 22] }, { d := some 24, op := .un .not (.t 23) }]) (.cond (.t 24)
 (.seq (.reg 3 false [ { d := some 2, op := .mov (.c (.nilp)) }, { d := some 3, op := .mov (.c (.int .i64 20)) }]) (.ret)) (.skip))) (.seq (.label 0) (.seq
 (.seq (.reg 4 false [ { d := some 25, op := .faddr 0 (.t 1) }, { d := some 26, op := .load false 1 (.t 25) }, { d := some 27, op := .len (.t 26) }, { d := some 28, op := .mov (.c (.int .i64 0)) }]) (.block 0 (.loop
 (.seq (.reg 5 false [ { d := some 29, op := .bin .lss (.t 28) (.t 27) }]) (.seq (.cond (.t 29) (.skip) (.exit 0)) (.seq (.block 1
 (.seq (.reg 6 false [ { d := some 30, op := .mov (.t 28) }, { d := some 31, op := .iaddr 5 (.t 26) (.t 28) }, { d := some 32, op := .load true 5 (.t 31) }, { d := some 6, op := .alloc [.int .i64 0, .int .i64 0, .int .u8 0, .nils, .nils] }, { d := some 5, op := .mov (.t 30) }, { d := none, op := .store 5 (.t 6) (.t 32) }]) (.seq
 (.seq (.reg 7 false [ { d := some 33, op := .load true 4 (.g 0) }, { d := some 34, op := .mov (.c (.int .i64 0)) }]) (.block 2 (.loop
 (.seq (.reg 8 false [ { d := some 35, op := .bin .lss (.t 34) (.c (.int .i64 4)) }]) (.seq (.cond (.t 35) (.skip) (.exit 2)) (.seq (.block 3
 (.seq (.reg 9 false [ { d := some 36, op := .vop (.aidx true 4 1) [(.t 33), (.t 34)] }, { d := some 8, op := .alloc [.nilf] }, { d := none, op := .store 1 (.t 8) (.t 36) }])
 (.seq (.reg 10 false [ { d := some 37, op := .faddr 0 (.t 8) }, { d := some 38, op := .load false 1 (.t 37) }, { d := some 39, op := .load true 5 (.t 6) }, { d := some 40, op := .callv (.t 38) [.t 39] }, { d := some 41, op := .un .not (.t 40) }]) (.cond (.t 41)
 (.seq (.reg 11 false [ { d := some 2, op := .mov (.c (.nilp)) }, { d := some 3, op := .mov (.c (.int .i64 20)) }]) (.ret)) (.skip))))) (.reg 12 false [ { d := some 42, op := .bin .add (.t 34) (.c (.int .i64 1)) }, { d := some 34, op := .mov (.t 42) }]))))))) (.seq
 (.seq (.reg 13 false [ { d := some 43, op := .mov (.t 5) }, { d := some 44, op := .bin .gtr (.t 43) (.c (.int .i64 0)) }]) (.cond (.t 44)
 (.seq (.reg 14 false [ { d := some 45, op := .faddr 0 (.t 1) }, { d := some 46, op := .load false 1 (.t 45) }, { d := some 47, op := .mov (.t 5) }, { d := some 48, op := .bin .sub (.t 47) (.c (.int .i64 1)) }, { d := some 49, op := .iaddr 5 (.t 46) (.t 48) }, { d := some 50, op := .load true 5 (.t 49) }, { d := some 9, op := .alloc [.int .i64 0, .int .i64 0, .int .u8 0, .nils, .nils] }, { d := none, op := .store 5 (.t 9) (.t 50) }])
 (.seq (.reg 15 false [ { d := some 51, op := .faddr 0 (.t 9) }, { d := some 52, op := .load false 1 (.t 51) }, { d := some 53, op := .faddr 0 (.t 6) }, { d := some 54, op := .load false 1 (.t 53) }, { d := some 55, op := .bin .eql (.t 52) (.t 54) }]) (.cond (.t 55) (.seq
 (.seq (.reg 16 false [ { d := some 56, op := .faddr 1 (.t 9) }, { d := some 57, op := .load false 1 (.t 56) }, { d := some 58, op := .bin .add (.t 57) (.c (.int .i64 1)) }, { d := some 59, op := .faddr 1 (.t 6) }, { d := some 60, op := .load false 1 (.t 59) }, { d := some 61, op := .bin .neq (.t 58) (.t 60) }, { d := some 62, op := .mov (.t 61) }, { d := some 63, op := .faddr 2 (.t 9), guard := some (62, false) }, { d := some 64, op := .load false 1 (.t 63), guard := some (62, false) }, { d := some 65, op := .faddr 2 (.t 6), guard := some (62, false) }, { d := some 66, op := .load false 1 (.t 65), guard := some (62, false) }, { d := some 67, op := .bin .neq (.t 64) (.t 66), guard := some (62, false) }, { d := some 68, op := .pick (.t 62) (.c (.bool true)) (.t 67) }]) (.cond (.t 68)
 (.seq (.reg 17 false [ { d := some 2, op := .mov (.c (.nilp)) }, { d := some 3, op := .mov (.c (.int .i64 20)) }]) (.ret)) (.skip))) (.exit 1))
 (.seq (.reg 18 false [ { d := some 69, op := .faddr 0 (.t 9) }, { d := some 70, op := .load false 1 (.t 69) }, { d := some 71, op := .faddr 0 (.t 6) }, { d := some 72, op := .load false 1 (.t 71) }, { d := some 73, op := .bin .gtr (.t 70) (.t 72) }]) (.cond (.t 73)
 (.seq (.reg 19 false [ { d := some 2, op := .mov (.c (.nilp)) }, { d := some 3, op := .mov (.c (.int .i64 20)) }]) (.ret)) (.skip)))))) (.skip))) (.seq
 (.seq (.reg 20 false [ { d := some 74, op := .faddr 1 (.t 6) }, { d := some 75, op := .load false 1 (.t 74) }, { d := some 76, op := .bin .neq (.t 75) (.c (.int .i64 1)) }]) (.cond (.t 76)
 (.seq (.reg 21 false [ { d := some 2, op := .mov (.c (.nilp)) }, { d := some 3, op := .mov (.c (.int .i64 20)) }]) (.ret)) (.skip))) (.reg 22 true [ { d := some 77, op := .load false 1 (.t 4), aft := [] }, { d := some 78, op := .load false 1 (.t 4), aft := [] }, { d := some 79, op := .nilck (.t 78), aft := [1] }, { d := some 80, op := .faddr 1 (.t 79), aft := [2] }, { d := some 81, op := .load false 1 (.t 80), aft := [3] }, { d := some 82, op := .faddr 0 (.t 6), aft := [] }, { d := some 83, op := .load false 1 (.t 82), aft := [5] }, { d := some 84, op := .bsl false 1 1 [.int .i64 0] [(0, .t 83)], aft := [6] }, { d := some 85, op := .app 1 8 (.t 81) (.t 84), aft := [4, 7] }, { d := some 86, op := .nilck (.t 77), aft := [0, 0, 1, 2, 3, 4, 5, 6, 7, 8] }, { d := some 87, op := .faddr 1 (.t 86), aft := [9, 0, 1, 2, 3, 4, 5, 6, 7, 8] }, { d := none, op := .store 1 (.t 87) (.t 85), aft := [10, 8, 8, 0, 1, 2, 3, 4, 5, 6, 7, 8] }])))))) (.reg 23 false [ { d := some 88, op := .bin .add (.t 28) (.c (.int .i64 1)) }, { d := some 28, op := .mov (.t 88) }]))))))) (.seq
 (.seq (.reg 24 false [ { d := some 89, op := .load false 1 (.t 4) }, { d := some 90, op := .nilck (.t 89) }, { d := some 91, op := .faddr 1 (.t 90) }, { d := some 92, op := .load false 1 (.t 91) }, { d := some 93, op := .len (.t 92) }, { d := some 94, op := .bin .gtr (.t 93) (.c (.int .i64 20)) }]) (.cond (.t 94)
 (.seq (.reg 25 false [ { d := some 2, op := .mov (.c (.nilp)) }, { d := some 3, op := .mov (.c (.int .i64 20)) }]) (.ret)) (.skip))) (.seq
 (.seq (.reg 26 false [ { d := some 95, op := .faddr 0 (.t 1) }, { d := some 96, op := .load false 1 (.t 95) }, { d := some 97, op := .len (.t 96) }, { d := some 98, op := .mov (.c (.int .i64 0)) }]) (.block 4 (.loop
 (.seq (.reg 27 false [ { d := some 99, op := .bin .lss (.t 98) (.t 97) }]) (.seq (.cond (.t 99) (.skip) (.exit 4)) (.seq (.block 5
 (.seq (.reg 28 false [ { d := some 100, op := .iaddr 5 (.t 96) (.t 98) }, { d := some 101, op := .load true 5 (.t 100) }, { d := some 11, op := .alloc [.int .i64 0, .int .i64 0, .int .u8 0, .nils, .nils] }, { d := none, op := .store 5 (.t 11) (.t 101) }])
 (.seq (.reg 29 false [ { d := some 102, op := .faddr 3 (.t 11) }, { d := some 103, op := .load false 1 (.t 102) }, { d := some 104, op := .mkf (.func 103) [] [.t 4] }, { d := some 105, op := .call 102 [.t 103, .t 104] }]) (.cond (.t 105)
 (.seq (.reg 30 false [ { d := some 2, op := .mov (.c (.nilp)) }, { d := some 3, op := .mov (.c (.int .i64 20)) }]) (.ret)) (.skip))))) (.reg 31 false [ { d := some 106, op := .bin .add (.t 98) (.c (.int .i64 1)) }, { d := some 98, op := .mov (.t 106) }])))))))
 (.seq (.reg 32 false [ { d := some 108, op := .load false 1 (.t 4) }, { d := some 109, op := .call 75 [.t 108] }, { d := some 107, op := .mov (.t 109) }, { d := some 110, op := .ext 0 (.t 107) }, { d := some 111, op := .ext 1 (.t 107) }, { d := some 12, op := .mov (.t 110) }, { d := some 13, op := .mov (.t 111) }]) (.seq
 (.seq (.reg 33 false [ { d := some 112, op := .mov (.t 13) }]) (.cond (.t 112)
 (.seq (.reg 34 false [ { d := some 2, op := .mov (.c (.nilp)) }, { d := some 3, op := .mov (.c (.int .i64 21)) }]) (.ret)) (.skip))) (.seq (.raw (opnR Tryd.prog))
 (.seq (.reg 40 false [ { d := some 121, op := .load false 1 (.t 4) }, { d := some 2, op := .mov (.t 121) }, { d := some 3, op := .mov (.c (.int .i64 0)) }]) (.ret))))))))))))
def rr_sheet_open : List RRes := [.t 2, .t 3]
theorem pc_sheet_open {G : Nat → Option (List AV)} {args : List AV} {v : AV} (hn : args.length ≤ Tryd.f67.ntmps) (h : ∀ R : Run, R.G = G → R.Top → AR Tryd.prog R rc_sheet_open (initSt args) (Fin rr_sheet_open v)) : PC Tryd.prog G 67 args v :=
  PC_of Tryd.func67 rfl (by kernel_rfl) (rc := rc_sheet_open) (by kernel_rfl) (rs := rr_sheet_open) (by kernel_rfl) hn (fun R _ hG hr => h R hG hr)

end Go.Proofs.YtdpmioiamcgfkaaDoor

/-! The abstract machine's code of functions of the program, as a program of ours printed it; that it is theirs is proved beside each. -/
namespace Go.Proofs.YtdpmioiamcgfkaaDoor
open Go.RowKit

def rc_size_in : RCode :=
  .seq (.reg 0 false [ { d := some 3, op := .box (.t 0) }, { d := some 4, op := .box (.t 1) }, { d := some 6, op := .mov (.c (.bool false)) }])
 (.seq (.reg 1 false [ { d := some 7, op := .mov (.t 2) }, { d := some 8, op := .mkf (.func 118) [] [.t 3, .t 4] }, { d := some 9, op := .call 117 [.t 7, .t 8] }, { d := some 10, op := .un .not (.t 9) }, { d := some 6, op := .mov (.t 10) }]) (.ret))
def rr_size_in : List RRes := [.t 6]
theorem pc_size_in {G : Nat → Option (List AV)} {args : List AV} {v : AV} (hn : args.length ≤ Tryd.f98.ntmps) (h : ∀ R : Run, R.G = G → R.Top → AR Tryd.prog R rc_size_in (initSt args) (Fin rr_size_in v)) : PC Tryd.prog G 98 args v :=
  PC_of Tryd.func98 rfl (by kernel_rfl) (rc := rc_size_in) (by kernel_rfl) (rs := rr_size_in) (by kernel_rfl) hn (fun R _ hG hr => h R hG hr)

def rc_size_in_1 : RCode :=
  .seq (.reg 0 false [ { d := some 4, op := .mov (.c (.bool false)) }])
 (.seq (.reg 1 false [ { d := some 5, op := .mov (.t 0) }, { d := some 6, op := .load false 1 (.t 1) }, { d := some 7, op := .bin .lss (.t 5) (.t 6) }, { d := some 8, op := .mov (.t 7) }, { d := some 9, op := .mov (.t 0), guard := some (8, false) }, { d := some 10, op := .load false 1 (.t 2), guard := some (8, false) }, { d := some 11, op := .bin .gtr (.t 9) (.t 10), guard := some (8, false) }, { d := some 12, op := .pick (.t 8) (.c (.bool true)) (.t 11) }, { d := some 4, op := .mov (.t 12) }]) (.ret))
def rr_size_in_1 : List RRes := [.t 4]
theorem pc_size_in_1 {G : Nat → Option (List AV)} {args : List AV} {v : AV} (hn : args.length ≤ Tryd.f118.ntmps) (h : ∀ R : Run, R.G = G → R.Top → AR Tryd.prog R rc_size_in_1 (initSt args) (Fin rr_size_in_1 v)) : PC Tryd.prog G 118 args v :=
  PC_of Tryd.func118 rfl (by kernel_rfl) (rc := rc_size_in_1) (by kernel_rfl) (rs := rr_size_in_1) (by kernel_rfl) hn (fun R _ hG hr => h R hG hr)

def rc_slices_ContainsFunc_int_int : RCode :=
  .seq (.reg 0 false [ { d := some 4, op := .mov (.c (.bool false)) }])
 (.seq (.reg 1 false [ { d := some 5, op := .mov (.t 0) }, { d := some 6, op := .mov (.t 1) }, { d := some 7, op := .call 132 [.t 5, .t 6] }, { d := some 8, op := .bin .geq (.t 7) (.c (.int .i64 0)) }, { d := some 4, op := .mov (.t 8) }]) (.ret))
def rr_slices_ContainsFunc_int_int : List RRes := [.t 4]
theorem pc_slices_ContainsFunc_int_int {G : Nat → Option (List AV)} {args : List AV} {v : AV} (hn : args.length ≤ Tryd.f117.ntmps) (h : ∀ R : Run, R.G = G → R.Top → AR Tryd.prog R rc_slices_ContainsFunc_int_int (initSt args) (Fin rr_slices_ContainsFunc_int_int v)) : PC Tryd.prog G 117 args v :=
  PC_of Tryd.func117 rfl (by kernel_rfl) (rc := rc_slices_ContainsFunc_int_int) (by kernel_rfl) (rs := rr_slices_ContainsFunc_int_int) (by kernel_rfl) hn (fun R _ hG hr => h R hG hr)

def rc_slices_IndexFunc_int_int : RCode :=
  .seq (.reg 0 false [ { d := some 4, op := .mov (.c (.int .i64 0)) }]) (.seq
 (.seq (.reg 1 false [ { d := some 6, op := .mov (.t 0) }, { d := some 7, op := .len (.t 6) }, { d := some 8, op := .mov (.c (.int .i64 0)) }]) (.block 0 (.loop
 (.seq (.reg 2 false [ { d := some 9, op := .bin .lss (.t 8) (.t 7) }]) (.seq (.cond (.t 9) (.skip) (.exit 0)) (.seq (.block 1
 (.seq (.reg 3 false [ { d := some 10, op := .mov (.t 8) }, { d := some 5, op := .mov (.t 10) }])
 (.seq (.reg 4 false [ { d := some 11, op := .mov (.t 1) }, { d := some 12, op := .mov (.t 0) }, { d := some 13, op := .mov (.t 5) }, { d := some 14, op := .iaddr 1 (.t 12) (.t 13) }, { d := some 15, op := .load false 1 (.t 14) }, { d := some 16, op := .callv (.t 11) [.t 15] }]) (.cond (.t 16)
 (.seq (.reg 5 false [ { d := some 17, op := .mov (.t 5) }, { d := some 4, op := .mov (.t 17) }]) (.ret)) (.skip))))) (.reg 6 false [ { d := some 18, op := .bin .add (.t 8) (.c (.int .i64 1)) }, { d := some 8, op := .mov (.t 18) }])))))))
 (.seq (.reg 7 false [ { d := some 4, op := .mov (.c (.int .i64 (-1))) }]) (.ret)))
def rr_slices_IndexFunc_int_int : List RRes := [.t 4]
theorem pc_slices_IndexFunc_int_int {G : Nat → Option (List AV)} {args : List AV} {v : AV} (hn : args.length ≤ Tryd.f132.ntmps) (h : ∀ R : Run, R.G = G → R.Top → AR Tryd.prog R rc_slices_IndexFunc_int_int (initSt args) (Fin rr_slices_IndexFunc_int_int v)) : PC Tryd.prog G 132 args v :=
  PC_of Tryd.func132 rfl (by kernel_rfl) (rc := rc_slices_IndexFunc_int_int) (by kernel_rfl) (rs := rr_slices_IndexFunc_int_int) (by kernel_rfl) hn (fun R _ hG hr => h R hG hr)

def rc_size_Check : RCode :=
  .seq (.reg 0 false [ { d := some 1, op := .box (.t 0) }, { d := some 2, op := .mov (.c (.int .i64 0)) }]) (.seq
 (.seq (.reg 1 false [ { d := some 3, op := .faddr 0 (.t 1) }, { d := some 4, op := .load false 1 (.t 3) }, { d := some 5, op := .faddr 1 (.t 1) }, { d := some 6, op := .load false 1 (.t 5) }, { d := some 7, op := .faddr 2 (.t 1) }, { d := some 8, op := .load false 1 (.t 7) }, { d := some 9, op := .bsl false 1 3 [.int .i64 0, .int .i64 0, .int .i64 0] [(0, .t 4), (1, .t 6), (2, .t 8)] }, { d := some 10, op := .call 98 [.c (.int .i64 0), .c (.int .i64 1000000000), .t 9] }, { d := some 11, op := .un .not (.t 10) }, { d := some 12, op := .mov (.t 11) }, { d := some 13, op := .faddr 1 (.t 1), guard := some (12, false) }, { d := some 14, op := .load false 1 (.t 13), guard := some (12, false) }, { d := some 15, op := .faddr 2 (.t 1), guard := some (12, false) }, { d := some 16, op := .load false 1 (.t 15), guard := some (12, false) }, { d := some 17, op := .bin .gtr (.t 14) (.t 16), guard := some (12, false) }, { d := some 18, op := .pick (.t 12) (.c (.bool true)) (.t 17) }]) (.cond (.t 18)
 (.seq (.reg 2 false [ { d := some 2, op := .mov (.c (.int .i64 10)) }]) (.ret)) (.skip)))
 (.seq (.reg 3 false [ { d := some 2, op := .mov (.c (.int .i64 0)) }]) (.ret)))
def rr_size_Check : List RRes := [.t 2]
theorem pc_size_Check {G : Nat → Option (List AV)} {args : List AV} {v : AV} (hn : args.length ≤ Tryd.f62.ntmps) (h : ∀ R : Run, R.G = G → R.Top → AR Tryd.prog R rc_size_Check (initSt args) (Fin rr_size_Check v)) : PC Tryd.prog G 62 args v :=
  PC_of Tryd.func62 rfl (by kernel_rfl) (rc := rc_size_Check) (by kernel_rfl) (rs := rr_size_Check) (by kernel_rfl) hn (fun R _ hG hr => h R hG hr)

def rc_sheet_in : RCode :=
  .seq (.reg 0 false [ { d := some 3, op := .box (.t 0) }, { d := some 4, op := .box (.t 1) }, { d := some 6, op := .mov (.c (.bool false)) }])
 (.seq (.reg 1 false [ { d := some 7, op := .mov (.t 2) }, { d := some 8, op := .mkf (.func 119) [] [.t 3, .t 4] }, { d := some 9, op := .call 117 [.t 7, .t 8] }, { d := some 10, op := .un .not (.t 9) }, { d := some 6, op := .mov (.t 10) }]) (.ret))
def rr_sheet_in : List RRes := [.t 6]
theorem pc_sheet_in {G : Nat → Option (List AV)} {args : List AV} {v : AV} (hn : args.length ≤ Tryd.f101.ntmps) (h : ∀ R : Run, R.G = G → R.Top → AR Tryd.prog R rc_sheet_in (initSt args) (Fin rr_sheet_in v)) : PC Tryd.prog G 101 args v :=
  PC_of Tryd.func101 rfl (by kernel_rfl) (rc := rc_sheet_in) (by kernel_rfl) (rs := rr_sheet_in) (by kernel_rfl) hn (fun R _ hG hr => h R hG hr)

def rc_sheet_in_1 : RCode :=
  .seq (.reg 0 false [ { d := some 4, op := .mov (.c (.bool false)) }])
 (.seq (.reg 1 false [ { d := some 5, op := .mov (.t 0) }, { d := some 6, op := .load false 1 (.t 1) }, { d := some 7, op := .bin .lss (.t 5) (.t 6) }, { d := some 8, op := .mov (.t 7) }, { d := some 9, op := .mov (.t 0), guard := some (8, false) }, { d := some 10, op := .load false 1 (.t 2), guard := some (8, false) }, { d := some 11, op := .bin .gtr (.t 9) (.t 10), guard := some (8, false) }, { d := some 12, op := .pick (.t 8) (.c (.bool true)) (.t 11) }, { d := some 4, op := .mov (.t 12) }]) (.ret))
def rr_sheet_in_1 : List RRes := [.t 4]
theorem pc_sheet_in_1 {G : Nat → Option (List AV)} {args : List AV} {v : AV} (hn : args.length ≤ Tryd.f119.ntmps) (h : ∀ R : Run, R.G = G → R.Top → AR Tryd.prog R rc_sheet_in_1 (initSt args) (Fin rr_sheet_in_1 v)) : PC Tryd.prog G 119 args v :=
  PC_of Tryd.func119 rfl (by kernel_rfl) (rc := rc_sheet_in_1) (by kernel_rfl) (rs := rr_sheet_in_1) (by kernel_rfl) hn (fun R _ hG hr => h R hG hr)

def rc_sheet_name : RCode :=
  .seq (.reg 0 false [ { d := some 1, op := .box (.t 0) }, { d := some 2, op := .alloc [.int .i64 0, .int .i64 0] }])
 (.seq (.reg 1 false [ { d := some 3, op := .faddr 0 (.t 1) }, { d := some 4, op := .load false 1 (.t 3) }, { d := some 5, op := .faddr 1 (.t 1) }, { d := some 6, op := .load false 1 (.t 5) }, { d := some 7, op := .build [.int .i64 0, .int .i64 0] [(0, 1, .t 4), (1, 1, .t 6)] }, { d := none, op := .store 2 (.t 2) (.t 7) }]) (.ret))
def rr_sheet_name : List RRes := [.c 2 true 2]
theorem pc_sheet_name {G : Nat → Option (List AV)} {args : List AV} {v : AV} (hn : args.length ≤ Tryd.f84.ntmps) (h : ∀ R : Run, R.G = G → R.Top → AR Tryd.prog R rc_sheet_name (initSt args) (Fin rr_sheet_name v)) : PC Tryd.prog G 84 args v :=
  PC_of Tryd.func84 rfl (by kernel_rfl) (rc := rc_sheet_name) (by kernel_rfl) (rs := rr_sheet_name) (by kernel_rfl) hn (fun R _ hG hr => h R hG hr)

def rc_sheet_checks_1 : RCode :=
  .seq (.reg 0 false [ { d := some 1, op := .box (.t 0) }, { d := some 2, op := .mov (.c (.bool false)) }])
 (.seq (.reg 1 false [ { d := some 3, op := .faddr 0 (.t 1) }, { d := some 4, op := .load false 1 (.t 3) }, { d := some 5, op := .bsl false 1 1 [.int .i64 0] [(0, .t 4)] }, { d := some 6, op := .call 101 [.c (.int .i64 1), .c (.int .i64 9999), .t 5] }, { d := some 7, op := .mov (.t 6) }, { d := some 8, op := .faddr 1 (.t 1), guard := some (7, true) }, { d := some 9, op := .load false 1 (.t 8), guard := some (7, true) }, { d := some 10, op := .bsl false 1 1 [.int .i64 0] [(0, .t 9)], guard := some (7, true) }, { d := some 11, op := .call 101 [.c (.int .i64 1), .c (.int .i64 8), .t 10], guard := some (7, true) }, { d := some 12, op := .pick (.t 7) (.t 11) (.c (.bool false)) }, { d := some 2, op := .mov (.t 12) }]) (.ret))
def rr_sheet_checks_1 : List RRes := [.t 2]
theorem pc_sheet_checks_1 {G : Nat → Option (List AV)} {args : List AV} {v : AV} (hn : args.length ≤ Tryd.f157.ntmps) (h : ∀ R : Run, R.G = G → R.Top → AR Tryd.prog R rc_sheet_checks_1 (initSt args) (Fin rr_sheet_checks_1 v)) : PC Tryd.prog G 157 args v :=
  PC_of Tryd.func157 rfl (by kernel_rfl) (rc := rc_sheet_checks_1) (by kernel_rfl) (rs := rr_sheet_checks_1) (by kernel_rfl) hn (fun R _ hG hr => h R hG hr)

def rc_sheet_checks_2 : RCode :=
  .seq (.reg 0 false [ { d := some 1, op := .box (.t 0) }, { d := some 2, op := .mov (.c (.bool false)) }]) (.seq
 (.seq (.reg 1 false [ { d := some 3, op := .faddr 2 (.t 1) }, { d := some 4, op := .load false 1 (.t 3) }, { d := some 5, op := .bin .eql (.t 4) (.c (.int .u8 1)) }]) (.cond (.t 5)
 (.seq (.reg 2 false [ { d := some 6, op := .faddr 3 (.t 1) }, { d := some 7, op := .load false 1 (.t 6) }, { d := some 8, op := .len (.t 7) }, { d := some 9, op := .bsl false 1 1 [.int .i64 0] [(0, .t 8)] }, { d := some 10, op := .call 101 [.c (.int .i64 1), .c (.int .i64 8), .t 9] }, { d := some 11, op := .mov (.t 10) }, { d := some 12, op := .faddr 4 (.t 1), guard := some (11, true) }, { d := some 13, op := .load false 1 (.t 12), guard := some (11, true) }, { d := some 14, op := .len (.t 13), guard := some (11, true) }, { d := some 15, op := .bin .eql (.t 14) (.c (.int .i64 0)), guard := some (11, true) }, { d := some 16, op := .pick (.t 11) (.t 15) (.c (.bool false)) }, { d := some 2, op := .mov (.t 16) }]) (.ret)) (.skip)))
 (.seq (.reg 3 false [ { d := some 17, op := .faddr 2 (.t 1) }, { d := some 18, op := .load false 1 (.t 17) }, { d := some 19, op := .conv .i64 (.t 18) }, { d := some 20, op := .bsl false 1 1 [.int .i64 0] [(0, .t 19)] }, { d := some 21, op := .call 101 [.c (.int .i64 2), .c (.int .i64 3), .t 20] }, { d := some 22, op := .mov (.t 21) }, { d := some 23, op := .faddr 4 (.t 1), guard := some (22, true) }, { d := some 24, op := .load false 1 (.t 23), guard := some (22, true) }, { d := some 25, op := .len (.t 24), guard := some (22, true) }, { d := some 26, op := .bin .leq (.t 25) (.c (.int .i64 4)), guard := some (22, true) }, { d := some 27, op := .pick (.t 22) (.t 26) (.c (.bool false)) }, { d := some 28, op := .mov (.t 27) }, { d := some 29, op := .faddr 3 (.t 1), guard := some (28, true) }, { d := some 30, op := .load false 1 (.t 29), guard := some (28, true) }, { d := some 31, op := .len (.t 30), guard := some (28, true) }, { d := some 32, op := .bin .eql (.t 31) (.c (.int .i64 0)), guard := some (28, true) }, { d := some 33, op := .pick (.t 28) (.t 32) (.c (.bool false)) }, { d := some 2, op := .mov (.t 33) }]) (.ret)))
def rr_sheet_checks_2 : List RRes := [.t 2]
theorem pc_sheet_checks_2 {G : Nat → Option (List AV)} {args : List AV} {v : AV} (hn : args.length ≤ Tryd.f158.ntmps) (h : ∀ R : Run, R.G = G → R.Top → AR Tryd.prog R rc_sheet_checks_2 (initSt args) (Fin rr_sheet_checks_2 v)) : PC Tryd.prog G 158 args v :=
  PC_of Tryd.func158 rfl (by kernel_rfl) (rc := rc_sheet_checks_2) (by kernel_rfl) (rs := rr_sheet_checks_2) (by kernel_rfl) hn (fun R _ hG hr => h R hG hr)

def rc_sheet_checks_3 : RCode :=
  .seq (.reg 0 false [ { d := some 1, op := .box (.t 0) }, { d := some 2, op := .mov (.c (.bool false)) }]) (.seq
 (.seq (.reg 1 false [ { d := some 5, op := .faddr 3 (.t 1) }, { d := some 6, op := .load false 1 (.t 5) }, { d := some 7, op := .len (.t 6) }, { d := some 8, op := .mov (.c (.int .i64 0)) }]) (.block 0 (.loop
 (.seq (.reg 2 false [ { d := some 9, op := .bin .lss (.t 8) (.t 7) }]) (.seq (.cond (.t 9) (.skip) (.exit 0)) (.seq (.block 1
 (.seq (.reg 3 false [ { d := some 10, op := .mov (.t 8) }, { d := some 11, op := .iaddr 2 (.t 6) (.t 8) }, { d := some 12, op := .load true 2 (.t 11) }, { d := some 4, op := .alloc [.int .i64 0, .int .i64 0] }, { d := some 3, op := .mov (.t 10) }, { d := none, op := .store 2 (.t 4) (.t 12) }])
 (.seq (.reg 4 true [ { d := some 13, op := .faddr 0 (.t 4), aft := [] }, { d := some 14, op := .load false 1 (.t 13), aft := [0] }, { d := some 15, op := .bsl false 1 1 [.int .i64 0] [(0, .t 14)], aft := [1] }, { d := some 16, op := .call 101 [.c (.int .i64 1), .c (.int .i64 9999), .t 15], aft := [2] }, { d := some 17, op := .un .not (.t 16), aft := [3] }, { d := some 18, op := .mov (.t 17), aft := [4, 3] }, { d := some 19, op := .faddr 1 (.t 4), guard := some (18, false), aft := [5] }, { d := some 20, op := .load false 1 (.t 19), guard := some (18, false), aft := [6, 5] }, { d := some 21, op := .bsl false 1 1 [.int .i64 0] [(0, .t 20)], guard := some (18, false), aft := [7, 5] }, { d := some 22, op := .call 101 [.c (.int .i64 1), .c (.int .i64 20), .t 21], guard := some (18, false), aft := [8, 5, 5] }, { d := some 23, op := .un .not (.t 22), guard := some (18, false), aft := [9, 5] }, { d := some 24, op := .pick (.t 18) (.c (.bool true)) (.t 23), aft := [5, 10] }, { d := some 25, op := .mov (.t 24), aft := [11, 9] }, { d := some 26, op := .faddr 0 (.t 4), guard := some (25, false), aft := [12] }, { d := some 27, op := .load false 1 (.t 26), guard := some (25, false), aft := [13, 12] }, { d := some 28, op := .faddr 0 (.t 1), guard := some (25, false), aft := [12] }, { d := some 29, op := .load false 1 (.t 28), guard := some (25, false), aft := [15, 12] }, { d := some 30, op := .bin .eql (.t 27) (.t 29), guard := some (25, false), aft := [14, 16, 12] }, { d := some 31, op := .pick (.t 25) (.c (.bool true)) (.t 30), aft := [12, 17] }, { d := some 32, op := .mov (.t 31), aft := [18, 12] }, { d := some 33, op := .mov (.t 3), guard := some (32, false), aft := [19] }, { d := some 34, op := .bin .gtr (.t 33) (.c (.int .i64 0)), guard := some (32, false), aft := [20, 19] }, { d := some 35, op := .mov (.t 34), guard := some (32, false), aft := [21, 19, 19] }, { d := some 36, op := .faddr 3 (.t 1), guard := some (35, true), aft := [22] }, { d := some 37, op := .load false 1 (.t 36), guard := some (35, true), aft := [23, 22] }, { d := some 38, op := .mov (.t 3), guard := some (35, true), aft := [22] }, { d := some 39, op := .bin .sub (.t 38) (.c (.int .i64 1)), guard := some (35, true), aft := [25, 22] }, { d := some 40, op := .iaddr 2 (.t 37) (.t 39), guard := some (35, true), aft := [24, 26, 22] }, { d := some 41, op := .faddr 0 (.t 40), guard := some (35, true), aft := [27, 22] }, { d := some 42, op := .load false 1 (.t 41), guard := some (35, true), aft := [28, 22] }, { d := some 43, op := .faddr 0 (.t 4), guard := some (35, true), aft := [22] }, { d := some 44, op := .load false 1 (.t 43), guard := some (35, true), aft := [30, 22] }, { d := some 45, op := .bin .geq (.t 42) (.t 44), guard := some (35, true), aft := [29, 31, 22] }, { d := some 46, op := .pick (.t 35) (.t 45) (.c (.bool false)), guard := some (32, false), aft := [22, 32, 19] }, { d := some 47, op := .pick (.t 32) (.c (.bool true)) (.t 46), aft := [19, 33] }]) (.cond (.t 47)
 (.seq (.reg 5 false [ { d := some 2, op := .mov (.c (.bool false)) }]) (.ret)) (.skip))))) (.reg 6 false [ { d := some 48, op := .bin .add (.t 8) (.c (.int .i64 1)) }, { d := some 8, op := .mov (.t 48) }])))))))
 (.seq (.reg 7 false [ { d := some 2, op := .mov (.c (.bool true)) }]) (.ret)))
def rr_sheet_checks_3 : List RRes := [.t 2]
theorem pc_sheet_checks_3 {G : Nat → Option (List AV)} {args : List AV} {v : AV} (hn : args.length ≤ Tryd.f159.ntmps) (h : ∀ R : Run, R.G = G → R.Top → AR Tryd.prog R rc_sheet_checks_3 (initSt args) (Fin rr_sheet_checks_3 v)) : PC Tryd.prog G 159 args v :=
  PC_of Tryd.func159 rfl (by kernel_rfl) (rc := rc_sheet_checks_3) (by kernel_rfl) (rs := rr_sheet_checks_3) (by kernel_rfl) hn (fun R _ hG hr => h R hG hr)

def rc_sheet_checks_4 : RCode :=
  .seq (.reg 0 false [ { d := some 1, op := .box (.t 0) }, { d := some 2, op := .mov (.c (.bool false)) }])
 (.seq (.reg 1 false [ { d := some 3, op := .faddr 4 (.t 1) }, { d := some 4, op := .load false 1 (.t 3) }, { d := some 5, op := .call 161 [.t 4, .c (.func (.func 162) [] [])] }, { d := some 6, op := .un .not (.t 5) }, { d := some 2, op := .mov (.t 6) }]) (.ret))
def rr_sheet_checks_4 : List RRes := [.t 2]
theorem pc_sheet_checks_4 {G : Nat → Option (List AV)} {args : List AV} {v : AV} (hn : args.length ≤ Tryd.f160.ntmps) (h : ∀ R : Run, R.G = G → R.Top → AR Tryd.prog R rc_sheet_checks_4 (initSt args) (Fin rr_sheet_checks_4 v)) : PC Tryd.prog G 160 args v :=
  PC_of Tryd.func160 rfl (by kernel_rfl) (rc := rc_sheet_checks_4) (by kernel_rfl) (rs := rr_sheet_checks_4) (by kernel_rfl) hn (fun R _ hG hr => h R hG hr)

def rc_sheet_checks_4_1 : RCode :=
  .seq (.reg 0 false [ { d := some 1, op := .box (.t 0) }, { d := some 2, op := .mov (.c (.bool false)) }])
 (.seq (.reg 1 false [ { d := some 3, op := .load true 3 (.t 1) }, { d := some 4, op := .call 62 [.t 3] }, { d := some 5, op := .bin .neq (.t 4) (.c (.int .i64 0)) }, { d := some 2, op := .mov (.t 5) }]) (.ret))
def rr_sheet_checks_4_1 : List RRes := [.t 2]
theorem pc_sheet_checks_4_1 {G : Nat → Option (List AV)} {args : List AV} {v : AV} (hn : args.length ≤ Tryd.f162.ntmps) (h : ∀ R : Run, R.G = G → R.Top → AR Tryd.prog R rc_sheet_checks_4_1 (initSt args) (Fin rr_sheet_checks_4_1 v)) : PC Tryd.prog G 162 args v :=
  PC_of Tryd.func162 rfl (by kernel_rfl) (rc := rc_sheet_checks_4_1) (by kernel_rfl) (rs := rr_sheet_checks_4_1) (by kernel_rfl) hn (fun R _ hG hr => h R hG hr)

def rc_slices_ContainsFunc_api_Dim_api_Dim : RCode :=
  .seq (.reg 0 false [ { d := some 4, op := .mov (.c (.bool false)) }])
 (.seq (.reg 1 false [ { d := some 5, op := .mov (.t 0) }, { d := some 6, op := .mov (.t 1) }, { d := some 7, op := .call 163 [.t 5, .t 6] }, { d := some 8, op := .bin .geq (.t 7) (.c (.int .i64 0)) }, { d := some 4, op := .mov (.t 8) }]) (.ret))
def rr_slices_ContainsFunc_api_Dim_api_Dim : List RRes := [.t 4]
theorem pc_slices_ContainsFunc_api_Dim_api_Dim {G : Nat → Option (List AV)} {args : List AV} {v : AV} (hn : args.length ≤ Tryd.f161.ntmps) (h : ∀ R : Run, R.G = G → R.Top → AR Tryd.prog R rc_slices_ContainsFunc_api_Dim_api_Dim (initSt args) (Fin rr_slices_ContainsFunc_api_Dim_api_Dim v)) : PC Tryd.prog G 161 args v :=
  PC_of Tryd.func161 rfl (by kernel_rfl) (rc := rc_slices_ContainsFunc_api_Dim_api_Dim) (by kernel_rfl) (rs := rr_slices_ContainsFunc_api_Dim_api_Dim) (by kernel_rfl) hn (fun R _ hG hr => h R hG hr)

def rc_slices_IndexFunc_api_Dim_api_Dim : RCode :=
  .seq (.reg 0 false [ { d := some 4, op := .mov (.c (.int .i64 0)) }]) (.seq
 (.seq (.reg 1 false [ { d := some 6, op := .mov (.t 0) }, { d := some 7, op := .len (.t 6) }, { d := some 8, op := .mov (.c (.int .i64 0)) }]) (.block 0 (.loop
 (.seq (.reg 2 false [ { d := some 9, op := .bin .lss (.t 8) (.t 7) }]) (.seq (.cond (.t 9) (.skip) (.exit 0)) (.seq (.block 1
 (.seq (.reg 3 false [ { d := some 10, op := .mov (.t 8) }, { d := some 5, op := .mov (.t 10) }])
 (.seq (.reg 4 false [ { d := some 11, op := .mov (.t 1) }, { d := some 12, op := .mov (.t 0) }, { d := some 13, op := .mov (.t 5) }, { d := some 14, op := .iaddr 3 (.t 12) (.t 13) }, { d := some 15, op := .load true 3 (.t 14) }, { d := some 16, op := .callv (.t 11) [.t 15] }]) (.cond (.t 16)
 (.seq (.reg 5 false [ { d := some 17, op := .mov (.t 5) }, { d := some 4, op := .mov (.t 17) }]) (.ret)) (.skip))))) (.reg 6 false [ { d := some 18, op := .bin .add (.t 8) (.c (.int .i64 1)) }, { d := some 8, op := .mov (.t 18) }])))))))
 (.seq (.reg 7 false [ { d := some 4, op := .mov (.c (.int .i64 (-1))) }]) (.ret)))
def rr_slices_IndexFunc_api_Dim_api_Dim : List RRes := [.t 4]
theorem pc_slices_IndexFunc_api_Dim_api_Dim {G : Nat → Option (List AV)} {args : List AV} {v : AV} (hn : args.length ≤ Tryd.f163.ntmps) (h : ∀ R : Run, R.G = G → R.Top → AR Tryd.prog R rc_slices_IndexFunc_api_Dim_api_Dim (initSt args) (Fin rr_slices_IndexFunc_api_Dim_api_Dim v)) : PC Tryd.prog G 163 args v :=
  PC_of Tryd.func163 rfl (by kernel_rfl) (rc := rc_slices_IndexFunc_api_Dim_api_Dim) (by kernel_rfl) (rs := rr_slices_IndexFunc_api_Dim_api_Dim) (by kernel_rfl) hn (fun R _ hG hr => h R hG hr)

def rc_slices_ContainsFunc_api_Item_api_Item : RCode :=
  .seq (.reg 0 false [ { d := some 4, op := .mov (.c (.bool false)) }])
 (.seq (.reg 1 false [ { d := some 5, op := .mov (.t 0) }, { d := some 6, op := .mov (.t 1) }, { d := some 7, op := .call 120 [.t 5, .t 6] }, { d := some 8, op := .bin .geq (.t 7) (.c (.int .i64 0)) }, { d := some 4, op := .mov (.t 8) }]) (.ret))
def rr_slices_ContainsFunc_api_Item_api_Item : List RRes := [.t 4]
theorem pc_slices_ContainsFunc_api_Item_api_Item {G : Nat → Option (List AV)} {args : List AV} {v : AV} (hn : args.length ≤ Tryd.f102.ntmps) (h : ∀ R : Run, R.G = G → R.Top → AR Tryd.prog R rc_slices_ContainsFunc_api_Item_api_Item (initSt args) (Fin rr_slices_ContainsFunc_api_Item_api_Item v)) : PC Tryd.prog G 102 args v :=
  PC_of Tryd.func102 rfl (by kernel_rfl) (rc := rc_slices_ContainsFunc_api_Item_api_Item) (by kernel_rfl) (rs := rr_slices_ContainsFunc_api_Item_api_Item) (by kernel_rfl) hn (fun R _ hG hr => h R hG hr)

def rc_slices_IndexFunc_api_Item_api_Item : RCode :=
  .seq (.reg 0 false [ { d := some 4, op := .mov (.c (.int .i64 0)) }]) (.seq
 (.seq (.reg 1 false [ { d := some 6, op := .mov (.t 0) }, { d := some 7, op := .len (.t 6) }, { d := some 8, op := .mov (.c (.int .i64 0)) }]) (.block 0 (.loop
 (.seq (.reg 2 false [ { d := some 9, op := .bin .lss (.t 8) (.t 7) }]) (.seq (.cond (.t 9) (.skip) (.exit 0)) (.seq (.block 1
 (.seq (.reg 3 false [ { d := some 10, op := .mov (.t 8) }, { d := some 5, op := .mov (.t 10) }])
 (.seq (.reg 4 false [ { d := some 11, op := .mov (.t 1) }, { d := some 12, op := .mov (.t 0) }, { d := some 13, op := .mov (.t 5) }, { d := some 14, op := .iaddr 2 (.t 12) (.t 13) }, { d := some 15, op := .load true 2 (.t 14) }, { d := some 16, op := .callv (.t 11) [.t 15] }]) (.cond (.t 16)
 (.seq (.reg 5 false [ { d := some 17, op := .mov (.t 5) }, { d := some 4, op := .mov (.t 17) }]) (.ret)) (.skip))))) (.reg 6 false [ { d := some 18, op := .bin .add (.t 8) (.c (.int .i64 1)) }, { d := some 8, op := .mov (.t 18) }])))))))
 (.seq (.reg 7 false [ { d := some 4, op := .mov (.c (.int .i64 (-1))) }]) (.ret)))
def rr_slices_IndexFunc_api_Item_api_Item : List RRes := [.t 4]
theorem pc_slices_IndexFunc_api_Item_api_Item {G : Nat → Option (List AV)} {args : List AV} {v : AV} (hn : args.length ≤ Tryd.f120.ntmps) (h : ∀ R : Run, R.G = G → R.Top → AR Tryd.prog R rc_slices_IndexFunc_api_Item_api_Item (initSt args) (Fin rr_slices_IndexFunc_api_Item_api_Item v)) : PC Tryd.prog G 120 args v :=
  PC_of Tryd.func120 rfl (by kernel_rfl) (rc := rc_slices_IndexFunc_api_Item_api_Item) (by kernel_rfl) (rs := rr_slices_IndexFunc_api_Item_api_Item) (by kernel_rfl) hn (fun R _ hG hr => h R hG hr)

def rc_sheet_open_1 : RCode :=
  .seq (.reg 0 false [ { d := some 2, op := .box (.t 0) }, { d := some 3, op := .mov (.c (.bool false)) }])
 (.seq (.reg 1 false [ { d := some 4, op := .load false 1 (.t 1) }, { d := some 5, op := .faddr 0 (.t 2) }, { d := some 6, op := .load false 1 (.t 5) }, { d := some 7, op := .call 104 [.t 4, .t 6] }, { d := some 8, op := .un .not (.t 7) }, { d := some 3, op := .mov (.t 8) }]) (.ret))
def rr_sheet_open_1 : List RRes := [.t 3]
theorem pc_sheet_open_1 {G : Nat → Option (List AV)} {args : List AV} {v : AV} (hn : args.length ≤ Tryd.f103.ntmps) (h : ∀ R : Run, R.G = G → R.Top → AR Tryd.prog R rc_sheet_open_1 (initSt args) (Fin rr_sheet_open_1 v)) : PC Tryd.prog G 103 args v :=
  PC_of Tryd.func103 rfl (by kernel_rfl) (rc := rc_sheet_open_1) (by kernel_rfl) (rs := rr_sheet_open_1) (by kernel_rfl) hn (fun R _ hG hr => h R hG hr)

def rc_sheet_book_has : RCode :=
  .seq (.reg 0 false [ { d := some 4, op := .mov (.c (.bool false)) }])
 (.seq (.reg 1 false [ { d := some 8, op := .mov (.t 0) }, { d := some 9, op := .nilck (.t 8) }, { d := some 10, op := .faddr 1 (.t 9) }, { d := some 11, op := .load false 1 (.t 10) }, { d := some 12, op := .mov (.t 1) }, { d := some 13, op := .call 121 [.t 11, .t 12] }, { d := some 7, op := .mov (.t 13) }, { d := some 14, op := .ext 0 (.t 7) }, { d := some 15, op := .ext 1 (.t 7) }, { d := some 5, op := .mov (.t 14) }, { d := some 6, op := .mov (.t 15) }])
 (.seq (.reg 2 false [ { d := some 16, op := .mov (.t 6) }, { d := some 4, op := .mov (.t 16) }]) (.ret)))
def rr_sheet_book_has : List RRes := [.t 4]
theorem pc_sheet_book_has {G : Nat → Option (List AV)} {args : List AV} {v : AV} (hn : args.length ≤ Tryd.f104.ntmps) (h : ∀ R : Run, R.G = G → R.Top → AR Tryd.prog R rc_sheet_book_has (initSt args) (Fin rr_sheet_book_has v)) : PC Tryd.prog G 104 args v :=
  PC_of Tryd.func104 rfl (by kernel_rfl) (rc := rc_sheet_book_has) (by kernel_rfl) (rs := rr_sheet_book_has) (by kernel_rfl) hn (fun R _ hG hr => h R hG hr)

def rc_slices_BinarySearch_int_int : RCode :=
  .seq (.reg 0 false [ { d := some 4, op := .mov (.c (.int .i64 0)) }, { d := some 5, op := .mov (.c (.bool false)) }])
 (.seq (.reg 1 false [ { d := some 10, op := .mov (.t 0) }, { d := some 11, op := .len (.t 10) }, { d := some 6, op := .mov (.t 11) }])
 (.seq (.reg 2 false [ { d := some 12, op := .mov (.t 6) }, { d := some 7, op := .mov (.c (.int .i64 0)) }, { d := some 8, op := .mov (.t 12) }]) (.seq (.block 0 (.loop (.seq
 (.seq (.reg 3 false [ { d := some 13, op := .mov (.t 7) }, { d := some 14, op := .mov (.t 8) }, { d := some 15, op := .bin .lss (.t 13) (.t 14) }]) (.cond (.t 15) (.skip) (.exit 0))) (.block 1
 (.seq (.reg 4 false [ { d := some 16, op := .mov (.t 7) }, { d := some 17, op := .mov (.t 8) }, { d := some 18, op := .bin .add (.t 16) (.t 17) }, { d := some 19, op := .conv .u64 (.t 18) }, { d := some 20, op := .vop (.sh false) [(.t 19), (.c (.int .u64 1))] }, { d := some 21, op := .conv .i64 (.t 20) }, { d := some 9, op := .mov (.t 21) }])
 (.seq (.reg 5 false [ { d := some 22, op := .mov (.t 0) }, { d := some 23, op := .mov (.t 9) }, { d := some 24, op := .iaddr 1 (.t 22) (.t 23) }, { d := some 25, op := .load false 1 (.t 24) }, { d := some 26, op := .mov (.t 1) }, { d := some 27, op := .call 133 [.t 25, .t 26] }]) (.cond (.t 27) (.reg 6 false [ { d := some 28, op := .mov (.t 9) }, { d := some 29, op := .bin .add (.t 28) (.c (.int .i64 1)) }, { d := some 7, op := .mov (.t 29) }]) (.reg 7 false [ { d := some 30, op := .mov (.t 9) }, { d := some 8, op := .mov (.t 30) }]))))))))
 (.seq (.reg 8 false [ { d := some 31, op := .mov (.t 7) }, { d := some 32, op := .mov (.t 7) }, { d := some 33, op := .mov (.t 6) }, { d := some 34, op := .bin .lss (.t 32) (.t 33) }, { d := some 35, op := .mov (.t 34) }, { d := some 36, op := .mov (.t 0), guard := some (35, true) }, { d := some 37, op := .mov (.t 7), guard := some (35, true) }, { d := some 38, op := .iaddr 1 (.t 36) (.t 37), guard := some (35, true) }, { d := some 39, op := .load false 1 (.t 38), guard := some (35, true) }, { d := some 40, op := .mov (.t 1), guard := some (35, true) }, { d := some 41, op := .bin .eql (.t 39) (.t 40), guard := some (35, true) }, { d := some 42, op := .mov (.t 41), guard := some (35, true) }, { d := some 43, op := .mov (.t 0), guard := some (42, false) }, { d := some 44, op := .mov (.t 7), guard := some (42, false) }, { d := some 45, op := .iaddr 1 (.t 43) (.t 44), guard := some (42, false) }, { d := some 46, op := .load false 1 (.t 45), guard := some (42, false) }, { d := some 47, op := .call 134 [.t 46], guard := some (42, false) }, { d := some 48, op := .mov (.t 47), guard := some (42, false) }, { d := some 49, op := .mov (.t 1), guard := some (48, true) }, { d := some 50, op := .call 134 [.t 49], guard := some (48, true) }, { d := some 51, op := .pick (.t 48) (.t 50) (.c (.bool false)), guard := some (42, false) }, { d := some 52, op := .pick (.t 42) (.c (.bool true)) (.t 51), guard := some (35, true) }, { d := some 53, op := .pick (.t 35) (.t 52) (.c (.bool false)) }, { d := some 4, op := .mov (.t 31) }, { d := some 5, op := .mov (.t 53) }]) (.ret)))))
def rr_slices_BinarySearch_int_int : List RRes := [.t 4, .t 5]
theorem pc_slices_BinarySearch_int_int {G : Nat → Option (List AV)} {args : List AV} {v : AV} (hn : args.length ≤ Tryd.f121.ntmps) (h : ∀ R : Run, R.G = G → R.Top → AR Tryd.prog R rc_slices_BinarySearch_int_int (initSt args) (Fin rr_slices_BinarySearch_int_int v)) : PC Tryd.prog G 121 args v :=
  PC_of Tryd.func121 rfl (by kernel_rfl) (rc := rc_slices_BinarySearch_int_int) (by kernel_rfl) (rs := rr_slices_BinarySearch_int_int) (by kernel_rfl) hn (fun R _ hG hr => h R hG hr)

def rc_cmp_Less_int : RCode :=
  .seq (.reg 0 false [ { d := some 4, op := .mov (.c (.bool false)) }])
 (.seq (.reg 1 false [ { d := some 5, op := .mov (.t 0) }, { d := some 6, op := .call 135 [.t 5] }, { d := some 7, op := .mov (.t 6) }, { d := some 8, op := .mov (.t 1), guard := some (7, true) }, { d := some 9, op := .call 135 [.t 8], guard := some (7, true) }, { d := some 10, op := .un .not (.t 9), guard := some (7, true) }, { d := some 11, op := .pick (.t 7) (.t 10) (.c (.bool false)) }, { d := some 12, op := .mov (.t 11) }, { d := some 13, op := .mov (.t 0), guard := some (12, false) }, { d := some 14, op := .mov (.t 1), guard := some (12, false) }, { d := some 15, op := .bin .lss (.t 13) (.t 14), guard := some (12, false) }, { d := some 16, op := .pick (.t 12) (.c (.bool true)) (.t 15) }, { d := some 4, op := .mov (.t 16) }]) (.ret))
def rr_cmp_Less_int : List RRes := [.t 4]
theorem pc_cmp_Less_int {G : Nat → Option (List AV)} {args : List AV} {v : AV} (hn : args.length ≤ Tryd.f133.ntmps) (h : ∀ R : Run, R.G = G → R.Top → AR Tryd.prog R rc_cmp_Less_int (initSt args) (Fin rr_cmp_Less_int v)) : PC Tryd.prog G 133 args v :=
  PC_of Tryd.func133 rfl (by kernel_rfl) (rc := rc_cmp_Less_int) (by kernel_rfl) (rs := rr_cmp_Less_int) (by kernel_rfl) hn (fun R _ hG hr => h R hG hr)

def rc_cmp_isNaN_int : RCode :=
  .seq (.reg 0 false [ { d := some 2, op := .mov (.c (.bool false)) }])
 (.seq (.reg 1 false [ { d := some 3, op := .mov (.t 0) }, { d := some 4, op := .mov (.t 0) }, { d := some 5, op := .bin .neq (.t 3) (.t 4) }, { d := some 2, op := .mov (.t 5) }]) (.ret))
def rr_cmp_isNaN_int : List RRes := [.t 2]
theorem pc_cmp_isNaN_int {G : Nat → Option (List AV)} {args : List AV} {v : AV} (hn : args.length ≤ Tryd.f135.ntmps) (h : ∀ R : Run, R.G = G → R.Top → AR Tryd.prog R rc_cmp_isNaN_int (initSt args) (Fin rr_cmp_isNaN_int v)) : PC Tryd.prog G 135 args v :=
  PC_of Tryd.func135 rfl (by kernel_rfl) (rc := rc_cmp_isNaN_int) (by kernel_rfl) (rs := rr_cmp_isNaN_int) (by kernel_rfl) hn (fun R _ hG hr => h R hG hr)

def rc_slices_isNaN_int : RCode :=
  .seq (.reg 0 false [ { d := some 2, op := .mov (.c (.bool false)) }])
 (.seq (.reg 1 false [ { d := some 3, op := .mov (.t 0) }, { d := some 4, op := .mov (.t 0) }, { d := some 5, op := .bin .neq (.t 3) (.t 4) }, { d := some 2, op := .mov (.t 5) }]) (.ret))
def rr_slices_isNaN_int : List RRes := [.t 2]
theorem pc_slices_isNaN_int {G : Nat → Option (List AV)} {args : List AV} {v : AV} (hn : args.length ≤ Tryd.f134.ntmps) (h : ∀ R : Run, R.G = G → R.Top → AR Tryd.prog R rc_slices_isNaN_int (initSt args) (Fin rr_slices_isNaN_int v)) : PC Tryd.prog G 134 args v :=
  PC_of Tryd.func134 rfl (by kernel_rfl) (rc := rc_slices_isNaN_int) (by kernel_rfl) (rs := rr_slices_isNaN_int) (by kernel_rfl) hn (fun R _ hG hr => h R hG hr)

def rc_cmp_Compare_int : RCode :=
  .seq (.reg 0 false [ { d := some 4, op := .mov (.c (.int .i64 0)) }])
 (.seq (.reg 1 false [ { d := some 7, op := .mov (.t 0) }, { d := some 8, op := .call 135 [.t 7] }, { d := some 5, op := .mov (.t 8) }])
 (.seq (.reg 2 false [ { d := some 9, op := .mov (.t 1) }, { d := some 10, op := .call 135 [.t 9] }, { d := some 6, op := .mov (.t 10) }]) (.seq
 (.seq (.reg 3 false [ { d := some 11, op := .mov (.t 5) }]) (.cond (.t 11) (.seq
 (.seq (.reg 4 false [ { d := some 12, op := .mov (.t 6) }]) (.cond (.t 12)
 (.seq (.reg 5 false [ { d := some 4, op := .mov (.c (.int .i64 0)) }]) (.ret)) (.skip)))
 (.seq (.reg 6 false [ { d := some 4, op := .mov (.c (.int .i64 (-1))) }]) (.ret))) (.skip))) (.seq
 (.seq (.reg 7 false [ { d := some 13, op := .mov (.t 6) }]) (.cond (.t 13)
 (.seq (.reg 8 false [ { d := some 4, op := .mov (.c (.int .i64 1)) }]) (.ret)) (.skip))) (.seq
 (.seq (.reg 9 false [ { d := some 14, op := .mov (.t 0) }, { d := some 15, op := .mov (.t 1) }, { d := some 16, op := .bin .lss (.t 14) (.t 15) }]) (.cond (.t 16)
 (.seq (.reg 10 false [ { d := some 4, op := .mov (.c (.int .i64 (-1))) }]) (.ret)) (.skip))) (.seq
 (.seq (.reg 11 false [ { d := some 17, op := .mov (.t 0) }, { d := some 18, op := .mov (.t 1) }, { d := some 19, op := .bin .gtr (.t 17) (.t 18) }]) (.cond (.t 19)
 (.seq (.reg 12 false [ { d := some 4, op := .mov (.c (.int .i64 1)) }]) (.ret)) (.skip)))
 (.seq (.reg 13 false [ { d := some 4, op := .mov (.c (.int .i64 0)) }]) (.ret))))))))
def rr_cmp_Compare_int : List RRes := [.t 4]
theorem pc_cmp_Compare_int {G : Nat → Option (List AV)} {args : List AV} {v : AV} (hn : args.length ≤ Tryd.f125.ntmps) (h : ∀ R : Run, R.G = G → R.Top → AR Tryd.prog R rc_cmp_Compare_int (initSt args) (Fin rr_cmp_Compare_int v)) : PC Tryd.prog G 125 args v :=
  PC_of Tryd.func125 rfl (by kernel_rfl) (rc := rc_cmp_Compare_int) (by kernel_rfl) (rs := rr_cmp_Compare_int) (by kernel_rfl) hn (fun R _ hG hr => h R hG hr)

def rc_slices_BinarySearchFunc_api_Issue_api_Issue_int : RCode :=
  .seq (.reg 0 false [ { d := some 6, op := .mov (.c (.int .i64 0)) }, { d := some 7, op := .mov (.c (.bool false)) }])
 (.seq (.reg 1 false [ { d := some 12, op := .mov (.t 0) }, { d := some 13, op := .len (.t 12) }, { d := some 8, op := .mov (.t 13) }])
 (.seq (.reg 2 false [ { d := some 14, op := .mov (.t 8) }, { d := some 9, op := .mov (.c (.int .i64 0)) }, { d := some 10, op := .mov (.t 14) }]) (.seq (.block 0 (.loop (.seq
 (.seq (.reg 3 false [ { d := some 15, op := .mov (.t 9) }, { d := some 16, op := .mov (.t 10) }, { d := some 17, op := .bin .lss (.t 15) (.t 16) }]) (.cond (.t 17) (.skip) (.exit 0))) (.block 1
 (.seq (.reg 4 false [ { d := some 18, op := .mov (.t 9) }, { d := some 19, op := .mov (.t 10) }, { d := some 20, op := .bin .add (.t 18) (.t 19) }, { d := some 21, op := .conv .u64 (.t 20) }, { d := some 22, op := .vop (.sh false) [(.t 21), (.c (.int .u64 1))] }, { d := some 23, op := .conv .i64 (.t 22) }, { d := some 11, op := .mov (.t 23) }])
 (.seq (.reg 5 false [ { d := some 24, op := .mov (.t 2) }, { d := some 25, op := .mov (.t 0) }, { d := some 26, op := .mov (.t 11) }, { d := some 27, op := .iaddr 5 (.t 25) (.t 26) }, { d := some 28, op := .load true 5 (.t 27) }, { d := some 29, op := .mov (.t 1) }, { d := some 30, op := .callv (.t 24) [.t 28, .t 29] }, { d := some 31, op := .bin .lss (.t 30) (.c (.int .i64 0)) }]) (.cond (.t 31) (.reg 6 false [ { d := some 32, op := .mov (.t 11) }, { d := some 33, op := .bin .add (.t 32) (.c (.int .i64 1)) }, { d := some 9, op := .mov (.t 33) }]) (.reg 7 false [ { d := some 34, op := .mov (.t 11) }, { d := some 10, op := .mov (.t 34) }]))))))))
 (.seq (.reg 8 false [ { d := some 35, op := .mov (.t 9) }, { d := some 36, op := .mov (.t 9) }, { d := some 37, op := .mov (.t 8) }, { d := some 38, op := .bin .lss (.t 36) (.t 37) }, { d := some 39, op := .mov (.t 38) }, { d := some 40, op := .mov (.t 2), guard := some (39, true) }, { d := some 41, op := .mov (.t 0), guard := some (39, true) }, { d := some 42, op := .mov (.t 9), guard := some (39, true) }, { d := some 43, op := .iaddr 5 (.t 41) (.t 42), guard := some (39, true) }, { d := some 44, op := .load true 5 (.t 43), guard := some (39, true) }, { d := some 45, op := .mov (.t 1), guard := some (39, true) }, { d := some 46, op := .callv (.t 40) [.t 44, .t 45], guard := some (39, true) }, { d := some 47, op := .bin .eql (.t 46) (.c (.int .i64 0)), guard := some (39, true) }, { d := some 48, op := .pick (.t 39) (.t 47) (.c (.bool false)) }, { d := some 6, op := .mov (.t 35) }, { d := some 7, op := .mov (.t 48) }]) (.ret)))))
def rr_slices_BinarySearchFunc_api_Issue_api_Issue_int : List RRes := [.t 6, .t 7]
theorem pc_slices_BinarySearchFunc_api_Issue_api_Issue_int {G : Nat → Option (List AV)} {args : List AV} {v : AV} (hn : args.length ≤ Tryd.f123.ntmps) (h : ∀ R : Run, R.G = G → R.Top → AR Tryd.prog R rc_slices_BinarySearchFunc_api_Issue_api_Issue_int (initSt args) (Fin rr_slices_BinarySearchFunc_api_Issue_api_Issue_int v)) : PC Tryd.prog G 123 args v :=
  PC_of Tryd.func123 rfl (by kernel_rfl) (rc := rc_slices_BinarySearchFunc_api_Issue_api_Issue_int) (by kernel_rfl) (rs := rr_slices_BinarySearchFunc_api_Issue_api_Issue_int) (by kernel_rfl) hn (fun R _ hG hr => h R hG hr)

def rc_sheet_book_issues : RCode :=
  .seq (.reg 0 false [ { d := some 2, op := .box (.t 0) }, { d := some 3, op := .box (.t 1) }, { d := some 4, op := .mov (.c (.nilf)) }])
 (.seq (.reg 1 false [ { d := some 5, op := .mkf (.func 122) [] [.t 2, .t 3] }, { d := some 4, op := .mov (.t 5) }]) (.ret))
def rr_sheet_book_issues : List RRes := [.t 4]
theorem pc_sheet_book_issues {G : Nat → Option (List AV)} {args : List AV} {v : AV} (hn : args.length ≤ Tryd.f105.ntmps) (h : ∀ R : Run, R.G = G → R.Top → AR Tryd.prog R rc_sheet_book_issues (initSt args) (Fin rr_sheet_book_issues v)) : PC Tryd.prog G 105 args v :=
  PC_of Tryd.func105 rfl (by kernel_rfl) (rc := rc_sheet_book_issues) (by kernel_rfl) (rs := rr_sheet_book_issues) (by kernel_rfl) hn (fun R _ hG hr => h R hG hr)

def rc_sheet_book_issues_1_1 : RCode :=
  .seq (.reg 0 false [ { d := some 2, op := .box (.t 0) }, { d := some 4, op := .mov (.c (.int .i64 0)) }])
 (.seq (.reg 1 false [ { d := some 5, op := .faddr 0 (.t 2) }, { d := some 6, op := .load false 1 (.t 5) }, { d := some 7, op := .mov (.t 1) }, { d := some 8, op := .call 125 [.t 6, .t 7] }, { d := some 4, op := .mov (.t 8) }]) (.ret))
def rr_sheet_book_issues_1_1 : List RRes := [.t 4]
theorem pc_sheet_book_issues_1_1 {G : Nat → Option (List AV)} {args : List AV} {v : AV} (hn : args.length ≤ Tryd.f124.ntmps) (h : ∀ R : Run, R.G = G → R.Top → AR Tryd.prog R rc_sheet_book_issues_1_1 (initSt args) (Fin rr_sheet_book_issues_1_1 v)) : PC Tryd.prog G 124 args v :=
  PC_of Tryd.func124 rfl (by kernel_rfl) (rc := rc_sheet_book_issues_1_1) (by kernel_rfl) (rs := rr_sheet_book_issues_1_1) (by kernel_rfl) hn (fun R _ hG hr => h R hG hr)

def rc_sheet_book_last : RCode :=
  .seq (.reg 0 false [ { d := some 4, op := .mov (.c (.int .i64 0)) }])
 (.seq (.reg 1 false [ { d := some 5, op := .alloc [.int .i64 0] }, { d := none, op := .store 1 (.t 5) (.c (.int .i64 0)) }]) (.seq
 (.seq (.reg 2 false [ { d := some 6, op := .mov (.t 0) }, { d := some 7, op := .mov (.t 1) }, { d := some 8, op := .call 105 [.t 6, .t 7] }]) (.block 0 (.rngf (.t 8) [9] (.skip) (.block 1 (.reg 3 false [ { d := some 10, op := .load false 1 (.t 5) }, { d := some 11, op := .bin .add (.t 10) (.c (.int .i64 1)) }, { d := none, op := .store 1 (.t 5) (.t 11) }])))))
 (.seq (.reg 4 false [ { d := some 12, op := .load false 1 (.t 5) }, { d := some 4, op := .mov (.t 12) }]) (.ret))))
def rr_sheet_book_last : List RRes := [.t 4]
theorem pc_sheet_book_last {G : Nat → Option (List AV)} {args : List AV} {v : AV} (hn : args.length ≤ Tryd.f69.ntmps) (h : ∀ R : Run, R.G = G → R.Top → AR Tryd.prog R rc_sheet_book_last (initSt args) (Fin rr_sheet_book_last v)) : PC Tryd.prog G 69 args v :=
  PC_of Tryd.func69 rfl (by kernel_rfl) (rc := rc_sheet_book_last) (by kernel_rfl) (rs := rr_sheet_book_last) (by kernel_rfl) hn (fun R _ hG hr => h R hG hr)

def rc_sheet_book_find : RCode :=
  .seq (.reg 0 false [ { d := some 3, op := .box (.t 1) }, { d := some 4, op := .alloc [.int .i64 0, .int .i64 0, .int .u8 0, .nils, .nils] }, { d := some 5, op := .alloc [.bool false] }]) (.seq
 (.seq (.reg 1 false [ { d := some 7, op := .mov (.t 0) }, { d := some 8, op := .faddr 0 (.t 3) }, { d := some 9, op := .load false 1 (.t 8) }, { d := some 10, op := .call 105 [.t 7, .t 9] }]) (.block 0 (.rngf (.t 10) [11] (.reg 2 false [ { d := some 6, op := .alloc [.int .i64 0, .int .i64 0, .int .u8 0, .nils, .nils] }, { d := none, op := .store 5 (.t 6) (.t 11) }]) (.block 1
 (.seq (.reg 3 true [ { d := some 12, op := .load true 5 (.t 6), aft := [] }, { d := some 13, op := .call 84 [.t 12], aft := [0] }, { d := some 14, op := .load true 2 (.t 3), aft := [] }, { d := some 15, op := .eqs false [.i, .i] (.t 13) (.t 14), aft := [1, 2] }]) (.cond (.t 15)
 (.seq (.reg 4 false [ { d := some 16, op := .load true 5 (.t 6) }, { d := none, op := .store 5 (.t 4) (.t 16) }, { d := none, op := .store 1 (.t 5) (.c (.bool true)) }]) (.ret)) (.skip)))))))
 (.seq (.reg 5 false [ { d := some 17, op := .build [.int .i64 0, .int .i64 0, .int .u8 0, .nils, .nils] [] }, { d := none, op := .store 5 (.t 4) (.t 17) }, { d := none, op := .store 1 (.t 5) (.c (.bool false)) }]) (.ret)))
def rr_sheet_book_find : List RRes := [.c 4 true 5, .c 5 false 1]
theorem pc_sheet_book_find {G : Nat → Option (List AV)} {args : List AV} {v : AV} (hn : args.length ≤ Tryd.f72.ntmps) (h : ∀ R : Run, R.G = G → R.Top → AR Tryd.prog R rc_sheet_book_find (initSt args) (Fin rr_sheet_book_find v)) : PC Tryd.prog G 72 args v :=
  PC_of Tryd.func72 rfl (by kernel_rfl) (rc := rc_sheet_book_find) (by kernel_rfl) (rs := rr_sheet_book_find) (by kernel_rfl) hn (fun R _ hG hr => h R hG hr)

def rc_sheet_book_depths : RCode :=
  .seq (.reg 0 false [ { d := some 2, op := .mov (.c (.nilm)) }, { d := some 3, op := .mov (.c (.bool false)) }])
 (.seq (.reg 1 false [ { d := some 15, op := .mkmap }, { d := some 4, op := .alloc [.nilm] }, { d := none, op := .store 1 (.t 4) (.t 15) }])
 (.seq (.reg 2 false [ { d := some 16, op := .mkmap }, { d := some 5, op := .alloc [.nilm] }, { d := none, op := .store 1 (.t 5) (.t 16) }]) (.seq
 (.seq (.reg 3 false [ { d := some 17, op := .mov (.t 0) }, { d := some 18, op := .nilck (.t 17) }, { d := some 19, op := .faddr 1 (.t 18) }, { d := some 20, op := .load false 1 (.t 19) }, { d := some 21, op := .len (.t 20) }, { d := some 22, op := .mov (.c (.int .i64 0)) }]) (.block 0 (.loop
 (.seq (.reg 4 false [ { d := some 23, op := .bin .lss (.t 22) (.t 21) }]) (.seq (.cond (.t 23) (.skip) (.exit 0)) (.seq (.block 1
 (.seq (.reg 5 false [ { d := some 24, op := .iaddr 1 (.t 20) (.t 22) }, { d := some 25, op := .load false 1 (.t 24) }, { d := some 7, op := .mov (.t 25) }]) (.reg 6 false [ { d := some 26, op := .load false 1 (.t 5) }, { d := some 27, op := .mov (.t 7) }, { d := none, op := .mupd (.i .i64) (.t 26) (.t 27) (.c (.bool true)) }]))) (.reg 7 false [ { d := some 28, op := .bin .add (.t 22) (.c (.int .i64 1)) }, { d := some 22, op := .mov (.t 28) }]))))))) (.seq
 (.seq (.reg 8 false [ { d := some 29, op := .mov (.t 0) }, { d := some 30, op := .nilck (.t 29) }, { d := some 31, op := .faddr 1 (.t 30) }, { d := some 32, op := .load false 1 (.t 31) }, { d := some 33, op := .len (.t 32) }, { d := some 34, op := .mov (.c (.int .i64 0)) }]) (.block 2 (.loop
 (.seq (.reg 9 false [ { d := some 35, op := .bin .lss (.t 34) (.t 33) }]) (.seq (.cond (.t 35) (.skip) (.exit 2)) (.seq (.block 3
 (.seq (.reg 10 false [ { d := some 36, op := .mov (.t 0) }, { d := some 37, op := .nilck (.t 36) }, { d := some 38, op := .faddr 1 (.t 37) }, { d := some 39, op := .load false 1 (.t 38) }, { d := some 40, op := .len (.t 39) }, { d := some 41, op := .mov (.c (.int .i64 0)) }]) (.block 4 (.loop
 (.seq (.reg 11 false [ { d := some 42, op := .bin .lss (.t 41) (.t 40) }]) (.seq (.cond (.t 42) (.skip) (.exit 4)) (.seq (.block 5
 (.seq (.reg 12 false [ { d := some 43, op := .iaddr 1 (.t 39) (.t 41) }, { d := some 44, op := .load false 1 (.t 43) }, { d := some 9, op := .mov (.t 44) }])
 (.seq (.reg 13 true [ { d := some 45, op := .load false 1 (.t 5), aft := [] }, { d := some 46, op := .mov (.t 9), aft := [] }, { d := some 47, op := .look (.i .i64) (.bool false) false (.t 45) (.t 46), aft := [0, 1] }, { d := some 10, op := .alloc [.int .i64 0], aft := [] }, { d := some 11, op := .alloc [.bool false], aft := [] }, { d := none, op := .store 1 (.t 10) (.c (.int .i64 0)), aft := [3, 3, 4] }, { d := none, op := .store 1 (.t 11) (.t 47), aft := [4, 2, 5, 0, 1, 2, 3, 4, 5] }]) (.seq
 (.seq (.reg 14 false [ { d := some 48, op := .mov (.t 0) }, { d := some 49, op := .mov (.t 9) }, { d := some 50, op := .call 105 [.t 48, .t 49] }]) (.block 6 (.rngf (.t 50) [51] (.reg 15 false [ { d := some 12, op := .alloc [.int .i64 0, .int .i64 0, .int .u8 0, .nils, .nils] }, { d := none, op := .store 5 (.t 12) (.t 51) }]) (.block 7
 (.seq (.reg 16 false [ { d := some 52, op := .faddr 3 (.t 12) }, { d := some 53, op := .load false 1 (.t 52) }, { d := some 54, op := .len (.t 53) }, { d := some 55, op := .mov (.c (.int .i64 0)) }]) (.block 8 (.loop
 (.seq (.reg 17 false [ { d := some 56, op := .bin .lss (.t 55) (.t 54) }]) (.seq (.cond (.t 56) (.skip) (.exit 8)) (.seq (.block 9
 (.seq (.reg 18 false [ { d := some 57, op := .iaddr 2 (.t 53) (.t 55) }, { d := some 58, op := .load true 2 (.t 57) }, { d := some 14, op := .alloc [.int .i64 0, .int .i64 0] }, { d := none, op := .store 2 (.t 14) (.t 58) }])
 (.seq (.reg 19 false [ { d := some 59, op := .load false 1 (.t 11) }, { d := some 60, op := .mov (.t 59) }, { d := some 61, op := .load false 1 (.t 5), guard := some (60, true) }, { d := some 62, op := .faddr 0 (.t 14), guard := some (60, true) }, { d := some 63, op := .load false 1 (.t 62), guard := some (60, true) }, { d := some 64, op := .look (.i .i64) (.bool false) false (.t 61) (.t 63), guard := some (60, true) }, { d := some 65, op := .un .not (.t 64), guard := some (60, true) }, { d := some 66, op := .pick (.t 60) (.t 65) (.c (.bool false)) }, { d := none, op := .store 1 (.t 11) (.t 66) }]) (.reg 20 false [ { d := some 67, op := .load false 1 (.t 10) }, { d := some 68, op := .load false 1 (.t 4) }, { d := some 69, op := .faddr 0 (.t 14) }, { d := some 70, op := .load false 1 (.t 69) }, { d := some 71, op := .look (.i .i64) (.int .i64 0) false (.t 68) (.t 70) }, { d := some 72, op := .mx true (.t 67) [.t 71] }, { d := none, op := .store 1 (.t 10) (.t 72) }])))) (.reg 21 false [ { d := some 73, op := .bin .add (.t 55) (.c (.int .i64 1)) }, { d := some 55, op := .mov (.t 73) }])))))))))))
 (.seq (.reg 22 false [ { d := some 74, op := .load false 1 (.t 11) }]) (.cond (.t 74)
 (.seq (.reg 23 false [ { d := some 75, op := .load false 1 (.t 4) }, { d := some 76, op := .mov (.t 9) }, { d := some 77, op := .load false 1 (.t 10) }, { d := some 78, op := .bin .add (.t 77) (.c (.int .i64 1)) }, { d := none, op := .mupd (.i .i64) (.t 75) (.t 76) (.t 78) }]) (.reg 24 false [ { d := some 79, op := .load false 1 (.t 5) }, { d := some 80, op := .mov (.t 9) }, { d := none, op := .mdel (.i .i64) (.t 79) (.t 80) }])) (.skip))))))) (.reg 25 false [ { d := some 81, op := .bin .add (.t 41) (.c (.int .i64 1)) }, { d := some 41, op := .mov (.t 81) }])))))))) (.reg 26 false [ { d := some 82, op := .bin .add (.t 34) (.c (.int .i64 1)) }, { d := some 34, op := .mov (.t 82) }])))))))
 (.seq (.reg 27 false [ { d := some 83, op := .load false 1 (.t 4) }, { d := some 84, op := .load false 1 (.t 5) }, { d := some 85, op := .mlen (.t 84) }, { d := some 86, op := .bin .gtr (.t 85) (.c (.int .i64 0)) }, { d := some 2, op := .mov (.t 83) }, { d := some 3, op := .mov (.t 86) }]) (.ret))))))
def rr_sheet_book_depths : List RRes := [.t 2, .t 3]
theorem pc_sheet_book_depths {G : Nat → Option (List AV)} {args : List AV} {v : AV} (hn : args.length ≤ Tryd.f75.ntmps) (h : ∀ R : Run, R.G = G → R.Top → AR Tryd.prog R rc_sheet_book_depths (initSt args) (Fin rr_sheet_book_depths v)) : PC Tryd.prog G 75 args v :=
  PC_of Tryd.func75 rfl (by kernel_rfl) (rc := rc_sheet_book_depths) (by kernel_rfl) (rs := rr_sheet_book_depths) (by kernel_rfl) hn (fun R _ hG hr => h R hG hr)

def rc_sheet_copied : RCode :=
  .seq (.reg 0 false [ { d := some 1, op := .box (.t 0) }, { d := some 2, op := .alloc [.int .i64 0, .int .i64 0, .int .u8 0, .nils, .nils] }])
 (.seq (.reg 1 true [ { d := some 3, op := .faddr 3 (.t 1), aft := [] }, { d := some 4, op := .load false 1 (.t 3), aft := [0] }, { d := some 5, op := .calln 108 [.t 4], aft := [1] }, { d := some 6, op := .faddr 4 (.t 1), aft := [] }, { d := some 7, op := .load false 1 (.t 6), aft := [3] }, { d := some 8, op := .calln 109 [.t 7], aft := [4, 2] }, { d := some 9, op := .faddr 3 (.t 1), aft := [0, 1, 2, 3, 4] }, { d := none, op := .store 1 (.t 9) (.t 5), aft := [6, 2, 5, 0, 1, 2, 3, 4] }, { d := some 10, op := .faddr 4 (.t 1), aft := [0, 1, 2, 3, 4, 5, 6, 7] }, { d := none, op := .store 1 (.t 10) (.t 8), aft := [8, 5, 7, 0, 1, 2, 3, 4, 5, 6, 7] }])
 (.seq (.reg 2 false [ { d := some 11, op := .load true 5 (.t 1) }, { d := none, op := .store 5 (.t 2) (.t 11) }]) (.ret)))
def rr_sheet_copied : List RRes := [.c 2 true 5]
theorem pc_sheet_copied {G : Nat → Option (List AV)} {args : List AV} {v : AV} (hn : args.length ≤ Tryd.f73.ntmps) (h : ∀ R : Run, R.G = G → R.Top → AR Tryd.prog R rc_sheet_copied (initSt args) (Fin rr_sheet_copied v)) : PC Tryd.prog G 73 args v :=
  PC_of Tryd.func73 rfl (by kernel_rfl) (rc := rc_sheet_copied) (by kernel_rfl) (rs := rr_sheet_copied) (by kernel_rfl) hn (fun R _ hG hr => h R hG hr)

def rc_slices_Clone_api_Item_api_Item : RCode :=
  .seq (.reg 0 false [ { d := some 2, op := .mov (.c (.nils)) }]) (.seq
 (.seq (.reg 1 false [ { d := some 3, op := .mov (.t 0) }, { d := some 4, op := .vop (.eqn false) [(.t 3), (.c (.nils))] }]) (.cond (.t 4)
 (.seq (.reg 2 false [ { d := some 2, op := .mov (.c (.nils)) }]) (.ret)) (.skip)))
 (.seq (.reg 3 false [ { d := some 5, op := .bsl true 2 0 [] [] }, { d := some 6, op := .mov (.t 0) }, { d := some 7, op := .app 2 16 (.t 5) (.t 6) }, { d := some 2, op := .mov (.t 7) }]) (.ret)))
def rr_slices_Clone_api_Item_api_Item : List RRes := [.t 2]
theorem pc_slices_Clone_api_Item_api_Item {G : Nat → Option (List AV)} {args : List AV} {v : AV} (hn : args.length ≤ Tryd.f108.ntmps) (h : ∀ R : Run, R.G = G → R.Top → AR Tryd.prog R rc_slices_Clone_api_Item_api_Item (initSt args) (Fin rr_slices_Clone_api_Item_api_Item v)) : PC Tryd.prog G 108 args v :=
  PC_of Tryd.func108 rfl (by kernel_rfl) (rc := rc_slices_Clone_api_Item_api_Item) (by kernel_rfl) (rs := rr_slices_Clone_api_Item_api_Item) (by kernel_rfl) hn (fun R _ hG hr => h R hG hr)

def rc_slices_Clone_api_Dim_api_Dim : RCode :=
  .seq (.reg 0 false [ { d := some 2, op := .mov (.c (.nils)) }]) (.seq
 (.seq (.reg 1 false [ { d := some 3, op := .mov (.t 0) }, { d := some 4, op := .vop (.eqn false) [(.t 3), (.c (.nils))] }]) (.cond (.t 4)
 (.seq (.reg 2 false [ { d := some 2, op := .mov (.c (.nils)) }]) (.ret)) (.skip)))
 (.seq (.reg 3 false [ { d := some 5, op := .bsl true 3 0 [] [] }, { d := some 6, op := .mov (.t 0) }, { d := some 7, op := .app 3 24 (.t 5) (.t 6) }, { d := some 2, op := .mov (.t 7) }]) (.ret)))
def rr_slices_Clone_api_Dim_api_Dim : List RRes := [.t 2]
theorem pc_slices_Clone_api_Dim_api_Dim {G : Nat → Option (List AV)} {args : List AV} {v : AV} (hn : args.length ≤ Tryd.f109.ntmps) (h : ∀ R : Run, R.G = G → R.Top → AR Tryd.prog R rc_slices_Clone_api_Dim_api_Dim (initSt args) (Fin rr_slices_Clone_api_Dim_api_Dim v)) : PC Tryd.prog G 109 args v :=
  PC_of Tryd.func109 rfl (by kernel_rfl) (rc := rc_slices_Clone_api_Dim_api_Dim) (by kernel_rfl) (rs := rr_slices_Clone_api_Dim_api_Dim) (by kernel_rfl) hn (fun R _ hG hr => h R hG hr)

def rc_sheet_known : RCode :=
  .seq (.reg 0 false [ { d := some 2, op := .box (.t 0) }, { d := some 4, op := .mov (.c (.nilp)) }, { d := some 5, op := .mov (.c (.int .i64 0)) }])
 (.seq (.reg 1 false [ { d := some 9, op := .load true 1 (.t 2) }, { d := some 10, op := .call 67 [.t 9] }, { d := some 8, op := .mov (.t 10) }, { d := some 11, op := .ext 0 (.t 8) }, { d := some 12, op := .ext 1 (.t 8) }, { d := some 6, op := .mov (.t 11) }, { d := some 7, op := .mov (.t 12) }]) (.seq
 (.seq (.reg 2 false [ { d := some 13, op := .mov (.t 7) }, { d := some 14, op := .bin .neq (.t 13) (.c (.int .i64 0)) }]) (.cond (.t 14)
 (.seq (.reg 3 false [ { d := some 15, op := .mov (.t 7) }, { d := some 4, op := .mov (.c (.nilp)) }, { d := some 5, op := .mov (.t 15) }]) (.ret)) (.skip))) (.seq
 (.seq (.reg 4 false [ { d := some 16, op := .mov (.t 6) }, { d := some 17, op := .mov (.t 1) }, { d := some 18, op := .call 104 [.t 16, .t 17] }, { d := some 19, op := .un .not (.t 18) }]) (.cond (.t 19)
 (.seq (.reg 5 false [ { d := some 4, op := .mov (.c (.nilp)) }, { d := some 5, op := .mov (.c (.int .i64 6)) }]) (.ret)) (.skip)))
 (.seq (.reg 6 false [ { d := some 20, op := .mov (.t 6) }, { d := some 4, op := .mov (.t 20) }, { d := some 5, op := .mov (.c (.int .i64 0)) }]) (.ret)))))
def rr_sheet_known : List RRes := [.t 4, .t 5]
theorem pc_sheet_known {G : Nat → Option (List AV)} {args : List AV} {v : AV} (hn : args.length ≤ Tryd.f68.ntmps) (h : ∀ R : Run, R.G = G → R.Top → AR Tryd.prog R rc_sheet_known (initSt args) (Fin rr_sheet_known v)) : PC Tryd.prog G 68 args v :=
  PC_of Tryd.func68 rfl (by kernel_rfl) (rc := rc_sheet_known) (by kernel_rfl) (rs := rr_sheet_known) (by kernel_rfl) hn (fun R _ hG hr => h R hG hr)

def rc_sheet_Check : RCode :=
  .seq (.reg 0 false [ { d := some 1, op := .box (.t 0) }, { d := some 2, op := .mov (.c (.int .i64 0)) }])
 (.seq (.reg 1 false [ { d := some 6, op := .load true 1 (.t 1) }, { d := some 7, op := .call 67 [.t 6] }, { d := some 5, op := .mov (.t 7) }, { d := some 8, op := .ext 0 (.t 5) }, { d := some 9, op := .ext 1 (.t 5) }, { d := some 3, op := .mov (.t 8) }, { d := some 4, op := .mov (.t 9) }])
 (.seq (.reg 2 false [ { d := some 10, op := .mov (.t 4) }, { d := some 2, op := .mov (.t 10) }]) (.ret)))
def rr_sheet_Check : List RRes := [.t 2]
theorem pc_sheet_Check {G : Nat → Option (List AV)} {args : List AV} {v : AV} (hn : args.length ≤ Tryd.f24.ntmps) (h : ∀ R : Run, R.G = G → R.Top → AR Tryd.prog R rc_sheet_Check (initSt args) (Fin rr_sheet_Check v)) : PC Tryd.prog G 24 args v :=
  PC_of Tryd.func24 rfl (by kernel_rfl) (rc := rc_sheet_Check) (by kernel_rfl) (rs := rr_sheet_Check) (by kernel_rfl) hn (fun R _ hG hr => h R hG hr)

def rc_sheet_Drawings : RCode :=
  .seq (.reg 0 false [ { d := some 1, op := .box (.t 0) }, { d := some 2, op := .mov (.c (.nils)) }, { d := some 3, op := .mov (.c (.int .i64 0)) }])
 (.seq (.reg 1 false [ { d := some 7, op := .load true 1 (.t 1) }, { d := some 8, op := .call 67 [.t 7] }, { d := some 6, op := .mov (.t 8) }, { d := some 9, op := .ext 0 (.t 6) }, { d := some 10, op := .ext 1 (.t 6) }, { d := some 4, op := .mov (.t 9) }, { d := some 5, op := .mov (.t 10) }]) (.seq
 (.seq (.reg 2 false [ { d := some 11, op := .mov (.t 5) }, { d := some 12, op := .bin .neq (.t 11) (.c (.int .i64 0)) }]) (.cond (.t 12)
 (.seq (.reg 3 false [ { d := some 13, op := .mov (.t 5) }, { d := some 2, op := .mov (.c (.nils)) }, { d := some 3, op := .mov (.t 13) }]) (.ret)) (.skip)))
 (.seq (.reg 4 false [ { d := some 14, op := .mov (.t 4) }, { d := some 15, op := .nilck (.t 14) }, { d := some 16, op := .faddr 1 (.t 15) }, { d := some 17, op := .load false 1 (.t 16) }, { d := some 2, op := .mov (.t 17) }, { d := some 3, op := .mov (.c (.int .i64 0)) }]) (.ret))))
def rr_sheet_Drawings : List RRes := [.t 2, .t 3]
theorem pc_sheet_Drawings {G : Nat → Option (List AV)} {args : List AV} {v : AV} (hn : args.length ≤ Tryd.f20.ntmps) (h : ∀ R : Run, R.G = G → R.Top → AR Tryd.prog R rc_sheet_Drawings (initSt args) (Fin rr_sheet_Drawings v)) : PC Tryd.prog G 20 args v :=
  PC_of Tryd.func20 rfl (by kernel_rfl) (rc := rc_sheet_Drawings) (by kernel_rfl) (rs := rr_sheet_Drawings) (by kernel_rfl) hn (fun R _ hG hr => h R hG hr)

def rc_sheet_Last : RCode :=
  .seq (.reg 0 false [ { d := some 2, op := .box (.t 0) }, { d := some 4, op := .mov (.c (.int .i64 0)) }, { d := some 5, op := .mov (.c (.int .i64 0)) }])
 (.seq (.reg 1 false [ { d := some 9, op := .load true 1 (.t 2) }, { d := some 10, op := .mov (.t 1) }, { d := some 11, op := .call 68 [.t 9, .t 10] }, { d := some 8, op := .mov (.t 11) }, { d := some 12, op := .ext 0 (.t 8) }, { d := some 13, op := .ext 1 (.t 8) }, { d := some 6, op := .mov (.t 12) }, { d := some 7, op := .mov (.t 13) }]) (.seq
 (.seq (.reg 2 false [ { d := some 14, op := .mov (.t 7) }, { d := some 15, op := .bin .neq (.t 14) (.c (.int .i64 0)) }]) (.cond (.t 15)
 (.seq (.reg 3 false [ { d := some 16, op := .mov (.t 7) }, { d := some 4, op := .mov (.c (.int .i64 0)) }, { d := some 5, op := .mov (.t 16) }]) (.ret)) (.skip)))
 (.seq (.reg 4 false [ { d := some 17, op := .mov (.t 6) }, { d := some 18, op := .mov (.t 1) }, { d := some 19, op := .call 69 [.t 17, .t 18] }, { d := some 4, op := .mov (.t 19) }, { d := some 5, op := .mov (.c (.int .i64 0)) }]) (.ret))))
def rr_sheet_Last : List RRes := [.t 4, .t 5]
theorem pc_sheet_Last {G : Nat → Option (List AV)} {args : List AV} {v : AV} (hn : args.length ≤ Tryd.f22.ntmps) (h : ∀ R : Run, R.G = G → R.Top → AR Tryd.prog R rc_sheet_Last (initSt args) (Fin rr_sheet_Last v)) : PC Tryd.prog G 22 args v :=
  PC_of Tryd.func22 rfl (by kernel_rfl) (rc := rc_sheet_Last) (by kernel_rfl) (rs := rr_sheet_Last) (by kernel_rfl) hn (fun R _ hG hr => h R hG hr)

def rc_sheet_At : RCode :=
  .seq (.reg 0 false [ { d := some 2, op := .box (.t 0) }, { d := some 3, op := .box (.t 1) }, { d := some 4, op := .alloc [.int .i64 0, .int .i64 0, .int .u8 0, .nils, .nils] }, { d := some 5, op := .mov (.c (.int .i64 0)) }])
 (.seq (.reg 1 false [ { d := some 11, op := .load true 1 (.t 2) }, { d := some 12, op := .call 67 [.t 11] }, { d := some 10, op := .mov (.t 12) }, { d := some 13, op := .ext 0 (.t 10) }, { d := some 14, op := .ext 1 (.t 10) }, { d := some 6, op := .mov (.t 13) }, { d := some 7, op := .mov (.t 14) }]) (.seq
 (.seq (.reg 2 false [ { d := some 15, op := .mov (.t 7) }, { d := some 16, op := .bin .neq (.t 15) (.c (.int .i64 0)) }]) (.cond (.t 16)
 (.seq (.reg 3 false [ { d := some 17, op := .build [.int .i64 0, .int .i64 0, .int .u8 0, .nils, .nils] [] }, { d := some 18, op := .mov (.t 7) }, { d := none, op := .store 5 (.t 4) (.t 17) }, { d := some 5, op := .mov (.t 18) }]) (.ret)) (.skip)))
 (.seq (.reg 4 false [ { d := some 20, op := .mov (.t 6) }, { d := some 21, op := .load true 2 (.t 3) }, { d := some 22, op := .call 72 [.t 20, .t 21] }, { d := some 19, op := .mov (.t 22) }, { d := some 23, op := .ext 0 (.t 19) }, { d := some 24, op := .ext 1 (.t 19) }, { d := some 8, op := .alloc [.int .i64 0, .int .i64 0, .int .u8 0, .nils, .nils] }, { d := none, op := .store 5 (.t 8) (.t 23) }, { d := some 9, op := .mov (.t 24) }]) (.seq
 (.seq (.reg 5 false [ { d := some 25, op := .mov (.t 9) }, { d := some 26, op := .un .not (.t 25) }]) (.cond (.t 26)
 (.seq (.reg 6 false [ { d := some 27, op := .build [.int .i64 0, .int .i64 0, .int .u8 0, .nils, .nils] [] }, { d := none, op := .store 5 (.t 4) (.t 27) }, { d := some 5, op := .mov (.c (.int .i64 6)) }]) (.ret)) (.skip)))
 (.seq (.reg 7 false [ { d := some 28, op := .load true 5 (.t 8) }, { d := some 29, op := .call 73 [.t 28] }, { d := none, op := .store 5 (.t 4) (.t 29) }, { d := some 5, op := .mov (.c (.int .i64 0)) }]) (.ret))))))
def rr_sheet_At : List RRes := [.c 4 true 5, .t 5]
theorem pc_sheet_At {G : Nat → Option (List AV)} {args : List AV} {v : AV} (hn : args.length ≤ Tryd.f27.ntmps) (h : ∀ R : Run, R.G = G → R.Top → AR Tryd.prog R rc_sheet_At (initSt args) (Fin rr_sheet_At v)) : PC Tryd.prog G 27 args v :=
  PC_of Tryd.func27 rfl (by kernel_rfl) (rc := rc_sheet_At) (by kernel_rfl) (rs := rr_sheet_At) (by kernel_rfl) hn (fun R _ hG hr => h R hG hr)

def rc_sheet_Depth : RCode :=
  .seq (.reg 0 false [ { d := some 2, op := .box (.t 0) }, { d := some 4, op := .mov (.c (.int .i64 0)) }, { d := some 5, op := .mov (.c (.int .i64 0)) }])
 (.seq (.reg 1 false [ { d := some 11, op := .load true 1 (.t 2) }, { d := some 12, op := .mov (.t 1) }, { d := some 13, op := .call 68 [.t 11, .t 12] }, { d := some 10, op := .mov (.t 13) }, { d := some 14, op := .ext 0 (.t 10) }, { d := some 15, op := .ext 1 (.t 10) }, { d := some 6, op := .mov (.t 14) }, { d := some 7, op := .mov (.t 15) }]) (.seq
 (.seq (.reg 2 false [ { d := some 16, op := .mov (.t 7) }, { d := some 17, op := .bin .neq (.t 16) (.c (.int .i64 0)) }]) (.cond (.t 17)
 (.seq (.reg 3 false [ { d := some 18, op := .mov (.t 7) }, { d := some 4, op := .mov (.c (.int .i64 0)) }, { d := some 5, op := .mov (.t 18) }]) (.ret)) (.skip)))
 (.seq (.reg 4 false [ { d := some 20, op := .mov (.t 6) }, { d := some 21, op := .call 75 [.t 20] }, { d := some 19, op := .mov (.t 21) }, { d := some 22, op := .ext 0 (.t 19) }, { d := some 23, op := .ext 1 (.t 19) }, { d := some 8, op := .mov (.t 22) }, { d := some 9, op := .mov (.t 23) }])
 (.seq (.reg 5 false [ { d := some 24, op := .mov (.t 8) }, { d := some 25, op := .mov (.t 1) }, { d := some 26, op := .look (.i .i64) (.int .i64 0) false (.t 24) (.t 25) }, { d := some 4, op := .mov (.t 26) }, { d := some 5, op := .mov (.c (.int .i64 0)) }]) (.ret)))))
def rr_sheet_Depth : List RRes := [.t 4, .t 5]
theorem pc_sheet_Depth {G : Nat → Option (List AV)} {args : List AV} {v : AV} (hn : args.length ≤ Tryd.f29.ntmps) (h : ∀ R : Run, R.G = G → R.Top → AR Tryd.prog R rc_sheet_Depth (initSt args) (Fin rr_sheet_Depth v)) : PC Tryd.prog G 29 args v :=
  PC_of Tryd.func29 rfl (by kernel_rfl) (rc := rc_sheet_Depth) (by kernel_rfl) (rs := rr_sheet_Depth) (by kernel_rfl) hn (fun R _ hG hr => h R hG hr)

end Go.Proofs.YtdpmioiamcgfkaaDoor

/-! The abstract machine's code of functions of the program, as a program of ours printed it; that it is theirs is proved beside each. -/
namespace Go.Proofs.YtdpmioiamcgfkaaDoor
open Go.RowKit

def rc_ref01_within : RCode :=
  .seq (.reg 0 false [ { d := some 6, op := .mov (.c (.bool false)) }])
 (.seq (.reg 1 false [ { d := some 7, op := .mov (.t 0) }, { d := some 8, op := .mov (.t 1) }, { d := some 9, op := .bin .geq (.t 7) (.t 8) }, { d := some 10, op := .mov (.t 9) }, { d := some 11, op := .mov (.t 0), guard := some (10, true) }, { d := some 12, op := .mov (.t 2), guard := some (10, true) }, { d := some 13, op := .bin .leq (.t 11) (.t 12), guard := some (10, true) }, { d := some 14, op := .pick (.t 10) (.t 13) (.c (.bool false)) }, { d := some 6, op := .mov (.t 14) }]) (.ret))
def rr_ref01_within : List RRes := [.t 6]
theorem pc_ref01_within {G : Nat → Option (List AV)} {args : List AV} {v : AV} (hn : args.length ≤ Tryd.f136.ntmps) (h : ∀ R : Run, R.G = G → R.Top → AR Tryd.prog R rc_ref01_within (initSt args) (Fin rr_ref01_within v)) : PC Tryd.prog G 136 args v :=
  PC_of Tryd.func136 rfl (by kernel_rfl) (rc := rc_ref01_within) (by kernel_rfl) (rs := rr_ref01_within) (by kernel_rfl) hn (fun R _ hG hr => h R hG hr)

def rc_ref01_Dim : RCode :=
  .seq (.reg 0 false [ { d := some 1, op := .box (.t 0) }, { d := some 2, op := .mov (.c (.bool false)) }])
 (.seq (.reg 1 false [ { d := some 3, op := .faddr 0 (.t 1) }, { d := some 4, op := .load false 1 (.t 3) }, { d := some 5, op := .call 136 [.t 4, .c (.int .i64 0), .c (.int .i64 1000000000)] }, { d := some 6, op := .mov (.t 5) }, { d := some 7, op := .faddr 2 (.t 1), guard := some (6, true) }, { d := some 8, op := .load false 1 (.t 7), guard := some (6, true) }, { d := some 9, op := .call 136 [.t 8, .c (.int .i64 0), .c (.int .i64 1000000000)], guard := some (6, true) }, { d := some 10, op := .pick (.t 6) (.t 9) (.c (.bool false)) }, { d := some 11, op := .mov (.t 10) }, { d := some 12, op := .faddr 1 (.t 1), guard := some (11, true) }, { d := some 13, op := .load false 1 (.t 12), guard := some (11, true) }, { d := some 14, op := .faddr 2 (.t 1), guard := some (11, true) }, { d := some 15, op := .load false 1 (.t 14), guard := some (11, true) }, { d := some 16, op := .call 136 [.t 13, .c (.int .i64 0), .t 15], guard := some (11, true) }, { d := some 17, op := .pick (.t 11) (.t 16) (.c (.bool false)) }, { d := some 2, op := .mov (.t 17) }]) (.ret))
def rr_ref01_Dim : List RRes := [.t 2]
theorem pc_ref01_Dim {G : Nat → Option (List AV)} {args : List AV} {v : AV} (hn : args.length ≤ Tryd.f126.ntmps) (h : ∀ R : Run, R.G = G → R.Top → AR Tryd.prog R rc_ref01_Dim (initSt args) (Fin rr_ref01_Dim v)) : PC Tryd.prog G 126 args v :=
  PC_of Tryd.func126 rfl (by kernel_rfl) (rc := rc_ref01_Dim) (by kernel_rfl) (rs := rr_ref01_Dim) (by kernel_rfl) hn (fun R _ hG hr => h R hG hr)

def rc_ref02_within : RCode :=
  .seq (.reg 0 false [ { d := some 6, op := .mov (.c (.bool false)) }])
 (.seq (.reg 1 false [ { d := some 7, op := .mov (.t 0) }, { d := some 8, op := .mov (.t 1) }, { d := some 9, op := .bin .geq (.t 7) (.t 8) }, { d := some 10, op := .mov (.t 9) }, { d := some 11, op := .mov (.t 0), guard := some (10, true) }, { d := some 12, op := .mov (.t 2), guard := some (10, true) }, { d := some 13, op := .bin .leq (.t 11) (.t 12), guard := some (10, true) }, { d := some 14, op := .pick (.t 10) (.t 13) (.c (.bool false)) }, { d := some 6, op := .mov (.t 14) }]) (.ret))
def rr_ref02_within : List RRes := [.t 6]
theorem pc_ref02_within {G : Nat → Option (List AV)} {args : List AV} {v : AV} (hn : args.length ≤ Tryd.f106.ntmps) (h : ∀ R : Run, R.G = G → R.Top → AR Tryd.prog R rc_ref02_within (initSt args) (Fin rr_ref02_within v)) : PC Tryd.prog G 106 args v :=
  PC_of Tryd.func106 rfl (by kernel_rfl) (rc := rc_ref02_within) (by kernel_rfl) (rs := rr_ref02_within) (by kernel_rfl) hn (fun R _ hG hr => h R hG hr)

def rc_ref02_Issue : RCode :=
  .seq (.reg 0 false [ { d := some 1, op := .box (.t 0) }, { d := some 2, op := .mov (.c (.bool false)) }]) (.seq
 (.seq (.reg 1 false [ { d := some 6, op := .faddr 0 (.t 1) }, { d := some 7, op := .load false 1 (.t 6) }, { d := some 8, op := .call 106 [.t 7, .c (.int .i64 1), .c (.int .i64 9999)] }, { d := some 9, op := .un .not (.t 8) }, { d := some 10, op := .mov (.t 9) }, { d := some 11, op := .faddr 1 (.t 1), guard := some (10, false) }, { d := some 12, op := .load false 1 (.t 11), guard := some (10, false) }, { d := some 13, op := .call 106 [.t 12, .c (.int .i64 1), .c (.int .i64 8)], guard := some (10, false) }, { d := some 14, op := .un .not (.t 13), guard := some (10, false) }, { d := some 15, op := .pick (.t 10) (.c (.bool true)) (.t 14) }, { d := some 16, op := .mov (.t 15) }, { d := some 17, op := .faddr 2 (.t 1), guard := some (16, false) }, { d := some 18, op := .load false 1 (.t 17), guard := some (16, false) }, { d := some 19, op := .conv .i64 (.t 18), guard := some (16, false) }, { d := some 20, op := .call 106 [.t 19, .c (.int .i64 1), .c (.int .i64 3)], guard := some (16, false) }, { d := some 21, op := .un .not (.t 20), guard := some (16, false) }, { d := some 22, op := .pick (.t 16) (.c (.bool true)) (.t 21) }, { d := some 23, op := .mov (.t 22) }, { d := some 24, op := .faddr 2 (.t 1), guard := some (23, false) }, { d := some 25, op := .load false 1 (.t 24), guard := some (23, false) }, { d := some 26, op := .bin .eql (.t 25) (.c (.int .u8 1)), guard := some (23, false) }, { d := some 27, op := .mov (.t 26), guard := some (23, false) }, { d := some 28, op := .faddr 3 (.t 1), guard := some (27, true) }, { d := some 29, op := .load false 1 (.t 28), guard := some (27, true) }, { d := some 30, op := .len (.t 29), guard := some (27, true) }, { d := some 31, op := .call 106 [.t 30, .c (.int .i64 1), .c (.int .i64 8)], guard := some (27, true) }, { d := some 32, op := .un .not (.t 31), guard := some (27, true) }, { d := some 33, op := .mov (.t 32), guard := some (27, true) }, { d := some 34, op := .faddr 4 (.t 1), guard := some (33, false) }, { d := some 35, op := .load false 1 (.t 34), guard := some (33, false) }, { d := some 36, op := .len (.t 35), guard := some (33, false) }, { d := some 37, op := .bin .gtr (.t 36) (.c (.int .i64 0)), guard := some (33, false) }, { d := some 38, op := .pick (.t 33) (.c (.bool true)) (.t 37), guard := some (27, true) }, { d := some 39, op := .pick (.t 27) (.t 38) (.c (.bool false)), guard := some (23, false) }, { d := some 40, op := .pick (.t 23) (.c (.bool true)) (.t 39) }, { d := some 41, op := .mov (.t 40) }, { d := some 42, op := .faddr 2 (.t 1), guard := some (41, false) }, { d := some 43, op := .load false 1 (.t 42), guard := some (41, false) }, { d := some 44, op := .bin .gtr (.t 43) (.c (.int .u8 1)), guard := some (41, false) }, { d := some 45, op := .mov (.t 44), guard := some (41, false) }, { d := some 46, op := .faddr 4 (.t 1), guard := some (45, true) }, { d := some 47, op := .load false 1 (.t 46), guard := some (45, true) }, { d := some 48, op := .len (.t 47), guard := some (45, true) }, { d := some 49, op := .bin .gtr (.t 48) (.c (.int .i64 4)), guard := some (45, true) }, { d := some 50, op := .mov (.t 49), guard := some (45, true) }, { d := some 51, op := .faddr 3 (.t 1), guard := some (50, false) }, { d := some 52, op := .load false 1 (.t 51), guard := some (50, false) }, { d := some 53, op := .len (.t 52), guard := some (50, false) }, { d := some 54, op := .bin .gtr (.t 53) (.c (.int .i64 0)), guard := some (50, false) }, { d := some 55, op := .pick (.t 50) (.c (.bool true)) (.t 54), guard := some (45, true) }, { d := some 56, op := .pick (.t 45) (.t 55) (.c (.bool false)), guard := some (41, false) }, { d := some 57, op := .pick (.t 41) (.c (.bool true)) (.t 56) }]) (.cond (.t 57)
 (.seq (.reg 2 false [ { d := some 2, op := .mov (.c (.bool false)) }]) (.ret)) (.skip))) (.seq
 (.seq (.reg 3 false [ { d := some 3, op := .mov (.c (.int .i64 0)) }]) (.block 0 (.loop (.seq
 (.seq (.reg 4 false [ { d := some 58, op := .mov (.t 3) }, { d := some 59, op := .faddr 3 (.t 1) }, { d := some 60, op := .load false 1 (.t 59) }, { d := some 61, op := .len (.t 60) }, { d := some 62, op := .bin .lss (.t 58) (.t 61) }]) (.cond (.t 62) (.skip) (.exit 0))) (.seq (.block 1
 (.seq (.reg 6 false [ { d := some 65, op := .faddr 3 (.t 1) }, { d := some 66, op := .load false 1 (.t 65) }, { d := some 67, op := .mov (.t 3) }, { d := some 68, op := .iaddr 2 (.t 66) (.t 67) }, { d := some 69, op := .load true 2 (.t 68) }, { d := some 4, op := .alloc [.int .i64 0, .int .i64 0] }, { d := none, op := .store 2 (.t 4) (.t 69) }])
 (.seq (.reg 7 true [ { d := some 70, op := .faddr 0 (.t 4), aft := [] }, { d := some 71, op := .load false 1 (.t 70), aft := [0] }, { d := some 72, op := .call 106 [.t 71, .c (.int .i64 1), .c (.int .i64 9999)], aft := [1] }, { d := some 73, op := .un .not (.t 72), aft := [2] }, { d := some 74, op := .mov (.t 73), aft := [3, 2] }, { d := some 75, op := .faddr 1 (.t 4), guard := some (74, false), aft := [4] }, { d := some 76, op := .load false 1 (.t 75), guard := some (74, false), aft := [5, 4] }, { d := some 77, op := .call 106 [.t 76, .c (.int .i64 1), .c (.int .i64 20)], guard := some (74, false), aft := [6, 4, 4] }, { d := some 78, op := .un .not (.t 77), guard := some (74, false), aft := [7, 4] }, { d := some 79, op := .pick (.t 74) (.c (.bool true)) (.t 78), aft := [4, 8] }, { d := some 80, op := .mov (.t 79), aft := [9, 7] }, { d := some 81, op := .faddr 0 (.t 4), guard := some (80, false), aft := [10] }, { d := some 82, op := .load false 1 (.t 81), guard := some (80, false), aft := [11, 10] }, { d := some 83, op := .faddr 0 (.t 1), guard := some (80, false), aft := [10] }, { d := some 84, op := .load false 1 (.t 83), guard := some (80, false), aft := [13, 10] }, { d := some 85, op := .bin .eql (.t 82) (.t 84), guard := some (80, false), aft := [12, 14, 10] }, { d := some 86, op := .pick (.t 80) (.c (.bool true)) (.t 85), aft := [10, 15] }, { d := some 87, op := .mov (.t 86), aft := [16, 10] }, { d := some 88, op := .mov (.t 3), guard := some (87, false), aft := [17] }, { d := some 89, op := .bin .gtr (.t 88) (.c (.int .i64 0)), guard := some (87, false), aft := [18, 17] }, { d := some 90, op := .mov (.t 89), guard := some (87, false), aft := [19, 17, 17] }, { d := some 91, op := .faddr 3 (.t 1), guard := some (90, true), aft := [20] }, { d := some 92, op := .load false 1 (.t 91), guard := some (90, true), aft := [21, 20] }, { d := some 93, op := .mov (.t 3), guard := some (90, true), aft := [20] }, { d := some 94, op := .bin .sub (.t 93) (.c (.int .i64 1)), guard := some (90, true), aft := [23, 20] }, { d := some 95, op := .iaddr 2 (.t 92) (.t 94), guard := some (90, true), aft := [22, 24, 20] }, { d := some 96, op := .faddr 0 (.t 95), guard := some (90, true), aft := [25, 20] }, { d := some 97, op := .load false 1 (.t 96), guard := some (90, true), aft := [26, 20] }, { d := some 98, op := .faddr 0 (.t 4), guard := some (90, true), aft := [20] }, { d := some 99, op := .load false 1 (.t 98), guard := some (90, true), aft := [28, 20] }, { d := some 100, op := .bin .geq (.t 97) (.t 99), guard := some (90, true), aft := [27, 29, 20] }, { d := some 101, op := .pick (.t 90) (.t 100) (.c (.bool false)), guard := some (87, false), aft := [20, 30, 17] }, { d := some 102, op := .pick (.t 87) (.c (.bool true)) (.t 101), aft := [17, 31] }]) (.cond (.t 102)
 (.seq (.reg 8 false [ { d := some 2, op := .mov (.c (.bool false)) }]) (.ret)) (.skip))))) (.reg 5 false [ { d := some 63, op := .mov (.t 3) }, { d := some 64, op := .bin .add (.t 63) (.c (.int .i64 1)) }, { d := some 3, op := .mov (.t 64) }])))))) (.seq
 (.seq (.reg 9 false [ { d := some 5, op := .mov (.c (.int .i64 0)) }]) (.block 2 (.loop (.seq
 (.seq (.reg 10 false [ { d := some 103, op := .mov (.t 5) }, { d := some 104, op := .faddr 4 (.t 1) }, { d := some 105, op := .load false 1 (.t 104) }, { d := some 106, op := .len (.t 105) }, { d := some 107, op := .bin .lss (.t 103) (.t 106) }]) (.cond (.t 107) (.skip) (.exit 2))) (.seq (.block 3
 (.seq (.reg 12 false [ { d := some 110, op := .faddr 4 (.t 1) }, { d := some 111, op := .load false 1 (.t 110) }, { d := some 112, op := .mov (.t 5) }, { d := some 113, op := .iaddr 3 (.t 111) (.t 112) }, { d := some 114, op := .load true 3 (.t 113) }, { d := some 115, op := .call 126 [.t 114] }, { d := some 116, op := .un .not (.t 115) }]) (.cond (.t 116)
 (.seq (.reg 13 false [ { d := some 2, op := .mov (.c (.bool false)) }]) (.ret)) (.skip)))) (.reg 11 false [ { d := some 108, op := .mov (.t 5) }, { d := some 109, op := .bin .add (.t 108) (.c (.int .i64 1)) }, { d := some 5, op := .mov (.t 109) }]))))))
 (.seq (.reg 14 false [ { d := some 2, op := .mov (.c (.bool true)) }]) (.ret)))))
def rr_ref02_Issue : List RRes := [.t 2]
theorem pc_ref02_Issue {G : Nat → Option (List AV)} {args : List AV} {v : AV} (hn : args.length ≤ Tryd.f107.ntmps) (h : ∀ R : Run, R.G = G → R.Top → AR Tryd.prog R rc_ref02_Issue (initSt args) (Fin rr_ref02_Issue v)) : PC Tryd.prog G 107 args v :=
  PC_of Tryd.func107 rfl (by kernel_rfl) (rc := rc_ref02_Issue) (by kernel_rfl) (rs := rr_ref02_Issue) (by kernel_rfl) hn (fun R _ hG hr => h R hG hr)

def rc_ref02_Numbers : RCode :=
  .seq (.reg 0 false [ { d := some 1, op := .box (.t 0) }, { d := some 2, op := .mov (.c (.nils)) }])
 (.seq (.reg 1 false [ { d := some 3, op := .mov (.c (.nils)) }]) (.seq
 (.seq (.reg 2 false [ { d := some 4, op := .mov (.c (.int .i64 0)) }]) (.block 0 (.loop (.seq
 (.seq (.reg 3 false [ { d := some 6, op := .mov (.t 4) }, { d := some 7, op := .faddr 0 (.t 1) }, { d := some 8, op := .load false 1 (.t 7) }, { d := some 9, op := .len (.t 8) }, { d := some 10, op := .bin .lss (.t 6) (.t 9) }]) (.cond (.t 10) (.skip) (.exit 0))) (.seq (.block 1
 (.seq (.reg 5 false [ { d := some 13, op := .faddr 0 (.t 1) }, { d := some 14, op := .load false 1 (.t 13) }, { d := some 15, op := .mov (.t 4) }, { d := some 16, op := .iaddr 5 (.t 14) (.t 15) }, { d := some 17, op := .faddr 0 (.t 16) }, { d := some 18, op := .load false 1 (.t 17) }, { d := some 5, op := .mov (.t 18) }])
 (.seq (.reg 6 false [ { d := some 19, op := .mov (.t 4) }, { d := some 20, op := .bin .eql (.t 19) (.c (.int .i64 0)) }, { d := some 21, op := .mov (.t 20) }, { d := some 22, op := .faddr 0 (.t 1), guard := some (21, false) }, { d := some 23, op := .load false 1 (.t 22), guard := some (21, false) }, { d := some 24, op := .mov (.t 4), guard := some (21, false) }, { d := some 25, op := .bin .sub (.t 24) (.c (.int .i64 1)), guard := some (21, false) }, { d := some 26, op := .iaddr 5 (.t 23) (.t 25), guard := some (21, false) }, { d := some 27, op := .faddr 0 (.t 26), guard := some (21, false) }, { d := some 28, op := .load false 1 (.t 27), guard := some (21, false) }, { d := some 29, op := .mov (.t 5), guard := some (21, false) }, { d := some 30, op := .bin .neq (.t 28) (.t 29), guard := some (21, false) }, { d := some 31, op := .pick (.t 21) (.c (.bool true)) (.t 30) }]) (.cond (.t 31) (.reg 7 false [ { d := some 32, op := .mov (.t 3) }, { d := some 33, op := .mov (.t 5) }, { d := some 34, op := .bsl false 1 1 [.int .i64 0] [(0, .t 33)] }, { d := some 35, op := .app 1 8 (.t 32) (.t 34) }, { d := some 3, op := .mov (.t 35) }]) (.skip))))) (.reg 4 false [ { d := some 11, op := .mov (.t 4) }, { d := some 12, op := .bin .add (.t 11) (.c (.int .i64 1)) }, { d := some 4, op := .mov (.t 12) }]))))))
 (.seq (.reg 8 false [ { d := some 36, op := .mov (.t 3) }, { d := some 2, op := .mov (.t 36) }]) (.ret))))
def rr_ref02_Numbers : List RRes := [.t 2]
theorem pc_ref02_Numbers {G : Nat → Option (List AV)} {args : List AV} {v : AV} (hn : args.length ≤ Tryd.f55.ntmps) (h : ∀ R : Run, R.G = G → R.Top → AR Tryd.prog R rc_ref02_Numbers (initSt args) (Fin rr_ref02_Numbers v)) : PC Tryd.prog G 55 args v :=
  PC_of Tryd.func55 rfl (by kernel_rfl) (rc := rc_ref02_Numbers) (by kernel_rfl) (rs := rr_ref02_Numbers) (by kernel_rfl) hn (fun R _ hG hr => h R hG hr)

def rc_ref02_Index : RCode :=
  .seq (.reg 0 false [ { d := some 4, op := .mov (.c (.int .i64 0)) }]) (.seq
 (.seq (.reg 1 false [ { d := some 5, op := .mov (.c (.int .i64 0)) }]) (.block 0 (.loop (.seq
 (.seq (.reg 2 false [ { d := some 6, op := .mov (.t 5) }, { d := some 7, op := .mov (.t 0) }, { d := some 8, op := .len (.t 7) }, { d := some 9, op := .bin .lss (.t 6) (.t 8) }]) (.cond (.t 9) (.skip) (.exit 0))) (.seq (.block 1
 (.seq (.reg 4 false [ { d := some 12, op := .mov (.t 0) }, { d := some 13, op := .mov (.t 5) }, { d := some 14, op := .iaddr 1 (.t 12) (.t 13) }, { d := some 15, op := .load false 1 (.t 14) }, { d := some 16, op := .mov (.t 1) }, { d := some 17, op := .bin .eql (.t 15) (.t 16) }]) (.cond (.t 17)
 (.seq (.reg 5 false [ { d := some 18, op := .mov (.t 5) }, { d := some 4, op := .mov (.t 18) }]) (.ret)) (.skip)))) (.reg 3 false [ { d := some 10, op := .mov (.t 5) }, { d := some 11, op := .bin .add (.t 10) (.c (.int .i64 1)) }, { d := some 5, op := .mov (.t 11) }]))))))
 (.seq (.reg 6 false [ { d := some 4, op := .mov (.c (.int .i64 (-1))) }]) (.ret)))
def rr_ref02_Index : List RRes := [.t 4]
theorem pc_ref02_Index {G : Nat → Option (List AV)} {args : List AV} {v : AV} (hn : args.length ≤ Tryd.f56.ntmps) (h : ∀ R : Run, R.G = G → R.Top → AR Tryd.prog R rc_ref02_Index (initSt args) (Fin rr_ref02_Index v)) : PC Tryd.prog G 56 args v :=
  PC_of Tryd.func56 rfl (by kernel_rfl) (rc := rc_ref02_Index) (by kernel_rfl) (rs := rr_ref02_Index) (by kernel_rfl) hn (fun R _ hG hr => h R hG hr)

def rc_ref02_listed : RCode :=
  .seq (.reg 0 false [ { d := some 1, op := .box (.t 0) }, { d := some 2, op := .mov (.c (.bool false)) }]) (.seq
 (.seq (.reg 1 false [ { d := some 9, op := .faddr 0 (.t 1) }, { d := some 10, op := .load false 1 (.t 9) }, { d := some 11, op := .len (.t 10) }, { d := some 12, op := .call 106 [.t 11, .c (.int .i64 1), .c (.int .i64 60)] }, { d := some 13, op := .un .not (.t 12) }]) (.cond (.t 13)
 (.seq (.reg 2 false [ { d := some 2, op := .mov (.c (.bool false)) }]) (.ret)) (.skip))) (.seq
 (.seq (.reg 3 false [ { d := some 3, op := .mov (.c (.int .i64 0)) }]) (.block 0 (.loop (.seq
 (.seq (.reg 4 false [ { d := some 14, op := .mov (.t 3) }, { d := some 15, op := .faddr 0 (.t 1) }, { d := some 16, op := .load false 1 (.t 15) }, { d := some 17, op := .len (.t 16) }, { d := some 18, op := .bin .lss (.t 14) (.t 17) }]) (.cond (.t 18) (.skip) (.exit 0))) (.seq (.block 1
 (.seq (.reg 6 false [ { d := some 21, op := .faddr 0 (.t 1) }, { d := some 22, op := .load false 1 (.t 21) }, { d := some 23, op := .mov (.t 3) }, { d := some 24, op := .iaddr 5 (.t 22) (.t 23) }, { d := some 25, op := .load true 5 (.t 24) }, { d := some 4, op := .alloc [.int .i64 0, .int .i64 0, .int .u8 0, .nils, .nils] }, { d := none, op := .store 5 (.t 4) (.t 25) }]) (.seq
 (.seq (.reg 7 false [ { d := some 26, op := .load true 5 (.t 4) }, { d := some 27, op := .call 107 [.t 26] }, { d := some 28, op := .un .not (.t 27) }]) (.cond (.t 28)
 (.seq (.reg 8 false [ { d := some 2, op := .mov (.c (.bool false)) }]) (.ret)) (.skip)))
 (.seq (.reg 9 false [ { d := some 29, op := .build [.int .i64 0, .int .i64 0, .int .u8 0, .nils, .nils] [] }, { d := some 5, op := .alloc [.int .i64 0, .int .i64 0, .int .u8 0, .nils, .nils] }, { d := none, op := .store 5 (.t 5) (.t 29) }]) (.seq
 (.seq (.reg 10 false [ { d := some 30, op := .mov (.t 3) }, { d := some 31, op := .bin .gtr (.t 30) (.c (.int .i64 0)) }]) (.cond (.t 31) (.reg 11 false [ { d := some 32, op := .faddr 0 (.t 1) }, { d := some 33, op := .load false 1 (.t 32) }, { d := some 34, op := .mov (.t 3) }, { d := some 35, op := .bin .sub (.t 34) (.c (.int .i64 1)) }, { d := some 36, op := .iaddr 5 (.t 33) (.t 35) }, { d := some 37, op := .load true 5 (.t 36) }, { d := none, op := .store 5 (.t 5) (.t 37) }]) (.skip))) (.block 2
 (.seq (.reg 12 false [ { d := some 39, op := .faddr 0 (.t 4) }, { d := some 40, op := .load false 1 (.t 39) }, { d := some 41, op := .faddr 0 (.t 5) }, { d := some 42, op := .load false 1 (.t 41) }, { d := some 43, op := .bin .lss (.t 40) (.t 42) }, { d := some 38, op := .mov (.t 43) }]) (.cond (.t 38)
 (.seq (.reg 13 false [ { d := some 2, op := .mov (.c (.bool false)) }]) (.ret))
 (.seq (.reg 14 false [ { d := some 45, op := .faddr 0 (.t 4) }, { d := some 46, op := .load false 1 (.t 45) }, { d := some 47, op := .faddr 0 (.t 5) }, { d := some 48, op := .load false 1 (.t 47) }, { d := some 49, op := .bin .gtr (.t 46) (.t 48) }, { d := some 44, op := .mov (.t 49) }]) (.cond (.t 44)
 (.seq (.reg 15 false [ { d := some 50, op := .faddr 1 (.t 4) }, { d := some 51, op := .load false 1 (.t 50) }, { d := some 52, op := .bin .neq (.t 51) (.c (.int .i64 1)) }]) (.cond (.t 52)
 (.seq (.reg 16 false [ { d := some 2, op := .mov (.c (.bool false)) }]) (.ret)) (.skip)))
 (.seq (.reg 17 false [ { d := some 54, op := .faddr 1 (.t 4) }, { d := some 55, op := .load false 1 (.t 54) }, { d := some 56, op := .faddr 1 (.t 5) }, { d := some 57, op := .load false 1 (.t 56) }, { d := some 58, op := .bin .add (.t 57) (.c (.int .i64 1)) }, { d := some 59, op := .bin .neq (.t 55) (.t 58) }, { d := some 60, op := .mov (.t 59) }, { d := some 61, op := .faddr 2 (.t 4), guard := some (60, false) }, { d := some 62, op := .load false 1 (.t 61), guard := some (60, false) }, { d := some 63, op := .faddr 2 (.t 5), guard := some (60, false) }, { d := some 64, op := .load false 1 (.t 63), guard := some (60, false) }, { d := some 65, op := .bin .neq (.t 62) (.t 64), guard := some (60, false) }, { d := some 66, op := .pick (.t 60) (.c (.bool true)) (.t 65) }, { d := some 53, op := .mov (.t 66) }]) (.cond (.t 53)
 (.seq (.reg 18 false [ { d := some 2, op := .mov (.c (.bool false)) }]) (.ret)) (.skip))))))))))))) (.reg 5 false [ { d := some 19, op := .mov (.t 3) }, { d := some 20, op := .bin .add (.t 19) (.c (.int .i64 1)) }, { d := some 3, op := .mov (.t 20) }]))))))
 (.seq (.reg 19 false [ { d := some 67, op := .load true 1 (.t 1) }, { d := some 68, op := .call 55 [.t 67] }, { d := some 6, op := .mov (.t 68) }]) (.seq
 (.seq (.reg 20 false [ { d := some 7, op := .mov (.c (.int .i64 0)) }]) (.block 3 (.loop (.seq
 (.seq (.reg 21 false [ { d := some 69, op := .mov (.t 7) }, { d := some 70, op := .faddr 0 (.t 1) }, { d := some 71, op := .load false 1 (.t 70) }, { d := some 72, op := .len (.t 71) }, { d := some 73, op := .bin .lss (.t 69) (.t 72) }]) (.cond (.t 73) (.skip) (.exit 3))) (.seq (.block 4
 (.seq (.reg 23 false [ { d := some 8, op := .mov (.c (.int .i64 0)) }]) (.block 5 (.loop (.seq
 (.seq (.reg 24 false [ { d := some 76, op := .mov (.t 8) }, { d := some 77, op := .faddr 0 (.t 1) }, { d := some 78, op := .load false 1 (.t 77) }, { d := some 79, op := .mov (.t 7) }, { d := some 80, op := .iaddr 5 (.t 78) (.t 79) }, { d := some 81, op := .faddr 3 (.t 80) }, { d := some 82, op := .load false 1 (.t 81) }, { d := some 83, op := .len (.t 82) }, { d := some 84, op := .bin .lss (.t 76) (.t 83) }]) (.cond (.t 84) (.skip) (.exit 5))) (.seq (.block 6
 (.seq (.reg 26 false [ { d := some 87, op := .mov (.t 6) }, { d := some 88, op := .faddr 0 (.t 1) }, { d := some 89, op := .load false 1 (.t 88) }, { d := some 90, op := .mov (.t 7) }, { d := some 91, op := .iaddr 5 (.t 89) (.t 90) }, { d := some 92, op := .faddr 3 (.t 91) }, { d := some 93, op := .load false 1 (.t 92) }, { d := some 94, op := .mov (.t 8) }, { d := some 95, op := .iaddr 2 (.t 93) (.t 94) }, { d := some 96, op := .faddr 0 (.t 95) }, { d := some 97, op := .load false 1 (.t 96) }, { d := some 98, op := .call 56 [.t 87, .t 97] }, { d := some 99, op := .bin .lss (.t 98) (.c (.int .i64 0)) }]) (.cond (.t 99)
 (.seq (.reg 27 false [ { d := some 2, op := .mov (.c (.bool false)) }]) (.ret)) (.skip)))) (.reg 25 false [ { d := some 85, op := .mov (.t 8) }, { d := some 86, op := .bin .add (.t 85) (.c (.int .i64 1)) }, { d := some 8, op := .mov (.t 86) }]))))))) (.reg 22 false [ { d := some 74, op := .mov (.t 7) }, { d := some 75, op := .bin .add (.t 74) (.c (.int .i64 1)) }, { d := some 7, op := .mov (.t 75) }]))))))
 (.seq (.reg 28 false [ { d := some 100, op := .mov (.t 6) }, { d := some 101, op := .len (.t 100) }, { d := some 102, op := .bin .leq (.t 101) (.c (.int .i64 20)) }, { d := some 2, op := .mov (.t 102) }]) (.ret))))))
def rr_ref02_listed : List RRes := [.t 2]
theorem pc_ref02_listed {G : Nat → Option (List AV)} {args : List AV} {v : AV} (hn : args.length ≤ Tryd.f70.ntmps) (h : ∀ R : Run, R.G = G → R.Top → AR Tryd.prog R rc_ref02_listed (initSt args) (Fin rr_ref02_listed v)) : PC Tryd.prog G 70 args v :=
  PC_of Tryd.func70 rfl (by kernel_rfl) (rc := rc_ref02_listed) (by kernel_rfl) (rs := rr_ref02_listed) (by kernel_rfl) hn (fun R _ hG hr => h R hG hr)

def rc_ref02_depths : RCode :=
  .seq (.reg 0 false [ { d := some 1, op := .box (.t 0) }, { d := some 2, op := .mov (.c (.nils)) }])
 (.seq (.reg 1 false [ { d := some 11, op := .load true 1 (.t 1) }, { d := some 12, op := .call 55 [.t 11] }, { d := some 3, op := .mov (.t 12) }])
 (.seq (.reg 2 false [ { d := some 13, op := .mov (.t 3) }, { d := some 14, op := .len (.t 13) }, { d := some 15, op := .mksl 1 8 [.int .i64 0] (.t 14) }, { d := some 4, op := .mov (.t 15) }]) (.seq
 (.seq (.reg 3 false [ { d := some 5, op := .mov (.c (.int .i64 0)) }]) (.block 0 (.loop (.seq
 (.seq (.reg 4 false [ { d := some 16, op := .mov (.t 5) }, { d := some 17, op := .mov (.t 3) }, { d := some 18, op := .len (.t 17) }, { d := some 19, op := .bin .leq (.t 16) (.t 18) }]) (.cond (.t 19) (.skip) (.exit 0))) (.seq (.block 1
 (.seq (.reg 6 false [ { d := some 22, op := .mov (.t 3) }, { d := some 23, op := .len (.t 22) }, { d := some 24, op := .mksl 1 8 [.int .i64 0] (.t 23) }, { d := some 6, op := .mov (.t 24) }]) (.seq
 (.seq (.reg 7 false [ { d := some 7, op := .mov (.c (.int .i64 0)) }]) (.block 2 (.loop (.seq
 (.seq (.reg 8 false [ { d := some 25, op := .mov (.t 7) }, { d := some 26, op := .faddr 0 (.t 1) }, { d := some 27, op := .load false 1 (.t 26) }, { d := some 28, op := .len (.t 27) }, { d := some 29, op := .bin .lss (.t 25) (.t 28) }]) (.cond (.t 29) (.skip) (.exit 2))) (.seq (.block 3
 (.seq (.reg 10 false [ { d := some 32, op := .faddr 0 (.t 1) }, { d := some 33, op := .load false 1 (.t 32) }, { d := some 34, op := .mov (.t 7) }, { d := some 35, op := .iaddr 5 (.t 33) (.t 34) }, { d := some 36, op := .load true 5 (.t 35) }, { d := some 8, op := .alloc [.int .i64 0, .int .i64 0, .int .u8 0, .nils, .nils] }, { d := none, op := .store 5 (.t 8) (.t 36) }])
 (.seq (.reg 11 false [ { d := some 37, op := .mov (.t 3) }, { d := some 38, op := .faddr 0 (.t 8) }, { d := some 39, op := .load false 1 (.t 38) }, { d := some 40, op := .call 56 [.t 37, .t 39] }, { d := some 9, op := .mov (.t 40) }])
 (.seq (.reg 12 false [ { d := some 41, op := .mov (.t 6) }, { d := some 42, op := .mov (.t 9) }, { d := some 43, op := .mov (.t 6) }, { d := some 44, op := .mov (.t 9) }, { d := some 45, op := .iaddr 1 (.t 43) (.t 44) }, { d := some 46, op := .load false 1 (.t 45) }, { d := some 47, op := .mx true (.t 46) [.c (.int .i64 1)] }, { d := some 48, op := .iaddr 1 (.t 41) (.t 42) }, { d := none, op := .store 1 (.t 48) (.t 47) }])
 (.seq (.reg 13 false [ { d := some 10, op := .mov (.c (.int .i64 0)) }]) (.block 4 (.loop (.seq
 (.seq (.reg 14 false [ { d := some 49, op := .mov (.t 10) }, { d := some 50, op := .faddr 3 (.t 8) }, { d := some 51, op := .load false 1 (.t 50) }, { d := some 52, op := .len (.t 51) }, { d := some 53, op := .bin .lss (.t 49) (.t 52) }]) (.cond (.t 53) (.skip) (.exit 4))) (.seq (.block 5 (.reg 16 true [ { d := some 56, op := .mov (.t 6), aft := [] }, { d := some 57, op := .mov (.t 9), aft := [] }, { d := some 58, op := .mov (.t 6), aft := [] }, { d := some 59, op := .mov (.t 9), aft := [] }, { d := some 60, op := .iaddr 1 (.t 58) (.t 59), aft := [2, 3] }, { d := some 61, op := .load false 1 (.t 60), aft := [4] }, { d := some 62, op := .mov (.t 4), aft := [] }, { d := some 63, op := .mov (.t 3), aft := [] }, { d := some 64, op := .faddr 3 (.t 8), aft := [] }, { d := some 65, op := .load false 1 (.t 64), aft := [8] }, { d := some 66, op := .mov (.t 10), aft := [] }, { d := some 67, op := .iaddr 2 (.t 65) (.t 66), aft := [9, 10] }, { d := some 68, op := .faddr 0 (.t 67), aft := [11] }, { d := some 69, op := .load false 1 (.t 68), aft := [12] }, { d := some 70, op := .call 56 [.t 63, .t 69], aft := [7, 13] }, { d := some 71, op := .iaddr 1 (.t 62) (.t 70), aft := [6, 14] }, { d := some 72, op := .load false 1 (.t 71), aft := [15] }, { d := some 73, op := .bin .add (.c (.int .i64 1)) (.t 72), aft := [16] }, { d := some 74, op := .mx true (.t 61) [.t 73], aft := [5, 17] }, { d := some 75, op := .iaddr 1 (.t 56) (.t 57), aft := [0, 1, 0, 1, 2, 3, 4, 5, 6, 7, 8, 9, 10, 11, 12, 13, 14, 15, 16, 17, 18] }, { d := none, op := .store 1 (.t 75) (.t 74), aft := [19, 18, 14, 0, 1, 2, 3, 4, 5, 6, 7, 8, 9, 10, 11, 12, 13, 14, 15, 16, 17, 18] }])) (.reg 15 false [ { d := some 54, op := .mov (.t 10) }, { d := some 55, op := .bin .add (.t 54) (.c (.int .i64 1)) }, { d := some 10, op := .mov (.t 55) }])))))))))) (.reg 9 false [ { d := some 30, op := .mov (.t 7) }, { d := some 31, op := .bin .add (.t 30) (.c (.int .i64 1)) }, { d := some 7, op := .mov (.t 31) }])))))) (.reg 17 false [ { d := some 76, op := .mov (.t 6) }, { d := some 4, op := .mov (.t 76) }])))) (.reg 5 false [ { d := some 20, op := .mov (.t 5) }, { d := some 21, op := .bin .add (.t 20) (.c (.int .i64 1)) }, { d := some 5, op := .mov (.t 21) }]))))))
 (.seq (.reg 18 false [ { d := some 77, op := .mov (.t 4) }, { d := some 2, op := .mov (.t 77) }]) (.ret)))))
def rr_ref02_depths : List RRes := [.t 2]
theorem pc_ref02_depths {G : Nat → Option (List AV)} {args : List AV} {v : AV} (hn : args.length ≤ Tryd.f71.ntmps) (h : ∀ R : Run, R.G = G → R.Top → AR Tryd.prog R rc_ref02_depths (initSt args) (Fin rr_ref02_depths v)) : PC Tryd.prog G 71 args v :=
  PC_of Tryd.func71 rfl (by kernel_rfl) (rc := rc_ref02_depths) (by kernel_rfl) (rs := rr_ref02_depths) (by kernel_rfl) hn (fun R _ hG hr => h R hG hr)

def rc_ref02_Check : RCode :=
  .seq (.reg 0 false [ { d := some 1, op := .box (.t 0) }, { d := some 2, op := .mov (.c (.int .i64 0)) }]) (.seq
 (.seq (.reg 1 false [ { d := some 6, op := .load true 1 (.t 1) }, { d := some 7, op := .call 70 [.t 6] }, { d := some 8, op := .un .not (.t 7) }]) (.cond (.t 8)
 (.seq (.reg 2 false [ { d := some 2, op := .mov (.c (.int .i64 20)) }]) (.ret)) (.skip)))
 (.seq (.reg 3 false [ { d := some 9, op := .load true 1 (.t 1) }, { d := some 10, op := .call 71 [.t 9] }, { d := some 3, op := .mov (.t 10) }])
 (.seq (.reg 4 false [ { d := some 4, op := .mov (.c (.int .i64 0)) }]) (.seq
 (.seq (.reg 5 false [ { d := some 5, op := .mov (.c (.int .i64 0)) }]) (.block 0 (.loop (.seq
 (.seq (.reg 6 false [ { d := some 11, op := .mov (.t 5) }, { d := some 12, op := .mov (.t 3) }, { d := some 13, op := .len (.t 12) }, { d := some 14, op := .bin .lss (.t 11) (.t 13) }]) (.cond (.t 14) (.skip) (.exit 0))) (.seq (.block 1 (.reg 8 false [ { d := some 17, op := .mov (.t 4) }, { d := some 18, op := .mov (.t 3) }, { d := some 19, op := .mov (.t 5) }, { d := some 20, op := .iaddr 1 (.t 18) (.t 19) }, { d := some 21, op := .load false 1 (.t 20) }, { d := some 22, op := .mx true (.t 17) [.t 21] }, { d := some 4, op := .mov (.t 22) }])) (.reg 7 false [ { d := some 15, op := .mov (.t 5) }, { d := some 16, op := .bin .add (.t 15) (.c (.int .i64 1)) }, { d := some 5, op := .mov (.t 16) }])))))) (.seq (.block 2
 (.seq (.reg 9 false [ { d := some 24, op := .mov (.t 4) }, { d := some 25, op := .mov (.t 3) }, { d := some 26, op := .len (.t 25) }, { d := some 27, op := .bin .gtr (.t 24) (.t 26) }, { d := some 23, op := .mov (.t 27) }]) (.cond (.t 23)
 (.seq (.reg 10 false [ { d := some 2, op := .mov (.c (.int .i64 21)) }]) (.ret))
 (.seq (.reg 11 false [ { d := some 29, op := .mov (.t 4) }, { d := some 30, op := .bin .gtr (.t 29) (.c (.int .i64 6)) }, { d := some 28, op := .mov (.t 30) }]) (.cond (.t 28)
 (.seq (.reg 12 false [ { d := some 2, op := .mov (.c (.int .i64 20)) }]) (.ret)) (.skip))))))
 (.seq (.reg 13 false [ { d := some 2, op := .mov (.c (.int .i64 0)) }]) (.ret)))))))
def rr_ref02_Check : List RRes := [.t 2]
theorem pc_ref02_Check {G : Nat → Option (List AV)} {args : List AV} {v : AV} (hn : args.length ≤ Tryd.f25.ntmps) (h : ∀ R : Run, R.G = G → R.Top → AR Tryd.prog R rc_ref02_Check (initSt args) (Fin rr_ref02_Check v)) : PC Tryd.prog G 25 args v :=
  PC_of Tryd.func25 rfl (by kernel_rfl) (rc := rc_ref02_Check) (by kernel_rfl) (rs := rr_ref02_Check) (by kernel_rfl) hn (fun R _ hG hr => h R hG hr)

def rc_ref02_Drawings : RCode :=
  .seq (.reg 0 false [ { d := some 1, op := .box (.t 0) }, { d := some 2, op := .mov (.c (.nils)) }, { d := some 3, op := .mov (.c (.int .i64 0)) }]) (.seq
 (.seq (.reg 1 false [ { d := some 5, op := .load true 1 (.t 1) }, { d := some 6, op := .call 25 [.t 5] }, { d := some 4, op := .mov (.t 6) }])
 (.seq (.reg 2 false [ { d := some 7, op := .mov (.t 4) }, { d := some 8, op := .bin .neq (.t 7) (.c (.int .i64 0)) }]) (.cond (.t 8)
 (.seq (.reg 3 false [ { d := some 9, op := .mov (.t 4) }, { d := some 2, op := .mov (.c (.nils)) }, { d := some 3, op := .mov (.t 9) }]) (.ret)) (.skip))))
 (.seq (.reg 4 false [ { d := some 10, op := .load true 1 (.t 1) }, { d := some 11, op := .call 55 [.t 10] }, { d := some 2, op := .mov (.t 11) }, { d := some 3, op := .mov (.c (.int .i64 0)) }]) (.ret)))
def rr_ref02_Drawings : List RRes := [.t 2, .t 3]
theorem pc_ref02_Drawings {G : Nat → Option (List AV)} {args : List AV} {v : AV} (hn : args.length ≤ Tryd.f21.ntmps) (h : ∀ R : Run, R.G = G → R.Top → AR Tryd.prog R rc_ref02_Drawings (initSt args) (Fin rr_ref02_Drawings v)) : PC Tryd.prog G 21 args v :=
  PC_of Tryd.func21 rfl (by kernel_rfl) (rc := rc_ref02_Drawings) (by kernel_rfl) (rs := rr_ref02_Drawings) (by kernel_rfl) hn (fun R _ hG hr => h R hG hr)

def rc_ref02_LastOf : RCode :=
  .seq (.reg 0 false [ { d := some 2, op := .box (.t 0) }, { d := some 4, op := .mov (.c (.int .i64 0)) }])
 (.seq (.reg 1 false [ { d := some 5, op := .mov (.c (.int .i64 0)) }]) (.seq
 (.seq (.reg 2 false [ { d := some 6, op := .mov (.c (.int .i64 0)) }]) (.block 0 (.loop (.seq
 (.seq (.reg 3 false [ { d := some 7, op := .mov (.t 6) }, { d := some 8, op := .faddr 0 (.t 2) }, { d := some 9, op := .load false 1 (.t 8) }, { d := some 10, op := .len (.t 9) }, { d := some 11, op := .bin .lss (.t 7) (.t 10) }]) (.cond (.t 11) (.skip) (.exit 0))) (.seq (.block 1
 (.seq (.reg 5 false [ { d := some 14, op := .faddr 0 (.t 2) }, { d := some 15, op := .load false 1 (.t 14) }, { d := some 16, op := .mov (.t 6) }, { d := some 17, op := .iaddr 5 (.t 15) (.t 16) }, { d := some 18, op := .faddr 0 (.t 17) }, { d := some 19, op := .load false 1 (.t 18) }, { d := some 20, op := .mov (.t 1) }, { d := some 21, op := .bin .eql (.t 19) (.t 20) }]) (.cond (.t 21) (.reg 6 false [ { d := some 22, op := .mov (.t 5) }, { d := some 23, op := .faddr 0 (.t 2) }, { d := some 24, op := .load false 1 (.t 23) }, { d := some 25, op := .mov (.t 6) }, { d := some 26, op := .iaddr 5 (.t 24) (.t 25) }, { d := some 27, op := .faddr 1 (.t 26) }, { d := some 28, op := .load false 1 (.t 27) }, { d := some 29, op := .mx true (.t 22) [.t 28] }, { d := some 5, op := .mov (.t 29) }]) (.skip)))) (.reg 4 false [ { d := some 12, op := .mov (.t 6) }, { d := some 13, op := .bin .add (.t 12) (.c (.int .i64 1)) }, { d := some 6, op := .mov (.t 13) }]))))))
 (.seq (.reg 7 false [ { d := some 30, op := .mov (.t 5) }, { d := some 4, op := .mov (.t 30) }]) (.ret))))
def rr_ref02_LastOf : List RRes := [.t 4]
theorem pc_ref02_LastOf {G : Nat → Option (List AV)} {args : List AV} {v : AV} (hn : args.length ≤ Tryd.f59.ntmps) (h : ∀ R : Run, R.G = G → R.Top → AR Tryd.prog R rc_ref02_LastOf (initSt args) (Fin rr_ref02_LastOf v)) : PC Tryd.prog G 59 args v :=
  PC_of Tryd.func59 rfl (by kernel_rfl) (rc := rc_ref02_LastOf) (by kernel_rfl) (rs := rr_ref02_LastOf) (by kernel_rfl) hn (fun R _ hG hr => h R hG hr)

def rc_ref02_Last : RCode :=
  .seq (.reg 0 false [ { d := some 2, op := .box (.t 0) }, { d := some 4, op := .mov (.c (.int .i64 0)) }, { d := some 5, op := .mov (.c (.int .i64 0)) }]) (.seq
 (.seq (.reg 1 false [ { d := some 8, op := .load true 1 (.t 2) }, { d := some 9, op := .call 25 [.t 8] }, { d := some 6, op := .mov (.t 9) }])
 (.seq (.reg 2 false [ { d := some 10, op := .mov (.t 6) }, { d := some 11, op := .bin .neq (.t 10) (.c (.int .i64 0)) }]) (.cond (.t 11)
 (.seq (.reg 3 false [ { d := some 12, op := .mov (.t 6) }, { d := some 4, op := .mov (.c (.int .i64 0)) }, { d := some 5, op := .mov (.t 12) }]) (.ret)) (.skip))))
 (.seq (.reg 4 false [ { d := some 13, op := .load true 1 (.t 2) }, { d := some 14, op := .mov (.t 1) }, { d := some 15, op := .call 59 [.t 13, .t 14] }, { d := some 7, op := .mov (.t 15) }]) (.seq
 (.seq (.reg 5 false [ { d := some 16, op := .mov (.t 7) }, { d := some 17, op := .bin .eql (.t 16) (.c (.int .i64 0)) }]) (.cond (.t 17)
 (.seq (.reg 6 false [ { d := some 4, op := .mov (.c (.int .i64 0)) }, { d := some 5, op := .mov (.c (.int .i64 6)) }]) (.ret)) (.skip)))
 (.seq (.reg 7 false [ { d := some 18, op := .mov (.t 7) }, { d := some 4, op := .mov (.t 18) }, { d := some 5, op := .mov (.c (.int .i64 0)) }]) (.ret)))))
def rr_ref02_Last : List RRes := [.t 4, .t 5]
theorem pc_ref02_Last {G : Nat → Option (List AV)} {args : List AV} {v : AV} (hn : args.length ≤ Tryd.f23.ntmps) (h : ∀ R : Run, R.G = G → R.Top → AR Tryd.prog R rc_ref02_Last (initSt args) (Fin rr_ref02_Last v)) : PC Tryd.prog G 23 args v :=
  PC_of Tryd.func23 rfl (by kernel_rfl) (rc := rc_ref02_Last) (by kernel_rfl) (rs := rr_ref02_Last) (by kernel_rfl) hn (fun R _ hG hr => h R hG hr)

def rc_ref02_Find : RCode :=
  .seq (.reg 0 false [ { d := some 2, op := .box (.t 0) }, { d := some 3, op := .box (.t 1) }, { d := some 4, op := .alloc [.int .i64 0, .int .i64 0, .int .u8 0, .nils, .nils] }, { d := some 5, op := .mov (.c (.bool false)) }]) (.seq
 (.seq (.reg 1 false [ { d := some 6, op := .mov (.c (.int .i64 0)) }]) (.block 0 (.loop (.seq
 (.seq (.reg 2 false [ { d := some 8, op := .mov (.t 6) }, { d := some 9, op := .faddr 0 (.t 2) }, { d := some 10, op := .load false 1 (.t 9) }, { d := some 11, op := .len (.t 10) }, { d := some 12, op := .bin .lss (.t 8) (.t 11) }]) (.cond (.t 12) (.skip) (.exit 0))) (.seq (.block 1
 (.seq (.reg 4 false [ { d := some 15, op := .faddr 0 (.t 2) }, { d := some 16, op := .load false 1 (.t 15) }, { d := some 17, op := .mov (.t 6) }, { d := some 18, op := .iaddr 5 (.t 16) (.t 17) }, { d := some 19, op := .load true 5 (.t 18) }, { d := some 7, op := .alloc [.int .i64 0, .int .i64 0, .int .u8 0, .nils, .nils] }, { d := none, op := .store 5 (.t 7) (.t 19) }])
 (.seq (.reg 5 false [ { d := some 20, op := .faddr 0 (.t 7) }, { d := some 21, op := .load false 1 (.t 20) }, { d := some 22, op := .faddr 0 (.t 3) }, { d := some 23, op := .load false 1 (.t 22) }, { d := some 24, op := .bin .eql (.t 21) (.t 23) }, { d := some 25, op := .mov (.t 24) }, { d := some 26, op := .faddr 1 (.t 7), guard := some (25, true) }, { d := some 27, op := .load false 1 (.t 26), guard := some (25, true) }, { d := some 28, op := .faddr 1 (.t 3), guard := some (25, true) }, { d := some 29, op := .load false 1 (.t 28), guard := some (25, true) }, { d := some 30, op := .bin .eql (.t 27) (.t 29), guard := some (25, true) }, { d := some 31, op := .pick (.t 25) (.t 30) (.c (.bool false)) }]) (.cond (.t 31)
 (.seq (.reg 6 false [ { d := some 32, op := .load true 5 (.t 7) }, { d := none, op := .store 5 (.t 4) (.t 32) }, { d := some 5, op := .mov (.c (.bool true)) }]) (.ret)) (.skip))))) (.reg 3 false [ { d := some 13, op := .mov (.t 6) }, { d := some 14, op := .bin .add (.t 13) (.c (.int .i64 1)) }, { d := some 6, op := .mov (.t 14) }]))))))
 (.seq (.reg 7 false [ { d := some 33, op := .build [.int .i64 0, .int .i64 0, .int .u8 0, .nils, .nils] [] }, { d := none, op := .store 5 (.t 4) (.t 33) }, { d := some 5, op := .mov (.c (.bool false)) }]) (.ret)))
def rr_ref02_Find : List RRes := [.c 4 true 5, .t 5]
theorem pc_ref02_Find {G : Nat → Option (List AV)} {args : List AV} {v : AV} (hn : args.length ≤ Tryd.f74.ntmps) (h : ∀ R : Run, R.G = G → R.Top → AR Tryd.prog R rc_ref02_Find (initSt args) (Fin rr_ref02_Find v)) : PC Tryd.prog G 74 args v :=
  PC_of Tryd.func74 rfl (by kernel_rfl) (rc := rc_ref02_Find) (by kernel_rfl) (rs := rr_ref02_Find) (by kernel_rfl) hn (fun R _ hG hr => h R hG hr)

def rc_ref02_At : RCode :=
  .seq (.reg 0 false [ { d := some 2, op := .box (.t 0) }, { d := some 3, op := .box (.t 1) }, { d := some 4, op := .alloc [.int .i64 0, .int .i64 0, .int .u8 0, .nils, .nils] }, { d := some 5, op := .mov (.c (.int .i64 0)) }]) (.seq
 (.seq (.reg 1 false [ { d := some 9, op := .load true 1 (.t 2) }, { d := some 10, op := .call 25 [.t 9] }, { d := some 6, op := .mov (.t 10) }])
 (.seq (.reg 2 false [ { d := some 11, op := .mov (.t 6) }, { d := some 12, op := .bin .neq (.t 11) (.c (.int .i64 0)) }]) (.cond (.t 12)
 (.seq (.reg 3 false [ { d := some 13, op := .build [.int .i64 0, .int .i64 0, .int .u8 0, .nils, .nils] [] }, { d := some 14, op := .mov (.t 6) }, { d := none, op := .store 5 (.t 4) (.t 13) }, { d := some 5, op := .mov (.t 14) }]) (.ret)) (.skip))))
 (.seq (.reg 4 false [ { d := some 16, op := .load true 1 (.t 2) }, { d := some 17, op := .load true 2 (.t 3) }, { d := some 18, op := .call 74 [.t 16, .t 17] }, { d := some 15, op := .mov (.t 18) }, { d := some 19, op := .ext 0 (.t 15) }, { d := some 20, op := .ext 1 (.t 15) }, { d := some 7, op := .alloc [.int .i64 0, .int .i64 0, .int .u8 0, .nils, .nils] }, { d := none, op := .store 5 (.t 7) (.t 19) }, { d := some 8, op := .mov (.t 20) }]) (.seq
 (.seq (.reg 5 false [ { d := some 21, op := .mov (.t 8) }, { d := some 22, op := .un .not (.t 21) }]) (.cond (.t 22)
 (.seq (.reg 6 false [ { d := some 23, op := .build [.int .i64 0, .int .i64 0, .int .u8 0, .nils, .nils] [] }, { d := none, op := .store 5 (.t 4) (.t 23) }, { d := some 5, op := .mov (.c (.int .i64 6)) }]) (.ret)) (.skip)))
 (.seq (.reg 7 false [ { d := some 24, op := .load true 5 (.t 7) }, { d := some 25, op := .call 66 [.t 24] }, { d := none, op := .store 5 (.t 4) (.t 25) }, { d := some 5, op := .mov (.c (.int .i64 0)) }]) (.ret)))))
def rr_ref02_At : List RRes := [.c 4 true 5, .t 5]
theorem pc_ref02_At {G : Nat → Option (List AV)} {args : List AV} {v : AV} (hn : args.length ≤ Tryd.f28.ntmps) (h : ∀ R : Run, R.G = G → R.Top → AR Tryd.prog R rc_ref02_At (initSt args) (Fin rr_ref02_At v)) : PC Tryd.prog G 28 args v :=
  PC_of Tryd.func28 rfl (by kernel_rfl) (rc := rc_ref02_At) (by kernel_rfl) (rs := rr_ref02_At) (by kernel_rfl) hn (fun R _ hG hr => h R hG hr)

def rc_ref02_Depth : RCode :=
  .seq (.reg 0 false [ { d := some 2, op := .box (.t 0) }, { d := some 4, op := .mov (.c (.int .i64 0)) }, { d := some 5, op := .mov (.c (.int .i64 0)) }]) (.seq
 (.seq (.reg 1 false [ { d := some 8, op := .load true 1 (.t 2) }, { d := some 9, op := .call 25 [.t 8] }, { d := some 6, op := .mov (.t 9) }])
 (.seq (.reg 2 false [ { d := some 10, op := .mov (.t 6) }, { d := some 11, op := .bin .neq (.t 10) (.c (.int .i64 0)) }]) (.cond (.t 11)
 (.seq (.reg 3 false [ { d := some 12, op := .mov (.t 6) }, { d := some 4, op := .mov (.c (.int .i64 0)) }, { d := some 5, op := .mov (.t 12) }]) (.ret)) (.skip))))
 (.seq (.reg 4 false [ { d := some 13, op := .load true 1 (.t 2) }, { d := some 14, op := .call 55 [.t 13] }, { d := some 15, op := .mov (.t 1) }, { d := some 16, op := .call 56 [.t 14, .t 15] }, { d := some 7, op := .mov (.t 16) }]) (.seq
 (.seq (.reg 5 false [ { d := some 17, op := .mov (.t 7) }, { d := some 18, op := .bin .lss (.t 17) (.c (.int .i64 0)) }]) (.cond (.t 18)
 (.seq (.reg 6 false [ { d := some 4, op := .mov (.c (.int .i64 0)) }, { d := some 5, op := .mov (.c (.int .i64 6)) }]) (.ret)) (.skip)))
 (.seq (.reg 7 false [ { d := some 19, op := .load true 1 (.t 2) }, { d := some 20, op := .call 71 [.t 19] }, { d := some 21, op := .mov (.t 7) }, { d := some 22, op := .iaddr 1 (.t 20) (.t 21) }, { d := some 23, op := .load false 1 (.t 22) }, { d := some 4, op := .mov (.t 23) }, { d := some 5, op := .mov (.c (.int .i64 0)) }]) (.ret)))))
def rr_ref02_Depth : List RRes := [.t 4, .t 5]
theorem pc_ref02_Depth {G : Nat → Option (List AV)} {args : List AV} {v : AV} (hn : args.length ≤ Tryd.f30.ntmps) (h : ∀ R : Run, R.G = G → R.Top → AR Tryd.prog R rc_ref02_Depth (initSt args) (Fin rr_ref02_Depth v)) : PC Tryd.prog G 30 args v :=
  PC_of Tryd.func30 rfl (by kernel_rfl) (rc := rc_ref02_Depth) (by kernel_rfl) (rs := rr_ref02_Depth) (by kernel_rfl) hn (fun R _ hG hr => h R hG hr)

def rc_ref02_SameInts : RCode :=
  .seq (.reg 0 false [ { d := some 4, op := .mov (.c (.bool false)) }]) (.seq
 (.seq (.reg 1 false [ { d := some 6, op := .mov (.t 0) }, { d := some 7, op := .len (.t 6) }, { d := some 8, op := .mov (.t 1) }, { d := some 9, op := .len (.t 8) }, { d := some 10, op := .bin .neq (.t 7) (.t 9) }]) (.cond (.t 10)
 (.seq (.reg 2 false [ { d := some 4, op := .mov (.c (.bool false)) }]) (.ret)) (.skip))) (.seq
 (.seq (.reg 3 false [ { d := some 5, op := .mov (.c (.int .i64 0)) }]) (.block 0 (.loop (.seq
 (.seq (.reg 4 false [ { d := some 11, op := .mov (.t 5) }, { d := some 12, op := .mov (.t 0) }, { d := some 13, op := .len (.t 12) }, { d := some 14, op := .bin .lss (.t 11) (.t 13) }]) (.cond (.t 14) (.skip) (.exit 0))) (.seq (.block 1
 (.seq (.reg 6 true [ { d := some 17, op := .mov (.t 0), aft := [] }, { d := some 18, op := .mov (.t 5), aft := [] }, { d := some 19, op := .iaddr 1 (.t 17) (.t 18), aft := [0, 1] }, { d := some 20, op := .load false 1 (.t 19), aft := [2] }, { d := some 21, op := .mov (.t 1), aft := [] }, { d := some 22, op := .mov (.t 5), aft := [] }, { d := some 23, op := .iaddr 1 (.t 21) (.t 22), aft := [4, 5] }, { d := some 24, op := .load false 1 (.t 23), aft := [6] }, { d := some 25, op := .bin .neq (.t 20) (.t 24), aft := [3, 7] }]) (.cond (.t 25)
 (.seq (.reg 7 false [ { d := some 4, op := .mov (.c (.bool false)) }]) (.ret)) (.skip)))) (.reg 5 false [ { d := some 15, op := .mov (.t 5) }, { d := some 16, op := .bin .add (.t 15) (.c (.int .i64 1)) }, { d := some 5, op := .mov (.t 16) }]))))))
 (.seq (.reg 8 false [ { d := some 4, op := .mov (.c (.bool true)) }]) (.ret))))
def rr_ref02_SameInts : List RRes := [.t 4]
theorem pc_ref02_SameInts {G : Nat → Option (List AV)} {args : List AV} {v : AV} (hn : args.length ≤ Tryd.f26.ntmps) (h : ∀ R : Run, R.G = G → R.Top → AR Tryd.prog R rc_ref02_SameInts (initSt args) (Fin rr_ref02_SameInts v)) : PC Tryd.prog G 26 args v :=
  PC_of Tryd.func26 rfl (by kernel_rfl) (rc := rc_ref02_SameInts) (by kernel_rfl) (rs := rr_ref02_SameInts) (by kernel_rfl) hn (fun R _ hG hr => h R hG hr)

def rc_ref02_SameItems : RCode :=
  .seq (.reg 0 false [ { d := some 4, op := .mov (.c (.bool false)) }]) (.seq
 (.seq (.reg 1 false [ { d := some 6, op := .mov (.t 0) }, { d := some 7, op := .len (.t 6) }, { d := some 8, op := .mov (.t 1) }, { d := some 9, op := .len (.t 8) }, { d := some 10, op := .bin .neq (.t 7) (.t 9) }]) (.cond (.t 10)
 (.seq (.reg 2 false [ { d := some 4, op := .mov (.c (.bool false)) }]) (.ret)) (.skip))) (.seq
 (.seq (.reg 3 false [ { d := some 5, op := .mov (.c (.int .i64 0)) }]) (.block 0 (.loop (.seq
 (.seq (.reg 4 false [ { d := some 11, op := .mov (.t 5) }, { d := some 12, op := .mov (.t 0) }, { d := some 13, op := .len (.t 12) }, { d := some 14, op := .bin .lss (.t 11) (.t 13) }]) (.cond (.t 14) (.skip) (.exit 0))) (.seq (.block 1
 (.seq (.reg 6 true [ { d := some 17, op := .mov (.t 0), aft := [] }, { d := some 18, op := .mov (.t 5), aft := [] }, { d := some 19, op := .iaddr 2 (.t 17) (.t 18), aft := [0, 1] }, { d := some 20, op := .load true 2 (.t 19), aft := [2] }, { d := some 21, op := .mov (.t 1), aft := [] }, { d := some 22, op := .mov (.t 5), aft := [] }, { d := some 23, op := .iaddr 2 (.t 21) (.t 22), aft := [4, 5] }, { d := some 24, op := .load true 2 (.t 23), aft := [6] }, { d := some 25, op := .eqs true [.i, .i] (.t 20) (.t 24), aft := [3, 7] }]) (.cond (.t 25)
 (.seq (.reg 7 false [ { d := some 4, op := .mov (.c (.bool false)) }]) (.ret)) (.skip)))) (.reg 5 false [ { d := some 15, op := .mov (.t 5) }, { d := some 16, op := .bin .add (.t 15) (.c (.int .i64 1)) }, { d := some 5, op := .mov (.t 16) }]))))))
 (.seq (.reg 8 false [ { d := some 4, op := .mov (.c (.bool true)) }]) (.ret))))
def rr_ref02_SameItems : List RRes := [.t 4]
theorem pc_ref02_SameItems {G : Nat → Option (List AV)} {args : List AV} {v : AV} (hn : args.length ≤ Tryd.f37.ntmps) (h : ∀ R : Run, R.G = G → R.Top → AR Tryd.prog R rc_ref02_SameItems (initSt args) (Fin rr_ref02_SameItems v)) : PC Tryd.prog G 37 args v :=
  PC_of Tryd.func37 rfl (by kernel_rfl) (rc := rc_ref02_SameItems) (by kernel_rfl) (rs := rr_ref02_SameItems) (by kernel_rfl) hn (fun R _ hG hr => h R hG hr)

def rc_ref02_SameIssue : RCode :=
  .seq (.reg 0 false [ { d := some 2, op := .box (.t 0) }, { d := some 3, op := .box (.t 1) }, { d := some 4, op := .mov (.c (.bool false)) }]) (.seq
 (.seq (.reg 1 false [ { d := some 6, op := .faddr 0 (.t 2) }, { d := some 7, op := .load false 1 (.t 6) }, { d := some 8, op := .faddr 0 (.t 3) }, { d := some 9, op := .load false 1 (.t 8) }, { d := some 10, op := .bin .neq (.t 7) (.t 9) }, { d := some 11, op := .mov (.t 10) }, { d := some 12, op := .faddr 1 (.t 2), guard := some (11, false) }, { d := some 13, op := .load false 1 (.t 12), guard := some (11, false) }, { d := some 14, op := .faddr 1 (.t 3), guard := some (11, false) }, { d := some 15, op := .load false 1 (.t 14), guard := some (11, false) }, { d := some 16, op := .bin .neq (.t 13) (.t 15), guard := some (11, false) }, { d := some 17, op := .pick (.t 11) (.c (.bool true)) (.t 16) }, { d := some 18, op := .mov (.t 17) }, { d := some 19, op := .faddr 2 (.t 2), guard := some (18, false) }, { d := some 20, op := .load false 1 (.t 19), guard := some (18, false) }, { d := some 21, op := .faddr 2 (.t 3), guard := some (18, false) }, { d := some 22, op := .load false 1 (.t 21), guard := some (18, false) }, { d := some 23, op := .bin .neq (.t 20) (.t 22), guard := some (18, false) }, { d := some 24, op := .pick (.t 18) (.c (.bool true)) (.t 23) }, { d := some 25, op := .mov (.t 24) }, { d := some 26, op := .faddr 3 (.t 2), guard := some (25, false) }, { d := some 27, op := .load false 1 (.t 26), guard := some (25, false) }, { d := some 28, op := .faddr 3 (.t 3), guard := some (25, false) }, { d := some 29, op := .load false 1 (.t 28), guard := some (25, false) }, { d := some 30, op := .call 37 [.t 27, .t 29], guard := some (25, false) }, { d := some 31, op := .un .not (.t 30), guard := some (25, false) }, { d := some 32, op := .pick (.t 25) (.c (.bool true)) (.t 31) }, { d := some 33, op := .mov (.t 32) }, { d := some 34, op := .faddr 4 (.t 2), guard := some (33, false) }, { d := some 35, op := .load false 1 (.t 34), guard := some (33, false) }, { d := some 36, op := .len (.t 35), guard := some (33, false) }, { d := some 37, op := .faddr 4 (.t 3), guard := some (33, false) }, { d := some 38, op := .load false 1 (.t 37), guard := some (33, false) }, { d := some 39, op := .len (.t 38), guard := some (33, false) }, { d := some 40, op := .bin .neq (.t 36) (.t 39), guard := some (33, false) }, { d := some 41, op := .pick (.t 33) (.c (.bool true)) (.t 40) }]) (.cond (.t 41)
 (.seq (.reg 2 false [ { d := some 4, op := .mov (.c (.bool false)) }]) (.ret)) (.skip))) (.seq
 (.seq (.reg 3 false [ { d := some 5, op := .mov (.c (.int .i64 0)) }]) (.block 0 (.loop (.seq
 (.seq (.reg 4 false [ { d := some 42, op := .mov (.t 5) }, { d := some 43, op := .faddr 4 (.t 2) }, { d := some 44, op := .load false 1 (.t 43) }, { d := some 45, op := .len (.t 44) }, { d := some 46, op := .bin .lss (.t 42) (.t 45) }]) (.cond (.t 46) (.skip) (.exit 0))) (.seq (.block 1
 (.seq (.reg 6 true [ { d := some 49, op := .faddr 4 (.t 2), aft := [] }, { d := some 50, op := .load false 1 (.t 49), aft := [0] }, { d := some 51, op := .mov (.t 5), aft := [] }, { d := some 52, op := .iaddr 3 (.t 50) (.t 51), aft := [1, 2] }, { d := some 53, op := .load true 3 (.t 52), aft := [3] }, { d := some 54, op := .faddr 4 (.t 3), aft := [] }, { d := some 55, op := .load false 1 (.t 54), aft := [5] }, { d := some 56, op := .mov (.t 5), aft := [] }, { d := some 57, op := .iaddr 3 (.t 55) (.t 56), aft := [6, 7] }, { d := some 58, op := .load true 3 (.t 57), aft := [8] }, { d := some 59, op := .eqs true [.i, .i, .i] (.t 53) (.t 58), aft := [4, 9] }]) (.cond (.t 59)
 (.seq (.reg 7 false [ { d := some 4, op := .mov (.c (.bool false)) }]) (.ret)) (.skip)))) (.reg 5 false [ { d := some 47, op := .mov (.t 5) }, { d := some 48, op := .bin .add (.t 47) (.c (.int .i64 1)) }, { d := some 5, op := .mov (.t 48) }]))))))
 (.seq (.reg 8 false [ { d := some 4, op := .mov (.c (.bool true)) }]) (.ret))))
def rr_ref02_SameIssue : List RRes := [.t 4]
theorem pc_ref02_SameIssue {G : Nat → Option (List AV)} {args : List AV} {v : AV} (hn : args.length ≤ Tryd.f31.ntmps) (h : ∀ R : Run, R.G = G → R.Top → AR Tryd.prog R rc_ref02_SameIssue (initSt args) (Fin rr_ref02_SameIssue v)) : PC Tryd.prog G 31 args v :=
  PC_of Tryd.func31 rfl (by kernel_rfl) (rc := rc_ref02_SameIssue) (by kernel_rfl) (rs := rr_ref02_SameIssue) (by kernel_rfl) hn (fun R _ hG hr => h R hG hr)

def rc_ref02_Same : RCode :=
  .seq (.reg 0 false [ { d := some 2, op := .box (.t 0) }, { d := some 3, op := .box (.t 1) }, { d := some 4, op := .mov (.c (.bool false)) }]) (.seq
 (.seq (.reg 1 false [ { d := some 6, op := .faddr 0 (.t 2) }, { d := some 7, op := .load false 1 (.t 6) }, { d := some 8, op := .len (.t 7) }, { d := some 9, op := .faddr 0 (.t 3) }, { d := some 10, op := .load false 1 (.t 9) }, { d := some 11, op := .len (.t 10) }, { d := some 12, op := .bin .neq (.t 8) (.t 11) }]) (.cond (.t 12)
 (.seq (.reg 2 false [ { d := some 4, op := .mov (.c (.bool false)) }]) (.ret)) (.skip))) (.seq
 (.seq (.reg 3 false [ { d := some 5, op := .mov (.c (.int .i64 0)) }]) (.block 0 (.loop (.seq
 (.seq (.reg 4 false [ { d := some 13, op := .mov (.t 5) }, { d := some 14, op := .faddr 0 (.t 2) }, { d := some 15, op := .load false 1 (.t 14) }, { d := some 16, op := .len (.t 15) }, { d := some 17, op := .bin .lss (.t 13) (.t 16) }]) (.cond (.t 17) (.skip) (.exit 0))) (.seq (.block 1
 (.seq (.reg 6 true [ { d := some 20, op := .faddr 0 (.t 2), aft := [] }, { d := some 21, op := .load false 1 (.t 20), aft := [0] }, { d := some 22, op := .mov (.t 5), aft := [] }, { d := some 23, op := .iaddr 5 (.t 21) (.t 22), aft := [1, 2] }, { d := some 24, op := .load true 5 (.t 23), aft := [3] }, { d := some 25, op := .faddr 0 (.t 3), aft := [] }, { d := some 26, op := .load false 1 (.t 25), aft := [5] }, { d := some 27, op := .mov (.t 5), aft := [] }, { d := some 28, op := .iaddr 5 (.t 26) (.t 27), aft := [6, 7] }, { d := some 29, op := .load true 5 (.t 28), aft := [8] }, { d := some 30, op := .call 31 [.t 24, .t 29], aft := [4, 9] }, { d := some 31, op := .un .not (.t 30), aft := [10] }]) (.cond (.t 31)
 (.seq (.reg 7 false [ { d := some 4, op := .mov (.c (.bool false)) }]) (.ret)) (.skip)))) (.reg 5 false [ { d := some 18, op := .mov (.t 5) }, { d := some 19, op := .bin .add (.t 18) (.c (.int .i64 1)) }, { d := some 5, op := .mov (.t 19) }]))))))
 (.seq (.reg 8 false [ { d := some 4, op := .mov (.c (.bool true)) }]) (.ret))))
def rr_ref02_Same : List RRes := [.t 4]
theorem pc_ref02_Same {G : Nat → Option (List AV)} {args : List AV} {v : AV} (hn : args.length ≤ Tryd.f32.ntmps) (h : ∀ R : Run, R.G = G → R.Top → AR Tryd.prog R rc_ref02_Same (initSt args) (Fin rr_ref02_Same v)) : PC Tryd.prog G 32 args v :=
  PC_of Tryd.func32 rfl (by kernel_rfl) (rc := rc_ref02_Same) (by kernel_rfl) (rs := rr_ref02_Same) (by kernel_rfl) hn (fun R _ hG hr => h R hG hr)

def rc_ref02_TwinIssue : RCode :=
  .seq (.reg 0 false [ { d := some 1, op := .box (.t 0) }, { d := some 2, op := .alloc [.int .i64 0, .int .i64 0, .int .u8 0, .nils, .nils] }])
 (.seq (.reg 1 true [ { d := some 3, op := .bsl true 2 0 [] [], aft := [] }, { d := some 4, op := .faddr 3 (.t 1), aft := [] }, { d := some 5, op := .load false 1 (.t 4), aft := [1] }, { d := some 6, op := .app 2 16 (.t 3) (.t 5), aft := [0, 2] }, { d := some 7, op := .bsl true 3 0 [] [], aft := [] }, { d := some 8, op := .faddr 4 (.t 1), aft := [] }, { d := some 9, op := .load false 1 (.t 8), aft := [5] }, { d := some 10, op := .app 3 24 (.t 7) (.t 9), aft := [4, 6, 3] }, { d := some 11, op := .faddr 3 (.t 1), aft := [0, 1, 2, 3, 5, 6] }, { d := none, op := .store 1 (.t 11) (.t 6), aft := [8, 3, 7, 0, 1, 2, 3, 5, 6] }, { d := some 12, op := .faddr 4 (.t 1), aft := [0, 1, 2, 3, 4, 5, 6, 7, 8, 9] }, { d := none, op := .store 1 (.t 12) (.t 10), aft := [10, 7, 9, 0, 1, 2, 3, 4, 5, 6, 7, 8, 9] }])
 (.seq (.reg 2 false [ { d := some 13, op := .load true 5 (.t 1) }, { d := none, op := .store 5 (.t 2) (.t 13) }]) (.ret)))
def rr_ref02_TwinIssue : List RRes := [.c 2 true 5]
theorem pc_ref02_TwinIssue {G : Nat → Option (List AV)} {args : List AV} {v : AV} (hn : args.length ≤ Tryd.f66.ntmps) (h : ∀ R : Run, R.G = G → R.Top → AR Tryd.prog R rc_ref02_TwinIssue (initSt args) (Fin rr_ref02_TwinIssue v)) : PC Tryd.prog G 66 args v :=
  PC_of Tryd.func66 rfl (by kernel_rfl) (rc := rc_ref02_TwinIssue) (by kernel_rfl) (rs := rr_ref02_TwinIssue) (by kernel_rfl) hn (fun R _ hG hr => h R hG hr)

def rc_ref02_Twin : RCode :=
  .seq (.reg 0 false [ { d := some 1, op := .box (.t 0) }, { d := some 2, op := .alloc [.nils] }])
 (.seq (.reg 1 false [ { d := some 3, op := .alloc [.nils] }]) (.seq
 (.seq (.reg 2 false [ { d := some 4, op := .mov (.c (.int .i64 0)) }]) (.block 0 (.loop (.seq
 (.seq (.reg 3 false [ { d := some 5, op := .mov (.t 4) }, { d := some 6, op := .faddr 0 (.t 1) }, { d := some 7, op := .load false 1 (.t 6) }, { d := some 8, op := .len (.t 7) }, { d := some 9, op := .bin .lss (.t 5) (.t 8) }]) (.cond (.t 9) (.skip) (.exit 0))) (.seq (.block 1 (.reg 5 true [ { d := some 12, op := .faddr 0 (.t 3), aft := [] }, { d := some 13, op := .load false 1 (.t 12), aft := [0] }, { d := some 14, op := .faddr 0 (.t 1), aft := [] }, { d := some 15, op := .load false 1 (.t 14), aft := [2] }, { d := some 16, op := .mov (.t 4), aft := [] }, { d := some 17, op := .iaddr 5 (.t 15) (.t 16), aft := [3, 4] }, { d := some 18, op := .load true 5 (.t 17), aft := [5] }, { d := some 19, op := .call 66 [.t 18], aft := [6] }, { d := some 20, op := .bsl false 5 1 [.int .i64 0, .int .i64 0, .int .u8 0, .nils, .nils] [(0, .t 19)], aft := [7] }, { d := some 21, op := .app 5 72 (.t 13) (.t 20), aft := [1, 8, 7] }, { d := some 22, op := .faddr 0 (.t 3), aft := [0, 1, 2, 3, 4, 5, 6, 7, 8, 9] }, { d := none, op := .store 1 (.t 22) (.t 21), aft := [10, 9, 9, 0, 1, 2, 3, 4, 5, 6, 7, 8, 9] }])) (.reg 4 false [ { d := some 10, op := .mov (.t 4) }, { d := some 11, op := .bin .add (.t 10) (.c (.int .i64 1)) }, { d := some 4, op := .mov (.t 11) }]))))))
 (.seq (.reg 6 false [ { d := some 23, op := .load true 1 (.t 3) }, { d := none, op := .store 1 (.t 2) (.t 23) }]) (.ret))))
def rr_ref02_Twin : List RRes := [.c 2 true 1]
theorem pc_ref02_Twin {G : Nat → Option (List AV)} {args : List AV} {v : AV} (hn : args.length ≤ Tryd.f19.ntmps) (h : ∀ R : Run, R.G = G → R.Top → AR Tryd.prog R rc_ref02_Twin (initSt args) (Fin rr_ref02_Twin v)) : PC Tryd.prog G 19 args v :=
  PC_of Tryd.func19 rfl (by kernel_rfl) (rc := rc_ref02_Twin) (by kernel_rfl) (rs := rr_ref02_Twin) (by kernel_rfl) hn (fun R _ hG hr => h R hG hr)

def rc_ref02_Great : RCode :=
  .seq (.reg 0 false [ { d := some 1, op := .box (.t 0) }, { d := some 2, op := .mov (.c (.bool false)) }]) (.seq
 (.seq (.reg 1 false [ { d := some 4, op := .faddr 0 (.t 1) }, { d := some 5, op := .load false 1 (.t 4) }, { d := some 6, op := .len (.t 5) }, { d := some 7, op := .bin .gtr (.t 6) (.c (.int .i64 80)) }]) (.cond (.t 7)
 (.seq (.reg 2 false [ { d := some 2, op := .mov (.c (.bool true)) }]) (.ret)) (.skip))) (.seq
 (.seq (.reg 3 false [ { d := some 3, op := .mov (.c (.int .i64 0)) }]) (.block 0 (.loop (.seq
 (.seq (.reg 4 false [ { d := some 8, op := .mov (.t 3) }, { d := some 9, op := .faddr 0 (.t 1) }, { d := some 10, op := .load false 1 (.t 9) }, { d := some 11, op := .len (.t 10) }, { d := some 12, op := .bin .lss (.t 8) (.t 11) }]) (.cond (.t 12) (.skip) (.exit 0))) (.seq (.block 1
 (.seq (.reg 6 false [ { d := some 15, op := .faddr 0 (.t 1) }, { d := some 16, op := .load false 1 (.t 15) }, { d := some 17, op := .mov (.t 3) }, { d := some 18, op := .iaddr 5 (.t 16) (.t 17) }, { d := some 19, op := .faddr 3 (.t 18) }, { d := some 20, op := .load false 1 (.t 19) }, { d := some 21, op := .len (.t 20) }, { d := some 22, op := .bin .gtr (.t 21) (.c (.int .i64 16)) }, { d := some 23, op := .mov (.t 22) }, { d := some 24, op := .faddr 0 (.t 1), guard := some (23, false) }, { d := some 25, op := .load false 1 (.t 24), guard := some (23, false) }, { d := some 26, op := .mov (.t 3), guard := some (23, false) }, { d := some 27, op := .iaddr 5 (.t 25) (.t 26), guard := some (23, false) }, { d := some 28, op := .faddr 4 (.t 27), guard := some (23, false) }, { d := some 29, op := .load false 1 (.t 28), guard := some (23, false) }, { d := some 30, op := .len (.t 29), guard := some (23, false) }, { d := some 31, op := .bin .gtr (.t 30) (.c (.int .i64 8)), guard := some (23, false) }, { d := some 32, op := .pick (.t 23) (.c (.bool true)) (.t 31) }]) (.cond (.t 32)
 (.seq (.reg 7 false [ { d := some 2, op := .mov (.c (.bool true)) }]) (.ret)) (.skip)))) (.reg 5 false [ { d := some 13, op := .mov (.t 3) }, { d := some 14, op := .bin .add (.t 13) (.c (.int .i64 1)) }, { d := some 3, op := .mov (.t 14) }]))))))
 (.seq (.reg 8 false [ { d := some 2, op := .mov (.c (.bool false)) }]) (.ret))))
def rr_ref02_Great : List RRes := [.t 2]
theorem pc_ref02_Great {G : Nat → Option (List AV)} {args : List AV} {v : AV} (hn : args.length ≤ Tryd.f18.ntmps) (h : ∀ R : Run, R.G = G → R.Top → AR Tryd.prog R rc_ref02_Great (initSt args) (Fin rr_ref02_Great v)) : PC Tryd.prog G 18 args v :=
  PC_of Tryd.func18 rfl (by kernel_rfl) (rc := rc_ref02_Great) (by kernel_rfl) (rs := rr_ref02_Great) (by kernel_rfl) hn (fun R _ hG hr => h R hG hr)

end Go.Proofs.YtdpmioiamcgfkaaDoor

/-! Registers as trees; what the reference's small functions compute, by the abstract machine. -/
namespace Go.Proofs.YtdpmioiamcgfkaaDoor
open Go.RowKit

theorem mixed : Tryd.prog.follows .mixedOrders = true := by kernel_rfl
def inR (n lo hi : Int) : Bool := decide (lo ≤ n ∧ n ≤ hi)
theorem wrapI {n : Int} (h0 : -9223372036854775808 ≤ n) (h1 : n ≤ 9223372036854775807) : IntKind.i64.wrap n = n := IntWalk.i64_in _ ⟨h0, h1⟩

/-- A loop that counts. -/
def RndF (S : Nat → St) (I : Nat → Prop) (i : Nat) (Φ : Exit → St → Prop) : Exit → St → Prop
  | .normal, st => Weak st (S (i + 1)) ∧ I (i + 1)
  | e, st => Φ e st
def RndE (Φ : Exit → St → Prop) : Exit → St → Prop
  | .normal, _ => False
  | e, st => Φ e st
section
variable {P : Program} {R : Run} {st : St} {Φ : Exit → St → Prop} {S : Nat → St} {I : Nat → Prop} {i : Nat}
theorem RndF_nor : RndF S I i Φ .normal st = (Weak st (S (i + 1)) ∧ I (i + 1)) := rfl
theorem RndF_ret : RndF S I i Φ .ret st = Φ .ret st := rfl
theorem RndF_exit {j : Nat} : RndF S I i Φ (.exit j) st = Φ (.exit j) st := rfl
theorem RndE_ret : RndE Φ .ret st = Φ .ret st := rfl
theorem RndE_exit {j : Nat} : RndE Φ (.exit j) st = Φ (.exit j) st := rfl
attribute [simp] RndF_nor RndF_ret RndF_exit RndE_ret RndE_exit
theorem AR_for {c : RCode} (S : Nat → St) (I : Nat → Prop) (N : Nat) (h0 : Weak st (S 0)) (hi : I 0) (hr : ∀ i, i < N → I i → AR P R c (S i) (RndF S I i Φ)) (he : I N → AR P R c (S N) (RndE Φ)) : AR P R (.loop c) st Φ := by
  refine AR_loop S (fun i => i ≤ N ∧ I i) (fun i => N - i) 0 h0 ⟨Nat.zero_le _, hi⟩ ?_
  rintro i ⟨h1, h2⟩
  by_cases h3 : i < N
  · refine AR_mono (hr i h3 h2) fun e s hs => ?_
    cases e with
    | normal => exact ⟨i + 1, hs.1, ⟨by omega, hs.2⟩, by show N - (i + 1) < N - i; omega⟩
    | _ => exact hs
  · obtain rfl : i = N := by omega
    refine AR_mono (he h2) fun e s hs => ?_
    cases e with
    | normal => exact hs.elim
    | _ => exact hs
end

/-- An issue: its drawing, its letter, its kind; items (a drawing, a count); sizes. -/
structure Iss where
  d : Int
  l : Int
  k : Int
  its : List (Int × Int)
  dms : List Dm
  deriving DecidableEq, Inhabited

def ia (n : Int) : List AV := [.int .i64 n]
def ita (p : Int × Int) : List AV := [.int .i64 p.1, .int .i64 p.2]
def dma (d : Dm) : List AV := [.int .i64 d.n, .int .i64 d.l, .int .i64 d.u]
def isa (x : Iss) : List AV := [.int .i64 x.d, .int .i64 x.l, .int .u8 x.k, .vsl (x.its.map ita), .vsl (x.dms.map dma)]
def rega (r : List Iss) : AV := .agg [.vsl (r.map isa)]
/-- Lists that a machine can hold. -/
def Sml {α : Type} (l : List α) : Prop := l.length ≤ 16777216

section
variable {G : Nat → Option (List AV)}

theorem within1_pc (n lo hi : Int) : PC Tryd.prog G 136 [.int .i64 n, .int .i64 lo, .int .i64 hi] (.bool (inR n lo hi)) := by
  (refine pc_ref01_within (Nat.le_of_ble_eq_true rfl) fun R hG hrd => GO_AR mixed 1000 ?_; subst hG)
  by_cases h1 : lo ≤ n <;> simp -implicitDefEqProofs [rc_ref01_within, rr_ref01_within, h1, inR]

theorem dim_pc (n l u : Int) : PC Tryd.prog G 126 [.agg [.int .i64 n, .int .i64 l, .int .i64 u]] (.bool (vd ⟨n, l, u⟩)) := by
  (refine pc_ref01_Dim (Nat.le_of_ble_eq_true rfl) fun R hG hrd => GO_AR mixed 1000 ?_; subst hG)
  have e : vd ⟨n, l, u⟩ = (inR n 0 1000000000 && (inR u 0 1000000000 && inR l 0 u)) := by
    unfold vd inR
    rw [← Bool.decide_and, ← Bool.decide_and]
    exact decide_eq_decide.2 (by simp only; omega)
  simp -implicitDefEqProofs [rc_ref01_Dim, rr_ref01_Dim, e]
  (first | refine CallK.of (within1_pc _ _ _) (by simp) ?_ | refine CallD.of (within1_pc _ _ _) (by simp) ?_)
  cases h1 : inR n 0 1000000000
  · simp -implicitDefEqProofs
  · simp -implicitDefEqProofs
    (first | refine CallK.of (within1_pc _ _ _) (by simp) ?_ | refine CallD.of (within1_pc _ _ _) (by simp) ?_)
    cases h2 : inR u 0 1000000000
    · simp -implicitDefEqProofs
    · simp -implicitDefEqProofs
      (first | refine CallK.of (within1_pc _ _ _) (by simp) ?_ | refine CallD.of (within1_pc _ _ _) (by simp) ?_)
      simp -implicitDefEqProofs

theorem within_pc (n lo hi : Int) : PC Tryd.prog G 106 [.int .i64 n, .int .i64 lo, .int .i64 hi] (.bool (inR n lo hi)) := by
  (refine pc_ref02_within (Nat.le_of_ble_eq_true rfl) fun R hG hrd => GO_AR mixed 1000 ?_; subst hG)
  by_cases h1 : lo ≤ n <;> simp -implicitDefEqProofs [rc_ref02_within, rr_ref02_within, h1, inR]

/-- The index of a number; -1 if it is not there. -/
def idx (l : List Int) (n : Int) : Int := if n ∈ l then (l.idxOf n : Int) else -1

theorem idx_at {l : List Int} {n : Int} {i : Nat} (hi : i < l.length) (he : l[i] = n) (hb : ∀ j (h : j < i), l[j] ≠ n) : idx l n = i := by
  have hm : n ∈ l := by rw [← he]; exact List.getElem_mem hi
  rw [idx, if_pos hm]
  have h1 : l.idxOf n < l.length := List.idxOf_lt_length_iff.2 hm
  have h2 : l[l.idxOf n] = n := List.getElem_idxOf h1
  have h3 : ¬ l.idxOf n < i := fun h => hb _ h h2
  have h4 : ¬ i < l.idxOf n := fun h => by
    have := List.not_of_lt_findIdx (p := (· == n)) h
    simp [he] at this
  congr 1; omega
theorem idx_no {l : List Int} {n : Int} (hb : ∀ j (h : j < l.length), l[j] ≠ n) : idx l n = -1 := by
  rw [idx, if_neg]
  intro hm
  obtain ⟨j, h1, h2⟩ := List.getElem_of_mem hm
  exact hb j h1 h2

theorem index_pc (l : List Int) (n : Int) (hl : Sml l) : PC Tryd.prog G 56 [.vsl (l.map ia), .int .i64 n] (.int .i64 (idx l n)) := by
  (refine pc_ref02_Index (Nat.le_of_ble_eq_true rfl) fun R hG hrd => GO_AR mixed 1000 ?_; subst hG)
  simp -implicitDefEqProofs [rc_ref02_Index, rr_ref02_Index]
  refine AR_for (fun i => ⟨[(5, .int .i64 i), (0, .vsl (l.map ia)), (1, .int .i64 n)], []⟩) (fun i => ∀ j (h : j < l.length), j < i → l[j] ≠ n) l.length (by (first | exact Weak.tm (by simp [lk]) | exact Weak.sub (by simp [lk, keptA, AV.keys]) (by simp [lk, keptO, keptA, AV.keys]))) (by simp) ?_ ?_
  · intro i hi he
    refine GO_AR mixed 1000 ?_
    unfold Sml at hl
    have w1 : IntKind.i64.wrap ((i : Int) + 1) = ((i + 1 : Nat) : Int) := wrapI (by omega) (by omega)
    by_cases h2 : l[i] = n
    · simp -implicitDefEqProofs [hi, ia, h2]
      refine GO_ret mixed 1000 ?_
      simp -implicitDefEqProofs [idx_at hi h2 (fun j h => he j (by omega) h)]
    · simp -implicitDefEqProofs [hi, ia, h2, w1]
      refine ⟨(by (first | exact Weak.tm (by simp [lk]) | exact Weak.sub (by simp [lk, keptA, AV.keys]) (by simp [lk, keptO, keptA, AV.keys]))), fun j h1 h3 => ?_⟩
      by_cases e : j = i
      · subst e; exact h2
      · exact he j h1 (by omega)
  · intro he
    refine GO_AR mixed 1000 ?_
    simp -implicitDefEqProofs []
    refine GO_ret mixed 1000 ?_
    simp -implicitDefEqProofs [idx_no (fun j h => he j h h)]

theorem sameInts_pc (a b : List Int) (ha : Sml a) : PC Tryd.prog G 26 [.vsl (a.map ia), .vsl (b.map ia)] (.bool (decide (a = b))) := by
  (refine pc_ref02_SameInts (Nat.le_of_ble_eq_true rfl) fun R hG hrd => GO_AR mixed 1000 ?_; subst hG)
  by_cases hl : a.length = b.length
  · have hl' : (a.length : Int) = b.length := by omega
    simp -implicitDefEqProofs [rc_ref02_SameInts, rr_ref02_SameInts, hl']
    refine AR_for (fun i => ⟨[(5, .int .i64 i), (0, .vsl (a.map ia)), (1, .vsl (b.map ia))], []⟩) (fun i => ∀ j (h : j < a.length), j < i → a[j] = b[j]) a.length (by (first | exact Weak.tm (by simp [lk]) | exact Weak.sub (by simp [lk, keptA, AV.keys]) (by simp [lk, keptO, keptA, AV.keys]))) (by simp) ?_ ?_
    · intro i hi he
      refine GO_AR mixed 1000 ?_
      unfold Sml at ha
      have hi2 : i < b.length := by omega
      have w1 : IntKind.i64.wrap ((i : Int) + 1) = ((i + 1 : Nat) : Int) := wrapI (by omega) (by omega)
      by_cases h2 : a[i] = b[i]
      · simp -implicitDefEqProofs [hi, hi2, ia, h2, w1]
        refine ⟨rfl, (by (first | exact Weak.tm (by simp [lk]) | exact Weak.sub (by simp [lk, keptA, AV.keys]) (by simp [lk, keptO, keptA, AV.keys]))), fun j h1 h3 => ?_⟩
        by_cases e : j = i
        · subst e; exact h2
        · exact he j h1 (by omega)
      · have h3 : ¬ a = b := fun e => h2 (by subst e; rfl)
        simp -implicitDefEqProofs [hi, hi2, ia, h2]
        refine ⟨rfl, ?_⟩
        refine GO_ret mixed 1000 ?_
        simp -implicitDefEqProofs [h3]
    · intro he
      refine GO_AR mixed 1000 ?_
      have h3 : a = b := List.ext_getElem hl fun j h1 h2 => he j h1 h1
      simp -implicitDefEqProofs []
      refine GO_ret mixed 1000 ?_
      simp -implicitDefEqProofs [h3]
  · have hl' : ¬ (a.length : Int) = b.length := by omega
    have h3 : ¬ a = b := fun e => hl (by rw [e])
    simp -implicitDefEqProofs [rc_ref02_SameInts, rr_ref02_SameInts, hl', h3]
end
end Go.Proofs.YtdpmioiamcgfkaaDoor
