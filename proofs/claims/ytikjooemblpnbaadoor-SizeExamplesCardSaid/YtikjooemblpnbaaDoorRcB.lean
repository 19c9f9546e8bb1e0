/-
  The abstract machine's code of functions of the program, as a program of ours printed it; that it is theirs is proved beside each.
-/
import Derived.Test.YtikjooemblpnbaaDoorAmL
import Derived.Test.YtikjooemblpnbaaDoorProg
namespace Go.Proofs.YtikjooemblpnbaaDoor
open Go.RowKit

def rc_size_in : RCode :=
  .seq (.reg 0 false [
    { d := some 3, op := .box (.t 0) },
    { d := some 4, op := .box (.t 1) },
    { d := some 6, op := .mov (.c (.bool false)) }])
  (.seq (.reg 1 false [
    { d := some 7, op := .mov (.t 2) },
    { d := some 8, op := .mkf (.func 81) [] [.t 3, .t 4] },
    { d := some 9, op := .call 80 [.t 7, .t 8] },
    { d := some 10, op := .un .not (.t 9) },
    { d := some 6, op := .mov (.t 10) }])
  (.ret))
def rr_size_in : List RRes := [.t 6]
theorem pc_size_in {G : Nat → Option (List AV)} {args : List AV} {v : AV} (hn : args.length ≤ Tryd.f55.ntmps) (h : ∀ R : Run, R.G = G → AR Tryd.prog R rc_size_in (initSt args) (Fin rr_size_in v)) : PC Tryd.prog G 55 args v :=
  PC_of Tryd.func55 rfl (by kernel_rfl) (rc := rc_size_in) (by kernel_rfl) (rs := rr_size_in) (by kernel_rfl) hn (fun R _ hG => h R hG)

theorem pb_size_in {G : Nat → Option (List AV)} {objs objs' : List (Nat × AObj)} {args : List AV} {v : AV} (hn : args.length ≤ Tryd.f55.ntmps) (h : ∀ R : Run, R.G = G → AR Tryd.prog R rc_size_in ⟨iniT 0 args, objs⟩ (FinB rr_size_in v objs')) : PB Tryd.prog G 55 objs args v objs' :=
  PB_of Tryd.func55 rfl (by kernel_rfl) (rc := rc_size_in) (by kernel_rfl) (rs := rr_size_in) (by kernel_rfl) hn (fun R _ hG => h R hG)

theorem pp_size_in {G : Nat → Option (List AV)} {args : List AV} {ch : List PanicEntry} (hn : args.length ≤ Tryd.f55.ntmps) (h : ∀ R : Run, R.G = G → AR Tryd.prog R rc_size_in (initSt args) (FinP ch)) : PPC Tryd.prog G 55 args ch :=
  PPC_of Tryd.func55 rfl (by kernel_rfl) (rc := rc_size_in) (by kernel_rfl) hn (fun R _ hG => h R hG)

def rc_size_in_1 : RCode :=
  .seq (.reg 0 false [
    { d := some 4, op := .mov (.c (.bool false)) }])
  (.seq (.reg 1 false [
    { d := some 5, op := .mov (.t 0) },
    { d := some 6, op := .load false 1 (.t 1) },
    { d := some 7, op := .bin .lss (.t 5) (.t 6) },
    { d := some 8, op := .mov (.t 7) },
    { d := some 9, op := .mov (.t 0), guard := some (8, false) },
    { d := some 10, op := .load false 1 (.t 2), guard := some (8, false) },
    { d := some 11, op := .bin .gtr (.t 9) (.t 10), guard := some (8, false) },
    { d := some 12, op := .pick (.t 8) (.c (.bool true)) (.t 11) },
    { d := some 4, op := .mov (.t 12) }])
  (.ret))
def rr_size_in_1 : List RRes := [.t 4]
theorem pc_size_in_1 {G : Nat → Option (List AV)} {args : List AV} {v : AV} (hn : args.length ≤ Tryd.f81.ntmps) (h : ∀ R : Run, R.G = G → AR Tryd.prog R rc_size_in_1 (initSt args) (Fin rr_size_in_1 v)) : PC Tryd.prog G 81 args v :=
  PC_of Tryd.func81 rfl (by kernel_rfl) (rc := rc_size_in_1) (by kernel_rfl) (rs := rr_size_in_1) (by kernel_rfl) hn (fun R _ hG => h R hG)

theorem pb_size_in_1 {G : Nat → Option (List AV)} {objs objs' : List (Nat × AObj)} {args : List AV} {v : AV} (hn : args.length ≤ Tryd.f81.ntmps) (h : ∀ R : Run, R.G = G → AR Tryd.prog R rc_size_in_1 ⟨iniT 0 args, objs⟩ (FinB rr_size_in_1 v objs')) : PB Tryd.prog G 81 objs args v objs' :=
  PB_of Tryd.func81 rfl (by kernel_rfl) (rc := rc_size_in_1) (by kernel_rfl) (rs := rr_size_in_1) (by kernel_rfl) hn (fun R _ hG => h R hG)

theorem pp_size_in_1 {G : Nat → Option (List AV)} {args : List AV} {ch : List PanicEntry} (hn : args.length ≤ Tryd.f81.ntmps) (h : ∀ R : Run, R.G = G → AR Tryd.prog R rc_size_in_1 (initSt args) (FinP ch)) : PPC Tryd.prog G 81 args ch :=
  PPC_of Tryd.func81 rfl (by kernel_rfl) (rc := rc_size_in_1) (by kernel_rfl) hn (fun R _ hG => h R hG)

def rc_slices_ContainsFunc_int_int : RCode :=
  .seq (.reg 0 false [
    { d := some 4, op := .mov (.c (.bool false)) }])
  (.seq (.reg 1 false [
    { d := some 5, op := .mov (.t 0) },
    { d := some 6, op := .mov (.t 1) },
    { d := some 7, op := .call 93 [.t 5, .t 6] },
    { d := some 8, op := .bin .geq (.t 7) (.c (.int .i64 0)) },
    { d := some 4, op := .mov (.t 8) }])
  (.ret))
def rr_slices_ContainsFunc_int_int : List RRes := [.t 4]
theorem pc_slices_ContainsFunc_int_int {G : Nat → Option (List AV)} {args : List AV} {v : AV} (hn : args.length ≤ Tryd.f80.ntmps) (h : ∀ R : Run, R.G = G → AR Tryd.prog R rc_slices_ContainsFunc_int_int (initSt args) (Fin rr_slices_ContainsFunc_int_int v)) : PC Tryd.prog G 80 args v :=
  PC_of Tryd.func80 rfl (by kernel_rfl) (rc := rc_slices_ContainsFunc_int_int) (by kernel_rfl) (rs := rr_slices_ContainsFunc_int_int) (by kernel_rfl) hn (fun R _ hG => h R hG)

theorem pb_slices_ContainsFunc_int_int {G : Nat → Option (List AV)} {objs objs' : List (Nat × AObj)} {args : List AV} {v : AV} (hn : args.length ≤ Tryd.f80.ntmps) (h : ∀ R : Run, R.G = G → AR Tryd.prog R rc_slices_ContainsFunc_int_int ⟨iniT 0 args, objs⟩ (FinB rr_slices_ContainsFunc_int_int v objs')) : PB Tryd.prog G 80 objs args v objs' :=
  PB_of Tryd.func80 rfl (by kernel_rfl) (rc := rc_slices_ContainsFunc_int_int) (by kernel_rfl) (rs := rr_slices_ContainsFunc_int_int) (by kernel_rfl) hn (fun R _ hG => h R hG)

theorem pp_slices_ContainsFunc_int_int {G : Nat → Option (List AV)} {args : List AV} {ch : List PanicEntry} (hn : args.length ≤ Tryd.f80.ntmps) (h : ∀ R : Run, R.G = G → AR Tryd.prog R rc_slices_ContainsFunc_int_int (initSt args) (FinP ch)) : PPC Tryd.prog G 80 args ch :=
  PPC_of Tryd.func80 rfl (by kernel_rfl) (rc := rc_slices_ContainsFunc_int_int) (by kernel_rfl) hn (fun R _ hG => h R hG)

def rc_slices_IndexFunc_int_int : RCode :=
  .seq (.reg 0 false [
    { d := some 4, op := .mov (.c (.int .i64 0)) }])
  (.seq (.seq (.reg 1 false [
    { d := some 6, op := .mov (.t 0) },
    { d := some 7, op := .len (.t 6) },
    { d := some 8, op := .mov (.c (.int .i64 0)) }])
  (.block 0
    (.loop
      (.seq (.reg 2 false [
        { d := some 9, op := .bin .lss (.t 8) (.t 7) }])
      (.seq (.cond (.t 9)
        (.skip)
        (.exit 0))
      (.seq (.block 1
        (.seq (.reg 3 false [
          { d := some 10, op := .mov (.t 8) },
          { d := some 5, op := .mov (.t 10) }])
        (.seq (.reg 4 false [
          { d := some 11, op := .mov (.t 1) },
          { d := some 12, op := .mov (.t 0) },
          { d := some 13, op := .mov (.t 5) },
          { d := some 14, op := .iaddr 1 (.t 12) (.t 13) },
          { d := some 15, op := .load false 1 (.t 14) },
          { d := some 16, op := .callv (.t 11) [.t 15] }])
        (.cond (.t 16)
          (.seq (.reg 5 false [
            { d := some 17, op := .mov (.t 5) },
            { d := some 4, op := .mov (.t 17) }])
          (.ret))
          (.skip)))))
      (.reg 6 false [
        { d := some 18, op := .bin .add (.t 8) (.c (.int .i64 1)) },
        { d := some 8, op := .mov (.t 18) }])))))))
  (.seq (.reg 7 false [
    { d := some 4, op := .mov (.c (.int .i64 (-1))) }])
  (.ret)))
def rr_slices_IndexFunc_int_int : List RRes := [.t 4]
theorem pc_slices_IndexFunc_int_int {G : Nat → Option (List AV)} {args : List AV} {v : AV} (hn : args.length ≤ Tryd.f93.ntmps) (h : ∀ R : Run, R.G = G → AR Tryd.prog R rc_slices_IndexFunc_int_int (initSt args) (Fin rr_slices_IndexFunc_int_int v)) : PC Tryd.prog G 93 args v :=
  PC_of Tryd.func93 rfl (by kernel_rfl) (rc := rc_slices_IndexFunc_int_int) (by kernel_rfl) (rs := rr_slices_IndexFunc_int_int) (by kernel_rfl) hn (fun R _ hG => h R hG)

theorem pb_slices_IndexFunc_int_int {G : Nat → Option (List AV)} {objs objs' : List (Nat × AObj)} {args : List AV} {v : AV} (hn : args.length ≤ Tryd.f93.ntmps) (h : ∀ R : Run, R.G = G → AR Tryd.prog R rc_slices_IndexFunc_int_int ⟨iniT 0 args, objs⟩ (FinB rr_slices_IndexFunc_int_int v objs')) : PB Tryd.prog G 93 objs args v objs' :=
  PB_of Tryd.func93 rfl (by kernel_rfl) (rc := rc_slices_IndexFunc_int_int) (by kernel_rfl) (rs := rr_slices_IndexFunc_int_int) (by kernel_rfl) hn (fun R _ hG => h R hG)

theorem pp_slices_IndexFunc_int_int {G : Nat → Option (List AV)} {args : List AV} {ch : List PanicEntry} (hn : args.length ≤ Tryd.f93.ntmps) (h : ∀ R : Run, R.G = G → AR Tryd.prog R rc_slices_IndexFunc_int_int (initSt args) (FinP ch)) : PPC Tryd.prog G 93 args ch :=
  PPC_of Tryd.func93 rfl (by kernel_rfl) (rc := rc_slices_IndexFunc_int_int) (by kernel_rfl) hn (fun R _ hG => h R hG)

def rc_size_Check : RCode :=
  .seq (.reg 0 false [
    { d := some 1, op := .box (.t 0) },
    { d := some 2, op := .mov (.c (.int .i64 0)) }])
  (.seq (.seq (.reg 1 false [
    { d := some 3, op := .faddr 0 (.t 1) },
    { d := some 4, op := .load false 1 (.t 3) },
    { d := some 5, op := .faddr 1 (.t 1) },
    { d := some 6, op := .load false 1 (.t 5) },
    { d := some 7, op := .faddr 2 (.t 1) },
    { d := some 8, op := .load false 1 (.t 7) },
    { d := some 9, op := .bsl false 1 3 [.int .i64 0, .int .i64 0, .int .i64 0] [(0, .t 4), (1, .t 6), (2, .t 8)] },
    { d := some 10, op := .call 55 [.c (.int .i64 0), .c (.int .i64 1000000000), .t 9] },
    { d := some 11, op := .un .not (.t 10) },
    { d := some 12, op := .mov (.t 11) },
    { d := some 13, op := .faddr 1 (.t 1), guard := some (12, false) },
    { d := some 14, op := .load false 1 (.t 13), guard := some (12, false) },
    { d := some 15, op := .faddr 2 (.t 1), guard := some (12, false) },
    { d := some 16, op := .load false 1 (.t 15), guard := some (12, false) },
    { d := some 17, op := .bin .gtr (.t 14) (.t 16), guard := some (12, false) },
    { d := some 18, op := .pick (.t 12) (.c (.bool true)) (.t 17) }])
  (.cond (.t 18)
    (.seq (.reg 2 false [
      { d := some 2, op := .mov (.c (.int .i64 10)) }])
    (.ret))
    (.skip)))
  (.seq (.reg 3 false [
    { d := some 2, op := .mov (.c (.int .i64 0)) }])
  (.ret)))
def rr_size_Check : List RRes := [.t 2]
theorem pc_size_Check {G : Nat → Option (List AV)} {args : List AV} {v : AV} (hn : args.length ≤ Tryd.f39.ntmps) (h : ∀ R : Run, R.G = G → AR Tryd.prog R rc_size_Check (initSt args) (Fin rr_size_Check v)) : PC Tryd.prog G 39 args v :=
  PC_of Tryd.func39 rfl (by kernel_rfl) (rc := rc_size_Check) (by kernel_rfl) (rs := rr_size_Check) (by kernel_rfl) hn (fun R _ hG => h R hG)

theorem pb_size_Check {G : Nat → Option (List AV)} {objs objs' : List (Nat × AObj)} {args : List AV} {v : AV} (hn : args.length ≤ Tryd.f39.ntmps) (h : ∀ R : Run, R.G = G → AR Tryd.prog R rc_size_Check ⟨iniT 0 args, objs⟩ (FinB rr_size_Check v objs')) : PB Tryd.prog G 39 objs args v objs' :=
  PB_of Tryd.func39 rfl (by kernel_rfl) (rc := rc_size_Check) (by kernel_rfl) (rs := rr_size_Check) (by kernel_rfl) hn (fun R _ hG => h R hG)

theorem pp_size_Check {G : Nat → Option (List AV)} {args : List AV} {ch : List PanicEntry} (hn : args.length ≤ Tryd.f39.ntmps) (h : ∀ R : Run, R.G = G → AR Tryd.prog R rc_size_Check (initSt args) (FinP ch)) : PPC Tryd.prog G 39 args ch :=
  PPC_of Tryd.func39 rfl (by kernel_rfl) (rc := rc_size_Check) (by kernel_rfl) hn (fun R _ hG => h R hG)

def rc_size_both : RCode :=
  .seq (.reg 0 false [
    { d := some 2, op := .box (.t 0) },
    { d := some 3, op := .box (.t 1) },
    { d := some 4, op := .mov (.c (.int .i64 0)) }])
  (.seq (.seq (.reg 1 false [
    { d := some 5, op := .load true 3 (.t 2) },
    { d := some 6, op := .call 39 [.t 5] },
    { d := some 7, op := .bin .neq (.t 6) (.c (.int .i64 0)) },
    { d := some 8, op := .mov (.t 7) },
    { d := some 9, op := .load true 3 (.t 3), guard := some (8, false) },
    { d := some 10, op := .call 39 [.t 9], guard := some (8, false) },
    { d := some 11, op := .bin .neq (.t 10) (.c (.int .i64 0)), guard := some (8, false) },
    { d := some 12, op := .pick (.t 8) (.c (.bool true)) (.t 11) }])
  (.cond (.t 12)
    (.seq (.reg 2 false [
      { d := some 4, op := .mov (.c (.int .i64 10)) }])
    (.ret))
    (.skip)))
  (.seq (.reg 3 false [
    { d := some 4, op := .mov (.c (.int .i64 0)) }])
  (.ret)))
def rr_size_both : List RRes := [.t 4]
theorem pc_size_both {G : Nat → Option (List AV)} {args : List AV} {v : AV} (hn : args.length ≤ Tryd.f54.ntmps) (h : ∀ R : Run, R.G = G → AR Tryd.prog R rc_size_both (initSt args) (Fin rr_size_both v)) : PC Tryd.prog G 54 args v :=
  PC_of Tryd.func54 rfl (by kernel_rfl) (rc := rc_size_both) (by kernel_rfl) (rs := rr_size_both) (by kernel_rfl) hn (fun R _ hG => h R hG)

theorem pb_size_both {G : Nat → Option (List AV)} {objs objs' : List (Nat × AObj)} {args : List AV} {v : AV} (hn : args.length ≤ Tryd.f54.ntmps) (h : ∀ R : Run, R.G = G → AR Tryd.prog R rc_size_both ⟨iniT 0 args, objs⟩ (FinB rr_size_both v objs')) : PB Tryd.prog G 54 objs args v objs' :=
  PB_of Tryd.func54 rfl (by kernel_rfl) (rc := rc_size_both) (by kernel_rfl) (rs := rr_size_both) (by kernel_rfl) hn (fun R _ hG => h R hG)

theorem pp_size_both {G : Nat → Option (List AV)} {args : List AV} {ch : List PanicEntry} (hn : args.length ≤ Tryd.f54.ntmps) (h : ∀ R : Run, R.G = G → AR Tryd.prog R rc_size_both (initSt args) (FinP ch)) : PPC Tryd.prog G 54 args ch :=
  PPC_of Tryd.func54 rfl (by kernel_rfl) (rc := rc_size_both) (by kernel_rfl) hn (fun R _ hG => h R hG)

def rc_size_wanted : RCode :=
  .seq (.reg 0 false [
    { d := some 1, op := .box (.t 0) },
    { d := some 2, op := .mov (.c (.int .i64 0)) }])
  (.seq (.seq (.reg 1 false [
    { d := some 3, op := .faddr 0 (.t 1) },
    { d := some 4, op := .load false 1 (.t 3) },
    { d := some 5, op := .faddr 1 (.t 1) },
    { d := some 6, op := .load false 1 (.t 5) },
    { d := some 7, op := .bsl false 1 2 [.int .i64 0, .int .i64 0] [(0, .t 4), (1, .t 6)] },
    { d := some 8, op := .call 55 [.c (.int .i64 (-1000000000)), .c (.int .i64 1000000000), .t 7] },
    { d := some 9, op := .un .not (.t 8) },
    { d := some 10, op := .mov (.t 9) },
    { d := some 11, op := .faddr 0 (.t 1), guard := some (10, false) },
    { d := some 12, op := .load false 1 (.t 11), guard := some (10, false) },
    { d := some 13, op := .faddr 1 (.t 1), guard := some (10, false) },
    { d := some 14, op := .load false 1 (.t 13), guard := some (10, false) },
    { d := some 15, op := .bin .gtr (.t 12) (.t 14), guard := some (10, false) },
    { d := some 16, op := .pick (.t 10) (.c (.bool true)) (.t 15) }])
  (.cond (.t 16)
    (.seq (.reg 2 false [
      { d := some 2, op := .mov (.c (.int .i64 2)) }])
    (.ret))
    (.skip)))
  (.seq (.reg 3 false [
    { d := some 2, op := .mov (.c (.int .i64 0)) }])
  (.ret)))
def rr_size_wanted : List RRes := [.t 2]
theorem pc_size_wanted {G : Nat → Option (List AV)} {args : List AV} {v : AV} (hn : args.length ≤ Tryd.f58.ntmps) (h : ∀ R : Run, R.G = G → AR Tryd.prog R rc_size_wanted (initSt args) (Fin rr_size_wanted v)) : PC Tryd.prog G 58 args v :=
  PC_of Tryd.func58 rfl (by kernel_rfl) (rc := rc_size_wanted) (by kernel_rfl) (rs := rr_size_wanted) (by kernel_rfl) hn (fun R _ hG => h R hG)

theorem pb_size_wanted {G : Nat → Option (List AV)} {objs objs' : List (Nat × AObj)} {args : List AV} {v : AV} (hn : args.length ≤ Tryd.f58.ntmps) (h : ∀ R : Run, R.G = G → AR Tryd.prog R rc_size_wanted ⟨iniT 0 args, objs⟩ (FinB rr_size_wanted v objs')) : PB Tryd.prog G 58 objs args v objs' :=
  PB_of Tryd.func58 rfl (by kernel_rfl) (rc := rc_size_wanted) (by kernel_rfl) (rs := rr_size_wanted) (by kernel_rfl) hn (fun R _ hG => h R hG)

theorem pp_size_wanted {G : Nat → Option (List AV)} {args : List AV} {ch : List PanicEntry} (hn : args.length ≤ Tryd.f58.ntmps) (h : ∀ R : Run, R.G = G → AR Tryd.prog R rc_size_wanted (initSt args) (FinP ch)) : PPC Tryd.prog G 58 args ch :=
  PPC_of Tryd.func58 rfl (by kernel_rfl) (rc := rc_size_wanted) (by kernel_rfl) hn (fun R _ hG => h R hG)

def rc_size_Inside : RCode :=
  .seq (.reg 0 false [
    { d := some 2, op := .box (.t 0) },
    { d := some 3, op := .box (.t 1) },
    { d := some 4, op := .mov (.c (.bool false)) },
    { d := some 5, op := .mov (.c (.int .i64 0)) }])
  (.seq (.seq (.reg 1 false [
    { d := some 7, op := .load true 3 (.t 2) },
    { d := some 8, op := .load true 3 (.t 3) },
    { d := some 9, op := .call 54 [.t 7, .t 8] },
    { d := some 6, op := .mov (.t 9) }])
  (.seq (.reg 2 false [
    { d := some 10, op := .mov (.t 6) },
    { d := some 11, op := .bin .neq (.t 10) (.c (.int .i64 0)) }])
  (.cond (.t 11)
    (.seq (.reg 3 false [
      { d := some 12, op := .mov (.t 6) },
      { d := some 4, op := .mov (.c (.bool false)) },
      { d := some 5, op := .mov (.t 12) }])
    (.ret))
    (.skip))))
  (.seq (.reg 4 false [
    { d := some 13, op := .load true 3 (.t 2) },
    { d := some 14, op := .load true 3 (.t 3) },
    { d := some 15, op := .eqs false [.i, .i, .i] (.t 13) (.t 14) },
    { d := some 16, op := .mov (.t 15) },
    { d := some 17, op := .faddr 1 (.t 3), guard := some (16, false) },
    { d := some 18, op := .load false 1 (.t 17), guard := some (16, false) },
    { d := some 19, op := .faddr 2 (.t 3), guard := some (16, false) },
    { d := some 20, op := .load false 1 (.t 19), guard := some (16, false) },
    { d := some 21, op := .faddr 1 (.t 2), guard := some (16, false) },
    { d := some 22, op := .load false 1 (.t 21), guard := some (16, false) },
    { d := some 23, op := .faddr 2 (.t 2), guard := some (16, false) },
    { d := some 24, op := .load false 1 (.t 23), guard := some (16, false) },
    { d := some 25, op := .bsl false 1 2 [.int .i64 0, .int .i64 0] [(0, .t 22), (1, .t 24)], guard := some (16, false) },
    { d := some 26, op := .call 55 [.t 18, .t 20, .t 25], guard := some (16, false) },
    { d := some 27, op := .pick (.t 16) (.c (.bool true)) (.t 26) },
    { d := some 4, op := .mov (.t 27) },
    { d := some 5, op := .mov (.c (.int .i64 0)) }])
  (.ret)))
def rr_size_Inside : List RRes := [.t 4, .t 5]
theorem pc_size_Inside {G : Nat → Option (List AV)} {args : List AV} {v : AV} (hn : args.length ≤ Tryd.f22.ntmps) (h : ∀ R : Run, R.G = G → AR Tryd.prog R rc_size_Inside (initSt args) (Fin rr_size_Inside v)) : PC Tryd.prog G 22 args v :=
  PC_of Tryd.func22 rfl (by kernel_rfl) (rc := rc_size_Inside) (by kernel_rfl) (rs := rr_size_Inside) (by kernel_rfl) hn (fun R _ hG => h R hG)

theorem pb_size_Inside {G : Nat → Option (List AV)} {objs objs' : List (Nat × AObj)} {args : List AV} {v : AV} (hn : args.length ≤ Tryd.f22.ntmps) (h : ∀ R : Run, R.G = G → AR Tryd.prog R rc_size_Inside ⟨iniT 0 args, objs⟩ (FinB rr_size_Inside v objs')) : PB Tryd.prog G 22 objs args v objs' :=
  PB_of Tryd.func22 rfl (by kernel_rfl) (rc := rc_size_Inside) (by kernel_rfl) (rs := rr_size_Inside) (by kernel_rfl) hn (fun R _ hG => h R hG)

theorem pp_size_Inside {G : Nat → Option (List AV)} {args : List AV} {ch : List PanicEntry} (hn : args.length ≤ Tryd.f22.ntmps) (h : ∀ R : Run, R.G = G → AR Tryd.prog R rc_size_Inside (initSt args) (FinP ch)) : PPC Tryd.prog G 22 args ch :=
  PPC_of Tryd.func22 rfl (by kernel_rfl) (rc := rc_size_Inside) (by kernel_rfl) hn (fun R _ hG => h R hG)

def rc_size_Fit : RCode :=
  .seq (.reg 0 false [
    { d := some 2, op := .box (.t 0) },
    { d := some 3, op := .box (.t 1) },
    { d := some 4, op := .alloc [.int .i64 0, .int .i64 0] },
    { d := some 5, op := .mov (.c (.int .u8 0)) },
    { d := some 6, op := .mov (.c (.int .i64 0)) }])
  (.seq (.seq (.reg 1 false [
    { d := some 9, op := .load true 3 (.t 2) },
    { d := some 10, op := .load true 3 (.t 3) },
    { d := some 11, op := .call 54 [.t 9, .t 10] },
    { d := some 7, op := .mov (.t 11) }])
  (.seq (.reg 2 false [
    { d := some 12, op := .mov (.t 7) },
    { d := some 13, op := .bin .neq (.t 12) (.c (.int .i64 0)) }])
  (.cond (.t 13)
    (.seq (.reg 3 false [
      { d := some 14, op := .build [.int .i64 0, .int .i64 0] [] },
      { d := some 15, op := .mov (.t 7) },
      { d := none, op := .store 2 (.t 4) (.t 14) },
      { d := some 5, op := .mov (.c (.int .u8 0)) },
      { d := some 6, op := .mov (.t 15) }])
    (.ret))
    (.skip))))
  (.seq (.reg 4 false [
    { d := some 16, op := .faddr 1 (.t 2) },
    { d := some 17, op := .load false 1 (.t 16) },
    { d := some 18, op := .faddr 2 (.t 3) },
    { d := some 19, op := .load false 1 (.t 18) },
    { d := some 20, op := .bin .sub (.t 17) (.t 19) },
    { d := some 21, op := .faddr 2 (.t 2) },
    { d := some 22, op := .load false 1 (.t 21) },
    { d := some 23, op := .faddr 1 (.t 3) },
    { d := some 24, op := .load false 1 (.t 23) },
    { d := some 25, op := .bin .sub (.t 22) (.t 24) },
    { d := some 26, op := .build [.int .i64 0, .int .i64 0] [(0, 1, .t 20), (1, 1, .t 25)] },
    { d := none, op := .store 2 (.t 4) (.t 26) }])
  (.seq (.reg 5 false [
    { d := some 27, op := .faddr 0 (.t 4) },
    { d := some 28, op := .load false 1 (.t 27) },
    { d := some 29, op := .bin .geq (.t 28) (.c (.int .i64 0)) },
    { d := some 30, op := .build [.bool false, .int .u8 0] [(0, 1, .t 29), (1, 1, .c (.int .u8 1))] },
    { d := some 31, op := .faddr 1 (.t 4) },
    { d := some 32, op := .load false 1 (.t 31) },
    { d := some 33, op := .bin .leq (.t 32) (.c (.int .i64 0)) },
    { d := some 34, op := .build [.bool false, .int .u8 0] [(0, 1, .t 33), (1, 1, .c (.int .u8 2))] },
    { d := some 35, op := .build [.bool false, .int .u8 0] [(0, 1, .c (.bool true)), (1, 1, .c (.int .u8 3))] },
    { d := some 36, op := .bsl false 2 3 [.bool false, .int .u8 0, .bool false, .int .u8 0, .bool false, .int .u8 0] [(0, .t 30), (1, .t 34), (2, .t 35)] },
    { d := some 8, op := .mov (.t 36) }])
  (.seq (.reg 6 true [
    { d := some 37, op := .load true 2 (.t 4), aft := [] },
    { d := some 38, op := .mov (.t 8), aft := [] },
    { d := some 39, op := .call 56 [.t 38, .c (.func (.func 57) [] [])], aft := [1] },
    { d := some 40, op := .field false 1 1 (.t 39), aft := [2] },
    { d := none, op := .store 2 (.t 4) (.t 37), aft := [0, 2, 0] },
    { d := some 5, op := .mov (.t 40), aft := [3, 4, 0, 1, 2, 3, 4] },
    { d := some 6, op := .mov (.c (.int .i64 0)), aft := [5, 0, 1, 2, 3, 4, 5] }])
  (.ret)))))
def rr_size_Fit : List RRes := [.c 4 true 2, .t 5, .t 6]
theorem pc_size_Fit {G : Nat → Option (List AV)} {args : List AV} {v : AV} (hn : args.length ≤ Tryd.f24.ntmps) (h : ∀ R : Run, R.G = G → AR Tryd.prog R rc_size_Fit (initSt args) (Fin rr_size_Fit v)) : PC Tryd.prog G 24 args v :=
  PC_of Tryd.func24 rfl (by kernel_rfl) (rc := rc_size_Fit) (by kernel_rfl) (rs := rr_size_Fit) (by kernel_rfl) hn (fun R _ hG => h R hG)

theorem pb_size_Fit {G : Nat → Option (List AV)} {objs objs' : List (Nat × AObj)} {args : List AV} {v : AV} (hn : args.length ≤ Tryd.f24.ntmps) (h : ∀ R : Run, R.G = G → AR Tryd.prog R rc_size_Fit ⟨iniT 0 args, objs⟩ (FinB rr_size_Fit v objs')) : PB Tryd.prog G 24 objs args v objs' :=
  PB_of Tryd.func24 rfl (by kernel_rfl) (rc := rc_size_Fit) (by kernel_rfl) (rs := rr_size_Fit) (by kernel_rfl) hn (fun R _ hG => h R hG)

theorem pp_size_Fit {G : Nat → Option (List AV)} {args : List AV} {ch : List PanicEntry} (hn : args.length ≤ Tryd.f24.ntmps) (h : ∀ R : Run, R.G = G → AR Tryd.prog R rc_size_Fit (initSt args) (FinP ch)) : PPC Tryd.prog G 24 args ch :=
  PPC_of Tryd.func24 rfl (by kernel_rfl) (rc := rc_size_Fit) (by kernel_rfl) hn (fun R _ hG => h R hG)

def rc_size_first_struct_is_bool_kind_uint8 : RCode :=
  .seq (.reg 0 false [
    { d := some 4, op := .alloc [.bool false, .int .u8 0] }])
  (.seq (.reg 1 false [
    { d := some 5, op := .mov (.t 0) },
    { d := some 6, op := .mov (.t 0) },
    { d := some 7, op := .mov (.t 1) },
    { d := some 8, op := .call 82 [.t 6, .t 7] },
    { d := some 9, op := .iaddr 2 (.t 5) (.t 8) },
    { d := some 10, op := .load true 2 (.t 9) },
    { d := none, op := .store 2 (.t 4) (.t 10) }])
  (.ret))
def rr_size_first_struct_is_bool_kind_uint8 : List RRes := [.c 4 true 2]
theorem pc_size_first_struct_is_bool_kind_uint8 {G : Nat → Option (List AV)} {args : List AV} {v : AV} (hn : args.length ≤ Tryd.f56.ntmps) (h : ∀ R : Run, R.G = G → AR Tryd.prog R rc_size_first_struct_is_bool_kind_uint8 (initSt args) (Fin rr_size_first_struct_is_bool_kind_uint8 v)) : PC Tryd.prog G 56 args v :=
  PC_of Tryd.func56 rfl (by kernel_rfl) (rc := rc_size_first_struct_is_bool_kind_uint8) (by kernel_rfl) (rs := rr_size_first_struct_is_bool_kind_uint8) (by kernel_rfl) hn (fun R _ hG => h R hG)

theorem pb_size_first_struct_is_bool_kind_uint8 {G : Nat → Option (List AV)} {objs objs' : List (Nat × AObj)} {args : List AV} {v : AV} (hn : args.length ≤ Tryd.f56.ntmps) (h : ∀ R : Run, R.G = G → AR Tryd.prog R rc_size_first_struct_is_bool_kind_uint8 ⟨iniT 0 args, objs⟩ (FinB rr_size_first_struct_is_bool_kind_uint8 v objs')) : PB Tryd.prog G 56 objs args v objs' :=
  PB_of Tryd.func56 rfl (by kernel_rfl) (rc := rc_size_first_struct_is_bool_kind_uint8) (by kernel_rfl) (rs := rr_size_first_struct_is_bool_kind_uint8) (by kernel_rfl) hn (fun R _ hG => h R hG)

theorem pp_size_first_struct_is_bool_kind_uint8 {G : Nat → Option (List AV)} {args : List AV} {ch : List PanicEntry} (hn : args.length ≤ Tryd.f56.ntmps) (h : ∀ R : Run, R.G = G → AR Tryd.prog R rc_size_first_struct_is_bool_kind_uint8 (initSt args) (FinP ch)) : PPC Tryd.prog G 56 args ch :=
  PPC_of Tryd.func56 rfl (by kernel_rfl) (rc := rc_size_first_struct_is_bool_kind_uint8) (by kernel_rfl) hn (fun R _ hG => h R hG)

def rc_slices_IndexFunc_struct_is_bool_kind_uint8_struct_is_bool_kind_uint8 : RCode :=
  .seq (.reg 0 false [
    { d := some 4, op := .mov (.c (.int .i64 0)) }])
  (.seq (.seq (.reg 1 false [
    { d := some 6, op := .mov (.t 0) },
    { d := some 7, op := .len (.t 6) },
    { d := some 8, op := .mov (.c (.int .i64 0)) }])
  (.block 0
    (.loop
      (.seq (.reg 2 false [
        { d := some 9, op := .bin .lss (.t 8) (.t 7) }])
      (.seq (.cond (.t 9)
        (.skip)
        (.exit 0))
      (.seq (.block 1
        (.seq (.reg 3 false [
          { d := some 10, op := .mov (.t 8) },
          { d := some 5, op := .mov (.t 10) }])
        (.seq (.reg 4 false [
          { d := some 11, op := .mov (.t 1) },
          { d := some 12, op := .mov (.t 0) },
          { d := some 13, op := .mov (.t 5) },
          { d := some 14, op := .iaddr 2 (.t 12) (.t 13) },
          { d := some 15, op := .load true 2 (.t 14) },
          { d := some 16, op := .callv (.t 11) [.t 15] }])
        (.cond (.t 16)
          (.seq (.reg 5 false [
            { d := some 17, op := .mov (.t 5) },
            { d := some 4, op := .mov (.t 17) }])
          (.ret))
          (.skip)))))
      (.reg 6 false [
        { d := some 18, op := .bin .add (.t 8) (.c (.int .i64 1)) },
        { d := some 8, op := .mov (.t 18) }])))))))
  (.seq (.reg 7 false [
    { d := some 4, op := .mov (.c (.int .i64 (-1))) }])
  (.ret)))
def rr_slices_IndexFunc_struct_is_bool_kind_uint8_struct_is_bool_kind_uint8 : List RRes := [.t 4]
theorem pc_slices_IndexFunc_struct_is_bool_kind_uint8_struct_is_bool_kind_uint8 {G : Nat → Option (List AV)} {args : List AV} {v : AV} (hn : args.length ≤ Tryd.f82.ntmps) (h : ∀ R : Run, R.G = G → AR Tryd.prog R rc_slices_IndexFunc_struct_is_bool_kind_uint8_struct_is_bool_kind_uint8 (initSt args) (Fin rr_slices_IndexFunc_struct_is_bool_kind_uint8_struct_is_bool_kind_uint8 v)) : PC Tryd.prog G 82 args v :=
  PC_of Tryd.func82 rfl (by kernel_rfl) (rc := rc_slices_IndexFunc_struct_is_bool_kind_uint8_struct_is_bool_kind_uint8) (by kernel_rfl) (rs := rr_slices_IndexFunc_struct_is_bool_kind_uint8_struct_is_bool_kind_uint8) (by kernel_rfl) hn (fun R _ hG => h R hG)

theorem pb_slices_IndexFunc_struct_is_bool_kind_uint8_struct_is_bool_kind_uint8 {G : Nat → Option (List AV)} {objs objs' : List (Nat × AObj)} {args : List AV} {v : AV} (hn : args.length ≤ Tryd.f82.ntmps) (h : ∀ R : Run, R.G = G → AR Tryd.prog R rc_slices_IndexFunc_struct_is_bool_kind_uint8_struct_is_bool_kind_uint8 ⟨iniT 0 args, objs⟩ (FinB rr_slices_IndexFunc_struct_is_bool_kind_uint8_struct_is_bool_kind_uint8 v objs')) : PB Tryd.prog G 82 objs args v objs' :=
  PB_of Tryd.func82 rfl (by kernel_rfl) (rc := rc_slices_IndexFunc_struct_is_bool_kind_uint8_struct_is_bool_kind_uint8) (by kernel_rfl) (rs := rr_slices_IndexFunc_struct_is_bool_kind_uint8_struct_is_bool_kind_uint8) (by kernel_rfl) hn (fun R _ hG => h R hG)

theorem pp_slices_IndexFunc_struct_is_bool_kind_uint8_struct_is_bool_kind_uint8 {G : Nat → Option (List AV)} {args : List AV} {ch : List PanicEntry} (hn : args.length ≤ Tryd.f82.ntmps) (h : ∀ R : Run, R.G = G → AR Tryd.prog R rc_slices_IndexFunc_struct_is_bool_kind_uint8_struct_is_bool_kind_uint8 (initSt args) (FinP ch)) : PPC Tryd.prog G 82 args ch :=
  PPC_of Tryd.func82 rfl (by kernel_rfl) (rc := rc_slices_IndexFunc_struct_is_bool_kind_uint8_struct_is_bool_kind_uint8) (by kernel_rfl) hn (fun R _ hG => h R hG)

def rc_size_Fit_1 : RCode :=
  .seq (.reg 0 false [
    { d := some 1, op := .box (.t 0) },
    { d := some 2, op := .mov (.c (.bool false)) }])
  (.seq (.reg 1 false [
    { d := some 3, op := .faddr 0 (.t 1) },
    { d := some 4, op := .load false 1 (.t 3) },
    { d := some 2, op := .mov (.t 4) }])
  (.ret))
def rr_size_Fit_1 : List RRes := [.t 2]
theorem pc_size_Fit_1 {G : Nat → Option (List AV)} {args : List AV} {v : AV} (hn : args.length ≤ Tryd.f57.ntmps) (h : ∀ R : Run, R.G = G → AR Tryd.prog R rc_size_Fit_1 (initSt args) (Fin rr_size_Fit_1 v)) : PC Tryd.prog G 57 args v :=
  PC_of Tryd.func57 rfl (by kernel_rfl) (rc := rc_size_Fit_1) (by kernel_rfl) (rs := rr_size_Fit_1) (by kernel_rfl) hn (fun R _ hG => h R hG)

theorem pb_size_Fit_1 {G : Nat → Option (List AV)} {objs objs' : List (Nat × AObj)} {args : List AV} {v : AV} (hn : args.length ≤ Tryd.f57.ntmps) (h : ∀ R : Run, R.G = G → AR Tryd.prog R rc_size_Fit_1 ⟨iniT 0 args, objs⟩ (FinB rr_size_Fit_1 v objs')) : PB Tryd.prog G 57 objs args v objs' :=
  PB_of Tryd.func57 rfl (by kernel_rfl) (rc := rc_size_Fit_1) (by kernel_rfl) (rs := rr_size_Fit_1) (by kernel_rfl) hn (fun R _ hG => h R hG)

theorem pp_size_Fit_1 {G : Nat → Option (List AV)} {args : List AV} {ch : List PanicEntry} (hn : args.length ≤ Tryd.f57.ntmps) (h : ∀ R : Run, R.G = G → AR Tryd.prog R rc_size_Fit_1 (initSt args) (FinP ch)) : PPC Tryd.prog G 57 args ch :=
  PPC_of Tryd.func57 rfl (by kernel_rfl) (rc := rc_size_Fit_1) (by kernel_rfl) hn (fun R _ hG => h R hG)

def rc_size_Room : RCode :=
  .seq (.reg 0 false [
    { d := some 2, op := .box (.t 0) },
    { d := some 3, op := .box (.t 1) },
    { d := some 4, op := .alloc [.int .i64 0, .int .i64 0, .int .i64 0] },
    { d := some 5, op := .mov (.c (.int .i64 0)) }])
  (.seq (.seq (.reg 1 false [
    { d := some 9, op := .load true 3 (.t 2) },
    { d := some 10, op := .call 39 [.t 9] },
    { d := some 6, op := .mov (.t 10) }])
  (.seq (.reg 2 false [
    { d := some 11, op := .mov (.t 6) },
    { d := some 12, op := .bin .neq (.t 11) (.c (.int .i64 0)) }])
  (.cond (.t 12)
    (.seq (.reg 3 false [
      { d := some 13, op := .build [.int .i64 0, .int .i64 0, .int .i64 0] [] },
      { d := some 14, op := .mov (.t 6) },
      { d := none, op := .store 3 (.t 4) (.t 13) },
      { d := some 5, op := .mov (.t 14) }])
    (.ret))
    (.skip))))
  (.seq (.seq (.reg 4 false [
    { d := some 15, op := .load true 2 (.t 3) },
    { d := some 16, op := .call 58 [.t 15] },
    { d := some 7, op := .mov (.t 16) }])
  (.seq (.reg 5 false [
    { d := some 17, op := .mov (.t 7) },
    { d := some 18, op := .bin .neq (.t 17) (.c (.int .i64 0)) }])
  (.cond (.t 18)
    (.seq (.reg 6 false [
      { d := some 19, op := .build [.int .i64 0, .int .i64 0, .int .i64 0] [] },
      { d := some 20, op := .mov (.t 7) },
      { d := none, op := .store 3 (.t 4) (.t 19) },
      { d := some 5, op := .mov (.t 20) }])
    (.ret))
    (.skip))))
  (.seq (.reg 7 false [
    { d := some 21, op := .faddr 0 (.t 2) },
    { d := some 22, op := .load false 1 (.t 21) },
    { d := some 23, op := .faddr 2 (.t 2) },
    { d := some 24, op := .load false 1 (.t 23) },
    { d := some 25, op := .faddr 1 (.t 3) },
    { d := some 26, op := .load false 1 (.t 25) },
    { d := some 27, op := .bin .sub (.t 24) (.t 26) },
    { d := some 28, op := .mx true (.c (.int .i64 0)) [.t 27] },
    { d := some 29, op := .faddr 1 (.t 2) },
    { d := some 30, op := .load false 1 (.t 29) },
    { d := some 31, op := .faddr 0 (.t 3) },
    { d := some 32, op := .load false 1 (.t 31) },
    { d := some 33, op := .bin .sub (.t 30) (.t 32) },
    { d := some 34, op := .mx false (.c (.int .i64 1000000000)) [.t 33] },
    { d := some 35, op := .build [.int .i64 0, .int .i64 0, .int .i64 0] [(0, 1, .t 22), (1, 1, .t 28), (2, 1, .t 34)] },
    { d := some 8, op := .alloc [.int .i64 0, .int .i64 0, .int .i64 0] },
    { d := none, op := .store 3 (.t 8) (.t 35) }])
  (.seq (.seq (.reg 8 false [
    { d := some 36, op := .faddr 1 (.t 8) },
    { d := some 37, op := .load false 1 (.t 36) },
    { d := some 38, op := .faddr 2 (.t 8) },
    { d := some 39, op := .load false 1 (.t 38) },
    { d := some 40, op := .bin .gtr (.t 37) (.t 39) }])
  (.cond (.t 40)
    (.seq (.reg 9 false [
      { d := some 41, op := .build [.int .i64 0, .int .i64 0, .int .i64 0] [] },
      { d := none, op := .store 3 (.t 4) (.t 41) },
      { d := some 5, op := .mov (.c (.int .i64 6)) }])
    (.ret))
    (.skip)))
  (.seq (.reg 10 false [
    { d := some 42, op := .load true 3 (.t 8) },
    { d := none, op := .store 3 (.t 4) (.t 42) },
    { d := some 5, op := .mov (.c (.int .i64 0)) }])
  (.ret))))))
def rr_size_Room : List RRes := [.c 4 true 3, .t 5]
theorem pc_size_Room {G : Nat → Option (List AV)} {args : List AV} {v : AV} (hn : args.length ≤ Tryd.f26.ntmps) (h : ∀ R : Run, R.G = G → AR Tryd.prog R rc_size_Room (initSt args) (Fin rr_size_Room v)) : PC Tryd.prog G 26 args v :=
  PC_of Tryd.func26 rfl (by kernel_rfl) (rc := rc_size_Room) (by kernel_rfl) (rs := rr_size_Room) (by kernel_rfl) hn (fun R _ hG => h R hG)

theorem pb_size_Room {G : Nat → Option (List AV)} {objs objs' : List (Nat × AObj)} {args : List AV} {v : AV} (hn : args.length ≤ Tryd.f26.ntmps) (h : ∀ R : Run, R.G = G → AR Tryd.prog R rc_size_Room ⟨iniT 0 args, objs⟩ (FinB rr_size_Room v objs')) : PB Tryd.prog G 26 objs args v objs' :=
  PB_of Tryd.func26 rfl (by kernel_rfl) (rc := rc_size_Room) (by kernel_rfl) (rs := rr_size_Room) (by kernel_rfl) hn (fun R _ hG => h R hG)

theorem pp_size_Room {G : Nat → Option (List AV)} {args : List AV} {ch : List PanicEntry} (hn : args.length ≤ Tryd.f26.ntmps) (h : ∀ R : Run, R.G = G → AR Tryd.prog R rc_size_Room (initSt args) (FinP ch)) : PPC Tryd.prog G 26 args ch :=
  PPC_of Tryd.func26 rfl (by kernel_rfl) (rc := rc_size_Room) (by kernel_rfl) hn (fun R _ hG => h R hG)

def rc_size_of : RCode :=
  .seq (.reg 0 false [
    { d := some 2, op := .alloc [.int .i64 0, .int .i64 0, .str ⟨#[]⟩, .nilf] },
    { d := some 3, op := .mov (.c (.int .i64 0)) }])
  (.seq (.seq (.reg 1 false [
    { d := some 4, op := .mov (.t 0) },
    { d := some 5, op := .conv .i64 (.t 4) },
    { d := some 6, op := .bsl false 1 1 [.int .i64 0] [(0, .t 5)] },
    { d := some 7, op := .call 55 [.c (.int .i64 1), .c (.int .i64 2), .t 6] },
    { d := some 8, op := .un .not (.t 7) }])
  (.cond (.t 8)
    (.seq (.reg 2 false [
      { d := some 9, op := .build [.int .i64 0, .int .i64 0, .str ⟨#[]⟩, .nilf] [] },
      { d := none, op := .store 4 (.t 2) (.t 9) },
      { d := some 3, op := .mov (.c (.int .i64 11)) }])
    (.ret))
    (.skip)))
  (.seq (.reg 3 false [
    { d := some 10, op := .mov (.t 0) },
    { d := some 11, op := .vop (.aaddr 3 4) [(.g 0), (.t 10)] },
    { d := some 12, op := .load true 4 (.t 11) },
    { d := none, op := .store 4 (.t 2) (.t 12) },
    { d := some 3, op := .mov (.c (.int .i64 0)) }])
  (.ret)))
def rr_size_of : List RRes := [.c 2 true 4, .t 3]
theorem pc_size_of {G : Nat → Option (List AV)} {args : List AV} {v : AV} (hn : args.length ≤ Tryd.f52.ntmps) (h : ∀ R : Run, R.G = G → AR Tryd.prog R rc_size_of (initSt args) (Fin rr_size_of v)) : PC Tryd.prog G 52 args v :=
  PC_of Tryd.func52 rfl (by kernel_rfl) (rc := rc_size_of) (by kernel_rfl) (rs := rr_size_of) (by kernel_rfl) hn (fun R _ hG => h R hG)

theorem pb_size_of {G : Nat → Option (List AV)} {objs objs' : List (Nat × AObj)} {args : List AV} {v : AV} (hn : args.length ≤ Tryd.f52.ntmps) (h : ∀ R : Run, R.G = G → AR Tryd.prog R rc_size_of ⟨iniT 0 args, objs⟩ (FinB rr_size_of v objs')) : PB Tryd.prog G 52 objs args v objs' :=
  PB_of Tryd.func52 rfl (by kernel_rfl) (rc := rc_size_of) (by kernel_rfl) (rs := rr_size_of) (by kernel_rfl) hn (fun R _ hG => h R hG)

theorem pp_size_of {G : Nat → Option (List AV)} {args : List AV} {ch : List PanicEntry} (hn : args.length ≤ Tryd.f52.ntmps) (h : ∀ R : Run, R.G = G → AR Tryd.prog R rc_size_of (initSt args) (FinP ch)) : PPC Tryd.prog G 52 args ch :=
  PPC_of Tryd.func52 rfl (by kernel_rfl) (rc := rc_size_of) (by kernel_rfl) hn (fun R _ hG => h R hG)

def rc_size_unit_exact : RCode :=
  .seq (.reg 0 false [
    { d := some 2, op := .box (.t 0) },
    { d := some 4, op := .mov (.c (.bool false)) }])
  (.seq (.reg 1 false [
    { d := some 5, op := .mov (.t 1) },
    { d := some 6, op := .mkf (.func 83) [] [.t 2] },
    { d := some 7, op := .call 80 [.t 5, .t 6] },
    { d := some 8, op := .un .not (.t 7) },
    { d := some 4, op := .mov (.t 8) }])
  (.ret))
def rr_size_unit_exact : List RRes := [.t 4]
theorem pc_size_unit_exact {G : Nat → Option (List AV)} {args : List AV} {v : AV} (hn : args.length ≤ Tryd.f60.ntmps) (h : ∀ R : Run, R.G = G → AR Tryd.prog R rc_size_unit_exact (initSt args) (Fin rr_size_unit_exact v)) : PC Tryd.prog G 60 args v :=
  PC_of Tryd.func60 rfl (by kernel_rfl) (rc := rc_size_unit_exact) (by kernel_rfl) (rs := rr_size_unit_exact) (by kernel_rfl) hn (fun R _ hG => h R hG)

theorem pb_size_unit_exact {G : Nat → Option (List AV)} {objs objs' : List (Nat × AObj)} {args : List AV} {v : AV} (hn : args.length ≤ Tryd.f60.ntmps) (h : ∀ R : Run, R.G = G → AR Tryd.prog R rc_size_unit_exact ⟨iniT 0 args, objs⟩ (FinB rr_size_unit_exact v objs')) : PB Tryd.prog G 60 objs args v objs' :=
  PB_of Tryd.func60 rfl (by kernel_rfl) (rc := rc_size_unit_exact) (by kernel_rfl) (rs := rr_size_unit_exact) (by kernel_rfl) hn (fun R _ hG => h R hG)

theorem pp_size_unit_exact {G : Nat → Option (List AV)} {args : List AV} {ch : List PanicEntry} (hn : args.length ≤ Tryd.f60.ntmps) (h : ∀ R : Run, R.G = G → AR Tryd.prog R rc_size_unit_exact (initSt args) (FinP ch)) : PPC Tryd.prog G 60 args ch :=
  PPC_of Tryd.func60 rfl (by kernel_rfl) (rc := rc_size_unit_exact) (by kernel_rfl) hn (fun R _ hG => h R hG)

def rc_size_unit_exact_1 : RCode :=
  .seq (.reg 0 false [
    { d := some 3, op := .mov (.c (.bool false)) }])
  (.seq (.reg 1 false [
    { d := some 4, op := .mov (.t 0) },
    { d := some 5, op := .faddr 0 (.t 1) },
    { d := some 6, op := .load false 1 (.t 5) },
    { d := some 7, op := .bin .rem (.t 4) (.t 6) },
    { d := some 8, op := .bin .neq (.t 7) (.c (.int .i64 0)) },
    { d := some 3, op := .mov (.t 8) }])
  (.ret))
def rr_size_unit_exact_1 : List RRes := [.t 3]
theorem pc_size_unit_exact_1 {G : Nat → Option (List AV)} {args : List AV} {v : AV} (hn : args.length ≤ Tryd.f83.ntmps) (h : ∀ R : Run, R.G = G → AR Tryd.prog R rc_size_unit_exact_1 (initSt args) (Fin rr_size_unit_exact_1 v)) : PC Tryd.prog G 83 args v :=
  PC_of Tryd.func83 rfl (by kernel_rfl) (rc := rc_size_unit_exact_1) (by kernel_rfl) (rs := rr_size_unit_exact_1) (by kernel_rfl) hn (fun R _ hG => h R hG)

theorem pb_size_unit_exact_1 {G : Nat → Option (List AV)} {objs objs' : List (Nat × AObj)} {args : List AV} {v : AV} (hn : args.length ≤ Tryd.f83.ntmps) (h : ∀ R : Run, R.G = G → AR Tryd.prog R rc_size_unit_exact_1 ⟨iniT 0 args, objs⟩ (FinB rr_size_unit_exact_1 v objs')) : PB Tryd.prog G 83 objs args v objs' :=
  PB_of Tryd.func83 rfl (by kernel_rfl) (rc := rc_size_unit_exact_1) (by kernel_rfl) (rs := rr_size_unit_exact_1) (by kernel_rfl) hn (fun R _ hG => h R hG)

theorem pp_size_unit_exact_1 {G : Nat → Option (List AV)} {args : List AV} {ch : List PanicEntry} (hn : args.length ≤ Tryd.f83.ntmps) (h : ∀ R : Run, R.G = G → AR Tryd.prog R rc_size_unit_exact_1 (initSt args) (FinP ch)) : PPC Tryd.prog G 83 args ch :=
  PPC_of Tryd.func83 rfl (by kernel_rfl) (rc := rc_size_unit_exact_1) (by kernel_rfl) hn (fun R _ hG => h R hG)

def rc_size_Share : RCode :=
  .seq (.reg 0 false [
    { d := some 4, op := .box (.t 1) },
    { d := some 6, op := .alloc [.int .i64 0, .int .i64 0, .int .i64 0] },
    { d := some 7, op := .alloc [.int .i64 0, .int .i64 0, .int .i64 0] },
    { d := some 8, op := .mov (.c (.int .i64 0)) }])
  (.seq (.seq (.reg 1 false [
    { d := some 13, op := .mov (.t 0) },
    { d := some 14, op := .bsl false 1 1 [.int .i64 0] [(0, .t 13)] },
    { d := some 15, op := .call 55 [.c (.int .i64 0), .c (.int .i64 1000000000), .t 14] },
    { d := some 16, op := .un .not (.t 15) },
    { d := some 17, op := .mov (.t 16) },
    { d := some 18, op := .load true 2 (.t 4), guard := some (17, false) },
    { d := some 19, op := .call 58 [.t 18], guard := some (17, false) },
    { d := some 20, op := .bin .neq (.t 19) (.c (.int .i64 0)), guard := some (17, false) },
    { d := some 21, op := .pick (.t 17) (.c (.bool true)) (.t 20) }])
  (.cond (.t 21)
    (.seq (.reg 2 false [
      { d := some 22, op := .build [.int .i64 0, .int .i64 0, .int .i64 0] [] },
      { d := some 23, op := .build [.int .i64 0, .int .i64 0, .int .i64 0] [] },
      { d := none, op := .store 3 (.t 6) (.t 22) },
      { d := none, op := .store 3 (.t 7) (.t 23) },
      { d := some 8, op := .mov (.c (.int .i64 2)) }])
    (.ret))
    (.skip)))
  (.seq (.reg 3 false [
    { d := some 25, op := .mov (.t 2) },
    { d := some 26, op := .call 52 [.t 25] },
    { d := some 24, op := .mov (.t 26) },
    { d := some 27, op := .ext 0 (.t 24) },
    { d := some 28, op := .ext 1 (.t 24) },
    { d := some 9, op := .alloc [.int .i64 0, .int .i64 0, .str ⟨#[]⟩, .nilf] },
    { d := none, op := .store 4 (.t 9) (.t 27) },
    { d := some 8, op := .mov (.t 28) }])
  (.seq (.seq (.reg 4 false [
    { d := some 29, op := .mov (.t 8) },
    { d := some 30, op := .bin .neq (.t 29) (.c (.int .i64 0)) }])
  (.cond (.t 30)
    (.seq (.reg 5 false [
      { d := some 31, op := .build [.int .i64 0, .int .i64 0, .int .i64 0] [] },
      { d := some 32, op := .build [.int .i64 0, .int .i64 0, .int .i64 0] [] },
      { d := some 33, op := .mov (.t 8) },
      { d := none, op := .store 3 (.t 6) (.t 31) },
      { d := none, op := .store 3 (.t 7) (.t 32) },
      { d := some 8, op := .mov (.t 33) }])
    (.ret))
    (.skip)))
  (.seq (.seq (.reg 6 false [
    { d := some 34, op := .load true 4 (.t 9) },
    { d := some 35, op := .mov (.t 0) },
    { d := some 36, op := .bsl false 1 1 [.int .i64 0] [(0, .t 35)] },
    { d := some 37, op := .call 60 [.t 34, .t 36] },
    { d := some 38, op := .un .not (.t 37) }])
  (.cond (.t 38)
    (.seq (.reg 7 false [
      { d := some 39, op := .build [.int .i64 0, .int .i64 0, .int .i64 0] [] },
      { d := some 40, op := .build [.int .i64 0, .int .i64 0, .int .i64 0] [] },
      { d := none, op := .store 3 (.t 6) (.t 39) },
      { d := none, op := .store 3 (.t 7) (.t 40) },
      { d := some 8, op := .mov (.c (.int .i64 12)) }])
    (.ret))
    (.skip)))
  (.seq (.reg 8 false [
    { d := some 42, op := .faddr 3 (.t 9) },
    { d := some 43, op := .load false 1 (.t 42) },
    { d := some 44, op := .faddr 1 (.t 4) },
    { d := some 45, op := .load false 1 (.t 44) },
    { d := some 46, op := .faddr 0 (.t 4) },
    { d := some 47, op := .load false 1 (.t 46) },
    { d := some 48, op := .bin .sub (.t 45) (.t 47) },
    { d := some 49, op := .bin .quo (.t 48) (.c (.int .i64 2)) },
    { d := some 50, op := .faddr 0 (.t 9) },
    { d := some 51, op := .load false 1 (.t 50) },
    { d := some 52, op := .callv (.t 43) [.t 49, .t 51] },
    { d := some 41, op := .mov (.t 52) },
    { d := some 53, op := .ext 0 (.t 41) },
    { d := some 54, op := .ext 1 (.t 41) },
    { d := some 10, op := .mov (.t 53) },
    { d := some 11, op := .mov (.t 54) }])
  (.seq (.reg 9 false [
    { d := some 55, op := .mov (.t 0) },
    { d := some 56, op := .mov (.t 0) },
    { d := some 57, op := .mov (.t 0) },
    { d := some 58, op := .mov (.t 10) },
    { d := some 59, op := .bin .add (.t 57) (.t 58) },
    { d := some 60, op := .build [.int .i64 0, .int .i64 0, .int .i64 0] [(0, 1, .t 55), (1, 1, .t 56), (2, 1, .t 59)] },
    { d := none, op := .store 3 (.t 6) (.t 60) }])
  (.seq (.seq (.reg 10 false [
    { d := some 61, op := .faddr 2 (.t 6) },
    { d := some 62, op := .load false 1 (.t 61) },
    { d := some 63, op := .bin .gtr (.t 62) (.c (.int .i64 1000000000)) }])
  (.cond (.t 63)
    (.seq (.reg 11 false [
      { d := some 64, op := .build [.int .i64 0, .int .i64 0, .int .i64 0] [] },
      { d := some 65, op := .build [.int .i64 0, .int .i64 0, .int .i64 0] [] },
      { d := none, op := .store 3 (.t 6) (.t 64) },
      { d := none, op := .store 3 (.t 7) (.t 65) },
      { d := some 8, op := .mov (.c (.int .i64 6)) }])
    (.ret))
    (.skip)))
  (.seq (.reg 12 false [
    { d := some 67, op := .load true 3 (.t 6) },
    { d := some 68, op := .load true 2 (.t 4) },
    { d := some 69, op := .call 26 [.t 67, .t 68] },
    { d := some 66, op := .mov (.t 69) },
    { d := some 70, op := .ext 0 (.t 66) },
    { d := some 71, op := .ext 1 (.t 66) },
    { d := some 12, op := .alloc [.int .i64 0, .int .i64 0, .int .i64 0] },
    { d := none, op := .store 3 (.t 12) (.t 70) },
    { d := some 8, op := .mov (.t 71) }])
  (.seq (.seq (.reg 13 false [
    { d := some 72, op := .mov (.t 8) },
    { d := some 73, op := .bin .eql (.t 72) (.c (.int .i64 0)) }])
  (.cond (.t 73)
    (.reg 14 false [
      { d := some 75, op := .load true 3 (.t 12) },
      { d := some 76, op := .mov (.t 2) },
      { d := some 77, op := .call 16 [.t 75, .t 76] },
      { d := some 74, op := .mov (.t 77) },
      { d := some 78, op := .ext 0 (.t 74) },
      { d := some 79, op := .ext 1 (.t 74) },
      { d := none, op := .store 3 (.t 7) (.t 78) },
      { d := some 8, op := .mov (.t 79) }])
    (.skip)))
  (.seq (.seq (.reg 15 false [
    { d := some 80, op := .mov (.t 8) },
    { d := some 81, op := .bin .neq (.t 80) (.c (.int .i64 0)) }])
  (.cond (.t 81)
    (.seq (.reg 16 false [
      { d := some 82, op := .build [.int .i64 0, .int .i64 0, .int .i64 0] [] },
      { d := some 83, op := .build [.int .i64 0, .int .i64 0, .int .i64 0] [] },
      { d := some 84, op := .mov (.t 8) },
      { d := none, op := .store 3 (.t 6) (.t 82) },
      { d := none, op := .store 3 (.t 7) (.t 83) },
      { d := some 8, op := .mov (.t 84) }])
    (.ret))
    (.skip)))
  (.seq (.reg 17 true [
    { d := some 85, op := .load true 3 (.t 6), aft := [] },
    { d := some 86, op := .load true 3 (.t 7), aft := [] },
    { d := none, op := .store 3 (.t 6) (.t 85), aft := [0, 0] },
    { d := none, op := .store 3 (.t 7) (.t 86), aft := [1, 2, 0, 1, 2] },
    { d := some 8, op := .mov (.c (.int .i64 0)), aft := [3, 0, 1, 2, 3] }])
  (.ret))))))))))))
def rr_size_Share : List RRes := [.c 6 true 3, .c 7 true 3, .t 8]
theorem pc_size_Share {G : Nat → Option (List AV)} {args : List AV} {v : AV} (hn : args.length ≤ Tryd.f28.ntmps) (h : ∀ R : Run, R.G = G → AR Tryd.prog R rc_size_Share (initSt args) (Fin rr_size_Share v)) : PC Tryd.prog G 28 args v :=
  PC_of Tryd.func28 rfl (by kernel_rfl) (rc := rc_size_Share) (by kernel_rfl) (rs := rr_size_Share) (by kernel_rfl) hn (fun R _ hG => h R hG)

theorem pb_size_Share {G : Nat → Option (List AV)} {objs objs' : List (Nat × AObj)} {args : List AV} {v : AV} (hn : args.length ≤ Tryd.f28.ntmps) (h : ∀ R : Run, R.G = G → AR Tryd.prog R rc_size_Share ⟨iniT 0 args, objs⟩ (FinB rr_size_Share v objs')) : PB Tryd.prog G 28 objs args v objs' :=
  PB_of Tryd.func28 rfl (by kernel_rfl) (rc := rc_size_Share) (by kernel_rfl) (rs := rr_size_Share) (by kernel_rfl) hn (fun R _ hG => h R hG)

theorem pp_size_Share {G : Nat → Option (List AV)} {args : List AV} {ch : List PanicEntry} (hn : args.length ≤ Tryd.f28.ntmps) (h : ∀ R : Run, R.G = G → AR Tryd.prog R rc_size_Share (initSt args) (FinP ch)) : PPC Tryd.prog G 28 args ch :=
  PPC_of Tryd.func28 rfl (by kernel_rfl) (rc := rc_size_Share) (by kernel_rfl) hn (fun R _ hG => h R hG)

def rc_size_Meet : RCode :=
  .seq (.reg 0 false [
    { d := some 2, op := .alloc [.int .i64 0, .int .i64 0] },
    { d := some 3, op := .mov (.c (.int .i64 0)) }])
  (.seq (.seq (.reg 1 false [
    { d := some 8, op := .mov (.t 0) },
    { d := some 9, op := .len (.t 8) },
    { d := some 10, op := .bin .gtr (.t 9) (.c (.int .i64 20)) }])
  (.cond (.t 10)
    (.seq (.reg 2 false [
      { d := some 11, op := .build [.int .i64 0, .int .i64 0] [] },
      { d := none, op := .store 2 (.t 2) (.t 11) },
      { d := some 3, op := .mov (.c (.int .i64 4)) }])
    (.ret))
    (.skip)))
  (.seq (.reg 3 false [
    { d := some 12, op := .build [.int .i64 0, .int .i64 0] [(1, 1, .c (.int .i64 1000000000))] },
    { d := some 4, op := .alloc [.int .i64 0, .int .i64 0] },
    { d := none, op := .store 2 (.t 4) (.t 12) }])
  (.seq (.seq (.reg 4 false [
    { d := some 13, op := .mov (.t 0) },
    { d := some 14, op := .len (.t 13) },
    { d := some 15, op := .mov (.c (.int .i64 0)) }])
  (.block 0
    (.loop
      (.seq (.reg 5 false [
        { d := some 16, op := .bin .lss (.t 15) (.t 14) }])
      (.seq (.cond (.t 16)
        (.skip)
        (.exit 0))
      (.seq (.block 1
        (.seq (.reg 6 false [
          { d := some 17, op := .iaddr 3 (.t 13) (.t 15) },
          { d := some 18, op := .load true 3 (.t 17) },
          { d := some 6, op := .alloc [.int .i64 0, .int .i64 0, .int .i64 0] },
          { d := none, op := .store 3 (.t 6) (.t 18) }])
        (.seq (.seq (.reg 7 false [
          { d := some 19, op := .load true 3 (.t 6) },
          { d := some 20, op := .call 39 [.t 19] },
          { d := some 7, op := .mov (.t 20) }])
        (.seq (.reg 8 false [
          { d := some 21, op := .mov (.t 7) },
          { d := some 22, op := .bin .neq (.t 21) (.c (.int .i64 0)) }])
        (.cond (.t 22)
          (.seq (.reg 9 false [
            { d := some 23, op := .build [.int .i64 0, .int .i64 0] [] },
            { d := some 24, op := .mov (.t 7) },
            { d := none, op := .store 2 (.t 2) (.t 23) },
            { d := some 3, op := .mov (.t 24) }])
          (.ret))
          (.skip))))
        (.reg 10 false [
          { d := some 25, op := .faddr 0 (.t 4) },
          { d := some 26, op := .load false 1 (.t 25) },
          { d := some 27, op := .faddr 1 (.t 6) },
          { d := some 28, op := .load false 1 (.t 27) },
          { d := some 29, op := .mx true (.t 26) [.t 28] },
          { d := some 30, op := .faddr 1 (.t 4) },
          { d := some 31, op := .load false 1 (.t 30) },
          { d := some 32, op := .faddr 2 (.t 6) },
          { d := some 33, op := .load false 1 (.t 32) },
          { d := some 34, op := .mx false (.t 31) [.t 33] },
          { d := some 35, op := .build [.int .i64 0, .int .i64 0] [(0, 1, .t 29), (1, 1, .t 34)] },
          { d := none, op := .store 2 (.t 4) (.t 35) }]))))
      (.reg 11 false [
        { d := some 36, op := .bin .add (.t 15) (.c (.int .i64 1)) },
        { d := some 15, op := .mov (.t 36) }])))))))
  (.seq (.seq (.reg 12 false [
    { d := some 37, op := .mov (.t 0) },
    { d := some 38, op := .len (.t 37) },
    { d := some 39, op := .bin .eql (.t 38) (.c (.int .i64 0)) },
    { d := some 40, op := .mov (.t 39) },
    { d := some 41, op := .faddr 0 (.t 4), guard := some (40, false) },
    { d := some 42, op := .load false 1 (.t 41), guard := some (40, false) },
    { d := some 43, op := .faddr 1 (.t 4), guard := some (40, false) },
    { d := some 44, op := .load false 1 (.t 43), guard := some (40, false) },
    { d := some 45, op := .bin .gtr (.t 42) (.t 44), guard := some (40, false) },
    { d := some 46, op := .pick (.t 40) (.c (.bool true)) (.t 45) }])
  (.cond (.t 46)
    (.seq (.reg 13 false [
      { d := some 47, op := .build [.int .i64 0, .int .i64 0] [] },
      { d := none, op := .store 2 (.t 2) (.t 47) },
      { d := some 3, op := .mov (.c (.int .i64 6)) }])
    (.ret))
    (.skip)))
  (.seq (.reg 14 false [
    { d := some 48, op := .load true 2 (.t 4) },
    { d := none, op := .store 2 (.t 2) (.t 48) },
    { d := some 3, op := .mov (.c (.int .i64 0)) }])
  (.ret))))))
def rr_size_Meet : List RRes := [.c 2 true 2, .t 3]
theorem pc_size_Meet {G : Nat → Option (List AV)} {args : List AV} {v : AV} (hn : args.length ≤ Tryd.f30.ntmps) (h : ∀ R : Run, R.G = G → AR Tryd.prog R rc_size_Meet (initSt args) (Fin rr_size_Meet v)) : PC Tryd.prog G 30 args v :=
  PC_of Tryd.func30 rfl (by kernel_rfl) (rc := rc_size_Meet) (by kernel_rfl) (rs := rr_size_Meet) (by kernel_rfl) hn (fun R _ hG => h R hG)

theorem pb_size_Meet {G : Nat → Option (List AV)} {objs objs' : List (Nat × AObj)} {args : List AV} {v : AV} (hn : args.length ≤ Tryd.f30.ntmps) (h : ∀ R : Run, R.G = G → AR Tryd.prog R rc_size_Meet ⟨iniT 0 args, objs⟩ (FinB rr_size_Meet v objs')) : PB Tryd.prog G 30 objs args v objs' :=
  PB_of Tryd.func30 rfl (by kernel_rfl) (rc := rc_size_Meet) (by kernel_rfl) (rs := rr_size_Meet) (by kernel_rfl) hn (fun R _ hG => h R hG)

theorem pp_size_Meet {G : Nat → Option (List AV)} {args : List AV} {ch : List PanicEntry} (hn : args.length ≤ Tryd.f30.ntmps) (h : ∀ R : Run, R.G = G → AR Tryd.prog R rc_size_Meet (initSt args) (FinP ch)) : PPC Tryd.prog G 30 args ch :=
  PPC_of Tryd.func30 rfl (by kernel_rfl) (rc := rc_size_Meet) (by kernel_rfl) hn (fun R _ hG => h R hG)

def rc_size_rounded : RCode :=
  .seq (.reg 0 false [
    { d := some 4, op := .mov (.c (.int .i64 0)) },
    { d := some 5, op := .mov (.c (.int .i64 0)) }])
  (.seq (.reg 1 false [
    { d := some 6, op := .mov (.t 0) },
    { d := some 7, op := .mov (.t 0) },
    { d := some 8, op := .mov (.t 1) },
    { d := some 9, op := .bin .rem (.t 7) (.t 8) },
    { d := some 10, op := .bin .sub (.t 6) (.t 9) },
    { d := some 4, op := .mov (.t 10) }])
  (.seq (.seq (.reg 2 false [
    { d := some 11, op := .mov (.t 4) },
    { d := some 12, op := .mov (.t 0) },
    { d := some 13, op := .bin .eql (.t 11) (.t 12) }])
  (.cond (.t 13)
    (.seq (.reg 3 false [
      { d := some 14, op := .mov (.t 0) },
      { d := some 15, op := .mov (.t 0) },
      { d := some 4, op := .mov (.t 14) },
      { d := some 5, op := .mov (.t 15) }])
    (.ret))
    (.skip)))
  (.seq (.reg 4 false [
    { d := some 16, op := .mov (.t 4) },
    { d := some 17, op := .mov (.t 4) },
    { d := some 18, op := .mov (.t 1) },
    { d := some 19, op := .bin .add (.t 17) (.t 18) },
    { d := some 4, op := .mov (.t 16) },
    { d := some 5, op := .mov (.t 19) }])
  (.ret))))
def rr_size_rounded : List RRes := [.t 4, .t 5]
theorem pc_size_rounded {G : Nat → Option (List AV)} {args : List AV} {v : AV} (hn : args.length ≤ Tryd.f143.ntmps) (h : ∀ R : Run, R.G = G → AR Tryd.prog R rc_size_rounded (initSt args) (Fin rr_size_rounded v)) : PC Tryd.prog G 143 args v :=
  PC_of Tryd.func143 rfl (by kernel_rfl) (rc := rc_size_rounded) (by kernel_rfl) (rs := rr_size_rounded) (by kernel_rfl) hn (fun R _ hG => h R hG)

theorem pb_size_rounded {G : Nat → Option (List AV)} {objs objs' : List (Nat × AObj)} {args : List AV} {v : AV} (hn : args.length ≤ Tryd.f143.ntmps) (h : ∀ R : Run, R.G = G → AR Tryd.prog R rc_size_rounded ⟨iniT 0 args, objs⟩ (FinB rr_size_rounded v objs')) : PB Tryd.prog G 143 objs args v objs' :=
  PB_of Tryd.func143 rfl (by kernel_rfl) (rc := rc_size_rounded) (by kernel_rfl) (rs := rr_size_rounded) (by kernel_rfl) hn (fun R _ hG => h R hG)

theorem pp_size_rounded {G : Nat → Option (List AV)} {args : List AV} {ch : List PanicEntry} (hn : args.length ≤ Tryd.f143.ntmps) (h : ∀ R : Run, R.G = G → AR Tryd.prog R rc_size_rounded (initSt args) (FinP ch)) : PPC Tryd.prog G 143 args ch :=
  PPC_of Tryd.func143 rfl (by kernel_rfl) (rc := rc_size_rounded) (by kernel_rfl) hn (fun R _ hG => h R hG)

def rc_size_drawing_again : RCode :=
  .seq (.reg 0 false [
    { d := some 2, op := .box (.t 0) },
    { d := some 3, op := .box (.t 1) },
    { d := some 4, op := .alloc [.int .i64 0, .int .i64 0, .int .i64 0] },
    { d := some 5, op := .mov (.c (.bool false)) }])
  (.seq (.reg 1 false [
    { d := some 13, op := .faddr 3 (.t 3) },
    { d := some 14, op := .load false 1 (.t 13) },
    { d := some 15, op := .faddr 0 (.t 2) },
    { d := some 16, op := .faddr 1 (.t 15) },
    { d := some 17, op := .load false 1 (.t 16) },
    { d := some 18, op := .faddr 0 (.t 3) },
    { d := some 19, op := .load false 1 (.t 18) },
    { d := some 20, op := .callv (.t 14) [.t 17, .t 19] },
    { d := some 12, op := .mov (.t 20) },
    { d := some 21, op := .ext 0 (.t 12) },
    { d := some 22, op := .ext 1 (.t 12) },
    { d := some 6, op := .mov (.t 21) },
    { d := some 7, op := .mov (.t 22) }])
  (.seq (.reg 2 false [
    { d := some 24, op := .faddr 3 (.t 3) },
    { d := some 25, op := .load false 1 (.t 24) },
    { d := some 26, op := .faddr 0 (.t 2) },
    { d := some 27, op := .faddr 2 (.t 26) },
    { d := some 28, op := .load false 1 (.t 27) },
    { d := some 29, op := .faddr 0 (.t 3) },
    { d := some 30, op := .load false 1 (.t 29) },
    { d := some 31, op := .callv (.t 25) [.t 28, .t 30] },
    { d := some 23, op := .mov (.t 31) },
    { d := some 32, op := .ext 0 (.t 23) },
    { d := some 33, op := .ext 1 (.t 23) },
    { d := some 8, op := .mov (.t 32) },
    { d := some 9, op := .mov (.t 33) }])
  (.seq (.reg 3 false [
    { d := some 35, op := .faddr 3 (.t 3) },
    { d := some 36, op := .load false 1 (.t 35) },
    { d := some 37, op := .faddr 0 (.t 2) },
    { d := some 38, op := .faddr 0 (.t 37) },
    { d := some 39, op := .load false 1 (.t 38) },
    { d := some 40, op := .faddr 0 (.t 3) },
    { d := some 41, op := .load false 1 (.t 40) },
    { d := some 42, op := .callv (.t 36) [.t 39, .t 41] },
    { d := some 34, op := .mov (.t 42) },
    { d := some 43, op := .ext 0 (.t 34) },
    { d := some 44, op := .ext 1 (.t 34) },
    { d := some 10, op := .mov (.t 43) },
    { d := some 11, op := .mov (.t 44) }])
  (.seq (.seq (.reg 4 false [
    { d := some 45, op := .mov (.t 11) },
    { d := some 46, op := .bin .gtr (.t 45) (.c (.int .i64 1000000000)) },
    { d := some 47, op := .mov (.t 46) },
    { d := some 48, op := .faddr 0 (.t 2), guard := some (47, false) },
    { d := some 49, op := .faddr 0 (.t 48), guard := some (47, false) },
    { d := some 50, op := .load false 1 (.t 49), guard := some (47, false) },
    { d := some 51, op := .mov (.t 10), guard := some (47, false) },
    { d := some 52, op := .bin .sub (.t 50) (.t 51), guard := some (47, false) },
    { d := some 53, op := .mov (.t 11), guard := some (47, false) },
    { d := some 54, op := .faddr 0 (.t 2), guard := some (47, false) },
    { d := some 55, op := .faddr 0 (.t 54), guard := some (47, false) },
    { d := some 56, op := .load false 1 (.t 55), guard := some (47, false) },
    { d := some 57, op := .bin .sub (.t 53) (.t 56), guard := some (47, false) },
    { d := some 58, op := .bin .leq (.t 52) (.t 57), guard := some (47, false) },
    { d := some 59, op := .pick (.t 47) (.c (.bool true)) (.t 58) }])
  (.cond (.t 59)
    (.reg 5 false [
      { d := some 60, op := .mov (.t 10) },
      { d := some 11, op := .mov (.t 60) }])
    (.skip)))
  (.seq (.reg 6 false [
    { d := some 61, op := .mov (.t 11) },
    { d := some 62, op := .mov (.t 7) },
    { d := some 63, op := .mov (.t 8) },
    { d := some 64, op := .build [.int .i64 0, .int .i64 0, .int .i64 0] [(0, 1, .t 61), (1, 1, .t 62), (2, 1, .t 63)] },
    { d := some 65, op := .build [.int .i64 0, .int .i64 0, .int .i64 0] [(0, 3, .t 64)] },
    { d := some 66, op := .mov (.t 7) },
    { d := some 67, op := .mov (.t 8) },
    { d := some 68, op := .bin .leq (.t 66) (.t 67) },
    { d := none, op := .store 3 (.t 4) (.t 65) },
    { d := some 5, op := .mov (.t 68) }])
  (.ret))))))
def rr_size_drawing_again : List RRes := [.c 4 true 3, .t 5]
theorem pc_size_drawing_again {G : Nat → Option (List AV)} {args : List AV} {v : AV} (hn : args.length ≤ Tryd.f79.ntmps) (h : ∀ R : Run, R.G = G → AR Tryd.prog R rc_size_drawing_again (initSt args) (Fin rr_size_drawing_again v)) : PC Tryd.prog G 79 args v :=
  PC_of Tryd.func79 rfl (by kernel_rfl) (rc := rc_size_drawing_again) (by kernel_rfl) (rs := rr_size_drawing_again) (by kernel_rfl) hn (fun R _ hG => h R hG)

theorem pb_size_drawing_again {G : Nat → Option (List AV)} {objs objs' : List (Nat × AObj)} {args : List AV} {v : AV} (hn : args.length ≤ Tryd.f79.ntmps) (h : ∀ R : Run, R.G = G → AR Tryd.prog R rc_size_drawing_again ⟨iniT 0 args, objs⟩ (FinB rr_size_drawing_again v objs')) : PB Tryd.prog G 79 objs args v objs' :=
  PB_of Tryd.func79 rfl (by kernel_rfl) (rc := rc_size_drawing_again) (by kernel_rfl) (rs := rr_size_drawing_again) (by kernel_rfl) hn (fun R _ hG => h R hG)

theorem pp_size_drawing_again {G : Nat → Option (List AV)} {args : List AV} {ch : List PanicEntry} (hn : args.length ≤ Tryd.f79.ntmps) (h : ∀ R : Run, R.G = G → AR Tryd.prog R rc_size_drawing_again (initSt args) (FinP ch)) : PPC Tryd.prog G 79 args ch :=
  PPC_of Tryd.func79 rfl (by kernel_rfl) (rc := rc_size_drawing_again) (by kernel_rfl) hn (fun R _ hG => h R hG)

def rc_size_Exact : RCode :=
  .seq (.reg 0 false [
    { d := some 1, op := .box (.t 0) },
    { d := some 2, op := .mov (.c (.int .u8 0)) },
    { d := some 3, op := .mov (.c (.int .i64 0)) }])
  (.seq (.seq (.reg 1 false [
    { d := some 8, op := .load true 3 (.t 1) },
    { d := some 9, op := .call 39 [.t 8] },
    { d := some 4, op := .mov (.t 9) }])
  (.seq (.reg 2 false [
    { d := some 10, op := .mov (.t 4) },
    { d := some 11, op := .bin .neq (.t 10) (.c (.int .i64 0)) }])
  (.cond (.t 11)
    (.seq (.reg 3 false [
      { d := some 12, op := .mov (.t 4) },
      { d := some 2, op := .mov (.c (.int .u8 0)) },
      { d := some 3, op := .mov (.t 12) }])
    (.ret))
    (.skip))))
  (.seq (.reg 4 false [
    { d := some 5, op := .mov (.c (.int .u8 0)) }])
  (.seq (.seq (.reg 5 false [
    { d := some 13, op := .load true 12 (.g 0) },
    { d := some 14, op := .mov (.c (.int .i64 0)) }])
  (.block 0
    (.loop
      (.seq (.reg 6 false [
        { d := some 15, op := .bin .lss (.t 14) (.c (.int .i64 3)) }])
      (.seq (.cond (.t 15)
        (.skip)
        (.exit 0))
      (.seq (.block 1
        (.seq (.reg 7 false [
          { d := some 16, op := .mov (.t 14) },
          { d := some 17, op := .vop (.aidx true 3 4) [(.t 13), (.t 14)] },
          { d := some 7, op := .alloc [.int .i64 0, .int .i64 0, .str ⟨#[]⟩, .nilf] },
          { d := some 6, op := .mov (.t 16) },
          { d := none, op := .store 4 (.t 7) (.t 17) }])
        (.seq (.reg 8 false [
          { d := some 18, op := .mov (.t 6) },
          { d := some 19, op := .bin .gtr (.t 18) (.c (.int .i64 0)) },
          { d := some 20, op := .mov (.t 19) },
          { d := some 21, op := .load true 4 (.t 7), guard := some (20, true) },
          { d := some 22, op := .faddr 0 (.t 1), guard := some (20, true) },
          { d := some 23, op := .load false 1 (.t 22), guard := some (20, true) },
          { d := some 24, op := .faddr 1 (.t 1), guard := some (20, true) },
          { d := some 25, op := .load false 1 (.t 24), guard := some (20, true) },
          { d := some 26, op := .faddr 2 (.t 1), guard := some (20, true) },
          { d := some 27, op := .load false 1 (.t 26), guard := some (20, true) },
          { d := some 28, op := .bsl false 1 3 [.int .i64 0, .int .i64 0, .int .i64 0] [(0, .t 23), (1, .t 25), (2, .t 27)], guard := some (20, true) },
          { d := some 29, op := .call 60 [.t 21, .t 28], guard := some (20, true) },
          { d := some 30, op := .pick (.t 20) (.t 29) (.c (.bool false)) }])
        (.cond (.t 30)
          (.reg 9 false [
            { d := some 31, op := .mov (.t 5) },
            { d := some 32, op := .mov (.t 6) },
            { d := some 33, op := .conv .u8 (.t 32) },
            { d := some 34, op := .bin .add (.t 31) (.t 33) },
            { d := some 5, op := .mov (.t 34) }])
          (.skip)))))
      (.reg 10 false [
        { d := some 35, op := .bin .add (.t 14) (.c (.int .i64 1)) },
        { d := some 14, op := .mov (.t 35) }])))))))
  (.seq (.reg 11 false [
    { d := some 36, op := .mov (.t 5) },
    { d := some 2, op := .mov (.t 36) },
    { d := some 3, op := .mov (.c (.int .i64 0)) }])
  (.ret)))))
def rr_size_Exact : List RRes := [.t 2, .t 3]
theorem pc_size_Exact {G : Nat → Option (List AV)} {args : List AV} {v : AV} (hn : args.length ≤ Tryd.f33.ntmps) (h : ∀ R : Run, R.G = G → AR Tryd.prog R rc_size_Exact (initSt args) (Fin rr_size_Exact v)) : PC Tryd.prog G 33 args v :=
  PC_of Tryd.func33 rfl (by kernel_rfl) (rc := rc_size_Exact) (by kernel_rfl) (rs := rr_size_Exact) (by kernel_rfl) hn (fun R _ hG => h R hG)

theorem pb_size_Exact {G : Nat → Option (List AV)} {objs objs' : List (Nat × AObj)} {args : List AV} {v : AV} (hn : args.length ≤ Tryd.f33.ntmps) (h : ∀ R : Run, R.G = G → AR Tryd.prog R rc_size_Exact ⟨iniT 0 args, objs⟩ (FinB rr_size_Exact v objs')) : PB Tryd.prog G 33 objs args v objs' :=
  PB_of Tryd.func33 rfl (by kernel_rfl) (rc := rc_size_Exact) (by kernel_rfl) (rs := rr_size_Exact) (by kernel_rfl) hn (fun R _ hG => h R hG)

theorem pp_size_Exact {G : Nat → Option (List AV)} {args : List AV} {ch : List PanicEntry} (hn : args.length ≤ Tryd.f33.ntmps) (h : ∀ R : Run, R.G = G → AR Tryd.prog R rc_size_Exact (initSt args) (FinP ch)) : PPC Tryd.prog G 33 args ch :=
  PPC_of Tryd.func33 rfl (by kernel_rfl) (rc := rc_size_Exact) (by kernel_rfl) hn (fun R _ hG => h R hG)

def rc_law01_SizeFits : RCode :=
  .seq (.reg 0 false [
    { d := some 6, op := .box (.t 0) },
    { d := some 7, op := .box (.t 1) },
    { d := some 9, op := .box (.t 3) },
    { d := some 12, op := .mov (.c (.bool false)) }])
  (.seq (.seq (.reg 1 false [
    { d := some 34, op := .mov (.t 5) },
    { d := some 35, op := .len (.t 34) },
    { d := some 36, op := .bin .gtr (.t 35) (.c (.int .i64 40)) }])
  (.cond (.t 36)
    (.seq (.reg 2 false [
      { d := some 12, op := .mov (.c (.bool true)) }])
    (.ret))
    (.skip)))
  (.seq (.reg 3 false [
    { d := some 37, op := .bsl true 3 0 [] [] },
    { d := some 38, op := .mov (.t 5) },
    { d := some 39, op := .app 3 24 (.t 37) (.t 38) },
    { d := some 13, op := .mov (.t 39) }])
  (.seq (.reg 4 false [
    { d := some 41, op := .load true 3 (.t 6) },
    { d := some 42, op := .load true 3 (.t 7) },
    { d := some 43, op := .call 22 [.t 41, .t 42] },
    { d := some 40, op := .mov (.t 43) },
    { d := some 44, op := .ext 0 (.t 40) },
    { d := some 45, op := .ext 1 (.t 40) },
    { d := some 14, op := .mov (.t 44) },
    { d := some 15, op := .mov (.t 45) }])
  (.seq (.reg 5 false [
    { d := some 47, op := .load true 3 (.t 6) },
    { d := some 48, op := .load true 3 (.t 7) },
    { d := some 49, op := .call 23 [.t 47, .t 48] },
    { d := some 46, op := .mov (.t 49) },
    { d := some 50, op := .ext 0 (.t 46) },
    { d := some 51, op := .ext 1 (.t 46) },
    { d := some 16, op := .mov (.t 50) },
    { d := some 17, op := .mov (.t 51) }])
  (.seq (.reg 6 false [
    { d := some 53, op := .load true 3 (.t 6) },
    { d := some 54, op := .load true 3 (.t 7) },
    { d := some 55, op := .call 24 [.t 53, .t 54] },
    { d := some 52, op := .mov (.t 55) },
    { d := some 56, op := .ext 0 (.t 52) },
    { d := some 57, op := .ext 1 (.t 52) },
    { d := some 58, op := .ext 2 (.t 52) },
    { d := some 18, op := .alloc [.int .i64 0, .int .i64 0] },
    { d := none, op := .store 2 (.t 18) (.t 56) },
    { d := some 19, op := .mov (.t 57) },
    { d := some 20, op := .mov (.t 58) }])
  (.seq (.reg 7 false [
    { d := some 60, op := .load true 3 (.t 6) },
    { d := some 61, op := .load true 3 (.t 7) },
    { d := some 62, op := .call 25 [.t 60, .t 61] },
    { d := some 59, op := .mov (.t 62) },
    { d := some 63, op := .ext 0 (.t 59) },
    { d := some 64, op := .ext 1 (.t 59) },
    { d := some 65, op := .ext 2 (.t 59) },
    { d := some 21, op := .alloc [.int .i64 0, .int .i64 0] },
    { d := none, op := .store 2 (.t 21) (.t 63) },
    { d := some 22, op := .mov (.t 64) },
    { d := some 23, op := .mov (.t 65) }])
  (.seq (.reg 8 false [
    { d := some 67, op := .load true 3 (.t 6) },
    { d := some 68, op := .load true 2 (.t 9) },
    { d := some 69, op := .call 26 [.t 67, .t 68] },
    { d := some 66, op := .mov (.t 69) },
    { d := some 70, op := .ext 0 (.t 66) },
    { d := some 71, op := .ext 1 (.t 66) },
    { d := some 24, op := .alloc [.int .i64 0, .int .i64 0, .int .i64 0] },
    { d := none, op := .store 3 (.t 24) (.t 70) },
    { d := some 25, op := .mov (.t 71) }])
  (.seq (.reg 9 false [
    { d := some 73, op := .load true 3 (.t 6) },
    { d := some 74, op := .load true 2 (.t 9) },
    { d := some 75, op := .call 27 [.t 73, .t 74] },
    { d := some 72, op := .mov (.t 75) },
    { d := some 76, op := .ext 0 (.t 72) },
    { d := some 77, op := .ext 1 (.t 72) },
    { d := some 26, op := .alloc [.int .i64 0, .int .i64 0, .int .i64 0] },
    { d := none, op := .store 3 (.t 26) (.t 76) },
    { d := some 27, op := .mov (.t 77) }])
  (.seq (.seq (.reg 10 false [
    { d := some 78, op := .mov (.t 14) },
    { d := some 79, op := .mov (.t 16) },
    { d := some 80, op := .vop (.beq true) [(.t 78), (.t 79)] },
    { d := some 81, op := .mov (.t 80) },
    { d := some 82, op := .mov (.t 15), guard := some (81, false) },
    { d := some 83, op := .mov (.t 17), guard := some (81, false) },
    { d := some 84, op := .bin .neq (.t 82) (.t 83), guard := some (81, false) },
    { d := some 85, op := .pick (.t 81) (.c (.bool true)) (.t 84) },
    { d := some 86, op := .mov (.t 85) },
    { d := some 87, op := .load true 2 (.t 18), guard := some (86, false) },
    { d := some 88, op := .load true 2 (.t 21), guard := some (86, false) },
    { d := some 89, op := .eqs true [.i, .i] (.t 87) (.t 88), guard := some (86, false) },
    { d := some 90, op := .pick (.t 86) (.c (.bool true)) (.t 89) },
    { d := some 91, op := .mov (.t 90) },
    { d := some 92, op := .mov (.t 19), guard := some (91, false) },
    { d := some 93, op := .mov (.t 22), guard := some (91, false) },
    { d := some 94, op := .bin .neq (.t 92) (.t 93), guard := some (91, false) },
    { d := some 95, op := .pick (.t 91) (.c (.bool true)) (.t 94) },
    { d := some 96, op := .mov (.t 95) },
    { d := some 97, op := .mov (.t 20), guard := some (96, false) },
    { d := some 98, op := .mov (.t 23), guard := some (96, false) },
    { d := some 99, op := .bin .neq (.t 97) (.t 98), guard := some (96, false) },
    { d := some 100, op := .pick (.t 96) (.c (.bool true)) (.t 99) },
    { d := some 101, op := .mov (.t 100) },
    { d := some 102, op := .load true 3 (.t 24), guard := some (101, false) },
    { d := some 103, op := .load true 3 (.t 26), guard := some (101, false) },
    { d := some 104, op := .eqs true [.i, .i, .i] (.t 102) (.t 103), guard := some (101, false) },
    { d := some 105, op := .pick (.t 101) (.c (.bool true)) (.t 104) },
    { d := some 106, op := .mov (.t 105) },
    { d := some 107, op := .mov (.t 25), guard := some (106, false) },
    { d := some 108, op := .mov (.t 27), guard := some (106, false) },
    { d := some 109, op := .bin .neq (.t 107) (.t 108), guard := some (106, false) },
    { d := some 110, op := .pick (.t 106) (.c (.bool true)) (.t 109) }])
  (.cond (.t 110)
    (.seq (.reg 11 false [
      { d := some 12, op := .mov (.c (.bool false)) }])
    (.ret))
    (.skip)))
  (.seq (.reg 12 false [
    { d := some 112, op := .mov (.t 2) },
    { d := some 113, op := .load true 2 (.t 9) },
    { d := some 114, op := .mov (.t 4) },
    { d := some 115, op := .call 28 [.t 112, .t 113, .t 114] },
    { d := some 111, op := .mov (.t 115) },
    { d := some 116, op := .ext 0 (.t 111) },
    { d := some 117, op := .ext 1 (.t 111) },
    { d := some 118, op := .ext 2 (.t 111) },
    { d := some 28, op := .alloc [.int .i64 0, .int .i64 0, .int .i64 0] },
    { d := some 29, op := .alloc [.int .i64 0, .int .i64 0, .int .i64 0] },
    { d := none, op := .store 3 (.t 28) (.t 116) },
    { d := none, op := .store 3 (.t 29) (.t 117) },
    { d := some 15, op := .mov (.t 118) }])
  (.seq (.reg 13 false [
    { d := some 120, op := .mov (.t 2) },
    { d := some 121, op := .load true 2 (.t 9) },
    { d := some 122, op := .mov (.t 4) },
    { d := some 123, op := .call 29 [.t 120, .t 121, .t 122] },
    { d := some 119, op := .mov (.t 123) },
    { d := some 124, op := .ext 0 (.t 119) },
    { d := some 125, op := .ext 1 (.t 119) },
    { d := some 126, op := .ext 2 (.t 119) },
    { d := some 30, op := .alloc [.int .i64 0, .int .i64 0, .int .i64 0] },
    { d := some 31, op := .alloc [.int .i64 0, .int .i64 0, .int .i64 0] },
    { d := none, op := .store 3 (.t 30) (.t 124) },
    { d := none, op := .store 3 (.t 31) (.t 125) },
    { d := some 17, op := .mov (.t 126) }])
  (.seq (.reg 14 false [
    { d := some 128, op := .mov (.t 13) },
    { d := some 129, op := .call 30 [.t 128] },
    { d := some 127, op := .mov (.t 129) },
    { d := some 130, op := .ext 0 (.t 127) },
    { d := some 131, op := .ext 1 (.t 127) },
    { d := some 32, op := .alloc [.int .i64 0, .int .i64 0] },
    { d := none, op := .store 2 (.t 32) (.t 130) },
    { d := some 20, op := .mov (.t 131) }])
  (.seq (.reg 15 false [
    { d := some 133, op := .mov (.t 5) },
    { d := some 134, op := .call 31 [.t 133] },
    { d := some 132, op := .mov (.t 134) },
    { d := some 135, op := .ext 0 (.t 132) },
    { d := some 136, op := .ext 1 (.t 132) },
    { d := some 33, op := .alloc [.int .i64 0, .int .i64 0] },
    { d := none, op := .store 2 (.t 33) (.t 135) },
    { d := some 23, op := .mov (.t 136) }])
  (.seq (.reg 16 false [
    { d := some 137, op := .load true 3 (.t 28) },
    { d := some 138, op := .load true 3 (.t 30) },
    { d := some 139, op := .eqs false [.i, .i, .i] (.t 137) (.t 138) },
    { d := some 140, op := .mov (.t 139) },
    { d := some 141, op := .load true 3 (.t 29), guard := some (140, true) },
    { d := some 142, op := .load true 3 (.t 31), guard := some (140, true) },
    { d := some 143, op := .eqs false [.i, .i, .i] (.t 141) (.t 142), guard := some (140, true) },
    { d := some 144, op := .pick (.t 140) (.t 143) (.c (.bool false)) },
    { d := some 145, op := .mov (.t 144) },
    { d := some 146, op := .mov (.t 15), guard := some (145, true) },
    { d := some 147, op := .mov (.t 17), guard := some (145, true) },
    { d := some 148, op := .bin .eql (.t 146) (.t 147), guard := some (145, true) },
    { d := some 149, op := .pick (.t 145) (.t 148) (.c (.bool false)) },
    { d := some 150, op := .mov (.t 149) },
    { d := some 151, op := .load true 2 (.t 32), guard := some (150, true) },
    { d := some 152, op := .load true 2 (.t 33), guard := some (150, true) },
    { d := some 153, op := .eqs false [.i, .i] (.t 151) (.t 152), guard := some (150, true) },
    { d := some 154, op := .pick (.t 150) (.t 153) (.c (.bool false)) },
    { d := some 155, op := .mov (.t 154) },
    { d := some 156, op := .mov (.t 20), guard := some (155, true) },
    { d := some 157, op := .mov (.t 23), guard := some (155, true) },
    { d := some 158, op := .bin .eql (.t 156) (.t 157), guard := some (155, true) },
    { d := some 159, op := .pick (.t 155) (.t 158) (.c (.bool false)) },
    { d := some 160, op := .mov (.t 159) },
    { d := some 161, op := .mov (.t 13), guard := some (160, true) },
    { d := some 162, op := .mov (.t 5), guard := some (160, true) },
    { d := some 163, op := .call 32 [.t 161, .t 162], guard := some (160, true) },
    { d := some 164, op := .pick (.t 160) (.t 163) (.c (.bool false)) },
    { d := some 12, op := .mov (.t 164) }])
  (.ret)))))))))))))))
def rr_law01_SizeFits : List RRes := [.t 12]
theorem pc_law01_SizeFits {G : Nat → Option (List AV)} {args : List AV} {v : AV} (hn : args.length ≤ Tryd.f4.ntmps) (h : ∀ R : Run, R.G = G → AR Tryd.prog R rc_law01_SizeFits (initSt args) (Fin rr_law01_SizeFits v)) : PC Tryd.prog G 4 args v :=
  PC_of Tryd.func4 rfl (by kernel_rfl) (rc := rc_law01_SizeFits) (by kernel_rfl) (rs := rr_law01_SizeFits) (by kernel_rfl) hn (fun R _ hG => h R hG)

theorem pb_law01_SizeFits {G : Nat → Option (List AV)} {objs objs' : List (Nat × AObj)} {args : List AV} {v : AV} (hn : args.length ≤ Tryd.f4.ntmps) (h : ∀ R : Run, R.G = G → AR Tryd.prog R rc_law01_SizeFits ⟨iniT 0 args, objs⟩ (FinB rr_law01_SizeFits v objs')) : PB Tryd.prog G 4 objs args v objs' :=
  PB_of Tryd.func4 rfl (by kernel_rfl) (rc := rc_law01_SizeFits) (by kernel_rfl) (rs := rr_law01_SizeFits) (by kernel_rfl) hn (fun R _ hG => h R hG)

theorem pp_law01_SizeFits {G : Nat → Option (List AV)} {args : List AV} {ch : List PanicEntry} (hn : args.length ≤ Tryd.f4.ntmps) (h : ∀ R : Run, R.G = G → AR Tryd.prog R rc_law01_SizeFits (initSt args) (FinP ch)) : PPC Tryd.prog G 4 args ch :=
  PPC_of Tryd.func4 rfl (by kernel_rfl) (rc := rc_law01_SizeFits) (by kernel_rfl) hn (fun R _ hG => h R hG)

end Go.Proofs.YtikjooemblpnbaaDoor
