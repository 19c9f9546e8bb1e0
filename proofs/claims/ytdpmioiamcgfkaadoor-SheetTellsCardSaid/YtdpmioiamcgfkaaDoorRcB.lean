/-
  The abstract machine's code of functions of the program, as a program of ours printed it; that it is theirs is proved beside each.
-/
import Derived.Test.YtdpmioiamcgfkaaDoorAmO
import Derived.Test.YtdpmioiamcgfkaaDoorProg
namespace Go.Proofs.YtdpmioiamcgfkaaDoor
open Go.RowKit

def rc_size_in : RCode :=
  .seq (.reg 0 false [
    { d := some 3, op := .box (.t 0) },
    { d := some 4, op := .box (.t 1) },
    { d := some 6, op := .mov (.c (.bool false)) }])
  (.seq (.reg 1 false [
    { d := some 7, op := .mov (.t 2) },
    { d := some 8, op := .mkf (.func 118) [] [.t 3, .t 4] },
    { d := some 9, op := .call 117 [.t 7, .t 8] },
    { d := some 10, op := .un .not (.t 9) },
    { d := some 6, op := .mov (.t 10) }])
  (.ret))
def rr_size_in : List RRes := [.t 6]
theorem pc_size_in {G : Nat → Option (List AV)} {args : List AV} {v : AV} (hn : args.length ≤ Tryd.f98.ntmps) (h : ∀ R : Run, R.G = G → R.Top → AR Tryd.prog R rc_size_in (initSt args) (Fin rr_size_in v)) : PC Tryd.prog G 98 args v :=
  PC_of Tryd.func98 rfl (by kernel_rfl) (rc := rc_size_in) (by kernel_rfl) (rs := rr_size_in) (by kernel_rfl) hn (fun R _ hG hr => h R hG hr)

theorem pb_size_in {G : Nat → Option (List AV)} {objs objs' : List (Nat × AObj)} {args : List AV} {v : AV} (hn : args.length ≤ Tryd.f98.ntmps) (h : ∀ R : Run, R.G = G → R.Top → AR Tryd.prog R rc_size_in ⟨iniT 0 args, objs⟩ (FinB rr_size_in v objs')) : PB Tryd.prog G 98 objs args v objs' :=
  PB_of Tryd.func98 rfl (by kernel_rfl) (rc := rc_size_in) (by kernel_rfl) (rs := rr_size_in) (by kernel_rfl) hn (fun R _ hG hr => h R hG hr)

theorem pp_size_in {G : Nat → Option (List AV)} {args : List AV} {ch : List PanicEntry} (hn : args.length ≤ Tryd.f98.ntmps) (h : ∀ R : Run, R.G = G → R.Top → AR Tryd.prog R rc_size_in (initSt args) (FinP ch)) : PPC Tryd.prog G 98 args ch :=
  PPC_of Tryd.func98 rfl (by kernel_rfl) (rc := rc_size_in) (by kernel_rfl) hn (fun R _ hG hr => h R hG hr)

def rc_size_in_1 : RCode :=
  .seq (.reg 0 false [
    { d := some 4, op := .mov (.c (.bool false)) }])
  (.seq (.reg 1 false [
    { d := some 5, op := .mov (.t 0) },
    { d := some 6, op := .load false 1 (.t 1) },
    { d := some 7, op := .bin .lss (.t 5) (.t 6) },
    { d := some 8, op := .mov (.t 7) },
    { d := some 9, op := .mov (.t 0), guard := some (8, false) },
    { d := some 10, op := .load false 1 (.t 2), guard := some (8, false) },
    { d := some 11, op := .bin .gtr (.t 9) (.t 10), guard := some (8, false) },
    { d := some 12, op := .pick (.t 8) (.c (.bool true)) (.t 11) },
    { d := some 4, op := .mov (.t 12) }])
  (.ret))
def rr_size_in_1 : List RRes := [.t 4]
theorem pc_size_in_1 {G : Nat → Option (List AV)} {args : List AV} {v : AV} (hn : args.length ≤ Tryd.f118.ntmps) (h : ∀ R : Run, R.G = G → R.Top → AR Tryd.prog R rc_size_in_1 (initSt args) (Fin rr_size_in_1 v)) : PC Tryd.prog G 118 args v :=
  PC_of Tryd.func118 rfl (by kernel_rfl) (rc := rc_size_in_1) (by kernel_rfl) (rs := rr_size_in_1) (by kernel_rfl) hn (fun R _ hG hr => h R hG hr)

theorem pb_size_in_1 {G : Nat → Option (List AV)} {objs objs' : List (Nat × AObj)} {args : List AV} {v : AV} (hn : args.length ≤ Tryd.f118.ntmps) (h : ∀ R : Run, R.G = G → R.Top → AR Tryd.prog R rc_size_in_1 ⟨iniT 0 args, objs⟩ (FinB rr_size_in_1 v objs')) : PB Tryd.prog G 118 objs args v objs' :=
  PB_of Tryd.func118 rfl (by kernel_rfl) (rc := rc_size_in_1) (by kernel_rfl) (rs := rr_size_in_1) (by kernel_rfl) hn (fun R _ hG hr => h R hG hr)

theorem pp_size_in_1 {G : Nat → Option (List AV)} {args : List AV} {ch : List PanicEntry} (hn : args.length ≤ Tryd.f118.ntmps) (h : ∀ R : Run, R.G = G → R.Top → AR Tryd.prog R rc_size_in_1 (initSt args) (FinP ch)) : PPC Tryd.prog G 118 args ch :=
  PPC_of Tryd.func118 rfl (by kernel_rfl) (rc := rc_size_in_1) (by kernel_rfl) hn (fun R _ hG hr => h R hG hr)

def rc_slices_ContainsFunc_int_int : RCode :=
  .seq (.reg 0 false [
    { d := some 4, op := .mov (.c (.bool false)) }])
  (.seq (.reg 1 false [
    { d := some 5, op := .mov (.t 0) },
    { d := some 6, op := .mov (.t 1) },
    { d := some 7, op := .call 132 [.t 5, .t 6] },
    { d := some 8, op := .bin .geq (.t 7) (.c (.int .i64 0)) },
    { d := some 4, op := .mov (.t 8) }])
  (.ret))
def rr_slices_ContainsFunc_int_int : List RRes := [.t 4]
theorem pc_slices_ContainsFunc_int_int {G : Nat → Option (List AV)} {args : List AV} {v : AV} (hn : args.length ≤ Tryd.f117.ntmps) (h : ∀ R : Run, R.G = G → R.Top → AR Tryd.prog R rc_slices_ContainsFunc_int_int (initSt args) (Fin rr_slices_ContainsFunc_int_int v)) : PC Tryd.prog G 117 args v :=
  PC_of Tryd.func117 rfl (by kernel_rfl) (rc := rc_slices_ContainsFunc_int_int) (by kernel_rfl) (rs := rr_slices_ContainsFunc_int_int) (by kernel_rfl) hn (fun R _ hG hr => h R hG hr)

theorem pb_slices_ContainsFunc_int_int {G : Nat → Option (List AV)} {objs objs' : List (Nat × AObj)} {args : List AV} {v : AV} (hn : args.length ≤ Tryd.f117.ntmps) (h : ∀ R : Run, R.G = G → R.Top → AR Tryd.prog R rc_slices_ContainsFunc_int_int ⟨iniT 0 args, objs⟩ (FinB rr_slices_ContainsFunc_int_int v objs')) : PB Tryd.prog G 117 objs args v objs' :=
  PB_of Tryd.func117 rfl (by kernel_rfl) (rc := rc_slices_ContainsFunc_int_int) (by kernel_rfl) (rs := rr_slices_ContainsFunc_int_int) (by kernel_rfl) hn (fun R _ hG hr => h R hG hr)

theorem pp_slices_ContainsFunc_int_int {G : Nat → Option (List AV)} {args : List AV} {ch : List PanicEntry} (hn : args.length ≤ Tryd.f117.ntmps) (h : ∀ R : Run, R.G = G → R.Top → AR Tryd.prog R rc_slices_ContainsFunc_int_int (initSt args) (FinP ch)) : PPC Tryd.prog G 117 args ch :=
  PPC_of Tryd.func117 rfl (by kernel_rfl) (rc := rc_slices_ContainsFunc_int_int) (by kernel_rfl) hn (fun R _ hG hr => h R hG hr)

def rc_slices_IndexFunc_int_int : RCode :=
  .seq (.reg 0 false [
    { d := some 4, op := .mov (.c (.int .i64 0)) }])
  (.seq (.seq (.reg 1 false [
    { d := some 6, op := .mov (.t 0) },
    { d := some 7, op := .len (.t 6) },
    { d := some 8, op := .mov (.c (.int .i64 0)) }])
  (.block 0
    (.loop
      (.seq (.reg 2 false [
        { d := some 9, op := .bin .lss (.t 8) (.t 7) }])
      (.seq (.cond (.t 9)
        (.skip)
        (.exit 0))
      (.seq (.block 1
        (.seq (.reg 3 false [
          { d := some 10, op := .mov (.t 8) },
          { d := some 5, op := .mov (.t 10) }])
        (.seq (.reg 4 false [
          { d := some 11, op := .mov (.t 1) },
          { d := some 12, op := .mov (.t 0) },
          { d := some 13, op := .mov (.t 5) },
          { d := some 14, op := .iaddr 1 (.t 12) (.t 13) },
          { d := some 15, op := .load false 1 (.t 14) },
          { d := some 16, op := .callv (.t 11) [.t 15] }])
        (.cond (.t 16)
          (.seq (.reg 5 false [
            { d := some 17, op := .mov (.t 5) },
            { d := some 4, op := .mov (.t 17) }])
          (.ret))
          (.skip)))))
      (.reg 6 false [
        { d := some 18, op := .bin .add (.t 8) (.c (.int .i64 1)) },
        { d := some 8, op := .mov (.t 18) }])))))))
  (.seq (.reg 7 false [
    { d := some 4, op := .mov (.c (.int .i64 (-1))) }])
  (.ret)))
def rr_slices_IndexFunc_int_int : List RRes := [.t 4]
theorem pc_slices_IndexFunc_int_int {G : Nat → Option (List AV)} {args : List AV} {v : AV} (hn : args.length ≤ Tryd.f132.ntmps) (h : ∀ R : Run, R.G = G → R.Top → AR Tryd.prog R rc_slices_IndexFunc_int_int (initSt args) (Fin rr_slices_IndexFunc_int_int v)) : PC Tryd.prog G 132 args v :=
  PC_of Tryd.func132 rfl (by kernel_rfl) (rc := rc_slices_IndexFunc_int_int) (by kernel_rfl) (rs := rr_slices_IndexFunc_int_int) (by kernel_rfl) hn (fun R _ hG hr => h R hG hr)

theorem pb_slices_IndexFunc_int_int {G : Nat → Option (List AV)} {objs objs' : List (Nat × AObj)} {args : List AV} {v : AV} (hn : args.length ≤ Tryd.f132.ntmps) (h : ∀ R : Run, R.G = G → R.Top → AR Tryd.prog R rc_slices_IndexFunc_int_int ⟨iniT 0 args, objs⟩ (FinB rr_slices_IndexFunc_int_int v objs')) : PB Tryd.prog G 132 objs args v objs' :=
  PB_of Tryd.func132 rfl (by kernel_rfl) (rc := rc_slices_IndexFunc_int_int) (by kernel_rfl) (rs := rr_slices_IndexFunc_int_int) (by kernel_rfl) hn (fun R _ hG hr => h R hG hr)

theorem pp_slices_IndexFunc_int_int {G : Nat → Option (List AV)} {args : List AV} {ch : List PanicEntry} (hn : args.length ≤ Tryd.f132.ntmps) (h : ∀ R : Run, R.G = G → R.Top → AR Tryd.prog R rc_slices_IndexFunc_int_int (initSt args) (FinP ch)) : PPC Tryd.prog G 132 args ch :=
  PPC_of Tryd.func132 rfl (by kernel_rfl) (rc := rc_slices_IndexFunc_int_int) (by kernel_rfl) hn (fun R _ hG hr => h R hG hr)

def rc_size_Check : RCode :=
  .seq (.reg 0 false [
    { d := some 1, op := .box (.t 0) },
    { d := some 2, op := .mov (.c (.int .i64 0)) }])
  (.seq (.seq (.reg 1 false [
    { d := some 3, op := .faddr 0 (.t 1) },
    { d := some 4, op := .load false 1 (.t 3) },
    { d := some 5, op := .faddr 1 (.t 1) },
    { d := some 6, op := .load false 1 (.t 5) },
    { d := some 7, op := .faddr 2 (.t 1) },
    { d := some 8, op := .load false 1 (.t 7) },
    { d := some 9, op := .bsl false 1 3 [.int .i64 0, .int .i64 0, .int .i64 0] [(0, .t 4), (1, .t 6), (2, .t 8)] },
    { d := some 10, op := .call 98 [.c (.int .i64 0), .c (.int .i64 1000000000), .t 9] },
    { d := some 11, op := .un .not (.t 10) },
    { d := some 12, op := .mov (.t 11) },
    { d := some 13, op := .faddr 1 (.t 1), guard := some (12, false) },
    { d := some 14, op := .load false 1 (.t 13), guard := some (12, false) },
    { d := some 15, op := .faddr 2 (.t 1), guard := some (12, false) },
    { d := some 16, op := .load false 1 (.t 15), guard := some (12, false) },
    { d := some 17, op := .bin .gtr (.t 14) (.t 16), guard := some (12, false) },
    { d := some 18, op := .pick (.t 12) (.c (.bool true)) (.t 17) }])
  (.cond (.t 18)
    (.seq (.reg 2 false [
      { d := some 2, op := .mov (.c (.int .i64 10)) }])
    (.ret))
    (.skip)))
  (.seq (.reg 3 false [
    { d := some 2, op := .mov (.c (.int .i64 0)) }])
  (.ret)))
def rr_size_Check : List RRes := [.t 2]
theorem pc_size_Check {G : Nat → Option (List AV)} {args : List AV} {v : AV} (hn : args.length ≤ Tryd.f62.ntmps) (h : ∀ R : Run, R.G = G → R.Top → AR Tryd.prog R rc_size_Check (initSt args) (Fin rr_size_Check v)) : PC Tryd.prog G 62 args v :=
  PC_of Tryd.func62 rfl (by kernel_rfl) (rc := rc_size_Check) (by kernel_rfl) (rs := rr_size_Check) (by kernel_rfl) hn (fun R _ hG hr => h R hG hr)

theorem pb_size_Check {G : Nat → Option (List AV)} {objs objs' : List (Nat × AObj)} {args : List AV} {v : AV} (hn : args.length ≤ Tryd.f62.ntmps) (h : ∀ R : Run, R.G = G → R.Top → AR Tryd.prog R rc_size_Check ⟨iniT 0 args, objs⟩ (FinB rr_size_Check v objs')) : PB Tryd.prog G 62 objs args v objs' :=
  PB_of Tryd.func62 rfl (by kernel_rfl) (rc := rc_size_Check) (by kernel_rfl) (rs := rr_size_Check) (by kernel_rfl) hn (fun R _ hG hr => h R hG hr)

theorem pp_size_Check {G : Nat → Option (List AV)} {args : List AV} {ch : List PanicEntry} (hn : args.length ≤ Tryd.f62.ntmps) (h : ∀ R : Run, R.G = G → R.Top → AR Tryd.prog R rc_size_Check (initSt args) (FinP ch)) : PPC Tryd.prog G 62 args ch :=
  PPC_of Tryd.func62 rfl (by kernel_rfl) (rc := rc_size_Check) (by kernel_rfl) hn (fun R _ hG hr => h R hG hr)

def rc_sheet_in : RCode :=
  .seq (.reg 0 false [
    { d := some 3, op := .box (.t 0) },
    { d := some 4, op := .box (.t 1) },
    { d := some 6, op := .mov (.c (.bool false)) }])
  (.seq (.reg 1 false [
    { d := some 7, op := .mov (.t 2) },
    { d := some 8, op := .mkf (.func 119) [] [.t 3, .t 4] },
    { d := some 9, op := .call 117 [.t 7, .t 8] },
    { d := some 10, op := .un .not (.t 9) },
    { d := some 6, op := .mov (.t 10) }])
  (.ret))
def rr_sheet_in : List RRes := [.t 6]
theorem pc_sheet_in {G : Nat → Option (List AV)} {args : List AV} {v : AV} (hn : args.length ≤ Tryd.f101.ntmps) (h : ∀ R : Run, R.G = G → R.Top → AR Tryd.prog R rc_sheet_in (initSt args) (Fin rr_sheet_in v)) : PC Tryd.prog G 101 args v :=
  PC_of Tryd.func101 rfl (by kernel_rfl) (rc := rc_sheet_in) (by kernel_rfl) (rs := rr_sheet_in) (by kernel_rfl) hn (fun R _ hG hr => h R hG hr)

theorem pb_sheet_in {G : Nat → Option (List AV)} {objs objs' : List (Nat × AObj)} {args : List AV} {v : AV} (hn : args.length ≤ Tryd.f101.ntmps) (h : ∀ R : Run, R.G = G → R.Top → AR Tryd.prog R rc_sheet_in ⟨iniT 0 args, objs⟩ (FinB rr_sheet_in v objs')) : PB Tryd.prog G 101 objs args v objs' :=
  PB_of Tryd.func101 rfl (by kernel_rfl) (rc := rc_sheet_in) (by kernel_rfl) (rs := rr_sheet_in) (by kernel_rfl) hn (fun R _ hG hr => h R hG hr)

theorem pp_sheet_in {G : Nat → Option (List AV)} {args : List AV} {ch : List PanicEntry} (hn : args.length ≤ Tryd.f101.ntmps) (h : ∀ R : Run, R.G = G → R.Top → AR Tryd.prog R rc_sheet_in (initSt args) (FinP ch)) : PPC Tryd.prog G 101 args ch :=
  PPC_of Tryd.func101 rfl (by kernel_rfl) (rc := rc_sheet_in) (by kernel_rfl) hn (fun R _ hG hr => h R hG hr)

def rc_sheet_in_1 : RCode :=
  .seq (.reg 0 false [
    { d := some 4, op := .mov (.c (.bool false)) }])
  (.seq (.reg 1 false [
    { d := some 5, op := .mov (.t 0) },
    { d := some 6, op := .load false 1 (.t 1) },
    { d := some 7, op := .bin .lss (.t 5) (.t 6) },
    { d := some 8, op := .mov (.t 7) },
    { d := some 9, op := .mov (.t 0), guard := some (8, false) },
    { d := some 10, op := .load false 1 (.t 2), guard := some (8, false) },
    { d := some 11, op := .bin .gtr (.t 9) (.t 10), guard := some (8, false) },
    { d := some 12, op := .pick (.t 8) (.c (.bool true)) (.t 11) },
    { d := some 4, op := .mov (.t 12) }])
  (.ret))
def rr_sheet_in_1 : List RRes := [.t 4]
theorem pc_sheet_in_1 {G : Nat → Option (List AV)} {args : List AV} {v : AV} (hn : args.length ≤ Tryd.f119.ntmps) (h : ∀ R : Run, R.G = G → R.Top → AR Tryd.prog R rc_sheet_in_1 (initSt args) (Fin rr_sheet_in_1 v)) : PC Tryd.prog G 119 args v :=
  PC_of Tryd.func119 rfl (by kernel_rfl) (rc := rc_sheet_in_1) (by kernel_rfl) (rs := rr_sheet_in_1) (by kernel_rfl) hn (fun R _ hG hr => h R hG hr)

theorem pb_sheet_in_1 {G : Nat → Option (List AV)} {objs objs' : List (Nat × AObj)} {args : List AV} {v : AV} (hn : args.length ≤ Tryd.f119.ntmps) (h : ∀ R : Run, R.G = G → R.Top → AR Tryd.prog R rc_sheet_in_1 ⟨iniT 0 args, objs⟩ (FinB rr_sheet_in_1 v objs')) : PB Tryd.prog G 119 objs args v objs' :=
  PB_of Tryd.func119 rfl (by kernel_rfl) (rc := rc_sheet_in_1) (by kernel_rfl) (rs := rr_sheet_in_1) (by kernel_rfl) hn (fun R _ hG hr => h R hG hr)

theorem pp_sheet_in_1 {G : Nat → Option (List AV)} {args : List AV} {ch : List PanicEntry} (hn : args.length ≤ Tryd.f119.ntmps) (h : ∀ R : Run, R.G = G → R.Top → AR Tryd.prog R rc_sheet_in_1 (initSt args) (FinP ch)) : PPC Tryd.prog G 119 args ch :=
  PPC_of Tryd.func119 rfl (by kernel_rfl) (rc := rc_sheet_in_1) (by kernel_rfl) hn (fun R _ hG hr => h R hG hr)

def rc_sheet_name : RCode :=
  .seq (.reg 0 false [
    { d := some 1, op := .box (.t 0) },
    { d := some 2, op := .alloc [.int .i64 0, .int .i64 0] }])
  (.seq (.reg 1 false [
    { d := some 3, op := .faddr 0 (.t 1) },
    { d := some 4, op := .load false 1 (.t 3) },
    { d := some 5, op := .faddr 1 (.t 1) },
    { d := some 6, op := .load false 1 (.t 5) },
    { d := some 7, op := .build [.int .i64 0, .int .i64 0] [(0, 1, .t 4), (1, 1, .t 6)] },
    { d := none, op := .store 2 (.t 2) (.t 7) }])
  (.ret))
def rr_sheet_name : List RRes := [.c 2 true 2]
theorem pc_sheet_name {G : Nat → Option (List AV)} {args : List AV} {v : AV} (hn : args.length ≤ Tryd.f84.ntmps) (h : ∀ R : Run, R.G = G → R.Top → AR Tryd.prog R rc_sheet_name (initSt args) (Fin rr_sheet_name v)) : PC Tryd.prog G 84 args v :=
  PC_of Tryd.func84 rfl (by kernel_rfl) (rc := rc_sheet_name) (by kernel_rfl) (rs := rr_sheet_name) (by kernel_rfl) hn (fun R _ hG hr => h R hG hr)

theorem pb_sheet_name {G : Nat → Option (List AV)} {objs objs' : List (Nat × AObj)} {args : List AV} {v : AV} (hn : args.length ≤ Tryd.f84.ntmps) (h : ∀ R : Run, R.G = G → R.Top → AR Tryd.prog R rc_sheet_name ⟨iniT 0 args, objs⟩ (FinB rr_sheet_name v objs')) : PB Tryd.prog G 84 objs args v objs' :=
  PB_of Tryd.func84 rfl (by kernel_rfl) (rc := rc_sheet_name) (by kernel_rfl) (rs := rr_sheet_name) (by kernel_rfl) hn (fun R _ hG hr => h R hG hr)

theorem pp_sheet_name {G : Nat → Option (List AV)} {args : List AV} {ch : List PanicEntry} (hn : args.length ≤ Tryd.f84.ntmps) (h : ∀ R : Run, R.G = G → R.Top → AR Tryd.prog R rc_sheet_name (initSt args) (FinP ch)) : PPC Tryd.prog G 84 args ch :=
  PPC_of Tryd.func84 rfl (by kernel_rfl) (rc := rc_sheet_name) (by kernel_rfl) hn (fun R _ hG hr => h R hG hr)

def rc_sheet_checks_1 : RCode :=
  .seq (.reg 0 false [
    { d := some 1, op := .box (.t 0) },
    { d := some 2, op := .mov (.c (.bool false)) }])
  (.seq (.reg 1 false [
    { d := some 3, op := .faddr 0 (.t 1) },
    { d := some 4, op := .load false 1 (.t 3) },
    { d := some 5, op := .bsl false 1 1 [.int .i64 0] [(0, .t 4)] },
    { d := some 6, op := .call 101 [.c (.int .i64 1), .c (.int .i64 9999), .t 5] },
    { d := some 7, op := .mov (.t 6) },
    { d := some 8, op := .faddr 1 (.t 1), guard := some (7, true) },
    { d := some 9, op := .load false 1 (.t 8), guard := some (7, true) },
    { d := some 10, op := .bsl false 1 1 [.int .i64 0] [(0, .t 9)], guard := some (7, true) },
    { d := some 11, op := .call 101 [.c (.int .i64 1), .c (.int .i64 8), .t 10], guard := some (7, true) },
    { d := some 12, op := .pick (.t 7) (.t 11) (.c (.bool false)) },
    { d := some 2, op := .mov (.t 12) }])
  (.ret))
def rr_sheet_checks_1 : List RRes := [.t 2]
theorem pc_sheet_checks_1 {G : Nat → Option (List AV)} {args : List AV} {v : AV} (hn : args.length ≤ Tryd.f157.ntmps) (h : ∀ R : Run, R.G = G → R.Top → AR Tryd.prog R rc_sheet_checks_1 (initSt args) (Fin rr_sheet_checks_1 v)) : PC Tryd.prog G 157 args v :=
  PC_of Tryd.func157 rfl (by kernel_rfl) (rc := rc_sheet_checks_1) (by kernel_rfl) (rs := rr_sheet_checks_1) (by kernel_rfl) hn (fun R _ hG hr => h R hG hr)

theorem pb_sheet_checks_1 {G : Nat → Option (List AV)} {objs objs' : List (Nat × AObj)} {args : List AV} {v : AV} (hn : args.length ≤ Tryd.f157.ntmps) (h : ∀ R : Run, R.G = G → R.Top → AR Tryd.prog R rc_sheet_checks_1 ⟨iniT 0 args, objs⟩ (FinB rr_sheet_checks_1 v objs')) : PB Tryd.prog G 157 objs args v objs' :=
  PB_of Tryd.func157 rfl (by kernel_rfl) (rc := rc_sheet_checks_1) (by kernel_rfl) (rs := rr_sheet_checks_1) (by kernel_rfl) hn (fun R _ hG hr => h R hG hr)

theorem pp_sheet_checks_1 {G : Nat → Option (List AV)} {args : List AV} {ch : List PanicEntry} (hn : args.length ≤ Tryd.f157.ntmps) (h : ∀ R : Run, R.G = G → R.Top → AR Tryd.prog R rc_sheet_checks_1 (initSt args) (FinP ch)) : PPC Tryd.prog G 157 args ch :=
  PPC_of Tryd.func157 rfl (by kernel_rfl) (rc := rc_sheet_checks_1) (by kernel_rfl) hn (fun R _ hG hr => h R hG hr)

def rc_sheet_checks_2 : RCode :=
  .seq (.reg 0 false [
    { d := some 1, op := .box (.t 0) },
    { d := some 2, op := .mov (.c (.bool false)) }])
  (.seq (.seq (.reg 1 false [
    { d := some 3, op := .faddr 2 (.t 1) },
    { d := some 4, op := .load false 1 (.t 3) },
    { d := some 5, op := .bin .eql (.t 4) (.c (.int .u8 1)) }])
  (.cond (.t 5)
    (.seq (.reg 2 false [
      { d := some 6, op := .faddr 3 (.t 1) },
      { d := some 7, op := .load false 1 (.t 6) },
      { d := some 8, op := .len (.t 7) },
      { d := some 9, op := .bsl false 1 1 [.int .i64 0] [(0, .t 8)] },
      { d := some 10, op := .call 101 [.c (.int .i64 1), .c (.int .i64 8), .t 9] },
      { d := some 11, op := .mov (.t 10) },
      { d := some 12, op := .faddr 4 (.t 1), guard := some (11, true) },
      { d := some 13, op := .load false 1 (.t 12), guard := some (11, true) },
      { d := some 14, op := .len (.t 13), guard := some (11, true) },
      { d := some 15, op := .bin .eql (.t 14) (.c (.int .i64 0)), guard := some (11, true) },
      { d := some 16, op := .pick (.t 11) (.t 15) (.c (.bool false)) },
      { d := some 2, op := .mov (.t 16) }])
    (.ret))
    (.skip)))
  (.seq (.reg 3 false [
    { d := some 17, op := .faddr 2 (.t 1) },
    { d := some 18, op := .load false 1 (.t 17) },
    { d := some 19, op := .conv .i64 (.t 18) },
    { d := some 20, op := .bsl false 1 1 [.int .i64 0] [(0, .t 19)] },
    { d := some 21, op := .call 101 [.c (.int .i64 2), .c (.int .i64 3), .t 20] },
    { d := some 22, op := .mov (.t 21) },
    { d := some 23, op := .faddr 4 (.t 1), guard := some (22, true) },
    { d := some 24, op := .load false 1 (.t 23), guard := some (22, true) },
    { d := some 25, op := .len (.t 24), guard := some (22, true) },
    { d := some 26, op := .bin .leq (.t 25) (.c (.int .i64 4)), guard := some (22, true) },
    { d := some 27, op := .pick (.t 22) (.t 26) (.c (.bool false)) },
    { d := some 28, op := .mov (.t 27) },
    { d := some 29, op := .faddr 3 (.t 1), guard := some (28, true) },
    { d := some 30, op := .load false 1 (.t 29), guard := some (28, true) },
    { d := some 31, op := .len (.t 30), guard := some (28, true) },
    { d := some 32, op := .bin .eql (.t 31) (.c (.int .i64 0)), guard := some (28, true) },
    { d := some 33, op := .pick (.t 28) (.t 32) (.c (.bool false)) },
    { d := some 2, op := .mov (.t 33) }])
  (.ret)))
def rr_sheet_checks_2 : List RRes := [.t 2]
theorem pc_sheet_checks_2 {G : Nat → Option (List AV)} {args : List AV} {v : AV} (hn : args.length ≤ Tryd.f158.ntmps) (h : ∀ R : Run, R.G = G → R.Top → AR Tryd.prog R rc_sheet_checks_2 (initSt args) (Fin rr_sheet_checks_2 v)) : PC Tryd.prog G 158 args v :=
  PC_of Tryd.func158 rfl (by kernel_rfl) (rc := rc_sheet_checks_2) (by kernel_rfl) (rs := rr_sheet_checks_2) (by kernel_rfl) hn (fun R _ hG hr => h R hG hr)

theorem pb_sheet_checks_2 {G : Nat → Option (List AV)} {objs objs' : List (Nat × AObj)} {args : List AV} {v : AV} (hn : args.length ≤ Tryd.f158.ntmps) (h : ∀ R : Run, R.G = G → R.Top → AR Tryd.prog R rc_sheet_checks_2 ⟨iniT 0 args, objs⟩ (FinB rr_sheet_checks_2 v objs')) : PB Tryd.prog G 158 objs args v objs' :=
  PB_of Tryd.func158 rfl (by kernel_rfl) (rc := rc_sheet_checks_2) (by kernel_rfl) (rs := rr_sheet_checks_2) (by kernel_rfl) hn (fun R _ hG hr => h R hG hr)

theorem pp_sheet_checks_2 {G : Nat → Option (List AV)} {args : List AV} {ch : List PanicEntry} (hn : args.length ≤ Tryd.f158.ntmps) (h : ∀ R : Run, R.G = G → R.Top → AR Tryd.prog R rc_sheet_checks_2 (initSt args) (FinP ch)) : PPC Tryd.prog G 158 args ch :=
  PPC_of Tryd.func158 rfl (by kernel_rfl) (rc := rc_sheet_checks_2) (by kernel_rfl) hn (fun R _ hG hr => h R hG hr)

def rc_sheet_checks_3 : RCode :=
  .seq (.reg 0 false [
    { d := some 1, op := .box (.t 0) },
    { d := some 2, op := .mov (.c (.bool false)) }])
  (.seq (.seq (.reg 1 false [
    { d := some 5, op := .faddr 3 (.t 1) },
    { d := some 6, op := .load false 1 (.t 5) },
    { d := some 7, op := .len (.t 6) },
    { d := some 8, op := .mov (.c (.int .i64 0)) }])
  (.block 0
    (.loop
      (.seq (.reg 2 false [
        { d := some 9, op := .bin .lss (.t 8) (.t 7) }])
      (.seq (.cond (.t 9)
        (.skip)
        (.exit 0))
      (.seq (.block 1
        (.seq (.reg 3 false [
          { d := some 10, op := .mov (.t 8) },
          { d := some 11, op := .iaddr 2 (.t 6) (.t 8) },
          { d := some 12, op := .load true 2 (.t 11) },
          { d := some 4, op := .alloc [.int .i64 0, .int .i64 0] },
          { d := some 3, op := .mov (.t 10) },
          { d := none, op := .store 2 (.t 4) (.t 12) }])
        (.seq (.reg 4 true [
          { d := some 13, op := .faddr 0 (.t 4), aft := [] },
          { d := some 14, op := .load false 1 (.t 13), aft := [0] },
          { d := some 15, op := .bsl false 1 1 [.int .i64 0] [(0, .t 14)], aft := [1] },
          { d := some 16, op := .call 101 [.c (.int .i64 1), .c (.int .i64 9999), .t 15], aft := [2] },
          { d := some 17, op := .un .not (.t 16), aft := [3] },
          { d := some 18, op := .mov (.t 17), aft := [4, 3] },
          { d := some 19, op := .faddr 1 (.t 4), guard := some (18, false), aft := [5] },
          { d := some 20, op := .load false 1 (.t 19), guard := some (18, false), aft := [6, 5] },
          { d := some 21, op := .bsl false 1 1 [.int .i64 0] [(0, .t 20)], guard := some (18, false), aft := [7, 5] },
          { d := some 22, op := .call 101 [.c (.int .i64 1), .c (.int .i64 20), .t 21], guard := some (18, false), aft := [8, 5, 5] },
          { d := some 23, op := .un .not (.t 22), guard := some (18, false), aft := [9, 5] },
          { d := some 24, op := .pick (.t 18) (.c (.bool true)) (.t 23), aft := [5, 10] },
          { d := some 25, op := .mov (.t 24), aft := [11, 9] },
          { d := some 26, op := .faddr 0 (.t 4), guard := some (25, false), aft := [12] },
          { d := some 27, op := .load false 1 (.t 26), guard := some (25, false), aft := [13, 12] },
          { d := some 28, op := .faddr 0 (.t 1), guard := some (25, false), aft := [12] },
          { d := some 29, op := .load false 1 (.t 28), guard := some (25, false), aft := [15, 12] },
          { d := some 30, op := .bin .eql (.t 27) (.t 29), guard := some (25, false), aft := [14, 16, 12] },
          { d := some 31, op := .pick (.t 25) (.c (.bool true)) (.t 30), aft := [12, 17] },
          { d := some 32, op := .mov (.t 31), aft := [18, 12] },
          { d := some 33, op := .mov (.t 3), guard := some (32, false), aft := [19] },
          { d := some 34, op := .bin .gtr (.t 33) (.c (.int .i64 0)), guard := some (32, false), aft := [20, 19] },
          { d := some 35, op := .mov (.t 34), guard := some (32, false), aft := [21, 19, 19] },
          { d := some 36, op := .faddr 3 (.t 1), guard := some (35, true), aft := [22] },
          { d := some 37, op := .load false 1 (.t 36), guard := some (35, true), aft := [23, 22] },
          { d := some 38, op := .mov (.t 3), guard := some (35, true), aft := [22] },
          { d := some 39, op := .bin .sub (.t 38) (.c (.int .i64 1)), guard := some (35, true), aft := [25, 22] },
          { d := some 40, op := .iaddr 2 (.t 37) (.t 39), guard := some (35, true), aft := [24, 26, 22] },
          { d := some 41, op := .faddr 0 (.t 40), guard := some (35, true), aft := [27, 22] },
          { d := some 42, op := .load false 1 (.t 41), guard := some (35, true), aft := [28, 22] },
          { d := some 43, op := .faddr 0 (.t 4), guard := some (35, true), aft := [22] },
          { d := some 44, op := .load false 1 (.t 43), guard := some (35, true), aft := [30, 22] },
          { d := some 45, op := .bin .geq (.t 42) (.t 44), guard := some (35, true), aft := [29, 31, 22] },
          { d := some 46, op := .pick (.t 35) (.t 45) (.c (.bool false)), guard := some (32, false), aft := [22, 32, 19] },
          { d := some 47, op := .pick (.t 32) (.c (.bool true)) (.t 46), aft := [19, 33] }])
        (.cond (.t 47)
          (.seq (.reg 5 false [
            { d := some 2, op := .mov (.c (.bool false)) }])
          (.ret))
          (.skip)))))
      (.reg 6 false [
        { d := some 48, op := .bin .add (.t 8) (.c (.int .i64 1)) },
        { d := some 8, op := .mov (.t 48) }])))))))
  (.seq (.reg 7 false [
    { d := some 2, op := .mov (.c (.bool true)) }])
  (.ret)))
def rr_sheet_checks_3 : List RRes := [.t 2]
theorem pc_sheet_checks_3 {G : Nat → Option (List AV)} {args : List AV} {v : AV} (hn : args.length ≤ Tryd.f159.ntmps) (h : ∀ R : Run, R.G = G → R.Top → AR Tryd.prog R rc_sheet_checks_3 (initSt args) (Fin rr_sheet_checks_3 v)) : PC Tryd.prog G 159 args v :=
  PC_of Tryd.func159 rfl (by kernel_rfl) (rc := rc_sheet_checks_3) (by kernel_rfl) (rs := rr_sheet_checks_3) (by kernel_rfl) hn (fun R _ hG hr => h R hG hr)

theorem pb_sheet_checks_3 {G : Nat → Option (List AV)} {objs objs' : List (Nat × AObj)} {args : List AV} {v : AV} (hn : args.length ≤ Tryd.f159.ntmps) (h : ∀ R : Run, R.G = G → R.Top → AR Tryd.prog R rc_sheet_checks_3 ⟨iniT 0 args, objs⟩ (FinB rr_sheet_checks_3 v objs')) : PB Tryd.prog G 159 objs args v objs' :=
  PB_of Tryd.func159 rfl (by kernel_rfl) (rc := rc_sheet_checks_3) (by kernel_rfl) (rs := rr_sheet_checks_3) (by kernel_rfl) hn (fun R _ hG hr => h R hG hr)

theorem pp_sheet_checks_3 {G : Nat → Option (List AV)} {args : List AV} {ch : List PanicEntry} (hn : args.length ≤ Tryd.f159.ntmps) (h : ∀ R : Run, R.G = G → R.Top → AR Tryd.prog R rc_sheet_checks_3 (initSt args) (FinP ch)) : PPC Tryd.prog G 159 args ch :=
  PPC_of Tryd.func159 rfl (by kernel_rfl) (rc := rc_sheet_checks_3) (by kernel_rfl) hn (fun R _ hG hr => h R hG hr)

def rc_sheet_checks_4 : RCode :=
  .seq (.reg 0 false [
    { d := some 1, op := .box (.t 0) },
    { d := some 2, op := .mov (.c (.bool false)) }])
  (.seq (.reg 1 false [
    { d := some 3, op := .faddr 4 (.t 1) },
    { d := some 4, op := .load false 1 (.t 3) },
    { d := some 5, op := .call 161 [.t 4, .c (.func (.func 162) [] [])] },
    { d := some 6, op := .un .not (.t 5) },
    { d := some 2, op := .mov (.t 6) }])
  (.ret))
def rr_sheet_checks_4 : List RRes := [.t 2]
theorem pc_sheet_checks_4 {G : Nat → Option (List AV)} {args : List AV} {v : AV} (hn : args.length ≤ Tryd.f160.ntmps) (h : ∀ R : Run, R.G = G → R.Top → AR Tryd.prog R rc_sheet_checks_4 (initSt args) (Fin rr_sheet_checks_4 v)) : PC Tryd.prog G 160 args v :=
  PC_of Tryd.func160 rfl (by kernel_rfl) (rc := rc_sheet_checks_4) (by kernel_rfl) (rs := rr_sheet_checks_4) (by kernel_rfl) hn (fun R _ hG hr => h R hG hr)

theorem pb_sheet_checks_4 {G : Nat → Option (List AV)} {objs objs' : List (Nat × AObj)} {args : List AV} {v : AV} (hn : args.length ≤ Tryd.f160.ntmps) (h : ∀ R : Run, R.G = G → R.Top → AR Tryd.prog R rc_sheet_checks_4 ⟨iniT 0 args, objs⟩ (FinB rr_sheet_checks_4 v objs')) : PB Tryd.prog G 160 objs args v objs' :=
  PB_of Tryd.func160 rfl (by kernel_rfl) (rc := rc_sheet_checks_4) (by kernel_rfl) (rs := rr_sheet_checks_4) (by kernel_rfl) hn (fun R _ hG hr => h R hG hr)

theorem pp_sheet_checks_4 {G : Nat → Option (List AV)} {args : List AV} {ch : List PanicEntry} (hn : args.length ≤ Tryd.f160.ntmps) (h : ∀ R : Run, R.G = G → R.Top → AR Tryd.prog R rc_sheet_checks_4 (initSt args) (FinP ch)) : PPC Tryd.prog G 160 args ch :=
  PPC_of Tryd.func160 rfl (by kernel_rfl) (rc := rc_sheet_checks_4) (by kernel_rfl) hn (fun R _ hG hr => h R hG hr)

def rc_sheet_checks_4_1 : RCode :=
  .seq (.reg 0 false [
    { d := some 1, op := .box (.t 0) },
    { d := some 2, op := .mov (.c (.bool false)) }])
  (.seq (.reg 1 false [
    { d := some 3, op := .load true 3 (.t 1) },
    { d := some 4, op := .call 62 [.t 3] },
    { d := some 5, op := .bin .neq (.t 4) (.c (.int .i64 0)) },
    { d := some 2, op := .mov (.t 5) }])
  (.ret))
def rr_sheet_checks_4_1 : List RRes := [.t 2]
theorem pc_sheet_checks_4_1 {G : Nat → Option (List AV)} {args : List AV} {v : AV} (hn : args.length ≤ Tryd.f162.ntmps) (h : ∀ R : Run, R.G = G → R.Top → AR Tryd.prog R rc_sheet_checks_4_1 (initSt args) (Fin rr_sheet_checks_4_1 v)) : PC Tryd.prog G 162 args v :=
  PC_of Tryd.func162 rfl (by kernel_rfl) (rc := rc_sheet_checks_4_1) (by kernel_rfl) (rs := rr_sheet_checks_4_1) (by kernel_rfl) hn (fun R _ hG hr => h R hG hr)

theorem pb_sheet_checks_4_1 {G : Nat → Option (List AV)} {objs objs' : List (Nat × AObj)} {args : List AV} {v : AV} (hn : args.length ≤ Tryd.f162.ntmps) (h : ∀ R : Run, R.G = G → R.Top → AR Tryd.prog R rc_sheet_checks_4_1 ⟨iniT 0 args, objs⟩ (FinB rr_sheet_checks_4_1 v objs')) : PB Tryd.prog G 162 objs args v objs' :=
  PB_of Tryd.func162 rfl (by kernel_rfl) (rc := rc_sheet_checks_4_1) (by kernel_rfl) (rs := rr_sheet_checks_4_1) (by kernel_rfl) hn (fun R _ hG hr => h R hG hr)

theorem pp_sheet_checks_4_1 {G : Nat → Option (List AV)} {args : List AV} {ch : List PanicEntry} (hn : args.length ≤ Tryd.f162.ntmps) (h : ∀ R : Run, R.G = G → R.Top → AR Tryd.prog R rc_sheet_checks_4_1 (initSt args) (FinP ch)) : PPC Tryd.prog G 162 args ch :=
  PPC_of Tryd.func162 rfl (by kernel_rfl) (rc := rc_sheet_checks_4_1) (by kernel_rfl) hn (fun R _ hG hr => h R hG hr)

def rc_slices_ContainsFunc_api_Dim_api_Dim : RCode :=
  .seq (.reg 0 false [
    { d := some 4, op := .mov (.c (.bool false)) }])
  (.seq (.reg 1 false [
    { d := some 5, op := .mov (.t 0) },
    { d := some 6, op := .mov (.t 1) },
    { d := some 7, op := .call 163 [.t 5, .t 6] },
    { d := some 8, op := .bin .geq (.t 7) (.c (.int .i64 0)) },
    { d := some 4, op := .mov (.t 8) }])
  (.ret))
def rr_slices_ContainsFunc_api_Dim_api_Dim : List RRes := [.t 4]
theorem pc_slices_ContainsFunc_api_Dim_api_Dim {G : Nat → Option (List AV)} {args : List AV} {v : AV} (hn : args.length ≤ Tryd.f161.ntmps) (h : ∀ R : Run, R.G = G → R.Top → AR Tryd.prog R rc_slices_ContainsFunc_api_Dim_api_Dim (initSt args) (Fin rr_slices_ContainsFunc_api_Dim_api_Dim v)) : PC Tryd.prog G 161 args v :=
  PC_of Tryd.func161 rfl (by kernel_rfl) (rc := rc_slices_ContainsFunc_api_Dim_api_Dim) (by kernel_rfl) (rs := rr_slices_ContainsFunc_api_Dim_api_Dim) (by kernel_rfl) hn (fun R _ hG hr => h R hG hr)

theorem pb_slices_ContainsFunc_api_Dim_api_Dim {G : Nat → Option (List AV)} {objs objs' : List (Nat × AObj)} {args : List AV} {v : AV} (hn : args.length ≤ Tryd.f161.ntmps) (h : ∀ R : Run, R.G = G → R.Top → AR Tryd.prog R rc_slices_ContainsFunc_api_Dim_api_Dim ⟨iniT 0 args, objs⟩ (FinB rr_slices_ContainsFunc_api_Dim_api_Dim v objs')) : PB Tryd.prog G 161 objs args v objs' :=
  PB_of Tryd.func161 rfl (by kernel_rfl) (rc := rc_slices_ContainsFunc_api_Dim_api_Dim) (by kernel_rfl) (rs := rr_slices_ContainsFunc_api_Dim_api_Dim) (by kernel_rfl) hn (fun R _ hG hr => h R hG hr)

theorem pp_slices_ContainsFunc_api_Dim_api_Dim {G : Nat → Option (List AV)} {args : List AV} {ch : List PanicEntry} (hn : args.length ≤ Tryd.f161.ntmps) (h : ∀ R : Run, R.G = G → R.Top → AR Tryd.prog R rc_slices_ContainsFunc_api_Dim_api_Dim (initSt args) (FinP ch)) : PPC Tryd.prog G 161 args ch :=
  PPC_of Tryd.func161 rfl (by kernel_rfl) (rc := rc_slices_ContainsFunc_api_Dim_api_Dim) (by kernel_rfl) hn (fun R _ hG hr => h R hG hr)

def rc_slices_IndexFunc_api_Dim_api_Dim : RCode :=
  .seq (.reg 0 false [
    { d := some 4, op := .mov (.c (.int .i64 0)) }])
  (.seq (.seq (.reg 1 false [
    { d := some 6, op := .mov (.t 0) },
    { d := some 7, op := .len (.t 6) },
    { d := some 8, op := .mov (.c (.int .i64 0)) }])
  (.block 0
    (.loop
      (.seq (.reg 2 false [
        { d := some 9, op := .bin .lss (.t 8) (.t 7) }])
      (.seq (.cond (.t 9)
        (.skip)
        (.exit 0))
      (.seq (.block 1
        (.seq (.reg 3 false [
          { d := some 10, op := .mov (.t 8) },
          { d := some 5, op := .mov (.t 10) }])
        (.seq (.reg 4 false [
          { d := some 11, op := .mov (.t 1) },
          { d := some 12, op := .mov (.t 0) },
          { d := some 13, op := .mov (.t 5) },
          { d := some 14, op := .iaddr 3 (.t 12) (.t 13) },
          { d := some 15, op := .load true 3 (.t 14) },
          { d := some 16, op := .callv (.t 11) [.t 15] }])
        (.cond (.t 16)
          (.seq (.reg 5 false [
            { d := some 17, op := .mov (.t 5) },
            { d := some 4, op := .mov (.t 17) }])
          (.ret))
          (.skip)))))
      (.reg 6 false [
        { d := some 18, op := .bin .add (.t 8) (.c (.int .i64 1)) },
        { d := some 8, op := .mov (.t 18) }])))))))
  (.seq (.reg 7 false [
    { d := some 4, op := .mov (.c (.int .i64 (-1))) }])
  (.ret)))
def rr_slices_IndexFunc_api_Dim_api_Dim : List RRes := [.t 4]
theorem pc_slices_IndexFunc_api_Dim_api_Dim {G : Nat → Option (List AV)} {args : List AV} {v : AV} (hn : args.length ≤ Tryd.f163.ntmps) (h : ∀ R : Run, R.G = G → R.Top → AR Tryd.prog R rc_slices_IndexFunc_api_Dim_api_Dim (initSt args) (Fin rr_slices_IndexFunc_api_Dim_api_Dim v)) : PC Tryd.prog G 163 args v :=
  PC_of Tryd.func163 rfl (by kernel_rfl) (rc := rc_slices_IndexFunc_api_Dim_api_Dim) (by kernel_rfl) (rs := rr_slices_IndexFunc_api_Dim_api_Dim) (by kernel_rfl) hn (fun R _ hG hr => h R hG hr)

theorem pb_slices_IndexFunc_api_Dim_api_Dim {G : Nat → Option (List AV)} {objs objs' : List (Nat × AObj)} {args : List AV} {v : AV} (hn : args.length ≤ Tryd.f163.ntmps) (h : ∀ R : Run, R.G = G → R.Top → AR Tryd.prog R rc_slices_IndexFunc_api_Dim_api_Dim ⟨iniT 0 args, objs⟩ (FinB rr_slices_IndexFunc_api_Dim_api_Dim v objs')) : PB Tryd.prog G 163 objs args v objs' :=
  PB_of Tryd.func163 rfl (by kernel_rfl) (rc := rc_slices_IndexFunc_api_Dim_api_Dim) (by kernel_rfl) (rs := rr_slices_IndexFunc_api_Dim_api_Dim) (by kernel_rfl) hn (fun R _ hG hr => h R hG hr)

theorem pp_slices_IndexFunc_api_Dim_api_Dim {G : Nat → Option (List AV)} {args : List AV} {ch : List PanicEntry} (hn : args.length ≤ Tryd.f163.ntmps) (h : ∀ R : Run, R.G = G → R.Top → AR Tryd.prog R rc_slices_IndexFunc_api_Dim_api_Dim (initSt args) (FinP ch)) : PPC Tryd.prog G 163 args ch :=
  PPC_of Tryd.func163 rfl (by kernel_rfl) (rc := rc_slices_IndexFunc_api_Dim_api_Dim) (by kernel_rfl) hn (fun R _ hG hr => h R hG hr)

def rc_slices_ContainsFunc_api_Item_api_Item : RCode :=
  .seq (.reg 0 false [
    { d := some 4, op := .mov (.c (.bool false)) }])
  (.seq (.reg 1 false [
    { d := some 5, op := .mov (.t 0) },
    { d := some 6, op := .mov (.t 1) },
    { d := some 7, op := .call 120 [.t 5, .t 6] },
    { d := some 8, op := .bin .geq (.t 7) (.c (.int .i64 0)) },
    { d := some 4, op := .mov (.t 8) }])
  (.ret))
def rr_slices_ContainsFunc_api_Item_api_Item : List RRes := [.t 4]
theorem pc_slices_ContainsFunc_api_Item_api_Item {G : Nat → Option (List AV)} {args : List AV} {v : AV} (hn : args.length ≤ Tryd.f102.ntmps) (h : ∀ R : Run, R.G = G → R.Top → AR Tryd.prog R rc_slices_ContainsFunc_api_Item_api_Item (initSt args) (Fin rr_slices_ContainsFunc_api_Item_api_Item v)) : PC Tryd.prog G 102 args v :=
  PC_of Tryd.func102 rfl (by kernel_rfl) (rc := rc_slices_ContainsFunc_api_Item_api_Item) (by kernel_rfl) (rs := rr_slices_ContainsFunc_api_Item_api_Item) (by kernel_rfl) hn (fun R _ hG hr => h R hG hr)

theorem pb_slices_ContainsFunc_api_Item_api_Item {G : Nat → Option (List AV)} {objs objs' : List (Nat × AObj)} {args : List AV} {v : AV} (hn : args.length ≤ Tryd.f102.ntmps) (h : ∀ R : Run, R.G = G → R.Top → AR Tryd.prog R rc_slices_ContainsFunc_api_Item_api_Item ⟨iniT 0 args, objs⟩ (FinB rr_slices_ContainsFunc_api_Item_api_Item v objs')) : PB Tryd.prog G 102 objs args v objs' :=
  PB_of Tryd.func102 rfl (by kernel_rfl) (rc := rc_slices_ContainsFunc_api_Item_api_Item) (by kernel_rfl) (rs := rr_slices_ContainsFunc_api_Item_api_Item) (by kernel_rfl) hn (fun R _ hG hr => h R hG hr)

theorem pp_slices_ContainsFunc_api_Item_api_Item {G : Nat → Option (List AV)} {args : List AV} {ch : List PanicEntry} (hn : args.length ≤ Tryd.f102.ntmps) (h : ∀ R : Run, R.G = G → R.Top → AR Tryd.prog R rc_slices_ContainsFunc_api_Item_api_Item (initSt args) (FinP ch)) : PPC Tryd.prog G 102 args ch :=
  PPC_of Tryd.func102 rfl (by kernel_rfl) (rc := rc_slices_ContainsFunc_api_Item_api_Item) (by kernel_rfl) hn (fun R _ hG hr => h R hG hr)

def rc_slices_IndexFunc_api_Item_api_Item : RCode :=
  .seq (.reg 0 false [
    { d := some 4, op := .mov (.c (.int .i64 0)) }])
  (.seq (.seq (.reg 1 false [
    { d := some 6, op := .mov (.t 0) },
    { d := some 7, op := .len (.t 6) },
    { d := some 8, op := .mov (.c (.int .i64 0)) }])
  (.block 0
    (.loop
      (.seq (.reg 2 false [
        { d := some 9, op := .bin .lss (.t 8) (.t 7) }])
      (.seq (.cond (.t 9)
        (.skip)
        (.exit 0))
      (.seq (.block 1
        (.seq (.reg 3 false [
          { d := some 10, op := .mov (.t 8) },
          { d := some 5, op := .mov (.t 10) }])
        (.seq (.reg 4 false [
          { d := some 11, op := .mov (.t 1) },
          { d := some 12, op := .mov (.t 0) },
          { d := some 13, op := .mov (.t 5) },
          { d := some 14, op := .iaddr 2 (.t 12) (.t 13) },
          { d := some 15, op := .load true 2 (.t 14) },
          { d := some 16, op := .callv (.t 11) [.t 15] }])
        (.cond (.t 16)
          (.seq (.reg 5 false [
            { d := some 17, op := .mov (.t 5) },
            { d := some 4, op := .mov (.t 17) }])
          (.ret))
          (.skip)))))
      (.reg 6 false [
        { d := some 18, op := .bin .add (.t 8) (.c (.int .i64 1)) },
        { d := some 8, op := .mov (.t 18) }])))))))
  (.seq (.reg 7 false [
    { d := some 4, op := .mov (.c (.int .i64 (-1))) }])
  (.ret)))
def rr_slices_IndexFunc_api_Item_api_Item : List RRes := [.t 4]
theorem pc_slices_IndexFunc_api_Item_api_Item {G : Nat → Option (List AV)} {args : List AV} {v : AV} (hn : args.length ≤ Tryd.f120.ntmps) (h : ∀ R : Run, R.G = G → R.Top → AR Tryd.prog R rc_slices_IndexFunc_api_Item_api_Item (initSt args) (Fin rr_slices_IndexFunc_api_Item_api_Item v)) : PC Tryd.prog G 120 args v :=
  PC_of Tryd.func120 rfl (by kernel_rfl) (rc := rc_slices_IndexFunc_api_Item_api_Item) (by kernel_rfl) (rs := rr_slices_IndexFunc_api_Item_api_Item) (by kernel_rfl) hn (fun R _ hG hr => h R hG hr)

theorem pb_slices_IndexFunc_api_Item_api_Item {G : Nat → Option (List AV)} {objs objs' : List (Nat × AObj)} {args : List AV} {v : AV} (hn : args.length ≤ Tryd.f120.ntmps) (h : ∀ R : Run, R.G = G → R.Top → AR Tryd.prog R rc_slices_IndexFunc_api_Item_api_Item ⟨iniT 0 args, objs⟩ (FinB rr_slices_IndexFunc_api_Item_api_Item v objs')) : PB Tryd.prog G 120 objs args v objs' :=
  PB_of Tryd.func120 rfl (by kernel_rfl) (rc := rc_slices_IndexFunc_api_Item_api_Item) (by kernel_rfl) (rs := rr_slices_IndexFunc_api_Item_api_Item) (by kernel_rfl) hn (fun R _ hG hr => h R hG hr)

theorem pp_slices_IndexFunc_api_Item_api_Item {G : Nat → Option (List AV)} {args : List AV} {ch : List PanicEntry} (hn : args.length ≤ Tryd.f120.ntmps) (h : ∀ R : Run, R.G = G → R.Top → AR Tryd.prog R rc_slices_IndexFunc_api_Item_api_Item (initSt args) (FinP ch)) : PPC Tryd.prog G 120 args ch :=
  PPC_of Tryd.func120 rfl (by kernel_rfl) (rc := rc_slices_IndexFunc_api_Item_api_Item) (by kernel_rfl) hn (fun R _ hG hr => h R hG hr)

def rc_sheet_open_1 : RCode :=
  .seq (.reg 0 false [
    { d := some 2, op := .box (.t 0) },
    { d := some 3, op := .mov (.c (.bool false)) }])
  (.seq (.reg 1 false [
    { d := some 4, op := .load false 1 (.t 1) },
    { d := some 5, op := .faddr 0 (.t 2) },
    { d := some 6, op := .load false 1 (.t 5) },
    { d := some 7, op := .call 104 [.t 4, .t 6] },
    { d := some 8, op := .un .not (.t 7) },
    { d := some 3, op := .mov (.t 8) }])
  (.ret))
def rr_sheet_open_1 : List RRes := [.t 3]
theorem pc_sheet_open_1 {G : Nat → Option (List AV)} {args : List AV} {v : AV} (hn : args.length ≤ Tryd.f103.ntmps) (h : ∀ R : Run, R.G = G → R.Top → AR Tryd.prog R rc_sheet_open_1 (initSt args) (Fin rr_sheet_open_1 v)) : PC Tryd.prog G 103 args v :=
  PC_of Tryd.func103 rfl (by kernel_rfl) (rc := rc_sheet_open_1) (by kernel_rfl) (rs := rr_sheet_open_1) (by kernel_rfl) hn (fun R _ hG hr => h R hG hr)

theorem pb_sheet_open_1 {G : Nat → Option (List AV)} {objs objs' : List (Nat × AObj)} {args : List AV} {v : AV} (hn : args.length ≤ Tryd.f103.ntmps) (h : ∀ R : Run, R.G = G → R.Top → AR Tryd.prog R rc_sheet_open_1 ⟨iniT 0 args, objs⟩ (FinB rr_sheet_open_1 v objs')) : PB Tryd.prog G 103 objs args v objs' :=
  PB_of Tryd.func103 rfl (by kernel_rfl) (rc := rc_sheet_open_1) (by kernel_rfl) (rs := rr_sheet_open_1) (by kernel_rfl) hn (fun R _ hG hr => h R hG hr)

theorem pp_sheet_open_1 {G : Nat → Option (List AV)} {args : List AV} {ch : List PanicEntry} (hn : args.length ≤ Tryd.f103.ntmps) (h : ∀ R : Run, R.G = G → R.Top → AR Tryd.prog R rc_sheet_open_1 (initSt args) (FinP ch)) : PPC Tryd.prog G 103 args ch :=
  PPC_of Tryd.func103 rfl (by kernel_rfl) (rc := rc_sheet_open_1) (by kernel_rfl) hn (fun R _ hG hr => h R hG hr)

def rc_sheet_book_has : RCode :=
  .seq (.reg 0 false [
    { d := some 4, op := .mov (.c (.bool false)) }])
  (.seq (.reg 1 false [
    { d := some 8, op := .mov (.t 0) },
    { d := some 9, op := .nilck (.t 8) },
    { d := some 10, op := .faddr 1 (.t 9) },
    { d := some 11, op := .load false 1 (.t 10) },
    { d := some 12, op := .mov (.t 1) },
    { d := some 13, op := .call 121 [.t 11, .t 12] },
    { d := some 7, op := .mov (.t 13) },
    { d := some 14, op := .ext 0 (.t 7) },
    { d := some 15, op := .ext 1 (.t 7) },
    { d := some 5, op := .mov (.t 14) },
    { d := some 6, op := .mov (.t 15) }])
  (.seq (.reg 2 false [
    { d := some 16, op := .mov (.t 6) },
    { d := some 4, op := .mov (.t 16) }])
  (.ret)))
def rr_sheet_book_has : List RRes := [.t 4]
theorem pc_sheet_book_has {G : Nat → Option (List AV)} {args : List AV} {v : AV} (hn : args.length ≤ Tryd.f104.ntmps) (h : ∀ R : Run, R.G = G → R.Top → AR Tryd.prog R rc_sheet_book_has (initSt args) (Fin rr_sheet_book_has v)) : PC Tryd.prog G 104 args v :=
  PC_of Tryd.func104 rfl (by kernel_rfl) (rc := rc_sheet_book_has) (by kernel_rfl) (rs := rr_sheet_book_has) (by kernel_rfl) hn (fun R _ hG hr => h R hG hr)

theorem pb_sheet_book_has {G : Nat → Option (List AV)} {objs objs' : List (Nat × AObj)} {args : List AV} {v : AV} (hn : args.length ≤ Tryd.f104.ntmps) (h : ∀ R : Run, R.G = G → R.Top → AR Tryd.prog R rc_sheet_book_has ⟨iniT 0 args, objs⟩ (FinB rr_sheet_book_has v objs')) : PB Tryd.prog G 104 objs args v objs' :=
  PB_of Tryd.func104 rfl (by kernel_rfl) (rc := rc_sheet_book_has) (by kernel_rfl) (rs := rr_sheet_book_has) (by kernel_rfl) hn (fun R _ hG hr => h R hG hr)

theorem pp_sheet_book_has {G : Nat → Option (List AV)} {args : List AV} {ch : List PanicEntry} (hn : args.length ≤ Tryd.f104.ntmps) (h : ∀ R : Run, R.G = G → R.Top → AR Tryd.prog R rc_sheet_book_has (initSt args) (FinP ch)) : PPC Tryd.prog G 104 args ch :=
  PPC_of Tryd.func104 rfl (by kernel_rfl) (rc := rc_sheet_book_has) (by kernel_rfl) hn (fun R _ hG hr => h R hG hr)

def rc_slices_BinarySearch_int_int : RCode :=
  .seq (.reg 0 false [
    { d := some 4, op := .mov (.c (.int .i64 0)) },
    { d := some 5, op := .mov (.c (.bool false)) }])
  (.seq (.reg 1 false [
    { d := some 10, op := .mov (.t 0) },
    { d := some 11, op := .len (.t 10) },
    { d := some 6, op := .mov (.t 11) }])
  (.seq (.reg 2 false [
    { d := some 12, op := .mov (.t 6) },
    { d := some 7, op := .mov (.c (.int .i64 0)) },
    { d := some 8, op := .mov (.t 12) }])
  (.seq (.block 0
    (.loop
      (.seq (.seq (.reg 3 false [
        { d := some 13, op := .mov (.t 7) },
        { d := some 14, op := .mov (.t 8) },
        { d := some 15, op := .bin .lss (.t 13) (.t 14) }])
      (.cond (.t 15)
        (.skip)
        (.exit 0)))
      (.block 1
        (.seq (.reg 4 false [
          { d := some 16, op := .mov (.t 7) },
          { d := some 17, op := .mov (.t 8) },
          { d := some 18, op := .bin .add (.t 16) (.t 17) },
          { d := some 19, op := .conv .u64 (.t 18) },
          { d := some 20, op := .vop (.sh false) [(.t 19), (.c (.int .u64 1))] },
          { d := some 21, op := .conv .i64 (.t 20) },
          { d := some 9, op := .mov (.t 21) }])
        (.seq (.reg 5 false [
          { d := some 22, op := .mov (.t 0) },
          { d := some 23, op := .mov (.t 9) },
          { d := some 24, op := .iaddr 1 (.t 22) (.t 23) },
          { d := some 25, op := .load false 1 (.t 24) },
          { d := some 26, op := .mov (.t 1) },
          { d := some 27, op := .call 133 [.t 25, .t 26] }])
        (.cond (.t 27)
          (.reg 6 false [
            { d := some 28, op := .mov (.t 9) },
            { d := some 29, op := .bin .add (.t 28) (.c (.int .i64 1)) },
            { d := some 7, op := .mov (.t 29) }])
          (.reg 7 false [
            { d := some 30, op := .mov (.t 9) },
            { d := some 8, op := .mov (.t 30) }]))))))))
  (.seq (.reg 8 false [
    { d := some 31, op := .mov (.t 7) },
    { d := some 32, op := .mov (.t 7) },
    { d := some 33, op := .mov (.t 6) },
    { d := some 34, op := .bin .lss (.t 32) (.t 33) },
    { d := some 35, op := .mov (.t 34) },
    { d := some 36, op := .mov (.t 0), guard := some (35, true) },
    { d := some 37, op := .mov (.t 7), guard := some (35, true) },
    { d := some 38, op := .iaddr 1 (.t 36) (.t 37), guard := some (35, true) },
    { d := some 39, op := .load false 1 (.t 38), guard := some (35, true) },
    { d := some 40, op := .mov (.t 1), guard := some (35, true) },
    { d := some 41, op := .bin .eql (.t 39) (.t 40), guard := some (35, true) },
    { d := some 42, op := .mov (.t 41), guard := some (35, true) },
    { d := some 43, op := .mov (.t 0), guard := some (42, false) },
    { d := some 44, op := .mov (.t 7), guard := some (42, false) },
    { d := some 45, op := .iaddr 1 (.t 43) (.t 44), guard := some (42, false) },
    { d := some 46, op := .load false 1 (.t 45), guard := some (42, false) },
    { d := some 47, op := .call 134 [.t 46], guard := some (42, false) },
    { d := some 48, op := .mov (.t 47), guard := some (42, false) },
    { d := some 49, op := .mov (.t 1), guard := some (48, true) },
    { d := some 50, op := .call 134 [.t 49], guard := some (48, true) },
    { d := some 51, op := .pick (.t 48) (.t 50) (.c (.bool false)), guard := some (42, false) },
    { d := some 52, op := .pick (.t 42) (.c (.bool true)) (.t 51), guard := some (35, true) },
    { d := some 53, op := .pick (.t 35) (.t 52) (.c (.bool false)) },
    { d := some 4, op := .mov (.t 31) },
    { d := some 5, op := .mov (.t 53) }])
  (.ret)))))
def rr_slices_BinarySearch_int_int : List RRes := [.t 4, .t 5]
theorem pc_slices_BinarySearch_int_int {G : Nat → Option (List AV)} {args : List AV} {v : AV} (hn : args.length ≤ Tryd.f121.ntmps) (h : ∀ R : Run, R.G = G → R.Top → AR Tryd.prog R rc_slices_BinarySearch_int_int (initSt args) (Fin rr_slices_BinarySearch_int_int v)) : PC Tryd.prog G 121 args v :=
  PC_of Tryd.func121 rfl (by kernel_rfl) (rc := rc_slices_BinarySearch_int_int) (by kernel_rfl) (rs := rr_slices_BinarySearch_int_int) (by kernel_rfl) hn (fun R _ hG hr => h R hG hr)

theorem pb_slices_BinarySearch_int_int {G : Nat → Option (List AV)} {objs objs' : List (Nat × AObj)} {args : List AV} {v : AV} (hn : args.length ≤ Tryd.f121.ntmps) (h : ∀ R : Run, R.G = G → R.Top → AR Tryd.prog R rc_slices_BinarySearch_int_int ⟨iniT 0 args, objs⟩ (FinB rr_slices_BinarySearch_int_int v objs')) : PB Tryd.prog G 121 objs args v objs' :=
  PB_of Tryd.func121 rfl (by kernel_rfl) (rc := rc_slices_BinarySearch_int_int) (by kernel_rfl) (rs := rr_slices_BinarySearch_int_int) (by kernel_rfl) hn (fun R _ hG hr => h R hG hr)

theorem pp_slices_BinarySearch_int_int {G : Nat → Option (List AV)} {args : List AV} {ch : List PanicEntry} (hn : args.length ≤ Tryd.f121.ntmps) (h : ∀ R : Run, R.G = G → R.Top → AR Tryd.prog R rc_slices_BinarySearch_int_int (initSt args) (FinP ch)) : PPC Tryd.prog G 121 args ch :=
  PPC_of Tryd.func121 rfl (by kernel_rfl) (rc := rc_slices_BinarySearch_int_int) (by kernel_rfl) hn (fun R _ hG hr => h R hG hr)

def rc_cmp_Less_int : RCode :=
  .seq (.reg 0 false [
    { d := some 4, op := .mov (.c (.bool false)) }])
  (.seq (.reg 1 false [
    { d := some 5, op := .mov (.t 0) },
    { d := some 6, op := .call 135 [.t 5] },
    { d := some 7, op := .mov (.t 6) },
    { d := some 8, op := .mov (.t 1), guard := some (7, true) },
    { d := some 9, op := .call 135 [.t 8], guard := some (7, true) },
    { d := some 10, op := .un .not (.t 9), guard := some (7, true) },
    { d := some 11, op := .pick (.t 7) (.t 10) (.c (.bool false)) },
    { d := some 12, op := .mov (.t 11) },
    { d := some 13, op := .mov (.t 0), guard := some (12, false) },
    { d := some 14, op := .mov (.t 1), guard := some (12, false) },
    { d := some 15, op := .bin .lss (.t 13) (.t 14), guard := some (12, false) },
    { d := some 16, op := .pick (.t 12) (.c (.bool true)) (.t 15) },
    { d := some 4, op := .mov (.t 16) }])
  (.ret))
def rr_cmp_Less_int : List RRes := [.t 4]
theorem pc_cmp_Less_int {G : Nat → Option (List AV)} {args : List AV} {v : AV} (hn : args.length ≤ Tryd.f133.ntmps) (h : ∀ R : Run, R.G = G → R.Top → AR Tryd.prog R rc_cmp_Less_int (initSt args) (Fin rr_cmp_Less_int v)) : PC Tryd.prog G 133 args v :=
  PC_of Tryd.func133 rfl (by kernel_rfl) (rc := rc_cmp_Less_int) (by kernel_rfl) (rs := rr_cmp_Less_int) (by kernel_rfl) hn (fun R _ hG hr => h R hG hr)

theorem pb_cmp_Less_int {G : Nat → Option (List AV)} {objs objs' : List (Nat × AObj)} {args : List AV} {v : AV} (hn : args.length ≤ Tryd.f133.ntmps) (h : ∀ R : Run, R.G = G → R.Top → AR Tryd.prog R rc_cmp_Less_int ⟨iniT 0 args, objs⟩ (FinB rr_cmp_Less_int v objs')) : PB Tryd.prog G 133 objs args v objs' :=
  PB_of Tryd.func133 rfl (by kernel_rfl) (rc := rc_cmp_Less_int) (by kernel_rfl) (rs := rr_cmp_Less_int) (by kernel_rfl) hn (fun R _ hG hr => h R hG hr)

theorem pp_cmp_Less_int {G : Nat → Option (List AV)} {args : List AV} {ch : List PanicEntry} (hn : args.length ≤ Tryd.f133.ntmps) (h : ∀ R : Run, R.G = G → R.Top → AR Tryd.prog R rc_cmp_Less_int (initSt args) (FinP ch)) : PPC Tryd.prog G 133 args ch :=
  PPC_of Tryd.func133 rfl (by kernel_rfl) (rc := rc_cmp_Less_int) (by kernel_rfl) hn (fun R _ hG hr => h R hG hr)

def rc_cmp_isNaN_int : RCode :=
  .seq (.reg 0 false [
    { d := some 2, op := .mov (.c (.bool false)) }])
  (.seq (.reg 1 false [
    { d := some 3, op := .mov (.t 0) },
    { d := some 4, op := .mov (.t 0) },
    { d := some 5, op := .bin .neq (.t 3) (.t 4) },
    { d := some 2, op := .mov (.t 5) }])
  (.ret))
def rr_cmp_isNaN_int : List RRes := [.t 2]
theorem pc_cmp_isNaN_int {G : Nat → Option (List AV)} {args : List AV} {v : AV} (hn : args.length ≤ Tryd.f135.ntmps) (h : ∀ R : Run, R.G = G → R.Top → AR Tryd.prog R rc_cmp_isNaN_int (initSt args) (Fin rr_cmp_isNaN_int v)) : PC Tryd.prog G 135 args v :=
  PC_of Tryd.func135 rfl (by kernel_rfl) (rc := rc_cmp_isNaN_int) (by kernel_rfl) (rs := rr_cmp_isNaN_int) (by kernel_rfl) hn (fun R _ hG hr => h R hG hr)

theorem pb_cmp_isNaN_int {G : Nat → Option (List AV)} {objs objs' : List (Nat × AObj)} {args : List AV} {v : AV} (hn : args.length ≤ Tryd.f135.ntmps) (h : ∀ R : Run, R.G = G → R.Top → AR Tryd.prog R rc_cmp_isNaN_int ⟨iniT 0 args, objs⟩ (FinB rr_cmp_isNaN_int v objs')) : PB Tryd.prog G 135 objs args v objs' :=
  PB_of Tryd.func135 rfl (by kernel_rfl) (rc := rc_cmp_isNaN_int) (by kernel_rfl) (rs := rr_cmp_isNaN_int) (by kernel_rfl) hn (fun R _ hG hr => h R hG hr)

theorem pp_cmp_isNaN_int {G : Nat → Option (List AV)} {args : List AV} {ch : List PanicEntry} (hn : args.length ≤ Tryd.f135.ntmps) (h : ∀ R : Run, R.G = G → R.Top → AR Tryd.prog R rc_cmp_isNaN_int (initSt args) (FinP ch)) : PPC Tryd.prog G 135 args ch :=
  PPC_of Tryd.func135 rfl (by kernel_rfl) (rc := rc_cmp_isNaN_int) (by kernel_rfl) hn (fun R _ hG hr => h R hG hr)

def rc_slices_isNaN_int : RCode :=
  .seq (.reg 0 false [
    { d := some 2, op := .mov (.c (.bool false)) }])
  (.seq (.reg 1 false [
    { d := some 3, op := .mov (.t 0) },
    { d := some 4, op := .mov (.t 0) },
    { d := some 5, op := .bin .neq (.t 3) (.t 4) },
    { d := some 2, op := .mov (.t 5) }])
  (.ret))
def rr_slices_isNaN_int : List RRes := [.t 2]
theorem pc_slices_isNaN_int {G : Nat → Option (List AV)} {args : List AV} {v : AV} (hn : args.length ≤ Tryd.f134.ntmps) (h : ∀ R : Run, R.G = G → R.Top → AR Tryd.prog R rc_slices_isNaN_int (initSt args) (Fin rr_slices_isNaN_int v)) : PC Tryd.prog G 134 args v :=
  PC_of Tryd.func134 rfl (by kernel_rfl) (rc := rc_slices_isNaN_int) (by kernel_rfl) (rs := rr_slices_isNaN_int) (by kernel_rfl) hn (fun R _ hG hr => h R hG hr)

theorem pb_slices_isNaN_int {G : Nat → Option (List AV)} {objs objs' : List (Nat × AObj)} {args : List AV} {v : AV} (hn : args.length ≤ Tryd.f134.ntmps) (h : ∀ R : Run, R.G = G → R.Top → AR Tryd.prog R rc_slices_isNaN_int ⟨iniT 0 args, objs⟩ (FinB rr_slices_isNaN_int v objs')) : PB Tryd.prog G 134 objs args v objs' :=
  PB_of Tryd.func134 rfl (by kernel_rfl) (rc := rc_slices_isNaN_int) (by kernel_rfl) (rs := rr_slices_isNaN_int) (by kernel_rfl) hn (fun R _ hG hr => h R hG hr)

theorem pp_slices_isNaN_int {G : Nat → Option (List AV)} {args : List AV} {ch : List PanicEntry} (hn : args.length ≤ Tryd.f134.ntmps) (h : ∀ R : Run, R.G = G → R.Top → AR Tryd.prog R rc_slices_isNaN_int (initSt args) (FinP ch)) : PPC Tryd.prog G 134 args ch :=
  PPC_of Tryd.func134 rfl (by kernel_rfl) (rc := rc_slices_isNaN_int) (by kernel_rfl) hn (fun R _ hG hr => h R hG hr)

def rc_cmp_Compare_int : RCode :=
  .seq (.reg 0 false [
    { d := some 4, op := .mov (.c (.int .i64 0)) }])
  (.seq (.reg 1 false [
    { d := some 7, op := .mov (.t 0) },
    { d := some 8, op := .call 135 [.t 7] },
    { d := some 5, op := .mov (.t 8) }])
  (.seq (.reg 2 false [
    { d := some 9, op := .mov (.t 1) },
    { d := some 10, op := .call 135 [.t 9] },
    { d := some 6, op := .mov (.t 10) }])
  (.seq (.seq (.reg 3 false [
    { d := some 11, op := .mov (.t 5) }])
  (.cond (.t 11)
    (.seq (.seq (.reg 4 false [
      { d := some 12, op := .mov (.t 6) }])
    (.cond (.t 12)
      (.seq (.reg 5 false [
        { d := some 4, op := .mov (.c (.int .i64 0)) }])
      (.ret))
      (.skip)))
    (.seq (.reg 6 false [
      { d := some 4, op := .mov (.c (.int .i64 (-1))) }])
    (.ret)))
    (.skip)))
  (.seq (.seq (.reg 7 false [
    { d := some 13, op := .mov (.t 6) }])
  (.cond (.t 13)
    (.seq (.reg 8 false [
      { d := some 4, op := .mov (.c (.int .i64 1)) }])
    (.ret))
    (.skip)))
  (.seq (.seq (.reg 9 false [
    { d := some 14, op := .mov (.t 0) },
    { d := some 15, op := .mov (.t 1) },
    { d := some 16, op := .bin .lss (.t 14) (.t 15) }])
  (.cond (.t 16)
    (.seq (.reg 10 false [
      { d := some 4, op := .mov (.c (.int .i64 (-1))) }])
    (.ret))
    (.skip)))
  (.seq (.seq (.reg 11 false [
    { d := some 17, op := .mov (.t 0) },
    { d := some 18, op := .mov (.t 1) },
    { d := some 19, op := .bin .gtr (.t 17) (.t 18) }])
  (.cond (.t 19)
    (.seq (.reg 12 false [
      { d := some 4, op := .mov (.c (.int .i64 1)) }])
    (.ret))
    (.skip)))
  (.seq (.reg 13 false [
    { d := some 4, op := .mov (.c (.int .i64 0)) }])
  (.ret))))))))
def rr_cmp_Compare_int : List RRes := [.t 4]
theorem pc_cmp_Compare_int {G : Nat → Option (List AV)} {args : List AV} {v : AV} (hn : args.length ≤ Tryd.f125.ntmps) (h : ∀ R : Run, R.G = G → R.Top → AR Tryd.prog R rc_cmp_Compare_int (initSt args) (Fin rr_cmp_Compare_int v)) : PC Tryd.prog G 125 args v :=
  PC_of Tryd.func125 rfl (by kernel_rfl) (rc := rc_cmp_Compare_int) (by kernel_rfl) (rs := rr_cmp_Compare_int) (by kernel_rfl) hn (fun R _ hG hr => h R hG hr)

theorem pb_cmp_Compare_int {G : Nat → Option (List AV)} {objs objs' : List (Nat × AObj)} {args : List AV} {v : AV} (hn : args.length ≤ Tryd.f125.ntmps) (h : ∀ R : Run, R.G = G → R.Top → AR Tryd.prog R rc_cmp_Compare_int ⟨iniT 0 args, objs⟩ (FinB rr_cmp_Compare_int v objs')) : PB Tryd.prog G 125 objs args v objs' :=
  PB_of Tryd.func125 rfl (by kernel_rfl) (rc := rc_cmp_Compare_int) (by kernel_rfl) (rs := rr_cmp_Compare_int) (by kernel_rfl) hn (fun R _ hG hr => h R hG hr)

theorem pp_cmp_Compare_int {G : Nat → Option (List AV)} {args : List AV} {ch : List PanicEntry} (hn : args.length ≤ Tryd.f125.ntmps) (h : ∀ R : Run, R.G = G → R.Top → AR Tryd.prog R rc_cmp_Compare_int (initSt args) (FinP ch)) : PPC Tryd.prog G 125 args ch :=
  PPC_of Tryd.func125 rfl (by kernel_rfl) (rc := rc_cmp_Compare_int) (by kernel_rfl) hn (fun R _ hG hr => h R hG hr)

def rc_slices_BinarySearchFunc_api_Issue_api_Issue_int : RCode :=
  .seq (.reg 0 false [
    { d := some 6, op := .mov (.c (.int .i64 0)) },
    { d := some 7, op := .mov (.c (.bool false)) }])
  (.seq (.reg 1 false [
    { d := some 12, op := .mov (.t 0) },
    { d := some 13, op := .len (.t 12) },
    { d := some 8, op := .mov (.t 13) }])
  (.seq (.reg 2 false [
    { d := some 14, op := .mov (.t 8) },
    { d := some 9, op := .mov (.c (.int .i64 0)) },
    { d := some 10, op := .mov (.t 14) }])
  (.seq (.block 0
    (.loop
      (.seq (.seq (.reg 3 false [
        { d := some 15, op := .mov (.t 9) },
        { d := some 16, op := .mov (.t 10) },
        { d := some 17, op := .bin .lss (.t 15) (.t 16) }])
      (.cond (.t 17)
        (.skip)
        (.exit 0)))
      (.block 1
        (.seq (.reg 4 false [
          { d := some 18, op := .mov (.t 9) },
          { d := some 19, op := .mov (.t 10) },
          { d := some 20, op := .bin .add (.t 18) (.t 19) },
          { d := some 21, op := .conv .u64 (.t 20) },
          { d := some 22, op := .vop (.sh false) [(.t 21), (.c (.int .u64 1))] },
          { d := some 23, op := .conv .i64 (.t 22) },
          { d := some 11, op := .mov (.t 23) }])
        (.seq (.reg 5 false [
          { d := some 24, op := .mov (.t 2) },
          { d := some 25, op := .mov (.t 0) },
          { d := some 26, op := .mov (.t 11) },
          { d := some 27, op := .iaddr 5 (.t 25) (.t 26) },
          { d := some 28, op := .load true 5 (.t 27) },
          { d := some 29, op := .mov (.t 1) },
          { d := some 30, op := .callv (.t 24) [.t 28, .t 29] },
          { d := some 31, op := .bin .lss (.t 30) (.c (.int .i64 0)) }])
        (.cond (.t 31)
          (.reg 6 false [
            { d := some 32, op := .mov (.t 11) },
            { d := some 33, op := .bin .add (.t 32) (.c (.int .i64 1)) },
            { d := some 9, op := .mov (.t 33) }])
          (.reg 7 false [
            { d := some 34, op := .mov (.t 11) },
            { d := some 10, op := .mov (.t 34) }]))))))))
  (.seq (.reg 8 false [
    { d := some 35, op := .mov (.t 9) },
    { d := some 36, op := .mov (.t 9) },
    { d := some 37, op := .mov (.t 8) },
    { d := some 38, op := .bin .lss (.t 36) (.t 37) },
    { d := some 39, op := .mov (.t 38) },
    { d := some 40, op := .mov (.t 2), guard := some (39, true) },
    { d := some 41, op := .mov (.t 0), guard := some (39, true) },
    { d := some 42, op := .mov (.t 9), guard := some (39, true) },
    { d := some 43, op := .iaddr 5 (.t 41) (.t 42), guard := some (39, true) },
    { d := some 44, op := .load true 5 (.t 43), guard := some (39, true) },
    { d := some 45, op := .mov (.t 1), guard := some (39, true) },
    { d := some 46, op := .callv (.t 40) [.t 44, .t 45], guard := some (39, true) },
    { d := some 47, op := .bin .eql (.t 46) (.c (.int .i64 0)), guard := some (39, true) },
    { d := some 48, op := .pick (.t 39) (.t 47) (.c (.bool false)) },
    { d := some 6, op := .mov (.t 35) },
    { d := some 7, op := .mov (.t 48) }])
  (.ret)))))
def rr_slices_BinarySearchFunc_api_Issue_api_Issue_int : List RRes := [.t 6, .t 7]
theorem pc_slices_BinarySearchFunc_api_Issue_api_Issue_int {G : Nat → Option (List AV)} {args : List AV} {v : AV} (hn : args.length ≤ Tryd.f123.ntmps) (h : ∀ R : Run, R.G = G → R.Top → AR Tryd.prog R rc_slices_BinarySearchFunc_api_Issue_api_Issue_int (initSt args) (Fin rr_slices_BinarySearchFunc_api_Issue_api_Issue_int v)) : PC Tryd.prog G 123 args v :=
  PC_of Tryd.func123 rfl (by kernel_rfl) (rc := rc_slices_BinarySearchFunc_api_Issue_api_Issue_int) (by kernel_rfl) (rs := rr_slices_BinarySearchFunc_api_Issue_api_Issue_int) (by kernel_rfl) hn (fun R _ hG hr => h R hG hr)

theorem pb_slices_BinarySearchFunc_api_Issue_api_Issue_int {G : Nat → Option (List AV)} {objs objs' : List (Nat × AObj)} {args : List AV} {v : AV} (hn : args.length ≤ Tryd.f123.ntmps) (h : ∀ R : Run, R.G = G → R.Top → AR Tryd.prog R rc_slices_BinarySearchFunc_api_Issue_api_Issue_int ⟨iniT 0 args, objs⟩ (FinB rr_slices_BinarySearchFunc_api_Issue_api_Issue_int v objs')) : PB Tryd.prog G 123 objs args v objs' :=
  PB_of Tryd.func123 rfl (by kernel_rfl) (rc := rc_slices_BinarySearchFunc_api_Issue_api_Issue_int) (by kernel_rfl) (rs := rr_slices_BinarySearchFunc_api_Issue_api_Issue_int) (by kernel_rfl) hn (fun R _ hG hr => h R hG hr)

theorem pp_slices_BinarySearchFunc_api_Issue_api_Issue_int {G : Nat → Option (List AV)} {args : List AV} {ch : List PanicEntry} (hn : args.length ≤ Tryd.f123.ntmps) (h : ∀ R : Run, R.G = G → R.Top → AR Tryd.prog R rc_slices_BinarySearchFunc_api_Issue_api_Issue_int (initSt args) (FinP ch)) : PPC Tryd.prog G 123 args ch :=
  PPC_of Tryd.func123 rfl (by kernel_rfl) (rc := rc_slices_BinarySearchFunc_api_Issue_api_Issue_int) (by kernel_rfl) hn (fun R _ hG hr => h R hG hr)

def rc_sheet_book_issues : RCode :=
  .seq (.reg 0 false [
    { d := some 2, op := .box (.t 0) },
    { d := some 3, op := .box (.t 1) },
    { d := some 4, op := .mov (.c (.nilf)) }])
  (.seq (.reg 1 false [
    { d := some 5, op := .mkf (.func 122) [] [.t 2, .t 3] },
    { d := some 4, op := .mov (.t 5) }])
  (.ret))
def rr_sheet_book_issues : List RRes := [.t 4]
theorem pc_sheet_book_issues {G : Nat → Option (List AV)} {args : List AV} {v : AV} (hn : args.length ≤ Tryd.f105.ntmps) (h : ∀ R : Run, R.G = G → R.Top → AR Tryd.prog R rc_sheet_book_issues (initSt args) (Fin rr_sheet_book_issues v)) : PC Tryd.prog G 105 args v :=
  PC_of Tryd.func105 rfl (by kernel_rfl) (rc := rc_sheet_book_issues) (by kernel_rfl) (rs := rr_sheet_book_issues) (by kernel_rfl) hn (fun R _ hG hr => h R hG hr)

theorem pb_sheet_book_issues {G : Nat → Option (List AV)} {objs objs' : List (Nat × AObj)} {args : List AV} {v : AV} (hn : args.length ≤ Tryd.f105.ntmps) (h : ∀ R : Run, R.G = G → R.Top → AR Tryd.prog R rc_sheet_book_issues ⟨iniT 0 args, objs⟩ (FinB rr_sheet_book_issues v objs')) : PB Tryd.prog G 105 objs args v objs' :=
  PB_of Tryd.func105 rfl (by kernel_rfl) (rc := rc_sheet_book_issues) (by kernel_rfl) (rs := rr_sheet_book_issues) (by kernel_rfl) hn (fun R _ hG hr => h R hG hr)

theorem pp_sheet_book_issues {G : Nat → Option (List AV)} {args : List AV} {ch : List PanicEntry} (hn : args.length ≤ Tryd.f105.ntmps) (h : ∀ R : Run, R.G = G → R.Top → AR Tryd.prog R rc_sheet_book_issues (initSt args) (FinP ch)) : PPC Tryd.prog G 105 args ch :=
  PPC_of Tryd.func105 rfl (by kernel_rfl) (rc := rc_sheet_book_issues) (by kernel_rfl) hn (fun R _ hG hr => h R hG hr)

def rc_sheet_book_issues_1_1 : RCode :=
  .seq (.reg 0 false [
    { d := some 2, op := .box (.t 0) },
    { d := some 4, op := .mov (.c (.int .i64 0)) }])
  (.seq (.reg 1 false [
    { d := some 5, op := .faddr 0 (.t 2) },
    { d := some 6, op := .load false 1 (.t 5) },
    { d := some 7, op := .mov (.t 1) },
    { d := some 8, op := .call 125 [.t 6, .t 7] },
    { d := some 4, op := .mov (.t 8) }])
  (.ret))
def rr_sheet_book_issues_1_1 : List RRes := [.t 4]
theorem pc_sheet_book_issues_1_1 {G : Nat → Option (List AV)} {args : List AV} {v : AV} (hn : args.length ≤ Tryd.f124.ntmps) (h : ∀ R : Run, R.G = G → R.Top → AR Tryd.prog R rc_sheet_book_issues_1_1 (initSt args) (Fin rr_sheet_book_issues_1_1 v)) : PC Tryd.prog G 124 args v :=
  PC_of Tryd.func124 rfl (by kernel_rfl) (rc := rc_sheet_book_issues_1_1) (by kernel_rfl) (rs := rr_sheet_book_issues_1_1) (by kernel_rfl) hn (fun R _ hG hr => h R hG hr)

theorem pb_sheet_book_issues_1_1 {G : Nat → Option (List AV)} {objs objs' : List (Nat × AObj)} {args : List AV} {v : AV} (hn : args.length ≤ Tryd.f124.ntmps) (h : ∀ R : Run, R.G = G → R.Top → AR Tryd.prog R rc_sheet_book_issues_1_1 ⟨iniT 0 args, objs⟩ (FinB rr_sheet_book_issues_1_1 v objs')) : PB Tryd.prog G 124 objs args v objs' :=
  PB_of Tryd.func124 rfl (by kernel_rfl) (rc := rc_sheet_book_issues_1_1) (by kernel_rfl) (rs := rr_sheet_book_issues_1_1) (by kernel_rfl) hn (fun R _ hG hr => h R hG hr)

theorem pp_sheet_book_issues_1_1 {G : Nat → Option (List AV)} {args : List AV} {ch : List PanicEntry} (hn : args.length ≤ Tryd.f124.ntmps) (h : ∀ R : Run, R.G = G → R.Top → AR Tryd.prog R rc_sheet_book_issues_1_1 (initSt args) (FinP ch)) : PPC Tryd.prog G 124 args ch :=
  PPC_of Tryd.func124 rfl (by kernel_rfl) (rc := rc_sheet_book_issues_1_1) (by kernel_rfl) hn (fun R _ hG hr => h R hG hr)

def rc_sheet_book_last : RCode :=
  .seq (.reg 0 false [
    { d := some 4, op := .mov (.c (.int .i64 0)) }])
  (.seq (.reg 1 false [
    { d := some 5, op := .alloc [.int .i64 0] },
    { d := none, op := .store 1 (.t 5) (.c (.int .i64 0)) }])
  (.seq (.seq (.reg 2 false [
    { d := some 6, op := .mov (.t 0) },
    { d := some 7, op := .mov (.t 1) },
    { d := some 8, op := .call 105 [.t 6, .t 7] }])
  (.block 0
    (.rngf (.t 8) [9] (.skip)
      (.block 1
        (.reg 3 false [
          { d := some 10, op := .load false 1 (.t 5) },
          { d := some 11, op := .bin .add (.t 10) (.c (.int .i64 1)) },
          { d := none, op := .store 1 (.t 5) (.t 11) }])))))
  (.seq (.reg 4 false [
    { d := some 12, op := .load false 1 (.t 5) },
    { d := some 4, op := .mov (.t 12) }])
  (.ret))))
def rr_sheet_book_last : List RRes := [.t 4]
theorem pc_sheet_book_last {G : Nat → Option (List AV)} {args : List AV} {v : AV} (hn : args.length ≤ Tryd.f69.ntmps) (h : ∀ R : Run, R.G = G → R.Top → AR Tryd.prog R rc_sheet_book_last (initSt args) (Fin rr_sheet_book_last v)) : PC Tryd.prog G 69 args v :=
  PC_of Tryd.func69 rfl (by kernel_rfl) (rc := rc_sheet_book_last) (by kernel_rfl) (rs := rr_sheet_book_last) (by kernel_rfl) hn (fun R _ hG hr => h R hG hr)

theorem pb_sheet_book_last {G : Nat → Option (List AV)} {objs objs' : List (Nat × AObj)} {args : List AV} {v : AV} (hn : args.length ≤ Tryd.f69.ntmps) (h : ∀ R : Run, R.G = G → R.Top → AR Tryd.prog R rc_sheet_book_last ⟨iniT 0 args, objs⟩ (FinB rr_sheet_book_last v objs')) : PB Tryd.prog G 69 objs args v objs' :=
  PB_of Tryd.func69 rfl (by kernel_rfl) (rc := rc_sheet_book_last) (by kernel_rfl) (rs := rr_sheet_book_last) (by kernel_rfl) hn (fun R _ hG hr => h R hG hr)

theorem pp_sheet_book_last {G : Nat → Option (List AV)} {args : List AV} {ch : List PanicEntry} (hn : args.length ≤ Tryd.f69.ntmps) (h : ∀ R : Run, R.G = G → R.Top → AR Tryd.prog R rc_sheet_book_last (initSt args) (FinP ch)) : PPC Tryd.prog G 69 args ch :=
  PPC_of Tryd.func69 rfl (by kernel_rfl) (rc := rc_sheet_book_last) (by kernel_rfl) hn (fun R _ hG hr => h R hG hr)

def rc_sheet_book_find : RCode :=
  .seq (.reg 0 false [
    { d := some 3, op := .box (.t 1) },
    { d := some 4, op := .alloc [.int .i64 0, .int .i64 0, .int .u8 0, .nils, .nils] },
    { d := some 5, op := .alloc [.bool false] }])
  (.seq (.seq (.reg 1 false [
    { d := some 7, op := .mov (.t 0) },
    { d := some 8, op := .faddr 0 (.t 3) },
    { d := some 9, op := .load false 1 (.t 8) },
    { d := some 10, op := .call 105 [.t 7, .t 9] }])
  (.block 0
    (.rngf (.t 10) [11] (.reg 2 false [
        { d := some 6, op := .alloc [.int .i64 0, .int .i64 0, .int .u8 0, .nils, .nils] },
        { d := none, op := .store 5 (.t 6) (.t 11) }])
      (.block 1
        (.seq (.reg 3 true [
          { d := some 12, op := .load true 5 (.t 6), aft := [] },
          { d := some 13, op := .call 84 [.t 12], aft := [0] },
          { d := some 14, op := .load true 2 (.t 3), aft := [] },
          { d := some 15, op := .eqs false [.i, .i] (.t 13) (.t 14), aft := [1, 2] }])
        (.cond (.t 15)
          (.seq (.reg 4 false [
            { d := some 16, op := .load true 5 (.t 6) },
            { d := none, op := .store 5 (.t 4) (.t 16) },
            { d := none, op := .store 1 (.t 5) (.c (.bool true)) }])
          (.ret))
          (.skip)))))))
  (.seq (.reg 5 false [
    { d := some 17, op := .build [.int .i64 0, .int .i64 0, .int .u8 0, .nils, .nils] [] },
    { d := none, op := .store 5 (.t 4) (.t 17) },
    { d := none, op := .store 1 (.t 5) (.c (.bool false)) }])
  (.ret)))
def rr_sheet_book_find : List RRes := [.c 4 true 5, .c 5 false 1]
theorem pc_sheet_book_find {G : Nat → Option (List AV)} {args : List AV} {v : AV} (hn : args.length ≤ Tryd.f72.ntmps) (h : ∀ R : Run, R.G = G → R.Top → AR Tryd.prog R rc_sheet_book_find (initSt args) (Fin rr_sheet_book_find v)) : PC Tryd.prog G 72 args v :=
  PC_of Tryd.func72 rfl (by kernel_rfl) (rc := rc_sheet_book_find) (by kernel_rfl) (rs := rr_sheet_book_find) (by kernel_rfl) hn (fun R _ hG hr => h R hG hr)

theorem pb_sheet_book_find {G : Nat → Option (List AV)} {objs objs' : List (Nat × AObj)} {args : List AV} {v : AV} (hn : args.length ≤ Tryd.f72.ntmps) (h : ∀ R : Run, R.G = G → R.Top → AR Tryd.prog R rc_sheet_book_find ⟨iniT 0 args, objs⟩ (FinB rr_sheet_book_find v objs')) : PB Tryd.prog G 72 objs args v objs' :=
  PB_of Tryd.func72 rfl (by kernel_rfl) (rc := rc_sheet_book_find) (by kernel_rfl) (rs := rr_sheet_book_find) (by kernel_rfl) hn (fun R _ hG hr => h R hG hr)

theorem pp_sheet_book_find {G : Nat → Option (List AV)} {args : List AV} {ch : List PanicEntry} (hn : args.length ≤ Tryd.f72.ntmps) (h : ∀ R : Run, R.G = G → R.Top → AR Tryd.prog R rc_sheet_book_find (initSt args) (FinP ch)) : PPC Tryd.prog G 72 args ch :=
  PPC_of Tryd.func72 rfl (by kernel_rfl) (rc := rc_sheet_book_find) (by kernel_rfl) hn (fun R _ hG hr => h R hG hr)

def rc_sheet_book_depths : RCode :=
  .seq (.reg 0 false [
    { d := some 2, op := .mov (.c (.nilm)) },
    { d := some 3, op := .mov (.c (.bool false)) }])
  (.seq (.reg 1 false [
    { d := some 15, op := .mkmap },
    { d := some 4, op := .alloc [.nilm] },
    { d := none, op := .store 1 (.t 4) (.t 15) }])
  (.seq (.reg 2 false [
    { d := some 16, op := .mkmap },
    { d := some 5, op := .alloc [.nilm] },
    { d := none, op := .store 1 (.t 5) (.t 16) }])
  (.seq (.seq (.reg 3 false [
    { d := some 17, op := .mov (.t 0) },
    { d := some 18, op := .nilck (.t 17) },
    { d := some 19, op := .faddr 1 (.t 18) },
    { d := some 20, op := .load false 1 (.t 19) },
    { d := some 21, op := .len (.t 20) },
    { d := some 22, op := .mov (.c (.int .i64 0)) }])
  (.block 0
    (.loop
      (.seq (.reg 4 false [
        { d := some 23, op := .bin .lss (.t 22) (.t 21) }])
      (.seq (.cond (.t 23)
        (.skip)
        (.exit 0))
      (.seq (.block 1
        (.seq (.reg 5 false [
          { d := some 24, op := .iaddr 1 (.t 20) (.t 22) },
          { d := some 25, op := .load false 1 (.t 24) },
          { d := some 7, op := .mov (.t 25) }])
        (.reg 6 false [
          { d := some 26, op := .load false 1 (.t 5) },
          { d := some 27, op := .mov (.t 7) },
          { d := none, op := .mupd (.i .i64) (.t 26) (.t 27) (.c (.bool true)) }])))
      (.reg 7 false [
        { d := some 28, op := .bin .add (.t 22) (.c (.int .i64 1)) },
        { d := some 22, op := .mov (.t 28) }])))))))
  (.seq (.seq (.reg 8 false [
    { d := some 29, op := .mov (.t 0) },
    { d := some 30, op := .nilck (.t 29) },
    { d := some 31, op := .faddr 1 (.t 30) },
    { d := some 32, op := .load false 1 (.t 31) },
    { d := some 33, op := .len (.t 32) },
    { d := some 34, op := .mov (.c (.int .i64 0)) }])
  (.block 2
    (.loop
      (.seq (.reg 9 false [
        { d := some 35, op := .bin .lss (.t 34) (.t 33) }])
      (.seq (.cond (.t 35)
        (.skip)
        (.exit 2))
      (.seq (.block 3
        (.seq (.reg 10 false [
          { d := some 36, op := .mov (.t 0) },
          { d := some 37, op := .nilck (.t 36) },
          { d := some 38, op := .faddr 1 (.t 37) },
          { d := some 39, op := .load false 1 (.t 38) },
          { d := some 40, op := .len (.t 39) },
          { d := some 41, op := .mov (.c (.int .i64 0)) }])
        (.block 4
          (.loop
            (.seq (.reg 11 false [
              { d := some 42, op := .bin .lss (.t 41) (.t 40) }])
            (.seq (.cond (.t 42)
              (.skip)
              (.exit 4))
            (.seq (.block 5
              (.seq (.reg 12 false [
                { d := some 43, op := .iaddr 1 (.t 39) (.t 41) },
                { d := some 44, op := .load false 1 (.t 43) },
                { d := some 9, op := .mov (.t 44) }])
              (.seq (.reg 13 true [
                { d := some 45, op := .load false 1 (.t 5), aft := [] },
                { d := some 46, op := .mov (.t 9), aft := [] },
                { d := some 47, op := .look (.i .i64) (.bool false) false (.t 45) (.t 46), aft := [0, 1] },
                { d := some 10, op := .alloc [.int .i64 0], aft := [] },
                { d := some 11, op := .alloc [.bool false], aft := [] },
                { d := none, op := .store 1 (.t 10) (.c (.int .i64 0)), aft := [3, 3, 4] },
                { d := none, op := .store 1 (.t 11) (.t 47), aft := [4, 2, 5, 0, 1, 2, 3, 4, 5] }])
              (.seq (.seq (.reg 14 false [
                { d := some 48, op := .mov (.t 0) },
                { d := some 49, op := .mov (.t 9) },
                { d := some 50, op := .call 105 [.t 48, .t 49] }])
              (.block 6
                (.rngf (.t 50) [51] (.reg 15 false [
                    { d := some 12, op := .alloc [.int .i64 0, .int .i64 0, .int .u8 0, .nils, .nils] },
                    { d := none, op := .store 5 (.t 12) (.t 51) }])
                  (.block 7
                    (.seq (.reg 16 false [
                      { d := some 52, op := .faddr 3 (.t 12) },
                      { d := some 53, op := .load false 1 (.t 52) },
                      { d := some 54, op := .len (.t 53) },
                      { d := some 55, op := .mov (.c (.int .i64 0)) }])
                    (.block 8
                      (.loop
                        (.seq (.reg 17 false [
                          { d := some 56, op := .bin .lss (.t 55) (.t 54) }])
                        (.seq (.cond (.t 56)
                          (.skip)
                          (.exit 8))
                        (.seq (.block 9
                          (.seq (.reg 18 false [
                            { d := some 57, op := .iaddr 2 (.t 53) (.t 55) },
                            { d := some 58, op := .load true 2 (.t 57) },
                            { d := some 14, op := .alloc [.int .i64 0, .int .i64 0] },
                            { d := none, op := .store 2 (.t 14) (.t 58) }])
                          (.seq (.reg 19 false [
                            { d := some 59, op := .load false 1 (.t 11) },
                            { d := some 60, op := .mov (.t 59) },
                            { d := some 61, op := .load false 1 (.t 5), guard := some (60, true) },
                            { d := some 62, op := .faddr 0 (.t 14), guard := some (60, true) },
                            { d := some 63, op := .load false 1 (.t 62), guard := some (60, true) },
                            { d := some 64, op := .look (.i .i64) (.bool false) false (.t 61) (.t 63), guard := some (60, true) },
                            { d := some 65, op := .un .not (.t 64), guard := some (60, true) },
                            { d := some 66, op := .pick (.t 60) (.t 65) (.c (.bool false)) },
                            { d := none, op := .store 1 (.t 11) (.t 66) }])
                          (.reg 20 false [
                            { d := some 67, op := .load false 1 (.t 10) },
                            { d := some 68, op := .load false 1 (.t 4) },
                            { d := some 69, op := .faddr 0 (.t 14) },
                            { d := some 70, op := .load false 1 (.t 69) },
                            { d := some 71, op := .look (.i .i64) (.int .i64 0) false (.t 68) (.t 70) },
                            { d := some 72, op := .mx true (.t 67) [.t 71] },
                            { d := none, op := .store 1 (.t 10) (.t 72) }]))))
                        (.reg 21 false [
                          { d := some 73, op := .bin .add (.t 55) (.c (.int .i64 1)) },
                          { d := some 55, op := .mov (.t 73) }])))))))))))
              (.seq (.reg 22 false [
                { d := some 74, op := .load false 1 (.t 11) }])
              (.cond (.t 74)
                (.seq (.reg 23 false [
                  { d := some 75, op := .load false 1 (.t 4) },
                  { d := some 76, op := .mov (.t 9) },
                  { d := some 77, op := .load false 1 (.t 10) },
                  { d := some 78, op := .bin .add (.t 77) (.c (.int .i64 1)) },
                  { d := none, op := .mupd (.i .i64) (.t 75) (.t 76) (.t 78) }])
                (.reg 24 false [
                  { d := some 79, op := .load false 1 (.t 5) },
                  { d := some 80, op := .mov (.t 9) },
                  { d := none, op := .mdel (.i .i64) (.t 79) (.t 80) }]))
                (.skip)))))))
            (.reg 25 false [
              { d := some 81, op := .bin .add (.t 41) (.c (.int .i64 1)) },
              { d := some 41, op := .mov (.t 81) }]))))))))
      (.reg 26 false [
        { d := some 82, op := .bin .add (.t 34) (.c (.int .i64 1)) },
        { d := some 34, op := .mov (.t 82) }])))))))
  (.seq (.reg 27 false [
    { d := some 83, op := .load false 1 (.t 4) },
    { d := some 84, op := .load false 1 (.t 5) },
    { d := some 85, op := .mlen (.t 84) },
    { d := some 86, op := .bin .gtr (.t 85) (.c (.int .i64 0)) },
    { d := some 2, op := .mov (.t 83) },
    { d := some 3, op := .mov (.t 86) }])
  (.ret))))))
def rr_sheet_book_depths : List RRes := [.t 2, .t 3]
theorem pc_sheet_book_depths {G : Nat → Option (List AV)} {args : List AV} {v : AV} (hn : args.length ≤ Tryd.f75.ntmps) (h : ∀ R : Run, R.G = G → R.Top → AR Tryd.prog R rc_sheet_book_depths (initSt args) (Fin rr_sheet_book_depths v)) : PC Tryd.prog G 75 args v :=
  PC_of Tryd.func75 rfl (by kernel_rfl) (rc := rc_sheet_book_depths) (by kernel_rfl) (rs := rr_sheet_book_depths) (by kernel_rfl) hn (fun R _ hG hr => h R hG hr)

theorem pb_sheet_book_depths {G : Nat → Option (List AV)} {objs objs' : List (Nat × AObj)} {args : List AV} {v : AV} (hn : args.length ≤ Tryd.f75.ntmps) (h : ∀ R : Run, R.G = G → R.Top → AR Tryd.prog R rc_sheet_book_depths ⟨iniT 0 args, objs⟩ (FinB rr_sheet_book_depths v objs')) : PB Tryd.prog G 75 objs args v objs' :=
  PB_of Tryd.func75 rfl (by kernel_rfl) (rc := rc_sheet_book_depths) (by kernel_rfl) (rs := rr_sheet_book_depths) (by kernel_rfl) hn (fun R _ hG hr => h R hG hr)

theorem pp_sheet_book_depths {G : Nat → Option (List AV)} {args : List AV} {ch : List PanicEntry} (hn : args.length ≤ Tryd.f75.ntmps) (h : ∀ R : Run, R.G = G → R.Top → AR Tryd.prog R rc_sheet_book_depths (initSt args) (FinP ch)) : PPC Tryd.prog G 75 args ch :=
  PPC_of Tryd.func75 rfl (by kernel_rfl) (rc := rc_sheet_book_depths) (by kernel_rfl) hn (fun R _ hG hr => h R hG hr)

def rc_sheet_copied : RCode :=
  .seq (.reg 0 false [
    { d := some 1, op := .box (.t 0) },
    { d := some 2, op := .alloc [.int .i64 0, .int .i64 0, .int .u8 0, .nils, .nils] }])
  (.seq (.reg 1 true [
    { d := some 3, op := .faddr 3 (.t 1), aft := [] },
    { d := some 4, op := .load false 1 (.t 3), aft := [0] },
    { d := some 5, op := .calln 108 [.t 4], aft := [1] },
    { d := some 6, op := .faddr 4 (.t 1), aft := [] },
    { d := some 7, op := .load false 1 (.t 6), aft := [3] },
    { d := some 8, op := .calln 109 [.t 7], aft := [4, 2] },
    { d := some 9, op := .faddr 3 (.t 1), aft := [0, 1, 2, 3, 4] },
    { d := none, op := .store 1 (.t 9) (.t 5), aft := [6, 2, 5, 0, 1, 2, 3, 4] },
    { d := some 10, op := .faddr 4 (.t 1), aft := [0, 1, 2, 3, 4, 5, 6, 7] },
    { d := none, op := .store 1 (.t 10) (.t 8), aft := [8, 5, 7, 0, 1, 2, 3, 4, 5, 6, 7] }])
  (.seq (.reg 2 false [
    { d := some 11, op := .load true 5 (.t 1) },
    { d := none, op := .store 5 (.t 2) (.t 11) }])
  (.ret)))
def rr_sheet_copied : List RRes := [.c 2 true 5]
theorem pc_sheet_copied {G : Nat → Option (List AV)} {args : List AV} {v : AV} (hn : args.length ≤ Tryd.f73.ntmps) (h : ∀ R : Run, R.G = G → R.Top → AR Tryd.prog R rc_sheet_copied (initSt args) (Fin rr_sheet_copied v)) : PC Tryd.prog G 73 args v :=
  PC_of Tryd.func73 rfl (by kernel_rfl) (rc := rc_sheet_copied) (by kernel_rfl) (rs := rr_sheet_copied) (by kernel_rfl) hn (fun R _ hG hr => h R hG hr)

theorem pb_sheet_copied {G : Nat → Option (List AV)} {objs objs' : List (Nat × AObj)} {args : List AV} {v : AV} (hn : args.length ≤ Tryd.f73.ntmps) (h : ∀ R : Run, R.G = G → R.Top → AR Tryd.prog R rc_sheet_copied ⟨iniT 0 args, objs⟩ (FinB rr_sheet_copied v objs')) : PB Tryd.prog G 73 objs args v objs' :=
  PB_of Tryd.func73 rfl (by kernel_rfl) (rc := rc_sheet_copied) (by kernel_rfl) (rs := rr_sheet_copied) (by kernel_rfl) hn (fun R _ hG hr => h R hG hr)

theorem pp_sheet_copied {G : Nat → Option (List AV)} {args : List AV} {ch : List PanicEntry} (hn : args.length ≤ Tryd.f73.ntmps) (h : ∀ R : Run, R.G = G → R.Top → AR Tryd.prog R rc_sheet_copied (initSt args) (FinP ch)) : PPC Tryd.prog G 73 args ch :=
  PPC_of Tryd.func73 rfl (by kernel_rfl) (rc := rc_sheet_copied) (by kernel_rfl) hn (fun R _ hG hr => h R hG hr)

def rc_slices_Clone_api_Item_api_Item : RCode :=
  .seq (.reg 0 false [
    { d := some 2, op := .mov (.c (.nils)) }])
  (.seq (.seq (.reg 1 false [
    { d := some 3, op := .mov (.t 0) },
    { d := some 4, op := .vop (.eqn false) [(.t 3), (.c (.nils))] }])
  (.cond (.t 4)
    (.seq (.reg 2 false [
      { d := some 2, op := .mov (.c (.nils)) }])
    (.ret))
    (.skip)))
  (.seq (.reg 3 false [
    { d := some 5, op := .bsl true 2 0 [] [] },
    { d := some 6, op := .mov (.t 0) },
    { d := some 7, op := .app 2 16 (.t 5) (.t 6) },
    { d := some 2, op := .mov (.t 7) }])
  (.ret)))
def rr_slices_Clone_api_Item_api_Item : List RRes := [.t 2]
theorem pc_slices_Clone_api_Item_api_Item {G : Nat → Option (List AV)} {args : List AV} {v : AV} (hn : args.length ≤ Tryd.f108.ntmps) (h : ∀ R : Run, R.G = G → R.Top → AR Tryd.prog R rc_slices_Clone_api_Item_api_Item (initSt args) (Fin rr_slices_Clone_api_Item_api_Item v)) : PC Tryd.prog G 108 args v :=
  PC_of Tryd.func108 rfl (by kernel_rfl) (rc := rc_slices_Clone_api_Item_api_Item) (by kernel_rfl) (rs := rr_slices_Clone_api_Item_api_Item) (by kernel_rfl) hn (fun R _ hG hr => h R hG hr)

theorem pb_slices_Clone_api_Item_api_Item {G : Nat → Option (List AV)} {objs objs' : List (Nat × AObj)} {args : List AV} {v : AV} (hn : args.length ≤ Tryd.f108.ntmps) (h : ∀ R : Run, R.G = G → R.Top → AR Tryd.prog R rc_slices_Clone_api_Item_api_Item ⟨iniT 0 args, objs⟩ (FinB rr_slices_Clone_api_Item_api_Item v objs')) : PB Tryd.prog G 108 objs args v objs' :=
  PB_of Tryd.func108 rfl (by kernel_rfl) (rc := rc_slices_Clone_api_Item_api_Item) (by kernel_rfl) (rs := rr_slices_Clone_api_Item_api_Item) (by kernel_rfl) hn (fun R _ hG hr => h R hG hr)

theorem pp_slices_Clone_api_Item_api_Item {G : Nat → Option (List AV)} {args : List AV} {ch : List PanicEntry} (hn : args.length ≤ Tryd.f108.ntmps) (h : ∀ R : Run, R.G = G → R.Top → AR Tryd.prog R rc_slices_Clone_api_Item_api_Item (initSt args) (FinP ch)) : PPC Tryd.prog G 108 args ch :=
  PPC_of Tryd.func108 rfl (by kernel_rfl) (rc := rc_slices_Clone_api_Item_api_Item) (by kernel_rfl) hn (fun R _ hG hr => h R hG hr)

def rc_slices_Clone_api_Dim_api_Dim : RCode :=
  .seq (.reg 0 false [
    { d := some 2, op := .mov (.c (.nils)) }])
  (.seq (.seq (.reg 1 false [
    { d := some 3, op := .mov (.t 0) },
    { d := some 4, op := .vop (.eqn false) [(.t 3), (.c (.nils))] }])
  (.cond (.t 4)
    (.seq (.reg 2 false [
      { d := some 2, op := .mov (.c (.nils)) }])
    (.ret))
    (.skip)))
  (.seq (.reg 3 false [
    { d := some 5, op := .bsl true 3 0 [] [] },
    { d := some 6, op := .mov (.t 0) },
    { d := some 7, op := .app 3 24 (.t 5) (.t 6) },
    { d := some 2, op := .mov (.t 7) }])
  (.ret)))
def rr_slices_Clone_api_Dim_api_Dim : List RRes := [.t 2]
theorem pc_slices_Clone_api_Dim_api_Dim {G : Nat → Option (List AV)} {args : List AV} {v : AV} (hn : args.length ≤ Tryd.f109.ntmps) (h : ∀ R : Run, R.G = G → R.Top → AR Tryd.prog R rc_slices_Clone_api_Dim_api_Dim (initSt args) (Fin rr_slices_Clone_api_Dim_api_Dim v)) : PC Tryd.prog G 109 args v :=
  PC_of Tryd.func109 rfl (by kernel_rfl) (rc := rc_slices_Clone_api_Dim_api_Dim) (by kernel_rfl) (rs := rr_slices_Clone_api_Dim_api_Dim) (by kernel_rfl) hn (fun R _ hG hr => h R hG hr)

theorem pb_slices_Clone_api_Dim_api_Dim {G : Nat → Option (List AV)} {objs objs' : List (Nat × AObj)} {args : List AV} {v : AV} (hn : args.length ≤ Tryd.f109.ntmps) (h : ∀ R : Run, R.G = G → R.Top → AR Tryd.prog R rc_slices_Clone_api_Dim_api_Dim ⟨iniT 0 args, objs⟩ (FinB rr_slices_Clone_api_Dim_api_Dim v objs')) : PB Tryd.prog G 109 objs args v objs' :=
  PB_of Tryd.func109 rfl (by kernel_rfl) (rc := rc_slices_Clone_api_Dim_api_Dim) (by kernel_rfl) (rs := rr_slices_Clone_api_Dim_api_Dim) (by kernel_rfl) hn (fun R _ hG hr => h R hG hr)

theorem pp_slices_Clone_api_Dim_api_Dim {G : Nat → Option (List AV)} {args : List AV} {ch : List PanicEntry} (hn : args.length ≤ Tryd.f109.ntmps) (h : ∀ R : Run, R.G = G → R.Top → AR Tryd.prog R rc_slices_Clone_api_Dim_api_Dim (initSt args) (FinP ch)) : PPC Tryd.prog G 109 args ch :=
  PPC_of Tryd.func109 rfl (by kernel_rfl) (rc := rc_slices_Clone_api_Dim_api_Dim) (by kernel_rfl) hn (fun R _ hG hr => h R hG hr)

def rc_sheet_known : RCode :=
  .seq (.reg 0 false [
    { d := some 2, op := .box (.t 0) },
    { d := some 4, op := .mov (.c (.nilp)) },
    { d := some 5, op := .mov (.c (.int .i64 0)) }])
  (.seq (.reg 1 false [
    { d := some 9, op := .load true 1 (.t 2) },
    { d := some 10, op := .call 67 [.t 9] },
    { d := some 8, op := .mov (.t 10) },
    { d := some 11, op := .ext 0 (.t 8) },
    { d := some 12, op := .ext 1 (.t 8) },
    { d := some 6, op := .mov (.t 11) },
    { d := some 7, op := .mov (.t 12) }])
  (.seq (.seq (.reg 2 false [
    { d := some 13, op := .mov (.t 7) },
    { d := some 14, op := .bin .neq (.t 13) (.c (.int .i64 0)) }])
  (.cond (.t 14)
    (.seq (.reg 3 false [
      { d := some 15, op := .mov (.t 7) },
      { d := some 4, op := .mov (.c (.nilp)) },
      { d := some 5, op := .mov (.t 15) }])
    (.ret))
    (.skip)))
  (.seq (.seq (.reg 4 false [
    { d := some 16, op := .mov (.t 6) },
    { d := some 17, op := .mov (.t 1) },
    { d := some 18, op := .call 104 [.t 16, .t 17] },
    { d := some 19, op := .un .not (.t 18) }])
  (.cond (.t 19)
    (.seq (.reg 5 false [
      { d := some 4, op := .mov (.c (.nilp)) },
      { d := some 5, op := .mov (.c (.int .i64 6)) }])
    (.ret))
    (.skip)))
  (.seq (.reg 6 false [
    { d := some 20, op := .mov (.t 6) },
    { d := some 4, op := .mov (.t 20) },
    { d := some 5, op := .mov (.c (.int .i64 0)) }])
  (.ret)))))
def rr_sheet_known : List RRes := [.t 4, .t 5]
theorem pc_sheet_known {G : Nat → Option (List AV)} {args : List AV} {v : AV} (hn : args.length ≤ Tryd.f68.ntmps) (h : ∀ R : Run, R.G = G → R.Top → AR Tryd.prog R rc_sheet_known (initSt args) (Fin rr_sheet_known v)) : PC Tryd.prog G 68 args v :=
  PC_of Tryd.func68 rfl (by kernel_rfl) (rc := rc_sheet_known) (by kernel_rfl) (rs := rr_sheet_known) (by kernel_rfl) hn (fun R _ hG hr => h R hG hr)

theorem pb_sheet_known {G : Nat → Option (List AV)} {objs objs' : List (Nat × AObj)} {args : List AV} {v : AV} (hn : args.length ≤ Tryd.f68.ntmps) (h : ∀ R : Run, R.G = G → R.Top → AR Tryd.prog R rc_sheet_known ⟨iniT 0 args, objs⟩ (FinB rr_sheet_known v objs')) : PB Tryd.prog G 68 objs args v objs' :=
  PB_of Tryd.func68 rfl (by kernel_rfl) (rc := rc_sheet_known) (by kernel_rfl) (rs := rr_sheet_known) (by kernel_rfl) hn (fun R _ hG hr => h R hG hr)

theorem pp_sheet_known {G : Nat → Option (List AV)} {args : List AV} {ch : List PanicEntry} (hn : args.length ≤ Tryd.f68.ntmps) (h : ∀ R : Run, R.G = G → R.Top → AR Tryd.prog R rc_sheet_known (initSt args) (FinP ch)) : PPC Tryd.prog G 68 args ch :=
  PPC_of Tryd.func68 rfl (by kernel_rfl) (rc := rc_sheet_known) (by kernel_rfl) hn (fun R _ hG hr => h R hG hr)

def rc_sheet_Check : RCode :=
  .seq (.reg 0 false [
    { d := some 1, op := .box (.t 0) },
    { d := some 2, op := .mov (.c (.int .i64 0)) }])
  (.seq (.reg 1 false [
    { d := some 6, op := .load true 1 (.t 1) },
    { d := some 7, op := .call 67 [.t 6] },
    { d := some 5, op := .mov (.t 7) },
    { d := some 8, op := .ext 0 (.t 5) },
    { d := some 9, op := .ext 1 (.t 5) },
    { d := some 3, op := .mov (.t 8) },
    { d := some 4, op := .mov (.t 9) }])
  (.seq (.reg 2 false [
    { d := some 10, op := .mov (.t 4) },
    { d := some 2, op := .mov (.t 10) }])
  (.ret)))
def rr_sheet_Check : List RRes := [.t 2]
theorem pc_sheet_Check {G : Nat → Option (List AV)} {args : List AV} {v : AV} (hn : args.length ≤ Tryd.f24.ntmps) (h : ∀ R : Run, R.G = G → R.Top → AR Tryd.prog R rc_sheet_Check (initSt args) (Fin rr_sheet_Check v)) : PC Tryd.prog G 24 args v :=
  PC_of Tryd.func24 rfl (by kernel_rfl) (rc := rc_sheet_Check) (by kernel_rfl) (rs := rr_sheet_Check) (by kernel_rfl) hn (fun R _ hG hr => h R hG hr)

theorem pb_sheet_Check {G : Nat → Option (List AV)} {objs objs' : List (Nat × AObj)} {args : List AV} {v : AV} (hn : args.length ≤ Tryd.f24.ntmps) (h : ∀ R : Run, R.G = G → R.Top → AR Tryd.prog R rc_sheet_Check ⟨iniT 0 args, objs⟩ (FinB rr_sheet_Check v objs')) : PB Tryd.prog G 24 objs args v objs' :=
  PB_of Tryd.func24 rfl (by kernel_rfl) (rc := rc_sheet_Check) (by kernel_rfl) (rs := rr_sheet_Check) (by kernel_rfl) hn (fun R _ hG hr => h R hG hr)

theorem pp_sheet_Check {G : Nat → Option (List AV)} {args : List AV} {ch : List PanicEntry} (hn : args.length ≤ Tryd.f24.ntmps) (h : ∀ R : Run, R.G = G → R.Top → AR Tryd.prog R rc_sheet_Check (initSt args) (FinP ch)) : PPC Tryd.prog G 24 args ch :=
  PPC_of Tryd.func24 rfl (by kernel_rfl) (rc := rc_sheet_Check) (by kernel_rfl) hn (fun R _ hG hr => h R hG hr)

def rc_sheet_Drawings : RCode :=
  .seq (.reg 0 false [
    { d := some 1, op := .box (.t 0) },
    { d := some 2, op := .mov (.c (.nils)) },
    { d := some 3, op := .mov (.c (.int .i64 0)) }])
  (.seq (.reg 1 false [
    { d := some 7, op := .load true 1 (.t 1) },
    { d := some 8, op := .call 67 [.t 7] },
    { d := some 6, op := .mov (.t 8) },
    { d := some 9, op := .ext 0 (.t 6) },
    { d := some 10, op := .ext 1 (.t 6) },
    { d := some 4, op := .mov (.t 9) },
    { d := some 5, op := .mov (.t 10) }])
  (.seq (.seq (.reg 2 false [
    { d := some 11, op := .mov (.t 5) },
    { d := some 12, op := .bin .neq (.t 11) (.c (.int .i64 0)) }])
  (.cond (.t 12)
    (.seq (.reg 3 false [
      { d := some 13, op := .mov (.t 5) },
      { d := some 2, op := .mov (.c (.nils)) },
      { d := some 3, op := .mov (.t 13) }])
    (.ret))
    (.skip)))
  (.seq (.reg 4 false [
    { d := some 14, op := .mov (.t 4) },
    { d := some 15, op := .nilck (.t 14) },
    { d := some 16, op := .faddr 1 (.t 15) },
    { d := some 17, op := .load false 1 (.t 16) },
    { d := some 2, op := .mov (.t 17) },
    { d := some 3, op := .mov (.c (.int .i64 0)) }])
  (.ret))))
def rr_sheet_Drawings : List RRes := [.t 2, .t 3]
theorem pc_sheet_Drawings {G : Nat → Option (List AV)} {args : List AV} {v : AV} (hn : args.length ≤ Tryd.f20.ntmps) (h : ∀ R : Run, R.G = G → R.Top → AR Tryd.prog R rc_sheet_Drawings (initSt args) (Fin rr_sheet_Drawings v)) : PC Tryd.prog G 20 args v :=
  PC_of Tryd.func20 rfl (by kernel_rfl) (rc := rc_sheet_Drawings) (by kernel_rfl) (rs := rr_sheet_Drawings) (by kernel_rfl) hn (fun R _ hG hr => h R hG hr)

theorem pb_sheet_Drawings {G : Nat → Option (List AV)} {objs objs' : List (Nat × AObj)} {args : List AV} {v : AV} (hn : args.length ≤ Tryd.f20.ntmps) (h : ∀ R : Run, R.G = G → R.Top → AR Tryd.prog R rc_sheet_Drawings ⟨iniT 0 args, objs⟩ (FinB rr_sheet_Drawings v objs')) : PB Tryd.prog G 20 objs args v objs' :=
  PB_of Tryd.func20 rfl (by kernel_rfl) (rc := rc_sheet_Drawings) (by kernel_rfl) (rs := rr_sheet_Drawings) (by kernel_rfl) hn (fun R _ hG hr => h R hG hr)

theorem pp_sheet_Drawings {G : Nat → Option (List AV)} {args : List AV} {ch : List PanicEntry} (hn : args.length ≤ Tryd.f20.ntmps) (h : ∀ R : Run, R.G = G → R.Top → AR Tryd.prog R rc_sheet_Drawings (initSt args) (FinP ch)) : PPC Tryd.prog G 20 args ch :=
  PPC_of Tryd.func20 rfl (by kernel_rfl) (rc := rc_sheet_Drawings) (by kernel_rfl) hn (fun R _ hG hr => h R hG hr)

def rc_sheet_Last : RCode :=
  .seq (.reg 0 false [
    { d := some 2, op := .box (.t 0) },
    { d := some 4, op := .mov (.c (.int .i64 0)) },
    { d := some 5, op := .mov (.c (.int .i64 0)) }])
  (.seq (.reg 1 false [
    { d := some 9, op := .load true 1 (.t 2) },
    { d := some 10, op := .mov (.t 1) },
    { d := some 11, op := .call 68 [.t 9, .t 10] },
    { d := some 8, op := .mov (.t 11) },
    { d := some 12, op := .ext 0 (.t 8) },
    { d := some 13, op := .ext 1 (.t 8) },
    { d := some 6, op := .mov (.t 12) },
    { d := some 7, op := .mov (.t 13) }])
  (.seq (.seq (.reg 2 false [
    { d := some 14, op := .mov (.t 7) },
    { d := some 15, op := .bin .neq (.t 14) (.c (.int .i64 0)) }])
  (.cond (.t 15)
    (.seq (.reg 3 false [
      { d := some 16, op := .mov (.t 7) },
      { d := some 4, op := .mov (.c (.int .i64 0)) },
      { d := some 5, op := .mov (.t 16) }])
    (.ret))
    (.skip)))
  (.seq (.reg 4 false [
    { d := some 17, op := .mov (.t 6) },
    { d := some 18, op := .mov (.t 1) },
    { d := some 19, op := .call 69 [.t 17, .t 18] },
    { d := some 4, op := .mov (.t 19) },
    { d := some 5, op := .mov (.c (.int .i64 0)) }])
  (.ret))))
def rr_sheet_Last : List RRes := [.t 4, .t 5]
theorem pc_sheet_Last {G : Nat → Option (List AV)} {args : List AV} {v : AV} (hn : args.length ≤ Tryd.f22.ntmps) (h : ∀ R : Run, R.G = G → R.Top → AR Tryd.prog R rc_sheet_Last (initSt args) (Fin rr_sheet_Last v)) : PC Tryd.prog G 22 args v :=
  PC_of Tryd.func22 rfl (by kernel_rfl) (rc := rc_sheet_Last) (by kernel_rfl) (rs := rr_sheet_Last) (by kernel_rfl) hn (fun R _ hG hr => h R hG hr)

theorem pb_sheet_Last {G : Nat → Option (List AV)} {objs objs' : List (Nat × AObj)} {args : List AV} {v : AV} (hn : args.length ≤ Tryd.f22.ntmps) (h : ∀ R : Run, R.G = G → R.Top → AR Tryd.prog R rc_sheet_Last ⟨iniT 0 args, objs⟩ (FinB rr_sheet_Last v objs')) : PB Tryd.prog G 22 objs args v objs' :=
  PB_of Tryd.func22 rfl (by kernel_rfl) (rc := rc_sheet_Last) (by kernel_rfl) (rs := rr_sheet_Last) (by kernel_rfl) hn (fun R _ hG hr => h R hG hr)

theorem pp_sheet_Last {G : Nat → Option (List AV)} {args : List AV} {ch : List PanicEntry} (hn : args.length ≤ Tryd.f22.ntmps) (h : ∀ R : Run, R.G = G → R.Top → AR Tryd.prog R rc_sheet_Last (initSt args) (FinP ch)) : PPC Tryd.prog G 22 args ch :=
  PPC_of Tryd.func22 rfl (by kernel_rfl) (rc := rc_sheet_Last) (by kernel_rfl) hn (fun R _ hG hr => h R hG hr)

def rc_sheet_At : RCode :=
  .seq (.reg 0 false [
    { d := some 2, op := .box (.t 0) },
    { d := some 3, op := .box (.t 1) },
    { d := some 4, op := .alloc [.int .i64 0, .int .i64 0, .int .u8 0, .nils, .nils] },
    { d := some 5, op := .mov (.c (.int .i64 0)) }])
  (.seq (.reg 1 false [
    { d := some 11, op := .load true 1 (.t 2) },
    { d := some 12, op := .call 67 [.t 11] },
    { d := some 10, op := .mov (.t 12) },
    { d := some 13, op := .ext 0 (.t 10) },
    { d := some 14, op := .ext 1 (.t 10) },
    { d := some 6, op := .mov (.t 13) },
    { d := some 7, op := .mov (.t 14) }])
  (.seq (.seq (.reg 2 false [
    { d := some 15, op := .mov (.t 7) },
    { d := some 16, op := .bin .neq (.t 15) (.c (.int .i64 0)) }])
  (.cond (.t 16)
    (.seq (.reg 3 false [
      { d := some 17, op := .build [.int .i64 0, .int .i64 0, .int .u8 0, .nils, .nils] [] },
      { d := some 18, op := .mov (.t 7) },
      { d := none, op := .store 5 (.t 4) (.t 17) },
      { d := some 5, op := .mov (.t 18) }])
    (.ret))
    (.skip)))
  (.seq (.reg 4 false [
    { d := some 20, op := .mov (.t 6) },
    { d := some 21, op := .load true 2 (.t 3) },
    { d := some 22, op := .call 72 [.t 20, .t 21] },
    { d := some 19, op := .mov (.t 22) },
    { d := some 23, op := .ext 0 (.t 19) },
    { d := some 24, op := .ext 1 (.t 19) },
    { d := some 8, op := .alloc [.int .i64 0, .int .i64 0, .int .u8 0, .nils, .nils] },
    { d := none, op := .store 5 (.t 8) (.t 23) },
    { d := some 9, op := .mov (.t 24) }])
  (.seq (.seq (.reg 5 false [
    { d := some 25, op := .mov (.t 9) },
    { d := some 26, op := .un .not (.t 25) }])
  (.cond (.t 26)
    (.seq (.reg 6 false [
      { d := some 27, op := .build [.int .i64 0, .int .i64 0, .int .u8 0, .nils, .nils] [] },
      { d := none, op := .store 5 (.t 4) (.t 27) },
      { d := some 5, op := .mov (.c (.int .i64 6)) }])
    (.ret))
    (.skip)))
  (.seq (.reg 7 false [
    { d := some 28, op := .load true 5 (.t 8) },
    { d := some 29, op := .call 73 [.t 28] },
    { d := none, op := .store 5 (.t 4) (.t 29) },
    { d := some 5, op := .mov (.c (.int .i64 0)) }])
  (.ret))))))
def rr_sheet_At : List RRes := [.c 4 true 5, .t 5]
theorem pc_sheet_At {G : Nat → Option (List AV)} {args : List AV} {v : AV} (hn : args.length ≤ Tryd.f27.ntmps) (h : ∀ R : Run, R.G = G → R.Top → AR Tryd.prog R rc_sheet_At (initSt args) (Fin rr_sheet_At v)) : PC Tryd.prog G 27 args v :=
  PC_of Tryd.func27 rfl (by kernel_rfl) (rc := rc_sheet_At) (by kernel_rfl) (rs := rr_sheet_At) (by kernel_rfl) hn (fun R _ hG hr => h R hG hr)

theorem pb_sheet_At {G : Nat → Option (List AV)} {objs objs' : List (Nat × AObj)} {args : List AV} {v : AV} (hn : args.length ≤ Tryd.f27.ntmps) (h : ∀ R : Run, R.G = G → R.Top → AR Tryd.prog R rc_sheet_At ⟨iniT 0 args, objs⟩ (FinB rr_sheet_At v objs')) : PB Tryd.prog G 27 objs args v objs' :=
  PB_of Tryd.func27 rfl (by kernel_rfl) (rc := rc_sheet_At) (by kernel_rfl) (rs := rr_sheet_At) (by kernel_rfl) hn (fun R _ hG hr => h R hG hr)

theorem pp_sheet_At {G : Nat → Option (List AV)} {args : List AV} {ch : List PanicEntry} (hn : args.length ≤ Tryd.f27.ntmps) (h : ∀ R : Run, R.G = G → R.Top → AR Tryd.prog R rc_sheet_At (initSt args) (FinP ch)) : PPC Tryd.prog G 27 args ch :=
  PPC_of Tryd.func27 rfl (by kernel_rfl) (rc := rc_sheet_At) (by kernel_rfl) hn (fun R _ hG hr => h R hG hr)

def rc_sheet_Depth : RCode :=
  .seq (.reg 0 false [
    { d := some 2, op := .box (.t 0) },
    { d := some 4, op := .mov (.c (.int .i64 0)) },
    { d := some 5, op := .mov (.c (.int .i64 0)) }])
  (.seq (.reg 1 false [
    { d := some 11, op := .load true 1 (.t 2) },
    { d := some 12, op := .mov (.t 1) },
    { d := some 13, op := .call 68 [.t 11, .t 12] },
    { d := some 10, op := .mov (.t 13) },
    { d := some 14, op := .ext 0 (.t 10) },
    { d := some 15, op := .ext 1 (.t 10) },
    { d := some 6, op := .mov (.t 14) },
    { d := some 7, op := .mov (.t 15) }])
  (.seq (.seq (.reg 2 false [
    { d := some 16, op := .mov (.t 7) },
    { d := some 17, op := .bin .neq (.t 16) (.c (.int .i64 0)) }])
  (.cond (.t 17)
    (.seq (.reg 3 false [
      { d := some 18, op := .mov (.t 7) },
      { d := some 4, op := .mov (.c (.int .i64 0)) },
      { d := some 5, op := .mov (.t 18) }])
    (.ret))
    (.skip)))
  (.seq (.reg 4 false [
    { d := some 20, op := .mov (.t 6) },
    { d := some 21, op := .call 75 [.t 20] },
    { d := some 19, op := .mov (.t 21) },
    { d := some 22, op := .ext 0 (.t 19) },
    { d := some 23, op := .ext 1 (.t 19) },
    { d := some 8, op := .mov (.t 22) },
    { d := some 9, op := .mov (.t 23) }])
  (.seq (.reg 5 false [
    { d := some 24, op := .mov (.t 8) },
    { d := some 25, op := .mov (.t 1) },
    { d := some 26, op := .look (.i .i64) (.int .i64 0) false (.t 24) (.t 25) },
    { d := some 4, op := .mov (.t 26) },
    { d := some 5, op := .mov (.c (.int .i64 0)) }])
  (.ret)))))
def rr_sheet_Depth : List RRes := [.t 4, .t 5]
theorem pc_sheet_Depth {G : Nat → Option (List AV)} {args : List AV} {v : AV} (hn : args.length ≤ Tryd.f29.ntmps) (h : ∀ R : Run, R.G = G → R.Top → AR Tryd.prog R rc_sheet_Depth (initSt args) (Fin rr_sheet_Depth v)) : PC Tryd.prog G 29 args v :=
  PC_of Tryd.func29 rfl (by kernel_rfl) (rc := rc_sheet_Depth) (by kernel_rfl) (rs := rr_sheet_Depth) (by kernel_rfl) hn (fun R _ hG hr => h R hG hr)

theorem pb_sheet_Depth {G : Nat → Option (List AV)} {objs objs' : List (Nat × AObj)} {args : List AV} {v : AV} (hn : args.length ≤ Tryd.f29.ntmps) (h : ∀ R : Run, R.G = G → R.Top → AR Tryd.prog R rc_sheet_Depth ⟨iniT 0 args, objs⟩ (FinB rr_sheet_Depth v objs')) : PB Tryd.prog G 29 objs args v objs' :=
  PB_of Tryd.func29 rfl (by kernel_rfl) (rc := rc_sheet_Depth) (by kernel_rfl) (rs := rr_sheet_Depth) (by kernel_rfl) hn (fun R _ hG hr => h R hG hr)

theorem pp_sheet_Depth {G : Nat → Option (List AV)} {args : List AV} {ch : List PanicEntry} (hn : args.length ≤ Tryd.f29.ntmps) (h : ∀ R : Run, R.G = G → R.Top → AR Tryd.prog R rc_sheet_Depth (initSt args) (FinP ch)) : PPC Tryd.prog G 29 args ch :=
  PPC_of Tryd.func29 rfl (by kernel_rfl) (rc := rc_sheet_Depth) (by kernel_rfl) hn (fun R _ hG hr => h R hG hr)

end Go.Proofs.YtdpmioiamcgfkaaDoor
