/-
  The abstract machine's code of functions of the program, as a program of ours printed it; that it is theirs is proved beside each.
-/
import Derived.Test.YtikjooemblpnbaaDoorAmL
import Derived.Test.YtikjooemblpnbaaDoorProg
namespace Go.Proofs.YtikjooemblpnbaaDoor
open Go.RowKit

def rc_ref01_within : RCode :=
  .seq (.reg 0 false [
    { d := some 6, op := .mov (.c (.bool false)) }])
  (.seq (.reg 1 false [
    { d := some 7, op := .mov (.t 0) },
    { d := some 8, op := .mov (.t 1) },
    { d := some 9, op := .bin .geq (.t 7) (.t 8) },
    { d := some 10, op := .mov (.t 9) },
    { d := some 11, op := .mov (.t 0), guard := some (10, true) },
    { d := some 12, op := .mov (.t 2), guard := some (10, true) },
    { d := some 13, op := .bin .leq (.t 11) (.t 12), guard := some (10, true) },
    { d := some 14, op := .pick (.t 10) (.t 13) (.c (.bool false)) },
    { d := some 6, op := .mov (.t 14) }])
  (.ret))
def rr_ref01_within : List RRes := [.t 6]
theorem pc_ref01_within {G : Nat → Option (List AV)} {args : List AV} {v : AV} (hn : args.length ≤ Tryd.f61.ntmps) (h : ∀ R : Run, R.G = G → AR Tryd.prog R rc_ref01_within (initSt args) (Fin rr_ref01_within v)) : PC Tryd.prog G 61 args v :=
  PC_of Tryd.func61 rfl (by kernel_rfl) (rc := rc_ref01_within) (by kernel_rfl) (rs := rr_ref01_within) (by kernel_rfl) hn (fun R _ hG => h R hG)

theorem pb_ref01_within {G : Nat → Option (List AV)} {objs objs' : List (Nat × AObj)} {args : List AV} {v : AV} (hn : args.length ≤ Tryd.f61.ntmps) (h : ∀ R : Run, R.G = G → AR Tryd.prog R rc_ref01_within ⟨iniT 0 args, objs⟩ (FinB rr_ref01_within v objs')) : PB Tryd.prog G 61 objs args v objs' :=
  PB_of Tryd.func61 rfl (by kernel_rfl) (rc := rc_ref01_within) (by kernel_rfl) (rs := rr_ref01_within) (by kernel_rfl) hn (fun R _ hG => h R hG)

theorem pp_ref01_within {G : Nat → Option (List AV)} {args : List AV} {ch : List PanicEntry} (hn : args.length ≤ Tryd.f61.ntmps) (h : ∀ R : Run, R.G = G → AR Tryd.prog R rc_ref01_within (initSt args) (FinP ch)) : PPC Tryd.prog G 61 args ch :=
  PPC_of Tryd.func61 rfl (by kernel_rfl) (rc := rc_ref01_within) (by kernel_rfl) hn (fun R _ hG => h R hG)

def rc_ref01_Dim : RCode :=
  .seq (.reg 0 false [
    { d := some 1, op := .box (.t 0) },
    { d := some 2, op := .mov (.c (.bool false)) }])
  (.seq (.reg 1 false [
    { d := some 3, op := .faddr 0 (.t 1) },
    { d := some 4, op := .load false 1 (.t 3) },
    { d := some 5, op := .call 61 [.t 4, .c (.int .i64 0), .c (.int .i64 1000000000)] },
    { d := some 6, op := .mov (.t 5) },
    { d := some 7, op := .faddr 2 (.t 1), guard := some (6, true) },
    { d := some 8, op := .load false 1 (.t 7), guard := some (6, true) },
    { d := some 9, op := .call 61 [.t 8, .c (.int .i64 0), .c (.int .i64 1000000000)], guard := some (6, true) },
    { d := some 10, op := .pick (.t 6) (.t 9) (.c (.bool false)) },
    { d := some 11, op := .mov (.t 10) },
    { d := some 12, op := .faddr 1 (.t 1), guard := some (11, true) },
    { d := some 13, op := .load false 1 (.t 12), guard := some (11, true) },
    { d := some 14, op := .faddr 2 (.t 1), guard := some (11, true) },
    { d := some 15, op := .load false 1 (.t 14), guard := some (11, true) },
    { d := some 16, op := .call 61 [.t 13, .c (.int .i64 0), .t 15], guard := some (11, true) },
    { d := some 17, op := .pick (.t 11) (.t 16) (.c (.bool false)) },
    { d := some 2, op := .mov (.t 17) }])
  (.ret))
def rr_ref01_Dim : List RRes := [.t 2]
theorem pc_ref01_Dim {G : Nat → Option (List AV)} {args : List AV} {v : AV} (hn : args.length ≤ Tryd.f42.ntmps) (h : ∀ R : Run, R.G = G → AR Tryd.prog R rc_ref01_Dim (initSt args) (Fin rr_ref01_Dim v)) : PC Tryd.prog G 42 args v :=
  PC_of Tryd.func42 rfl (by kernel_rfl) (rc := rc_ref01_Dim) (by kernel_rfl) (rs := rr_ref01_Dim) (by kernel_rfl) hn (fun R _ hG => h R hG)

theorem pb_ref01_Dim {G : Nat → Option (List AV)} {objs objs' : List (Nat × AObj)} {args : List AV} {v : AV} (hn : args.length ≤ Tryd.f42.ntmps) (h : ∀ R : Run, R.G = G → AR Tryd.prog R rc_ref01_Dim ⟨iniT 0 args, objs⟩ (FinB rr_ref01_Dim v objs')) : PB Tryd.prog G 42 objs args v objs' :=
  PB_of Tryd.func42 rfl (by kernel_rfl) (rc := rc_ref01_Dim) (by kernel_rfl) (rs := rr_ref01_Dim) (by kernel_rfl) hn (fun R _ hG => h R hG)

theorem pp_ref01_Dim {G : Nat → Option (List AV)} {args : List AV} {ch : List PanicEntry} (hn : args.length ≤ Tryd.f42.ntmps) (h : ∀ R : Run, R.G = G → AR Tryd.prog R rc_ref01_Dim (initSt args) (FinP ch)) : PPC Tryd.prog G 42 args ch :=
  PPC_of Tryd.func42 rfl (by kernel_rfl) (rc := rc_ref01_Dim) (by kernel_rfl) hn (fun R _ hG => h R hG)

def rc_ref01_Step : RCode :=
  .seq (.reg 0 false [
    { d := some 2, op := .mov (.c (.int .i64 0)) }])
  (.seq (.seq (.reg 1 false [
    { d := some 3, op := .mov (.t 0) }])
  (.block 0
    (.seq (.reg 2 false [
      { d := some 5, op := .bin .eql (.t 3) (.c (.int .u8 1)) },
      { d := some 4, op := .mov (.t 5) }])
    (.cond (.t 4)
      (.seq (.reg 3 false [
        { d := some 2, op := .mov (.c (.int .i64 100)) }])
      (.ret))
      (.seq (.reg 4 false [
        { d := some 7, op := .bin .eql (.t 3) (.c (.int .u8 2)) },
        { d := some 6, op := .mov (.t 7) }])
      (.cond (.t 6)
        (.seq (.reg 5 false [
          { d := some 2, op := .mov (.c (.int .i64 254)) }])
        (.ret))
        (.skip)))))))
  (.seq (.reg 6 false [
    { d := some 2, op := .mov (.c (.int .i64 0)) }])
  (.ret)))
def rr_ref01_Step : List RRes := [.t 2]
theorem pc_ref01_Step {G : Nat → Option (List AV)} {args : List AV} {v : AV} (hn : args.length ≤ Tryd.f50.ntmps) (h : ∀ R : Run, R.G = G → AR Tryd.prog R rc_ref01_Step (initSt args) (Fin rr_ref01_Step v)) : PC Tryd.prog G 50 args v :=
  PC_of Tryd.func50 rfl (by kernel_rfl) (rc := rc_ref01_Step) (by kernel_rfl) (rs := rr_ref01_Step) (by kernel_rfl) hn (fun R _ hG => h R hG)

theorem pb_ref01_Step {G : Nat → Option (List AV)} {objs objs' : List (Nat × AObj)} {args : List AV} {v : AV} (hn : args.length ≤ Tryd.f50.ntmps) (h : ∀ R : Run, R.G = G → AR Tryd.prog R rc_ref01_Step ⟨iniT 0 args, objs⟩ (FinB rr_ref01_Step v objs')) : PB Tryd.prog G 50 objs args v objs' :=
  PB_of Tryd.func50 rfl (by kernel_rfl) (rc := rc_ref01_Step) (by kernel_rfl) (rs := rr_ref01_Step) (by kernel_rfl) hn (fun R _ hG => h R hG)

theorem pp_ref01_Step {G : Nat → Option (List AV)} {args : List AV} {ch : List PanicEntry} (hn : args.length ≤ Tryd.f50.ntmps) (h : ∀ R : Run, R.G = G → AR Tryd.prog R rc_ref01_Step (initSt args) (FinP ch)) : PPC Tryd.prog G 50 args ch :=
  PPC_of Tryd.func50 rfl (by kernel_rfl) (rc := rc_ref01_Step) (by kernel_rfl) hn (fun R _ hG => h R hG)

def rc_ref01_above : RCode :=
  .seq (.reg 0 false [
    { d := some 4, op := .mov (.c (.int .i64 0)) }])
  (.seq (.reg 1 false [
    { d := some 5, op := .mov (.t 0) },
    { d := some 6, op := .mov (.t 1) },
    { d := some 7, op := .bin .add (.t 5) (.t 6) },
    { d := some 8, op := .bin .sub (.t 7) (.c (.int .i64 1)) },
    { d := some 9, op := .mov (.t 1) },
    { d := some 10, op := .bin .quo (.t 8) (.t 9) },
    { d := some 11, op := .mov (.t 1) },
    { d := some 12, op := .bin .mul (.t 10) (.t 11) },
    { d := some 4, op := .mov (.t 12) }])
  (.ret))
def rr_ref01_above : List RRes := [.t 4]
theorem pc_ref01_above {G : Nat → Option (List AV)} {args : List AV} {v : AV} (hn : args.length ≤ Tryd.f77.ntmps) (h : ∀ R : Run, R.G = G → AR Tryd.prog R rc_ref01_above (initSt args) (Fin rr_ref01_above v)) : PC Tryd.prog G 77 args v :=
  PC_of Tryd.func77 rfl (by kernel_rfl) (rc := rc_ref01_above) (by kernel_rfl) (rs := rr_ref01_above) (by kernel_rfl) hn (fun R _ hG => h R hG)

theorem pb_ref01_above {G : Nat → Option (List AV)} {objs objs' : List (Nat × AObj)} {args : List AV} {v : AV} (hn : args.length ≤ Tryd.f77.ntmps) (h : ∀ R : Run, R.G = G → AR Tryd.prog R rc_ref01_above ⟨iniT 0 args, objs⟩ (FinB rr_ref01_above v objs')) : PB Tryd.prog G 77 objs args v objs' :=
  PB_of Tryd.func77 rfl (by kernel_rfl) (rc := rc_ref01_above) (by kernel_rfl) (rs := rr_ref01_above) (by kernel_rfl) hn (fun R _ hG => h R hG)

theorem pp_ref01_above {G : Nat → Option (List AV)} {args : List AV} {ch : List PanicEntry} (hn : args.length ≤ Tryd.f77.ntmps) (h : ∀ R : Run, R.G = G → AR Tryd.prog R rc_ref01_above (initSt args) (FinP ch)) : PPC Tryd.prog G 77 args ch :=
  PPC_of Tryd.func77 rfl (by kernel_rfl) (rc := rc_ref01_above) (by kernel_rfl) hn (fun R _ hG => h R hG)

def rc_ref01_exact : RCode :=
  .seq (.reg 0 false [
    { d := some 2, op := .box (.t 0) },
    { d := some 4, op := .mov (.c (.bool false)) }])
  (.seq (.reg 1 false [
    { d := some 5, op := .faddr 0 (.t 2) },
    { d := some 6, op := .load false 1 (.t 5) },
    { d := some 7, op := .mov (.t 1) },
    { d := some 8, op := .bin .rem (.t 6) (.t 7) },
    { d := some 9, op := .bin .eql (.t 8) (.c (.int .i64 0)) },
    { d := some 10, op := .mov (.t 9) },
    { d := some 11, op := .faddr 1 (.t 2), guard := some (10, true) },
    { d := some 12, op := .load false 1 (.t 11), guard := some (10, true) },
    { d := some 13, op := .mov (.t 1), guard := some (10, true) },
    { d := some 14, op := .bin .rem (.t 12) (.t 13), guard := some (10, true) },
    { d := some 15, op := .bin .eql (.t 14) (.c (.int .i64 0)), guard := some (10, true) },
    { d := some 16, op := .pick (.t 10) (.t 15) (.c (.bool false)) },
    { d := some 17, op := .mov (.t 16) },
    { d := some 18, op := .faddr 2 (.t 2), guard := some (17, true) },
    { d := some 19, op := .load false 1 (.t 18), guard := some (17, true) },
    { d := some 20, op := .mov (.t 1), guard := some (17, true) },
    { d := some 21, op := .bin .rem (.t 19) (.t 20), guard := some (17, true) },
    { d := some 22, op := .bin .eql (.t 21) (.c (.int .i64 0)), guard := some (17, true) },
    { d := some 23, op := .pick (.t 17) (.t 22) (.c (.bool false)) },
    { d := some 4, op := .mov (.t 23) }])
  (.ret))
def rr_ref01_exact : List RRes := [.t 4]
theorem pc_ref01_exact {G : Nat → Option (List AV)} {args : List AV} {v : AV} (hn : args.length ≤ Tryd.f62.ntmps) (h : ∀ R : Run, R.G = G → AR Tryd.prog R rc_ref01_exact (initSt args) (Fin rr_ref01_exact v)) : PC Tryd.prog G 62 args v :=
  PC_of Tryd.func62 rfl (by kernel_rfl) (rc := rc_ref01_exact) (by kernel_rfl) (rs := rr_ref01_exact) (by kernel_rfl) hn (fun R _ hG => h R hG)

theorem pb_ref01_exact {G : Nat → Option (List AV)} {objs objs' : List (Nat × AObj)} {args : List AV} {v : AV} (hn : args.length ≤ Tryd.f62.ntmps) (h : ∀ R : Run, R.G = G → AR Tryd.prog R rc_ref01_exact ⟨iniT 0 args, objs⟩ (FinB rr_ref01_exact v objs')) : PB Tryd.prog G 62 objs args v objs' :=
  PB_of Tryd.func62 rfl (by kernel_rfl) (rc := rc_ref01_exact) (by kernel_rfl) (rs := rr_ref01_exact) (by kernel_rfl) hn (fun R _ hG => h R hG)

theorem pp_ref01_exact {G : Nat → Option (List AV)} {args : List AV} {ch : List PanicEntry} (hn : args.length ≤ Tryd.f62.ntmps) (h : ∀ R : Run, R.G = G → AR Tryd.prog R rc_ref01_exact (initSt args) (FinP ch)) : PPC Tryd.prog G 62 args ch :=
  PPC_of Tryd.func62 rfl (by kernel_rfl) (rc := rc_ref01_exact) (by kernel_rfl) hn (fun R _ hG => h R hG)

def rc_ref01_Check : RCode :=
  .seq (.reg 0 false [
    { d := some 1, op := .box (.t 0) },
    { d := some 2, op := .mov (.c (.int .i64 0)) }])
  (.seq (.seq (.reg 1 false [
    { d := some 3, op := .load true 3 (.t 1) },
    { d := some 4, op := .call 42 [.t 3] },
    { d := some 5, op := .un .not (.t 4) }])
  (.cond (.t 5)
    (.seq (.reg 2 false [
      { d := some 2, op := .mov (.c (.int .i64 10)) }])
    (.ret))
    (.skip)))
  (.seq (.reg 3 false [
    { d := some 2, op := .mov (.c (.int .i64 0)) }])
  (.ret)))
def rr_ref01_Check : List RRes := [.t 2]
theorem pc_ref01_Check {G : Nat → Option (List AV)} {args : List AV} {v : AV} (hn : args.length ≤ Tryd.f40.ntmps) (h : ∀ R : Run, R.G = G → AR Tryd.prog R rc_ref01_Check (initSt args) (Fin rr_ref01_Check v)) : PC Tryd.prog G 40 args v :=
  PC_of Tryd.func40 rfl (by kernel_rfl) (rc := rc_ref01_Check) (by kernel_rfl) (rs := rr_ref01_Check) (by kernel_rfl) hn (fun R _ hG => h R hG)

theorem pb_ref01_Check {G : Nat → Option (List AV)} {objs objs' : List (Nat × AObj)} {args : List AV} {v : AV} (hn : args.length ≤ Tryd.f40.ntmps) (h : ∀ R : Run, R.G = G → AR Tryd.prog R rc_ref01_Check ⟨iniT 0 args, objs⟩ (FinB rr_ref01_Check v objs')) : PB Tryd.prog G 40 objs args v objs' :=
  PB_of Tryd.func40 rfl (by kernel_rfl) (rc := rc_ref01_Check) (by kernel_rfl) (rs := rr_ref01_Check) (by kernel_rfl) hn (fun R _ hG => h R hG)

theorem pp_ref01_Check {G : Nat → Option (List AV)} {args : List AV} {ch : List PanicEntry} (hn : args.length ≤ Tryd.f40.ntmps) (h : ∀ R : Run, R.G = G → AR Tryd.prog R rc_ref01_Check (initSt args) (FinP ch)) : PPC Tryd.prog G 40 args ch :=
  PPC_of Tryd.func40 rfl (by kernel_rfl) (rc := rc_ref01_Check) (by kernel_rfl) hn (fun R _ hG => h R hG)

def rc_ref01_Exact : RCode :=
  .seq (.reg 0 false [
    { d := some 1, op := .box (.t 0) },
    { d := some 2, op := .mov (.c (.int .u8 0)) },
    { d := some 3, op := .mov (.c (.int .i64 0)) }])
  (.seq (.seq (.reg 1 false [
    { d := some 6, op := .load true 3 (.t 1) },
    { d := some 7, op := .call 42 [.t 6] },
    { d := some 8, op := .un .not (.t 7) }])
  (.cond (.t 8)
    (.seq (.reg 2 false [
      { d := some 2, op := .mov (.c (.int .u8 0)) },
      { d := some 3, op := .mov (.c (.int .i64 10)) }])
    (.ret))
    (.skip)))
  (.seq (.reg 3 false [
    { d := some 4, op := .mov (.c (.int .u8 0)) }])
  (.seq (.seq (.reg 4 false [
    { d := some 5, op := .mov (.c (.int .u8 1)) }])
  (.block 0
    (.loop
      (.seq (.seq (.reg 5 false [
        { d := some 9, op := .mov (.t 5) },
        { d := some 10, op := .bin .leq (.t 9) (.c (.int .u8 2)) }])
      (.cond (.t 10)
        (.skip)
        (.exit 0)))
      (.seq (.block 1
        (.seq (.reg 7 true [
          { d := some 13, op := .load true 3 (.t 1), aft := [] },
          { d := some 14, op := .mov (.t 5), aft := [] },
          { d := some 15, op := .call 50 [.t 14], aft := [1] },
          { d := some 16, op := .call 62 [.t 13, .t 15], aft := [0, 2, 2] }])
        (.cond (.t 16)
          (.reg 8 false [
            { d := some 17, op := .mov (.t 4) },
            { d := some 18, op := .mov (.t 5) },
            { d := some 19, op := .bin .add (.t 17) (.t 18) },
            { d := some 4, op := .mov (.t 19) }])
          (.skip))))
      (.reg 6 false [
        { d := some 11, op := .mov (.t 5) },
        { d := some 12, op := .bin .add (.t 11) (.c (.int .u8 1)) },
        { d := some 5, op := .mov (.t 12) }]))))))
  (.seq (.reg 9 false [
    { d := some 20, op := .mov (.t 4) },
    { d := some 2, op := .mov (.t 20) },
    { d := some 3, op := .mov (.c (.int .i64 0)) }])
  (.ret)))))
def rr_ref01_Exact : List RRes := [.t 2, .t 3]
theorem pc_ref01_Exact {G : Nat → Option (List AV)} {args : List AV} {v : AV} (hn : args.length ≤ Tryd.f34.ntmps) (h : ∀ R : Run, R.G = G → AR Tryd.prog R rc_ref01_Exact (initSt args) (Fin rr_ref01_Exact v)) : PC Tryd.prog G 34 args v :=
  PC_of Tryd.func34 rfl (by kernel_rfl) (rc := rc_ref01_Exact) (by kernel_rfl) (rs := rr_ref01_Exact) (by kernel_rfl) hn (fun R _ hG => h R hG)

theorem pb_ref01_Exact {G : Nat → Option (List AV)} {objs objs' : List (Nat × AObj)} {args : List AV} {v : AV} (hn : args.length ≤ Tryd.f34.ntmps) (h : ∀ R : Run, R.G = G → AR Tryd.prog R rc_ref01_Exact ⟨iniT 0 args, objs⟩ (FinB rr_ref01_Exact v objs')) : PB Tryd.prog G 34 objs args v objs' :=
  PB_of Tryd.func34 rfl (by kernel_rfl) (rc := rc_ref01_Exact) (by kernel_rfl) (rs := rr_ref01_Exact) (by kernel_rfl) hn (fun R _ hG => h R hG)

theorem pp_ref01_Exact {G : Nat → Option (List AV)} {args : List AV} {ch : List PanicEntry} (hn : args.length ≤ Tryd.f34.ntmps) (h : ∀ R : Run, R.G = G → AR Tryd.prog R rc_ref01_Exact (initSt args) (FinP ch)) : PPC Tryd.prog G 34 args ch :=
  PPC_of Tryd.func34 rfl (by kernel_rfl) (rc := rc_ref01_Exact) (by kernel_rfl) hn (fun R _ hG => h R hG)

def rc_ref01_Again : RCode :=
  .seq (.reg 0 false [
    { d := some 2, op := .box (.t 0) },
    { d := some 4, op := .alloc [.int .i64 0, .int .i64 0, .int .i64 0] },
    { d := some 5, op := .mov (.c (.bool false)) }])
  (.seq (.reg 1 false [
    { d := some 9, op := .faddr 0 (.t 2) },
    { d := some 10, op := .load false 1 (.t 9) },
    { d := some 11, op := .mov (.t 1) },
    { d := some 12, op := .bin .quo (.t 10) (.t 11) },
    { d := some 13, op := .mov (.t 1) },
    { d := some 14, op := .bin .mul (.t 12) (.t 13) },
    { d := some 6, op := .mov (.t 14) }])
  (.seq (.seq (.reg 2 false [
    { d := some 15, op := .mov (.t 6) },
    { d := some 16, op := .mov (.t 1) },
    { d := some 17, op := .bin .add (.t 15) (.t 16) },
    { d := some 7, op := .mov (.t 17) }])
  (.seq (.reg 3 false [
    { d := some 18, op := .mov (.t 7) },
    { d := some 19, op := .bin .leq (.t 18) (.c (.int .i64 1000000000)) },
    { d := some 20, op := .mov (.t 19) },
    { d := some 21, op := .mov (.t 7), guard := some (20, true) },
    { d := some 22, op := .faddr 0 (.t 2), guard := some (20, true) },
    { d := some 23, op := .load false 1 (.t 22), guard := some (20, true) },
    { d := some 24, op := .bin .sub (.t 21) (.t 23), guard := some (20, true) },
    { d := some 25, op := .faddr 0 (.t 2), guard := some (20, true) },
    { d := some 26, op := .load false 1 (.t 25), guard := some (20, true) },
    { d := some 27, op := .mov (.t 6), guard := some (20, true) },
    { d := some 28, op := .bin .sub (.t 26) (.t 27), guard := some (20, true) },
    { d := some 29, op := .bin .lss (.t 24) (.t 28), guard := some (20, true) },
    { d := some 30, op := .pick (.t 20) (.t 29) (.c (.bool false)) }])
  (.cond (.t 30)
    (.reg 4 false [
      { d := some 31, op := .mov (.t 7) },
      { d := some 6, op := .mov (.t 31) }])
    (.skip))))
  (.seq (.reg 5 true [
    { d := some 32, op := .mov (.t 6), aft := [] },
    { d := some 33, op := .faddr 1 (.t 2), aft := [] },
    { d := some 34, op := .load false 1 (.t 33), aft := [1] },
    { d := some 35, op := .mov (.t 1), aft := [] },
    { d := some 36, op := .call 77 [.t 34, .t 35], aft := [2, 3] },
    { d := some 37, op := .faddr 2 (.t 2), aft := [] },
    { d := some 38, op := .load false 1 (.t 37), aft := [5] },
    { d := some 39, op := .mov (.t 1), aft := [] },
    { d := some 40, op := .bin .quo (.t 38) (.t 39), aft := [6, 7] },
    { d := some 41, op := .mov (.t 1), aft := [] },
    { d := some 42, op := .bin .mul (.t 40) (.t 41), aft := [8, 9] },
    { d := some 43, op := .build [.int .i64 0, .int .i64 0, .int .i64 0] [(0, 1, .t 32), (1, 1, .t 36), (2, 1, .t 42)], aft := [0, 4, 10] },
    { d := some 8, op := .alloc [.int .i64 0, .int .i64 0, .int .i64 0], aft := [] },
    { d := none, op := .store 3 (.t 8) (.t 43), aft := [12, 11, 4, 0, 1, 2, 3, 4, 5, 6, 7, 8, 9, 10, 11, 12] }])
  (.seq (.reg 6 true [
    { d := some 44, op := .load true 3 (.t 8), aft := [] },
    { d := some 45, op := .faddr 1 (.t 8), aft := [] },
    { d := some 46, op := .load false 1 (.t 45), aft := [1] },
    { d := some 47, op := .faddr 2 (.t 8), aft := [] },
    { d := some 48, op := .load false 1 (.t 47), aft := [3] },
    { d := some 49, op := .bin .leq (.t 46) (.t 48), aft := [2, 4] },
    { d := none, op := .store 3 (.t 4) (.t 44), aft := [0, 0] },
    { d := some 5, op := .mov (.t 49), aft := [5, 6, 0, 1, 2, 3, 4, 5, 6] }])
  (.ret)))))
def rr_ref01_Again : List RRes := [.c 4 true 3, .t 5]
theorem pc_ref01_Again {G : Nat → Option (List AV)} {args : List AV} {v : AV} (hn : args.length ≤ Tryd.f51.ntmps) (h : ∀ R : Run, R.G = G → AR Tryd.prog R rc_ref01_Again (initSt args) (Fin rr_ref01_Again v)) : PC Tryd.prog G 51 args v :=
  PC_of Tryd.func51 rfl (by kernel_rfl) (rc := rc_ref01_Again) (by kernel_rfl) (rs := rr_ref01_Again) (by kernel_rfl) hn (fun R _ hG => h R hG)

theorem pb_ref01_Again {G : Nat → Option (List AV)} {objs objs' : List (Nat × AObj)} {args : List AV} {v : AV} (hn : args.length ≤ Tryd.f51.ntmps) (h : ∀ R : Run, R.G = G → AR Tryd.prog R rc_ref01_Again ⟨iniT 0 args, objs⟩ (FinB rr_ref01_Again v objs')) : PB Tryd.prog G 51 objs args v objs' :=
  PB_of Tryd.func51 rfl (by kernel_rfl) (rc := rc_ref01_Again) (by kernel_rfl) (rs := rr_ref01_Again) (by kernel_rfl) hn (fun R _ hG => h R hG)

theorem pp_ref01_Again {G : Nat → Option (List AV)} {args : List AV} {ch : List PanicEntry} (hn : args.length ≤ Tryd.f51.ntmps) (h : ∀ R : Run, R.G = G → AR Tryd.prog R rc_ref01_Again (initSt args) (FinP ch)) : PPC Tryd.prog G 51 args ch :=
  PPC_of Tryd.func51 rfl (by kernel_rfl) (rc := rc_ref01_Again) (by kernel_rfl) hn (fun R _ hG => h R hG)

def rc_ref01_Convert : RCode :=
  .seq (.reg 0 false [
    { d := some 2, op := .box (.t 0) },
    { d := some 4, op := .alloc [.int .i64 0, .int .i64 0, .int .i64 0] },
    { d := some 5, op := .mov (.c (.int .i64 0)) }])
  (.seq (.seq (.reg 1 false [
    { d := some 8, op := .load true 3 (.t 2) },
    { d := some 9, op := .call 42 [.t 8] },
    { d := some 10, op := .un .not (.t 9) }])
  (.cond (.t 10)
    (.seq (.reg 2 false [
      { d := some 11, op := .build [.int .i64 0, .int .i64 0, .int .i64 0] [] },
      { d := none, op := .store 3 (.t 4) (.t 11) },
      { d := some 5, op := .mov (.c (.int .i64 10)) }])
    (.ret))
    (.skip)))
  (.seq (.seq (.reg 3 false [
    { d := some 12, op := .mov (.t 1) },
    { d := some 13, op := .call 50 [.t 12] },
    { d := some 14, op := .bin .eql (.t 13) (.c (.int .i64 0)) }])
  (.cond (.t 14)
    (.seq (.reg 4 false [
      { d := some 15, op := .build [.int .i64 0, .int .i64 0, .int .i64 0] [] },
      { d := none, op := .store 3 (.t 4) (.t 15) },
      { d := some 5, op := .mov (.c (.int .i64 11)) }])
    (.ret))
    (.skip)))
  (.seq (.reg 5 true [
    { d := some 17, op := .load true 3 (.t 2), aft := [] },
    { d := some 18, op := .mov (.t 1), aft := [] },
    { d := some 19, op := .call 50 [.t 18], aft := [1] },
    { d := some 20, op := .call 51 [.t 17, .t 19], aft := [0, 2, 2] },
    { d := some 16, op := .mov (.t 20), aft := [3] },
    { d := some 21, op := .ext 0 (.t 16), aft := [4] },
    { d := some 22, op := .ext 1 (.t 16), aft := [4] },
    { d := some 6, op := .alloc [.int .i64 0, .int .i64 0, .int .i64 0], aft := [] },
    { d := none, op := .store 3 (.t 6) (.t 21), aft := [7, 5, 3, 0, 1, 2, 3, 4, 5, 7] },
    { d := some 7, op := .mov (.t 22), aft := [6, 8, 0, 1, 2, 3, 4, 5, 6, 7, 8] }])
  (.seq (.seq (.reg 6 false [
    { d := some 23, op := .mov (.t 7) },
    { d := some 24, op := .un .not (.t 23) }])
  (.cond (.t 24)
    (.seq (.reg 7 false [
      { d := some 25, op := .build [.int .i64 0, .int .i64 0, .int .i64 0] [] },
      { d := none, op := .store 3 (.t 4) (.t 25) },
      { d := some 5, op := .mov (.c (.int .i64 6)) }])
    (.ret))
    (.skip)))
  (.seq (.reg 8 false [
    { d := some 26, op := .load true 3 (.t 6) },
    { d := none, op := .store 3 (.t 4) (.t 26) },
    { d := some 5, op := .mov (.c (.int .i64 0)) }])
  (.ret))))))
def rr_ref01_Convert : List RRes := [.c 4 true 3, .t 5]
theorem pc_ref01_Convert {G : Nat → Option (List AV)} {args : List AV} {v : AV} (hn : args.length ≤ Tryd.f17.ntmps) (h : ∀ R : Run, R.G = G → AR Tryd.prog R rc_ref01_Convert (initSt args) (Fin rr_ref01_Convert v)) : PC Tryd.prog G 17 args v :=
  PC_of Tryd.func17 rfl (by kernel_rfl) (rc := rc_ref01_Convert) (by kernel_rfl) (rs := rr_ref01_Convert) (by kernel_rfl) hn (fun R _ hG => h R hG)

theorem pb_ref01_Convert {G : Nat → Option (List AV)} {objs objs' : List (Nat × AObj)} {args : List AV} {v : AV} (hn : args.length ≤ Tryd.f17.ntmps) (h : ∀ R : Run, R.G = G → AR Tryd.prog R rc_ref01_Convert ⟨iniT 0 args, objs⟩ (FinB rr_ref01_Convert v objs')) : PB Tryd.prog G 17 objs args v objs' :=
  PB_of Tryd.func17 rfl (by kernel_rfl) (rc := rc_ref01_Convert) (by kernel_rfl) (rs := rr_ref01_Convert) (by kernel_rfl) hn (fun R _ hG => h R hG)

theorem pp_ref01_Convert {G : Nat → Option (List AV)} {args : List AV} {ch : List PanicEntry} (hn : args.length ≤ Tryd.f17.ntmps) (h : ∀ R : Run, R.G = G → AR Tryd.prog R rc_ref01_Convert (initSt args) (FinP ch)) : PPC Tryd.prog G 17 args ch :=
  PPC_of Tryd.func17 rfl (by kernel_rfl) (rc := rc_ref01_Convert) (by kernel_rfl) hn (fun R _ hG => h R hG)

def rc_ref01_Redraw : RCode :=
  .seq (.reg 0 false [
    { d := some 2, op := .box (.t 0) },
    { d := some 4, op := .alloc [.int .i64 0, .int .i64 0, .int .i64 0] },
    { d := some 5, op := .mov (.c (.int .i64 0)) }])
  (.seq (.seq (.reg 1 false [
    { d := some 10, op := .load true 3 (.t 2) },
    { d := some 11, op := .call 42 [.t 10] },
    { d := some 12, op := .un .not (.t 11) }])
  (.cond (.t 12)
    (.seq (.reg 2 false [
      { d := some 13, op := .build [.int .i64 0, .int .i64 0, .int .i64 0] [] },
      { d := none, op := .store 3 (.t 4) (.t 13) },
      { d := some 5, op := .mov (.c (.int .i64 10)) }])
    (.ret))
    (.skip)))
  (.seq (.seq (.reg 3 false [
    { d := some 14, op := .mov (.t 1) },
    { d := some 15, op := .len (.t 14) },
    { d := some 16, op := .bin .gtr (.t 15) (.c (.int .i64 20)) }])
  (.cond (.t 16)
    (.seq (.reg 4 false [
      { d := some 17, op := .build [.int .i64 0, .int .i64 0, .int .i64 0] [] },
      { d := none, op := .store 3 (.t 4) (.t 17) },
      { d := some 5, op := .mov (.c (.int .i64 4)) }])
    (.ret))
    (.skip)))
  (.seq (.seq (.reg 5 false [
    { d := some 6, op := .mov (.c (.int .i64 0)) }])
  (.block 0
    (.loop
      (.seq (.seq (.reg 6 false [
        { d := some 18, op := .mov (.t 6) },
        { d := some 19, op := .mov (.t 1) },
        { d := some 20, op := .len (.t 19) },
        { d := some 21, op := .bin .lss (.t 18) (.t 20) }])
      (.cond (.t 21)
        (.skip)
        (.exit 0)))
      (.seq (.block 1
        (.seq (.reg 8 false [
          { d := some 24, op := .mov (.t 1) },
          { d := some 25, op := .mov (.t 6) },
          { d := some 26, op := .iaddr 1 (.t 24) (.t 25) },
          { d := some 27, op := .load false 1 (.t 26) },
          { d := some 28, op := .call 50 [.t 27] },
          { d := some 29, op := .bin .eql (.t 28) (.c (.int .i64 0)) }])
        (.cond (.t 29)
          (.seq (.reg 9 false [
            { d := some 30, op := .build [.int .i64 0, .int .i64 0, .int .i64 0] [] },
            { d := none, op := .store 3 (.t 4) (.t 30) },
            { d := some 5, op := .mov (.c (.int .i64 11)) }])
          (.ret))
          (.skip))))
      (.reg 7 false [
        { d := some 22, op := .mov (.t 6) },
        { d := some 23, op := .bin .add (.t 22) (.c (.int .i64 1)) },
        { d := some 6, op := .mov (.t 23) }]))))))
  (.seq (.seq (.reg 10 false [
    { d := some 7, op := .mov (.c (.int .i64 0)) }])
  (.block 2
    (.loop
      (.seq (.seq (.reg 11 false [
        { d := some 31, op := .mov (.t 7) },
        { d := some 32, op := .mov (.t 1) },
        { d := some 33, op := .len (.t 32) },
        { d := some 34, op := .bin .lss (.t 31) (.t 33) }])
      (.cond (.t 34)
        (.skip)
        (.exit 2)))
      (.seq (.block 3
        (.seq (.reg 13 true [
          { d := some 38, op := .load true 3 (.t 2), aft := [] },
          { d := some 39, op := .mov (.t 1), aft := [] },
          { d := some 40, op := .mov (.t 7), aft := [] },
          { d := some 41, op := .iaddr 1 (.t 39) (.t 40), aft := [1, 2] },
          { d := some 42, op := .load false 1 (.t 41), aft := [3] },
          { d := some 43, op := .call 50 [.t 42], aft := [4] },
          { d := some 44, op := .call 51 [.t 38, .t 43], aft := [0, 5, 5] },
          { d := some 37, op := .mov (.t 44), aft := [6] },
          { d := some 45, op := .ext 0 (.t 37), aft := [7] },
          { d := some 46, op := .ext 1 (.t 37), aft := [7] },
          { d := some 8, op := .alloc [.int .i64 0, .int .i64 0, .int .i64 0], aft := [] },
          { d := none, op := .store 3 (.t 8) (.t 45), aft := [10, 8, 6, 0, 1, 2, 3, 4, 5, 6, 7, 8, 10] },
          { d := some 9, op := .mov (.t 46), aft := [9, 11, 0, 1, 2, 3, 4, 5, 6, 7, 8, 9, 10, 11] }])
        (.seq (.seq (.reg 14 false [
          { d := some 47, op := .mov (.t 9) },
          { d := some 48, op := .un .not (.t 47) }])
        (.cond (.t 48)
          (.seq (.reg 15 false [
            { d := some 49, op := .build [.int .i64 0, .int .i64 0, .int .i64 0] [] },
            { d := none, op := .store 3 (.t 4) (.t 49) },
            { d := some 5, op := .mov (.c (.int .i64 6)) }])
          (.ret))
          (.skip)))
        (.reg 16 false [
          { d := some 50, op := .load true 3 (.t 8) },
          { d := none, op := .store 3 (.t 2) (.t 50) }]))))
      (.reg 12 false [
        { d := some 35, op := .mov (.t 7) },
        { d := some 36, op := .bin .add (.t 35) (.c (.int .i64 1)) },
        { d := some 7, op := .mov (.t 36) }]))))))
  (.seq (.reg 17 false [
    { d := some 51, op := .load true 3 (.t 2) },
    { d := none, op := .store 3 (.t 4) (.t 51) },
    { d := some 5, op := .mov (.c (.int .i64 0)) }])
  (.ret))))))
def rr_ref01_Redraw : List RRes := [.c 4 true 3, .t 5]
theorem pc_ref01_Redraw {G : Nat → Option (List AV)} {args : List AV} {v : AV} (hn : args.length ≤ Tryd.f19.ntmps) (h : ∀ R : Run, R.G = G → AR Tryd.prog R rc_ref01_Redraw (initSt args) (Fin rr_ref01_Redraw v)) : PC Tryd.prog G 19 args v :=
  PC_of Tryd.func19 rfl (by kernel_rfl) (rc := rc_ref01_Redraw) (by kernel_rfl) (rs := rr_ref01_Redraw) (by kernel_rfl) hn (fun R _ hG => h R hG)

theorem pb_ref01_Redraw {G : Nat → Option (List AV)} {objs objs' : List (Nat × AObj)} {args : List AV} {v : AV} (hn : args.length ≤ Tryd.f19.ntmps) (h : ∀ R : Run, R.G = G → AR Tryd.prog R rc_ref01_Redraw ⟨iniT 0 args, objs⟩ (FinB rr_ref01_Redraw v objs')) : PB Tryd.prog G 19 objs args v objs' :=
  PB_of Tryd.func19 rfl (by kernel_rfl) (rc := rc_ref01_Redraw) (by kernel_rfl) (rs := rr_ref01_Redraw) (by kernel_rfl) hn (fun R _ hG => h R hG)

theorem pp_ref01_Redraw {G : Nat → Option (List AV)} {args : List AV} {ch : List PanicEntry} (hn : args.length ≤ Tryd.f19.ntmps) (h : ∀ R : Run, R.G = G → AR Tryd.prog R rc_ref01_Redraw (initSt args) (FinP ch)) : PPC Tryd.prog G 19 args ch :=
  PPC_of Tryd.func19 rfl (by kernel_rfl) (rc := rc_ref01_Redraw) (by kernel_rfl) hn (fun R _ hG => h R hG)

def rc_ref01_Lost : RCode :=
  .seq (.reg 0 false [
    { d := some 2, op := .box (.t 0) },
    { d := some 4, op := .mov (.c (.int .i64 0)) },
    { d := some 5, op := .mov (.c (.int .i64 0)) },
    { d := some 6, op := .mov (.c (.int .i64 0)) }])
  (.seq (.reg 1 false [
    { d := some 10, op := .load true 3 (.t 2) },
    { d := some 11, op := .mov (.t 1) },
    { d := some 12, op := .call 17 [.t 10, .t 11] },
    { d := some 9, op := .mov (.t 12) },
    { d := some 13, op := .ext 0 (.t 9) },
    { d := some 14, op := .ext 1 (.t 9) },
    { d := some 7, op := .alloc [.int .i64 0, .int .i64 0, .int .i64 0] },
    { d := none, op := .store 3 (.t 7) (.t 13) },
    { d := some 8, op := .mov (.t 14) }])
  (.seq (.seq (.reg 2 false [
    { d := some 15, op := .mov (.t 8) },
    { d := some 16, op := .bin .neq (.t 15) (.c (.int .i64 0)) }])
  (.cond (.t 16)
    (.seq (.reg 3 false [
      { d := some 17, op := .mov (.t 8) },
      { d := some 4, op := .mov (.c (.int .i64 0)) },
      { d := some 5, op := .mov (.c (.int .i64 0)) },
      { d := some 6, op := .mov (.t 17) }])
    (.ret))
    (.skip)))
  (.seq (.reg 4 true [
    { d := some 18, op := .faddr 1 (.t 7), aft := [] },
    { d := some 19, op := .load false 1 (.t 18), aft := [0] },
    { d := some 20, op := .faddr 1 (.t 2), aft := [] },
    { d := some 21, op := .load false 1 (.t 20), aft := [2] },
    { d := some 22, op := .bin .sub (.t 19) (.t 21), aft := [1, 3] },
    { d := some 23, op := .faddr 2 (.t 2), aft := [] },
    { d := some 24, op := .load false 1 (.t 23), aft := [5] },
    { d := some 25, op := .faddr 2 (.t 7), aft := [] },
    { d := some 26, op := .load false 1 (.t 25), aft := [7] },
    { d := some 27, op := .bin .sub (.t 24) (.t 26), aft := [6, 8] },
    { d := some 4, op := .mov (.t 22), aft := [4, 0, 1, 2, 3, 4] },
    { d := some 5, op := .mov (.t 27), aft := [9, 10, 0, 1, 2, 3, 4, 5, 6, 7, 8, 9, 10] },
    { d := some 6, op := .mov (.c (.int .i64 0)), aft := [11, 0, 1, 2, 3, 4, 5, 6, 7, 8, 9, 10, 11] }])
  (.ret))))
def rr_ref01_Lost : List RRes := [.t 4, .t 5, .t 6]
theorem pc_ref01_Lost {G : Nat → Option (List AV)} {args : List AV} {v : AV} (hn : args.length ≤ Tryd.f21.ntmps) (h : ∀ R : Run, R.G = G → AR Tryd.prog R rc_ref01_Lost (initSt args) (Fin rr_ref01_Lost v)) : PC Tryd.prog G 21 args v :=
  PC_of Tryd.func21 rfl (by kernel_rfl) (rc := rc_ref01_Lost) (by kernel_rfl) (rs := rr_ref01_Lost) (by kernel_rfl) hn (fun R _ hG => h R hG)

theorem pb_ref01_Lost {G : Nat → Option (List AV)} {objs objs' : List (Nat × AObj)} {args : List AV} {v : AV} (hn : args.length ≤ Tryd.f21.ntmps) (h : ∀ R : Run, R.G = G → AR Tryd.prog R rc_ref01_Lost ⟨iniT 0 args, objs⟩ (FinB rr_ref01_Lost v objs')) : PB Tryd.prog G 21 objs args v objs' :=
  PB_of Tryd.func21 rfl (by kernel_rfl) (rc := rc_ref01_Lost) (by kernel_rfl) (rs := rr_ref01_Lost) (by kernel_rfl) hn (fun R _ hG => h R hG)

theorem pp_ref01_Lost {G : Nat → Option (List AV)} {args : List AV} {ch : List PanicEntry} (hn : args.length ≤ Tryd.f21.ntmps) (h : ∀ R : Run, R.G = G → AR Tryd.prog R rc_ref01_Lost (initSt args) (FinP ch)) : PPC Tryd.prog G 21 args ch :=
  PPC_of Tryd.func21 rfl (by kernel_rfl) (rc := rc_ref01_Lost) (by kernel_rfl) hn (fun R _ hG => h R hG)

def rc_ref01_Inside : RCode :=
  .seq (.reg 0 false [
    { d := some 2, op := .box (.t 0) },
    { d := some 3, op := .box (.t 1) },
    { d := some 4, op := .mov (.c (.bool false)) },
    { d := some 5, op := .mov (.c (.int .i64 0)) }])
  (.seq (.seq (.reg 1 false [
    { d := some 6, op := .load true 3 (.t 2) },
    { d := some 7, op := .call 42 [.t 6] },
    { d := some 8, op := .un .not (.t 7) },
    { d := some 9, op := .mov (.t 8) },
    { d := some 10, op := .load true 3 (.t 3), guard := some (9, false) },
    { d := some 11, op := .call 42 [.t 10], guard := some (9, false) },
    { d := some 12, op := .un .not (.t 11), guard := some (9, false) },
    { d := some 13, op := .pick (.t 9) (.c (.bool true)) (.t 12) }])
  (.cond (.t 13)
    (.seq (.reg 2 false [
      { d := some 4, op := .mov (.c (.bool false)) },
      { d := some 5, op := .mov (.c (.int .i64 10)) }])
    (.ret))
    (.skip)))
  (.seq (.reg 3 false [
    { d := some 14, op := .faddr 1 (.t 2) },
    { d := some 15, op := .load false 1 (.t 14) },
    { d := some 16, op := .faddr 1 (.t 3) },
    { d := some 17, op := .load false 1 (.t 16) },
    { d := some 18, op := .bin .geq (.t 15) (.t 17) },
    { d := some 19, op := .mov (.t 18) },
    { d := some 20, op := .faddr 2 (.t 2), guard := some (19, true) },
    { d := some 21, op := .load false 1 (.t 20), guard := some (19, true) },
    { d := some 22, op := .faddr 2 (.t 3), guard := some (19, true) },
    { d := some 23, op := .load false 1 (.t 22), guard := some (19, true) },
    { d := some 24, op := .bin .leq (.t 21) (.t 23), guard := some (19, true) },
    { d := some 25, op := .pick (.t 19) (.t 24) (.c (.bool false)) },
    { d := some 4, op := .mov (.t 25) },
    { d := some 5, op := .mov (.c (.int .i64 0)) }])
  (.ret)))
def rr_ref01_Inside : List RRes := [.t 4, .t 5]
theorem pc_ref01_Inside {G : Nat → Option (List AV)} {args : List AV} {v : AV} (hn : args.length ≤ Tryd.f23.ntmps) (h : ∀ R : Run, R.G = G → AR Tryd.prog R rc_ref01_Inside (initSt args) (Fin rr_ref01_Inside v)) : PC Tryd.prog G 23 args v :=
  PC_of Tryd.func23 rfl (by kernel_rfl) (rc := rc_ref01_Inside) (by kernel_rfl) (rs := rr_ref01_Inside) (by kernel_rfl) hn (fun R _ hG => h R hG)

theorem pb_ref01_Inside {G : Nat → Option (List AV)} {objs objs' : List (Nat × AObj)} {args : List AV} {v : AV} (hn : args.length ≤ Tryd.f23.ntmps) (h : ∀ R : Run, R.G = G → AR Tryd.prog R rc_ref01_Inside ⟨iniT 0 args, objs⟩ (FinB rr_ref01_Inside v objs')) : PB Tryd.prog G 23 objs args v objs' :=
  PB_of Tryd.func23 rfl (by kernel_rfl) (rc := rc_ref01_Inside) (by kernel_rfl) (rs := rr_ref01_Inside) (by kernel_rfl) hn (fun R _ hG => h R hG)

theorem pp_ref01_Inside {G : Nat → Option (List AV)} {args : List AV} {ch : List PanicEntry} (hn : args.length ≤ Tryd.f23.ntmps) (h : ∀ R : Run, R.G = G → AR Tryd.prog R rc_ref01_Inside (initSt args) (FinP ch)) : PPC Tryd.prog G 23 args ch :=
  PPC_of Tryd.func23 rfl (by kernel_rfl) (rc := rc_ref01_Inside) (by kernel_rfl) hn (fun R _ hG => h R hG)

def rc_ref01_Fit : RCode :=
  .seq (.reg 0 false [
    { d := some 2, op := .box (.t 0) },
    { d := some 3, op := .box (.t 1) },
    { d := some 4, op := .alloc [.int .i64 0, .int .i64 0] },
    { d := some 5, op := .mov (.c (.int .u8 0)) },
    { d := some 6, op := .mov (.c (.int .i64 0)) }])
  (.seq (.seq (.reg 1 false [
    { d := some 8, op := .load true 3 (.t 2) },
    { d := some 9, op := .call 42 [.t 8] },
    { d := some 10, op := .un .not (.t 9) },
    { d := some 11, op := .mov (.t 10) },
    { d := some 12, op := .load true 3 (.t 3), guard := some (11, false) },
    { d := some 13, op := .call 42 [.t 12], guard := some (11, false) },
    { d := some 14, op := .un .not (.t 13), guard := some (11, false) },
    { d := some 15, op := .pick (.t 11) (.c (.bool true)) (.t 14) }])
  (.cond (.t 15)
    (.seq (.reg 2 false [
      { d := some 16, op := .build [.int .i64 0, .int .i64 0] [] },
      { d := none, op := .store 2 (.t 4) (.t 16) },
      { d := some 5, op := .mov (.c (.int .u8 0)) },
      { d := some 6, op := .mov (.c (.int .i64 10)) }])
    (.ret))
    (.skip)))
  (.seq (.reg 3 false [
    { d := some 17, op := .faddr 1 (.t 2) },
    { d := some 18, op := .load false 1 (.t 17) },
    { d := some 19, op := .faddr 2 (.t 3) },
    { d := some 20, op := .load false 1 (.t 19) },
    { d := some 21, op := .bin .sub (.t 18) (.t 20) },
    { d := some 22, op := .faddr 2 (.t 2) },
    { d := some 23, op := .load false 1 (.t 22) },
    { d := some 24, op := .faddr 1 (.t 3) },
    { d := some 25, op := .load false 1 (.t 24) },
    { d := some 26, op := .bin .sub (.t 23) (.t 25) },
    { d := some 27, op := .build [.int .i64 0, .int .i64 0] [(0, 1, .t 21), (1, 1, .t 26)] },
    { d := some 7, op := .alloc [.int .i64 0, .int .i64 0] },
    { d := none, op := .store 2 (.t 7) (.t 27) }])
  (.seq (.block 0
    (.seq (.reg 4 false [
      { d := some 29, op := .faddr 0 (.t 7) },
      { d := some 30, op := .load false 1 (.t 29) },
      { d := some 31, op := .bin .geq (.t 30) (.c (.int .i64 0)) },
      { d := some 28, op := .mov (.t 31) }])
    (.cond (.t 28)
      (.seq (.reg 5 false [
        { d := some 32, op := .load true 2 (.t 7) },
        { d := none, op := .store 2 (.t 4) (.t 32) },
        { d := some 5, op := .mov (.c (.int .u8 1)) },
        { d := some 6, op := .mov (.c (.int .i64 0)) }])
      (.ret))
      (.seq (.reg 6 false [
        { d := some 34, op := .faddr 1 (.t 7) },
        { d := some 35, op := .load false 1 (.t 34) },
        { d := some 36, op := .bin .leq (.t 35) (.c (.int .i64 0)) },
        { d := some 33, op := .mov (.t 36) }])
      (.cond (.t 33)
        (.seq (.reg 7 false [
          { d := some 37, op := .load true 2 (.t 7) },
          { d := none, op := .store 2 (.t 4) (.t 37) },
          { d := some 5, op := .mov (.c (.int .u8 2)) },
          { d := some 6, op := .mov (.c (.int .i64 0)) }])
        (.ret))
        (.skip))))))
  (.seq (.reg 8 false [
    { d := some 38, op := .load true 2 (.t 7) },
    { d := none, op := .store 2 (.t 4) (.t 38) },
    { d := some 5, op := .mov (.c (.int .u8 3)) },
    { d := some 6, op := .mov (.c (.int .i64 0)) }])
  (.ret)))))
def rr_ref01_Fit : List RRes := [.c 4 true 2, .t 5, .t 6]
theorem pc_ref01_Fit {G : Nat → Option (List AV)} {args : List AV} {v : AV} (hn : args.length ≤ Tryd.f25.ntmps) (h : ∀ R : Run, R.G = G → AR Tryd.prog R rc_ref01_Fit (initSt args) (Fin rr_ref01_Fit v)) : PC Tryd.prog G 25 args v :=
  PC_of Tryd.func25 rfl (by kernel_rfl) (rc := rc_ref01_Fit) (by kernel_rfl) (rs := rr_ref01_Fit) (by kernel_rfl) hn (fun R _ hG => h R hG)

theorem pb_ref01_Fit {G : Nat → Option (List AV)} {objs objs' : List (Nat × AObj)} {args : List AV} {v : AV} (hn : args.length ≤ Tryd.f25.ntmps) (h : ∀ R : Run, R.G = G → AR Tryd.prog R rc_ref01_Fit ⟨iniT 0 args, objs⟩ (FinB rr_ref01_Fit v objs')) : PB Tryd.prog G 25 objs args v objs' :=
  PB_of Tryd.func25 rfl (by kernel_rfl) (rc := rc_ref01_Fit) (by kernel_rfl) (rs := rr_ref01_Fit) (by kernel_rfl) hn (fun R _ hG => h R hG)

theorem pp_ref01_Fit {G : Nat → Option (List AV)} {args : List AV} {ch : List PanicEntry} (hn : args.length ≤ Tryd.f25.ntmps) (h : ∀ R : Run, R.G = G → AR Tryd.prog R rc_ref01_Fit (initSt args) (FinP ch)) : PPC Tryd.prog G 25 args ch :=
  PPC_of Tryd.func25 rfl (by kernel_rfl) (rc := rc_ref01_Fit) (by kernel_rfl) hn (fun R _ hG => h R hG)

def rc_ref01_Wanted : RCode :=
  .seq (.reg 0 false [
    { d := some 1, op := .box (.t 0) },
    { d := some 2, op := .mov (.c (.bool false)) }])
  (.seq (.reg 1 false [
    { d := some 3, op := .faddr 0 (.t 1) },
    { d := some 4, op := .load false 1 (.t 3) },
    { d := some 5, op := .call 61 [.t 4, .c (.int .i64 (-1000000000)), .c (.int .i64 1000000000)] },
    { d := some 6, op := .mov (.t 5) },
    { d := some 7, op := .faddr 1 (.t 1), guard := some (6, true) },
    { d := some 8, op := .load false 1 (.t 7), guard := some (6, true) },
    { d := some 9, op := .call 61 [.t 8, .c (.int .i64 (-1000000000)), .c (.int .i64 1000000000)], guard := some (6, true) },
    { d := some 10, op := .pick (.t 6) (.t 9) (.c (.bool false)) },
    { d := some 11, op := .mov (.t 10) },
    { d := some 12, op := .faddr 0 (.t 1), guard := some (11, true) },
    { d := some 13, op := .load false 1 (.t 12), guard := some (11, true) },
    { d := some 14, op := .faddr 1 (.t 1), guard := some (11, true) },
    { d := some 15, op := .load false 1 (.t 14), guard := some (11, true) },
    { d := some 16, op := .bin .leq (.t 13) (.t 15), guard := some (11, true) },
    { d := some 17, op := .pick (.t 11) (.t 16) (.c (.bool false)) },
    { d := some 2, op := .mov (.t 17) }])
  (.ret))
def rr_ref01_Wanted : List RRes := [.t 2]
theorem pc_ref01_Wanted {G : Nat → Option (List AV)} {args : List AV} {v : AV} (hn : args.length ≤ Tryd.f46.ntmps) (h : ∀ R : Run, R.G = G → AR Tryd.prog R rc_ref01_Wanted (initSt args) (Fin rr_ref01_Wanted v)) : PC Tryd.prog G 46 args v :=
  PC_of Tryd.func46 rfl (by kernel_rfl) (rc := rc_ref01_Wanted) (by kernel_rfl) (rs := rr_ref01_Wanted) (by kernel_rfl) hn (fun R _ hG => h R hG)

theorem pb_ref01_Wanted {G : Nat → Option (List AV)} {objs objs' : List (Nat × AObj)} {args : List AV} {v : AV} (hn : args.length ≤ Tryd.f46.ntmps) (h : ∀ R : Run, R.G = G → AR Tryd.prog R rc_ref01_Wanted ⟨iniT 0 args, objs⟩ (FinB rr_ref01_Wanted v objs')) : PB Tryd.prog G 46 objs args v objs' :=
  PB_of Tryd.func46 rfl (by kernel_rfl) (rc := rc_ref01_Wanted) (by kernel_rfl) (rs := rr_ref01_Wanted) (by kernel_rfl) hn (fun R _ hG => h R hG)

theorem pp_ref01_Wanted {G : Nat → Option (List AV)} {args : List AV} {ch : List PanicEntry} (hn : args.length ≤ Tryd.f46.ntmps) (h : ∀ R : Run, R.G = G → AR Tryd.prog R rc_ref01_Wanted (initSt args) (FinP ch)) : PPC Tryd.prog G 46 args ch :=
  PPC_of Tryd.func46 rfl (by kernel_rfl) (rc := rc_ref01_Wanted) (by kernel_rfl) hn (fun R _ hG => h R hG)

def rc_ref01_room : RCode :=
  .seq (.reg 0 false [
    { d := some 2, op := .box (.t 0) },
    { d := some 3, op := .box (.t 1) },
    { d := some 4, op := .alloc [.int .i64 0, .int .i64 0, .int .i64 0] },
    { d := some 5, op := .mov (.c (.bool false)) }])
  (.seq (.reg 1 false [
    { d := some 7, op := .faddr 0 (.t 2) },
    { d := some 8, op := .load false 1 (.t 7) },
    { d := some 9, op := .faddr 2 (.t 2) },
    { d := some 10, op := .load false 1 (.t 9) },
    { d := some 11, op := .faddr 1 (.t 3) },
    { d := some 12, op := .load false 1 (.t 11) },
    { d := some 13, op := .bin .sub (.t 10) (.t 12) },
    { d := some 14, op := .mx true (.c (.int .i64 0)) [.t 13] },
    { d := some 15, op := .faddr 1 (.t 2) },
    { d := some 16, op := .load false 1 (.t 15) },
    { d := some 17, op := .faddr 0 (.t 3) },
    { d := some 18, op := .load false 1 (.t 17) },
    { d := some 19, op := .bin .sub (.t 16) (.t 18) },
    { d := some 20, op := .mx false (.c (.int .i64 1000000000)) [.t 19] },
    { d := some 21, op := .build [.int .i64 0, .int .i64 0, .int .i64 0] [(0, 1, .t 8), (1, 1, .t 14), (2, 1, .t 20)] },
    { d := some 6, op := .alloc [.int .i64 0, .int .i64 0, .int .i64 0] },
    { d := none, op := .store 3 (.t 6) (.t 21) }])
  (.seq (.reg 2 true [
    { d := some 22, op := .load true 3 (.t 6), aft := [] },
    { d := some 23, op := .faddr 1 (.t 6), aft := [] },
    { d := some 24, op := .load false 1 (.t 23), aft := [1] },
    { d := some 25, op := .faddr 2 (.t 6), aft := [] },
    { d := some 26, op := .load false 1 (.t 25), aft := [3] },
    { d := some 27, op := .bin .leq (.t 24) (.t 26), aft := [2, 4] },
    { d := none, op := .store 3 (.t 4) (.t 22), aft := [0, 0] },
    { d := some 5, op := .mov (.t 27), aft := [5, 6, 0, 1, 2, 3, 4, 5, 6] }])
  (.ret)))
def rr_ref01_room : List RRes := [.c 4 true 3, .t 5]
theorem pc_ref01_room {G : Nat → Option (List AV)} {args : List AV} {v : AV} (hn : args.length ≤ Tryd.f59.ntmps) (h : ∀ R : Run, R.G = G → AR Tryd.prog R rc_ref01_room (initSt args) (Fin rr_ref01_room v)) : PC Tryd.prog G 59 args v :=
  PC_of Tryd.func59 rfl (by kernel_rfl) (rc := rc_ref01_room) (by kernel_rfl) (rs := rr_ref01_room) (by kernel_rfl) hn (fun R _ hG => h R hG)

theorem pb_ref01_room {G : Nat → Option (List AV)} {objs objs' : List (Nat × AObj)} {args : List AV} {v : AV} (hn : args.length ≤ Tryd.f59.ntmps) (h : ∀ R : Run, R.G = G → AR Tryd.prog R rc_ref01_room ⟨iniT 0 args, objs⟩ (FinB rr_ref01_room v objs')) : PB Tryd.prog G 59 objs args v objs' :=
  PB_of Tryd.func59 rfl (by kernel_rfl) (rc := rc_ref01_room) (by kernel_rfl) (rs := rr_ref01_room) (by kernel_rfl) hn (fun R _ hG => h R hG)

theorem pp_ref01_room {G : Nat → Option (List AV)} {args : List AV} {ch : List PanicEntry} (hn : args.length ≤ Tryd.f59.ntmps) (h : ∀ R : Run, R.G = G → AR Tryd.prog R rc_ref01_room (initSt args) (FinP ch)) : PPC Tryd.prog G 59 args ch :=
  PPC_of Tryd.func59 rfl (by kernel_rfl) (rc := rc_ref01_room) (by kernel_rfl) hn (fun R _ hG => h R hG)

def rc_ref01_Room : RCode :=
  .seq (.reg 0 false [
    { d := some 2, op := .box (.t 0) },
    { d := some 3, op := .box (.t 1) },
    { d := some 4, op := .alloc [.int .i64 0, .int .i64 0, .int .i64 0] },
    { d := some 5, op := .mov (.c (.int .i64 0)) }])
  (.seq (.seq (.reg 1 false [
    { d := some 8, op := .load true 3 (.t 2) },
    { d := some 9, op := .call 42 [.t 8] },
    { d := some 10, op := .un .not (.t 9) }])
  (.cond (.t 10)
    (.seq (.reg 2 false [
      { d := some 11, op := .build [.int .i64 0, .int .i64 0, .int .i64 0] [] },
      { d := none, op := .store 3 (.t 4) (.t 11) },
      { d := some 5, op := .mov (.c (.int .i64 10)) }])
    (.ret))
    (.skip)))
  (.seq (.seq (.reg 3 false [
    { d := some 12, op := .load true 2 (.t 3) },
    { d := some 13, op := .call 46 [.t 12] },
    { d := some 14, op := .un .not (.t 13) }])
  (.cond (.t 14)
    (.seq (.reg 4 false [
      { d := some 15, op := .build [.int .i64 0, .int .i64 0, .int .i64 0] [] },
      { d := none, op := .store 3 (.t 4) (.t 15) },
      { d := some 5, op := .mov (.c (.int .i64 2)) }])
    (.ret))
    (.skip)))
  (.seq (.reg 5 false [
    { d := some 17, op := .load true 3 (.t 2) },
    { d := some 18, op := .load true 2 (.t 3) },
    { d := some 19, op := .call 59 [.t 17, .t 18] },
    { d := some 16, op := .mov (.t 19) },
    { d := some 20, op := .ext 0 (.t 16) },
    { d := some 21, op := .ext 1 (.t 16) },
    { d := some 6, op := .alloc [.int .i64 0, .int .i64 0, .int .i64 0] },
    { d := none, op := .store 3 (.t 6) (.t 20) },
    { d := some 7, op := .mov (.t 21) }])
  (.seq (.seq (.reg 6 false [
    { d := some 22, op := .mov (.t 7) },
    { d := some 23, op := .un .not (.t 22) }])
  (.cond (.t 23)
    (.seq (.reg 7 false [
      { d := some 24, op := .build [.int .i64 0, .int .i64 0, .int .i64 0] [] },
      { d := none, op := .store 3 (.t 4) (.t 24) },
      { d := some 5, op := .mov (.c (.int .i64 6)) }])
    (.ret))
    (.skip)))
  (.seq (.reg 8 false [
    { d := some 25, op := .load true 3 (.t 6) },
    { d := none, op := .store 3 (.t 4) (.t 25) },
    { d := some 5, op := .mov (.c (.int .i64 0)) }])
  (.ret))))))
def rr_ref01_Room : List RRes := [.c 4 true 3, .t 5]
theorem pc_ref01_Room {G : Nat → Option (List AV)} {args : List AV} {v : AV} (hn : args.length ≤ Tryd.f27.ntmps) (h : ∀ R : Run, R.G = G → AR Tryd.prog R rc_ref01_Room (initSt args) (Fin rr_ref01_Room v)) : PC Tryd.prog G 27 args v :=
  PC_of Tryd.func27 rfl (by kernel_rfl) (rc := rc_ref01_Room) (by kernel_rfl) (rs := rr_ref01_Room) (by kernel_rfl) hn (fun R _ hG => h R hG)

theorem pb_ref01_Room {G : Nat → Option (List AV)} {objs objs' : List (Nat × AObj)} {args : List AV} {v : AV} (hn : args.length ≤ Tryd.f27.ntmps) (h : ∀ R : Run, R.G = G → AR Tryd.prog R rc_ref01_Room ⟨iniT 0 args, objs⟩ (FinB rr_ref01_Room v objs')) : PB Tryd.prog G 27 objs args v objs' :=
  PB_of Tryd.func27 rfl (by kernel_rfl) (rc := rc_ref01_Room) (by kernel_rfl) (rs := rr_ref01_Room) (by kernel_rfl) hn (fun R _ hG => h R hG)

theorem pp_ref01_Room {G : Nat → Option (List AV)} {args : List AV} {ch : List PanicEntry} (hn : args.length ≤ Tryd.f27.ntmps) (h : ∀ R : Run, R.G = G → AR Tryd.prog R rc_ref01_Room (initSt args) (FinP ch)) : PPC Tryd.prog G 27 args ch :=
  PPC_of Tryd.func27 rfl (by kernel_rfl) (rc := rc_ref01_Room) (by kernel_rfl) hn (fun R _ hG => h R hG)

def rc_ref01_Share : RCode :=
  .seq (.reg 0 false [
    { d := some 4, op := .box (.t 1) },
    { d := some 6, op := .alloc [.int .i64 0, .int .i64 0, .int .i64 0] },
    { d := some 7, op := .alloc [.int .i64 0, .int .i64 0, .int .i64 0] },
    { d := some 8, op := .mov (.c (.int .i64 0)) }])
  (.seq (.reg 1 false [
    { d := some 14, op := .mov (.t 2) },
    { d := some 15, op := .call 50 [.t 14] },
    { d := some 9, op := .mov (.t 15) }])
  (.seq (.block 0
    (.seq (.reg 2 false [
      { d := some 17, op := .mov (.t 0) },
      { d := some 18, op := .call 61 [.t 17, .c (.int .i64 0), .c (.int .i64 1000000000)] },
      { d := some 19, op := .un .not (.t 18) },
      { d := some 20, op := .mov (.t 19) },
      { d := some 21, op := .load true 2 (.t 4), guard := some (20, false) },
      { d := some 22, op := .call 46 [.t 21], guard := some (20, false) },
      { d := some 23, op := .un .not (.t 22), guard := some (20, false) },
      { d := some 24, op := .pick (.t 20) (.c (.bool true)) (.t 23) },
      { d := some 16, op := .mov (.t 24) }])
    (.cond (.t 16)
      (.seq (.reg 3 false [
        { d := some 25, op := .build [.int .i64 0, .int .i64 0, .int .i64 0] [] },
        { d := some 26, op := .build [.int .i64 0, .int .i64 0, .int .i64 0] [] },
        { d := none, op := .store 3 (.t 6) (.t 25) },
        { d := none, op := .store 3 (.t 7) (.t 26) },
        { d := some 8, op := .mov (.c (.int .i64 2)) }])
      (.ret))
      (.seq (.reg 4 false [
        { d := some 28, op := .mov (.t 9) },
        { d := some 29, op := .bin .eql (.t 28) (.c (.int .i64 0)) },
        { d := some 27, op := .mov (.t 29) }])
      (.cond (.t 27)
        (.seq (.reg 5 false [
          { d := some 30, op := .build [.int .i64 0, .int .i64 0, .int .i64 0] [] },
          { d := some 31, op := .build [.int .i64 0, .int .i64 0, .int .i64 0] [] },
          { d := none, op := .store 3 (.t 6) (.t 30) },
          { d := none, op := .store 3 (.t 7) (.t 31) },
          { d := some 8, op := .mov (.c (.int .i64 11)) }])
        (.ret))
        (.seq (.reg 6 false [
          { d := some 33, op := .mov (.t 0) },
          { d := some 34, op := .mov (.t 9) },
          { d := some 35, op := .bin .rem (.t 33) (.t 34) },
          { d := some 36, op := .bin .neq (.t 35) (.c (.int .i64 0)) },
          { d := some 32, op := .mov (.t 36) }])
        (.cond (.t 32)
          (.seq (.reg 7 false [
            { d := some 37, op := .build [.int .i64 0, .int .i64 0, .int .i64 0] [] },
            { d := some 38, op := .build [.int .i64 0, .int .i64 0, .int .i64 0] [] },
            { d := none, op := .store 3 (.t 6) (.t 37) },
            { d := none, op := .store 3 (.t 7) (.t 38) },
            { d := some 8, op := .mov (.c (.int .i64 12)) }])
          (.ret))
          (.skip))))))))
  (.seq (.reg 8 false [
    { d := some 39, op := .mov (.t 0) },
    { d := some 40, op := .mov (.t 0) },
    { d := some 41, op := .mov (.t 0) },
    { d := some 42, op := .faddr 1 (.t 4) },
    { d := some 43, op := .load false 1 (.t 42) },
    { d := some 44, op := .faddr 0 (.t 4) },
    { d := some 45, op := .load false 1 (.t 44) },
    { d := some 46, op := .bin .sub (.t 43) (.t 45) },
    { d := some 47, op := .bin .quo (.t 46) (.c (.int .i64 2)) },
    { d := some 48, op := .mov (.t 9) },
    { d := some 49, op := .bin .quo (.t 47) (.t 48) },
    { d := some 50, op := .mov (.t 9) },
    { d := some 51, op := .bin .mul (.t 49) (.t 50) },
    { d := some 52, op := .bin .add (.t 41) (.t 51) },
    { d := some 53, op := .build [.int .i64 0, .int .i64 0, .int .i64 0] [(0, 1, .t 39), (1, 1, .t 40), (2, 1, .t 52)] },
    { d := some 10, op := .alloc [.int .i64 0, .int .i64 0, .int .i64 0] },
    { d := none, op := .store 3 (.t 10) (.t 53) }])
  (.seq (.seq (.reg 9 false [
    { d := some 54, op := .faddr 2 (.t 10) },
    { d := some 55, op := .load false 1 (.t 54) },
    { d := some 56, op := .bin .gtr (.t 55) (.c (.int .i64 1000000000)) }])
  (.cond (.t 56)
    (.seq (.reg 10 false [
      { d := some 57, op := .build [.int .i64 0, .int .i64 0, .int .i64 0] [] },
      { d := some 58, op := .build [.int .i64 0, .int .i64 0, .int .i64 0] [] },
      { d := none, op := .store 3 (.t 6) (.t 57) },
      { d := none, op := .store 3 (.t 7) (.t 58) },
      { d := some 8, op := .mov (.c (.int .i64 6)) }])
    (.ret))
    (.skip)))
  (.seq (.reg 11 false [
    { d := some 60, op := .load true 3 (.t 10) },
    { d := some 61, op := .load true 2 (.t 4) },
    { d := some 62, op := .call 59 [.t 60, .t 61] },
    { d := some 59, op := .mov (.t 62) },
    { d := some 63, op := .ext 0 (.t 59) },
    { d := some 64, op := .ext 1 (.t 59) },
    { d := some 11, op := .alloc [.int .i64 0, .int .i64 0, .int .i64 0] },
    { d := none, op := .store 3 (.t 11) (.t 63) },
    { d := some 12, op := .mov (.t 64) }])
  (.seq (.seq (.reg 12 false [
    { d := some 65, op := .mov (.t 12) },
    { d := some 66, op := .un .not (.t 65) }])
  (.cond (.t 66)
    (.seq (.reg 13 false [
      { d := some 67, op := .build [.int .i64 0, .int .i64 0, .int .i64 0] [] },
      { d := some 68, op := .build [.int .i64 0, .int .i64 0, .int .i64 0] [] },
      { d := none, op := .store 3 (.t 6) (.t 67) },
      { d := none, op := .store 3 (.t 7) (.t 68) },
      { d := some 8, op := .mov (.c (.int .i64 6)) }])
    (.ret))
    (.skip)))
  (.seq (.reg 14 false [
    { d := some 70, op := .load true 3 (.t 11) },
    { d := some 71, op := .mov (.t 9) },
    { d := some 72, op := .call 51 [.t 70, .t 71] },
    { d := some 69, op := .mov (.t 72) },
    { d := some 73, op := .ext 0 (.t 69) },
    { d := some 74, op := .ext 1 (.t 69) },
    { d := some 13, op := .alloc [.int .i64 0, .int .i64 0, .int .i64 0] },
    { d := none, op := .store 3 (.t 13) (.t 73) },
    { d := some 12, op := .mov (.t 74) }])
  (.seq (.seq (.reg 15 false [
    { d := some 75, op := .mov (.t 12) },
    { d := some 76, op := .un .not (.t 75) }])
  (.cond (.t 76)
    (.seq (.reg 16 false [
      { d := some 77, op := .build [.int .i64 0, .int .i64 0, .int .i64 0] [] },
      { d := some 78, op := .build [.int .i64 0, .int .i64 0, .int .i64 0] [] },
      { d := none, op := .store 3 (.t 6) (.t 77) },
      { d := none, op := .store 3 (.t 7) (.t 78) },
      { d := some 8, op := .mov (.c (.int .i64 6)) }])
    (.ret))
    (.skip)))
  (.seq (.reg 17 true [
    { d := some 79, op := .load true 3 (.t 10), aft := [] },
    { d := some 80, op := .load true 3 (.t 13), aft := [] },
    { d := none, op := .store 3 (.t 6) (.t 79), aft := [0, 0] },
    { d := none, op := .store 3 (.t 7) (.t 80), aft := [1, 2, 0, 1, 2] },
    { d := some 8, op := .mov (.c (.int .i64 0)), aft := [3, 0, 1, 2, 3] }])
  (.ret))))))))))
def rr_ref01_Share : List RRes := [.c 6 true 3, .c 7 true 3, .t 8]
theorem pc_ref01_Share {G : Nat → Option (List AV)} {args : List AV} {v : AV} (hn : args.length ≤ Tryd.f29.ntmps) (h : ∀ R : Run, R.G = G → AR Tryd.prog R rc_ref01_Share (initSt args) (Fin rr_ref01_Share v)) : PC Tryd.prog G 29 args v :=
  PC_of Tryd.func29 rfl (by kernel_rfl) (rc := rc_ref01_Share) (by kernel_rfl) (rs := rr_ref01_Share) (by kernel_rfl) hn (fun R _ hG => h R hG)

theorem pb_ref01_Share {G : Nat → Option (List AV)} {objs objs' : List (Nat × AObj)} {args : List AV} {v : AV} (hn : args.length ≤ Tryd.f29.ntmps) (h : ∀ R : Run, R.G = G → AR Tryd.prog R rc_ref01_Share ⟨iniT 0 args, objs⟩ (FinB rr_ref01_Share v objs')) : PB Tryd.prog G 29 objs args v objs' :=
  PB_of Tryd.func29 rfl (by kernel_rfl) (rc := rc_ref01_Share) (by kernel_rfl) (rs := rr_ref01_Share) (by kernel_rfl) hn (fun R _ hG => h R hG)

theorem pp_ref01_Share {G : Nat → Option (List AV)} {args : List AV} {ch : List PanicEntry} (hn : args.length ≤ Tryd.f29.ntmps) (h : ∀ R : Run, R.G = G → AR Tryd.prog R rc_ref01_Share (initSt args) (FinP ch)) : PPC Tryd.prog G 29 args ch :=
  PPC_of Tryd.func29 rfl (by kernel_rfl) (rc := rc_ref01_Share) (by kernel_rfl) hn (fun R _ hG => h R hG)

def rc_ref01_Meet : RCode :=
  .seq (.reg 0 false [
    { d := some 2, op := .alloc [.int .i64 0, .int .i64 0] },
    { d := some 3, op := .mov (.c (.int .i64 0)) }])
  (.seq (.seq (.reg 1 false [
    { d := some 7, op := .mov (.t 0) },
    { d := some 8, op := .len (.t 7) },
    { d := some 9, op := .bin .gtr (.t 8) (.c (.int .i64 20)) }])
  (.cond (.t 9)
    (.seq (.reg 2 false [
      { d := some 10, op := .build [.int .i64 0, .int .i64 0] [] },
      { d := none, op := .store 2 (.t 2) (.t 10) },
      { d := some 3, op := .mov (.c (.int .i64 4)) }])
    (.ret))
    (.skip)))
  (.seq (.seq (.reg 3 false [
    { d := some 4, op := .mov (.c (.int .i64 0)) }])
  (.block 0
    (.loop
      (.seq (.seq (.reg 4 false [
        { d := some 11, op := .mov (.t 4) },
        { d := some 12, op := .mov (.t 0) },
        { d := some 13, op := .len (.t 12) },
        { d := some 14, op := .bin .lss (.t 11) (.t 13) }])
      (.cond (.t 14)
        (.skip)
        (.exit 0)))
      (.seq (.block 1
        (.seq (.reg 6 false [
          { d := some 17, op := .mov (.t 0) },
          { d := some 18, op := .mov (.t 4) },
          { d := some 19, op := .iaddr 3 (.t 17) (.t 18) },
          { d := some 20, op := .load true 3 (.t 19) },
          { d := some 21, op := .call 42 [.t 20] },
          { d := some 22, op := .un .not (.t 21) }])
        (.cond (.t 22)
          (.seq (.reg 7 false [
            { d := some 23, op := .build [.int .i64 0, .int .i64 0] [] },
            { d := none, op := .store 2 (.t 2) (.t 23) },
            { d := some 3, op := .mov (.c (.int .i64 10)) }])
          (.ret))
          (.skip))))
      (.reg 5 false [
        { d := some 15, op := .mov (.t 4) },
        { d := some 16, op := .bin .add (.t 15) (.c (.int .i64 1)) },
        { d := some 4, op := .mov (.t 16) }]))))))
  (.seq (.reg 8 false [
    { d := some 24, op := .build [.int .i64 0, .int .i64 0] [(0, 1, .c (.int .i64 0)), (1, 1, .c (.int .i64 1000000000))] },
    { d := some 5, op := .alloc [.int .i64 0, .int .i64 0] },
    { d := none, op := .store 2 (.t 5) (.t 24) }])
  (.seq (.seq (.reg 9 false [
    { d := some 6, op := .mov (.c (.int .i64 0)) }])
  (.block 2
    (.loop
      (.seq (.seq (.reg 10 false [
        { d := some 25, op := .mov (.t 6) },
        { d := some 26, op := .mov (.t 0) },
        { d := some 27, op := .len (.t 26) },
        { d := some 28, op := .bin .lss (.t 25) (.t 27) }])
      (.cond (.t 28)
        (.skip)
        (.exit 2)))
      (.seq (.block 3
        (.reg 12 true [
          { d := some 31, op := .faddr 0 (.t 5), aft := [] },
          { d := some 32, op := .load false 1 (.t 31), aft := [0] },
          { d := some 33, op := .mov (.t 0), aft := [] },
          { d := some 34, op := .mov (.t 6), aft := [] },
          { d := some 35, op := .iaddr 3 (.t 33) (.t 34), aft := [2, 3] },
          { d := some 36, op := .faddr 1 (.t 35), aft := [4] },
          { d := some 37, op := .load false 1 (.t 36), aft := [5] },
          { d := some 38, op := .mx true (.t 32) [.t 37], aft := [1, 6] },
          { d := some 39, op := .faddr 1 (.t 5), aft := [] },
          { d := some 40, op := .load false 1 (.t 39), aft := [8] },
          { d := some 41, op := .mov (.t 0), aft := [] },
          { d := some 42, op := .mov (.t 6), aft := [] },
          { d := some 43, op := .iaddr 3 (.t 41) (.t 42), aft := [10, 11] },
          { d := some 44, op := .faddr 2 (.t 43), aft := [12] },
          { d := some 45, op := .load false 1 (.t 44), aft := [13] },
          { d := some 46, op := .mx false (.t 40) [.t 45], aft := [9, 14] },
          { d := some 47, op := .build [.int .i64 0, .int .i64 0] [(0, 1, .t 38), (1, 1, .t 46)], aft := [7, 15] },
          { d := none, op := .store 2 (.t 5) (.t 47), aft := [16, 0, 1, 2, 3, 4, 5, 6, 7, 8, 9, 10, 11, 12, 13, 14, 15, 16] }]))
      (.reg 11 false [
        { d := some 29, op := .mov (.t 6) },
        { d := some 30, op := .bin .add (.t 29) (.c (.int .i64 1)) },
        { d := some 6, op := .mov (.t 30) }]))))))
  (.seq (.seq (.reg 13 false [
    { d := some 48, op := .mov (.t 0) },
    { d := some 49, op := .len (.t 48) },
    { d := some 50, op := .bin .eql (.t 49) (.c (.int .i64 0)) },
    { d := some 51, op := .mov (.t 50) },
    { d := some 52, op := .faddr 0 (.t 5), guard := some (51, false) },
    { d := some 53, op := .load false 1 (.t 52), guard := some (51, false) },
    { d := some 54, op := .faddr 1 (.t 5), guard := some (51, false) },
    { d := some 55, op := .load false 1 (.t 54), guard := some (51, false) },
    { d := some 56, op := .bin .gtr (.t 53) (.t 55), guard := some (51, false) },
    { d := some 57, op := .pick (.t 51) (.c (.bool true)) (.t 56) }])
  (.cond (.t 57)
    (.seq (.reg 14 false [
      { d := some 58, op := .build [.int .i64 0, .int .i64 0] [] },
      { d := none, op := .store 2 (.t 2) (.t 58) },
      { d := some 3, op := .mov (.c (.int .i64 6)) }])
    (.ret))
    (.skip)))
  (.seq (.reg 15 false [
    { d := some 59, op := .load true 2 (.t 5) },
    { d := none, op := .store 2 (.t 2) (.t 59) },
    { d := some 3, op := .mov (.c (.int .i64 0)) }])
  (.ret)))))))
def rr_ref01_Meet : List RRes := [.c 2 true 2, .t 3]
theorem pc_ref01_Meet {G : Nat → Option (List AV)} {args : List AV} {v : AV} (hn : args.length ≤ Tryd.f31.ntmps) (h : ∀ R : Run, R.G = G → AR Tryd.prog R rc_ref01_Meet (initSt args) (Fin rr_ref01_Meet v)) : PC Tryd.prog G 31 args v :=
  PC_of Tryd.func31 rfl (by kernel_rfl) (rc := rc_ref01_Meet) (by kernel_rfl) (rs := rr_ref01_Meet) (by kernel_rfl) hn (fun R _ hG => h R hG)

theorem pb_ref01_Meet {G : Nat → Option (List AV)} {objs objs' : List (Nat × AObj)} {args : List AV} {v : AV} (hn : args.length ≤ Tryd.f31.ntmps) (h : ∀ R : Run, R.G = G → AR Tryd.prog R rc_ref01_Meet ⟨iniT 0 args, objs⟩ (FinB rr_ref01_Meet v objs')) : PB Tryd.prog G 31 objs args v objs' :=
  PB_of Tryd.func31 rfl (by kernel_rfl) (rc := rc_ref01_Meet) (by kernel_rfl) (rs := rr_ref01_Meet) (by kernel_rfl) hn (fun R _ hG => h R hG)

theorem pp_ref01_Meet {G : Nat → Option (List AV)} {args : List AV} {ch : List PanicEntry} (hn : args.length ≤ Tryd.f31.ntmps) (h : ∀ R : Run, R.G = G → AR Tryd.prog R rc_ref01_Meet (initSt args) (FinP ch)) : PPC Tryd.prog G 31 args ch :=
  PPC_of Tryd.func31 rfl (by kernel_rfl) (rc := rc_ref01_Meet) (by kernel_rfl) hn (fun R _ hG => h R hG)

def rc_ref01_Same : RCode :=
  .seq (.reg 0 false [
    { d := some 4, op := .mov (.c (.bool false)) }])
  (.seq (.seq (.reg 1 false [
    { d := some 6, op := .mov (.t 0) },
    { d := some 7, op := .len (.t 6) },
    { d := some 8, op := .mov (.t 1) },
    { d := some 9, op := .len (.t 8) },
    { d := some 10, op := .bin .neq (.t 7) (.t 9) }])
  (.cond (.t 10)
    (.seq (.reg 2 false [
      { d := some 4, op := .mov (.c (.bool false)) }])
    (.ret))
    (.skip)))
  (.seq (.seq (.reg 3 false [
    { d := some 5, op := .mov (.c (.int .i64 0)) }])
  (.block 0
    (.loop
      (.seq (.seq (.reg 4 false [
        { d := some 11, op := .mov (.t 5) },
        { d := some 12, op := .mov (.t 0) },
        { d := some 13, op := .len (.t 12) },
        { d := some 14, op := .bin .lss (.t 11) (.t 13) }])
      (.cond (.t 14)
        (.skip)
        (.exit 0)))
      (.seq (.block 1
        (.seq (.reg 6 true [
          { d := some 17, op := .mov (.t 0), aft := [] },
          { d := some 18, op := .mov (.t 5), aft := [] },
          { d := some 19, op := .iaddr 3 (.t 17) (.t 18), aft := [0, 1] },
          { d := some 20, op := .load true 3 (.t 19), aft := [2] },
          { d := some 21, op := .mov (.t 1), aft := [] },
          { d := some 22, op := .mov (.t 5), aft := [] },
          { d := some 23, op := .iaddr 3 (.t 21) (.t 22), aft := [4, 5] },
          { d := some 24, op := .load true 3 (.t 23), aft := [6] },
          { d := some 25, op := .eqs true [.i, .i, .i] (.t 20) (.t 24), aft := [3, 7] }])
        (.cond (.t 25)
          (.seq (.reg 7 false [
            { d := some 4, op := .mov (.c (.bool false)) }])
          (.ret))
          (.skip))))
      (.reg 5 false [
        { d := some 15, op := .mov (.t 5) },
        { d := some 16, op := .bin .add (.t 15) (.c (.int .i64 1)) },
        { d := some 5, op := .mov (.t 16) }]))))))
  (.seq (.reg 8 false [
    { d := some 4, op := .mov (.c (.bool true)) }])
  (.ret))))
def rr_ref01_Same : List RRes := [.t 4]
theorem pc_ref01_Same {G : Nat → Option (List AV)} {args : List AV} {v : AV} (hn : args.length ≤ Tryd.f32.ntmps) (h : ∀ R : Run, R.G = G → AR Tryd.prog R rc_ref01_Same (initSt args) (Fin rr_ref01_Same v)) : PC Tryd.prog G 32 args v :=
  PC_of Tryd.func32 rfl (by kernel_rfl) (rc := rc_ref01_Same) (by kernel_rfl) (rs := rr_ref01_Same) (by kernel_rfl) hn (fun R _ hG => h R hG)

theorem pb_ref01_Same {G : Nat → Option (List AV)} {objs objs' : List (Nat × AObj)} {args : List AV} {v : AV} (hn : args.length ≤ Tryd.f32.ntmps) (h : ∀ R : Run, R.G = G → AR Tryd.prog R rc_ref01_Same ⟨iniT 0 args, objs⟩ (FinB rr_ref01_Same v objs')) : PB Tryd.prog G 32 objs args v objs' :=
  PB_of Tryd.func32 rfl (by kernel_rfl) (rc := rc_ref01_Same) (by kernel_rfl) (rs := rr_ref01_Same) (by kernel_rfl) hn (fun R _ hG => h R hG)

theorem pp_ref01_Same {G : Nat → Option (List AV)} {args : List AV} {ch : List PanicEntry} (hn : args.length ≤ Tryd.f32.ntmps) (h : ∀ R : Run, R.G = G → AR Tryd.prog R rc_ref01_Same (initSt args) (FinP ch)) : PPC Tryd.prog G 32 args ch :=
  PPC_of Tryd.func32 rfl (by kernel_rfl) (rc := rc_ref01_Same) (by kernel_rfl) hn (fun R _ hG => h R hG)

end Go.Proofs.YtikjooemblpnbaaDoor
