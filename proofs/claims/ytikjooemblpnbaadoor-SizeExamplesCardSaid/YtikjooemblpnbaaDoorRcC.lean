/-
  The abstract machine's code of functions of the program, as a program of ours printed it; that it is theirs is proved beside each.
-/
import Derived.Test.YtikjooemblpnbaaDoorAmL
import Derived.Test.YtikjooemblpnbaaDoorProg
namespace Go.Proofs.YtikjooemblpnbaaDoor
open Go.RowKit

def rc_slices_Reverse_byte_byte : RCode :=
  .seq (.reg 0 false [
    { d := some 4, op := .mov (.t 0) },
    { d := some 5, op := .len (.t 4) },
    { d := some 6, op := .bin .sub (.t 5) (.c (.int .i64 1)) },
    { d := some 2, op := .mov (.c (.int .i64 0)) },
    { d := some 3, op := .mov (.t 6) }])
  (.block 0
    (.loop
      (.seq (.seq (.reg 1 false [
        { d := some 7, op := .mov (.t 2) },
        { d := some 8, op := .mov (.t 3) },
        { d := some 9, op := .bin .lss (.t 7) (.t 8) }])
      (.cond (.t 9)
        (.skip)
        (.exit 0)))
      (.seq (.block 1
        (.reg 3 true [
          { d := some 14, op := .mov (.t 0), aft := [] },
          { d := some 15, op := .mov (.t 2), aft := [] },
          { d := some 16, op := .mov (.t 0), aft := [] },
          { d := some 17, op := .mov (.t 3), aft := [] },
          { d := some 18, op := .mov (.t 0), aft := [] },
          { d := some 19, op := .mov (.t 3), aft := [] },
          { d := some 20, op := .iaddr 1 (.t 18) (.t 19), aft := [4, 5] },
          { d := some 21, op := .load false 1 (.t 20), aft := [6] },
          { d := some 22, op := .mov (.t 0), aft := [] },
          { d := some 23, op := .mov (.t 2), aft := [] },
          { d := some 24, op := .iaddr 1 (.t 22) (.t 23), aft := [8, 9] },
          { d := some 25, op := .load false 1 (.t 24), aft := [10] },
          { d := some 26, op := .iaddr 1 (.t 14) (.t 15), aft := [0, 1, 0, 1, 4, 5, 6, 7, 11] },
          { d := none, op := .store 1 (.t 26) (.t 21), aft := [12, 7, 0, 1, 4, 5, 6, 7, 11] },
          { d := some 27, op := .iaddr 1 (.t 16) (.t 17), aft := [2, 3, 0, 1, 2, 3, 4, 5, 6, 7, 8, 9, 10, 11, 12, 13] },
          { d := none, op := .store 1 (.t 27) (.t 25), aft := [14, 11, 13, 0, 1, 2, 3, 4, 5, 6, 7, 8, 9, 10, 11, 12, 13] }]))
      (.reg 2 false [
        { d := some 10, op := .mov (.t 2) },
        { d := some 11, op := .bin .add (.t 10) (.c (.int .i64 1)) },
        { d := some 12, op := .mov (.t 3) },
        { d := some 13, op := .bin .sub (.t 12) (.c (.int .i64 1)) },
        { d := some 2, op := .mov (.t 11) },
        { d := some 3, op := .mov (.t 13) }])))))
def rr_slices_Reverse_byte_byte : List RRes := []
theorem pc_slices_Reverse_byte_byte {G : Nat → Option (List AV)} {args : List AV} {v : AV} (hn : args.length ≤ Tryd.f84.ntmps) (h : ∀ R : Run, R.G = G → AR Tryd.prog R rc_slices_Reverse_byte_byte (initSt args) (Fin rr_slices_Reverse_byte_byte v)) : PC Tryd.prog G 84 args v :=
  PC_of Tryd.func84 rfl (by kernel_rfl) (rc := rc_slices_Reverse_byte_byte) (by kernel_rfl) (rs := rr_slices_Reverse_byte_byte) (by kernel_rfl) hn (fun R _ hG => h R hG)

theorem pb_slices_Reverse_byte_byte {G : Nat → Option (List AV)} {objs objs' : List (Nat × AObj)} {args : List AV} {v : AV} (hn : args.length ≤ Tryd.f84.ntmps) (h : ∀ R : Run, R.G = G → AR Tryd.prog R rc_slices_Reverse_byte_byte ⟨iniT 0 args, objs⟩ (FinB rr_slices_Reverse_byte_byte v objs')) : PB Tryd.prog G 84 objs args v objs' :=
  PB_of Tryd.func84 rfl (by kernel_rfl) (rc := rc_slices_Reverse_byte_byte) (by kernel_rfl) (rs := rr_slices_Reverse_byte_byte) (by kernel_rfl) hn (fun R _ hG => h R hG)

theorem pp_slices_Reverse_byte_byte {G : Nat → Option (List AV)} {args : List AV} {ch : List PanicEntry} (hn : args.length ≤ Tryd.f84.ntmps) (h : ∀ R : Run, R.G = G → AR Tryd.prog R rc_slices_Reverse_byte_byte (initSt args) (FinP ch)) : PPC Tryd.prog G 84 args ch :=
  PPC_of Tryd.func84 rfl (by kernel_rfl) (rc := rc_slices_Reverse_byte_byte) (by kernel_rfl) hn (fun R _ hG => h R hG)

def rc_size_unit_decimal : RCode :=
  .seq (.reg 0 false [
    { d := some 2, op := .box (.t 0) },
    { d := some 4, op := .mov (.c (.str ⟨#[]⟩)) }])
  (.seq (.reg 1 false [
    { d := some 5, op := .mov (.c (.nils)) }])
  (.seq (.block 0
    (.loop
      (.seq (.seq (.reg 2 false [
        { d := some 7, op := .mov (.t 1) },
        { d := some 8, op := .bin .gtr (.t 7) (.c (.int .i64 0)) },
        { d := some 9, op := .mov (.t 8) },
        { d := some 10, op := .mov (.t 5), guard := some (9, false) },
        { d := some 11, op := .len (.t 10), guard := some (9, false) },
        { d := some 12, op := .faddr 1 (.t 2), guard := some (9, false) },
        { d := some 13, op := .load false 1 (.t 12), guard := some (9, false) },
        { d := some 14, op := .bin .leq (.t 11) (.t 13), guard := some (9, false) },
        { d := some 15, op := .pick (.t 9) (.c (.bool true)) (.t 14) }])
      (.cond (.t 15)
        (.skip)
        (.exit 0)))
      (.block 1
        (.seq (.reg 3 false [
          { d := some 16, op := .mov (.t 5) },
          { d := some 17, op := .mov (.t 1) },
          { d := some 18, op := .bin .rem (.t 17) (.c (.int .i64 10)) },
          { d := some 19, op := .bin .add (.c (.int .i64 48)) (.t 18) },
          { d := some 20, op := .conv .u8 (.t 19) },
          { d := some 21, op := .bsl false 1 1 [.int .u8 0] [(0, .t 20)] },
          { d := some 22, op := .app 1 1 (.t 16) (.t 21) },
          { d := some 5, op := .mov (.t 22) }])
        (.reg 4 false [
          { d := some 23, op := .mov (.t 1) },
          { d := some 24, op := .bin .quo (.t 23) (.c (.int .i64 10)) },
          { d := some 1, op := .mov (.t 24) }]))))))
  (.seq (.reg 5 false [
    { d := some 25, op := .mov (.t 5) },
    { d := some 26, op := .call 84 [.t 25] }])
  (.seq (.reg 6 false [
    { d := some 27, op := .mov (.t 5) },
    { d := some 28, op := .len (.t 27) },
    { d := some 29, op := .faddr 1 (.t 2) },
    { d := some 30, op := .load false 1 (.t 29) },
    { d := some 31, op := .bin .sub (.t 28) (.t 30) },
    { d := some 6, op := .mov (.t 31) }])
  (.seq (.reg 7 true [
    { d := some 32, op := .mov (.t 5), aft := [] },
    { d := some 33, op := .mov (.t 6), aft := [] },
    { d := some 34, op := .slc 1 (.t 32) none (some (.t 33)), aft := [0, 1] },
    { d := some 35, op := .vop .b2s [(.t 34)], aft := [2] },
    { d := some 36, op := .bin .add (.t 35) (.c (.str ⟨#[46]⟩)), aft := [3] },
    { d := some 37, op := .mov (.t 5), aft := [] },
    { d := some 38, op := .mov (.t 6), aft := [] },
    { d := some 39, op := .slc 1 (.t 37) (some (.t 38)) none, aft := [5, 6] },
    { d := some 40, op := .vop .b2s [(.t 39)], aft := [7] },
    { d := some 41, op := .bin .add (.t 36) (.t 40), aft := [4, 8] },
    { d := some 4, op := .mov (.t 41), aft := [9, 0, 1, 2, 3, 4, 5, 6, 7, 8, 9] }])
  (.ret))))))
def rr_size_unit_decimal : List RRes := [.t 4]
theorem pc_size_unit_decimal {G : Nat → Option (List AV)} {args : List AV} {v : AV} (hn : args.length ≤ Tryd.f63.ntmps) (h : ∀ R : Run, R.G = G → AR Tryd.prog R rc_size_unit_decimal (initSt args) (Fin rr_size_unit_decimal v)) : PC Tryd.prog G 63 args v :=
  PC_of Tryd.func63 rfl (by kernel_rfl) (rc := rc_size_unit_decimal) (by kernel_rfl) (rs := rr_size_unit_decimal) (by kernel_rfl) hn (fun R _ hG => h R hG)

theorem pb_size_unit_decimal {G : Nat → Option (List AV)} {objs objs' : List (Nat × AObj)} {args : List AV} {v : AV} (hn : args.length ≤ Tryd.f63.ntmps) (h : ∀ R : Run, R.G = G → AR Tryd.prog R rc_size_unit_decimal ⟨iniT 0 args, objs⟩ (FinB rr_size_unit_decimal v objs')) : PB Tryd.prog G 63 objs args v objs' :=
  PB_of Tryd.func63 rfl (by kernel_rfl) (rc := rc_size_unit_decimal) (by kernel_rfl) (rs := rr_size_unit_decimal) (by kernel_rfl) hn (fun R _ hG => h R hG)

theorem pp_size_unit_decimal {G : Nat → Option (List AV)} {args : List AV} {ch : List PanicEntry} (hn : args.length ≤ Tryd.f63.ntmps) (h : ∀ R : Run, R.G = G → AR Tryd.prog R rc_size_unit_decimal (initSt args) (FinP ch)) : PPC Tryd.prog G 63 args ch :=
  PPC_of Tryd.func63 rfl (by kernel_rfl) (rc := rc_size_unit_decimal) (by kernel_rfl) hn (fun R _ hG => h R hG)

def rc_size_unit_signed : RCode :=
  .seq (.reg 0 false [
    { d := some 2, op := .box (.t 0) },
    { d := some 4, op := .mov (.c (.str ⟨#[]⟩)) }])
  (.seq (.seq (.reg 1 false [
    { d := some 5, op := .mov (.t 1) },
    { d := some 6, op := .bin .lss (.t 5) (.c (.int .i64 0)) }])
  (.cond (.t 6)
    (.seq (.reg 2 false [
      { d := some 7, op := .load true 4 (.t 2) },
      { d := some 8, op := .mov (.t 1) },
      { d := some 9, op := .un .neg (.t 8) },
      { d := some 10, op := .call 63 [.t 7, .t 9] },
      { d := some 11, op := .bin .add (.c (.str ⟨#[45]⟩)) (.t 10) },
      { d := some 4, op := .mov (.t 11) }])
    (.ret))
    (.skip)))
  (.seq (.reg 3 false [
    { d := some 12, op := .load true 4 (.t 2) },
    { d := some 13, op := .mov (.t 1) },
    { d := some 14, op := .call 63 [.t 12, .t 13] },
    { d := some 15, op := .bin .add (.c (.str ⟨#[43]⟩)) (.t 14) },
    { d := some 4, op := .mov (.t 15) }])
  (.ret)))
def rr_size_unit_signed : List RRes := [.t 4]
theorem pc_size_unit_signed {G : Nat → Option (List AV)} {args : List AV} {v : AV} (hn : args.length ≤ Tryd.f64.ntmps) (h : ∀ R : Run, R.G = G → AR Tryd.prog R rc_size_unit_signed (initSt args) (Fin rr_size_unit_signed v)) : PC Tryd.prog G 64 args v :=
  PC_of Tryd.func64 rfl (by kernel_rfl) (rc := rc_size_unit_signed) (by kernel_rfl) (rs := rr_size_unit_signed) (by kernel_rfl) hn (fun R _ hG => h R hG)

theorem pb_size_unit_signed {G : Nat → Option (List AV)} {objs objs' : List (Nat × AObj)} {args : List AV} {v : AV} (hn : args.length ≤ Tryd.f64.ntmps) (h : ∀ R : Run, R.G = G → AR Tryd.prog R rc_size_unit_signed ⟨iniT 0 args, objs⟩ (FinB rr_size_unit_signed v objs')) : PB Tryd.prog G 64 objs args v objs' :=
  PB_of Tryd.func64 rfl (by kernel_rfl) (rc := rc_size_unit_signed) (by kernel_rfl) (rs := rr_size_unit_signed) (by kernel_rfl) hn (fun R _ hG => h R hG)

theorem pp_size_unit_signed {G : Nat → Option (List AV)} {args : List AV} {ch : List PanicEntry} (hn : args.length ≤ Tryd.f64.ntmps) (h : ∀ R : Run, R.G = G → AR Tryd.prog R rc_size_unit_signed (initSt args) (FinP ch)) : PPC Tryd.prog G 64 args ch :=
  PPC_of Tryd.func64 rfl (by kernel_rfl) (rc := rc_size_unit_signed) (by kernel_rfl) hn (fun R _ hG => h R hG)

def rc_size_Write : RCode :=
  .seq (.reg 0 false [
    { d := some 2, op := .box (.t 0) },
    { d := some 4, op := .mov (.c (.str ⟨#[]⟩)) },
    { d := some 5, op := .mov (.c (.int .i64 0)) }])
  (.seq (.seq (.reg 1 false [
    { d := some 10, op := .load true 3 (.t 2) },
    { d := some 11, op := .call 39 [.t 10] },
    { d := some 6, op := .mov (.t 11) }])
  (.seq (.reg 2 false [
    { d := some 12, op := .mov (.t 6) },
    { d := some 13, op := .bin .neq (.t 12) (.c (.int .i64 0)) }])
  (.cond (.t 13)
    (.seq (.reg 3 false [
      { d := some 14, op := .mov (.t 6) },
      { d := some 4, op := .mov (.c (.str ⟨#[]⟩)) },
      { d := some 5, op := .mov (.t 14) }])
    (.ret))
    (.skip))))
  (.seq (.reg 4 false [
    { d := some 16, op := .mov (.t 1) },
    { d := some 17, op := .call 52 [.t 16] },
    { d := some 15, op := .mov (.t 17) },
    { d := some 18, op := .ext 0 (.t 15) },
    { d := some 19, op := .ext 1 (.t 15) },
    { d := some 7, op := .alloc [.int .i64 0, .int .i64 0, .str ⟨#[]⟩, .nilf] },
    { d := none, op := .store 4 (.t 7) (.t 18) },
    { d := some 8, op := .mov (.t 19) }])
  (.seq (.seq (.reg 5 false [
    { d := some 20, op := .mov (.t 8) },
    { d := some 21, op := .bin .neq (.t 20) (.c (.int .i64 0)) }])
  (.cond (.t 21)
    (.seq (.reg 6 false [
      { d := some 22, op := .mov (.t 8) },
      { d := some 4, op := .mov (.c (.str ⟨#[]⟩)) },
      { d := some 5, op := .mov (.t 22) }])
    (.ret))
    (.skip)))
  (.seq (.seq (.reg 7 false [
    { d := some 23, op := .load true 4 (.t 7) },
    { d := some 24, op := .faddr 0 (.t 2) },
    { d := some 25, op := .load false 1 (.t 24) },
    { d := some 26, op := .faddr 1 (.t 2) },
    { d := some 27, op := .load false 1 (.t 26) },
    { d := some 28, op := .faddr 2 (.t 2) },
    { d := some 29, op := .load false 1 (.t 28) },
    { d := some 30, op := .bsl false 1 3 [.int .i64 0, .int .i64 0, .int .i64 0] [(0, .t 25), (1, .t 27), (2, .t 29)] },
    { d := some 31, op := .call 60 [.t 23, .t 30] },
    { d := some 32, op := .un .not (.t 31) }])
  (.cond (.t 32)
    (.seq (.reg 8 false [
      { d := some 4, op := .mov (.c (.str ⟨#[]⟩)) },
      { d := some 5, op := .mov (.c (.int .i64 12)) }])
    (.ret))
    (.skip)))
  (.seq (.reg 9 true [
    { d := some 33, op := .load true 4 (.t 7), aft := [] },
    { d := some 34, op := .faddr 0 (.t 2), aft := [] },
    { d := some 35, op := .load false 1 (.t 34), aft := [1] },
    { d := some 36, op := .faddr 0 (.t 7), aft := [] },
    { d := some 37, op := .load false 1 (.t 36), aft := [3] },
    { d := some 38, op := .bin .quo (.t 35) (.t 37), aft := [2, 4] },
    { d := some 39, op := .call 63 [.t 33, .t 38], aft := [0, 5] },
    { d := some 40, op := .load true 4 (.t 7), aft := [] },
    { d := some 41, op := .faddr 1 (.t 2), aft := [] },
    { d := some 42, op := .load false 1 (.t 41), aft := [8] },
    { d := some 43, op := .faddr 0 (.t 2), aft := [] },
    { d := some 44, op := .load false 1 (.t 43), aft := [10] },
    { d := some 45, op := .bin .sub (.t 42) (.t 44), aft := [9, 11] },
    { d := some 46, op := .faddr 0 (.t 7), aft := [] },
    { d := some 47, op := .load false 1 (.t 46), aft := [13] },
    { d := some 48, op := .bin .quo (.t 45) (.t 47), aft := [12, 14] },
    { d := some 49, op := .call 64 [.t 40, .t 48], aft := [7, 15, 6] },
    { d := some 50, op := .load true 4 (.t 7), aft := [] },
    { d := some 51, op := .faddr 2 (.t 2), aft := [] },
    { d := some 52, op := .load false 1 (.t 51), aft := [18] },
    { d := some 53, op := .faddr 0 (.t 2), aft := [] },
    { d := some 54, op := .load false 1 (.t 53), aft := [20] },
    { d := some 55, op := .bin .sub (.t 52) (.t 54), aft := [19, 21] },
    { d := some 56, op := .faddr 0 (.t 7), aft := [] },
    { d := some 57, op := .load false 1 (.t 56), aft := [23] },
    { d := some 58, op := .bin .quo (.t 55) (.t 57), aft := [22, 24] },
    { d := some 59, op := .call 64 [.t 50, .t 58], aft := [17, 25, 16] },
    { d := some 60, op := .faddr 2 (.t 7), aft := [] },
    { d := some 61, op := .load false 1 (.t 60), aft := [27] },
    { d := some 62, op := .bsl false 1 4 [.str ⟨#[]⟩, .str ⟨#[]⟩, .str ⟨#[]⟩, .str ⟨#[]⟩] [(0, .t 39), (1, .t 49), (2, .t 59), (3, .t 61)], aft := [6, 16, 26, 28] },
    { d := some 9, op := .mov (.t 62), aft := [29, 26, 0, 1, 2, 3, 4, 5, 6, 7, 8, 9, 10, 11, 12, 13, 14, 15, 16, 17, 18, 19, 20, 21, 22, 23, 24, 25, 26, 27, 28, 29] }])
  (.seq (.reg 10 false [
    { d := some 63, op := .mov (.t 9) },
    { d := some 64, op := .call 65 [.t 63, .c (.str ⟨#[32]⟩)] },
    { d := some 4, op := .mov (.t 64) },
    { d := some 5, op := .mov (.c (.int .i64 0)) }])
  (.ret)))))))
def rr_size_Write : List RRes := [.t 4, .t 5]
theorem pc_size_Write {G : Nat → Option (List AV)} {args : List AV} {v : AV} (hn : args.length ≤ Tryd.f35.ntmps) (h : ∀ R : Run, R.G = G → AR Tryd.prog R rc_size_Write (initSt args) (Fin rr_size_Write v)) : PC Tryd.prog G 35 args v :=
  PC_of Tryd.func35 rfl (by kernel_rfl) (rc := rc_size_Write) (by kernel_rfl) (rs := rr_size_Write) (by kernel_rfl) hn (fun R _ hG => h R hG)

theorem pb_size_Write {G : Nat → Option (List AV)} {objs objs' : List (Nat × AObj)} {args : List AV} {v : AV} (hn : args.length ≤ Tryd.f35.ntmps) (h : ∀ R : Run, R.G = G → AR Tryd.prog R rc_size_Write ⟨iniT 0 args, objs⟩ (FinB rr_size_Write v objs')) : PB Tryd.prog G 35 objs args v objs' :=
  PB_of Tryd.func35 rfl (by kernel_rfl) (rc := rc_size_Write) (by kernel_rfl) (rs := rr_size_Write) (by kernel_rfl) hn (fun R _ hG => h R hG)

theorem pp_size_Write {G : Nat → Option (List AV)} {args : List AV} {ch : List PanicEntry} (hn : args.length ≤ Tryd.f35.ntmps) (h : ∀ R : Run, R.G = G → AR Tryd.prog R rc_size_Write (initSt args) (FinP ch)) : PPC Tryd.prog G 35 args ch :=
  PPC_of Tryd.func35 rfl (by kernel_rfl) (rc := rc_size_Write) (by kernel_rfl) hn (fun R _ hG => h R hG)

def rc_strings_Split : RCode :=
  .seq (.reg 0 false [
    { d := some 4, op := .mov (.c (.nils)) }])
  (.seq (.reg 1 false [
    { d := some 5, op := .mov (.t 0) },
    { d := some 6, op := .mov (.t 1) },
    { d := some 7, op := .call 90 [.t 5, .t 6, .c (.int .i64 0), .c (.int .i64 (-1))] },
    { d := some 4, op := .mov (.t 7) }])
  (.ret))
def rr_strings_Split : List RRes := [.t 4]
theorem pc_strings_Split {G : Nat → Option (List AV)} {args : List AV} {v : AV} (hn : args.length ≤ Tryd.f68.ntmps) (h : ∀ R : Run, R.G = G → AR Tryd.prog R rc_strings_Split (initSt args) (Fin rr_strings_Split v)) : PC Tryd.prog G 68 args v :=
  PC_of Tryd.func68 rfl (by kernel_rfl) (rc := rc_strings_Split) (by kernel_rfl) (rs := rr_strings_Split) (by kernel_rfl) hn (fun R _ hG => h R hG)

theorem pb_strings_Split {G : Nat → Option (List AV)} {objs objs' : List (Nat × AObj)} {args : List AV} {v : AV} (hn : args.length ≤ Tryd.f68.ntmps) (h : ∀ R : Run, R.G = G → AR Tryd.prog R rc_strings_Split ⟨iniT 0 args, objs⟩ (FinB rr_strings_Split v objs')) : PB Tryd.prog G 68 objs args v objs' :=
  PB_of Tryd.func68 rfl (by kernel_rfl) (rc := rc_strings_Split) (by kernel_rfl) (rs := rr_strings_Split) (by kernel_rfl) hn (fun R _ hG => h R hG)

theorem pp_strings_Split {G : Nat → Option (List AV)} {args : List AV} {ch : List PanicEntry} (hn : args.length ≤ Tryd.f68.ntmps) (h : ∀ R : Run, R.G = G → AR Tryd.prog R rc_strings_Split (initSt args) (FinP ch)) : PPC Tryd.prog G 68 args ch :=
  PPC_of Tryd.func68 rfl (by kernel_rfl) (rc := rc_strings_Split) (by kernel_rfl) hn (fun R _ hG => h R hG)

def rc_strings_genSplit : RCode :=
  .seq (.reg 0 false [
    { d := some 8, op := .mov (.c (.nils)) }])
  (.seq (.seq (.reg 1 false [
    { d := some 12, op := .mov (.t 3) },
    { d := some 13, op := .bin .eql (.t 12) (.c (.int .i64 0)) }])
  (.cond (.t 13)
    (.seq (.reg 2 false [
      { d := some 8, op := .mov (.c (.nils)) }])
    (.ret))
    (.skip)))
  (.seq (.seq (.reg 3 false [
    { d := some 14, op := .mov (.t 1) },
    { d := some 15, op := .bin .eql (.t 14) (.c (.str ⟨#[]⟩)) }])
  (.cond (.t 15)
    (.seq (.reg 4 false [
      { d := some 16, op := .mov (.t 0) },
      { d := some 17, op := .mov (.t 3) },
      { d := some 18, op := .call 97 [.t 16, .t 17] },
      { d := some 8, op := .mov (.t 18) }])
    (.ret))
    (.skip)))
  (.seq (.seq (.reg 5 false [
    { d := some 19, op := .mov (.t 3) },
    { d := some 20, op := .bin .lss (.t 19) (.c (.int .i64 0)) }])
  (.cond (.t 20)
    (.reg 6 false [
      { d := some 21, op := .mov (.t 0) },
      { d := some 22, op := .mov (.t 1) },
      { d := some 23, op := .call 98 [.t 21, .t 22] },
      { d := some 24, op := .bin .add (.t 23) (.c (.int .i64 1)) },
      { d := some 3, op := .mov (.t 24) }])
    (.skip)))
  (.seq (.reg 7 false [
    { d := some 25, op := .mov (.t 3) },
    { d := some 26, op := .mov (.t 0) },
    { d := some 27, op := .slen (.t 26) },
    { d := some 28, op := .bin .add (.t 27) (.c (.int .i64 1)) },
    { d := some 29, op := .mx false (.t 25) [.t 28] },
    { d := some 3, op := .mov (.t 29) }])
  (.seq (.reg 8 false [
    { d := some 30, op := .mov (.t 3) },
    { d := some 31, op := .mksl 1 16 [.str ⟨#[]⟩] (.t 30) },
    { d := some 9, op := .mov (.t 31) }])
  (.seq (.reg 9 false [
    { d := some 32, op := .mov (.t 3) },
    { d := some 33, op := .bin .sub (.t 32) (.c (.int .i64 1)) },
    { d := some 3, op := .mov (.t 33) }])
  (.seq (.reg 10 false [
    { d := some 10, op := .mov (.c (.int .i64 0)) }])
  (.seq (.block 0
    (.loop
      (.seq (.seq (.reg 11 false [
        { d := some 34, op := .mov (.t 10) },
        { d := some 35, op := .mov (.t 3) },
        { d := some 36, op := .bin .lss (.t 34) (.t 35) }])
      (.cond (.t 36)
        (.skip)
        (.exit 0)))
      (.block 1
        (.seq (.reg 12 false [
          { d := some 37, op := .mov (.t 0) },
          { d := some 38, op := .mov (.t 1) },
          { d := some 39, op := .call 99 [.t 37, .t 38] },
          { d := some 11, op := .mov (.t 39) }])
        (.seq (.seq (.reg 13 false [
          { d := some 40, op := .mov (.t 11) },
          { d := some 41, op := .bin .lss (.t 40) (.c (.int .i64 0)) }])
        (.cond (.t 41)
          (.exit 0)
          (.skip)))
        (.seq (.reg 14 false [
          { d := some 42, op := .mov (.t 9) },
          { d := some 43, op := .mov (.t 10) },
          { d := some 44, op := .mov (.t 0) },
          { d := some 45, op := .mov (.t 11) },
          { d := some 46, op := .mov (.t 2) },
          { d := some 47, op := .bin .add (.t 45) (.t 46) },
          { d := some 48, op := .sslc (.t 44) none (some (.t 47)) },
          { d := some 49, op := .iaddr 1 (.t 42) (.t 43) },
          { d := none, op := .store 1 (.t 49) (.t 48) }])
        (.seq (.reg 15 false [
          { d := some 50, op := .mov (.t 0) },
          { d := some 51, op := .mov (.t 11) },
          { d := some 52, op := .mov (.t 1) },
          { d := some 53, op := .slen (.t 52) },
          { d := some 54, op := .bin .add (.t 51) (.t 53) },
          { d := some 55, op := .sslc (.t 50) (some (.t 54)) none },
          { d := some 0, op := .mov (.t 55) }])
        (.reg 16 false [
          { d := some 56, op := .mov (.t 10) },
          { d := some 57, op := .bin .add (.t 56) (.c (.int .i64 1)) },
          { d := some 10, op := .mov (.t 57) }])))))))))
  (.seq (.reg 17 false [
    { d := some 58, op := .mov (.t 9) },
    { d := some 59, op := .mov (.t 10) },
    { d := some 60, op := .mov (.t 0) },
    { d := some 61, op := .iaddr 1 (.t 58) (.t 59) },
    { d := none, op := .store 1 (.t 61) (.t 60) }])
  (.seq (.reg 18 false [
    { d := some 62, op := .mov (.t 9) },
    { d := some 63, op := .mov (.t 10) },
    { d := some 64, op := .bin .add (.t 63) (.c (.int .i64 1)) },
    { d := some 65, op := .slc 1 (.t 62) none (some (.t 64)) },
    { d := some 8, op := .mov (.t 65) }])
  (.ret)))))))))))
def rr_strings_genSplit : List RRes := [.t 8]
theorem pc_strings_genSplit {G : Nat → Option (List AV)} {args : List AV} {v : AV} (hn : args.length ≤ Tryd.f90.ntmps) (h : ∀ R : Run, R.G = G → AR Tryd.prog R rc_strings_genSplit (initSt args) (Fin rr_strings_genSplit v)) : PC Tryd.prog G 90 args v :=
  PC_of Tryd.func90 rfl (by kernel_rfl) (rc := rc_strings_genSplit) (by kernel_rfl) (rs := rr_strings_genSplit) (by kernel_rfl) hn (fun R _ hG => h R hG)

theorem pb_strings_genSplit {G : Nat → Option (List AV)} {objs objs' : List (Nat × AObj)} {args : List AV} {v : AV} (hn : args.length ≤ Tryd.f90.ntmps) (h : ∀ R : Run, R.G = G → AR Tryd.prog R rc_strings_genSplit ⟨iniT 0 args, objs⟩ (FinB rr_strings_genSplit v objs')) : PB Tryd.prog G 90 objs args v objs' :=
  PB_of Tryd.func90 rfl (by kernel_rfl) (rc := rc_strings_genSplit) (by kernel_rfl) (rs := rr_strings_genSplit) (by kernel_rfl) hn (fun R _ hG => h R hG)

theorem pp_strings_genSplit {G : Nat → Option (List AV)} {args : List AV} {ch : List PanicEntry} (hn : args.length ≤ Tryd.f90.ntmps) (h : ∀ R : Run, R.G = G → AR Tryd.prog R rc_strings_genSplit (initSt args) (FinP ch)) : PPC Tryd.prog G 90 args ch :=
  PPC_of Tryd.func90 rfl (by kernel_rfl) (rc := rc_strings_genSplit) (by kernel_rfl) hn (fun R _ hG => h R hG)

def rc_strings_Cut : RCode :=
  .seq (.reg 0 false [
    { d := some 4, op := .mov (.c (.str ⟨#[]⟩)) },
    { d := some 5, op := .mov (.c (.str ⟨#[]⟩)) },
    { d := some 6, op := .mov (.c (.bool false)) }])
  (.seq (.reg 1 false [
    { d := some 7, op := .mov (.t 0) },
    { d := some 8, op := .mov (.t 1) },
    { d := some 9, op := .call 100 [.t 7, .t 8] },
    { d := some 10, op := .ext 0 (.t 9) },
    { d := some 11, op := .ext 1 (.t 9) },
    { d := some 12, op := .ext 2 (.t 9) },
    { d := some 4, op := .mov (.t 10) },
    { d := some 5, op := .mov (.t 11) },
    { d := some 6, op := .mov (.t 12) }])
  (.ret))
def rr_strings_Cut : List RRes := [.t 4, .t 5, .t 6]
theorem pc_strings_Cut {G : Nat → Option (List AV)} {args : List AV} {v : AV} (hn : args.length ≤ Tryd.f91.ntmps) (h : ∀ R : Run, R.G = G → AR Tryd.prog R rc_strings_Cut (initSt args) (Fin rr_strings_Cut v)) : PC Tryd.prog G 91 args v :=
  PC_of Tryd.func91 rfl (by kernel_rfl) (rc := rc_strings_Cut) (by kernel_rfl) (rs := rr_strings_Cut) (by kernel_rfl) hn (fun R _ hG => h R hG)

theorem pb_strings_Cut {G : Nat → Option (List AV)} {objs objs' : List (Nat × AObj)} {args : List AV} {v : AV} (hn : args.length ≤ Tryd.f91.ntmps) (h : ∀ R : Run, R.G = G → AR Tryd.prog R rc_strings_Cut ⟨iniT 0 args, objs⟩ (FinB rr_strings_Cut v objs')) : PB Tryd.prog G 91 objs args v objs' :=
  PB_of Tryd.func91 rfl (by kernel_rfl) (rc := rc_strings_Cut) (by kernel_rfl) (rs := rr_strings_Cut) (by kernel_rfl) hn (fun R _ hG => h R hG)

theorem pp_strings_Cut {G : Nat → Option (List AV)} {args : List AV} {ch : List PanicEntry} (hn : args.length ≤ Tryd.f91.ntmps) (h : ∀ R : Run, R.G = G → AR Tryd.prog R rc_strings_Cut (initSt args) (FinP ch)) : PPC Tryd.prog G 91 args ch :=
  PPC_of Tryd.func91 rfl (by kernel_rfl) (rc := rc_strings_Cut) (by kernel_rfl) hn (fun R _ hG => h R hG)

def rc_internal_stringslite_Cut : RCode :=
  .seq (.reg 0 false [
    { d := some 4, op := .mov (.c (.str ⟨#[]⟩)) },
    { d := some 5, op := .mov (.c (.str ⟨#[]⟩)) },
    { d := some 6, op := .mov (.c (.bool false)) }])
  (.seq (.seq (.reg 1 false [
    { d := some 8, op := .mov (.t 0) },
    { d := some 9, op := .mov (.t 1) },
    { d := some 10, op := .call 107 [.t 8, .t 9] },
    { d := some 7, op := .mov (.t 10) }])
  (.seq (.reg 2 false [
    { d := some 11, op := .mov (.t 7) },
    { d := some 12, op := .bin .geq (.t 11) (.c (.int .i64 0)) }])
  (.cond (.t 12)
    (.seq (.reg 3 true [
      { d := some 13, op := .mov (.t 0), aft := [] },
      { d := some 14, op := .mov (.t 7), aft := [] },
      { d := some 15, op := .sslc (.t 13) none (some (.t 14)), aft := [0, 1] },
      { d := some 16, op := .mov (.t 0), aft := [] },
      { d := some 17, op := .mov (.t 7), aft := [] },
      { d := some 18, op := .mov (.t 1), aft := [] },
      { d := some 19, op := .slen (.t 18), aft := [5] },
      { d := some 20, op := .bin .add (.t 17) (.t 19), aft := [4, 6] },
      { d := some 21, op := .sslc (.t 16) (some (.t 20)) none, aft := [3, 7] },
      { d := some 4, op := .mov (.t 15), aft := [2, 0, 1, 2] },
      { d := some 5, op := .mov (.t 21), aft := [8, 9, 0, 1, 2, 3, 4, 5, 6, 7, 8, 9] },
      { d := some 6, op := .mov (.c (.bool true)), aft := [10, 0, 1, 2, 3, 4, 5, 6, 7, 8, 9, 10] }])
    (.ret))
    (.skip))))
  (.seq (.reg 4 false [
    { d := some 22, op := .mov (.t 0) },
    { d := some 4, op := .mov (.t 22) },
    { d := some 5, op := .mov (.c (.str ⟨#[]⟩)) },
    { d := some 6, op := .mov (.c (.bool false)) }])
  (.ret)))
def rr_internal_stringslite_Cut : List RRes := [.t 4, .t 5, .t 6]
theorem pc_internal_stringslite_Cut {G : Nat → Option (List AV)} {args : List AV} {v : AV} (hn : args.length ≤ Tryd.f100.ntmps) (h : ∀ R : Run, R.G = G → AR Tryd.prog R rc_internal_stringslite_Cut (initSt args) (Fin rr_internal_stringslite_Cut v)) : PC Tryd.prog G 100 args v :=
  PC_of Tryd.func100 rfl (by kernel_rfl) (rc := rc_internal_stringslite_Cut) (by kernel_rfl) (rs := rr_internal_stringslite_Cut) (by kernel_rfl) hn (fun R _ hG => h R hG)

theorem pb_internal_stringslite_Cut {G : Nat → Option (List AV)} {objs objs' : List (Nat × AObj)} {args : List AV} {v : AV} (hn : args.length ≤ Tryd.f100.ntmps) (h : ∀ R : Run, R.G = G → AR Tryd.prog R rc_internal_stringslite_Cut ⟨iniT 0 args, objs⟩ (FinB rr_internal_stringslite_Cut v objs')) : PB Tryd.prog G 100 objs args v objs' :=
  PB_of Tryd.func100 rfl (by kernel_rfl) (rc := rc_internal_stringslite_Cut) (by kernel_rfl) (rs := rr_internal_stringslite_Cut) (by kernel_rfl) hn (fun R _ hG => h R hG)

theorem pp_internal_stringslite_Cut {G : Nat → Option (List AV)} {args : List AV} {ch : List PanicEntry} (hn : args.length ≤ Tryd.f100.ntmps) (h : ∀ R : Run, R.G = G → AR Tryd.prog R rc_internal_stringslite_Cut (initSt args) (FinP ch)) : PPC Tryd.prog G 100 args ch :=
  PPC_of Tryd.func100 rfl (by kernel_rfl) (rc := rc_internal_stringslite_Cut) (by kernel_rfl) hn (fun R _ hG => h R hG)

def rc_internal_stringslite_Index : RCode :=
  .seq (.reg 0 false [
    { d := some 4, op := .mov (.c (.int .i64 0)) }])
  (.seq (.reg 1 false [
    { d := some 14, op := .mov (.t 1) },
    { d := some 15, op := .slen (.t 14) },
    { d := some 5, op := .mov (.t 15) }])
  (.seq (.block 0
    (.seq (.reg 2 false [
      { d := some 17, op := .mov (.t 5) },
      { d := some 18, op := .bin .eql (.t 17) (.c (.int .i64 0)) },
      { d := some 19, op := .mov (.t 18) },
      { d := some 20, op := .mov (.t 1), guard := some (19, false) },
      { d := some 21, op := .mov (.t 0), guard := some (19, false) },
      { d := some 22, op := .bin .eql (.t 20) (.t 21), guard := some (19, false) },
      { d := some 23, op := .pick (.t 19) (.c (.bool true)) (.t 22) },
      { d := some 16, op := .mov (.t 23) }])
    (.cond (.t 16)
      (.seq (.reg 3 false [
        { d := some 4, op := .mov (.c (.int .i64 0)) }])
      (.ret))
      (.seq (.reg 4 false [
        { d := some 25, op := .mov (.t 5) },
        { d := some 26, op := .bin .eql (.t 25) (.c (.int .i64 1)) },
        { d := some 24, op := .mov (.t 26) }])
      (.cond (.t 24)
        (.seq (.reg 5 false [
          { d := some 27, op := .mov (.t 0) },
          { d := some 28, op := .mov (.t 1) },
          { d := some 29, op := .vop .sidx [(.t 28), (.c (.int .i64 0))] },
          { d := some 30, op := .call 113 [.t 27, .t 29] },
          { d := some 4, op := .mov (.t 30) }])
        (.ret))
        (.seq (.reg 6 false [
          { d := some 32, op := .mov (.t 5) },
          { d := some 33, op := .mov (.t 0) },
          { d := some 34, op := .slen (.t 33) },
          { d := some 35, op := .bin .geq (.t 32) (.t 34) },
          { d := some 31, op := .mov (.t 35) }])
        (.cond (.t 31)
          (.seq (.reg 7 false [
            { d := some 4, op := .mov (.c (.int .i64 (-1))) }])
          (.ret))
          (.seq (.reg 8 false [
            { d := some 37, op := .mov (.t 5) },
            { d := some 38, op := .load false 1 (.g 1) },
            { d := some 39, op := .bin .leq (.t 37) (.t 38) },
            { d := some 40, op := .mov (.t 39) },
            { d := some 41, op := .mov (.t 0), guard := some (40, true) },
            { d := some 42, op := .slen (.t 41), guard := some (40, true) },
            { d := some 43, op := .bin .leq (.t 42) (.c (.int .i64 64)), guard := some (40, true) },
            { d := some 44, op := .pick (.t 40) (.t 43) (.c (.bool false)) },
            { d := some 36, op := .mov (.t 44) }])
          (.cond (.t 36)
            (.seq (.reg 9 false [
              { d := some 45, op := .mov (.t 0) },
              { d := some 46, op := .mov (.t 1) },
              { d := some 47, op := .call 114 [.t 45, .t 46] },
              { d := some 4, op := .mov (.t 47) }])
            (.ret))
            (.skip))))))))))
  (.seq (.reg 10 false [
    { d := some 48, op := .mov (.t 1) },
    { d := some 49, op := .vop .sidx [(.t 48), (.c (.int .i64 0))] },
    { d := some 6, op := .mov (.t 49) }])
  (.seq (.reg 11 false [
    { d := some 50, op := .mov (.t 1) },
    { d := some 51, op := .vop .sidx [(.t 50), (.c (.int .i64 1))] },
    { d := some 7, op := .mov (.t 51) }])
  (.seq (.reg 12 false [
    { d := some 8, op := .mov (.c (.int .i64 0)) }])
  (.seq (.reg 13 false [
    { d := some 52, op := .mov (.t 0) },
    { d := some 53, op := .slen (.t 52) },
    { d := some 54, op := .mov (.t 5) },
    { d := some 55, op := .bin .sub (.t 53) (.t 54) },
    { d := some 56, op := .bin .add (.t 55) (.c (.int .i64 1)) },
    { d := some 9, op := .mov (.t 56) }])
  (.seq (.reg 14 false [
    { d := some 10, op := .mov (.c (.int .i64 0)) }])
  (.seq (.block 1
    (.loop
      (.seq (.seq (.reg 15 false [
        { d := some 57, op := .mov (.t 8) },
        { d := some 58, op := .mov (.t 9) },
        { d := some 59, op := .bin .lss (.t 57) (.t 58) }])
      (.cond (.t 59)
        (.skip)
        (.exit 1)))
      (.block 2
        (.seq (.seq (.reg 16 false [
          { d := some 60, op := .mov (.t 0) },
          { d := some 61, op := .mov (.t 8) },
          { d := some 62, op := .vop .sidx [(.t 60), (.t 61)] },
          { d := some 63, op := .mov (.t 6) },
          { d := some 64, op := .bin .neq (.t 62) (.t 63) }])
        (.cond (.t 64)
          (.seq (.reg 17 false [
            { d := some 65, op := .mov (.t 0) },
            { d := some 66, op := .mov (.t 8) },
            { d := some 67, op := .bin .add (.t 66) (.c (.int .i64 1)) },
            { d := some 68, op := .mov (.t 9) },
            { d := some 69, op := .sslc (.t 65) (some (.t 67)) (some (.t 68)) },
            { d := some 70, op := .mov (.t 6) },
            { d := some 71, op := .call 113 [.t 69, .t 70] },
            { d := some 11, op := .mov (.t 71) }])
          (.seq (.seq (.reg 18 false [
            { d := some 72, op := .mov (.t 11) },
            { d := some 73, op := .bin .lss (.t 72) (.c (.int .i64 0)) }])
          (.cond (.t 73)
            (.seq (.reg 19 false [
              { d := some 4, op := .mov (.c (.int .i64 (-1))) }])
            (.ret))
            (.skip)))
          (.reg 20 false [
            { d := some 74, op := .mov (.t 8) },
            { d := some 75, op := .mov (.t 11) },
            { d := some 76, op := .bin .add (.t 75) (.c (.int .i64 1)) },
            { d := some 77, op := .bin .add (.t 74) (.t 76) },
            { d := some 8, op := .mov (.t 77) }])))
          (.skip)))
        (.seq (.seq (.reg 21 false [
          { d := some 78, op := .mov (.t 0) },
          { d := some 79, op := .mov (.t 8) },
          { d := some 80, op := .bin .add (.t 79) (.c (.int .i64 1)) },
          { d := some 81, op := .vop .sidx [(.t 78), (.t 80)] },
          { d := some 82, op := .mov (.t 7) },
          { d := some 83, op := .bin .eql (.t 81) (.t 82) },
          { d := some 84, op := .mov (.t 83) },
          { d := some 85, op := .mov (.t 0), guard := some (84, true) },
          { d := some 86, op := .mov (.t 8), guard := some (84, true) },
          { d := some 87, op := .mov (.t 8), guard := some (84, true) },
          { d := some 88, op := .mov (.t 5), guard := some (84, true) },
          { d := some 89, op := .bin .add (.t 87) (.t 88), guard := some (84, true) },
          { d := some 90, op := .sslc (.t 85) (some (.t 86)) (some (.t 89)), guard := some (84, true) },
          { d := some 91, op := .mov (.t 1), guard := some (84, true) },
          { d := some 92, op := .bin .eql (.t 90) (.t 91), guard := some (84, true) },
          { d := some 93, op := .pick (.t 84) (.t 92) (.c (.bool false)) }])
        (.cond (.t 93)
          (.seq (.reg 22 false [
            { d := some 94, op := .mov (.t 8) },
            { d := some 4, op := .mov (.t 94) }])
          (.ret))
          (.skip)))
        (.seq (.reg 23 false [
          { d := some 95, op := .mov (.t 8) },
          { d := some 96, op := .bin .add (.t 95) (.c (.int .i64 1)) },
          { d := some 8, op := .mov (.t 96) }])
        (.seq (.reg 24 false [
          { d := some 97, op := .mov (.t 10) },
          { d := some 98, op := .bin .add (.t 97) (.c (.int .i64 1)) },
          { d := some 10, op := .mov (.t 98) }])
        (.seq (.reg 25 false [
          { d := some 99, op := .mov (.t 5) },
          { d := some 100, op := .load false 1 (.g 1) },
          { d := some 101, op := .bin .leq (.t 99) (.t 100) },
          { d := some 102, op := .mov (.t 101) },
          { d := some 103, op := .mov (.t 10), guard := some (102, true) },
          { d := some 104, op := .mov (.t 8), guard := some (102, true) },
          { d := some 105, op := .call 115 [.t 104], guard := some (102, true) },
          { d := some 106, op := .bin .gtr (.t 103) (.t 105), guard := some (102, true) },
          { d := some 107, op := .pick (.t 102) (.t 106) (.c (.bool false)) }])
        (.cond (.t 107)
          (.seq (.reg 26 false [
            { d := some 108, op := .mov (.t 0) },
            { d := some 109, op := .mov (.t 8) },
            { d := some 110, op := .sslc (.t 108) (some (.t 109)) none },
            { d := some 111, op := .mov (.t 1) },
            { d := some 112, op := .call 114 [.t 110, .t 111] },
            { d := some 12, op := .mov (.t 112) }])
          (.seq (.seq (.reg 27 false [
            { d := some 113, op := .mov (.t 12) },
            { d := some 114, op := .bin .geq (.t 113) (.c (.int .i64 0)) }])
          (.cond (.t 114)
            (.seq (.reg 28 false [
              { d := some 115, op := .mov (.t 12) },
              { d := some 116, op := .mov (.t 8) },
              { d := some 117, op := .bin .add (.t 115) (.t 116) },
              { d := some 4, op := .mov (.t 117) }])
            (.ret))
            (.skip)))
          (.seq (.reg 29 false [
            { d := some 4, op := .mov (.c (.int .i64 (-1))) }])
          (.ret))))
          (.seq (.reg 30 false [
            { d := some 118, op := .mov (.t 5) },
            { d := some 119, op := .load false 1 (.g 1) },
            { d := some 120, op := .bin .gtr (.t 118) (.t 119) },
            { d := some 121, op := .mov (.t 120) },
            { d := some 122, op := .mov (.t 10), guard := some (121, true) },
            { d := some 123, op := .mov (.t 8), guard := some (121, true) },
            { d := some 124, op := .vop (.sh false) [(.t 123), (.c (.int .u64 4))], guard := some (121, true) },
            { d := some 125, op := .bin .add (.c (.int .i64 4)) (.t 124), guard := some (121, true) },
            { d := some 126, op := .bin .geq (.t 122) (.t 125), guard := some (121, true) },
            { d := some 127, op := .pick (.t 121) (.t 126) (.c (.bool false)) },
            { d := some 128, op := .mov (.t 127) },
            { d := some 129, op := .mov (.t 8), guard := some (128, true) },
            { d := some 130, op := .mov (.t 9), guard := some (128, true) },
            { d := some 131, op := .bin .lss (.t 129) (.t 130), guard := some (128, true) },
            { d := some 132, op := .pick (.t 128) (.t 131) (.c (.bool false)) }])
          (.cond (.t 132)
            (.seq (.reg 31 false [
              { d := some 133, op := .mov (.t 0) },
              { d := some 134, op := .mov (.t 8) },
              { d := some 135, op := .sslc (.t 133) (some (.t 134)) none },
              { d := some 136, op := .mov (.t 1) },
              { d := some 137, op := .call 116 [.t 135, .t 136] },
              { d := some 13, op := .mov (.t 137) }])
            (.seq (.seq (.reg 32 false [
              { d := some 138, op := .mov (.t 13) },
              { d := some 139, op := .bin .lss (.t 138) (.c (.int .i64 0)) }])
            (.cond (.t 139)
              (.seq (.reg 33 false [
                { d := some 4, op := .mov (.c (.int .i64 (-1))) }])
              (.ret))
              (.skip)))
            (.seq (.reg 34 false [
              { d := some 140, op := .mov (.t 8) },
              { d := some 141, op := .mov (.t 13) },
              { d := some 142, op := .bin .add (.t 140) (.t 141) },
              { d := some 4, op := .mov (.t 142) }])
            (.ret))))
            (.skip)))))))))))))
  (.seq (.reg 35 false [
    { d := some 4, op := .mov (.c (.int .i64 (-1))) }])
  (.ret))))))))))
def rr_internal_stringslite_Index : List RRes := [.t 4]
theorem pc_internal_stringslite_Index {G : Nat → Option (List AV)} {args : List AV} {v : AV} (hn : args.length ≤ Tryd.f107.ntmps) (h : ∀ R : Run, R.G = G → AR Tryd.prog R rc_internal_stringslite_Index (initSt args) (Fin rr_internal_stringslite_Index v)) : PC Tryd.prog G 107 args v :=
  PC_of Tryd.func107 rfl (by kernel_rfl) (rc := rc_internal_stringslite_Index) (by kernel_rfl) (rs := rr_internal_stringslite_Index) (by kernel_rfl) hn (fun R _ hG => h R hG)

theorem pb_internal_stringslite_Index {G : Nat → Option (List AV)} {objs objs' : List (Nat × AObj)} {args : List AV} {v : AV} (hn : args.length ≤ Tryd.f107.ntmps) (h : ∀ R : Run, R.G = G → AR Tryd.prog R rc_internal_stringslite_Index ⟨iniT 0 args, objs⟩ (FinB rr_internal_stringslite_Index v objs')) : PB Tryd.prog G 107 objs args v objs' :=
  PB_of Tryd.func107 rfl (by kernel_rfl) (rc := rc_internal_stringslite_Index) (by kernel_rfl) (rs := rr_internal_stringslite_Index) (by kernel_rfl) hn (fun R _ hG => h R hG)

theorem pp_internal_stringslite_Index {G : Nat → Option (List AV)} {args : List AV} {ch : List PanicEntry} (hn : args.length ≤ Tryd.f107.ntmps) (h : ∀ R : Run, R.G = G → AR Tryd.prog R rc_internal_stringslite_Index (initSt args) (FinP ch)) : PPC Tryd.prog G 107 args ch :=
  PPC_of Tryd.func107 rfl (by kernel_rfl) (rc := rc_internal_stringslite_Index) (by kernel_rfl) hn (fun R _ hG => h R hG)

def rc_strings_Index : RCode :=
  .seq (.reg 0 false [
    { d := some 4, op := .mov (.c (.int .i64 0)) }])
  (.seq (.reg 1 false [
    { d := some 5, op := .mov (.t 0) },
    { d := some 6, op := .mov (.t 1) },
    { d := some 7, op := .call 107 [.t 5, .t 6] },
    { d := some 4, op := .mov (.t 7) }])
  (.ret))
def rr_strings_Index : List RRes := [.t 4]
theorem pc_strings_Index {G : Nat → Option (List AV)} {args : List AV} {v : AV} (hn : args.length ≤ Tryd.f99.ntmps) (h : ∀ R : Run, R.G = G → AR Tryd.prog R rc_strings_Index (initSt args) (Fin rr_strings_Index v)) : PC Tryd.prog G 99 args v :=
  PC_of Tryd.func99 rfl (by kernel_rfl) (rc := rc_strings_Index) (by kernel_rfl) (rs := rr_strings_Index) (by kernel_rfl) hn (fun R _ hG => h R hG)

theorem pb_strings_Index {G : Nat → Option (List AV)} {objs objs' : List (Nat × AObj)} {args : List AV} {v : AV} (hn : args.length ≤ Tryd.f99.ntmps) (h : ∀ R : Run, R.G = G → AR Tryd.prog R rc_strings_Index ⟨iniT 0 args, objs⟩ (FinB rr_strings_Index v objs')) : PB Tryd.prog G 99 objs args v objs' :=
  PB_of Tryd.func99 rfl (by kernel_rfl) (rc := rc_strings_Index) (by kernel_rfl) (rs := rr_strings_Index) (by kernel_rfl) hn (fun R _ hG => h R hG)

theorem pp_strings_Index {G : Nat → Option (List AV)} {args : List AV} {ch : List PanicEntry} (hn : args.length ≤ Tryd.f99.ntmps) (h : ∀ R : Run, R.G = G → AR Tryd.prog R rc_strings_Index (initSt args) (FinP ch)) : PPC Tryd.prog G 99 args ch :=
  PPC_of Tryd.func99 rfl (by kernel_rfl) (rc := rc_strings_Index) (by kernel_rfl) hn (fun R _ hG => h R hG)

def rc_strings_Count : RCode :=
  .seq (.reg 0 false [
    { d := some 4, op := .mov (.c (.int .i64 0)) }])
  (.seq (.seq (.reg 1 false [
    { d := some 7, op := .mov (.t 1) },
    { d := some 8, op := .slen (.t 7) },
    { d := some 9, op := .bin .eql (.t 8) (.c (.int .i64 0)) }])
  (.cond (.t 9)
    (.seq (.reg 2 false [
      { d := some 10, op := .mov (.t 0) },
      { d := some 11, op := .call 104 [.t 10] },
      { d := some 12, op := .bin .add (.t 11) (.c (.int .i64 1)) },
      { d := some 4, op := .mov (.t 12) }])
    (.ret))
    (.skip)))
  (.seq (.seq (.reg 3 false [
    { d := some 13, op := .mov (.t 1) },
    { d := some 14, op := .slen (.t 13) },
    { d := some 15, op := .bin .eql (.t 14) (.c (.int .i64 1)) }])
  (.cond (.t 15)
    (.seq (.reg 4 false [
      { d := some 16, op := .mov (.t 0) },
      { d := some 17, op := .mov (.t 1) },
      { d := some 18, op := .vop .sidx [(.t 17), (.c (.int .i64 0))] },
      { d := some 19, op := .call 106 [.t 16, .t 18] },
      { d := some 4, op := .mov (.t 19) }])
    (.ret))
    (.skip)))
  (.seq (.reg 5 false [
    { d := some 5, op := .mov (.c (.int .i64 0)) }])
  (.block 0
    (.loop
      (.block 1
        (.seq (.reg 6 false [
          { d := some 20, op := .mov (.t 0) },
          { d := some 21, op := .mov (.t 1) },
          { d := some 22, op := .call 99 [.t 20, .t 21] },
          { d := some 6, op := .mov (.t 22) }])
        (.seq (.seq (.reg 7 false [
          { d := some 23, op := .mov (.t 6) },
          { d := some 24, op := .bin .eql (.t 23) (.c (.int .i64 (-1))) }])
        (.cond (.t 24)
          (.seq (.reg 8 false [
            { d := some 25, op := .mov (.t 5) },
            { d := some 4, op := .mov (.t 25) }])
          (.ret))
          (.skip)))
        (.seq (.reg 9 false [
          { d := some 26, op := .mov (.t 5) },
          { d := some 27, op := .bin .add (.t 26) (.c (.int .i64 1)) },
          { d := some 5, op := .mov (.t 27) }])
        (.reg 10 false [
          { d := some 28, op := .mov (.t 0) },
          { d := some 29, op := .mov (.t 6) },
          { d := some 30, op := .mov (.t 1) },
          { d := some 31, op := .slen (.t 30) },
          { d := some 32, op := .bin .add (.t 29) (.t 31) },
          { d := some 33, op := .sslc (.t 28) (some (.t 32)) none },
          { d := some 0, op := .mov (.t 33) }]))))))))))
def rr_strings_Count : List RRes := [.t 4]
theorem pc_strings_Count {G : Nat → Option (List AV)} {args : List AV} {v : AV} (hn : args.length ≤ Tryd.f98.ntmps) (h : ∀ R : Run, R.G = G → AR Tryd.prog R rc_strings_Count (initSt args) (Fin rr_strings_Count v)) : PC Tryd.prog G 98 args v :=
  PC_of Tryd.func98 rfl (by kernel_rfl) (rc := rc_strings_Count) (by kernel_rfl) (rs := rr_strings_Count) (by kernel_rfl) hn (fun R _ hG => h R hG)

theorem pb_strings_Count {G : Nat → Option (List AV)} {objs objs' : List (Nat × AObj)} {args : List AV} {v : AV} (hn : args.length ≤ Tryd.f98.ntmps) (h : ∀ R : Run, R.G = G → AR Tryd.prog R rc_strings_Count ⟨iniT 0 args, objs⟩ (FinB rr_strings_Count v objs')) : PB Tryd.prog G 98 objs args v objs' :=
  PB_of Tryd.func98 rfl (by kernel_rfl) (rc := rc_strings_Count) (by kernel_rfl) (rs := rr_strings_Count) (by kernel_rfl) hn (fun R _ hG => h R hG)

theorem pp_strings_Count {G : Nat → Option (List AV)} {args : List AV} {ch : List PanicEntry} (hn : args.length ≤ Tryd.f98.ntmps) (h : ∀ R : Run, R.G = G → AR Tryd.prog R rc_strings_Count (initSt args) (FinP ch)) : PPC Tryd.prog G 98 args ch :=
  PPC_of Tryd.func98 rfl (by kernel_rfl) (rc := rc_strings_Count) (by kernel_rfl) hn (fun R _ hG => h R hG)

def rc_size_unit_number : RCode :=
  .seq (.reg 0 false [
    { d := some 2, op := .box (.t 0) },
    { d := some 4, op := .mov (.c (.int .i64 0)) }])
  (.scope (.seq (.reg 1 false [
    { d := some 12, op := .mov (.t 1) },
    { d := some 13, op := .call 91 [.t 12, .c (.str ⟨#[46]⟩)] },
    { d := some 11, op := .mov (.t 13) },
    { d := some 14, op := .ext 0 (.t 11) },
    { d := some 15, op := .ext 1 (.t 11) },
    { d := some 16, op := .ext 2 (.t 11) },
    { d := some 5, op := .mov (.t 14) },
    { d := some 6, op := .mov (.t 15) },
    { d := some 7, op := .mov (.t 16) }])
  (.seq (.reg 2 false [
    { d := some 17, op := .mov (.t 7) },
    { d := some 18, op := .mov (.t 17) },
    { d := some 19, op := .mov (.t 6), guard := some (18, true) },
    { d := some 20, op := .slen (.t 19), guard := some (18, true) },
    { d := some 21, op := .faddr 1 (.t 2), guard := some (18, true) },
    { d := some 22, op := .load false 1 (.t 21), guard := some (18, true) },
    { d := some 23, op := .bin .eql (.t 20) (.t 22), guard := some (18, true) },
    { d := some 24, op := .pick (.t 18) (.t 23) (.c (.bool false)) },
    { d := some 25, op := .mov (.t 24) },
    { d := some 26, op := .mov (.t 5), guard := some (25, true) },
    { d := some 27, op := .slen (.t 26), guard := some (25, true) },
    { d := some 28, op := .bsl false 1 1 [.int .i64 0] [(0, .t 27)], guard := some (25, true) },
    { d := some 29, op := .call 55 [.c (.int .i64 1), .c (.int .i64 6), .t 28], guard := some (25, true) },
    { d := some 30, op := .pick (.t 25) (.t 29) (.c (.bool false)) },
    { d := some 31, op := .mov (.t 30) },
    { d := some 32, op := .mov (.t 5), guard := some (31, true) },
    { d := some 33, op := .vop .sidx [(.t 32), (.c (.int .i64 0))], guard := some (31, true) },
    { d := some 34, op := .bin .neq (.t 33) (.c (.int .u8 48)), guard := some (31, true) },
    { d := some 35, op := .mov (.t 34), guard := some (31, true) },
    { d := some 36, op := .mov (.t 5), guard := some (35, false) },
    { d := some 37, op := .slen (.t 36), guard := some (35, false) },
    { d := some 38, op := .bin .eql (.t 37) (.c (.int .i64 1)), guard := some (35, false) },
    { d := some 39, op := .pick (.t 35) (.c (.bool true)) (.t 38), guard := some (31, true) },
    { d := some 40, op := .pick (.t 31) (.t 39) (.c (.bool false)) },
    { d := some 41, op := .call 69 [.t 40] }])
  (.seq (.reg 3 false [
    { d := some 42, op := .mov (.t 5) },
    { d := some 43, op := .mov (.t 6) },
    { d := some 44, op := .bin .add (.t 42) (.t 43) },
    { d := some 8, op := .mov (.t 44) }])
  (.seq (.reg 4 false [
    { d := some 9, op := .mov (.c (.int .i64 0)) }])
  (.seq (.label 0)
  (.seq (.seq (.reg 5 false [
    { d := some 45, op := .mov (.t 8) },
    { d := some 46, op := .slen (.t 45) },
    { d := some 47, op := .mov (.c (.int .i64 0)) }])
  (.block 0
    (.loop
      (.seq (.reg 6 false [
        { d := some 48, op := .bin .lss (.t 47) (.t 46) }])
      (.seq (.cond (.t 48)
        (.skip)
        (.exit 0))
      (.seq (.block 1
        (.seq (.reg 7 false [
          { d := some 49, op := .mov (.t 47) },
          { d := some 10, op := .mov (.t 49) }])
        (.seq (.seq (.reg 8 false [
          { d := some 50, op := .mov (.t 8) },
          { d := some 51, op := .mov (.t 10) },
          { d := some 52, op := .vop .sidx [(.t 50), (.t 51)] },
          { d := some 53, op := .bin .geq (.t 52) (.c (.int .u8 48)) },
          { d := some 54, op := .mov (.t 53) },
          { d := some 55, op := .mov (.t 8), guard := some (54, true) },
          { d := some 56, op := .mov (.t 10), guard := some (54, true) },
          { d := some 57, op := .vop .sidx [(.t 55), (.t 56)], guard := some (54, true) },
          { d := some 58, op := .bin .leq (.t 57) (.c (.int .u8 57)), guard := some (54, true) },
          { d := some 59, op := .pick (.t 54) (.t 58) (.c (.bool false)) }])
        (.cond (.t 59)
          (.seq (.reg 9 false [
            { d := some 60, op := .mov (.t 9) },
            { d := some 61, op := .bin .mul (.c (.int .i64 10)) (.t 60) },
            { d := some 62, op := .mov (.t 8) },
            { d := some 63, op := .mov (.t 10) },
            { d := some 64, op := .vop .sidx [(.t 62), (.t 63)] },
            { d := some 65, op := .bin .sub (.t 64) (.c (.int .u8 48)) },
            { d := some 66, op := .conv .i64 (.t 65) },
            { d := some 67, op := .bin .add (.t 61) (.t 66) },
            { d := some 9, op := .mov (.t 67) }])
          (.exit 1))
          (.skip)))
        (.reg 10 false [
          { d := some 68, op := .call 69 [.c (.bool false)] }]))))
      (.reg 11 false [
        { d := some 69, op := .bin .add (.t 47) (.c (.int .i64 1)) },
        { d := some 47, op := .mov (.t 69) }])))))))
  (.seq (.reg 12 false [
    { d := some 70, op := .mov (.t 9) },
    { d := some 4, op := .mov (.t 70) }])
  (.ret)))))))))
def rr_size_unit_number : List RRes := [.t 4]
theorem pc_size_unit_number {G : Nat → Option (List AV)} {args : List AV} {v : AV} (hn : args.length ≤ Tryd.f70.ntmps) (h : ∀ R : Run, R.G = G → AR Tryd.prog R rc_size_unit_number (initSt args) (Fin rr_size_unit_number v)) : PC Tryd.prog G 70 args v :=
  PC_of Tryd.func70 rfl (by kernel_rfl) (rc := rc_size_unit_number) (by kernel_rfl) (rs := rr_size_unit_number) (by kernel_rfl) hn (fun R _ hG => h R hG)

theorem pb_size_unit_number {G : Nat → Option (List AV)} {objs objs' : List (Nat × AObj)} {args : List AV} {v : AV} (hn : args.length ≤ Tryd.f70.ntmps) (h : ∀ R : Run, R.G = G → AR Tryd.prog R rc_size_unit_number ⟨iniT 0 args, objs⟩ (FinB rr_size_unit_number v objs')) : PB Tryd.prog G 70 objs args v objs' :=
  PB_of Tryd.func70 rfl (by kernel_rfl) (rc := rc_size_unit_number) (by kernel_rfl) (rs := rr_size_unit_number) (by kernel_rfl) hn (fun R _ hG => h R hG)

theorem pp_size_unit_number {G : Nat → Option (List AV)} {args : List AV} {ch : List PanicEntry} (hn : args.length ≤ Tryd.f70.ntmps) (h : ∀ R : Run, R.G = G → AR Tryd.prog R rc_size_unit_number (initSt args) (FinP ch)) : PPC Tryd.prog G 70 args ch :=
  PPC_of Tryd.func70 rfl (by kernel_rfl) (rc := rc_size_unit_number) (by kernel_rfl) hn (fun R _ hG => h R hG)

def rc_size_unit_deviation : RCode :=
  .seq (.reg 0 false [
    { d := some 2, op := .box (.t 0) },
    { d := some 4, op := .mov (.c (.int .i64 0)) }])
  (.seq (.reg 1 false [
    { d := some 6, op := .mov (.t 1) },
    { d := some 7, op := .slen (.t 6) },
    { d := some 8, op := .bin .gtr (.t 7) (.c (.int .i64 0)) },
    { d := some 9, op := .mov (.t 8) },
    { d := some 10, op := .mov (.t 1), guard := some (9, true) },
    { d := some 11, op := .vop .sidx [(.t 10), (.c (.int .i64 0))], guard := some (9, true) },
    { d := some 12, op := .bin .eql (.t 11) (.c (.int .u8 43)), guard := some (9, true) },
    { d := some 13, op := .mov (.t 12), guard := some (9, true) },
    { d := some 14, op := .mov (.t 1), guard := some (13, false) },
    { d := some 15, op := .vop .sidx [(.t 14), (.c (.int .i64 0))], guard := some (13, false) },
    { d := some 16, op := .bin .eql (.t 15) (.c (.int .u8 45)), guard := some (13, false) },
    { d := some 17, op := .pick (.t 13) (.c (.bool true)) (.t 16), guard := some (9, true) },
    { d := some 18, op := .pick (.t 9) (.t 17) (.c (.bool false)) },
    { d := some 19, op := .call 69 [.t 18] }])
  (.seq (.reg 2 true [
    { d := some 20, op := .load true 4 (.t 2), aft := [] },
    { d := some 21, op := .mov (.t 1), aft := [] },
    { d := some 22, op := .sslc (.t 21) (some (.c (.int .i64 1))) none, aft := [1] },
    { d := some 23, op := .call 70 [.t 20, .t 22], aft := [0, 2] },
    { d := some 5, op := .mov (.t 23), aft := [3, 3, 0, 1, 2, 3] }])
  (.seq (.seq (.reg 3 false [
    { d := some 24, op := .mov (.t 1) },
    { d := some 25, op := .vop .sidx [(.t 24), (.c (.int .i64 0))] },
    { d := some 26, op := .bin .eql (.t 25) (.c (.int .u8 45)) }])
  (.cond (.t 26)
    (.seq (.reg 4 false [
      { d := some 27, op := .mov (.t 5) },
      { d := some 28, op := .bin .gtr (.t 27) (.c (.int .i64 0)) },
      { d := some 29, op := .call 69 [.t 28] }])
    (.seq (.reg 5 false [
      { d := some 30, op := .mov (.t 5) },
      { d := some 31, op := .un .neg (.t 30) },
      { d := some 4, op := .mov (.t 31) }])
    (.ret)))
    (.skip)))
  (.seq (.reg 6 false [
    { d := some 32, op := .mov (.t 5) },
    { d := some 4, op := .mov (.t 32) }])
  (.ret)))))
def rr_size_unit_deviation : List RRes := [.t 4]
theorem pc_size_unit_deviation {G : Nat → Option (List AV)} {args : List AV} {v : AV} (hn : args.length ≤ Tryd.f71.ntmps) (h : ∀ R : Run, R.G = G → AR Tryd.prog R rc_size_unit_deviation (initSt args) (Fin rr_size_unit_deviation v)) : PC Tryd.prog G 71 args v :=
  PC_of Tryd.func71 rfl (by kernel_rfl) (rc := rc_size_unit_deviation) (by kernel_rfl) (rs := rr_size_unit_deviation) (by kernel_rfl) hn (fun R _ hG => h R hG)

theorem pb_size_unit_deviation {G : Nat → Option (List AV)} {objs objs' : List (Nat × AObj)} {args : List AV} {v : AV} (hn : args.length ≤ Tryd.f71.ntmps) (h : ∀ R : Run, R.G = G → AR Tryd.prog R rc_size_unit_deviation ⟨iniT 0 args, objs⟩ (FinB rr_size_unit_deviation v objs')) : PB Tryd.prog G 71 objs args v objs' :=
  PB_of Tryd.func71 rfl (by kernel_rfl) (rc := rc_size_unit_deviation) (by kernel_rfl) (rs := rr_size_unit_deviation) (by kernel_rfl) hn (fun R _ hG => h R hG)

theorem pp_size_unit_deviation {G : Nat → Option (List AV)} {args : List AV} {ch : List PanicEntry} (hn : args.length ≤ Tryd.f71.ntmps) (h : ∀ R : Run, R.G = G → AR Tryd.prog R rc_size_unit_deviation (initSt args) (FinP ch)) : PPC Tryd.prog G 71 args ch :=
  PPC_of Tryd.func71 rfl (by kernel_rfl) (rc := rc_size_unit_deviation) (by kernel_rfl) hn (fun R _ hG => h R hG)

def rc_law01_alive : RCode :=
  .seq (.reg 0 false [
    { d := some 0, op := .mov (.c (.bool false)) }])
  (.seq (.reg 1 false [
    { d := some 30, op := .call 48 [] },
    { d := some 31, op := .call 16 [.t 30, .c (.int .u8 2)] },
    { d := some 29, op := .mov (.t 31) },
    { d := some 32, op := .ext 0 (.t 29) },
    { d := some 33, op := .ext 1 (.t 29) },
    { d := some 1, op := .alloc [.int .i64 0, .int .i64 0, .int .i64 0] },
    { d := none, op := .store 3 (.t 1) (.t 32) },
    { d := some 2, op := .mov (.t 33) }])
  (.seq (.reg 2 false [
    { d := some 35, op := .load true 3 (.t 1) },
    { d := some 36, op := .call 35 [.t 35, .c (.int .u8 2)] },
    { d := some 34, op := .mov (.t 36) },
    { d := some 37, op := .ext 0 (.t 34) },
    { d := some 38, op := .ext 1 (.t 34) },
    { d := some 3, op := .mov (.t 37) },
    { d := some 4, op := .mov (.t 38) }])
  (.seq (.reg 3 false [
    { d := some 40, op := .call 48 [] },
    { d := some 41, op := .call 20 [.t 40, .c (.int .u8 2)] },
    { d := some 39, op := .mov (.t 41) },
    { d := some 42, op := .ext 0 (.t 39) },
    { d := some 43, op := .ext 1 (.t 39) },
    { d := some 44, op := .ext 2 (.t 39) },
    { d := some 5, op := .mov (.t 42) },
    { d := some 6, op := .mov (.t 43) },
    { d := some 7, op := .mov (.t 44) }])
  (.seq (.reg 4 false [
    { d := some 46, op := .call 48 [] },
    { d := some 47, op := .bsl false 1 2 [.int .u8 0, .int .u8 0] [(0, .c (.int .u8 2)), (1, .c (.int .u8 1))] },
    { d := some 48, op := .call 18 [.t 46, .t 47] },
    { d := some 45, op := .mov (.t 48) },
    { d := some 49, op := .ext 0 (.t 45) },
    { d := some 50, op := .ext 1 (.t 45) },
    { d := some 8, op := .alloc [.int .i64 0, .int .i64 0, .int .i64 0] },
    { d := none, op := .store 3 (.t 8) (.t 49) },
    { d := some 9, op := .mov (.t 50) }])
  (.seq (.reg 5 false [
    { d := some 52, op := .load true 3 (.t 8) },
    { d := some 53, op := .call 35 [.t 52, .c (.int .u8 1)] },
    { d := some 51, op := .mov (.t 53) },
    { d := some 54, op := .ext 0 (.t 51) },
    { d := some 55, op := .ext 1 (.t 51) },
    { d := some 10, op := .mov (.t 54) },
    { d := some 11, op := .mov (.t 55) }])
  (.seq (.reg 6 false [
    { d := some 57, op := .call 48 [] },
    { d := some 58, op := .call 33 [.t 57] },
    { d := some 56, op := .mov (.t 58) },
    { d := some 59, op := .ext 0 (.t 56) },
    { d := some 60, op := .ext 1 (.t 56) },
    { d := some 12, op := .mov (.t 59) },
    { d := some 13, op := .mov (.t 60) }])
  (.seq (.reg 7 false [
    { d := some 62, op := .call 48 [] },
    { d := some 63, op := .call 74 [] },
    { d := some 64, op := .call 24 [.t 62, .t 63] },
    { d := some 61, op := .mov (.t 64) },
    { d := some 65, op := .ext 0 (.t 61) },
    { d := some 66, op := .ext 1 (.t 61) },
    { d := some 67, op := .ext 2 (.t 61) },
    { d := some 14, op := .alloc [.int .i64 0, .int .i64 0] },
    { d := none, op := .store 2 (.t 14) (.t 65) },
    { d := some 15, op := .mov (.t 66) },
    { d := some 16, op := .mov (.t 67) }])
  (.seq (.reg 8 false [
    { d := some 69, op := .call 48 [] },
    { d := some 70, op := .build [.int .i64 0, .int .i64 0] [(0, 1, .c (.int .i64 700)), (1, 1, .c (.int .i64 4100))] },
    { d := some 71, op := .call 26 [.t 69, .t 70] },
    { d := some 68, op := .mov (.t 71) },
    { d := some 72, op := .ext 0 (.t 68) },
    { d := some 73, op := .ext 1 (.t 68) },
    { d := some 17, op := .alloc [.int .i64 0, .int .i64 0, .int .i64 0] },
    { d := none, op := .store 3 (.t 17) (.t 72) },
    { d := some 18, op := .mov (.t 73) }])
  (.seq (.reg 9 false [
    { d := some 75, op := .call 48 [] },
    { d := some 76, op := .call 74 [] },
    { d := some 77, op := .bsl false 3 2 [.int .i64 0, .int .i64 0, .int .i64 0, .int .i64 0, .int .i64 0, .int .i64 0] [(0, .t 75), (1, .t 76)] },
    { d := some 78, op := .call 30 [.t 77] },
    { d := some 74, op := .mov (.t 78) },
    { d := some 79, op := .ext 0 (.t 74) },
    { d := some 80, op := .ext 1 (.t 74) },
    { d := some 19, op := .alloc [.int .i64 0, .int .i64 0] },
    { d := none, op := .store 2 (.t 19) (.t 79) },
    { d := some 20, op := .mov (.t 80) }])
  (.seq (.reg 10 false [
    { d := some 82, op := .call 37 [.c (.str ⟨#[50, 48, 46, 48, 48, 48, 32, 45, 48, 46, 48, 50, 48, 32, 45, 48, 46, 48, 48, 55, 32, 109, 109]⟩)] },
    { d := some 81, op := .mov (.t 82) },
    { d := some 83, op := .ext 0 (.t 81) },
    { d := some 84, op := .ext 1 (.t 81) },
    { d := some 85, op := .ext 2 (.t 81) },
    { d := some 21, op := .alloc [.int .i64 0, .int .i64 0, .int .i64 0] },
    { d := none, op := .store 3 (.t 21) (.t 83) },
    { d := some 22, op := .mov (.t 84) },
    { d := some 23, op := .mov (.t 85) }])
  (.seq (.reg 11 true [
    { d := some 87, op := .load true 3 (.t 1), aft := [] },
    { d := some 88, op := .call 48 [], aft := [] },
    { d := some 89, op := .call 22 [.t 87, .t 88], aft := [0, 1, 1] },
    { d := some 86, op := .mov (.t 89), aft := [2] },
    { d := some 90, op := .ext 0 (.t 86), aft := [3] },
    { d := some 91, op := .ext 1 (.t 86), aft := [3] },
    { d := some 24, op := .mov (.t 90), aft := [4, 2, 0, 1, 2, 3, 4] },
    { d := some 25, op := .mov (.t 91), aft := [5, 6, 0, 1, 2, 3, 4, 5, 6] }])
  (.seq (.reg 12 false [
    { d := some 93, op := .build [.int .i64 0, .int .i64 0] [(0, 1, .c (.int .i64 700)), (1, 1, .c (.int .i64 4100))] },
    { d := some 94, op := .call 28 [.c (.int .i64 2000000), .t 93, .c (.int .u8 1)] },
    { d := some 92, op := .mov (.t 94) },
    { d := some 95, op := .ext 0 (.t 92) },
    { d := some 96, op := .ext 1 (.t 92) },
    { d := some 97, op := .ext 2 (.t 92) },
    { d := some 26, op := .alloc [.int .i64 0, .int .i64 0, .int .i64 0] },
    { d := some 27, op := .alloc [.int .i64 0, .int .i64 0, .int .i64 0] },
    { d := none, op := .store 3 (.t 26) (.t 95) },
    { d := none, op := .store 3 (.t 27) (.t 96) },
    { d := some 28, op := .mov (.t 97) }])
  (.seq (.seq (.reg 13 true [
    { d := some 98, op := .mov (.t 2), aft := [] },
    { d := some 99, op := .bin .neq (.t 98) (.c (.int .i64 0)), aft := [0] },
    { d := some 100, op := .mov (.t 99), aft := [1] },
    { d := some 101, op := .load true 3 (.t 1), guard := some (100, false), aft := [2] },
    { d := some 102, op := .call 75 [], guard := some (100, false), aft := [2, 2] },
    { d := some 103, op := .eqs true [.i, .i, .i] (.t 101) (.t 102), guard := some (100, false), aft := [3, 4, 2] },
    { d := some 104, op := .pick (.t 100) (.c (.bool true)) (.t 103), aft := [2, 5] },
    { d := some 105, op := .mov (.t 104), aft := [6, 4] },
    { d := some 106, op := .mov (.t 4), guard := some (105, false), aft := [7] },
    { d := some 107, op := .bin .neq (.t 106) (.c (.int .i64 0)), guard := some (105, false), aft := [8, 7] },
    { d := some 108, op := .pick (.t 105) (.c (.bool true)) (.t 107), aft := [7, 9] },
    { d := some 109, op := .mov (.t 108), aft := [10, 7] },
    { d := some 110, op := .mov (.t 3), guard := some (109, false), aft := [11] },
    { d := some 111, op := .bin .neq (.t 110) (.c (.str ⟨#[48, 46, 55, 56, 55, 52, 32, 43, 48, 46, 48, 48, 48, 49, 32, 43, 48, 46, 48, 48, 48, 56, 32, 105, 110]⟩)), guard := some (109, false), aft := [12, 11] },
    { d := some 112, op := .pick (.t 109) (.c (.bool true)) (.t 111), aft := [11, 13] },
    { d := some 113, op := .mov (.t 112), aft := [14, 11] },
    { d := some 114, op := .mov (.t 7), guard := some (113, false), aft := [15] },
    { d := some 115, op := .bin .neq (.t 114) (.c (.int .i64 0)), guard := some (113, false), aft := [16, 15] },
    { d := some 116, op := .pick (.t 113) (.c (.bool true)) (.t 115), aft := [15, 17] },
    { d := some 117, op := .mov (.t 116), aft := [18, 15] },
    { d := some 118, op := .mov (.t 5), guard := some (117, false), aft := [19] },
    { d := some 119, op := .bin .neq (.t 118) (.c (.int .i64 250)), guard := some (117, false), aft := [20, 19] },
    { d := some 120, op := .pick (.t 117) (.c (.bool true)) (.t 119), aft := [19, 21] },
    { d := some 121, op := .mov (.t 120), aft := [22, 19] },
    { d := some 122, op := .mov (.t 6), guard := some (121, false), aft := [23] },
    { d := some 123, op := .bin .neq (.t 122) (.c (.int .i64 72)), guard := some (121, false), aft := [24, 23] },
    { d := some 124, op := .pick (.t 121) (.c (.bool true)) (.t 123), aft := [23, 25] },
    { d := some 125, op := .mov (.t 124), aft := [26, 23] },
    { d := some 126, op := .mov (.t 9), guard := some (125, false), aft := [27] },
    { d := some 127, op := .bin .neq (.t 126) (.c (.int .i64 0)), guard := some (125, false), aft := [28, 27] },
    { d := some 128, op := .pick (.t 125) (.c (.bool true)) (.t 127), aft := [27, 29] },
    { d := some 129, op := .mov (.t 128), aft := [30, 27] },
    { d := some 130, op := .mov (.t 11), guard := some (129, false), aft := [31] },
    { d := some 131, op := .bin .neq (.t 130) (.c (.int .i64 0)), guard := some (129, false), aft := [32, 31] },
    { d := some 132, op := .pick (.t 129) (.c (.bool true)) (.t 131), aft := [31, 33] },
    { d := some 133, op := .mov (.t 132), aft := [34, 31] },
    { d := some 134, op := .load true 3 (.t 8), guard := some (133, false), aft := [35] },
    { d := some 135, op := .call 44 [.c (.int .i64 2000000), .c (.int .i64 2000300), .c (.int .i64 2002000)], guard := some (133, false), aft := [35, 35] },
    { d := some 136, op := .eqs true [.i, .i, .i] (.t 134) (.t 135), guard := some (133, false), aft := [36, 37, 35] },
    { d := some 137, op := .pick (.t 133) (.c (.bool true)) (.t 136), aft := [35, 38] },
    { d := some 138, op := .mov (.t 137), aft := [39, 37] },
    { d := some 139, op := .mov (.t 10), guard := some (138, false), aft := [40] },
    { d := some 140, op := .bin .neq (.t 139) (.c (.str ⟨#[50, 48, 46, 48, 48, 48, 32, 43, 48, 46, 48, 48, 51, 32, 43, 48, 46, 48, 50, 48, 32, 109, 109]⟩)), guard := some (138, false), aft := [41, 40] },
    { d := some 141, op := .pick (.t 138) (.c (.bool true)) (.t 140), aft := [40, 42] },
    { d := some 142, op := .mov (.t 141), aft := [43, 40] },
    { d := some 143, op := .mov (.t 13), guard := some (142, false), aft := [44] },
    { d := some 144, op := .bin .neq (.t 143) (.c (.int .i64 0)), guard := some (142, false), aft := [45, 44] },
    { d := some 145, op := .pick (.t 142) (.c (.bool true)) (.t 144), aft := [44, 46] },
    { d := some 146, op := .mov (.t 145), aft := [47, 44] },
    { d := some 147, op := .mov (.t 12), guard := some (146, false), aft := [48] },
    { d := some 148, op := .bin .neq (.t 147) (.c (.int .u8 1)), guard := some (146, false), aft := [49, 48] },
    { d := some 149, op := .pick (.t 146) (.c (.bool true)) (.t 148), aft := [48, 50] }])
  (.cond (.t 149)
    (.seq (.reg 14 false [
      { d := some 0, op := .mov (.c (.bool false)) }])
    (.ret))
    (.skip)))
  (.seq (.reg 15 true [
    { d := some 150, op := .mov (.t 16), aft := [] },
    { d := some 151, op := .bin .eql (.t 150) (.c (.int .i64 0)), aft := [0] },
    { d := some 152, op := .mov (.t 151), aft := [1] },
    { d := some 153, op := .load true 2 (.t 14), guard := some (152, true), aft := [2] },
    { d := some 154, op := .build [.int .i64 0, .int .i64 0] [(0, 1, .c (.int .i64 (-2800))), (1, 1, .c (.int .i64 600))], guard := some (152, true), aft := [2] },
    { d := some 155, op := .eqs false [.i, .i] (.t 153) (.t 154), guard := some (152, true), aft := [3, 4, 2] },
    { d := some 156, op := .pick (.t 152) (.t 155) (.c (.bool false)), aft := [2, 5] },
    { d := some 157, op := .mov (.t 156), aft := [6, 2] },
    { d := some 158, op := .mov (.t 15), guard := some (157, true), aft := [7] },
    { d := some 159, op := .bin .eql (.t 158) (.c (.int .u8 3)), guard := some (157, true), aft := [8, 7] },
    { d := some 160, op := .pick (.t 157) (.t 159) (.c (.bool false)), aft := [7, 9] },
    { d := some 161, op := .mov (.t 160), aft := [10, 7] },
    { d := some 162, op := .mov (.t 18), guard := some (161, true), aft := [11] },
    { d := some 163, op := .bin .eql (.t 162) (.c (.int .i64 0)), guard := some (161, true), aft := [12, 11] },
    { d := some 164, op := .pick (.t 161) (.t 163) (.c (.bool false)), aft := [11, 13] },
    { d := some 165, op := .mov (.t 164), aft := [14, 11] },
    { d := some 166, op := .load true 3 (.t 17), guard := some (165, true), aft := [15] },
    { d := some 167, op := .call 49 [], guard := some (165, true), aft := [15, 15] },
    { d := some 168, op := .eqs false [.i, .i, .i] (.t 166) (.t 167), guard := some (165, true), aft := [16, 17, 15] },
    { d := some 169, op := .pick (.t 165) (.t 168) (.c (.bool false)), aft := [15, 18] },
    { d := some 170, op := .mov (.t 169), aft := [19, 17] },
    { d := some 171, op := .mov (.t 20), guard := some (170, true), aft := [20] },
    { d := some 172, op := .bin .eql (.t 171) (.c (.int .i64 0)), guard := some (170, true), aft := [21, 20] },
    { d := some 173, op := .pick (.t 170) (.t 172) (.c (.bool false)), aft := [20, 22] },
    { d := some 174, op := .mov (.t 173), aft := [23, 20] },
    { d := some 175, op := .load true 2 (.t 19), guard := some (174, true), aft := [24] },
    { d := some 176, op := .build [.int .i64 0, .int .i64 0] [(0, 1, .c (.int .i64 2001500)), (1, 1, .c (.int .i64 2002100))], guard := some (174, true), aft := [24] },
    { d := some 177, op := .eqs false [.i, .i] (.t 175) (.t 176), guard := some (174, true), aft := [25, 26, 24] },
    { d := some 178, op := .pick (.t 174) (.t 177) (.c (.bool false)), aft := [24, 27] },
    { d := some 179, op := .mov (.t 178), aft := [28, 24] },
    { d := some 180, op := .mov (.t 23), guard := some (179, true), aft := [29] },
    { d := some 181, op := .bin .eql (.t 180) (.c (.int .i64 0)), guard := some (179, true), aft := [30, 29] },
    { d := some 182, op := .pick (.t 179) (.t 181) (.c (.bool false)), aft := [29, 31] },
    { d := some 183, op := .mov (.t 182), aft := [32, 29] },
    { d := some 184, op := .load true 3 (.t 21), guard := some (183, true), aft := [33] },
    { d := some 185, op := .call 49 [], guard := some (183, true), aft := [33, 33] },
    { d := some 186, op := .eqs false [.i, .i, .i] (.t 184) (.t 185), guard := some (183, true), aft := [34, 35, 33] },
    { d := some 187, op := .pick (.t 183) (.t 186) (.c (.bool false)), aft := [33, 36] },
    { d := some 188, op := .mov (.t 187), aft := [37, 35] },
    { d := some 189, op := .mov (.t 22), guard := some (188, true), aft := [38] },
    { d := some 190, op := .bin .eql (.t 189) (.c (.int .u8 1)), guard := some (188, true), aft := [39, 38] },
    { d := some 191, op := .pick (.t 188) (.t 190) (.c (.bool false)), aft := [38, 40] },
    { d := some 192, op := .mov (.t 191), aft := [41, 38] },
    { d := some 193, op := .mov (.t 25), guard := some (192, true), aft := [42] },
    { d := some 194, op := .bin .eql (.t 193) (.c (.int .i64 0)), guard := some (192, true), aft := [43, 42] },
    { d := some 195, op := .pick (.t 192) (.t 194) (.c (.bool false)), aft := [42, 44] },
    { d := some 196, op := .mov (.t 195), aft := [45, 42] },
    { d := some 197, op := .mov (.t 24), guard := some (196, true), aft := [46] },
    { d := some 198, op := .pick (.t 196) (.t 197) (.c (.bool false)), aft := [46, 47] },
    { d := some 199, op := .mov (.t 198), aft := [48, 46] },
    { d := some 200, op := .mov (.t 28), guard := some (199, true), aft := [49] },
    { d := some 201, op := .bin .eql (.t 200) (.c (.int .i64 0)), guard := some (199, true), aft := [50, 49] },
    { d := some 202, op := .pick (.t 199) (.t 201) (.c (.bool false)), aft := [49, 51] },
    { d := some 203, op := .mov (.t 202), aft := [52, 49] },
    { d := some 204, op := .load true 3 (.t 26), guard := some (203, true), aft := [53] },
    { d := some 205, op := .call 44 [.c (.int .i64 2000000), .c (.int .i64 2000000), .c (.int .i64 2001700)], guard := some (203, true), aft := [53, 53] },
    { d := some 206, op := .eqs false [.i, .i, .i] (.t 204) (.t 205), guard := some (203, true), aft := [54, 55, 53] },
    { d := some 207, op := .pick (.t 203) (.t 206) (.c (.bool false)), aft := [53, 56] },
    { d := some 208, op := .mov (.t 207), aft := [57, 55] },
    { d := some 209, op := .load true 3 (.t 27), guard := some (208, true), aft := [58] },
    { d := some 210, op := .call 44 [.c (.int .i64 2000000), .c (.int .i64 1997600), .c (.int .i64 1999300)], guard := some (208, true), aft := [58, 58] },
    { d := some 211, op := .eqs false [.i, .i, .i] (.t 209) (.t 210), guard := some (208, true), aft := [59, 60, 58] },
    { d := some 212, op := .pick (.t 208) (.t 211) (.c (.bool false)), aft := [58, 61] },
    { d := some 0, op := .mov (.t 212), aft := [62, 60, 0, 1, 2, 3, 4, 5, 6, 7, 8, 9, 10, 11, 12, 13, 14, 15, 16, 17, 18, 19, 20, 21, 22, 23, 24, 25, 26, 27, 28, 29, 30, 31, 32, 33, 34, 35, 36, 37, 38, 39, 40, 41, 42, 43, 44, 45, 46, 47, 48, 49, 50, 51, 52, 53, 54, 55, 56, 57, 58, 59, 60, 61, 62] }])
  (.ret)))))))))))))))
def rr_law01_alive : List RRes := [.t 0]
theorem pc_law01_alive {G : Nat → Option (List AV)} {args : List AV} {v : AV} (hn : args.length ≤ Tryd.f41.ntmps) (h : ∀ R : Run, R.G = G → AR Tryd.prog R rc_law01_alive (initSt args) (Fin rr_law01_alive v)) : PC Tryd.prog G 41 args v :=
  PC_of Tryd.func41 rfl (by kernel_rfl) (rc := rc_law01_alive) (by kernel_rfl) (rs := rr_law01_alive) (by kernel_rfl) hn (fun R _ hG => h R hG)

theorem pb_law01_alive {G : Nat → Option (List AV)} {objs objs' : List (Nat × AObj)} {args : List AV} {v : AV} (hn : args.length ≤ Tryd.f41.ntmps) (h : ∀ R : Run, R.G = G → AR Tryd.prog R rc_law01_alive ⟨iniT 0 args, objs⟩ (FinB rr_law01_alive v objs')) : PB Tryd.prog G 41 objs args v objs' :=
  PB_of Tryd.func41 rfl (by kernel_rfl) (rc := rc_law01_alive) (by kernel_rfl) (rs := rr_law01_alive) (by kernel_rfl) hn (fun R _ hG => h R hG)

theorem pp_law01_alive {G : Nat → Option (List AV)} {args : List AV} {ch : List PanicEntry} (hn : args.length ≤ Tryd.f41.ntmps) (h : ∀ R : Run, R.G = G → AR Tryd.prog R rc_law01_alive (initSt args) (FinP ch)) : PPC Tryd.prog G 41 args ch :=
  PPC_of Tryd.func41 rfl (by kernel_rfl) (rc := rc_law01_alive) (by kernel_rfl) hn (fun R _ hG => h R hG)

def rc_law01_dim : RCode :=
  .seq (.reg 0 false [
    { d := some 6, op := .alloc [.int .i64 0, .int .i64 0, .int .i64 0] }])
  (.seq (.reg 1 false [
    { d := some 7, op := .mov (.t 0) },
    { d := some 8, op := .mov (.t 1) },
    { d := some 9, op := .mov (.t 2) },
    { d := some 10, op := .build [.int .i64 0, .int .i64 0, .int .i64 0] [(0, 1, .t 7), (1, 1, .t 8), (2, 1, .t 9)] },
    { d := none, op := .store 3 (.t 6) (.t 10) }])
  (.ret))
def rr_law01_dim : List RRes := [.c 6 true 3]
theorem pc_law01_dim {G : Nat → Option (List AV)} {args : List AV} {v : AV} (hn : args.length ≤ Tryd.f44.ntmps) (h : ∀ R : Run, R.G = G → AR Tryd.prog R rc_law01_dim (initSt args) (Fin rr_law01_dim v)) : PC Tryd.prog G 44 args v :=
  PC_of Tryd.func44 rfl (by kernel_rfl) (rc := rc_law01_dim) (by kernel_rfl) (rs := rr_law01_dim) (by kernel_rfl) hn (fun R _ hG => h R hG)

theorem pb_law01_dim {G : Nat → Option (List AV)} {objs objs' : List (Nat × AObj)} {args : List AV} {v : AV} (hn : args.length ≤ Tryd.f44.ntmps) (h : ∀ R : Run, R.G = G → AR Tryd.prog R rc_law01_dim ⟨iniT 0 args, objs⟩ (FinB rr_law01_dim v objs')) : PB Tryd.prog G 44 objs args v objs' :=
  PB_of Tryd.func44 rfl (by kernel_rfl) (rc := rc_law01_dim) (by kernel_rfl) (rs := rr_law01_dim) (by kernel_rfl) hn (fun R _ hG => h R hG)

theorem pp_law01_dim {G : Nat → Option (List AV)} {args : List AV} {ch : List PanicEntry} (hn : args.length ≤ Tryd.f44.ntmps) (h : ∀ R : Run, R.G = G → AR Tryd.prog R rc_law01_dim (initSt args) (FinP ch)) : PPC Tryd.prog G 44 args ch :=
  PPC_of Tryd.func44 rfl (by kernel_rfl) (rc := rc_law01_dim) (by kernel_rfl) hn (fun R _ hG => h R hG)

def rc_law01_hole : RCode :=
  .seq (.reg 0 false [
    { d := some 0, op := .alloc [.int .i64 0, .int .i64 0, .int .i64 0] }])
  (.seq (.reg 1 false [
    { d := some 1, op := .call 44 [.c (.int .i64 2000000), .c (.int .i64 2000000), .c (.int .i64 2002100)] },
    { d := none, op := .store 3 (.t 0) (.t 1) }])
  (.ret))
def rr_law01_hole : List RRes := [.c 0 true 3]
theorem pc_law01_hole {G : Nat → Option (List AV)} {args : List AV} {v : AV} (hn : args.length ≤ Tryd.f48.ntmps) (h : ∀ R : Run, R.G = G → AR Tryd.prog R rc_law01_hole (initSt args) (Fin rr_law01_hole v)) : PC Tryd.prog G 48 args v :=
  PC_of Tryd.func48 rfl (by kernel_rfl) (rc := rc_law01_hole) (by kernel_rfl) (rs := rr_law01_hole) (by kernel_rfl) hn (fun R _ hG => h R hG)

theorem pb_law01_hole {G : Nat → Option (List AV)} {objs objs' : List (Nat × AObj)} {args : List AV} {v : AV} (hn : args.length ≤ Tryd.f48.ntmps) (h : ∀ R : Run, R.G = G → AR Tryd.prog R rc_law01_hole ⟨iniT 0 args, objs⟩ (FinB rr_law01_hole v objs')) : PB Tryd.prog G 48 objs args v objs' :=
  PB_of Tryd.func48 rfl (by kernel_rfl) (rc := rc_law01_hole) (by kernel_rfl) (rs := rr_law01_hole) (by kernel_rfl) hn (fun R _ hG => h R hG)

theorem pp_law01_hole {G : Nat → Option (List AV)} {args : List AV} {ch : List PanicEntry} (hn : args.length ≤ Tryd.f48.ntmps) (h : ∀ R : Run, R.G = G → AR Tryd.prog R rc_law01_hole (initSt args) (FinP ch)) : PPC Tryd.prog G 48 args ch :=
  PPC_of Tryd.func48 rfl (by kernel_rfl) (rc := rc_law01_hole) (by kernel_rfl) hn (fun R _ hG => h R hG)

def rc_law01_shaft : RCode :=
  .seq (.reg 0 false [
    { d := some 0, op := .alloc [.int .i64 0, .int .i64 0, .int .i64 0] }])
  (.seq (.reg 1 false [
    { d := some 1, op := .call 44 [.c (.int .i64 2000000), .c (.int .i64 1998000), .c (.int .i64 1999300)] },
    { d := none, op := .store 3 (.t 0) (.t 1) }])
  (.ret))
def rr_law01_shaft : List RRes := [.c 0 true 3]
theorem pc_law01_shaft {G : Nat → Option (List AV)} {args : List AV} {v : AV} (hn : args.length ≤ Tryd.f49.ntmps) (h : ∀ R : Run, R.G = G → AR Tryd.prog R rc_law01_shaft (initSt args) (Fin rr_law01_shaft v)) : PC Tryd.prog G 49 args v :=
  PC_of Tryd.func49 rfl (by kernel_rfl) (rc := rc_law01_shaft) (by kernel_rfl) (rs := rr_law01_shaft) (by kernel_rfl) hn (fun R _ hG => h R hG)

theorem pb_law01_shaft {G : Nat → Option (List AV)} {objs objs' : List (Nat × AObj)} {args : List AV} {v : AV} (hn : args.length ≤ Tryd.f49.ntmps) (h : ∀ R : Run, R.G = G → AR Tryd.prog R rc_law01_shaft ⟨iniT 0 args, objs⟩ (FinB rr_law01_shaft v objs')) : PB Tryd.prog G 49 objs args v objs' :=
  PB_of Tryd.func49 rfl (by kernel_rfl) (rc := rc_law01_shaft) (by kernel_rfl) (rs := rr_law01_shaft) (by kernel_rfl) hn (fun R _ hG => h R hG)

theorem pp_law01_shaft {G : Nat → Option (List AV)} {args : List AV} {ch : List PanicEntry} (hn : args.length ≤ Tryd.f49.ntmps) (h : ∀ R : Run, R.G = G → AR Tryd.prog R rc_law01_shaft (initSt args) (FinP ch)) : PPC Tryd.prog G 49 args ch :=
  PPC_of Tryd.func49 rfl (by kernel_rfl) (rc := rc_law01_shaft) (by kernel_rfl) hn (fun R _ hG => h R hG)

def rc_law01_press : RCode :=
  .seq (.reg 0 false [
    { d := some 0, op := .alloc [.int .i64 0, .int .i64 0, .int .i64 0] }])
  (.seq (.reg 1 false [
    { d := some 1, op := .call 44 [.c (.int .i64 2000000), .c (.int .i64 2001500), .c (.int .i64 2002800)] },
    { d := none, op := .store 3 (.t 0) (.t 1) }])
  (.ret))
def rr_law01_press : List RRes := [.c 0 true 3]
theorem pc_law01_press {G : Nat → Option (List AV)} {args : List AV} {v : AV} (hn : args.length ≤ Tryd.f74.ntmps) (h : ∀ R : Run, R.G = G → AR Tryd.prog R rc_law01_press (initSt args) (Fin rr_law01_press v)) : PC Tryd.prog G 74 args v :=
  PC_of Tryd.func74 rfl (by kernel_rfl) (rc := rc_law01_press) (by kernel_rfl) (rs := rr_law01_press) (by kernel_rfl) hn (fun R _ hG => h R hG)

theorem pb_law01_press {G : Nat → Option (List AV)} {objs objs' : List (Nat × AObj)} {args : List AV} {v : AV} (hn : args.length ≤ Tryd.f74.ntmps) (h : ∀ R : Run, R.G = G → AR Tryd.prog R rc_law01_press ⟨iniT 0 args, objs⟩ (FinB rr_law01_press v objs')) : PB Tryd.prog G 74 objs args v objs' :=
  PB_of Tryd.func74 rfl (by kernel_rfl) (rc := rc_law01_press) (by kernel_rfl) (rs := rr_law01_press) (by kernel_rfl) hn (fun R _ hG => h R hG)

theorem pp_law01_press {G : Nat → Option (List AV)} {args : List AV} {ch : List PanicEntry} (hn : args.length ≤ Tryd.f74.ntmps) (h : ∀ R : Run, R.G = G → AR Tryd.prog R rc_law01_press (initSt args) (FinP ch)) : PPC Tryd.prog G 74 args ch :=
  PPC_of Tryd.func74 rfl (by kernel_rfl) (rc := rc_law01_press) (by kernel_rfl) hn (fun R _ hG => h R hG)

def rc_law01_thin : RCode :=
  .seq (.reg 0 false [
    { d := some 0, op := .alloc [.int .i64 0, .int .i64 0, .int .i64 0] }])
  (.seq (.reg 1 false [
    { d := some 1, op := .call 44 [.c (.int .i64 1999996), .c (.int .i64 2000250), .c (.int .i64 2002028)] },
    { d := none, op := .store 3 (.t 0) (.t 1) }])
  (.ret))
def rr_law01_thin : List RRes := [.c 0 true 3]
theorem pc_law01_thin {G : Nat → Option (List AV)} {args : List AV} {v : AV} (hn : args.length ≤ Tryd.f75.ntmps) (h : ∀ R : Run, R.G = G → AR Tryd.prog R rc_law01_thin (initSt args) (Fin rr_law01_thin v)) : PC Tryd.prog G 75 args v :=
  PC_of Tryd.func75 rfl (by kernel_rfl) (rc := rc_law01_thin) (by kernel_rfl) (rs := rr_law01_thin) (by kernel_rfl) hn (fun R _ hG => h R hG)

theorem pb_law01_thin {G : Nat → Option (List AV)} {objs objs' : List (Nat × AObj)} {args : List AV} {v : AV} (hn : args.length ≤ Tryd.f75.ntmps) (h : ∀ R : Run, R.G = G → AR Tryd.prog R rc_law01_thin ⟨iniT 0 args, objs⟩ (FinB rr_law01_thin v objs')) : PB Tryd.prog G 75 objs args v objs' :=
  PB_of Tryd.func75 rfl (by kernel_rfl) (rc := rc_law01_thin) (by kernel_rfl) (rs := rr_law01_thin) (by kernel_rfl) hn (fun R _ hG => h R hG)

theorem pp_law01_thin {G : Nat → Option (List AV)} {args : List AV} {ch : List PanicEntry} (hn : args.length ≤ Tryd.f75.ntmps) (h : ∀ R : Run, R.G = G → AR Tryd.prog R rc_law01_thin (initSt args) (FinP ch)) : PPC Tryd.prog G 75 args ch :=
  PPC_of Tryd.func75 rfl (by kernel_rfl) (rc := rc_law01_thin) (by kernel_rfl) hn (fun R _ hG => h R hG)

def rc_law01_step : RCode :=
  .seq (.reg 0 false [
    { d := some 2, op := .mov (.c (.int .u8 0)) },
    { d := some 3, op := .mov (.c (.int .i64 0)) }])
  (.seq (.seq (.reg 1 false [
    { d := some 4, op := .mov (.t 0) },
    { d := some 5, op := .bin .rem (.t 4) (.c (.int .u8 2)) },
    { d := some 6, op := .bin .eql (.t 5) (.c (.int .u8 0)) }])
  (.cond (.t 6)
    (.seq (.reg 2 false [
      { d := some 2, op := .mov (.c (.int .u8 1)) },
      { d := some 3, op := .mov (.c (.int .i64 100)) }])
    (.ret))
    (.skip)))
  (.seq (.reg 3 false [
    { d := some 2, op := .mov (.c (.int .u8 2)) },
    { d := some 3, op := .mov (.c (.int .i64 254)) }])
  (.ret)))
def rr_law01_step : List RRes := [.t 2, .t 3]
theorem pc_law01_step {G : Nat → Option (List AV)} {args : List AV} {v : AV} (hn : args.length ≤ Tryd.f43.ntmps) (h : ∀ R : Run, R.G = G → AR Tryd.prog R rc_law01_step (initSt args) (Fin rr_law01_step v)) : PC Tryd.prog G 43 args v :=
  PC_of Tryd.func43 rfl (by kernel_rfl) (rc := rc_law01_step) (by kernel_rfl) (rs := rr_law01_step) (by kernel_rfl) hn (fun R _ hG => h R hG)

theorem pb_law01_step {G : Nat → Option (List AV)} {objs objs' : List (Nat × AObj)} {args : List AV} {v : AV} (hn : args.length ≤ Tryd.f43.ntmps) (h : ∀ R : Run, R.G = G → AR Tryd.prog R rc_law01_step ⟨iniT 0 args, objs⟩ (FinB rr_law01_step v objs')) : PB Tryd.prog G 43 objs args v objs' :=
  PB_of Tryd.func43 rfl (by kernel_rfl) (rc := rc_law01_step) (by kernel_rfl) (rs := rr_law01_step) (by kernel_rfl) hn (fun R _ hG => h R hG)

theorem pp_law01_step {G : Nat → Option (List AV)} {args : List AV} {ch : List PanicEntry} (hn : args.length ≤ Tryd.f43.ntmps) (h : ∀ R : Run, R.G = G → AR Tryd.prog R rc_law01_step (initSt args) (FinP ch)) : PPC Tryd.prog G 43 args ch :=
  PPC_of Tryd.func43 rfl (by kernel_rfl) (rc := rc_law01_step) (by kernel_rfl) hn (fun R _ hG => h R hG)

def rc_law01_pick : RCode :=
  .seq (.reg 0 false [
    { d := some 2, op := .box (.t 0) },
    { d := some 4, op := .mov (.c (.int .i64 0)) }])
  (.seq (.reg 1 true [
    { d := some 5, op := .faddr 1 (.t 2), aft := [] },
    { d := some 6, op := .load false 1 (.t 5), aft := [0] },
    { d := some 7, op := .mov (.t 1), aft := [] },
    { d := some 8, op := .conv .i64 (.t 7), aft := [2] },
    { d := some 9, op := .faddr 2 (.t 2), aft := [] },
    { d := some 10, op := .load false 1 (.t 9), aft := [4] },
    { d := some 11, op := .faddr 1 (.t 2), aft := [] },
    { d := some 12, op := .load false 1 (.t 11), aft := [6] },
    { d := some 13, op := .bin .sub (.t 10) (.t 12), aft := [5, 7] },
    { d := some 14, op := .bin .add (.t 13) (.c (.int .i64 1)), aft := [8] },
    { d := some 15, op := .bin .rem (.t 8) (.t 14), aft := [3, 9] },
    { d := some 16, op := .bin .add (.t 6) (.t 15), aft := [1, 10] },
    { d := some 4, op := .mov (.t 16), aft := [11, 0, 1, 2, 3, 4, 5, 6, 7, 8, 9, 10, 11] }])
  (.ret))
def rr_law01_pick : List RRes := [.t 4]
theorem pc_law01_pick {G : Nat → Option (List AV)} {args : List AV} {v : AV} (hn : args.length ≤ Tryd.f45.ntmps) (h : ∀ R : Run, R.G = G → AR Tryd.prog R rc_law01_pick (initSt args) (Fin rr_law01_pick v)) : PC Tryd.prog G 45 args v :=
  PC_of Tryd.func45 rfl (by kernel_rfl) (rc := rc_law01_pick) (by kernel_rfl) (rs := rr_law01_pick) (by kernel_rfl) hn (fun R _ hG => h R hG)

theorem pb_law01_pick {G : Nat → Option (List AV)} {objs objs' : List (Nat × AObj)} {args : List AV} {v : AV} (hn : args.length ≤ Tryd.f45.ntmps) (h : ∀ R : Run, R.G = G → AR Tryd.prog R rc_law01_pick ⟨iniT 0 args, objs⟩ (FinB rr_law01_pick v objs')) : PB Tryd.prog G 45 objs args v objs' :=
  PB_of Tryd.func45 rfl (by kernel_rfl) (rc := rc_law01_pick) (by kernel_rfl) (rs := rr_law01_pick) (by kernel_rfl) hn (fun R _ hG => h R hG)

theorem pp_law01_pick {G : Nat → Option (List AV)} {args : List AV} {ch : List PanicEntry} (hn : args.length ≤ Tryd.f45.ntmps) (h : ∀ R : Run, R.G = G → AR Tryd.prog R rc_law01_pick (initSt args) (FinP ch)) : PPC Tryd.prog G 45 args ch :=
  PPC_of Tryd.func45 rfl (by kernel_rfl) (rc := rc_law01_pick) (by kernel_rfl) hn (fun R _ hG => h R hG)

def rc_law01_SizeInside : RCode :=
  .seq (.reg 0 false [
    { d := some 3, op := .box (.t 0) },
    { d := some 6, op := .mov (.c (.bool false)) }])
  (.seq (.reg 1 false [
    { d := some 22, op := .call 41 [] },
    { d := some 7, op := .mov (.t 22) }])
  (.seq (.seq (.reg 2 false [
    { d := some 23, op := .load true 3 (.t 3) },
    { d := some 24, op := .call 42 [.t 23] },
    { d := some 25, op := .un .not (.t 24) },
    { d := some 26, op := .mov (.t 25) },
    { d := some 27, op := .mov (.t 7), guard := some (26, false) },
    { d := some 28, op := .un .not (.t 27), guard := some (26, false) },
    { d := some 29, op := .pick (.t 26) (.c (.bool true)) (.t 28) }])
  (.cond (.t 29)
    (.seq (.reg 3 false [
      { d := some 30, op := .mov (.t 7) },
      { d := some 6, op := .mov (.t 30) }])
    (.ret))
    (.skip)))
  (.seq (.reg 4 false [
    { d := some 32, op := .mov (.t 1) },
    { d := some 33, op := .call 43 [.t 32] },
    { d := some 31, op := .mov (.t 33) },
    { d := some 34, op := .ext 0 (.t 31) },
    { d := some 35, op := .ext 1 (.t 31) },
    { d := some 8, op := .mov (.t 34) },
    { d := some 9, op := .mov (.t 35) }])
  (.seq (.reg 5 false [
    { d := some 37, op := .load true 3 (.t 3) },
    { d := some 38, op := .mov (.t 8) },
    { d := some 39, op := .call 16 [.t 37, .t 38] },
    { d := some 36, op := .mov (.t 39) },
    { d := some 40, op := .ext 0 (.t 36) },
    { d := some 41, op := .ext 1 (.t 36) },
    { d := some 10, op := .alloc [.int .i64 0, .int .i64 0, .int .i64 0] },
    { d := none, op := .store 3 (.t 10) (.t 40) },
    { d := some 11, op := .mov (.t 41) }])
  (.seq (.reg 6 false [
    { d := some 43, op := .load true 3 (.t 3) },
    { d := some 44, op := .mov (.t 8) },
    { d := some 45, op := .call 20 [.t 43, .t 44] },
    { d := some 42, op := .mov (.t 45) },
    { d := some 46, op := .ext 0 (.t 42) },
    { d := some 47, op := .ext 1 (.t 42) },
    { d := some 48, op := .ext 2 (.t 42) },
    { d := some 12, op := .mov (.t 46) },
    { d := some 13, op := .mov (.t 47) },
    { d := some 14, op := .mov (.t 48) }])
  (.seq (.seq (.reg 7 false [
    { d := some 49, op := .mov (.t 11) },
    { d := some 50, op := .mov (.t 14) },
    { d := some 51, op := .bin .neq (.t 49) (.t 50) }])
  (.cond (.t 51)
    (.seq (.reg 8 false [
      { d := some 6, op := .mov (.c (.bool false)) }])
    (.ret))
    (.skip)))
  (.seq (.reg 9 false [
    { d := some 52, op := .mov (.t 2) },
    { d := some 53, op := .conv .i64 (.t 52) },
    { d := some 54, op := .mov (.t 9) },
    { d := some 55, op := .bin .quo (.c (.int .i64 1000000000)) (.t 54) },
    { d := some 56, op := .bin .add (.t 55) (.c (.int .i64 1)) },
    { d := some 57, op := .bin .rem (.t 53) (.t 56) },
    { d := some 58, op := .mov (.t 9) },
    { d := some 59, op := .bin .mul (.t 57) (.t 58) },
    { d := some 15, op := .mov (.t 59) }])
  (.seq (.reg 10 false [
    { d := some 60, op := .mov (.t 15) },
    { d := some 61, op := .faddr 1 (.t 3) },
    { d := some 62, op := .load false 1 (.t 61) },
    { d := some 63, op := .bin .geq (.t 60) (.t 62) },
    { d := some 64, op := .mov (.t 63) },
    { d := some 65, op := .mov (.t 15), guard := some (64, true) },
    { d := some 66, op := .faddr 2 (.t 3), guard := some (64, true) },
    { d := some 67, op := .load false 1 (.t 66), guard := some (64, true) },
    { d := some 68, op := .bin .leq (.t 65) (.t 67), guard := some (64, true) },
    { d := some 69, op := .pick (.t 64) (.t 68) (.c (.bool false)) },
    { d := some 16, op := .mov (.t 69) }])
  (.seq (.seq (.reg 11 false [
    { d := some 70, op := .mov (.t 11) },
    { d := some 71, op := .bin .neq (.t 70) (.c (.int .i64 0)) }])
  (.cond (.t 71)
    (.seq (.reg 12 false [
      { d := some 72, op := .mov (.t 7) },
      { d := some 73, op := .mov (.t 72) },
      { d := some 74, op := .mov (.t 11), guard := some (73, true) },
      { d := some 75, op := .bin .eql (.t 74) (.c (.int .i64 6)), guard := some (73, true) },
      { d := some 76, op := .pick (.t 73) (.t 75) (.c (.bool false)) },
      { d := some 77, op := .mov (.t 76) },
      { d := some 78, op := .mov (.t 16), guard := some (77, true) },
      { d := some 79, op := .un .not (.t 78), guard := some (77, true) },
      { d := some 80, op := .pick (.t 77) (.t 79) (.c (.bool false)) },
      { d := some 81, op := .mov (.t 80) },
      { d := some 82, op := .faddr 2 (.t 3), guard := some (81, true) },
      { d := some 83, op := .load false 1 (.t 82), guard := some (81, true) },
      { d := some 84, op := .faddr 1 (.t 3), guard := some (81, true) },
      { d := some 85, op := .load false 1 (.t 84), guard := some (81, true) },
      { d := some 86, op := .bin .sub (.t 83) (.t 85), guard := some (81, true) },
      { d := some 87, op := .mov (.t 9), guard := some (81, true) },
      { d := some 88, op := .bin .sub (.t 87) (.c (.int .i64 1)), guard := some (81, true) },
      { d := some 89, op := .bin .lss (.t 86) (.t 88), guard := some (81, true) },
      { d := some 90, op := .pick (.t 81) (.t 89) (.c (.bool false)) },
      { d := some 91, op := .mov (.t 90) },
      { d := some 92, op := .load true 3 (.t 10), guard := some (91, true) },
      { d := some 93, op := .build [.int .i64 0, .int .i64 0, .int .i64 0] [], guard := some (91, true) },
      { d := some 94, op := .eqs false [.i, .i, .i] (.t 92) (.t 93), guard := some (91, true) },
      { d := some 95, op := .pick (.t 91) (.t 94) (.c (.bool false)) },
      { d := some 6, op := .mov (.t 95) }])
    (.ret))
    (.skip)))
  (.seq (.reg 13 false [
    { d := some 97, op := .load true 3 (.t 10) },
    { d := some 98, op := .load true 3 (.t 3) },
    { d := some 99, op := .call 22 [.t 97, .t 98] },
    { d := some 96, op := .mov (.t 99) },
    { d := some 100, op := .ext 0 (.t 96) },
    { d := some 101, op := .ext 1 (.t 96) },
    { d := some 17, op := .mov (.t 100) },
    { d := some 18, op := .mov (.t 101) }])
  (.seq (.reg 14 false [
    { d := some 103, op := .load true 3 (.t 10) },
    { d := some 104, op := .call 33 [.t 103] },
    { d := some 102, op := .mov (.t 104) },
    { d := some 105, op := .ext 0 (.t 102) },
    { d := some 106, op := .ext 1 (.t 102) },
    { d := some 19, op := .mov (.t 105) },
    { d := some 20, op := .mov (.t 106) }])
  (.seq (.reg 15 false [
    { d := some 107, op := .faddr 0 (.t 10) },
    { d := some 108, op := .load false 1 (.t 107) },
    { d := some 109, op := .faddr 0 (.t 3) },
    { d := some 110, op := .load false 1 (.t 109) },
    { d := some 111, op := .bin .sub (.t 108) (.t 110) },
    { d := some 21, op := .mov (.t 111) }])
  (.seq (.reg 16 false [
    { d := some 112, op := .mov (.t 7) },
    { d := some 113, op := .mov (.t 112) },
    { d := some 114, op := .mov (.t 18), guard := some (113, true) },
    { d := some 115, op := .bin .eql (.t 114) (.c (.int .i64 0)), guard := some (113, true) },
    { d := some 116, op := .pick (.t 113) (.t 115) (.c (.bool false)) },
    { d := some 117, op := .mov (.t 116) },
    { d := some 118, op := .mov (.t 17), guard := some (117, true) },
    { d := some 119, op := .pick (.t 117) (.t 118) (.c (.bool false)) },
    { d := some 120, op := .mov (.t 119) },
    { d := some 121, op := .mov (.t 20), guard := some (120, true) },
    { d := some 122, op := .bin .eql (.t 121) (.c (.int .i64 0)), guard := some (120, true) },
    { d := some 123, op := .pick (.t 120) (.t 122) (.c (.bool false)) },
    { d := some 124, op := .mov (.t 123) },
    { d := some 125, op := .mov (.t 19), guard := some (124, true) },
    { d := some 126, op := .mov (.t 8), guard := some (124, true) },
    { d := some 127, op := .vop (.bits .and) [(.t 125), (.t 126)], guard := some (124, true) },
    { d := some 128, op := .mov (.t 8), guard := some (124, true) },
    { d := some 129, op := .bin .eql (.t 127) (.t 128), guard := some (124, true) },
    { d := some 130, op := .pick (.t 124) (.t 129) (.c (.bool false)) },
    { d := some 131, op := .mov (.t 130) },
    { d := some 132, op := .mov (.t 16), guard := some (131, true) },
    { d := some 133, op := .mov (.t 15), guard := some (131, true) },
    { d := some 134, op := .faddr 1 (.t 10), guard := some (131, true) },
    { d := some 135, op := .load false 1 (.t 134), guard := some (131, true) },
    { d := some 136, op := .bin .geq (.t 133) (.t 135), guard := some (131, true) },
    { d := some 137, op := .mov (.t 136), guard := some (131, true) },
    { d := some 138, op := .mov (.t 15), guard := some (137, true) },
    { d := some 139, op := .faddr 2 (.t 10), guard := some (137, true) },
    { d := some 140, op := .load false 1 (.t 139), guard := some (137, true) },
    { d := some 141, op := .bin .leq (.t 138) (.t 140), guard := some (137, true) },
    { d := some 142, op := .pick (.t 137) (.t 141) (.c (.bool false)), guard := some (131, true) },
    { d := some 143, op := .vop (.beq false) [(.t 132), (.t 142)], guard := some (131, true) },
    { d := some 144, op := .pick (.t 131) (.t 143) (.c (.bool false)) },
    { d := some 145, op := .mov (.t 144) },
    { d := some 146, op := .mov (.t 12), guard := some (145, true) },
    { d := some 147, op := .faddr 1 (.t 10), guard := some (145, true) },
    { d := some 148, op := .load false 1 (.t 147), guard := some (145, true) },
    { d := some 149, op := .faddr 1 (.t 3), guard := some (145, true) },
    { d := some 150, op := .load false 1 (.t 149), guard := some (145, true) },
    { d := some 151, op := .bin .sub (.t 148) (.t 150), guard := some (145, true) },
    { d := some 152, op := .bin .eql (.t 146) (.t 151), guard := some (145, true) },
    { d := some 153, op := .pick (.t 145) (.t 152) (.c (.bool false)) },
    { d := some 154, op := .mov (.t 153) },
    { d := some 155, op := .mov (.t 13), guard := some (154, true) },
    { d := some 156, op := .faddr 2 (.t 3), guard := some (154, true) },
    { d := some 157, op := .load false 1 (.t 156), guard := some (154, true) },
    { d := some 158, op := .faddr 2 (.t 10), guard := some (154, true) },
    { d := some 159, op := .load false 1 (.t 158), guard := some (154, true) },
    { d := some 160, op := .bin .sub (.t 157) (.t 159), guard := some (154, true) },
    { d := some 161, op := .bin .eql (.t 155) (.t 160), guard := some (154, true) },
    { d := some 162, op := .pick (.t 154) (.t 161) (.c (.bool false)) },
    { d := some 163, op := .mov (.t 162) },
    { d := some 164, op := .mov (.t 12), guard := some (163, true) },
    { d := some 165, op := .bin .geq (.t 164) (.c (.int .i64 0)), guard := some (163, true) },
    { d := some 166, op := .pick (.t 163) (.t 165) (.c (.bool false)) },
    { d := some 167, op := .mov (.t 166) },
    { d := some 168, op := .mov (.t 12), guard := some (167, true) },
    { d := some 169, op := .mov (.t 9), guard := some (167, true) },
    { d := some 170, op := .bin .lss (.t 168) (.t 169), guard := some (167, true) },
    { d := some 171, op := .pick (.t 167) (.t 170) (.c (.bool false)) },
    { d := some 172, op := .mov (.t 171) },
    { d := some 173, op := .mov (.t 13), guard := some (172, true) },
    { d := some 174, op := .bin .geq (.t 173) (.c (.int .i64 0)), guard := some (172, true) },
    { d := some 175, op := .pick (.t 172) (.t 174) (.c (.bool false)) },
    { d := some 176, op := .mov (.t 175) },
    { d := some 177, op := .mov (.t 13), guard := some (176, true) },
    { d := some 178, op := .mov (.t 9), guard := some (176, true) },
    { d := some 179, op := .bin .lss (.t 177) (.t 178), guard := some (176, true) },
    { d := some 180, op := .pick (.t 176) (.t 179) (.c (.bool false)) },
    { d := some 181, op := .mov (.t 180) },
    { d := some 182, op := .mov (.t 21), guard := some (181, true) },
    { d := some 183, op := .mov (.t 21), guard := some (181, true) },
    { d := some 184, op := .un .neg (.t 183), guard := some (181, true) },
    { d := some 185, op := .mx true (.t 182) [.t 184], guard := some (181, true) },
    { d := some 186, op := .bin .mul (.c (.int .i64 2)) (.t 185), guard := some (181, true) },
    { d := some 187, op := .mov (.t 9), guard := some (181, true) },
    { d := some 188, op := .faddr 0 (.t 3), guard := some (181, true) },
    { d := some 189, op := .load false 1 (.t 188), guard := some (181, true) },
    { d := some 190, op := .mov (.t 9), guard := some (181, true) },
    { d := some 191, op := .bin .sub (.c (.int .i64 1000000000)) (.t 190), guard := some (181, true) },
    { d := some 192, op := .bin .sub (.t 189) (.t 191), guard := some (181, true) },
    { d := some 193, op := .mx true (.c (.int .i64 0)) [.t 192], guard := some (181, true) },
    { d := some 194, op := .bin .mul (.c (.int .i64 2)) (.t 193), guard := some (181, true) },
    { d := some 195, op := .bin .add (.t 187) (.t 194), guard := some (181, true) },
    { d := some 196, op := .bin .leq (.t 186) (.t 195), guard := some (181, true) },
    { d := some 197, op := .pick (.t 181) (.t 196) (.c (.bool false)) },
    { d := some 6, op := .mov (.t 197) }])
  (.ret))))))))))))))
def rr_law01_SizeInside : List RRes := [.t 6]
theorem pc_law01_SizeInside {G : Nat → Option (List AV)} {args : List AV} {v : AV} (hn : args.length ≤ Tryd.f6.ntmps) (h : ∀ R : Run, R.G = G → AR Tryd.prog R rc_law01_SizeInside (initSt args) (Fin rr_law01_SizeInside v)) : PC Tryd.prog G 6 args v :=
  PC_of Tryd.func6 rfl (by kernel_rfl) (rc := rc_law01_SizeInside) (by kernel_rfl) (rs := rr_law01_SizeInside) (by kernel_rfl) hn (fun R _ hG => h R hG)

theorem pb_law01_SizeInside {G : Nat → Option (List AV)} {objs objs' : List (Nat × AObj)} {args : List AV} {v : AV} (hn : args.length ≤ Tryd.f6.ntmps) (h : ∀ R : Run, R.G = G → AR Tryd.prog R rc_law01_SizeInside ⟨iniT 0 args, objs⟩ (FinB rr_law01_SizeInside v objs')) : PB Tryd.prog G 6 objs args v objs' :=
  PB_of Tryd.func6 rfl (by kernel_rfl) (rc := rc_law01_SizeInside) (by kernel_rfl) (rs := rr_law01_SizeInside) (by kernel_rfl) hn (fun R _ hG => h R hG)

theorem pp_law01_SizeInside {G : Nat → Option (List AV)} {args : List AV} {ch : List PanicEntry} (hn : args.length ≤ Tryd.f6.ntmps) (h : ∀ R : Run, R.G = G → AR Tryd.prog R rc_law01_SizeInside (initSt args) (FinP ch)) : PPC Tryd.prog G 6 args ch :=
  PPC_of Tryd.func6 rfl (by kernel_rfl) (rc := rc_law01_SizeInside) (by kernel_rfl) hn (fun R _ hG => h R hG)

def rc_law01_SizeNever : RCode :=
  .seq (.reg 0 false [
    { d := some 2, op := .box (.t 0) },
    { d := some 4, op := .mov (.c (.bool false)) }])
  (.seq (.reg 1 false [
    { d := some 27, op := .call 41 [] },
    { d := some 5, op := .mov (.t 27) }])
  (.seq (.seq (.reg 2 false [
    { d := some 28, op := .load true 3 (.t 2) },
    { d := some 29, op := .call 42 [.t 28] },
    { d := some 30, op := .un .not (.t 29) },
    { d := some 31, op := .mov (.t 30) },
    { d := some 32, op := .mov (.t 1), guard := some (31, false) },
    { d := some 33, op := .len (.t 32), guard := some (31, false) },
    { d := some 34, op := .bin .gtr (.t 33) (.c (.int .i64 20)), guard := some (31, false) },
    { d := some 35, op := .pick (.t 31) (.c (.bool true)) (.t 34) },
    { d := some 36, op := .mov (.t 35) },
    { d := some 37, op := .mov (.t 5), guard := some (36, false) },
    { d := some 38, op := .un .not (.t 37), guard := some (36, false) },
    { d := some 39, op := .pick (.t 36) (.c (.bool true)) (.t 38) }])
  (.cond (.t 39)
    (.seq (.reg 3 false [
      { d := some 40, op := .mov (.t 5) },
      { d := some 4, op := .mov (.t 40) }])
    (.ret))
    (.skip)))
  (.seq (.reg 4 false [
    { d := some 6, op := .mov (.c (.nils)) }])
  (.seq (.reg 5 true [
    { d := some 41, op := .load true 3 (.t 2), aft := [] },
    { d := some 8, op := .alloc [.int .i64 0, .int .i64 0, .int .i64 0], aft := [] },
    { d := some 7, op := .mov (.c (.int .i64 0)), aft := [1] },
    { d := none, op := .store 3 (.t 8) (.t 41), aft := [1, 0, 2, 0, 1, 2] }])
  (.seq (.seq (.reg 6 false [
    { d := some 42, op := .mov (.t 1) },
    { d := some 43, op := .len (.t 42) },
    { d := some 44, op := .mov (.c (.int .i64 0)) }])
  (.block 0
    (.loop
      (.seq (.reg 7 false [
        { d := some 45, op := .bin .lss (.t 44) (.t 43) }])
      (.seq (.cond (.t 45)
        (.skip)
        (.exit 0))
      (.seq (.block 1
        (.seq (.reg 8 false [
          { d := some 46, op := .mov (.t 44) },
          { d := some 47, op := .iaddr 1 (.t 42) (.t 44) },
          { d := some 48, op := .load false 1 (.t 47) },
          { d := some 9, op := .mov (.t 46) },
          { d := some 10, op := .mov (.t 48) }])
        (.seq (.reg 9 false [
          { d := some 50, op := .mov (.t 10) },
          { d := some 51, op := .call 43 [.t 50] },
          { d := some 49, op := .mov (.t 51) },
          { d := some 52, op := .ext 0 (.t 49) },
          { d := some 53, op := .ext 1 (.t 49) },
          { d := some 11, op := .mov (.t 52) },
          { d := some 12, op := .mov (.t 53) }])
        (.seq (.reg 10 false [
          { d := some 54, op := .mov (.t 6) },
          { d := some 55, op := .mov (.t 11) },
          { d := some 56, op := .bsl false 1 1 [.int .u8 0] [(0, .t 55)] },
          { d := some 57, op := .app 1 1 (.t 54) (.t 56) },
          { d := some 6, op := .mov (.t 57) }])
        (.seq (.reg 11 false [
          { d := some 58, op := .mov (.t 7) },
          { d := some 59, op := .mov (.t 12) },
          { d := some 60, op := .bin .add (.t 58) (.t 59) },
          { d := some 7, op := .mov (.t 60) }])
        (.seq (.reg 12 false [
          { d := some 62, op := .load true 3 (.t 8) },
          { d := some 63, op := .mov (.t 11) },
          { d := some 64, op := .call 16 [.t 62, .t 63] },
          { d := some 61, op := .mov (.t 64) },
          { d := some 65, op := .ext 0 (.t 61) },
          { d := some 66, op := .ext 1 (.t 61) },
          { d := some 13, op := .alloc [.int .i64 0, .int .i64 0, .int .i64 0] },
          { d := none, op := .store 3 (.t 13) (.t 65) },
          { d := some 14, op := .mov (.t 66) }])
        (.seq (.reg 13 false [
          { d := some 68, op := .load true 3 (.t 2) },
          { d := some 69, op := .mov (.t 6) },
          { d := some 70, op := .call 18 [.t 68, .t 69] },
          { d := some 67, op := .mov (.t 70) },
          { d := some 71, op := .ext 0 (.t 67) },
          { d := some 72, op := .ext 1 (.t 67) },
          { d := some 15, op := .alloc [.int .i64 0, .int .i64 0, .int .i64 0] },
          { d := none, op := .store 3 (.t 15) (.t 71) },
          { d := some 16, op := .mov (.t 72) }])
        (.seq (.seq (.reg 14 false [
          { d := some 73, op := .mov (.t 14) },
          { d := some 74, op := .mov (.t 16) },
          { d := some 75, op := .bin .neq (.t 73) (.t 74) }])
        (.cond (.t 75)
          (.seq (.reg 15 false [
            { d := some 4, op := .mov (.c (.bool false)) }])
          (.ret))
          (.skip)))
        (.seq (.seq (.reg 16 false [
          { d := some 76, op := .mov (.t 14) },
          { d := some 77, op := .bin .neq (.t 76) (.c (.int .i64 0)) }])
        (.cond (.t 77)
          (.seq (.reg 17 true [
            { d := some 79, op := .load true 3 (.t 2), aft := [] },
            { d := some 80, op := .bsl false 1 0 [] [], aft := [] },
            { d := some 81, op := .mov (.t 6), aft := [] },
            { d := some 82, op := .app 1 1 (.t 80) (.t 81), aft := [1, 2] },
            { d := some 83, op := .mov (.t 6), aft := [] },
            { d := some 84, op := .mov (.t 9), aft := [] },
            { d := some 85, op := .mov (.t 6), aft := [] },
            { d := some 86, op := .len (.t 85), aft := [6] },
            { d := some 87, op := .bin .sub (.c (.int .i64 20)) (.t 86), aft := [7] },
            { d := some 88, op := .mx false (.t 84) [.t 87], aft := [5, 8] },
            { d := some 89, op := .slc 1 (.t 83) none (some (.t 88)), aft := [4, 9] },
            { d := some 90, op := .app 1 1 (.t 82) (.t 89), aft := [3, 10, 3] },
            { d := some 91, op := .call 18 [.t 79, .t 90], aft := [0, 11, 11] },
            { d := some 78, op := .mov (.t 91), aft := [12] },
            { d := some 92, op := .ext 0 (.t 78), aft := [13] },
            { d := some 93, op := .ext 1 (.t 78), aft := [13] },
            { d := some 17, op := .alloc [.int .i64 0, .int .i64 0, .int .i64 0], aft := [] },
            { d := none, op := .store 3 (.t 17) (.t 92), aft := [16, 14, 12, 0, 1, 2, 3, 4, 5, 6, 7, 8, 9, 10, 11, 12, 13, 14, 16] },
            { d := some 18, op := .mov (.t 93), aft := [15, 17, 0, 1, 2, 3, 4, 5, 6, 7, 8, 9, 10, 11, 12, 13, 14, 15, 16, 17] }])
          (.seq (.reg 18 false [
            { d := some 94, op := .mov (.t 5) },
            { d := some 95, op := .mov (.t 94) },
            { d := some 96, op := .mov (.t 14), guard := some (95, true) },
            { d := some 97, op := .bin .eql (.t 96) (.c (.int .i64 6)), guard := some (95, true) },
            { d := some 98, op := .pick (.t 95) (.t 97) (.c (.bool false)) },
            { d := some 99, op := .mov (.t 98) },
            { d := some 100, op := .mov (.t 18), guard := some (99, true) },
            { d := some 101, op := .bin .eql (.t 100) (.c (.int .i64 6)), guard := some (99, true) },
            { d := some 102, op := .pick (.t 99) (.t 101) (.c (.bool false)) },
            { d := some 4, op := .mov (.t 102) }])
          (.ret)))
          (.skip)))
        (.seq (.reg 19 false [
          { d := some 104, op := .load true 3 (.t 8) },
          { d := some 105, op := .call 33 [.t 104] },
          { d := some 103, op := .mov (.t 105) },
          { d := some 106, op := .ext 0 (.t 103) },
          { d := some 107, op := .ext 1 (.t 103) },
          { d := some 19, op := .mov (.t 106) },
          { d := some 20, op := .mov (.t 107) }])
        (.seq (.reg 20 false [
          { d := some 109, op := .load true 3 (.t 13) },
          { d := some 110, op := .load true 3 (.t 2) },
          { d := some 111, op := .call 22 [.t 109, .t 110] },
          { d := some 108, op := .mov (.t 111) },
          { d := some 112, op := .ext 0 (.t 108) },
          { d := some 113, op := .ext 1 (.t 108) },
          { d := some 21, op := .mov (.t 112) },
          { d := some 22, op := .mov (.t 113) }])
        (.seq (.reg 21 false [
          { d := some 115, op := .load true 3 (.t 13) },
          { d := some 116, op := .mov (.t 11) },
          { d := some 117, op := .call 16 [.t 115, .t 116] },
          { d := some 114, op := .mov (.t 117) },
          { d := some 118, op := .ext 0 (.t 114) },
          { d := some 119, op := .ext 1 (.t 114) },
          { d := some 23, op := .alloc [.int .i64 0, .int .i64 0, .int .i64 0] },
          { d := none, op := .store 3 (.t 23) (.t 118) },
          { d := some 24, op := .mov (.t 119) }])
        (.seq (.seq (.reg 22 false [
          { d := some 120, op := .load true 3 (.t 15) },
          { d := some 121, op := .load true 3 (.t 13) },
          { d := some 122, op := .eqs true [.i, .i, .i] (.t 120) (.t 121) },
          { d := some 123, op := .mov (.t 122) },
          { d := some 124, op := .mov (.t 20), guard := some (123, false) },
          { d := some 125, op := .bin .neq (.t 124) (.c (.int .i64 0)), guard := some (123, false) },
          { d := some 126, op := .pick (.t 123) (.c (.bool true)) (.t 125) },
          { d := some 127, op := .mov (.t 126) },
          { d := some 128, op := .mov (.t 19), guard := some (127, false) },
          { d := some 129, op := .mov (.t 11), guard := some (127, false) },
          { d := some 130, op := .vop (.bits .and) [(.t 128), (.t 129)], guard := some (127, false) },
          { d := some 131, op := .mov (.t 11), guard := some (127, false) },
          { d := some 132, op := .bin .eql (.t 130) (.t 131), guard := some (127, false) },
          { d := some 133, op := .mov (.t 132), guard := some (127, false) },
          { d := some 134, op := .load true 3 (.t 13), guard := some (133, true) },
          { d := some 135, op := .load true 3 (.t 8), guard := some (133, true) },
          { d := some 136, op := .eqs true [.i, .i, .i] (.t 134) (.t 135), guard := some (133, true) },
          { d := some 137, op := .pick (.t 133) (.t 136) (.c (.bool false)), guard := some (127, false) },
          { d := some 138, op := .pick (.t 127) (.c (.bool true)) (.t 137) },
          { d := some 139, op := .mov (.t 138) },
          { d := some 140, op := .mov (.t 22), guard := some (139, false) },
          { d := some 141, op := .bin .neq (.t 140) (.c (.int .i64 0)), guard := some (139, false) },
          { d := some 142, op := .pick (.t 139) (.c (.bool true)) (.t 141) },
          { d := some 143, op := .mov (.t 142) },
          { d := some 144, op := .mov (.t 21), guard := some (143, false) },
          { d := some 145, op := .un .not (.t 144), guard := some (143, false) },
          { d := some 146, op := .pick (.t 143) (.c (.bool true)) (.t 145) },
          { d := some 147, op := .mov (.t 146) },
          { d := some 148, op := .mov (.t 24), guard := some (147, false) },
          { d := some 149, op := .bin .neq (.t 148) (.c (.int .i64 0)), guard := some (147, false) },
          { d := some 150, op := .pick (.t 147) (.c (.bool true)) (.t 149) },
          { d := some 151, op := .mov (.t 150) },
          { d := some 152, op := .load true 3 (.t 23), guard := some (151, false) },
          { d := some 153, op := .load true 3 (.t 13), guard := some (151, false) },
          { d := some 154, op := .eqs true [.i, .i, .i] (.t 152) (.t 153), guard := some (151, false) },
          { d := some 155, op := .pick (.t 151) (.c (.bool true)) (.t 154) },
          { d := some 156, op := .mov (.t 155) },
          { d := some 157, op := .faddr 1 (.t 13), guard := some (156, false) },
          { d := some 158, op := .load false 1 (.t 157), guard := some (156, false) },
          { d := some 159, op := .faddr 1 (.t 2), guard := some (156, false) },
          { d := some 160, op := .load false 1 (.t 159), guard := some (156, false) },
          { d := some 161, op := .bin .sub (.t 158) (.t 160), guard := some (156, false) },
          { d := some 162, op := .mov (.t 7), guard := some (156, false) },
          { d := some 163, op := .bin .geq (.t 161) (.t 162), guard := some (156, false) },
          { d := some 164, op := .pick (.t 156) (.c (.bool true)) (.t 163) },
          { d := some 165, op := .mov (.t 164) },
          { d := some 166, op := .faddr 2 (.t 2), guard := some (165, false) },
          { d := some 167, op := .load false 1 (.t 166), guard := some (165, false) },
          { d := some 168, op := .faddr 2 (.t 13), guard := some (165, false) },
          { d := some 169, op := .load false 1 (.t 168), guard := some (165, false) },
          { d := some 170, op := .bin .sub (.t 167) (.t 169), guard := some (165, false) },
          { d := some 171, op := .mov (.t 7), guard := some (165, false) },
          { d := some 172, op := .bin .geq (.t 170) (.t 171), guard := some (165, false) },
          { d := some 173, op := .pick (.t 165) (.c (.bool true)) (.t 172) }])
        (.cond (.t 173)
          (.seq (.reg 23 false [
            { d := some 4, op := .mov (.c (.bool false)) }])
          (.ret))
          (.skip)))
        (.reg 24 false [
          { d := some 174, op := .load true 3 (.t 13) },
          { d := none, op := .store 3 (.t 8) (.t 174) }]))))))))))))))
      (.reg 25 false [
        { d := some 175, op := .bin .add (.t 44) (.c (.int .i64 1)) },
        { d := some 44, op := .mov (.t 175) }])))))))
  (.seq (.reg 26 false [
    { d := some 177, op := .load true 3 (.t 2) },
    { d := some 178, op := .mov (.t 6) },
    { d := some 179, op := .call 18 [.t 177, .t 178] },
    { d := some 176, op := .mov (.t 179) },
    { d := some 180, op := .ext 0 (.t 176) },
    { d := some 181, op := .ext 1 (.t 176) },
    { d := some 25, op := .alloc [.int .i64 0, .int .i64 0, .int .i64 0] },
    { d := none, op := .store 3 (.t 25) (.t 180) },
    { d := some 26, op := .mov (.t 181) }])
  (.seq (.reg 27 false [
    { d := some 182, op := .mov (.t 5) },
    { d := some 183, op := .mov (.t 182) },
    { d := some 184, op := .mov (.t 26), guard := some (183, true) },
    { d := some 185, op := .bin .eql (.t 184) (.c (.int .i64 0)), guard := some (183, true) },
    { d := some 186, op := .pick (.t 183) (.t 185) (.c (.bool false)) },
    { d := some 187, op := .mov (.t 186) },
    { d := some 188, op := .load true 3 (.t 25), guard := some (187, true) },
    { d := some 189, op := .load true 3 (.t 8), guard := some (187, true) },
    { d := some 190, op := .eqs false [.i, .i, .i] (.t 188) (.t 189), guard := some (187, true) },
    { d := some 191, op := .pick (.t 187) (.t 190) (.c (.bool false)) },
    { d := some 4, op := .mov (.t 191) }])
  (.ret))))))))
def rr_law01_SizeNever : List RRes := [.t 4]
theorem pc_law01_SizeNever {G : Nat → Option (List AV)} {args : List AV} {v : AV} (hn : args.length ≤ Tryd.f7.ntmps) (h : ∀ R : Run, R.G = G → AR Tryd.prog R rc_law01_SizeNever (initSt args) (Fin rr_law01_SizeNever v)) : PC Tryd.prog G 7 args v :=
  PC_of Tryd.func7 rfl (by kernel_rfl) (rc := rc_law01_SizeNever) (by kernel_rfl) (rs := rr_law01_SizeNever) (by kernel_rfl) hn (fun R _ hG => h R hG)

theorem pb_law01_SizeNever {G : Nat → Option (List AV)} {objs objs' : List (Nat × AObj)} {args : List AV} {v : AV} (hn : args.length ≤ Tryd.f7.ntmps) (h : ∀ R : Run, R.G = G → AR Tryd.prog R rc_law01_SizeNever ⟨iniT 0 args, objs⟩ (FinB rr_law01_SizeNever v objs')) : PB Tryd.prog G 7 objs args v objs' :=
  PB_of Tryd.func7 rfl (by kernel_rfl) (rc := rc_law01_SizeNever) (by kernel_rfl) (rs := rr_law01_SizeNever) (by kernel_rfl) hn (fun R _ hG => h R hG)

theorem pp_law01_SizeNever {G : Nat → Option (List AV)} {args : List AV} {ch : List PanicEntry} (hn : args.length ≤ Tryd.f7.ntmps) (h : ∀ R : Run, R.G = G → AR Tryd.prog R rc_law01_SizeNever (initSt args) (FinP ch)) : PPC Tryd.prog G 7 args ch :=
  PPC_of Tryd.func7 rfl (by kernel_rfl) (rc := rc_law01_SizeNever) (by kernel_rfl) hn (fun R _ hG => h R hG)

def rc_law01_SizeBoth : RCode :=
  .seq (.reg 0 false [
    { d := some 2, op := .box (.t 0) },
    { d := some 4, op := .mov (.c (.bool false)) }])
  (.seq (.reg 1 false [
    { d := some 14, op := .call 41 [] },
    { d := some 5, op := .mov (.t 14) }])
  (.seq (.seq (.reg 2 false [
    { d := some 15, op := .mov (.t 1) }])
  (.cond (.t 15)
    (.reg 3 false [
      { d := some 16, op := .faddr 0 (.t 2) },
      { d := some 17, op := .load false 1 (.t 16) },
      { d := some 18, op := .bin .quo (.t 17) (.c (.int .i64 12700)) },
      { d := some 19, op := .bin .mul (.t 18) (.c (.int .i64 12700)) },
      { d := some 20, op := .faddr 1 (.t 2) },
      { d := some 21, op := .load false 1 (.t 20) },
      { d := some 22, op := .bin .quo (.t 21) (.c (.int .i64 12700)) },
      { d := some 23, op := .bin .mul (.t 22) (.c (.int .i64 12700)) },
      { d := some 24, op := .faddr 2 (.t 2) },
      { d := some 25, op := .load false 1 (.t 24) },
      { d := some 26, op := .bin .quo (.t 25) (.c (.int .i64 12700)) },
      { d := some 27, op := .bin .mul (.t 26) (.c (.int .i64 12700)) },
      { d := some 28, op := .call 44 [.t 19, .t 23, .t 27] },
      { d := none, op := .store 3 (.t 2) (.t 28) }])
    (.skip)))
  (.seq (.seq (.reg 4 false [
    { d := some 29, op := .load true 3 (.t 2) },
    { d := some 30, op := .call 42 [.t 29] },
    { d := some 31, op := .un .not (.t 30) },
    { d := some 32, op := .mov (.t 31) },
    { d := some 33, op := .mov (.t 5), guard := some (32, false) },
    { d := some 34, op := .un .not (.t 33), guard := some (32, false) },
    { d := some 35, op := .pick (.t 32) (.c (.bool true)) (.t 34) }])
  (.cond (.t 35)
    (.seq (.reg 5 false [
      { d := some 36, op := .mov (.t 5) },
      { d := some 4, op := .mov (.t 36) }])
    (.ret))
    (.skip)))
  (.seq (.reg 6 false [
    { d := some 38, op := .load true 3 (.t 2) },
    { d := some 39, op := .call 33 [.t 38] },
    { d := some 37, op := .mov (.t 39) },
    { d := some 40, op := .ext 0 (.t 37) },
    { d := some 41, op := .ext 1 (.t 37) },
    { d := some 6, op := .mov (.t 40) },
    { d := some 7, op := .mov (.t 41) }])
  (.seq (.reg 7 false [
    { d := some 42, op := .faddr 0 (.t 2) },
    { d := some 43, op := .load false 1 (.t 42) },
    { d := some 44, op := .bin .rem (.t 43) (.c (.int .i64 12700)) },
    { d := some 45, op := .bin .eql (.t 44) (.c (.int .i64 0)) },
    { d := some 46, op := .mov (.t 45) },
    { d := some 47, op := .faddr 1 (.t 2), guard := some (46, true) },
    { d := some 48, op := .load false 1 (.t 47), guard := some (46, true) },
    { d := some 49, op := .bin .rem (.t 48) (.c (.int .i64 12700)), guard := some (46, true) },
    { d := some 50, op := .bin .eql (.t 49) (.c (.int .i64 0)), guard := some (46, true) },
    { d := some 51, op := .pick (.t 46) (.t 50) (.c (.bool false)) },
    { d := some 52, op := .mov (.t 51) },
    { d := some 53, op := .faddr 2 (.t 2), guard := some (52, true) },
    { d := some 54, op := .load false 1 (.t 53), guard := some (52, true) },
    { d := some 55, op := .bin .rem (.t 54) (.c (.int .i64 12700)), guard := some (52, true) },
    { d := some 56, op := .bin .eql (.t 55) (.c (.int .i64 0)), guard := some (52, true) },
    { d := some 57, op := .pick (.t 52) (.t 56) (.c (.bool false)) },
    { d := some 8, op := .mov (.t 57) }])
  (.seq (.seq (.reg 8 false [
    { d := some 58, op := .mov (.t 7) },
    { d := some 59, op := .bin .neq (.t 58) (.c (.int .i64 0)) },
    { d := some 60, op := .mov (.t 59) },
    { d := some 61, op := .mov (.t 6), guard := some (60, false) },
    { d := some 62, op := .bin .gtr (.t 61) (.c (.int .u8 3)), guard := some (60, false) },
    { d := some 63, op := .pick (.t 60) (.c (.bool true)) (.t 62) },
    { d := some 64, op := .mov (.t 63) },
    { d := some 65, op := .mov (.t 6), guard := some (64, false) },
    { d := some 66, op := .bin .eql (.t 65) (.c (.int .u8 3)), guard := some (64, false) },
    { d := some 67, op := .mov (.t 8), guard := some (64, false) },
    { d := some 68, op := .vop (.beq true) [(.t 66), (.t 67)], guard := some (64, false) },
    { d := some 69, op := .pick (.t 64) (.c (.bool true)) (.t 68) }])
  (.cond (.t 69)
    (.seq (.reg 9 false [
      { d := some 4, op := .mov (.c (.bool false)) }])
    (.ret))
    (.skip)))
  (.seq (.seq (.reg 10 false [
    { d := some 9, op := .mov (.c (.int .u8 1)) }])
  (.block 0
    (.loop
      (.seq (.seq (.reg 11 false [
        { d := some 70, op := .mov (.t 9) },
        { d := some 71, op := .bin .leq (.t 70) (.c (.int .u8 2)) }])
      (.cond (.t 71)
        (.skip)
        (.exit 0)))
      (.seq (.block 1
        (.seq (.reg 13 false [
          { d := some 75, op := .load true 3 (.t 2) },
          { d := some 76, op := .mov (.t 9) },
          { d := some 77, op := .call 16 [.t 75, .t 76] },
          { d := some 74, op := .mov (.t 77) },
          { d := some 78, op := .ext 0 (.t 74) },
          { d := some 79, op := .ext 1 (.t 74) },
          { d := some 10, op := .alloc [.int .i64 0, .int .i64 0, .int .i64 0] },
          { d := none, op := .store 3 (.t 10) (.t 78) },
          { d := some 11, op := .mov (.t 79) }])
        (.seq (.reg 14 false [
          { d := some 81, op := .load true 3 (.t 2) },
          { d := some 82, op := .mov (.t 9) },
          { d := some 83, op := .call 35 [.t 81, .t 82] },
          { d := some 80, op := .mov (.t 83) },
          { d := some 84, op := .ext 0 (.t 80) },
          { d := some 85, op := .ext 1 (.t 80) },
          { d := some 12, op := .mov (.t 84) },
          { d := some 13, op := .mov (.t 85) }])
        (.seq (.reg 15 false [
          { d := some 86, op := .mov (.t 6) },
          { d := some 87, op := .mov (.t 9) },
          { d := some 88, op := .vop (.bits .and) [(.t 86), (.t 87)] },
          { d := some 89, op := .mov (.t 9) },
          { d := some 90, op := .bin .eql (.t 88) (.t 89) },
          { d := some 91, op := .mov (.t 13) },
          { d := some 92, op := .bin .eql (.t 91) (.c (.int .i64 0)) },
          { d := some 93, op := .vop (.beq true) [(.t 90), (.t 92)] },
          { d := some 94, op := .mov (.t 93) },
          { d := some 95, op := .mov (.t 6), guard := some (94, false) },
          { d := some 96, op := .mov (.t 9), guard := some (94, false) },
          { d := some 97, op := .vop (.bits .and) [(.t 95), (.t 96)], guard := some (94, false) },
          { d := some 98, op := .mov (.t 9), guard := some (94, false) },
          { d := some 99, op := .bin .eql (.t 97) (.t 98), guard := some (94, false) },
          { d := some 100, op := .mov (.t 99), guard := some (94, false) },
          { d := some 101, op := .mov (.t 11), guard := some (100, true) },
          { d := some 102, op := .bin .neq (.t 101) (.c (.int .i64 0)), guard := some (100, true) },
          { d := some 103, op := .mov (.t 102), guard := some (100, true) },
          { d := some 104, op := .load true 3 (.t 10), guard := some (103, false) },
          { d := some 105, op := .load true 3 (.t 2), guard := some (103, false) },
          { d := some 106, op := .eqs true [.i, .i, .i] (.t 104) (.t 105), guard := some (103, false) },
          { d := some 107, op := .pick (.t 103) (.c (.bool true)) (.t 106), guard := some (100, true) },
          { d := some 108, op := .pick (.t 100) (.t 107) (.c (.bool false)), guard := some (94, false) },
          { d := some 109, op := .pick (.t 94) (.c (.bool true)) (.t 108) }])
        (.cond (.t 109)
          (.seq (.reg 16 false [
            { d := some 4, op := .mov (.c (.bool false)) }])
          (.ret))
          (.skip))))))
      (.reg 12 false [
        { d := some 72, op := .mov (.t 9) },
        { d := some 73, op := .bin .add (.t 72) (.c (.int .u8 1)) },
        { d := some 9, op := .mov (.t 73) }]))))))
  (.seq (.reg 17 false [
    { d := some 110, op := .mov (.t 5) },
    { d := some 4, op := .mov (.t 110) }])
  (.ret)))))))))
def rr_law01_SizeBoth : List RRes := [.t 4]
theorem pc_law01_SizeBoth {G : Nat → Option (List AV)} {args : List AV} {v : AV} (hn : args.length ≤ Tryd.f8.ntmps) (h : ∀ R : Run, R.G = G → AR Tryd.prog R rc_law01_SizeBoth (initSt args) (Fin rr_law01_SizeBoth v)) : PC Tryd.prog G 8 args v :=
  PC_of Tryd.func8 rfl (by kernel_rfl) (rc := rc_law01_SizeBoth) (by kernel_rfl) (rs := rr_law01_SizeBoth) (by kernel_rfl) hn (fun R _ hG => h R hG)

theorem pb_law01_SizeBoth {G : Nat → Option (List AV)} {objs objs' : List (Nat × AObj)} {args : List AV} {v : AV} (hn : args.length ≤ Tryd.f8.ntmps) (h : ∀ R : Run, R.G = G → AR Tryd.prog R rc_law01_SizeBoth ⟨iniT 0 args, objs⟩ (FinB rr_law01_SizeBoth v objs')) : PB Tryd.prog G 8 objs args v objs' :=
  PB_of Tryd.func8 rfl (by kernel_rfl) (rc := rc_law01_SizeBoth) (by kernel_rfl) (rs := rr_law01_SizeBoth) (by kernel_rfl) hn (fun R _ hG => h R hG)

theorem pp_law01_SizeBoth {G : Nat → Option (List AV)} {args : List AV} {ch : List PanicEntry} (hn : args.length ≤ Tryd.f8.ntmps) (h : ∀ R : Run, R.G = G → AR Tryd.prog R rc_law01_SizeBoth (initSt args) (FinP ch)) : PPC Tryd.prog G 8 args ch :=
  PPC_of Tryd.func8 rfl (by kernel_rfl) (rc := rc_law01_SizeBoth) (by kernel_rfl) hn (fun R _ hG => h R hG)

def rc_law01_SizeFitted : RCode :=
  .seq (.reg 0 false [
    { d := some 4, op := .box (.t 0) },
    { d := some 5, op := .box (.t 1) },
    { d := some 8, op := .mov (.c (.bool false)) }])
  (.seq (.reg 1 false [
    { d := some 17, op := .call 41 [] },
    { d := some 9, op := .mov (.t 17) }])
  (.seq (.seq (.reg 2 false [
    { d := some 18, op := .load true 3 (.t 4) },
    { d := some 19, op := .call 42 [.t 18] },
    { d := some 20, op := .un .not (.t 19) },
    { d := some 21, op := .mov (.t 20) },
    { d := some 22, op := .load true 3 (.t 5), guard := some (21, false) },
    { d := some 23, op := .call 42 [.t 22], guard := some (21, false) },
    { d := some 24, op := .un .not (.t 23), guard := some (21, false) },
    { d := some 25, op := .pick (.t 21) (.c (.bool true)) (.t 24) },
    { d := some 26, op := .mov (.t 25) },
    { d := some 27, op := .mov (.t 9), guard := some (26, false) },
    { d := some 28, op := .un .not (.t 27), guard := some (26, false) },
    { d := some 29, op := .pick (.t 26) (.c (.bool true)) (.t 28) }])
  (.cond (.t 29)
    (.seq (.reg 3 false [
      { d := some 30, op := .mov (.t 9) },
      { d := some 8, op := .mov (.t 30) }])
    (.ret))
    (.skip)))
  (.seq (.reg 4 false [
    { d := some 32, op := .load true 3 (.t 4) },
    { d := some 33, op := .load true 3 (.t 5) },
    { d := some 34, op := .call 24 [.t 32, .t 33] },
    { d := some 31, op := .mov (.t 34) },
    { d := some 35, op := .ext 0 (.t 31) },
    { d := some 36, op := .ext 1 (.t 31) },
    { d := some 37, op := .ext 2 (.t 31) },
    { d := some 10, op := .alloc [.int .i64 0, .int .i64 0] },
    { d := none, op := .store 2 (.t 10) (.t 35) },
    { d := some 11, op := .mov (.t 36) },
    { d := some 12, op := .mov (.t 37) }])
  (.seq (.reg 5 false [
    { d := some 39, op := .load true 3 (.t 5) },
    { d := some 40, op := .load true 3 (.t 4) },
    { d := some 41, op := .call 24 [.t 39, .t 40] },
    { d := some 38, op := .mov (.t 41) },
    { d := some 42, op := .ext 0 (.t 38) },
    { d := some 43, op := .ext 1 (.t 38) },
    { d := some 44, op := .ext 2 (.t 38) },
    { d := some 13, op := .alloc [.int .i64 0, .int .i64 0] },
    { d := none, op := .store 2 (.t 13) (.t 42) },
    { d := some 14, op := .mov (.t 43) },
    { d := some 15, op := .mov (.t 44) }])
  (.seq (.reg 6 true [
    { d := some 45, op := .load true 3 (.t 4), aft := [] },
    { d := some 46, op := .mov (.t 2), aft := [] },
    { d := some 47, op := .call 45 [.t 45, .t 46], aft := [0, 1] },
    { d := some 48, op := .load true 3 (.t 5), aft := [] },
    { d := some 49, op := .mov (.t 3), aft := [] },
    { d := some 50, op := .call 45 [.t 48, .t 49], aft := [3, 4, 2] },
    { d := some 51, op := .bin .sub (.t 47) (.t 50), aft := [2, 5] },
    { d := some 16, op := .mov (.t 51), aft := [6, 5, 0, 1, 2, 3, 4, 5, 6] }])
  (.seq (.seq (.reg 7 false [
    { d := some 52, op := .mov (.t 12) },
    { d := some 53, op := .bin .neq (.t 52) (.c (.int .i64 0)) },
    { d := some 54, op := .mov (.t 53) },
    { d := some 55, op := .mov (.t 15), guard := some (54, false) },
    { d := some 56, op := .bin .neq (.t 55) (.c (.int .i64 0)), guard := some (54, false) },
    { d := some 57, op := .pick (.t 54) (.c (.bool true)) (.t 56) },
    { d := some 58, op := .mov (.t 57) },
    { d := some 59, op := .mov (.t 16), guard := some (58, false) },
    { d := some 60, op := .faddr 0 (.t 10), guard := some (58, false) },
    { d := some 61, op := .load false 1 (.t 60), guard := some (58, false) },
    { d := some 62, op := .bin .lss (.t 59) (.t 61), guard := some (58, false) },
    { d := some 63, op := .pick (.t 58) (.c (.bool true)) (.t 62) },
    { d := some 64, op := .mov (.t 63) },
    { d := some 65, op := .mov (.t 16), guard := some (64, false) },
    { d := some 66, op := .faddr 1 (.t 10), guard := some (64, false) },
    { d := some 67, op := .load false 1 (.t 66), guard := some (64, false) },
    { d := some 68, op := .bin .gtr (.t 65) (.t 67), guard := some (64, false) },
    { d := some 69, op := .pick (.t 64) (.c (.bool true)) (.t 68) },
    { d := some 70, op := .mov (.t 69) },
    { d := some 71, op := .faddr 0 (.t 10), guard := some (70, false) },
    { d := some 72, op := .load false 1 (.t 71), guard := some (70, false) },
    { d := some 73, op := .faddr 1 (.t 4), guard := some (70, false) },
    { d := some 74, op := .load false 1 (.t 73), guard := some (70, false) },
    { d := some 75, op := .faddr 2 (.t 5), guard := some (70, false) },
    { d := some 76, op := .load false 1 (.t 75), guard := some (70, false) },
    { d := some 77, op := .bin .sub (.t 74) (.t 76), guard := some (70, false) },
    { d := some 78, op := .bin .neq (.t 72) (.t 77), guard := some (70, false) },
    { d := some 79, op := .pick (.t 70) (.c (.bool true)) (.t 78) },
    { d := some 80, op := .mov (.t 79) },
    { d := some 81, op := .faddr 1 (.t 10), guard := some (80, false) },
    { d := some 82, op := .load false 1 (.t 81), guard := some (80, false) },
    { d := some 83, op := .faddr 2 (.t 4), guard := some (80, false) },
    { d := some 84, op := .load false 1 (.t 83), guard := some (80, false) },
    { d := some 85, op := .faddr 1 (.t 5), guard := some (80, false) },
    { d := some 86, op := .load false 1 (.t 85), guard := some (80, false) },
    { d := some 87, op := .bin .sub (.t 84) (.t 86), guard := some (80, false) },
    { d := some 88, op := .bin .neq (.t 82) (.t 87), guard := some (80, false) },
    { d := some 89, op := .pick (.t 80) (.c (.bool true)) (.t 88) },
    { d := some 90, op := .mov (.t 89) },
    { d := some 91, op := .faddr 0 (.t 13), guard := some (90, false) },
    { d := some 92, op := .load false 1 (.t 91), guard := some (90, false) },
    { d := some 93, op := .faddr 1 (.t 10), guard := some (90, false) },
    { d := some 94, op := .load false 1 (.t 93), guard := some (90, false) },
    { d := some 95, op := .un .neg (.t 94), guard := some (90, false) },
    { d := some 96, op := .bin .neq (.t 92) (.t 95), guard := some (90, false) },
    { d := some 97, op := .pick (.t 90) (.c (.bool true)) (.t 96) },
    { d := some 98, op := .mov (.t 97) },
    { d := some 99, op := .faddr 1 (.t 13), guard := some (98, false) },
    { d := some 100, op := .load false 1 (.t 99), guard := some (98, false) },
    { d := some 101, op := .faddr 0 (.t 10), guard := some (98, false) },
    { d := some 102, op := .load false 1 (.t 101), guard := some (98, false) },
    { d := some 103, op := .un .neg (.t 102), guard := some (98, false) },
    { d := some 104, op := .bin .neq (.t 100) (.t 103), guard := some (98, false) },
    { d := some 105, op := .pick (.t 98) (.c (.bool true)) (.t 104) }])
  (.cond (.t 105)
    (.seq (.reg 8 false [
      { d := some 8, op := .mov (.c (.bool false)) }])
    (.ret))
    (.skip)))
  (.seq (.seq (.reg 9 false [
    { d := some 106, op := .mov (.t 11) }])
  (.block 0
    (.seq (.reg 10 false [
      { d := some 108, op := .bin .eql (.t 106) (.c (.int .u8 1)) },
      { d := some 107, op := .mov (.t 108) }])
    (.cond (.t 107)
      (.seq (.reg 11 false [
        { d := some 109, op := .mov (.t 9) },
        { d := some 110, op := .mov (.t 109) },
        { d := some 111, op := .faddr 0 (.t 10), guard := some (110, true) },
        { d := some 112, op := .load false 1 (.t 111), guard := some (110, true) },
        { d := some 113, op := .bin .geq (.t 112) (.c (.int .i64 0)), guard := some (110, true) },
        { d := some 114, op := .pick (.t 110) (.t 113) (.c (.bool false)) },
        { d := some 115, op := .mov (.t 114) },
        { d := some 116, op := .mov (.t 14), guard := some (115, true) },
        { d := some 117, op := .bin .eql (.t 116) (.c (.int .u8 2)), guard := some (115, true) },
        { d := some 118, op := .mov (.t 117), guard := some (115, true) },
        { d := some 119, op := .faddr 0 (.t 10), guard := some (118, false) },
        { d := some 120, op := .load false 1 (.t 119), guard := some (118, false) },
        { d := some 121, op := .bin .eql (.t 120) (.c (.int .i64 0)), guard := some (118, false) },
        { d := some 122, op := .mov (.t 121), guard := some (118, false) },
        { d := some 123, op := .faddr 1 (.t 10), guard := some (122, true) },
        { d := some 124, op := .load false 1 (.t 123), guard := some (122, true) },
        { d := some 125, op := .bin .eql (.t 124) (.c (.int .i64 0)), guard := some (122, true) },
        { d := some 126, op := .pick (.t 122) (.t 125) (.c (.bool false)), guard := some (118, false) },
        { d := some 127, op := .pick (.t 118) (.c (.bool true)) (.t 126), guard := some (115, true) },
        { d := some 128, op := .pick (.t 115) (.t 127) (.c (.bool false)) },
        { d := some 8, op := .mov (.t 128) }])
      (.ret))
      (.seq (.reg 12 false [
        { d := some 130, op := .bin .eql (.t 106) (.c (.int .u8 2)) },
        { d := some 129, op := .mov (.t 130) }])
      (.cond (.t 129)
        (.seq (.reg 13 false [
          { d := some 131, op := .mov (.t 9) },
          { d := some 132, op := .mov (.t 131) },
          { d := some 133, op := .faddr 1 (.t 10), guard := some (132, true) },
          { d := some 134, op := .load false 1 (.t 133), guard := some (132, true) },
          { d := some 135, op := .bin .leq (.t 134) (.c (.int .i64 0)), guard := some (132, true) },
          { d := some 136, op := .pick (.t 132) (.t 135) (.c (.bool false)) },
          { d := some 137, op := .mov (.t 136) },
          { d := some 138, op := .faddr 0 (.t 10), guard := some (137, true) },
          { d := some 139, op := .load false 1 (.t 138), guard := some (137, true) },
          { d := some 140, op := .bin .lss (.t 139) (.c (.int .i64 0)), guard := some (137, true) },
          { d := some 141, op := .pick (.t 137) (.t 140) (.c (.bool false)) },
          { d := some 142, op := .mov (.t 141) },
          { d := some 143, op := .mov (.t 14), guard := some (142, true) },
          { d := some 144, op := .bin .eql (.t 143) (.c (.int .u8 1)), guard := some (142, true) },
          { d := some 145, op := .pick (.t 142) (.t 144) (.c (.bool false)) },
          { d := some 8, op := .mov (.t 145) }])
        (.ret))
        (.seq (.reg 14 false [
          { d := some 147, op := .bin .eql (.t 106) (.c (.int .u8 3)) },
          { d := some 146, op := .mov (.t 147) }])
        (.cond (.t 146)
          (.seq (.reg 15 false [
            { d := some 148, op := .mov (.t 9) },
            { d := some 149, op := .mov (.t 148) },
            { d := some 150, op := .faddr 0 (.t 10), guard := some (149, true) },
            { d := some 151, op := .load false 1 (.t 150), guard := some (149, true) },
            { d := some 152, op := .bin .lss (.t 151) (.c (.int .i64 0)), guard := some (149, true) },
            { d := some 153, op := .pick (.t 149) (.t 152) (.c (.bool false)) },
            { d := some 154, op := .mov (.t 153) },
            { d := some 155, op := .faddr 1 (.t 10), guard := some (154, true) },
            { d := some 156, op := .load false 1 (.t 155), guard := some (154, true) },
            { d := some 157, op := .bin .gtr (.t 156) (.c (.int .i64 0)), guard := some (154, true) },
            { d := some 158, op := .pick (.t 154) (.t 157) (.c (.bool false)) },
            { d := some 159, op := .mov (.t 158) },
            { d := some 160, op := .mov (.t 14), guard := some (159, true) },
            { d := some 161, op := .bin .eql (.t 160) (.c (.int .u8 3)), guard := some (159, true) },
            { d := some 162, op := .pick (.t 159) (.t 161) (.c (.bool false)) },
            { d := some 8, op := .mov (.t 162) }])
          (.ret))
          (.skip)))))))))
  (.seq (.reg 16 false [
    { d := some 8, op := .mov (.c (.bool false)) }])
  (.ret)))))))))
def rr_law01_SizeFitted : List RRes := [.t 8]
theorem pc_law01_SizeFitted {G : Nat → Option (List AV)} {args : List AV} {v : AV} (hn : args.length ≤ Tryd.f10.ntmps) (h : ∀ R : Run, R.G = G → AR Tryd.prog R rc_law01_SizeFitted (initSt args) (Fin rr_law01_SizeFitted v)) : PC Tryd.prog G 10 args v :=
  PC_of Tryd.func10 rfl (by kernel_rfl) (rc := rc_law01_SizeFitted) (by kernel_rfl) (rs := rr_law01_SizeFitted) (by kernel_rfl) hn (fun R _ hG => h R hG)

theorem pb_law01_SizeFitted {G : Nat → Option (List AV)} {objs objs' : List (Nat × AObj)} {args : List AV} {v : AV} (hn : args.length ≤ Tryd.f10.ntmps) (h : ∀ R : Run, R.G = G → AR Tryd.prog R rc_law01_SizeFitted ⟨iniT 0 args, objs⟩ (FinB rr_law01_SizeFitted v objs')) : PB Tryd.prog G 10 objs args v objs' :=
  PB_of Tryd.func10 rfl (by kernel_rfl) (rc := rc_law01_SizeFitted) (by kernel_rfl) (rs := rr_law01_SizeFitted) (by kernel_rfl) hn (fun R _ hG => h R hG)

theorem pp_law01_SizeFitted {G : Nat → Option (List AV)} {args : List AV} {ch : List PanicEntry} (hn : args.length ≤ Tryd.f10.ntmps) (h : ∀ R : Run, R.G = G → AR Tryd.prog R rc_law01_SizeFitted (initSt args) (FinP ch)) : PPC Tryd.prog G 10 args ch :=
  PPC_of Tryd.func10 rfl (by kernel_rfl) (rc := rc_law01_SizeFitted) (by kernel_rfl) hn (fun R _ hG => h R hG)

def rc_law01_SizeRedrawn : RCode :=
  .seq (.reg 0 false [
    { d := some 4, op := .box (.t 0) },
    { d := some 5, op := .box (.t 1) },
    { d := some 8, op := .mov (.c (.bool false)) }])
  (.seq (.reg 1 false [
    { d := some 24, op := .call 41 [] },
    { d := some 9, op := .mov (.t 24) }])
  (.seq (.seq (.reg 2 false [
    { d := some 25, op := .load true 3 (.t 4) },
    { d := some 26, op := .call 42 [.t 25] },
    { d := some 27, op := .un .not (.t 26) },
    { d := some 28, op := .mov (.t 27) },
    { d := some 29, op := .load true 3 (.t 5), guard := some (28, false) },
    { d := some 30, op := .call 42 [.t 29], guard := some (28, false) },
    { d := some 31, op := .un .not (.t 30), guard := some (28, false) },
    { d := some 32, op := .pick (.t 28) (.c (.bool true)) (.t 31) },
    { d := some 33, op := .mov (.t 32) },
    { d := some 34, op := .mov (.t 9), guard := some (33, false) },
    { d := some 35, op := .un .not (.t 34), guard := some (33, false) },
    { d := some 36, op := .pick (.t 33) (.c (.bool true)) (.t 35) }])
  (.cond (.t 36)
    (.seq (.reg 3 false [
      { d := some 37, op := .mov (.t 9) },
      { d := some 8, op := .mov (.t 37) }])
    (.ret))
    (.skip)))
  (.seq (.reg 4 false [
    { d := some 39, op := .mov (.t 2) },
    { d := some 40, op := .call 43 [.t 39] },
    { d := some 38, op := .mov (.t 40) },
    { d := some 41, op := .ext 0 (.t 38) },
    { d := some 42, op := .ext 1 (.t 38) },
    { d := some 10, op := .mov (.t 41) },
    { d := some 11, op := .mov (.t 42) }])
  (.seq (.reg 5 false [
    { d := some 44, op := .mov (.t 3) },
    { d := some 45, op := .call 43 [.t 44] },
    { d := some 43, op := .mov (.t 45) },
    { d := some 46, op := .ext 0 (.t 43) },
    { d := some 47, op := .ext 1 (.t 43) },
    { d := some 12, op := .mov (.t 46) },
    { d := some 13, op := .mov (.t 47) }])
  (.seq (.reg 6 false [
    { d := some 49, op := .load true 3 (.t 4) },
    { d := some 50, op := .mov (.t 10) },
    { d := some 51, op := .call 16 [.t 49, .t 50] },
    { d := some 48, op := .mov (.t 51) },
    { d := some 52, op := .ext 0 (.t 48) },
    { d := some 53, op := .ext 1 (.t 48) },
    { d := some 14, op := .alloc [.int .i64 0, .int .i64 0, .int .i64 0] },
    { d := none, op := .store 3 (.t 14) (.t 52) },
    { d := some 15, op := .mov (.t 53) }])
  (.seq (.reg 7 false [
    { d := some 55, op := .load true 3 (.t 5) },
    { d := some 56, op := .mov (.t 12) },
    { d := some 57, op := .call 16 [.t 55, .t 56] },
    { d := some 54, op := .mov (.t 57) },
    { d := some 58, op := .ext 0 (.t 54) },
    { d := some 59, op := .ext 1 (.t 54) },
    { d := some 16, op := .alloc [.int .i64 0, .int .i64 0, .int .i64 0] },
    { d := none, op := .store 3 (.t 16) (.t 58) },
    { d := some 17, op := .mov (.t 59) }])
  (.seq (.seq (.reg 8 false [
    { d := some 60, op := .mov (.t 15) },
    { d := some 61, op := .bin .neq (.t 60) (.c (.int .i64 0)) },
    { d := some 62, op := .mov (.t 61) },
    { d := some 63, op := .mov (.t 17), guard := some (62, false) },
    { d := some 64, op := .bin .neq (.t 63) (.c (.int .i64 0)), guard := some (62, false) },
    { d := some 65, op := .pick (.t 62) (.c (.bool true)) (.t 64) }])
  (.cond (.t 65)
    (.seq (.reg 9 false [
      { d := some 66, op := .mov (.t 9) },
      { d := some 67, op := .mov (.t 66) },
      { d := some 68, op := .mov (.t 15), guard := some (67, true) },
      { d := some 69, op := .bin .eql (.t 68) (.c (.int .i64 0)), guard := some (67, true) },
      { d := some 70, op := .mov (.t 69), guard := some (67, true) },
      { d := some 71, op := .mov (.t 15), guard := some (70, false) },
      { d := some 72, op := .bin .eql (.t 71) (.c (.int .i64 6)), guard := some (70, false) },
      { d := some 73, op := .pick (.t 70) (.c (.bool true)) (.t 72), guard := some (67, true) },
      { d := some 74, op := .pick (.t 67) (.t 73) (.c (.bool false)) },
      { d := some 75, op := .mov (.t 74) },
      { d := some 76, op := .mov (.t 17), guard := some (75, true) },
      { d := some 77, op := .bin .eql (.t 76) (.c (.int .i64 0)), guard := some (75, true) },
      { d := some 78, op := .mov (.t 77), guard := some (75, true) },
      { d := some 79, op := .mov (.t 17), guard := some (78, false) },
      { d := some 80, op := .bin .eql (.t 79) (.c (.int .i64 6)), guard := some (78, false) },
      { d := some 81, op := .pick (.t 78) (.c (.bool true)) (.t 80), guard := some (75, true) },
      { d := some 82, op := .pick (.t 75) (.t 81) (.c (.bool false)) },
      { d := some 8, op := .mov (.t 82) }])
    (.ret))
    (.skip)))
  (.seq (.reg 10 false [
    { d := some 84, op := .load true 3 (.t 4) },
    { d := some 85, op := .load true 3 (.t 5) },
    { d := some 86, op := .call 24 [.t 84, .t 85] },
    { d := some 83, op := .mov (.t 86) },
    { d := some 87, op := .ext 0 (.t 83) },
    { d := some 88, op := .ext 1 (.t 83) },
    { d := some 89, op := .ext 2 (.t 83) },
    { d := some 18, op := .alloc [.int .i64 0, .int .i64 0] },
    { d := none, op := .store 2 (.t 18) (.t 87) },
    { d := some 19, op := .mov (.t 88) },
    { d := some 20, op := .mov (.t 89) }])
  (.seq (.reg 11 false [
    { d := some 91, op := .load true 3 (.t 14) },
    { d := some 92, op := .load true 3 (.t 16) },
    { d := some 93, op := .call 24 [.t 91, .t 92] },
    { d := some 90, op := .mov (.t 93) },
    { d := some 94, op := .ext 0 (.t 90) },
    { d := some 95, op := .ext 1 (.t 90) },
    { d := some 96, op := .ext 2 (.t 90) },
    { d := some 21, op := .alloc [.int .i64 0, .int .i64 0] },
    { d := none, op := .store 2 (.t 21) (.t 94) },
    { d := some 22, op := .mov (.t 95) },
    { d := some 23, op := .mov (.t 96) }])
  (.seq (.reg 12 false [
    { d := some 97, op := .mov (.t 9) },
    { d := some 98, op := .mov (.t 97) },
    { d := some 99, op := .mov (.t 20), guard := some (98, true) },
    { d := some 100, op := .bin .eql (.t 99) (.c (.int .i64 0)), guard := some (98, true) },
    { d := some 101, op := .pick (.t 98) (.t 100) (.c (.bool false)) },
    { d := some 102, op := .mov (.t 101) },
    { d := some 103, op := .mov (.t 23), guard := some (102, true) },
    { d := some 104, op := .bin .eql (.t 103) (.c (.int .i64 0)), guard := some (102, true) },
    { d := some 105, op := .pick (.t 102) (.t 104) (.c (.bool false)) },
    { d := some 106, op := .mov (.t 105) },
    { d := some 107, op := .faddr 0 (.t 21), guard := some (106, true) },
    { d := some 108, op := .load false 1 (.t 107), guard := some (106, true) },
    { d := some 109, op := .faddr 0 (.t 18), guard := some (106, true) },
    { d := some 110, op := .load false 1 (.t 109), guard := some (106, true) },
    { d := some 111, op := .bin .geq (.t 108) (.t 110), guard := some (106, true) },
    { d := some 112, op := .pick (.t 106) (.t 111) (.c (.bool false)) },
    { d := some 113, op := .mov (.t 112) },
    { d := some 114, op := .faddr 1 (.t 21), guard := some (113, true) },
    { d := some 115, op := .load false 1 (.t 114), guard := some (113, true) },
    { d := some 116, op := .faddr 1 (.t 18), guard := some (113, true) },
    { d := some 117, op := .load false 1 (.t 116), guard := some (113, true) },
    { d := some 118, op := .bin .leq (.t 115) (.t 117), guard := some (113, true) },
    { d := some 119, op := .pick (.t 113) (.t 118) (.c (.bool false)) },
    { d := some 120, op := .mov (.t 119) },
    { d := some 121, op := .mov (.t 19), guard := some (120, true) },
    { d := some 122, op := .bin .eql (.t 121) (.c (.int .u8 3)), guard := some (120, true) },
    { d := some 123, op := .mov (.t 122), guard := some (120, true) },
    { d := some 124, op := .mov (.t 22), guard := some (123, false) },
    { d := some 125, op := .mov (.t 19), guard := some (123, false) },
    { d := some 126, op := .bin .eql (.t 124) (.t 125), guard := some (123, false) },
    { d := some 127, op := .pick (.t 123) (.c (.bool true)) (.t 126), guard := some (120, true) },
    { d := some 128, op := .mov (.t 127), guard := some (120, true) },
    { d := some 129, op := .faddr 0 (.t 18), guard := some (128, false) },
    { d := some 130, op := .load false 1 (.t 129), guard := some (128, false) },
    { d := some 131, op := .bin .eql (.t 130) (.c (.int .i64 0)), guard := some (128, false) },
    { d := some 132, op := .mov (.t 131), guard := some (128, false) },
    { d := some 133, op := .faddr 1 (.t 18), guard := some (132, true) },
    { d := some 134, op := .load false 1 (.t 133), guard := some (132, true) },
    { d := some 135, op := .bin .eql (.t 134) (.c (.int .i64 0)), guard := some (132, true) },
    { d := some 136, op := .pick (.t 132) (.t 135) (.c (.bool false)), guard := some (128, false) },
    { d := some 137, op := .pick (.t 128) (.c (.bool true)) (.t 136), guard := some (120, true) },
    { d := some 138, op := .mov (.t 137), guard := some (120, true) },
    { d := some 139, op := .mov (.t 19), guard := some (138, false) },
    { d := some 140, op := .bin .eql (.t 139) (.c (.int .u8 2)), guard := some (138, false) },
    { d := some 141, op := .mov (.t 140), guard := some (138, false) },
    { d := some 142, op := .faddr 0 (.t 21), guard := some (141, true) },
    { d := some 143, op := .load false 1 (.t 142), guard := some (141, true) },
    { d := some 144, op := .bin .eql (.t 143) (.c (.int .i64 0)), guard := some (141, true) },
    { d := some 145, op := .pick (.t 141) (.t 144) (.c (.bool false)), guard := some (138, false) },
    { d := some 146, op := .mov (.t 145), guard := some (138, false) },
    { d := some 147, op := .faddr 1 (.t 21), guard := some (146, true) },
    { d := some 148, op := .load false 1 (.t 147), guard := some (146, true) },
    { d := some 149, op := .bin .eql (.t 148) (.c (.int .i64 0)), guard := some (146, true) },
    { d := some 150, op := .pick (.t 146) (.t 149) (.c (.bool false)), guard := some (138, false) },
    { d := some 151, op := .pick (.t 138) (.c (.bool true)) (.t 150), guard := some (120, true) },
    { d := some 152, op := .pick (.t 120) (.t 151) (.c (.bool false)) },
    { d := some 8, op := .mov (.t 152) }])
  (.ret)))))))))))
def rr_law01_SizeRedrawn : List RRes := [.t 8]
theorem pc_law01_SizeRedrawn {G : Nat → Option (List AV)} {args : List AV} {v : AV} (hn : args.length ≤ Tryd.f11.ntmps) (h : ∀ R : Run, R.G = G → AR Tryd.prog R rc_law01_SizeRedrawn (initSt args) (Fin rr_law01_SizeRedrawn v)) : PC Tryd.prog G 11 args v :=
  PC_of Tryd.func11 rfl (by kernel_rfl) (rc := rc_law01_SizeRedrawn) (by kernel_rfl) (rs := rr_law01_SizeRedrawn) (by kernel_rfl) hn (fun R _ hG => h R hG)

theorem pb_law01_SizeRedrawn {G : Nat → Option (List AV)} {objs objs' : List (Nat × AObj)} {args : List AV} {v : AV} (hn : args.length ≤ Tryd.f11.ntmps) (h : ∀ R : Run, R.G = G → AR Tryd.prog R rc_law01_SizeRedrawn ⟨iniT 0 args, objs⟩ (FinB rr_law01_SizeRedrawn v objs')) : PB Tryd.prog G 11 objs args v objs' :=
  PB_of Tryd.func11 rfl (by kernel_rfl) (rc := rc_law01_SizeRedrawn) (by kernel_rfl) (rs := rr_law01_SizeRedrawn) (by kernel_rfl) hn (fun R _ hG => h R hG)

theorem pp_law01_SizeRedrawn {G : Nat → Option (List AV)} {args : List AV} {ch : List PanicEntry} (hn : args.length ≤ Tryd.f11.ntmps) (h : ∀ R : Run, R.G = G → AR Tryd.prog R rc_law01_SizeRedrawn (initSt args) (FinP ch)) : PPC Tryd.prog G 11 args ch :=
  PPC_of Tryd.func11 rfl (by kernel_rfl) (rc := rc_law01_SizeRedrawn) (by kernel_rfl) hn (fun R _ hG => h R hG)

def rc_law01_SizeRoom : RCode :=
  .seq (.reg 0 false [
    { d := some 3, op := .box (.t 0) },
    { d := some 4, op := .box (.t 1) },
    { d := some 5, op := .box (.t 2) },
    { d := some 6, op := .mov (.c (.bool false)) }])
  (.seq (.reg 1 false [
    { d := some 19, op := .call 41 [] },
    { d := some 7, op := .mov (.t 19) }])
  (.seq (.seq (.reg 2 false [
    { d := some 20, op := .load true 3 (.t 3) },
    { d := some 21, op := .call 42 [.t 20] },
    { d := some 22, op := .un .not (.t 21) },
    { d := some 23, op := .mov (.t 22) },
    { d := some 24, op := .load true 3 (.t 5), guard := some (23, false) },
    { d := some 25, op := .call 42 [.t 24], guard := some (23, false) },
    { d := some 26, op := .un .not (.t 25), guard := some (23, false) },
    { d := some 27, op := .pick (.t 23) (.c (.bool true)) (.t 26) },
    { d := some 28, op := .mov (.t 27) },
    { d := some 29, op := .load true 2 (.t 4), guard := some (28, false) },
    { d := some 30, op := .call 46 [.t 29], guard := some (28, false) },
    { d := some 31, op := .un .not (.t 30), guard := some (28, false) },
    { d := some 32, op := .pick (.t 28) (.c (.bool true)) (.t 31) },
    { d := some 33, op := .mov (.t 32) },
    { d := some 34, op := .mov (.t 7), guard := some (33, false) },
    { d := some 35, op := .un .not (.t 34), guard := some (33, false) },
    { d := some 36, op := .pick (.t 33) (.c (.bool true)) (.t 35) }])
  (.cond (.t 36)
    (.seq (.reg 3 false [
      { d := some 37, op := .mov (.t 7) },
      { d := some 6, op := .mov (.t 37) }])
    (.ret))
    (.skip)))
  (.seq (.reg 4 false [
    { d := some 39, op := .load true 3 (.t 3) },
    { d := some 40, op := .load true 2 (.t 4) },
    { d := some 41, op := .call 26 [.t 39, .t 40] },
    { d := some 38, op := .mov (.t 41) },
    { d := some 42, op := .ext 0 (.t 38) },
    { d := some 43, op := .ext 1 (.t 38) },
    { d := some 8, op := .alloc [.int .i64 0, .int .i64 0, .int .i64 0] },
    { d := none, op := .store 3 (.t 8) (.t 42) },
    { d := some 9, op := .mov (.t 43) }])
  (.seq (.reg 5 false [
    { d := some 45, op := .load true 3 (.t 3) },
    { d := some 46, op := .load true 3 (.t 5) },
    { d := some 47, op := .call 24 [.t 45, .t 46] },
    { d := some 44, op := .mov (.t 47) },
    { d := some 48, op := .ext 0 (.t 44) },
    { d := some 49, op := .ext 1 (.t 44) },
    { d := some 50, op := .ext 2 (.t 44) },
    { d := some 10, op := .alloc [.int .i64 0, .int .i64 0] },
    { d := none, op := .store 2 (.t 10) (.t 48) },
    { d := some 11, op := .mov (.t 49) },
    { d := some 12, op := .mov (.t 50) }])
  (.seq (.seq (.reg 6 false [
    { d := some 51, op := .mov (.t 12) },
    { d := some 52, op := .bin .neq (.t 51) (.c (.int .i64 0)) }])
  (.cond (.t 52)
    (.seq (.reg 7 false [
      { d := some 6, op := .mov (.c (.bool false)) }])
    (.ret))
    (.skip)))
  (.seq (.reg 8 false [
    { d := some 53, op := .faddr 0 (.t 10) },
    { d := some 54, op := .load false 1 (.t 53) },
    { d := some 55, op := .faddr 0 (.t 4) },
    { d := some 56, op := .load false 1 (.t 55) },
    { d := some 57, op := .bin .geq (.t 54) (.t 56) },
    { d := some 58, op := .mov (.t 57) },
    { d := some 59, op := .faddr 1 (.t 10), guard := some (58, true) },
    { d := some 60, op := .load false 1 (.t 59), guard := some (58, true) },
    { d := some 61, op := .faddr 1 (.t 4), guard := some (58, true) },
    { d := some 62, op := .load false 1 (.t 61), guard := some (58, true) },
    { d := some 63, op := .bin .leq (.t 60) (.t 62), guard := some (58, true) },
    { d := some 64, op := .pick (.t 58) (.t 63) (.c (.bool false)) },
    { d := some 13, op := .mov (.t 64) }])
  (.seq (.seq (.reg 9 false [
    { d := some 65, op := .mov (.t 9) },
    { d := some 66, op := .bin .neq (.t 65) (.c (.int .i64 0)) }])
  (.cond (.t 66)
    (.seq (.reg 10 false [
      { d := some 67, op := .mov (.t 7) },
      { d := some 68, op := .mov (.t 67) },
      { d := some 69, op := .mov (.t 9), guard := some (68, true) },
      { d := some 70, op := .bin .eql (.t 69) (.c (.int .i64 6)), guard := some (68, true) },
      { d := some 71, op := .pick (.t 68) (.t 70) (.c (.bool false)) },
      { d := some 72, op := .mov (.t 71) },
      { d := some 73, op := .mov (.t 13), guard := some (72, true) },
      { d := some 74, op := .un .not (.t 73), guard := some (72, true) },
      { d := some 75, op := .pick (.t 72) (.t 74) (.c (.bool false)) },
      { d := some 76, op := .mov (.t 75) },
      { d := some 77, op := .load true 3 (.t 8), guard := some (76, true) },
      { d := some 78, op := .build [.int .i64 0, .int .i64 0, .int .i64 0] [], guard := some (76, true) },
      { d := some 79, op := .eqs false [.i, .i, .i] (.t 77) (.t 78), guard := some (76, true) },
      { d := some 80, op := .pick (.t 76) (.t 79) (.c (.bool false)) },
      { d := some 6, op := .mov (.t 80) }])
    (.ret))
    (.skip)))
  (.seq (.reg 11 false [
    { d := some 82, op := .load true 3 (.t 5) },
    { d := some 83, op := .load true 3 (.t 8) },
    { d := some 84, op := .call 22 [.t 82, .t 83] },
    { d := some 81, op := .mov (.t 84) },
    { d := some 85, op := .ext 0 (.t 81) },
    { d := some 86, op := .ext 1 (.t 81) },
    { d := some 14, op := .mov (.t 85) },
    { d := some 15, op := .mov (.t 86) }])
  (.seq (.reg 12 false [
    { d := some 88, op := .load true 3 (.t 3) },
    { d := some 89, op := .load true 3 (.t 8) },
    { d := some 90, op := .call 24 [.t 88, .t 89] },
    { d := some 87, op := .mov (.t 90) },
    { d := some 91, op := .ext 0 (.t 87) },
    { d := some 92, op := .ext 1 (.t 87) },
    { d := some 93, op := .ext 2 (.t 87) },
    { d := some 16, op := .alloc [.int .i64 0, .int .i64 0] },
    { d := none, op := .store 2 (.t 16) (.t 91) },
    { d := some 17, op := .mov (.t 92) },
    { d := some 18, op := .mov (.t 93) }])
  (.seq (.reg 13 false [
    { d := some 94, op := .mov (.t 7) },
    { d := some 95, op := .mov (.t 94) },
    { d := some 96, op := .mov (.t 15), guard := some (95, true) },
    { d := some 97, op := .bin .eql (.t 96) (.c (.int .i64 0)), guard := some (95, true) },
    { d := some 98, op := .pick (.t 95) (.t 97) (.c (.bool false)) },
    { d := some 99, op := .mov (.t 98) },
    { d := some 100, op := .mov (.t 14), guard := some (99, true) },
    { d := some 101, op := .mov (.t 13), guard := some (99, true) },
    { d := some 102, op := .vop (.beq false) [(.t 100), (.t 101)], guard := some (99, true) },
    { d := some 103, op := .pick (.t 99) (.t 102) (.c (.bool false)) },
    { d := some 104, op := .mov (.t 103) },
    { d := some 105, op := .faddr 0 (.t 8), guard := some (104, true) },
    { d := some 106, op := .load false 1 (.t 105), guard := some (104, true) },
    { d := some 107, op := .faddr 0 (.t 3), guard := some (104, true) },
    { d := some 108, op := .load false 1 (.t 107), guard := some (104, true) },
    { d := some 109, op := .bin .eql (.t 106) (.t 108), guard := some (104, true) },
    { d := some 110, op := .pick (.t 104) (.t 109) (.c (.bool false)) },
    { d := some 111, op := .mov (.t 110) },
    { d := some 112, op := .mov (.t 18), guard := some (111, true) },
    { d := some 113, op := .bin .eql (.t 112) (.c (.int .i64 0)), guard := some (111, true) },
    { d := some 114, op := .pick (.t 111) (.t 113) (.c (.bool false)) },
    { d := some 115, op := .mov (.t 114) },
    { d := some 116, op := .faddr 0 (.t 16), guard := some (115, true) },
    { d := some 117, op := .load false 1 (.t 116), guard := some (115, true) },
    { d := some 118, op := .faddr 0 (.t 4), guard := some (115, true) },
    { d := some 119, op := .load false 1 (.t 118), guard := some (115, true) },
    { d := some 120, op := .bin .geq (.t 117) (.t 119), guard := some (115, true) },
    { d := some 121, op := .pick (.t 115) (.t 120) (.c (.bool false)) },
    { d := some 122, op := .mov (.t 121) },
    { d := some 123, op := .faddr 1 (.t 16), guard := some (122, true) },
    { d := some 124, op := .load false 1 (.t 123), guard := some (122, true) },
    { d := some 125, op := .faddr 1 (.t 4), guard := some (122, true) },
    { d := some 126, op := .load false 1 (.t 125), guard := some (122, true) },
    { d := some 127, op := .bin .leq (.t 124) (.t 126), guard := some (122, true) },
    { d := some 128, op := .pick (.t 122) (.t 127) (.c (.bool false)) },
    { d := some 6, op := .mov (.t 128) }])
  (.ret)))))))))))
def rr_law01_SizeRoom : List RRes := [.t 6]
theorem pc_law01_SizeRoom {G : Nat → Option (List AV)} {args : List AV} {v : AV} (hn : args.length ≤ Tryd.f12.ntmps) (h : ∀ R : Run, R.G = G → AR Tryd.prog R rc_law01_SizeRoom (initSt args) (Fin rr_law01_SizeRoom v)) : PC Tryd.prog G 12 args v :=
  PC_of Tryd.func12 rfl (by kernel_rfl) (rc := rc_law01_SizeRoom) (by kernel_rfl) (rs := rr_law01_SizeRoom) (by kernel_rfl) hn (fun R _ hG => h R hG)

theorem pb_law01_SizeRoom {G : Nat → Option (List AV)} {objs objs' : List (Nat × AObj)} {args : List AV} {v : AV} (hn : args.length ≤ Tryd.f12.ntmps) (h : ∀ R : Run, R.G = G → AR Tryd.prog R rc_law01_SizeRoom ⟨iniT 0 args, objs⟩ (FinB rr_law01_SizeRoom v objs')) : PB Tryd.prog G 12 objs args v objs' :=
  PB_of Tryd.func12 rfl (by kernel_rfl) (rc := rc_law01_SizeRoom) (by kernel_rfl) (rs := rr_law01_SizeRoom) (by kernel_rfl) hn (fun R _ hG => h R hG)

theorem pp_law01_SizeRoom {G : Nat → Option (List AV)} {args : List AV} {ch : List PanicEntry} (hn : args.length ≤ Tryd.f12.ntmps) (h : ∀ R : Run, R.G = G → AR Tryd.prog R rc_law01_SizeRoom (initSt args) (FinP ch)) : PPC Tryd.prog G 12 args ch :=
  PPC_of Tryd.func12 rfl (by kernel_rfl) (rc := rc_law01_SizeRoom) (by kernel_rfl) hn (fun R _ hG => h R hG)

def rc_law01_SizeShared : RCode :=
  .seq (.reg 0 false [
    { d := some 4, op := .box (.t 1) },
    { d := some 6, op := .mov (.c (.bool false)) }])
  (.seq (.reg 1 false [
    { d := some 26, op := .call 41 [] },
    { d := some 7, op := .mov (.t 26) }])
  (.seq (.reg 2 false [
    { d := some 28, op := .mov (.t 2) },
    { d := some 29, op := .call 43 [.t 28] },
    { d := some 27, op := .mov (.t 29) },
    { d := some 30, op := .ext 0 (.t 27) },
    { d := some 31, op := .ext 1 (.t 27) },
    { d := some 8, op := .mov (.t 30) },
    { d := some 9, op := .mov (.t 31) }])
  (.seq (.seq (.reg 3 false [
    { d := some 32, op := .mov (.t 0) },
    { d := some 33, op := .bin .lss (.t 32) (.c (.int .i64 0)) },
    { d := some 34, op := .mov (.t 33) },
    { d := some 35, op := .mov (.t 0), guard := some (34, false) },
    { d := some 36, op := .bin .gtr (.t 35) (.c (.int .i64 1000000000)), guard := some (34, false) },
    { d := some 37, op := .pick (.t 34) (.c (.bool true)) (.t 36) },
    { d := some 38, op := .mov (.t 37) },
    { d := some 39, op := .mov (.t 0), guard := some (38, false) },
    { d := some 40, op := .mov (.t 9), guard := some (38, false) },
    { d := some 41, op := .bin .rem (.t 39) (.t 40), guard := some (38, false) },
    { d := some 42, op := .bin .neq (.t 41) (.c (.int .i64 0)), guard := some (38, false) },
    { d := some 43, op := .pick (.t 38) (.c (.bool true)) (.t 42) },
    { d := some 44, op := .mov (.t 43) },
    { d := some 45, op := .load true 2 (.t 4), guard := some (44, false) },
    { d := some 46, op := .call 46 [.t 45], guard := some (44, false) },
    { d := some 47, op := .un .not (.t 46), guard := some (44, false) },
    { d := some 48, op := .pick (.t 44) (.c (.bool true)) (.t 47) },
    { d := some 49, op := .mov (.t 48) },
    { d := some 50, op := .mov (.t 7), guard := some (49, false) },
    { d := some 51, op := .un .not (.t 50), guard := some (49, false) },
    { d := some 52, op := .pick (.t 49) (.c (.bool true)) (.t 51) }])
  (.cond (.t 52)
    (.seq (.reg 4 false [
      { d := some 53, op := .mov (.t 7) },
      { d := some 6, op := .mov (.t 53) }])
    (.ret))
    (.skip)))
  (.seq (.reg 5 false [
    { d := some 55, op := .mov (.t 0) },
    { d := some 56, op := .load true 2 (.t 4) },
    { d := some 57, op := .mov (.t 8) },
    { d := some 58, op := .call 28 [.t 55, .t 56, .t 57] },
    { d := some 54, op := .mov (.t 58) },
    { d := some 59, op := .ext 0 (.t 54) },
    { d := some 60, op := .ext 1 (.t 54) },
    { d := some 61, op := .ext 2 (.t 54) },
    { d := some 10, op := .alloc [.int .i64 0, .int .i64 0, .int .i64 0] },
    { d := some 11, op := .alloc [.int .i64 0, .int .i64 0, .int .i64 0] },
    { d := none, op := .store 3 (.t 10) (.t 59) },
    { d := none, op := .store 3 (.t 11) (.t 60) },
    { d := some 12, op := .mov (.t 61) }])
  (.seq (.reg 6 false [
    { d := some 62, op := .faddr 1 (.t 4) },
    { d := some 63, op := .load false 1 (.t 62) },
    { d := some 64, op := .faddr 0 (.t 4) },
    { d := some 65, op := .load false 1 (.t 64) },
    { d := some 66, op := .bin .sub (.t 63) (.t 65) },
    { d := some 67, op := .bin .quo (.t 66) (.c (.int .i64 2)) },
    { d := some 13, op := .mov (.t 67) }])
  (.seq (.seq (.reg 7 false [
    { d := some 68, op := .mov (.t 12) },
    { d := some 69, op := .bin .neq (.t 68) (.c (.int .i64 0)) }])
  (.cond (.t 69)
    (.seq (.reg 8 false [
      { d := some 70, op := .mov (.t 7) },
      { d := some 71, op := .mov (.t 70) },
      { d := some 72, op := .mov (.t 12), guard := some (71, true) },
      { d := some 73, op := .bin .eql (.t 72) (.c (.int .i64 6)), guard := some (71, true) },
      { d := some 74, op := .pick (.t 71) (.t 73) (.c (.bool false)) },
      { d := some 75, op := .mov (.t 74) },
      { d := some 76, op := .load true 3 (.t 10), guard := some (75, true) },
      { d := some 77, op := .build [.int .i64 0, .int .i64 0, .int .i64 0] [], guard := some (75, true) },
      { d := some 78, op := .eqs false [.i, .i, .i] (.t 76) (.t 77), guard := some (75, true) },
      { d := some 79, op := .pick (.t 75) (.t 78) (.c (.bool false)) },
      { d := some 80, op := .mov (.t 79) },
      { d := some 81, op := .load true 3 (.t 11), guard := some (80, true) },
      { d := some 82, op := .build [.int .i64 0, .int .i64 0, .int .i64 0] [], guard := some (80, true) },
      { d := some 83, op := .eqs false [.i, .i, .i] (.t 81) (.t 82), guard := some (80, true) },
      { d := some 84, op := .pick (.t 80) (.t 83) (.c (.bool false)) },
      { d := some 6, op := .mov (.t 84) }])
    (.ret))
    (.skip)))
  (.seq (.reg 9 false [
    { d := some 86, op := .load true 3 (.t 10) },
    { d := some 87, op := .load true 3 (.t 11) },
    { d := some 88, op := .call 24 [.t 86, .t 87] },
    { d := some 85, op := .mov (.t 88) },
    { d := some 89, op := .ext 0 (.t 85) },
    { d := some 90, op := .ext 1 (.t 85) },
    { d := some 91, op := .ext 2 (.t 85) },
    { d := some 14, op := .alloc [.int .i64 0, .int .i64 0] },
    { d := none, op := .store 2 (.t 14) (.t 89) },
    { d := some 15, op := .mov (.t 90) },
    { d := some 16, op := .mov (.t 91) }])
  (.seq (.reg 10 false [
    { d := some 93, op := .load true 3 (.t 10) },
    { d := some 94, op := .call 33 [.t 93] },
    { d := some 92, op := .mov (.t 94) },
    { d := some 95, op := .ext 0 (.t 92) },
    { d := some 96, op := .ext 1 (.t 92) },
    { d := some 17, op := .mov (.t 95) },
    { d := some 18, op := .mov (.t 96) }])
  (.seq (.reg 11 false [
    { d := some 98, op := .load true 3 (.t 11) },
    { d := some 99, op := .call 33 [.t 98] },
    { d := some 97, op := .mov (.t 99) },
    { d := some 100, op := .ext 0 (.t 97) },
    { d := some 101, op := .ext 1 (.t 97) },
    { d := some 19, op := .mov (.t 100) },
    { d := some 20, op := .mov (.t 101) }])
  (.seq (.reg 12 false [
    { d := some 103, op := .load true 3 (.t 10) },
    { d := some 104, op := .load true 2 (.t 4) },
    { d := some 105, op := .call 26 [.t 103, .t 104] },
    { d := some 102, op := .mov (.t 105) },
    { d := some 106, op := .ext 0 (.t 102) },
    { d := some 107, op := .ext 1 (.t 102) },
    { d := some 21, op := .alloc [.int .i64 0, .int .i64 0, .int .i64 0] },
    { d := none, op := .store 3 (.t 21) (.t 106) },
    { d := some 22, op := .mov (.t 107) }])
  (.seq (.seq (.reg 13 false [
    { d := some 108, op := .mov (.t 16) },
    { d := some 109, op := .bin .neq (.t 108) (.c (.int .i64 0)) },
    { d := some 110, op := .mov (.t 109) },
    { d := some 111, op := .mov (.t 18), guard := some (110, false) },
    { d := some 112, op := .bin .neq (.t 111) (.c (.int .i64 0)), guard := some (110, false) },
    { d := some 113, op := .pick (.t 110) (.c (.bool true)) (.t 112) },
    { d := some 114, op := .mov (.t 113) },
    { d := some 115, op := .mov (.t 20), guard := some (114, false) },
    { d := some 116, op := .bin .neq (.t 115) (.c (.int .i64 0)), guard := some (114, false) },
    { d := some 117, op := .pick (.t 114) (.c (.bool true)) (.t 116) },
    { d := some 118, op := .mov (.t 117) },
    { d := some 119, op := .mov (.t 22), guard := some (118, false) },
    { d := some 120, op := .bin .neq (.t 119) (.c (.int .i64 0)), guard := some (118, false) },
    { d := some 121, op := .pick (.t 118) (.c (.bool true)) (.t 120) },
    { d := some 122, op := .mov (.t 121) },
    { d := some 123, op := .faddr 0 (.t 14), guard := some (122, false) },
    { d := some 124, op := .load false 1 (.t 123), guard := some (122, false) },
    { d := some 125, op := .faddr 0 (.t 4), guard := some (122, false) },
    { d := some 126, op := .load false 1 (.t 125), guard := some (122, false) },
    { d := some 127, op := .bin .lss (.t 124) (.t 126), guard := some (122, false) },
    { d := some 128, op := .pick (.t 122) (.c (.bool true)) (.t 127) },
    { d := some 129, op := .mov (.t 128) },
    { d := some 130, op := .faddr 1 (.t 14), guard := some (129, false) },
    { d := some 131, op := .load false 1 (.t 130), guard := some (129, false) },
    { d := some 132, op := .faddr 1 (.t 4), guard := some (129, false) },
    { d := some 133, op := .load false 1 (.t 132), guard := some (129, false) },
    { d := some 134, op := .bin .gtr (.t 131) (.t 133), guard := some (129, false) },
    { d := some 135, op := .pick (.t 129) (.c (.bool true)) (.t 134) },
    { d := some 136, op := .mov (.t 135) },
    { d := some 137, op := .mov (.t 17), guard := some (136, false) },
    { d := some 138, op := .mov (.t 8), guard := some (136, false) },
    { d := some 139, op := .vop (.bits .and) [(.t 137), (.t 138)], guard := some (136, false) },
    { d := some 140, op := .mov (.t 8), guard := some (136, false) },
    { d := some 141, op := .bin .neq (.t 139) (.t 140), guard := some (136, false) },
    { d := some 142, op := .pick (.t 136) (.c (.bool true)) (.t 141) },
    { d := some 143, op := .mov (.t 142) },
    { d := some 144, op := .mov (.t 19), guard := some (143, false) },
    { d := some 145, op := .mov (.t 8), guard := some (143, false) },
    { d := some 146, op := .vop (.bits .and) [(.t 144), (.t 145)], guard := some (143, false) },
    { d := some 147, op := .mov (.t 8), guard := some (143, false) },
    { d := some 148, op := .bin .neq (.t 146) (.t 147), guard := some (143, false) },
    { d := some 149, op := .pick (.t 143) (.c (.bool true)) (.t 148) }])
  (.cond (.t 149)
    (.seq (.reg 14 false [
      { d := some 6, op := .mov (.c (.bool false)) }])
    (.ret))
    (.skip)))
  (.seq (.reg 15 false [
    { d := some 151, op := .load true 3 (.t 21) },
    { d := some 152, op := .mov (.t 8) },
    { d := some 153, op := .call 16 [.t 151, .t 152] },
    { d := some 150, op := .mov (.t 153) },
    { d := some 154, op := .ext 0 (.t 150) },
    { d := some 155, op := .ext 1 (.t 150) },
    { d := some 23, op := .alloc [.int .i64 0, .int .i64 0, .int .i64 0] },
    { d := none, op := .store 3 (.t 23) (.t 154) },
    { d := some 24, op := .mov (.t 155) }])
  (.seq (.reg 16 false [
    { d := some 156, op := .faddr 2 (.t 10) },
    { d := some 157, op := .load false 1 (.t 156) },
    { d := some 158, op := .faddr 1 (.t 10) },
    { d := some 159, op := .load false 1 (.t 158) },
    { d := some 160, op := .bin .sub (.t 157) (.t 159) },
    { d := some 25, op := .mov (.t 160) }])
  (.seq (.reg 17 false [
    { d := some 161, op := .mov (.t 7) },
    { d := some 162, op := .mov (.t 161) },
    { d := some 163, op := .faddr 0 (.t 10), guard := some (162, true) },
    { d := some 164, op := .load false 1 (.t 163), guard := some (162, true) },
    { d := some 165, op := .mov (.t 0), guard := some (162, true) },
    { d := some 166, op := .bin .eql (.t 164) (.t 165), guard := some (162, true) },
    { d := some 167, op := .pick (.t 162) (.t 166) (.c (.bool false)) },
    { d := some 168, op := .mov (.t 167) },
    { d := some 169, op := .faddr 1 (.t 10), guard := some (168, true) },
    { d := some 170, op := .load false 1 (.t 169), guard := some (168, true) },
    { d := some 171, op := .mov (.t 0), guard := some (168, true) },
    { d := some 172, op := .bin .eql (.t 170) (.t 171), guard := some (168, true) },
    { d := some 173, op := .pick (.t 168) (.t 172) (.c (.bool false)) },
    { d := some 174, op := .mov (.t 173) },
    { d := some 175, op := .mov (.t 25), guard := some (174, true) },
    { d := some 176, op := .bin .geq (.t 175) (.c (.int .i64 0)), guard := some (174, true) },
    { d := some 177, op := .pick (.t 174) (.t 176) (.c (.bool false)) },
    { d := some 178, op := .mov (.t 177) },
    { d := some 179, op := .mov (.t 25), guard := some (178, true) },
    { d := some 180, op := .mov (.t 13), guard := some (178, true) },
    { d := some 181, op := .bin .leq (.t 179) (.t 180), guard := some (178, true) },
    { d := some 182, op := .pick (.t 178) (.t 181) (.c (.bool false)) },
    { d := some 183, op := .mov (.t 182) },
    { d := some 184, op := .mov (.t 25), guard := some (183, true) },
    { d := some 185, op := .mov (.t 9), guard := some (183, true) },
    { d := some 186, op := .bin .add (.t 184) (.t 185), guard := some (183, true) },
    { d := some 187, op := .mov (.t 13), guard := some (183, true) },
    { d := some 188, op := .bin .gtr (.t 186) (.t 187), guard := some (183, true) },
    { d := some 189, op := .pick (.t 183) (.t 188) (.c (.bool false)) },
    { d := some 190, op := .mov (.t 189) },
    { d := some 191, op := .mov (.t 24), guard := some (190, true) },
    { d := some 192, op := .bin .eql (.t 191) (.c (.int .i64 0)), guard := some (190, true) },
    { d := some 193, op := .pick (.t 190) (.t 192) (.c (.bool false)) },
    { d := some 194, op := .mov (.t 193) },
    { d := some 195, op := .load true 3 (.t 23), guard := some (194, true) },
    { d := some 196, op := .load true 3 (.t 11), guard := some (194, true) },
    { d := some 197, op := .eqs false [.i, .i, .i] (.t 195) (.t 196), guard := some (194, true) },
    { d := some 198, op := .pick (.t 194) (.t 197) (.c (.bool false)) },
    { d := some 6, op := .mov (.t 198) }])
  (.ret)))))))))))))))
def rr_law01_SizeShared : List RRes := [.t 6]
theorem pc_law01_SizeShared {G : Nat → Option (List AV)} {args : List AV} {v : AV} (hn : args.length ≤ Tryd.f13.ntmps) (h : ∀ R : Run, R.G = G → AR Tryd.prog R rc_law01_SizeShared (initSt args) (Fin rr_law01_SizeShared v)) : PC Tryd.prog G 13 args v :=
  PC_of Tryd.func13 rfl (by kernel_rfl) (rc := rc_law01_SizeShared) (by kernel_rfl) (rs := rr_law01_SizeShared) (by kernel_rfl) hn (fun R _ hG => h R hG)

theorem pb_law01_SizeShared {G : Nat → Option (List AV)} {objs objs' : List (Nat × AObj)} {args : List AV} {v : AV} (hn : args.length ≤ Tryd.f13.ntmps) (h : ∀ R : Run, R.G = G → AR Tryd.prog R rc_law01_SizeShared ⟨iniT 0 args, objs⟩ (FinB rr_law01_SizeShared v objs')) : PB Tryd.prog G 13 objs args v objs' :=
  PB_of Tryd.func13 rfl (by kernel_rfl) (rc := rc_law01_SizeShared) (by kernel_rfl) (rs := rr_law01_SizeShared) (by kernel_rfl) hn (fun R _ hG => h R hG)

theorem pp_law01_SizeShared {G : Nat → Option (List AV)} {args : List AV} {ch : List PanicEntry} (hn : args.length ≤ Tryd.f13.ntmps) (h : ∀ R : Run, R.G = G → AR Tryd.prog R rc_law01_SizeShared (initSt args) (FinP ch)) : PPC Tryd.prog G 13 args ch :=
  PPC_of Tryd.func13 rfl (by kernel_rfl) (rc := rc_law01_SizeShared) (by kernel_rfl) hn (fun R _ hG => h R hG)

def rc_law01_SizeMeets : RCode :=
  .seq (.reg 0 false [
    { d := some 5, op := .box (.t 1) },
    { d := some 8, op := .mov (.c (.bool false)) }])
  (.seq (.reg 1 false [
    { d := some 20, op := .call 41 [] },
    { d := some 9, op := .mov (.t 20) }])
  (.seq (.seq (.reg 2 false [
    { d := some 21, op := .mov (.t 0) },
    { d := some 22, op := .len (.t 21) },
    { d := some 23, op := .bin .eql (.t 22) (.c (.int .i64 0)) },
    { d := some 24, op := .mov (.t 23) },
    { d := some 25, op := .mov (.t 0), guard := some (24, false) },
    { d := some 26, op := .len (.t 25), guard := some (24, false) },
    { d := some 27, op := .bin .geq (.t 26) (.c (.int .i64 20)), guard := some (24, false) },
    { d := some 28, op := .pick (.t 24) (.c (.bool true)) (.t 27) },
    { d := some 29, op := .mov (.t 28) },
    { d := some 30, op := .load true 3 (.t 5), guard := some (29, false) },
    { d := some 31, op := .call 42 [.t 30], guard := some (29, false) },
    { d := some 32, op := .un .not (.t 31), guard := some (29, false) },
    { d := some 33, op := .pick (.t 29) (.c (.bool true)) (.t 32) },
    { d := some 34, op := .mov (.t 33) },
    { d := some 35, op := .mov (.t 9), guard := some (34, false) },
    { d := some 36, op := .un .not (.t 35), guard := some (34, false) },
    { d := some 37, op := .pick (.t 34) (.c (.bool true)) (.t 36) }])
  (.cond (.t 37)
    (.seq (.reg 3 false [
      { d := some 38, op := .mov (.t 9) },
      { d := some 8, op := .mov (.t 38) }])
    (.ret))
    (.skip)))
  (.seq (.reg 4 false [
    { d := some 10, op := .mov (.c (.bool true)) }])
  (.seq (.reg 5 false [
    { d := some 11, op := .mov (.c (.nils)) }])
  (.seq (.seq (.reg 6 false [
    { d := some 39, op := .mov (.t 0) },
    { d := some 40, op := .len (.t 39) },
    { d := some 41, op := .mov (.c (.int .i64 0)) }])
  (.block 0
    (.loop
      (.seq (.reg 7 false [
        { d := some 42, op := .bin .lss (.t 41) (.t 40) }])
      (.seq (.cond (.t 42)
        (.skip)
        (.exit 0))
      (.seq (.block 1
        (.seq (.reg 8 false [
          { d := some 43, op := .mov (.t 41) },
          { d := some 44, op := .iaddr 3 (.t 39) (.t 41) },
          { d := some 45, op := .load true 3 (.t 44) },
          { d := some 13, op := .alloc [.int .i64 0, .int .i64 0, .int .i64 0] },
          { d := some 12, op := .mov (.t 43) },
          { d := none, op := .store 3 (.t 13) (.t 45) }])
        (.seq (.seq (.reg 9 false [
          { d := some 46, op := .load true 3 (.t 13) },
          { d := some 47, op := .call 42 [.t 46] },
          { d := some 48, op := .un .not (.t 47) }])
        (.cond (.t 48)
          (.seq (.reg 10 false [
            { d := some 49, op := .mov (.t 9) },
            { d := some 8, op := .mov (.t 49) }])
          (.ret))
          (.skip)))
        (.seq (.reg 11 false [
          { d := some 50, op := .mov (.t 10) },
          { d := some 51, op := .mov (.t 50) },
          { d := some 52, op := .mov (.t 2), guard := some (51, true) },
          { d := some 53, op := .faddr 1 (.t 13), guard := some (51, true) },
          { d := some 54, op := .load false 1 (.t 53), guard := some (51, true) },
          { d := some 55, op := .bin .geq (.t 52) (.t 54), guard := some (51, true) },
          { d := some 56, op := .pick (.t 51) (.t 55) (.c (.bool false)) },
          { d := some 57, op := .mov (.t 56) },
          { d := some 58, op := .mov (.t 2), guard := some (57, true) },
          { d := some 59, op := .faddr 2 (.t 13), guard := some (57, true) },
          { d := some 60, op := .load false 1 (.t 59), guard := some (57, true) },
          { d := some 61, op := .bin .leq (.t 58) (.t 60), guard := some (57, true) },
          { d := some 62, op := .pick (.t 57) (.t 61) (.c (.bool false)) },
          { d := some 10, op := .mov (.t 62) }])
        (.reg 12 false [
          { d := some 63, op := .mov (.t 11) },
          { d := some 64, op := .mov (.t 0) },
          { d := some 65, op := .mov (.t 12) },
          { d := some 66, op := .mov (.t 3) },
          { d := some 67, op := .conv .i64 (.t 66) },
          { d := some 68, op := .mov (.t 0) },
          { d := some 69, op := .len (.t 68) },
          { d := some 70, op := .bin .rem (.t 67) (.t 69) },
          { d := some 71, op := .bin .add (.t 65) (.t 70) },
          { d := some 72, op := .mov (.t 0) },
          { d := some 73, op := .len (.t 72) },
          { d := some 74, op := .bin .rem (.t 71) (.t 73) },
          { d := some 75, op := .iaddr 3 (.t 64) (.t 74) },
          { d := some 76, op := .load true 3 (.t 75) },
          { d := some 77, op := .bsl false 3 1 [.int .i64 0, .int .i64 0, .int .i64 0] [(0, .t 76)] },
          { d := some 78, op := .app 3 24 (.t 63) (.t 77) },
          { d := some 11, op := .mov (.t 78) }])))))
      (.reg 13 false [
        { d := some 79, op := .bin .add (.t 41) (.c (.int .i64 1)) },
        { d := some 41, op := .mov (.t 79) }])))))))
  (.seq (.reg 14 false [
    { d := some 81, op := .mov (.t 0) },
    { d := some 82, op := .call 30 [.t 81] },
    { d := some 80, op := .mov (.t 82) },
    { d := some 83, op := .ext 0 (.t 80) },
    { d := some 84, op := .ext 1 (.t 80) },
    { d := some 14, op := .alloc [.int .i64 0, .int .i64 0] },
    { d := none, op := .store 2 (.t 14) (.t 83) },
    { d := some 15, op := .mov (.t 84) }])
  (.seq (.reg 15 false [
    { d := some 86, op := .mov (.t 11) },
    { d := some 87, op := .call 30 [.t 86] },
    { d := some 85, op := .mov (.t 87) },
    { d := some 88, op := .ext 0 (.t 85) },
    { d := some 89, op := .ext 1 (.t 85) },
    { d := some 16, op := .alloc [.int .i64 0, .int .i64 0] },
    { d := none, op := .store 2 (.t 16) (.t 88) },
    { d := some 17, op := .mov (.t 89) }])
  (.seq (.reg 16 true [
    { d := some 91, op := .bsl false 3 0 [] [], aft := [] },
    { d := some 92, op := .mov (.t 0), aft := [] },
    { d := some 93, op := .app 3 24 (.t 91) (.t 92), aft := [0, 1] },
    { d := some 94, op := .load true 3 (.t 5), aft := [] },
    { d := some 95, op := .bsl false 3 1 [.int .i64 0, .int .i64 0, .int .i64 0] [(0, .t 94)], aft := [3] },
    { d := some 96, op := .app 3 24 (.t 93) (.t 95), aft := [2, 4, 2] },
    { d := some 97, op := .call 30 [.t 96], aft := [5, 5] },
    { d := some 90, op := .mov (.t 97), aft := [6] },
    { d := some 98, op := .ext 0 (.t 90), aft := [7] },
    { d := some 99, op := .ext 1 (.t 90), aft := [7] },
    { d := some 18, op := .alloc [.int .i64 0, .int .i64 0], aft := [] },
    { d := none, op := .store 2 (.t 18) (.t 98), aft := [10, 8, 6, 0, 1, 2, 3, 4, 5, 6, 7, 8, 10] },
    { d := some 19, op := .mov (.t 99), aft := [9, 11, 0, 1, 2, 3, 4, 5, 6, 7, 8, 9, 10, 11] }])
  (.seq (.seq (.reg 17 false [
    { d := some 100, op := .load true 2 (.t 14) },
    { d := some 101, op := .load true 2 (.t 16) },
    { d := some 102, op := .eqs true [.i, .i] (.t 100) (.t 101) },
    { d := some 103, op := .mov (.t 102) },
    { d := some 104, op := .mov (.t 15), guard := some (103, false) },
    { d := some 105, op := .mov (.t 17), guard := some (103, false) },
    { d := some 106, op := .bin .neq (.t 104) (.t 105), guard := some (103, false) },
    { d := some 107, op := .pick (.t 103) (.c (.bool true)) (.t 106) }])
  (.cond (.t 107)
    (.seq (.reg 18 false [
      { d := some 8, op := .mov (.c (.bool false)) }])
    (.ret))
    (.skip)))
  (.seq (.seq (.reg 19 false [
    { d := some 108, op := .mov (.t 15) },
    { d := some 109, op := .bin .neq (.t 108) (.c (.int .i64 0)) }])
  (.cond (.t 109)
    (.seq (.reg 20 false [
      { d := some 110, op := .mov (.t 9) },
      { d := some 111, op := .mov (.t 110) },
      { d := some 112, op := .mov (.t 15), guard := some (111, true) },
      { d := some 113, op := .bin .eql (.t 112) (.c (.int .i64 6)), guard := some (111, true) },
      { d := some 114, op := .pick (.t 111) (.t 113) (.c (.bool false)) },
      { d := some 115, op := .mov (.t 114) },
      { d := some 116, op := .mov (.t 10), guard := some (115, true) },
      { d := some 117, op := .un .not (.t 116), guard := some (115, true) },
      { d := some 118, op := .pick (.t 115) (.t 117) (.c (.bool false)) },
      { d := some 119, op := .mov (.t 118) },
      { d := some 120, op := .mov (.t 19), guard := some (119, true) },
      { d := some 121, op := .mov (.t 15), guard := some (119, true) },
      { d := some 122, op := .bin .eql (.t 120) (.t 121), guard := some (119, true) },
      { d := some 123, op := .pick (.t 119) (.t 122) (.c (.bool false)) },
      { d := some 124, op := .mov (.t 123) },
      { d := some 125, op := .load true 2 (.t 14), guard := some (124, true) },
      { d := some 126, op := .build [.int .i64 0, .int .i64 0] [], guard := some (124, true) },
      { d := some 127, op := .eqs false [.i, .i] (.t 125) (.t 126), guard := some (124, true) },
      { d := some 128, op := .pick (.t 124) (.t 127) (.c (.bool false)) },
      { d := some 8, op := .mov (.t 128) }])
    (.ret))
    (.skip)))
  (.seq (.seq (.reg 21 false [
    { d := some 129, op := .mov (.t 10) },
    { d := some 130, op := .mov (.t 2) },
    { d := some 131, op := .faddr 0 (.t 14) },
    { d := some 132, op := .load false 1 (.t 131) },
    { d := some 133, op := .bin .geq (.t 130) (.t 132) },
    { d := some 134, op := .mov (.t 133) },
    { d := some 135, op := .mov (.t 2), guard := some (134, true) },
    { d := some 136, op := .faddr 1 (.t 14), guard := some (134, true) },
    { d := some 137, op := .load false 1 (.t 136), guard := some (134, true) },
    { d := some 138, op := .bin .leq (.t 135) (.t 137), guard := some (134, true) },
    { d := some 139, op := .pick (.t 134) (.t 138) (.c (.bool false)) },
    { d := some 140, op := .vop (.beq true) [(.t 129), (.t 139)] },
    { d := some 141, op := .mov (.t 140) },
    { d := some 142, op := .faddr 0 (.t 14), guard := some (141, false) },
    { d := some 143, op := .load false 1 (.t 142), guard := some (141, false) },
    { d := some 144, op := .faddr 1 (.t 14), guard := some (141, false) },
    { d := some 145, op := .load false 1 (.t 144), guard := some (141, false) },
    { d := some 146, op := .bin .gtr (.t 143) (.t 145), guard := some (141, false) },
    { d := some 147, op := .pick (.t 141) (.c (.bool true)) (.t 146) }])
  (.cond (.t 147)
    (.seq (.reg 22 false [
      { d := some 8, op := .mov (.c (.bool false)) }])
    (.ret))
    (.skip)))
  (.seq (.seq (.reg 23 false [
    { d := some 148, op := .mov (.t 19) },
    { d := some 149, op := .bin .neq (.t 148) (.c (.int .i64 0)) }])
  (.cond (.t 149)
    (.seq (.reg 24 false [
      { d := some 150, op := .mov (.t 9) },
      { d := some 151, op := .mov (.t 150) },
      { d := some 152, op := .mov (.t 19), guard := some (151, true) },
      { d := some 153, op := .bin .eql (.t 152) (.c (.int .i64 6)), guard := some (151, true) },
      { d := some 154, op := .pick (.t 151) (.t 153) (.c (.bool false)) },
      { d := some 155, op := .mov (.t 154) },
      { d := some 156, op := .faddr 2 (.t 5), guard := some (155, true) },
      { d := some 157, op := .load false 1 (.t 156), guard := some (155, true) },
      { d := some 158, op := .faddr 0 (.t 14), guard := some (155, true) },
      { d := some 159, op := .load false 1 (.t 158), guard := some (155, true) },
      { d := some 160, op := .bin .lss (.t 157) (.t 159), guard := some (155, true) },
      { d := some 161, op := .mov (.t 160), guard := some (155, true) },
      { d := some 162, op := .faddr 1 (.t 5), guard := some (161, false) },
      { d := some 163, op := .load false 1 (.t 162), guard := some (161, false) },
      { d := some 164, op := .faddr 1 (.t 14), guard := some (161, false) },
      { d := some 165, op := .load false 1 (.t 164), guard := some (161, false) },
      { d := some 166, op := .bin .gtr (.t 163) (.t 165), guard := some (161, false) },
      { d := some 167, op := .pick (.t 161) (.c (.bool true)) (.t 166), guard := some (155, true) },
      { d := some 168, op := .pick (.t 155) (.t 167) (.c (.bool false)) },
      { d := some 8, op := .mov (.t 168) }])
    (.ret))
    (.skip)))
  (.seq (.reg 25 false [
    { d := some 169, op := .mov (.t 9) },
    { d := some 170, op := .mov (.t 169) },
    { d := some 171, op := .faddr 0 (.t 18), guard := some (170, true) },
    { d := some 172, op := .load false 1 (.t 171), guard := some (170, true) },
    { d := some 173, op := .faddr 0 (.t 14), guard := some (170, true) },
    { d := some 174, op := .load false 1 (.t 173), guard := some (170, true) },
    { d := some 175, op := .faddr 1 (.t 5), guard := some (170, true) },
    { d := some 176, op := .load false 1 (.t 175), guard := some (170, true) },
    { d := some 177, op := .mx true (.t 174) [.t 176], guard := some (170, true) },
    { d := some 178, op := .bin .eql (.t 172) (.t 177), guard := some (170, true) },
    { d := some 179, op := .pick (.t 170) (.t 178) (.c (.bool false)) },
    { d := some 180, op := .mov (.t 179) },
    { d := some 181, op := .faddr 1 (.t 18), guard := some (180, true) },
    { d := some 182, op := .load false 1 (.t 181), guard := some (180, true) },
    { d := some 183, op := .faddr 1 (.t 14), guard := some (180, true) },
    { d := some 184, op := .load false 1 (.t 183), guard := some (180, true) },
    { d := some 185, op := .faddr 2 (.t 5), guard := some (180, true) },
    { d := some 186, op := .load false 1 (.t 185), guard := some (180, true) },
    { d := some 187, op := .mx false (.t 184) [.t 186], guard := some (180, true) },
    { d := some 188, op := .bin .eql (.t 182) (.t 187), guard := some (180, true) },
    { d := some 189, op := .pick (.t 180) (.t 188) (.c (.bool false)) },
    { d := some 8, op := .mov (.t 189) }])
  (.ret))))))))))))))
def rr_law01_SizeMeets : List RRes := [.t 8]
theorem pc_law01_SizeMeets {G : Nat → Option (List AV)} {args : List AV} {v : AV} (hn : args.length ≤ Tryd.f14.ntmps) (h : ∀ R : Run, R.G = G → AR Tryd.prog R rc_law01_SizeMeets (initSt args) (Fin rr_law01_SizeMeets v)) : PC Tryd.prog G 14 args v :=
  PC_of Tryd.func14 rfl (by kernel_rfl) (rc := rc_law01_SizeMeets) (by kernel_rfl) (rs := rr_law01_SizeMeets) (by kernel_rfl) hn (fun R _ hG => h R hG)

theorem pb_law01_SizeMeets {G : Nat → Option (List AV)} {objs objs' : List (Nat × AObj)} {args : List AV} {v : AV} (hn : args.length ≤ Tryd.f14.ntmps) (h : ∀ R : Run, R.G = G → AR Tryd.prog R rc_law01_SizeMeets ⟨iniT 0 args, objs⟩ (FinB rr_law01_SizeMeets v objs')) : PB Tryd.prog G 14 objs args v objs' :=
  PB_of Tryd.func14 rfl (by kernel_rfl) (rc := rc_law01_SizeMeets) (by kernel_rfl) (rs := rr_law01_SizeMeets) (by kernel_rfl) hn (fun R _ hG => h R hG)

theorem pp_law01_SizeMeets {G : Nat → Option (List AV)} {args : List AV} {ch : List PanicEntry} (hn : args.length ≤ Tryd.f14.ntmps) (h : ∀ R : Run, R.G = G → AR Tryd.prog R rc_law01_SizeMeets (initSt args) (FinP ch)) : PPC Tryd.prog G 14 args ch :=
  PPC_of Tryd.func14 rfl (by kernel_rfl) (rc := rc_law01_SizeMeets) (by kernel_rfl) hn (fun R _ hG => h R hG)

end Go.Proofs.YtikjooemblpnbaaDoor
