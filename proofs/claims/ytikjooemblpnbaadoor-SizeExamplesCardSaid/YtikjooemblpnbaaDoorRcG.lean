/-
  The abstract machine's code of functions of the program, as a program of ours printed it; that it is theirs is proved beside each.
-/
import Derived.Test.YtikjooemblpnbaaDoorAmL
import Derived.Test.YtikjooemblpnbaaDoorProg
namespace Go.Proofs.YtikjooemblpnbaaDoor
open Go.RowKit

def rc_api_Errno_Error : RCode :=
  .seq (.reg 0 false [
    { d := some 2, op := .mov (.c (.str ⟨#[]⟩)) }])
  (.seq (.reg 1 false [
    { d := some 3, op := .mov (.t 0) },
    { d := some 4, op := .call 76 [.t 3] },
    { d := some 5, op := .bin .add (.c (.str ⟨#[101, 114, 114, 111, 114, 32]⟩)) (.t 4) },
    { d := some 2, op := .mov (.t 5) }])
  (.ret))
def rr_api_Errno_Error : List RRes := [.t 2]
theorem pc_api_Errno_Error {G : Nat → Option (List AV)} {args : List AV} {v : AV} (hn : args.length ≤ Tryd.f47.ntmps) (h : ∀ R : Run, R.G = G → AR Tryd.prog R rc_api_Errno_Error (initSt args) (Fin rr_api_Errno_Error v)) : PC Tryd.prog G 47 args v :=
  PC_of Tryd.func47 rfl (by kernel_rfl) (rc := rc_api_Errno_Error) (by kernel_rfl) (rs := rr_api_Errno_Error) (by kernel_rfl) hn (fun R _ hG => h R hG)

theorem pb_api_Errno_Error {G : Nat → Option (List AV)} {objs objs' : List (Nat × AObj)} {args : List AV} {v : AV} (hn : args.length ≤ Tryd.f47.ntmps) (h : ∀ R : Run, R.G = G → AR Tryd.prog R rc_api_Errno_Error ⟨iniT 0 args, objs⟩ (FinB rr_api_Errno_Error v objs')) : PB Tryd.prog G 47 objs args v objs' :=
  PB_of Tryd.func47 rfl (by kernel_rfl) (rc := rc_api_Errno_Error) (by kernel_rfl) (rs := rr_api_Errno_Error) (by kernel_rfl) hn (fun R _ hG => h R hG)

theorem pp_api_Errno_Error {G : Nat → Option (List AV)} {args : List AV} {ch : List PanicEntry} (hn : args.length ≤ Tryd.f47.ntmps) (h : ∀ R : Run, R.G = G → AR Tryd.prog R rc_api_Errno_Error (initSt args) (FinP ch)) : PPC Tryd.prog G 47 args ch :=
  PPC_of Tryd.func47 rfl (by kernel_rfl) (rc := rc_api_Errno_Error) (by kernel_rfl) hn (fun R _ hG => h R hG)

def rc_strconv_Itoa : RCode :=
  .seq (.reg 0 false [
    { d := some 2, op := .mov (.c (.str ⟨#[]⟩)) }])
  (.seq (.reg 1 false [
    { d := some 3, op := .mov (.t 0) },
    { d := some 4, op := .call 92 [.t 3] },
    { d := some 2, op := .mov (.t 4) }])
  (.ret))
def rr_strconv_Itoa : List RRes := [.t 2]
theorem pc_strconv_Itoa {G : Nat → Option (List AV)} {args : List AV} {v : AV} (hn : args.length ≤ Tryd.f76.ntmps) (h : ∀ R : Run, R.G = G → AR Tryd.prog R rc_strconv_Itoa (initSt args) (Fin rr_strconv_Itoa v)) : PC Tryd.prog G 76 args v :=
  PC_of Tryd.func76 rfl (by kernel_rfl) (rc := rc_strconv_Itoa) (by kernel_rfl) (rs := rr_strconv_Itoa) (by kernel_rfl) hn (fun R _ hG => h R hG)

theorem pb_strconv_Itoa {G : Nat → Option (List AV)} {objs objs' : List (Nat × AObj)} {args : List AV} {v : AV} (hn : args.length ≤ Tryd.f76.ntmps) (h : ∀ R : Run, R.G = G → AR Tryd.prog R rc_strconv_Itoa ⟨iniT 0 args, objs⟩ (FinB rr_strconv_Itoa v objs')) : PB Tryd.prog G 76 objs args v objs' :=
  PB_of Tryd.func76 rfl (by kernel_rfl) (rc := rc_strconv_Itoa) (by kernel_rfl) (rs := rr_strconv_Itoa) (by kernel_rfl) hn (fun R _ hG => h R hG)

theorem pp_strconv_Itoa {G : Nat → Option (List AV)} {args : List AV} {ch : List PanicEntry} (hn : args.length ≤ Tryd.f76.ntmps) (h : ∀ R : Run, R.G = G → AR Tryd.prog R rc_strconv_Itoa (initSt args) (FinP ch)) : PPC Tryd.prog G 76 args ch :=
  PPC_of Tryd.func76 rfl (by kernel_rfl) (rc := rc_strconv_Itoa) (by kernel_rfl) hn (fun R _ hG => h R hG)

def rc_internal_strconv_Itoa : RCode :=
  .seq (.reg 0 false [
    { d := some 2, op := .mov (.c (.str ⟨#[]⟩)) }])
  (.seq (.reg 1 false [
    { d := some 3, op := .mov (.t 0) },
    { d := some 4, op := .call 101 [.t 3, .c (.int .i64 10)] },
    { d := some 2, op := .mov (.t 4) }])
  (.ret))
def rr_internal_strconv_Itoa : List RRes := [.t 2]
theorem pc_internal_strconv_Itoa {G : Nat → Option (List AV)} {args : List AV} {v : AV} (hn : args.length ≤ Tryd.f92.ntmps) (h : ∀ R : Run, R.G = G → AR Tryd.prog R rc_internal_strconv_Itoa (initSt args) (Fin rr_internal_strconv_Itoa v)) : PC Tryd.prog G 92 args v :=
  PC_of Tryd.func92 rfl (by kernel_rfl) (rc := rc_internal_strconv_Itoa) (by kernel_rfl) (rs := rr_internal_strconv_Itoa) (by kernel_rfl) hn (fun R _ hG => h R hG)

theorem pb_internal_strconv_Itoa {G : Nat → Option (List AV)} {objs objs' : List (Nat × AObj)} {args : List AV} {v : AV} (hn : args.length ≤ Tryd.f92.ntmps) (h : ∀ R : Run, R.G = G → AR Tryd.prog R rc_internal_strconv_Itoa ⟨iniT 0 args, objs⟩ (FinB rr_internal_strconv_Itoa v objs')) : PB Tryd.prog G 92 objs args v objs' :=
  PB_of Tryd.func92 rfl (by kernel_rfl) (rc := rc_internal_strconv_Itoa) (by kernel_rfl) (rs := rr_internal_strconv_Itoa) (by kernel_rfl) hn (fun R _ hG => h R hG)

theorem pp_internal_strconv_Itoa {G : Nat → Option (List AV)} {args : List AV} {ch : List PanicEntry} (hn : args.length ≤ Tryd.f92.ntmps) (h : ∀ R : Run, R.G = G → AR Tryd.prog R rc_internal_strconv_Itoa (initSt args) (FinP ch)) : PPC Tryd.prog G 92 args ch :=
  PPC_of Tryd.func92 rfl (by kernel_rfl) (rc := rc_internal_strconv_Itoa) (by kernel_rfl) hn (fun R _ hG => h R hG)

end Go.Proofs.YtikjooemblpnbaaDoor
