/-
  The abstract machine's code of functions of the program, as a program of ours printed it; that it is theirs is proved beside each.
-/
import Derived.Test.YtdpmioiamcgfkaaDoorAmO
import Derived.Test.YtdpmioiamcgfkaaDoorProg
namespace Go.Proofs.YtdpmioiamcgfkaaDoor
open Go.RowKit

def rc_sheet_book_issues_1 : RCode :=
  .seq (.reg 0 true [
    { d := some 9, op := .load false 1 (.t 1), aft := [] },
    { d := some 10, op := .nilck (.t 9), aft := [0] },
    { d := some 11, op := .faddr 0 (.t 10), aft := [1] },
    { d := some 12, op := .faddr 0 (.t 11), aft := [2] },
    { d := some 13, op := .load false 1 (.t 12), aft := [3] },
    { d := some 14, op := .load false 1 (.t 2), aft := [] },
    { d := some 15, op := .call 123 [.t 13, .t 14, .c (.func (.func 124) [] [])], aft := [4, 5] },
    { d := some 8, op := .mov (.t 15), aft := [6] },
    { d := some 16, op := .ext 0 (.t 8), aft := [7] },
    { d := some 17, op := .ext 1 (.t 8), aft := [7] },
    { d := some 4, op := .mov (.t 16), aft := [8, 6, 0, 1, 2, 3, 4, 5, 6, 7, 8] },
    { d := some 5, op := .mov (.t 17), aft := [9, 10, 0, 1, 2, 3, 4, 5, 6, 7, 8, 9, 10] }])
  (.seq (.reg 1 false [
    { d := some 18, op := .load false 1 (.t 1) },
    { d := some 19, op := .nilck (.t 18) },
    { d := some 20, op := .faddr 0 (.t 19) },
    { d := some 21, op := .faddr 0 (.t 20) },
    { d := some 22, op := .load false 1 (.t 21) },
    { d := some 23, op := .mov (.t 4) },
    { d := some 24, op := .slc 5 (.t 22) (some (.t 23)) none },
    { d := some 25, op := .len (.t 24) },
    { d := some 26, op := .mov (.c (.int .i64 0)) }])
  (.block 0
    (.loop
      (.seq (.reg 2 false [
        { d := some 27, op := .bin .lss (.t 26) (.t 25) }])
      (.seq (.cond (.t 27)
        (.skip)
        (.exit 0))
      (.seq (.block 1
        (.seq (.reg 3 false [
          { d := some 28, op := .iaddr 5 (.t 24) (.t 26) },
          { d := some 29, op := .load true 5 (.t 28) },
          { d := some 7, op := .alloc [.int .i64 0, .int .i64 0, .int .u8 0, .nils, .nils] },
          { d := none, op := .store 5 (.t 7) (.t 29) }])
        (.seq (.reg 4 false [
          { d := some 30, op := .faddr 0 (.t 7) },
          { d := some 31, op := .load false 1 (.t 30) },
          { d := some 32, op := .load false 1 (.t 2) },
          { d := some 33, op := .bin .neq (.t 31) (.t 32) },
          { d := some 34, op := .mov (.t 33) },
          { d := some 35, op := .mov (.t 0), guard := some (34, false) },
          { d := some 36, op := .load true 5 (.t 7), guard := some (34, false) },
          { d := some 37, op := .callv (.t 35) [.t 36], guard := some (34, false) },
          { d := some 38, op := .un .not (.t 37), guard := some (34, false) },
          { d := some 39, op := .pick (.t 34) (.c (.bool true)) (.t 38) }])
        (.cond (.t 39)
          (.ret)
          (.skip)))))
      (.reg 5 false [
        { d := some 40, op := .bin .add (.t 26) (.c (.int .i64 1)) },
        { d := some 26, op := .mov (.t 40) }])))))))
def rr_sheet_book_issues_1 : List RRes := []
theorem pc_sheet_book_issues_1 {G : Nat → Option (List AV)} {args : List AV} {v : AV} (hn : args.length ≤ Tryd.f122.ntmps) (h : ∀ R : Run, R.G = G → R.Top → AR Tryd.prog R rc_sheet_book_issues_1 (initSt args) (Fin rr_sheet_book_issues_1 v)) : PC Tryd.prog G 122 args v :=
  PC_of Tryd.func122 rfl (by kernel_rfl) (rc := rc_sheet_book_issues_1) (by kernel_rfl) (rs := rr_sheet_book_issues_1) (by kernel_rfl) hn (fun R _ hG hr => h R hG hr)

theorem pb_sheet_book_issues_1 {G : Nat → Option (List AV)} {objs objs' : List (Nat × AObj)} {args : List AV} {v : AV} (hn : args.length ≤ Tryd.f122.ntmps) (h : ∀ R : Run, R.G = G → R.Top → AR Tryd.prog R rc_sheet_book_issues_1 ⟨iniT 0 args, objs⟩ (FinB rr_sheet_book_issues_1 v objs')) : PB Tryd.prog G 122 objs args v objs' :=
  PB_of Tryd.func122 rfl (by kernel_rfl) (rc := rc_sheet_book_issues_1) (by kernel_rfl) (rs := rr_sheet_book_issues_1) (by kernel_rfl) hn (fun R _ hG hr => h R hG hr)

theorem pp_sheet_book_issues_1 {G : Nat → Option (List AV)} {args : List AV} {ch : List PanicEntry} (hn : args.length ≤ Tryd.f122.ntmps) (h : ∀ R : Run, R.G = G → R.Top → AR Tryd.prog R rc_sheet_book_issues_1 (initSt args) (FinP ch)) : PPC Tryd.prog G 122 args ch :=
  PPC_of Tryd.func122 rfl (by kernel_rfl) (rc := rc_sheet_book_issues_1) (by kernel_rfl) hn (fun R _ hG hr => h R hG hr)

end Go.Proofs.YtdpmioiamcgfkaaDoor
