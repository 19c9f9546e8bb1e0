/-
  The abstract machine's code of functions of the program, as a program of ours printed it; that it is theirs is proved beside each.
-/
import Derived.Test.YtikjooemblpnbaaDoorAmL
import Derived.Test.YtikjooemblpnbaaDoorProg
namespace Go.Proofs.YtikjooemblpnbaaDoor
open Go.RowKit

def rc_ref01_wordsO : RCode :=
  .seq (.reg 0 false [
    { d := some 2, op := .mov (.c (.nils)) }])
  (.seq (.reg 1 false [
    { d := some 5, op := .bsl true 1 1 [.str ⟨#[]⟩] [(0, .c (.str ⟨#[]⟩))] },
    { d := some 3, op := .mov (.t 5) }])
  (.seq (.seq (.reg 2 false [
    { d := some 4, op := .mov (.c (.int .i64 0)) }])
  (.block 0
    (.loop
      (.seq (.seq (.reg 3 false [
        { d := some 6, op := .mov (.t 4) },
        { d := some 7, op := .mov (.t 0) },
        { d := some 8, op := .slen (.t 7) },
        { d := some 9, op := .bin .lss (.t 6) (.t 8) }])
      (.cond (.t 9)
        (.skip)
        (.exit 0)))
      (.seq (.block 1
        (.seq (.reg 5 false [
          { d := some 12, op := .mov (.t 0) },
          { d := some 13, op := .mov (.t 4) },
          { d := some 14, op := .vop .sidx [(.t 12), (.t 13)] },
          { d := some 15, op := .bin .eql (.t 14) (.c (.int .u8 32)) }])
        (.cond (.t 15)
          (.reg 6 false [
            { d := some 16, op := .mov (.t 3) },
            { d := some 17, op := .bsl false 1 1 [.str ⟨#[]⟩] [(0, .c (.str ⟨#[]⟩))] },
            { d := some 18, op := .app 1 16 (.t 16) (.t 17) },
            { d := some 3, op := .mov (.t 18) }])
          (.reg 7 true [
            { d := some 19, op := .mov (.t 3), aft := [] },
            { d := some 20, op := .mov (.t 3), aft := [] },
            { d := some 21, op := .len (.t 20), aft := [1] },
            { d := some 22, op := .bin .sub (.t 21) (.c (.int .i64 1)), aft := [2] },
            { d := some 23, op := .iaddr 1 (.t 19) (.t 22), aft := [0, 3] },
            { d := some 24, op := .load false 1 (.t 23), aft := [4] },
            { d := some 25, op := .mov (.t 0), aft := [] },
            { d := some 26, op := .mov (.t 4), aft := [] },
            { d := some 27, op := .mov (.t 4), aft := [] },
            { d := some 28, op := .bin .add (.t 27) (.c (.int .i64 1)), aft := [8] },
            { d := some 29, op := .sslc (.t 25) (some (.t 26)) (some (.t 28)), aft := [6, 7, 9] },
            { d := some 30, op := .bin .add (.t 24) (.t 29), aft := [5, 10] },
            { d := some 31, op := .iaddr 1 (.t 19) (.t 22), aft := [0, 3, 0, 1, 2, 3, 4, 5, 6, 7, 8, 9, 10, 11] },
            { d := none, op := .store 1 (.t 31) (.t 30), aft := [12, 11, 0, 1, 2, 3, 4, 5, 6, 7, 8, 9, 10, 11] }]))))
      (.reg 4 false [
        { d := some 10, op := .mov (.t 4) },
        { d := some 11, op := .bin .add (.t 10) (.c (.int .i64 1)) },
        { d := some 4, op := .mov (.t 11) }]))))))
  (.seq (.reg 8 false [
    { d := some 32, op := .mov (.t 3) },
    { d := some 2, op := .mov (.t 32) }])
  (.ret))))
def rr_ref01_wordsO : List RRes := [.t 2]
theorem pc_ref01_wordsO {G : Nat → Option (List AV)} {args : List AV} {v : AV} (hn : args.length ≤ Tryd.f72.ntmps) (h : ∀ R : Run, R.G = G → AR Tryd.prog R rc_ref01_wordsO (initSt args) (Fin rr_ref01_wordsO v)) : PC Tryd.prog G 72 args v :=
  PC_of Tryd.func72 rfl (by kernel_rfl) (rc := rc_ref01_wordsO) (by kernel_rfl) (rs := rr_ref01_wordsO) (by kernel_rfl) hn (fun R _ hG => h R hG)

theorem pb_ref01_wordsO {G : Nat → Option (List AV)} {objs objs' : List (Nat × AObj)} {args : List AV} {v : AV} (hn : args.length ≤ Tryd.f72.ntmps) (h : ∀ R : Run, R.G = G → AR Tryd.prog R rc_ref01_wordsO ⟨iniT 0 args, objs⟩ (FinB rr_ref01_wordsO v objs')) : PB Tryd.prog G 72 objs args v objs' :=
  PB_of Tryd.func72 rfl (by kernel_rfl) (rc := rc_ref01_wordsO) (by kernel_rfl) (rs := rr_ref01_wordsO) (by kernel_rfl) hn (fun R _ hG => h R hG)

theorem pp_ref01_wordsO {G : Nat → Option (List AV)} {args : List AV} {ch : List PanicEntry} (hn : args.length ≤ Tryd.f72.ntmps) (h : ∀ R : Run, R.G = G → AR Tryd.prog R rc_ref01_wordsO (initSt args) (FinP ch)) : PPC Tryd.prog G 72 args ch :=
  PPC_of Tryd.func72 rfl (by kernel_rfl) (rc := rc_ref01_wordsO) (by kernel_rfl) hn (fun R _ hG => h R hG)

end Go.Proofs.YtikjooemblpnbaaDoor
