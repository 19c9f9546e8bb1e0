/-
  What the rows of layer 2 share: the list of checks as the rows list it; registers that came in.
-/
import Derived.Test.YtdpmioiamcgfkaaDoorJFdToEm
import Derived.Test.YtdpmioiamcgfkaaDoorJAmPToOpen
import Derived.Test.YtdpmioiamcgfkaaDoorJRowToRow
set_option linter.unusedSimpArgs false
set_option linter.unusedVariables false
namespace Go.Proofs.YtdpmioiamcgfkaaDoor
open Go.ChangeShapes Go.WideShapes Go.ChangeAt Go.WideMaps Go.WideElems Go.RowKit Go.Deep

theorem own : ownKnob Tryd.prog.godebug = none := by kernel_rfl
theorem laidOut : laidOutB Tryd.prog = true := by kernel_rfl
theorem gChecks : Tryd.prog.globalNamed "blueline/sheet.checks" = some 0 := by kernel_rfl
theorem tChecks : (Tryd.prog.globals[0]?).map (·.type) = some 159 := by kernel_rfl

/-- The rows' list of variables. -/
def laid2 : List (String × DataW Unit) := [("blueline/sheet.checks", Rows.laid_blueline_sheet_checks)]

/-- The door's own heap meets the condition. -/
theorem door_met (os : Os) (args : Array Value) : laidMetH Tryd.prog laid2 ((World.doorLaid Tryd.prog 41 os).forCall (fun _ _ => 0) ⟨#[], args, []⟩).memory :=
  laidMetH_of_parts3 (fuel := 8) (laidMet_of_run' 8 (by kernel_rfl) (by kernel_rfl)) (by kernel_rfl) (by kernel_rfl)

theorem cF : Tryd.prog.cellsOf 157 = 1 := by kernel_rfl
theorem checkC : Tryd.prog.cellsOf 158 = 1 := by kernel_rfl

/-- The block of the checks. -/
def ChkB (W : World) : Prop := ∃ t fr, W.heap[0]? = some (.cells #[.func (.func 157) #[] #[], .func (.func 158) #[] #[], .func (.func 159) #[] #[], .func (.func 160) #[] #[]] t fr)

theorem list4 {α : Type} {l : List α} (h : l.length = 4) : ∃ c0 c1 c2 c3, l = [c0, c1, c2, c3] := by
  match l, h with
  | [c0, c1, c2, c3], _ => exact ⟨c0, c1, c2, c3, rfl⟩

theorem cell_func {W : World} {fuel : Nat} {c : Value} {y : DataW (List UInt8) × List MemPlace} {b : UInt8} {s : List UInt8} {f0 : FuncId} (hone : ((List.range Tryd.prog.funcs.size).filter fun f => (Tryd.prog.funcs[f]?).any (·.name.toUTF8.data.toList == b :: s)) = [f0])
    (h : DataW.trod (funcToken Tryd.prog) Tryd.prog W 0 (fun _ => true) true fuel 158 [c] = some y) (hy : y.1 = .agg [.held (b :: s)]) : c = .func (.func f0) #[] #[] := by
  obtain ⟨y0, n, rfl, -, h0⟩ := trod_struct1 Tryd.underlying158 h
  simp only [List.drop_zero] at h0
  rw [cF] at h0
  simp only [DataW.agg.injEq, List.cons.injEq, and_true] at hy
  exact func_of_trod (q := y0.2) Tryd.underlying157 hone (by rw [← hy]; simpa using h0)

set_option maxRecDepth 100000 in
theorem of_laid {W : World} (h : laidMetH Tryd.prog laid2 W) : ChkB W := by
  obtain ⟨g, t, cs, fuel, p, hg, ht, hv, hd⟩ := h.funcs (List.mem_singleton.2 rfl)
  obtain rfl := Option.some.inj (gChecks.symm.trans hg)
  obtain rfl := Option.some.inj (tChecks.symm.trans ht)
  have hd' : DataW.trod (funcToken Tryd.prog) Tryd.prog W 0 (fun _ => true) true fuel 159 cs.toList = some (.agg [.agg [.held [98, 108, 117, 101, 108, 105, 110, 101, 47, 115, 104, 101, 101, 116, 46, 99, 104, 101, 99, 107, 115, 36, 49]], .agg [.held [98, 108, 117, 101, 108, 105, 110, 101, 47, 115, 104, 101, 101, 116, 46, 99, 104, 101, 99, 107, 115, 36, 50]], .agg [.held [98, 108, 117, 101, 108, 105, 110, 101, 47, 115, 104, 101, 101, 116, 46, 99, 104, 101, 99, 107, 115, 36, 51]], .agg [.held [98, 108, 117, 101, 108, 105, 110, 101, 47, 115, 104, 101, 101, 116, 46, 99, 104, 101, 99, 107, 115, 36, 52]]], p) := hd
  obtain ⟨xs, m, rfl, hx, hlen, hn, hel⟩ := DataW.trod_array Tryd.underlying159 hd'
  have hlen4 : cs.toList.length = 4 := hlen.trans (by kernel_rfl)
  obtain ⟨c0, c1, c2, c3, hcs⟩ := list4 hlen4
  rw [hcs] at hel
  have e0 := hel 0 (by decide)
  have e1 := hel 1 (by decide)
  have e2 := hel 2 (by decide)
  have e3 := hel 3 (by decide)
  rw [checkC] at e0 e1 e2 e3
  match xs, hn, hx, e0, e1, e2, e3 with
  | [x0, x1, x2, x3], _, hx, e0, e1, e2, e3 =>
    simp only [Prod.mk.injEq] at hx
    have hx := hx.1
    simp only [List.map_cons, List.map_nil, DataW.agg.injEq, List.cons.injEq] at hx
    obtain ⟨hx0, hx1, hx2, hx3, -⟩ := hx
    have g0 := cell_func (f0 := 157) (by kernel_rfl) e0 hx0.symm
    have g1 := cell_func (f0 := 158) (by kernel_rfl) e1 hx1.symm
    have g2 := cell_func (f0 := 159) (by kernel_rfl) e2 hx2.symm
    have g3 := cell_func (f0 := 160) (by kernel_rfl) e3 hx3.symm
    have hcs2 : cs = #[c0, c1, c2, c3] := by rw [← Array.toArray_toList (xs := cs), hcs]
    rw [g0, g1, g2, g3] at hcs2
    simp only [World.var?, gChecks, Option.bind_some] at hv
    split at hv
    · rename_i cs' t fr heq
      injection hv with hv
      exact ⟨t, fr, by rw [heq, hv, hcs2]⟩
    · cases hv

/-- The program's variables that the walks look at. -/
def G2 : Nat → Option (List AV) := fun g => if g = 0 then some [.func (.func 157) [] [], .func (.func 158) [] [], .func (.func 159) [] [], .func (.func 160) [] []] else none
theorem gc_of : GC G2 := rfl
theorem gr_of {W : World} (h : ChkB W) : GR G2 noM W := by
  obtain ⟨t, fr, hb⟩ := h
  intro g cs hg
  simp only [G2] at hg
  split at hg <;> simp only [Option.some.injEq, reduceCtorEq] at hg
  rename_i e
  subst e; subst hg
  refine .vptr _ 0 0 0 (fun j => ((#[.func (.func 157) #[] #[], .func (.func 158) #[] #[], .func (.func 159) #[] #[], .func (.func 160) #[] #[]] : Array Value)[j]?).getD undef) (Array.getElem?_eq_some_iff.1 hb).1 id ?_ ?_
  · intro j hj
    have hj' : j < 4 := by simpa using hj
    simp only [World.cell?, hb]
    match j, hj' with
    | 0, _ => rfl
    | 1, _ => rfl
    | 2, _ => rfl
    | 3, _ => rfl
  · intro j x hx
    have hfn : ∀ fn : Fn, PV noM W (.func fn [] []) (.func fn #[] #[]) := fun fn => .func fn [] [] #[] #[] rfl rfl (by simp) (by simp)
    match j, hx with
    | 0, hx => cases hx; exact hfn _
    | 1, hx => cases hx; exact hfn _
    | 2, hx => cases hx; exact hfn _
    | 3, hx => cases hx; exact hfn _

/-- What a law's contract says of a call from outside. -/
theorem law_calls {P : Program} {G : Nat → Option (List AV)} {f : FuncId} {args : List AV} {W : World} {vs : Array Value} (h : PC P G f args (.bool true)) (hG : GR G noM W) (hs : vs.size = args.length)
    (hv : ∀ (i : Nat) (x : AV) (u : Value), args[i]? = some x → vs[i]? = some u → PV noM W x u) : Calls P f vs W fun e W' => e = .returned (.bool true) ∧ Ext W W' :=
  (h.2 noM W vs (fun _ h => h.elim) hG hs hv).mono fun e W' ⟨v, h1, h2, h3⟩ => by
    cases h2
    exact ⟨h1, h3⟩

/-! Registers that came in. -/
def itK : List TY := [.int .i64, .int .i64]
def dmK : List TY := [.int .i64, .int .i64, .int .i64]
def isK2 : List TY := [.int .i64, .int .i64, .int .u8, .sl itK, .sl dmK]
theorem pair_inv {xs : List AV} (h : TVs itK xs) : ∃ p : Int × Int, xs = ita p := by
  obtain ⟨x0, _, rfl, h0, h⟩ := h.cons_inv
  obtain ⟨x1, _, rfl, h1, h⟩ := h.cons_inv
  obtain rfl := h.nil_inv
  obtain ⟨n, rfl, -⟩ := h0.int_inv
  obtain ⟨l, rfl, -⟩ := h1.int_inv
  exact ⟨(n, l), rfl⟩
theorem dm_inv {xs : List AV} (h : TVs dmK xs) : ∃ d : Dm, xs = dma d := by
  obtain ⟨x0, _, rfl, h0, h⟩ := h.cons_inv
  obtain ⟨x1, _, rfl, h1, h⟩ := h.cons_inv
  obtain ⟨x2, _, rfl, h2, h⟩ := h.cons_inv
  obtain rfl := h.nil_inv
  obtain ⟨n, rfl, -⟩ := h0.int_inv
  obtain ⟨l, rfl, -⟩ := h1.int_inv
  obtain ⟨u, rfl, -⟩ := h2.int_inv
  exact ⟨⟨n, l, u⟩, rfl⟩
def KOk (x : Iss) : Prop := 0 ≤ x.k ∧ x.k ≤ 255
theorem iss_inv {xs : List AV} (h : TVs isK2 xs) : ∃ x : Iss, xs = isa x ∧ KOk x := by
  obtain ⟨x0, _, rfl, h0, h⟩ := h.cons_inv
  obtain ⟨x1, _, rfl, h1, h⟩ := h.cons_inv
  obtain ⟨x2, _, rfl, h2, h⟩ := h.cons_inv
  obtain ⟨x3, _, rfl, h3, h⟩ := h.cons_inv
  obtain ⟨x4, _, rfl, h4, h⟩ := h.cons_inv
  obtain rfl := h.nil_inv
  obtain ⟨n, rfl, -⟩ := h0.int_inv
  obtain ⟨l, rfl, -⟩ := h1.int_inv
  obtain ⟨k, rfl, hk⟩ := h2.int_inv
  obtain ⟨r3, rfl, -, g3⟩ := h3.sl_inv
  obtain ⟨r4, rfl, -, g4⟩ := h4.sl_inv
  obtain ⟨its, rfl⟩ := rows_map (f := ita) fun r hr => pair_inv (g3 r hr)
  obtain ⟨dms, rfl⟩ := rows_map (f := dma) fun r hr => dm_inv (g4 r hr)
  exact ⟨⟨n, l, k, its, dms⟩, rfl, bounds_u8 hk⟩
theorem rows_mapP {α β : Type} {f : α → β} {p : α → Prop} {rows : List β} (h : ∀ r ∈ rows, ∃ d, r = f d ∧ p d) : ∃ l : List α, rows = l.map f ∧ ∀ x ∈ l, p x := by
  induction rows with
  | nil => exact ⟨[], rfl, by simp⟩
  | cons r rows ih =>
    obtain ⟨d, rfl, hd⟩ := h r (List.mem_cons_self ..)
    obtain ⟨l, rfl, hl⟩ := ih fun r hr => h r (List.mem_cons_of_mem _ hr)
    exact ⟨d :: l, rfl, fun x hx => by
      rcases List.mem_cons.1 hx with rfl | hx
      · exact hd
      · exact hl x hx⟩
theorem reg_inv {xs : List AV} (h : TVs [.sl isK2] xs) : ∃ r : List Iss, AV.agg xs = rega r ∧ ∀ x ∈ r, KOk x := by
  obtain ⟨x0, _, rfl, h0, h⟩ := h.cons_inv
  obtain rfl := h.nil_inv
  obtain ⟨rows, rfl, -, g⟩ := h0.sl_inv
  obtain ⟨r, rfl, hr⟩ := rows_mapP (f := isa) (p := KOk) fun r hr => iss_inv (g r hr)
  exact ⟨r, rfl, hr⟩

theorem greatA_pc {G : Nat → Option (List AV)} (r : List Iss) : PC Tryd.prog G 18 [rega r] (.bool (greatB r)) := by
  by_cases h1 : 80 < r.length
  · (refine pc_ref02_Great (Nat.le_of_ble_eq_true rfl) fun R hG hrd => GO_AR mixed 1000 ?_; subst hG)
    have h1' : (80 : Int) < r.length := by omega
    simp -implicitDefEqProofs [rc_ref02_Great, rr_ref02_Great, rega, h1', greatB, h1]
  · exact great_pc r (by unfold Sml; omega)
theorem great_wf {r : List Iss} (h : greatB r = false) (hk : ∀ x ∈ r, KOk x) : Wf r := by
  simp only [greatB, Bool.or_eq_false_iff, decide_eq_false_iff_not, List.any_eq_false, Bool.or_eq_true, decide_eq_true_eq, not_or] at h
  exact ⟨⟨by unfold Sml; omega, fun x hx => by have := h.2 x hx; unfold Sml; omega⟩, hk⟩
theorem tellsA_pc {G : Nat → Option (List AV)} (hG : GC G) (r : List Iss) (n d l : Int) (hk : ∀ x ∈ r, KOk x) : PC Tryd.prog G 3 [rega r, .int .i64 n, .agg [.int .i64 d, .int .i64 l]] (.bool true) := by
  cases g : greatB r
  · exact tells_pc hG r n d l (great_wf g hk)
  · (refine pc_law02_SheetTells (Nat.le_of_ble_eq_true rfl) fun R hG hrd => GO_AR mixed 1000 ?_; subst hG)
    simp -implicitDefEqProofs [rc_law02_SheetTells, rr_law02_SheetTells, rega]
    (first | refine CallK.of (greatA_pc r) (by simp) ?_ | refine CallD.of (greatA_pc r) (by simp) ?_)
    simp -implicitDefEqProofs [g]
end Go.Proofs.YtdpmioiamcgfkaaDoor

/-! The law SheetParts, by the abstract machine. -/
namespace Go.Proofs.YtdpmioiamcgfkaaDoor
open Go.RowKit

theorem exV_eqR {r : List Iss} {lt : List Int} {n : Int} : Sml (exV r lt n).1 := by
  unfold exV Sml
  split
  · have := ptN_len (nums r) (paV (tkV r lt) 6 n 1 fun _ => 0) (nums r).length
    have := listed_20 (open_listed (ask_0 ‹_›).1)
    simp only; omega
  · simp
theorem trE_sml {r : List Iss} {lt : List Int} {n : Int} : Sml (trE r lt n).1 := by
  unfold trE Sml
  split
  · split
    · simp
    · rename_i h
      simp only [trV_brN]; omega
  · simp

theorem GO0r {P : Program} {R : Run} {e : Exit} {Φ : Exit → St → Prop} {st : St} (h : Φ e st) : GO P R 0 (.out e) [] Φ st := h
/-- What stands behind the first four parts. -/
def rest3 : RCode → RCode
  | .seq _ (.seq _ (.seq _ b)) => b
  | c => c

section
variable {G : Nat → Option (List AV)}

theorem parts_pc (hG : GC G) (r : List Iss) (lt : List Int) (n : Int) (hk : ∀ x ∈ r, KOk x) : PC Tryd.prog G 4 [rega r, .vsl (lt.map ia), .int .i64 n] (.bool true) := by
  refine pc_law02_SheetParts (Nat.le_of_ble_eq_true rfl) fun R hG hrd => GO_AR mixed 13 ?_
  subst hG
  simp -implicitDefEqProofs [rc_law02_SheetParts, rr_law02_SheetParts, rega]
  (first | refine CallK.of (greatA_pc r) (by simp) ?_ | refine CallD.of (greatA_pc r) (by simp) ?_)
  cases g : greatB r
  case true =>
    simp -implicitDefEqProofs []
    refine GO0r ?_
    simp -implicitDefEqProofs []
  have h := great_wf g hk
  by_cases c8 : 80 < lt.length
  · have c8' : (80 : Int) < lt.length := by omega
    simp -implicitDefEqProofs [c8']
    refine GO0r ?_
    simp -implicitDefEqProofs []
  have c8' : ¬ (80 : Int) < lt.length := by omega
  simp -implicitDefEqProofs [c8']
  (first | refine CallK.of (twin_pc r h.1) (by simp) ?_ | refine CallD.of (twin_pc r h.1) (by simp) ?_)
  have b8 : lt.length * 8 ≤ 70368744177664 := by omega
  have k1 : (lt.map ia).all (fun r => r.length == 1) = true := by simp [ia]
  have k2 : (lt.map ia).all (fun r => r.all AV.one) = true := by simp [ia, AV.one]
  have k3 : (lt.map ia).all (fun r => r.all AV.pure) = true := by simp [ia, AV.pure]
  have key : ∀ st : St, Weak st ⟨[(8, .vsl (lt.map ia)), (7, .ptr 7 0), (3, .ptr 3 0), (1, .vsl (lt.map ia)), (2, .int .i64 n)], [(3, .box [.vsl (r.map isa)]), (7, .box [.vsl (r.map isa)])]⟩ →
      AR Tryd.prog R (rest3 rc_law02_SheetParts) st (RetP Tryd.prog R [] (Fin rr_law02_SheetParts (.bool true))) := by
    intro st hw
    refine AR_weak hw (GO_run mixed 1000 ?_)
    simp -implicitDefEqProofs [rest3, rc_law02_SheetParts, rr_law02_SheetParts]
    (first | refine CallK.of (explP_pc hG r lt n h) (by simp) ?_ | refine CallD.of (explP_pc hG r lt n h) (by simp) ?_)
    simp -implicitDefEqProofs []
    (first | refine CallK.of (explR_pc r lt n h) (by simp) ?_ | refine CallD.of (explR_pc r lt n h) (by simp) ?_)
    simp -implicitDefEqProofs []
    (first | refine CallK.of (treeP_pc hG r lt n h) (by simp) ?_ | refine CallD.of (treeP_pc hG r lt n h) (by simp) ?_)
    simp -implicitDefEqProofs []
    (first | refine CallK.of (treeR_pc r lt n h) (by simp) ?_ | refine CallD.of (treeR_pc r lt n h) (by simp) ?_)
    simp -implicitDefEqProofs []
    (first | refine CallK.of (sameItems_pc _ _ exV_eqR) (by simp) ?_ | refine CallD.of (sameItems_pc _ _ exV_eqR) (by simp) ?_)
    simp -implicitDefEqProofs []
    (first | refine CallK.of (sameBr_pc _ _ trE_sml) (by simp) ?_ | refine CallD.of (sameBr_pc _ _ trE_sml) (by simp) ?_)
    simp -implicitDefEqProofs []
    (first | refine CallK.of (same_pc r r h.1) (by simp) ?_ | refine CallD.of (same_pc r r h.1) (by simp) ?_)
    simp -implicitDefEqProofs []
    (first | refine CallK.of (sameInts_pc lt lt (by unfold Sml; omega)) (by simp) ?_ | refine CallD.of (sameInts_pc lt lt (by unfold Sml; omega)) (by simp) ?_)
    simp -implicitDefEqProofs []
  by_cases e0 : lt = []
  · subst e0
    simp -implicitDefEqProofs [rega]
    refine GO0 (key _ (Weak.trans (Weak.frz (fun k => k == 26) _) ?_))
    ((try simp only [frzSt, frzA, frzO, frz, snapF, snapL, St.get]); refine Weak.sub (by simp [lk, keptA, AV.keys, frzSt, frzA, frzO, frz, snapF, snapL, St.get]) ?_; simp only [frzSt, frzA, frzO, frz, snapF, snapL, St.get, List.cons_append, List.nil_append, List.mem_cons, List.not_mem_nil, or_false, forall_eq_or_imp, forall_eq, and_true, and_true]; (try simp [lk, keptO, keptA, AV.keys, frzSt, frzA, frzO, frz, snapF, snapL, St.get]))
  · simp -implicitDefEqProofs [rega, e0, b8, k1, k2]
    refine GO0 (key _ (Weak.trans (Weak.frz (fun k => k == 26) _) ?_))
    ((try simp only [frzSt, frzA, frzO, frz, snapF, snapL, St.get, k3]); refine Weak.sub (by simp [lk, keptA, AV.keys, frzSt, frzA, frzO, frz, snapF, snapL, St.get, k3]) ?_; simp only [frzSt, frzA, frzO, frz, snapF, snapL, St.get, k3, List.cons_append, List.nil_append, List.mem_cons, List.not_mem_nil, or_false, forall_eq_or_imp, forall_eq, and_true, and_true]; (try simp [lk, keptO, keptA, AV.keys, frzSt, frzA, frzO, frz, snapF, snapL, St.get, k3]))
end
end Go.Proofs.YtdpmioiamcgfkaaDoor

/-! The law SheetUses, by the abstract machine. -/
namespace Go.Proofs.YtdpmioiamcgfkaaDoor
open Go.RowKit

theorem useE_sml {r : List Iss} {n : Int} (h : Sml r) : Sml (useE r n).1 := by
  unfold useE
  split
  · have := usN_len r n r.length
    unfold Sml at *; simp only; omega
  · simp [Sml]
theorem abE_sml {r : List Iss} {lt : List Int} {n : Int} (h : Sml r) : Sml (abE r lt n).1 := by
  unfold abE
  split
  · have h1 : (abV r lt n).length ≤ (nums r).length := List.length_filter_le _ _
    have := nums_len r
    unfold Sml at *; simp only; omega
  · simp [Sml]
theorem difE_sml {r : List Iss} {d n m : Int} (h : Wf r) : Sml (difE r d n m).1 ∧ Sml (difE r d n m).2.1 := by
  unfold difE
  split
  · split
    · rename_i a b fa fb
      have h1 := dfN_len (nums r) (fun n => ctL n a.its) (fun n => ctL n b.its) (nums r).length
      have h2 := dsN_len a.dms b.dms (max a.dms.length b.dms.length)
      have h3 := nums_len r
      have h4 := (h.1.2 a (findN_mem fa).1).2
      have h5 := (h.1.2 b (findN_mem fb).1).2
      have h6 := h.1.1
      unfold Sml at *; simp only; omega
    · simp [Sml]
  · simp [Sml]

section
variable {G : Nat → Option (List AV)}

theorem uses_pc (hG : GC G) (r : List Iss) (lt : List Int) (d n m : Int) (hk : ∀ x ∈ r, KOk x) : PC Tryd.prog G 5 [rega r, .vsl (lt.map ia), .int .i64 d, .int .i64 n, .int .i64 m] (.bool true) := by
  refine pc_law02_SheetUses (Nat.le_of_ble_eq_true rfl) fun R hG hrd => GO_AR mixed 13 ?_
  subst hG
  simp -implicitDefEqProofs [rc_law02_SheetUses, rr_law02_SheetUses, rega]
  (first | refine CallK.of (greatA_pc r) (by simp) ?_ | refine CallD.of (greatA_pc r) (by simp) ?_)
  cases g : greatB r
  case true =>
    simp -implicitDefEqProofs []
    refine GO0r ?_
    simp -implicitDefEqProofs []
  have h := great_wf g hk
  by_cases c8 : 80 < lt.length
  · have c8' : (80 : Int) < lt.length := by omega
    simp -implicitDefEqProofs [c8']
    refine GO0r ?_
    simp -implicitDefEqProofs []
  have c8' : ¬ (80 : Int) < lt.length := by omega
  simp -implicitDefEqProofs [c8']
  (first | refine CallK.of (twin_pc r h.1) (by simp) ?_ | refine CallD.of (twin_pc r h.1) (by simp) ?_)
  have b8 : lt.length * 8 ≤ 70368744177664 := by omega
  have k1 : (lt.map ia).all (fun r => r.length == 1) = true := by simp [ia]
  have k2 : (lt.map ia).all (fun r => r.all AV.one) = true := by simp [ia, AV.one]
  have k3 : (lt.map ia).all (fun r => r.all AV.pure) = true := by simp [ia, AV.pure]
  have key : ∀ st : St, Weak st ⟨[(12, .vsl (lt.map ia)), (11, .ptr 11 0), (5, .ptr 5 0), (1, .vsl (lt.map ia)), (2, .int .i64 d), (3, .int .i64 n), (4, .int .i64 m)], [(5, .box [.vsl (r.map isa)]), (11, .box [.vsl (r.map isa)])]⟩ →
      AR Tryd.prog R (rest3 rc_law02_SheetUses) st (RetP Tryd.prog R [] (Fin rr_law02_SheetUses (.bool true))) := by
    intro st hw
    refine AR_weak hw (GO_run mixed 1000 ?_)
    simp -implicitDefEqProofs [rest3, rc_law02_SheetUses, rr_law02_SheetUses]
    (first | refine CallK.of (usesP_pc hG r d h) (by simp) ?_ | refine CallD.of (usesP_pc hG r d h) (by simp) ?_)
    simp -implicitDefEqProofs []
    (first | refine CallK.of (usesR_pc r d h) (by simp) ?_ | refine CallD.of (usesR_pc r d h) (by simp) ?_)
    simp -implicitDefEqProofs []
    (first | refine CallK.of (aboveP_pc hG r lt d h) (by simp) ?_ | refine CallD.of (aboveP_pc hG r lt d h) (by simp) ?_)
    simp -implicitDefEqProofs []
    (first | refine CallK.of (aboveR_pc r lt d h) (by simp) ?_ | refine CallD.of (aboveR_pc r lt d h) (by simp) ?_)
    simp -implicitDefEqProofs []
    (first | refine CallK.of (sameRefs_pc _ _ (useE_sml h.1.1)) (by simp) ?_ | refine CallD.of (sameRefs_pc _ _ (useE_sml h.1.1)) (by simp) ?_)
    simp -implicitDefEqProofs []
    (first | refine CallK.of (sameInts_pc _ _ (abE_sml h.1.1)) (by simp) ?_ | refine CallD.of (sameInts_pc _ _ (abE_sml h.1.1)) (by simp) ?_)
    simp -implicitDefEqProofs []
    (first | refine CallK.of (differP_pc hG r d n m h) (by simp) ?_ | refine CallD.of (differP_pc hG r d n m h) (by simp) ?_)
    simp -implicitDefEqProofs []
    (first | refine CallK.of (differR_pc r d n m h) (by simp) ?_ | refine CallD.of (differR_pc r d n m h) (by simp) ?_)
    simp -implicitDefEqProofs []
    (first | refine CallK.of (sameChg_pc _ _ (difE_sml h).1) (by simp) ?_ | refine CallD.of (sameChg_pc _ _ (difE_sml h).1) (by simp) ?_)
    simp -implicitDefEqProofs []
    (first | refine CallK.of (sameInts_pc _ _ (difE_sml h).2) (by simp) ?_ | refine CallD.of (sameInts_pc _ _ (difE_sml h).2) (by simp) ?_)
    simp -implicitDefEqProofs []
    (first | refine CallK.of (same_pc r r h.1) (by simp) ?_ | refine CallD.of (same_pc r r h.1) (by simp) ?_)
    simp -implicitDefEqProofs []
    (first | refine CallK.of (sameInts_pc lt lt (by unfold Sml; omega)) (by simp) ?_ | refine CallD.of (sameInts_pc lt lt (by unfold Sml; omega)) (by simp) ?_)
    simp -implicitDefEqProofs []
  by_cases e0 : lt = []
  · subst e0
    simp -implicitDefEqProofs [rega]
    refine GO0 (key _ (Weak.trans (Weak.frz (fun k => k == 34) _) ?_))
    ((try simp only [frzSt, frzA, frzO, frz, snapF, snapL, St.get]); refine Weak.sub (by simp [lk, keptA, AV.keys, frzSt, frzA, frzO, frz, snapF, snapL, St.get]) ?_; simp only [frzSt, frzA, frzO, frz, snapF, snapL, St.get, List.cons_append, List.nil_append, List.mem_cons, List.not_mem_nil, or_false, forall_eq_or_imp, forall_eq, and_true, and_true]; (try simp [lk, keptO, keptA, AV.keys, frzSt, frzA, frzO, frz, snapF, snapL, St.get]))
  · simp -implicitDefEqProofs [rega, e0, b8, k1, k2]
    refine GO0 (key _ (Weak.trans (Weak.frz (fun k => k == 34) _) ?_))
    ((try simp only [frzSt, frzA, frzO, frz, snapF, snapL, St.get, k3]); refine Weak.sub (by simp [lk, keptA, AV.keys, frzSt, frzA, frzO, frz, snapF, snapL, St.get, k3]) ?_; simp only [frzSt, frzA, frzO, frz, snapF, snapL, St.get, k3, List.cons_append, List.nil_append, List.mem_cons, List.not_mem_nil, or_false, forall_eq_or_imp, forall_eq, and_true, and_true]; (try simp [lk, keptO, keptA, AV.keys, frzSt, frzA, frzO, frz, snapF, snapL, St.get, k3]))
end
end Go.Proofs.YtdpmioiamcgfkaaDoor

/-! Lists of numbers that came in. -/
namespace Go.Proofs.YtdpmioiamcgfkaaDoor
open Go.RowKit

theorem one_inv {xs : List AV} (h : TVs [.int .i64] xs) : ∃ n : Int, xs = ia n := by
  obtain ⟨x0, _, rfl, h0, h⟩ := h.cons_inv
  obtain rfl := h.nil_inv
  obtain ⟨n, rfl, -⟩ := h0.int_inv
  exact ⟨n, rfl⟩
end Go.Proofs.YtdpmioiamcgfkaaDoor
