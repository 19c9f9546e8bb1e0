/-
  Layer 1: the laws whose rows list more variables: the program's variables as trees, the wrap that keeps the world's shape.
-/
import Derived.Test.YtikjooemblpnbaaDoorGl
import Derived.Test.YtikjooemblpnbaaDoorWc
import Derived.Shelf.Vars
import Derived.Lay
namespace Go.Proofs.YtikjooemblpnbaaDoor
open Go.RowKit

def laid3 : List (String × DataW Unit) := [("unicode/utf8.acceptRanges", Rows.laid_unicode_utf8_acceptRanges), ("blueline/size.units", Rows.laid_blueline_size_units), ("unicode/utf8.first", Rows.laid_unicode_utf8_first)]

theorem door_met3 (os : Os) (args : Array Value) : laidMetH Tryd.prog laid3 (((World.doorLaid Tryd.prog 41 os).layVars Tryd.prog [("unicode/utf8.first", Rows.laid_unicode_utf8_first)]).forCall (fun _ _ => 0) ⟨#[], args, []⟩).memory :=
  laidMetH_of_parts3 (fuel := 8) (laidMet_of_run' 8 (by kernel_rfl) (by kernel_rfl)) (by kernel_rfl) (by kernel_rfl)

theorem of_laid3 {W : World} (h : laidMetH Tryd.prog laid3 W) : Units W := of_laid_mem h (List.mem_cons_of_mem _ (List.mem_cons_self ..))

theorem maxLen_of {W : World} (h : W.ShapedOpen Tryd.prog) : ∃ m, W.cell? ⟨1, 0, none⟩ = some (.int .i64 m) :=
  cell_of_shapedOpen_int (zero := #[.int .i64 0]) h (of_decide_eq_true (by kernel_rfl)) (by kernel_rfl) (by kernel_rfl) (by kernel_rfl) (by kernel_rfl) Tryd.underlying3

/-- The program's variables that the walks look at. -/
def Gm (m : Int) : Nat → Option (List AV) := fun g => if g = 0 then some unitsT else if g = 1 then some [.int .i64 m] else none
theorem gs_of (m : Int) : Gs (Gm m) := ⟨rfl, m, rfl⟩

theorem gr_of {W : World} {m : Int} (h : Units W) (hm : W.cell? ⟨1, 0, none⟩ = some (.int .i64 m)) : GR (Gm m) noM W := by
  intro g cs hg
  simp only [Gm] at hg
  split at hg
  · rename_i e
    exact gr_of_units h g cs (by simp only [G1, e, if_true]; exact hg)
  · split at hg <;> simp only [Option.some.injEq, reduceCtorEq] at hg
    rename_i e
    subst e; subst hg
    refine .vptr _ 0 1 0 (fun _ => .int .i64 m) (cellLt hm) id (fun j hj => ?_) (fun j x hx => ?_)
    · obtain rfl : j = 0 := by simpa using hj
      exact hm
    · cases j with
      | zero => cases hx; exact .int _ _
      | succ j => simp at hx

theorem returns_shaped {H : Type} {enc : TypeId × Value → H} {a : Assume} {C : Checked} {os : Os} {f : FuncId} {fn : Func} {s : ChangeSpec} {conds : List PathCond} {apart fresh handsOn again : Bool} {X : World → Array Value → Prop}
    (hX : ∀ (w w' : World) (args : Array Value), w.heap = w'.heap → X w args → X w' args)
    (own : ownKnob C.prog.godebug = none) (started : os.Started) (noInit : C.prog.inits.idxOf? f = none) (hfn : C.prog.funcs[f]? = some fn)
    (witness : ∃ (w : World) (tape : Tape) (i : Input), w.os = os ∧ (w.forCall tape i).Shaped C.prog ∧ i.vars = [] ∧ Input.okWide C.prog (w.forCall tape i) .any w.heap.size f i ∧
      ((s.pre enc C.prog fn conds apart (w.forCall tape i).memory i.args ∧ X (w.forCall tape i).memory i.args) ∧ sizedMet enc C.prog fn (OpenSpec.ofChange s) apart (w.forCall tape i).memory i.args) ∧ a.holds C.prog (lone (Frame.enter C.prog f i.args .normal) [] (w.forCall tape i)))
    (contract : ∀ (W : World) (base : Nat) (args : Array Value) (ds gs : List (DataW H)) (before : List MemPlace),
      (∀ (j : Nat) t v, fn.params[j]? = some t → args[j]? = some v → Value.okWide C.prog W .any base t v) →
      DataW.Whole enc C.prog fn.params.toList s.vars apart W args.toList ds gs before → X W args → W.ShapedOpen C.prog →
      Calls C.prog f args W fun e W' => ∃ v, e = .returned v ∧ s.post enc C.prog fn apart fresh handsOn again W args v W') :
    ReturnsInHanded a C os f .any (fun w args => (s.pre enc C.prog fn conds apart w args ∧ X w args) ∧ sizedMet enc C.prog fn (OpenSpec.ofChange s) apart w args) (s.post enc C.prog fn apart fresh handsOn again) := by
  refine returnsInHanded_of_calls own started noInit witness ?_
  intro w tape i _ hsh _ hok hpre _
  obtain ⟨_, _, _, fn', hfn', _, _, _, _, hval⟩ := hok
  have e : fn' = fn := Option.some.inj (hfn'.symm.trans hfn)
  subst e
  obtain ⟨⟨⟨ds, gs, before, hw, hc⟩, hx⟩, hz⟩ := hpre
  have hw' := DataW.Whole.of_heap (w' := w.forCall tape i) (by rfl) hw
  refine (contract (w.forCall tape i) w.heap.size i.args ds gs before hval hw' (hX _ _ _ (by rfl) hx) hsh).mono fun e W' ⟨v, he, hp⟩ => ?_
  subst he
  exact ChangeSpec.post_blind hp
end Go.Proofs.YtikjooemblpnbaaDoor
