/-
  Layer 1: the program's variables as trees; what a law's contract says of a call.
-/
import Derived.Test.YtikjooemblpnbaaDoorOd
import Derived.Test.YtikjooemblpnbaaDoorOpen
import Derived.Test.YtikjooemblpnbaaDoorUn
namespace Go.Proofs.YtikjooemblpnbaaDoor
open Go.RowKit

/-- The program's variables that the walks look at. -/
def G1 : Nat → Option (List AV) := fun g => if g = 0 then some unitsT else none
theorem G1_units : G1 0 = some unitsT := rfl

section
variable {M : Nat → Prop} {W : World}
theorem gr_of_units (h : Units W) : GR G1 noM W := by
  intro g cs hg
  simp only [G1] at hg
  split at hg <;> simp only [Option.some.injEq, reduceCtorEq] at hg
  rename_i e
  subst e; subst hg
  have hc := fun i hi => h.cell i hi
  refine .vptr unitsT 0 0 0 (fun j => ((#[.int .i64 0, .int .i64 0, .string ⟨#[]⟩, .nilFunc, .int .i64 100, .int .i64 3, .string ⟨#[109, 109]⟩, .func (.func 143) #[] #[], .int .i64 254, .int .i64 4, .string ⟨#[105, 110]⟩, .func (.func 143) #[] #[]] : Array Value)[j]?).getD undef) h.lt id ?_ ?_
  · intro j hj
    have hj' : j < 12 := by simpa [unitsT] using hj
    rw [Nat.zero_add, hc j hj']
    match j, hj' with
    | 0, _ => rfl
    | 1, _ => rfl
    | 2, _ => rfl
    | 3, _ => rfl
    | 4, _ => rfl
    | 5, _ => rfl
    | 6, _ => rfl
    | 7, _ => rfl
    | 8, _ => rfl
    | 9, _ => rfl
    | 10, _ => rfl
    | 11, _ => rfl
  · intro j x hx
    have hfn : ∀ fn : Fn, PV noM W (.func fn [] []) (.func fn #[] #[]) := fun fn => .func fn [] [] #[] #[] rfl rfl (by simp) (by simp)
    match j, hx with
    | 0, hx => cases hx; exact .int _ _
    | 1, hx => cases hx; exact .int _ _
    | 2, hx => cases hx; exact .str _
    | 3, hx => cases hx; exact .nilf
    | 4, hx => cases hx; exact .int _ _
    | 5, hx => cases hx; exact .int _ _
    | 6, hx => cases hx; exact .str _
    | 7, hx => cases hx; exact hfn _
    | 8, hx => cases hx; exact .int _ _
    | 9, hx => cases hx; exact .int _ _
    | 10, hx => cases hx; exact .str _
    | 11, hx => cases hx; exact hfn _
end

/-- What a law's contract says of a call from outside. -/
theorem law_calls {P : Program} {G : Nat → Option (List AV)} {f : FuncId} {args : List AV} {W : World} {vs : Array Value} (h : PC P G f args (.bool true)) (hG : GR G noM W) (hs : vs.size = args.length)
    (hv : ∀ (i : Nat) (x : AV) (u : Value), args[i]? = some x → vs[i]? = some u → PV noM W x u) : Calls P f vs W fun e W' => e = .returned (.bool true) ∧ Ext W W' :=
  (h.2 noM W vs (fun _ h => h.elim) hG hs hv).mono fun e W' ⟨v, h1, h2, h3⟩ => by
    cases h2
    exact ⟨h1, h3⟩

theorem dm_inv {xs : List AV} (h : TVs [.int .i64, .int .i64, .int .i64] xs) : ∃ d : Dm, xs = d.cs := by
  obtain ⟨x0, _, rfl, h0, h⟩ := h.cons_inv
  obtain ⟨x1, _, rfl, h1, h⟩ := h.cons_inv
  obtain ⟨x2, _, rfl, h2, h⟩ := h.cons_inv
  obtain rfl := h.nil_inv
  obtain ⟨n, rfl, -⟩ := h0.int_inv
  obtain ⟨l, rfl, -⟩ := h1.int_inv
  obtain ⟨u, rfl, -⟩ := h2.int_inv
  exact ⟨⟨n, l, u⟩, rfl⟩
theorem span_inv {xs : List AV} (h : TVs [.int .i64, .int .i64] xs) : ∃ lo hi : Int, xs = [.int .i64 lo, .int .i64 hi] := by
  obtain ⟨x0, _, rfl, h0, h⟩ := h.cons_inv
  obtain ⟨x1, _, rfl, h1, h⟩ := h.cons_inv
  obtain rfl := h.nil_inv
  obtain ⟨n, rfl, -⟩ := h0.int_inv
  obtain ⟨l, rfl, -⟩ := h1.int_inv
  exact ⟨n, l, rfl⟩
end Go.Proofs.YtikjooemblpnbaaDoor
