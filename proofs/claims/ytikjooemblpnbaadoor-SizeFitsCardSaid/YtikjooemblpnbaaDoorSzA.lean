/-
  What the small functions of package bluelineref01 return. Each theorem speaks of every argument within the bounds that it names.
-/
import Derived.Test.YtikjooemblpnbaaDoorProg
import Derived.Test.YtikjooemblpnbaaDoorMath
import Derived.WalkKit
import Derived.WalkSpells
import Derived.WalkLawsBesides
import Derived.Lib.Hide
import Derived.Deep.RegionHeld3
import Derived.Deep.QuietTactic
import Derived.BigQuiet
import Derived.StillTactics
import Derived.OwnWalk
import Derived.Deep.DrawnRows
namespace Go.Proofs.YtikjooemblpnbaaDoor
open Go.RowKit
attribute [local go_sem ↓] Go.wp_at_zero Go.wp_at_succ

theorem ret_bool {a b : Bool} (h : a = b) : Ending.returned (.bool a) = Ending.returned (.bool b) := by rw [h]
theorem ret_int {k : IntKind} {a b : Int} (h : a = b) : Ending.returned (.int k a) = .returned (.int k b) := by rw [h]

theorem within_any (n lo hi : Int) (w : World) :
    Calls Tryd.prog 61 #[.int .i64 n, .int .i64 lo, .int .i64 hi] w fun e w' => e = .returned (.bool (decide (lo ≤ n ∧ n ≤ hi))) ∧ w = w' := by
  go_enter Tryd.func61, Tryd.ntmps61
  go_wp2
  all_goals (go_ret; exact ⟨ret_bool (by simp; try omega), rfl⟩)

theorem dim_any (n l u : Int) (w : World) :
    Calls Tryd.prog 42 #[.agg #[.int .i64 n, .int .i64 l, .int .i64 u]] w fun e w' => e = .returned (.bool (vd ⟨n, l, u⟩)) ∧ Below w.heap.size w w' := by
  go_enter Tryd.func42, Tryd.ntmps42
  go_wp2_with (go_at_call 61; refine (within_any _ _ _ _).mono ?_; rintro e w' ⟨rfl, rfl⟩)
  all_goals (go_ret; exact ⟨ret_bool (by rw [Bool.eq_iff_iff]; simp [vd]; omega), (Below.refl _ _).alloc (Nat.le_refl _) _⟩)

theorem dimD (a : Dm) (w : World) :
    Calls Tryd.prog 42 #[.agg #[.int .i64 a.n, .int .i64 a.l, .int .i64 a.u]] w fun e w' => e = .returned (.bool (vd a)) ∧ Below w.heap.size w w' := dim_any a.n a.l a.u w

theorem step_any (k : Int) (w : World) :
    Calls Tryd.prog 50 #[.int .u8 k] w fun e w' => e = .returned (.int .i64 (stp k)) ∧ w = w' := by
  go_enter Tryd.func50, Tryd.ntmps50
  go_wp2
  all_goals (go_ret; exact ⟨ret_int (by unfold stp; simp_all), rfl⟩)

theorem above_any (n s : Int) (w : World) (h0 : 0 ≤ n) (h1 : n ≤ 1000000000) (s0 : 1 ≤ s) (s1 : s ≤ 254) :
    Calls Tryd.prog 77 #[.int .i64 n, .int .i64 s] w fun e w' => e = .returned (.int .i64 ((n + s - 1) / s * s)) ∧ w = w' := by
  obtain ⟨b0, b1⟩ := dm_bd (n + s - 1) s s0
  go_enter Tryd.func77, Tryd.ntmps77
  go_wp2
  go_ret
  exact ⟨rfl, rfl⟩

theorem exact_any (n l u s : Int) (w : World) (hn : 0 ≤ n) (hl : 0 ≤ l) (hu : 0 ≤ u) (s0 : 1 ≤ s) (s1 : s ≤ 254) :
    Calls Tryd.prog 62 #[.agg #[.int .i64 n, .int .i64 l, .int .i64 u], .int .i64 s] w fun e w' => e = .returned (.bool (exa ⟨n, l, u⟩ s)) ∧ Below w.heap.size w w' := by
  go_enter Tryd.func62, Tryd.ntmps62
  go_wp2
  all_goals (go_ret; exact ⟨ret_bool (by rw [Bool.eq_iff_iff]; simp [exa]; omega), (Below.refl _ _).alloc (Nat.le_refl _) _⟩)


end Go.Proofs.YtikjooemblpnbaaDoor
