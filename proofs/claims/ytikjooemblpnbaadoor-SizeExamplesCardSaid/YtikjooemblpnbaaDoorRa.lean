/-
  What the functions of package bluelineref01 compute (sizes), by the abstract machine.
-/
import Derived.Test.YtikjooemblpnbaaDoorRcA
import Derived.Test.YtikjooemblpnbaaDoorMath
import Derived.IntWalk
/-! What the functions of package bluelineref01 compute (sizes), by the abstract machine. -/
namespace Go.Proofs.YtikjooemblpnbaaDoor
open Go.RowKit

theorem mixed : Tryd.prog.follows .mixedOrders = true := by kernel_rfl
def inR (n lo hi : Int) : Bool := decide (lo ≤ n ∧ n ≤ hi)
theorem wrapI {n : Int} (h0 : -9223372036854775808 ≤ n) (h1 : n ≤ 9223372036854775807) : IntKind.i64.wrap n = n := IntWalk.i64_in _ ⟨h0, h1⟩

section
variable {G : Nat → Option (List AV)}

theorem within_pc (n lo hi : Int) : PC Tryd.prog G 61 [.int .i64 n, .int .i64 lo, .int .i64 hi] (.bool (inR n lo hi)) := by
  (refine pc_ref01_within (Nat.le_of_ble_eq_true rfl) fun R hG => GO_AR mixed 1000 ?_; subst hG)
  by_cases h1 : lo ≤ n <;> simp -implicitDefEqProofs [rc_ref01_within, rr_ref01_within, h1, inR]

theorem dim_pc (n l u : Int) : PC Tryd.prog G 42 [.agg [.int .i64 n, .int .i64 l, .int .i64 u]] (.bool (vd ⟨n, l, u⟩)) := by
  (refine pc_ref01_Dim (Nat.le_of_ble_eq_true rfl) fun R hG => GO_AR mixed 1000 ?_; subst hG)
  have e : vd ⟨n, l, u⟩ = (inR n 0 1000000000 && (inR u 0 1000000000 && inR l 0 u)) := by
    unfold vd inR
    rw [← Bool.decide_and, ← Bool.decide_and]
    exact decide_eq_decide.2 (by simp only; omega)
  simp -implicitDefEqProofs [rc_ref01_Dim, rr_ref01_Dim, e]
  (first | refine CallK.of (within_pc _ _ _) (by simp) ?_ | refine CallD.of (within_pc _ _ _) (by simp) ?_)
  cases h1 : inR n 0 1000000000
  · simp -implicitDefEqProofs
  · simp -implicitDefEqProofs
    (first | refine CallK.of (within_pc _ _ _) (by simp) ?_ | refine CallD.of (within_pc _ _ _) (by simp) ?_)
    cases h2 : inR u 0 1000000000
    · simp -implicitDefEqProofs
    · simp -implicitDefEqProofs
      (first | refine CallK.of (within_pc _ _ _) (by simp) ?_ | refine CallD.of (within_pc _ _ _) (by simp) ?_)
      simp -implicitDefEqProofs

theorem step_pc (k : Int) : PC Tryd.prog G 50 [.int .u8 k] (.int .i64 (stp k)) := by
  (refine pc_ref01_Step (Nat.le_of_ble_eq_true rfl) fun R hG => GO_AR mixed 1000 ?_; subst hG)
  unfold stp
  by_cases h1 : k = 1
  · simp -implicitDefEqProofs [rc_ref01_Step, rr_ref01_Step, h1]
  · by_cases h2 : k = 2 <;> simp -implicitDefEqProofs [rc_ref01_Step, rr_ref01_Step, h1, h2]

theorem above_pc (n s : Int) (h0 : 0 ≤ n) (h1 : n ≤ 1000000000) (s0 : 1 ≤ s) (s1 : s ≤ 254) : PC Tryd.prog G 77 [.int .i64 n, .int .i64 s] (.int .i64 ((n + s - 1) / s * s)) := by
  (refine pc_ref01_above (Nat.le_of_ble_eq_true rfl) fun R hG => GO_AR mixed 1000 ?_; subst hG)
  have e1 : ¬ s = 0 := by omega
  obtain ⟨b0, b1⟩ := dm_bd (n + s - 1) s s0
  have hp : 0 ≤ (n + s - 1) / s := Int.ediv_nonneg (by omega) (by omega)
  have hq : (n + s - 1) / s ≤ n + s - 1 := Int.ediv_le_self _ (by omega)
  have e2 : IntKind.i64.wrap (n + s) = n + s := wrapI (by omega) (by omega)
  have e3 : IntKind.i64.wrap (n + s - 1) = n + s - 1 := wrapI (by omega) (by omega)
  have e4 : (n + s - 1).tdiv s = (n + s - 1) / s := Int.tdiv_eq_ediv_of_nonneg (by omega)
  have e5 : IntKind.i64.wrap ((n + s - 1) / s) = (n + s - 1) / s := wrapI (by omega) (by omega)
  have e6 : IntKind.i64.wrap ((n + s - 1) / s * s) = (n + s - 1) / s * s := wrapI (by omega) (by omega)
  simp -implicitDefEqProofs [rc_ref01_above, rr_ref01_above, e1, e2, e3, e4, e5, e6]

theorem wanted_pc (lo hi : Int) : PC Tryd.prog G 46 [.agg [.int .i64 lo, .int .i64 hi]] (.bool (wantedB lo hi)) := by
  (refine pc_ref01_Wanted (Nat.le_of_ble_eq_true rfl) fun R hG => GO_AR mixed 1000 ?_; subst hG)
  have e : wantedB lo hi = (inR lo (-1000000000) 1000000000 && (inR hi (-1000000000) 1000000000 && decide (lo ≤ hi))) := by
    unfold wantedB inR
    rw [← Bool.decide_and, ← Bool.decide_and]
    exact decide_eq_decide.2 (by omega)
  simp -implicitDefEqProofs [rc_ref01_Wanted, rr_ref01_Wanted, e]
  (first | refine CallK.of (within_pc _ _ _) (by simp) ?_ | refine CallD.of (within_pc _ _ _) (by simp) ?_)
  cases h1 : inR lo (-1000000000) 1000000000
  · simp -implicitDefEqProofs
  · simp -implicitDefEqProofs
    (first | refine CallK.of (within_pc _ _ _) (by simp) ?_ | refine CallD.of (within_pc _ _ _) (by simp) ?_)
    cases h2 : inR hi (-1000000000) 1000000000 <;> simp -implicitDefEqProofs

theorem check_pc (n l u : Int) : PC Tryd.prog G 40 [.agg [.int .i64 n, .int .i64 l, .int .i64 u]] (.int .i64 (chk ⟨n, l, u⟩)) := by
  (refine pc_ref01_Check (Nat.le_of_ble_eq_true rfl) fun R hG => GO_AR mixed 1000 ?_; subst hG)
  simp -implicitDefEqProofs [rc_ref01_Check, rr_ref01_Check, chk]
  (first | refine CallK.of (dim_pc _ _ _) (by simp) ?_ | refine CallD.of (dim_pc _ _ _) (by simp) ?_)
  cases h1 : vd ⟨n, l, u⟩ <;> simp -implicitDefEqProofs

theorem inside_pc (a b : Dm) : PC Tryd.prog G 23 [.agg [.int .i64 a.n, .int .i64 a.l, .int .i64 a.u], .agg [.int .i64 b.n, .int .i64 b.l, .int .i64 b.u]] (.tup [.bool (insideV a b).1, .int .i64 (insideV a b).2]) := by
  (refine pc_ref01_Inside (Nat.le_of_ble_eq_true rfl) fun R hG => GO_AR mixed 1000 ?_; subst hG)
  simp -implicitDefEqProofs [rc_ref01_Inside, rr_ref01_Inside, insideV]
  (first | refine CallK.of (dim_pc _ _ _) (by simp) ?_ | refine CallD.of (dim_pc _ _ _) (by simp) ?_)
  cases h1 : vd a
  · simp -implicitDefEqProofs [h1]
  · simp -implicitDefEqProofs [h1]
    (first | refine CallK.of (dim_pc _ _ _) (by simp) ?_ | refine CallD.of (dim_pc _ _ _) (by simp) ?_)
    cases h2 : vd b
    · simp -implicitDefEqProofs [h2]
    · simp -implicitDefEqProofs [h2]
      by_cases h3 : b.l ≤ a.l <;> simp -implicitDefEqProofs [h3]
end
end Go.Proofs.YtikjooemblpnbaaDoor

/-! What the functions of package bluelineref01 compute (fits), by the abstract machine. -/
namespace Go.Proofs.YtikjooemblpnbaaDoor
open Go.RowKit

theorem Dm.ext {a b : Dm} (h1 : a.n = b.n) (h2 : a.l = b.l) (h3 : a.u = b.u) : a = b := by
  cases a; cases b; simp only at h1 h2 h3; subst h1 h2 h3; rfl

def Dm.av (d : Dm) : AV := .agg [.int .i64 d.n, .int .i64 d.l, .int .i64 d.u]
def Dm.cs (d : Dm) : List AV := [.int .i64 d.n, .int .i64 d.l, .int .i64 d.u]

section
variable {G : Nat → Option (List AV)}

theorem fitR_pc (a b : Dm) : PC Tryd.prog G 25 [.agg [.int .i64 a.n, .int .i64 a.l, .int .i64 a.u], .agg [.int .i64 b.n, .int .i64 b.l, .int .i64 b.u]] (.tup [.agg [.int .i64 (fitV a b).1, .int .i64 (fitV a b).2.1], .int .u8 (fitV a b).2.2.1, .int .i64 (fitV a b).2.2.2]) := by
  (refine pc_ref01_Fit (Nat.le_of_ble_eq_true rfl) fun R hG => GO_AR mixed 1000 ?_; subst hG)
  simp -implicitDefEqProofs [rc_ref01_Fit, rr_ref01_Fit, fitV]
  (first | refine CallK.of (dim_pc _ _ _) (by simp) ?_ | refine CallD.of (dim_pc _ _ _) (by simp) ?_)
  cases h1 : vd a
  · simp -implicitDefEqProofs [h1]
  · simp -implicitDefEqProofs [h1]
    (first | refine CallK.of (dim_pc _ _ _) (by simp) ?_ | refine CallD.of (dim_pc _ _ _) (by simp) ?_)
    cases h2 : vd b
    · simp -implicitDefEqProofs [h2]
    · obtain ⟨x0, x1, x2, x3, x4⟩ := of_decide_eq_true h1
      obtain ⟨y0, y1, y2, y3, y4⟩ := of_decide_eq_true h2
      have e1 : IntKind.i64.wrap (a.l - b.u) = a.l - b.u := wrapI (by omega) (by omega)
      have e2 : IntKind.i64.wrap (a.u - b.l) = a.u - b.l := wrapI (by omega) (by omega)
      by_cases h3 : b.u ≤ a.l
      · simp -implicitDefEqProofs [h2, e1, e2, h3]
      · by_cases h4 : a.u - b.l ≤ 0
        · simp -implicitDefEqProofs [h2, e1, e2, h3, h4]
        · simp -implicitDefEqProofs [h2, e1, e2, h3, h4]

theorem sameR_pc (a b : List Dm) (hn : a.length < 1000000) : PC Tryd.prog G 32 [.vsl (a.map Dm.cs), .vsl (b.map Dm.cs)] (.bool (Dm.beqs a b)) := by
  (refine pc_ref01_Same (Nat.le_of_ble_eq_true rfl) fun R hG => GO_AR mixed 1000 ?_; subst hG)
  by_cases hl : (a.length : Int) = b.length
  · simp -implicitDefEqProofs [rc_ref01_Same, rr_ref01_Same, hl]
    refine AR_loop (fun i : Nat => ⟨[(4, .bool false), (5, .int .i64 i), (0, .vsl (a.map Dm.cs)), (1, .vsl (b.map Dm.cs))], []⟩) (fun i => i ≤ a.length ∧ a.take i = b.take i) (fun i => a.length - i) 0 (Weak.tm (by simp [lk])) ⟨by omega, rfl⟩ ?_
    rintro i ⟨hi, he⟩
    refine GO_AR mixed 1000 ?_
    by_cases h1 : i < a.length
    · have h2 : i < b.length := by omega
      have w1 : IntKind.i64.wrap ((i : Int) + 1) = ((i + 1 : Nat) : Int) := wrapI (by omega) (by omega)
      simp -implicitDefEqProofs [h1, h2, w1, Dm.cs]
      refine ⟨rfl, ?_⟩
      by_cases e : a[i] = b[i]
      · simp -implicitDefEqProofs [e, w1]
        refine ⟨i + 1, Weak.tm (by simp [lk]), ⟨by omega, ?_⟩, by show a.length - (i + 1) < a.length - i; omega⟩
        rw [← List.take_append_getElem h1, ← List.take_append_getElem h2, he, e]
      · have e2 : (!decide (a[i].n = b[i].n) || (!decide (a[i].l = b[i].l) || !decide (a[i].u = b[i].u))) = true := by
          cases h5 : (!decide (a[i].n = b[i].n) || (!decide (a[i].l = b[i].l) || !decide (a[i].u = b[i].u)))
          · simp only [Bool.or_eq_false_iff, Bool.not_eq_false', decide_eq_true_eq] at h5
            exact absurd (Dm.ext h5.1 h5.2.1 h5.2.2) e
          · rfl
        have e3 : Dm.beqs a b = false := Dm.beqs_false (fun x => e (by subst x; rfl))
        rw [e2]
        simp -implicitDefEqProofs
        refine GO_ret mixed 1000 ?_
        simp -implicitDefEqProofs [e3]
    · have h2 : ¬ i < b.length := by omega
      have e : a = b := by
        rw [List.take_of_length_le (by omega), List.take_of_length_le (by omega)] at he
        exact he
      have e2 : Dm.beqs a b = true := Dm.beqs_true e
      simp -implicitDefEqProofs [h1, h2]
      refine GO_ret mixed 1000 ?_
      simp -implicitDefEqProofs [e2]
  · have hne : Dm.beqs a b = false := Dm.beqs_false (fun e => hl (by rw [e]))
    simp -implicitDefEqProofs [rc_ref01_Same, rr_ref01_Same, hl, hne]
end
end Go.Proofs.YtikjooemblpnbaaDoor
