/-
  What the functions of package bluelineref01 compute (fits), by the abstract machine.
-/
import Derived.Test.YtikjooemblpnbaaDoorRa
namespace Go.Proofs.YtikjooemblpnbaaDoor
open Go.RowKit

theorem Dm.ext {a b : Dm} (h1 : a.n = b.n) (h2 : a.l = b.l) (h3 : a.u = b.u) : a = b := by
  cases a; cases b; simp only at h1 h2 h3; subst h1 h2 h3; rfl

def Dm.av (d : Dm) : AV := .agg [.int .i64 d.n, .int .i64 d.l, .int .i64 d.u]
def Dm.cs (d : Dm) : List AV := [.int .i64 d.n, .int .i64 d.l, .int .i64 d.u]

section
variable {G : Nat → Option (List AV)}

theorem fitR_pc (a b : Dm) : PC Tryd.prog G 25 [.agg [.int .i64 a.n, .int .i64 a.l, .int .i64 a.u], .agg [.int .i64 b.n, .int .i64 b.l, .int .i64 b.u]] (.tup [.agg [.int .i64 (fitV a b).1, .int .i64 (fitV a b).2.1], .int .u8 (fitV a b).2.2.1, .int .i64 (fitV a b).2.2.2]) := by
  (refine pc_ref01_Fit (Nat.le_of_ble_eq_true rfl) fun R hG => GO_AR mixed 1000 ?_; subst hG)
  simp -implicitDefEqProofs [rc_ref01_Fit, rr_ref01_Fit, fitV]
  (first | refine CallK.of (dim_pc _ _ _) (by simp) ?_ | refine CallD.of (dim_pc _ _ _) (by simp) ?_)
  cases h1 : vd a
  · simp -implicitDefEqProofs [h1]
  · simp -implicitDefEqProofs [h1]
    (first | refine CallK.of (dim_pc _ _ _) (by simp) ?_ | refine CallD.of (dim_pc _ _ _) (by simp) ?_)
    cases h2 : vd b
    · simp -implicitDefEqProofs [h2]
    · obtain ⟨x0, x1, x2, x3, x4⟩ := of_decide_eq_true h1
      obtain ⟨y0, y1, y2, y3, y4⟩ := of_decide_eq_true h2
      have e1 : IntKind.i64.wrap (a.l - b.u) = a.l - b.u := wrapI (by omega) (by omega)
      have e2 : IntKind.i64.wrap (a.u - b.l) = a.u - b.l := wrapI (by omega) (by omega)
      by_cases h3 : b.u ≤ a.l
      · simp -implicitDefEqProofs [h2, e1, e2, h3]
      · by_cases h4 : a.u - b.l ≤ 0
        · simp -implicitDefEqProofs [h2, e1, e2, h3, h4]
        · simp -implicitDefEqProofs [h2, e1, e2, h3, h4]

theorem sameR_pc (a b : List Dm) (hn : a.length < 1000000) : PC Tryd.prog G 32 [.vsl (a.map Dm.cs), .vsl (b.map Dm.cs)] (.bool (Dm.beqs a b)) := by
  (refine pc_ref01_Same (Nat.le_of_ble_eq_true rfl) fun R hG => GO_AR mixed 1000 ?_; subst hG)
  by_cases hl : (a.length : Int) = b.length
  · simp -implicitDefEqProofs [rc_ref01_Same, rr_ref01_Same, hl]
    refine AR_loop (fun i : Nat => ⟨[(4, .bool false), (5, .int .i64 i), (0, .vsl (a.map Dm.cs)), (1, .vsl (b.map Dm.cs))], []⟩) (fun i => i ≤ a.length ∧ a.take i = b.take i) (fun i => a.length - i) 0 (Weak.tm (by simp [lk])) ⟨by omega, rfl⟩ ?_
    rintro i ⟨hi, he⟩
    refine GO_AR mixed 1000 ?_
    by_cases h1 : i < a.length
    · have h2 : i < b.length := by omega
      have w1 : IntKind.i64.wrap ((i : Int) + 1) = ((i + 1 : Nat) : Int) := wrapI (by omega) (by omega)
      simp -implicitDefEqProofs [h1, h2, w1, Dm.cs]
      refine ⟨rfl, ?_⟩
      by_cases e : a[i] = b[i]
      · simp -implicitDefEqProofs [e, w1]
        refine ⟨i + 1, Weak.tm (by simp [lk]), ⟨by omega, ?_⟩, by show a.length - (i + 1) < a.length - i; omega⟩
        rw [← List.take_append_getElem h1, ← List.take_append_getElem h2, he, e]
      · have e2 : (!decide (a[i].n = b[i].n) || (!decide (a[i].l = b[i].l) || !decide (a[i].u = b[i].u))) = true := by
          cases h5 : (!decide (a[i].n = b[i].n) || (!decide (a[i].l = b[i].l) || !decide (a[i].u = b[i].u)))
          · simp only [Bool.or_eq_false_iff, Bool.not_eq_false', decide_eq_true_eq] at h5
            exact absurd (Dm.ext h5.1 h5.2.1 h5.2.2) e
          · rfl
        have e3 : Dm.beqs a b = false := Dm.beqs_false (fun x => e (by subst x; rfl))
        rw [e2]
        simp -implicitDefEqProofs
        refine GO_ret mixed 1000 ?_
        simp -implicitDefEqProofs [e3]
    · have h2 : ¬ i < b.length := by omega
      have e : a = b := by
        rw [List.take_of_length_le (by omega), List.take_of_length_le (by omega)] at he
        exact he
      have e2 : Dm.beqs a b = true := Dm.beqs_true e
      simp -implicitDefEqProofs [h1, h2]
      refine GO_ret mixed 1000 ?_
      simp -implicitDefEqProofs [e2]
  · have hne : Dm.beqs a b = false := Dm.beqs_false (fun e => hl (by rw [e]))
    simp -implicitDefEqProofs [rc_ref01_Same, rr_ref01_Same, hl, hne]
end
end Go.Proofs.YtikjooemblpnbaaDoor
