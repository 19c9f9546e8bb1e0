/-
  What the reference's functions on registers compute: twins, great ones, numbers, the last letter, an issue.
-/
import Derived.Test.YtdpmioiamcgfkaaDoorDb
namespace Go.Proofs.YtdpmioiamcgfkaaDoor
open Go.RowKit

/-- An own row that begins nil. -/
def acT (k : Nat) (l : List (List AV)) : AV := if l = [] then .nils else .osl k l.length
def acO (k sz : Nat) (l : List (List AV)) : List (Nat × AObj) := if l = [] then [] else [(k, .row sz l)]

/-- An issue at a place. -/
def at' (r : List Iss) (i : Nat) : Iss := r.getD i default
theorem at_eq {r : List Iss} {i : Nat} (h : i < r.length) : at' r i = r[i] := by simp [at', List.getD, h]

/-- The drawings' numbers. -/
def newB (r : List Iss) (i : Nat) : Bool := i == 0 || !decide ((at' r (i - 1)).d = (at' r i).d)
def numsN (r : List Iss) : Nat → List Int
  | 0 => []
  | i + 1 => if newB r i = true then numsN r i ++ [(at' r i).d] else numsN r i
def nums (r : List Iss) : List Int := numsN r r.length
theorem numsN_len (r : List Iss) : ∀ i, (numsN r i).length ≤ i
  | 0 => by simp [numsN]
  | i + 1 => by
    have := numsN_len r i
    simp only [numsN]
    split
    · simp; omega
    · omega
theorem numsN_ne (r : List Iss) : ∀ i, numsN r (i + 1) ≠ []
  | 0 => by simp [numsN, newB]
  | i + 1 => by
    have := numsN_ne r i
    rw [numsN]
    split
    · simp
    · exact this

/-- The greatest letter. -/
def lastN (r : List Iss) (n : Int) : Nat → Int
  | 0 => 0
  | i + 1 => if (at' r i).d = n then max (lastN r n i) (at' r i).l else lastN r n i
def lastV (r : List Iss) (n : Int) : Int := lastN r n r.length

/-- An issue by its name. -/
def findN (d l : Int) : List Iss → Option Iss
  | [] => none
  | x :: r => if x.d = d ∧ x.l = l then some x else findN d l r
def noIs : AV := .agg [.int .i64 0, .int .i64 0, .int .u8 0, .nils, .nils]
def fndA : Option Iss → AV
  | some x => .tup [.agg (isa x), .bool true]
  | none => .tup [noIs, .bool false]

/-- Larger than the statements consider. -/
def greatB (r : List Iss) : Bool := decide (80 < r.length) || r.any fun x => decide (16 < x.its.length) || decide (8 < x.dms.length)

theorem findN_at {d l : Int} : ∀ {r : List Iss} {i : Nat} (h : i < r.length), r[i].d = d → r[i].l = l → (∀ j (h : j < r.length), j < i → ¬ (r[j].d = d ∧ r[j].l = l)) → findN d l r = some r[i]
  | x :: r, 0, h, h1, h2, _ => by simp only [findN]; rw [if_pos ⟨h1, h2⟩]; rfl
  | x :: r, i + 1, h, h1, h2, hb => by
    simp only [findN]
    rw [if_neg (show ¬ (x.d = d ∧ x.l = l) from hb 0 (by simp) (by omega))]
    exact findN_at (by simpa using h) h1 h2 fun j hj hi => hb (j + 1) (by simpa using hj) (by omega)
theorem findN_no {d l : Int} : ∀ {r : List Iss}, (∀ j (h : j < r.length), ¬ (r[j].d = d ∧ r[j].l = l)) → findN d l r = none
  | [], _ => rfl
  | x :: r, hb => by
    simp only [findN]
    rw [if_neg (show ¬ (x.d = d ∧ x.l = l) from hb 0 (by simp))]
    exact findN_no fun j hj => hb (j + 1) (by simpa using hj)

section
variable {G : Nat → Option (List AV)}

theorem twinIssue_pc (x : Iss) (h1 : Sml x.its) (h2 : Sml x.dms) : PC Tryd.prog G 66 [.agg (isa x)] (.agg (isa x)) := by
  (refine pc_ref02_TwinIssue (Nat.le_of_ble_eq_true rfl) fun R hG hrd => GO_AR mixed 1000 ?_; subst hG)
  unfold Sml at h1 h2
  have b1 : x.its.length * 16 ≤ 70368744177664 := by omega
  have b2 : x.dms.length * 24 ≤ 70368744177664 := by omega
  have k1 : (x.its.map ita).all (fun r => r.length == 2) = true := by simp [ita]
  have k2 : (x.its.map ita).all (fun r => r.all AV.one) = true := by simp [ita, AV.one]
  have k3 : (x.dms.map dma).all (fun r => r.length == 3) = true := by simp [dma]
  have k4 : (x.dms.map dma).all (fun r => r.all AV.one) = true := by simp [dma, AV.one]
  have k5 : (x.its.map ita).all (fun r => r.all AV.pure) = true := by simp [ita, AV.pure]
  have k6 : (x.dms.map dma).all (fun r => r.all AV.pure) = true := by simp [dma, AV.pure]
  by_cases e1 : x.its = [] <;> by_cases e2 : x.dms = []
  · simp -implicitDefEqProofs [rc_ref02_TwinIssue, rr_ref02_TwinIssue, isa, e1, e2]
    try rfl
  · simp -implicitDefEqProofs [rc_ref02_TwinIssue, rr_ref02_TwinIssue, isa, e1, e2, b2, k3, k4, k6]
    try rfl
  · simp -implicitDefEqProofs [rc_ref02_TwinIssue, rr_ref02_TwinIssue, isa, e1, e2, b1, k1, k2, k5]
    try rfl
  · simp -implicitDefEqProofs [rc_ref02_TwinIssue, rr_ref02_TwinIssue, isa, e1, e2, b1, b2, k1, k2, k3, k4, k5, k6]
    try rfl

theorem great_pc (r : List Iss) (h : Sml r) : PC Tryd.prog G 18 [rega r] (.bool (greatB r)) := by
  (refine pc_ref02_Great (Nat.le_of_ble_eq_true rfl) fun R hG hrd => GO_AR mixed 1000 ?_; subst hG)
  unfold Sml at h
  by_cases h1 : 80 < r.length
  · have h1' : (80 : Int) < r.length := by omega
    simp -implicitDefEqProofs [rc_ref02_Great, rr_ref02_Great, rega, h1', greatB, h1]
  have h1' : ¬ (80 : Int) < r.length := by omega
  simp -implicitDefEqProofs [rc_ref02_Great, rr_ref02_Great, rega, h1']
  refine AR_for (fun i => ⟨[(3, .int .i64 i), (1, .ptr 1 0)], [(1, .box [.vsl (r.map isa)])]⟩) (fun i => ∀ j (h : j < r.length), j < i → r[j].its.length ≤ 16 ∧ r[j].dms.length ≤ 8) r.length (by (first | exact Weak.tm (by simp [lk]) | exact Weak.sub (by simp [lk, keptA, AV.keys]) (by simp [lk, keptO, keptA, AV.keys]))) (by simp) ?_ ?_
  · intro i hi he
    refine GO_AR mixed 1000 ?_
    have w1 : IntKind.i64.wrap ((i : Int) + 1) = ((i + 1 : Nat) : Int) := wrapI (by omega) (by omega)
    have bad : (16 < r[i].its.length ∨ 8 < r[i].dms.length) → greatB r = true := fun hb => by
      simp only [greatB, Bool.or_eq_true, List.any_eq_true, decide_eq_true_eq]
      exact .inr ⟨r[i], List.getElem_mem hi, hb⟩
    by_cases h2 : 16 < r[i].its.length
    · have h2' : (16 : Int) < r[i].its.length := by omega
      simp -implicitDefEqProofs [hi, isa, h2']
      refine GO_ret mixed 1000 ?_
      simp -implicitDefEqProofs [bad (.inl h2)]
    have h2' : ¬ (16 : Int) < r[i].its.length := by omega
    by_cases h3 : 8 < r[i].dms.length
    · have h3' : (8 : Int) < r[i].dms.length := by omega
      simp -implicitDefEqProofs [hi, isa, h2', h3']
      refine GO_ret mixed 1000 ?_
      simp -implicitDefEqProofs [bad (.inr h3)]
    have h3' : ¬ (8 : Int) < r[i].dms.length := by omega
    simp -implicitDefEqProofs [hi, isa, h2', h3', w1]
    refine ⟨(by (first | exact Weak.tm (by simp [lk]) | exact Weak.sub (by simp [lk, keptA, AV.keys]) (by simp [lk, keptO, keptA, AV.keys]))), fun j q1 q3 => ?_⟩
    by_cases e : j = i
    · subst e; exact ⟨by omega, by omega⟩
    · exact he j q1 (by omega)
  · intro he
    refine GO_AR mixed 1000 ?_
    have hg : greatB r = false := by
      simp only [greatB, Bool.or_eq_false_iff, decide_eq_false_iff_not, h1, not_false_eq_true, true_and, List.any_eq_false, Bool.not_eq_true, Bool.or_eq_true, decide_eq_true_eq]
      intro x hx
      obtain ⟨j, hj, rfl⟩ := List.getElem_of_mem hx
      have := he j hj hj
      omega
    simp -implicitDefEqProofs []
    refine GO_ret mixed 1000 ?_
    simp -implicitDefEqProofs [hg]

theorem lastOf_pc (r : List Iss) (n : Int) (h : Sml r) : PC Tryd.prog G 59 [rega r, .int .i64 n] (.int .i64 (lastV r n)) := by
  (refine pc_ref02_LastOf (Nat.le_of_ble_eq_true rfl) fun R hG hrd => GO_AR mixed 1000 ?_; subst hG)
  unfold Sml at h
  simp -implicitDefEqProofs [rc_ref02_LastOf, rr_ref02_LastOf, rega]
  refine AR_for (fun i => ⟨[(6, .int .i64 i), (5, .int .i64 (lastN r n i)), (2, .ptr 2 0), (1, .int .i64 n)], [(2, .box [.vsl (r.map isa)])]⟩) (fun _ => True) r.length (by (first | exact Weak.tm (by simp [lk, lastN]) | exact Weak.sub (by simp [lk, keptA, AV.keys, lastN]) (by simp [lk, keptO, keptA, AV.keys, lastN]))) trivial ?_ ?_
  · intro i hi he
    refine GO_AR mixed 1000 ?_
    have w1 : IntKind.i64.wrap ((i : Int) + 1) = ((i + 1 : Nat) : Int) := wrapI (by omega) (by omega)
    have e1 := at_eq hi
    by_cases h2 : r[i].d = n
    · simp -implicitDefEqProofs [hi, isa, h2, w1]
      exact Weak.sub (by simp [lk, keptA, AV.keys, lastN, e1, h2]) (by simp [lk, keptO, keptA, AV.keys])
    · simp -implicitDefEqProofs [hi, isa, h2, w1]
      exact Weak.sub (by simp [lk, keptA, AV.keys, lastN, e1, h2]) (by simp [lk, keptO, keptA, AV.keys])
  · intro he
    refine GO_AR mixed 1000 ?_
    simp -implicitDefEqProofs []
    refine GO_ret mixed 1000 ?_
    simp -implicitDefEqProofs [lastV]

theorem find_pc (r : List Iss) (d l : Int) (h : Sml r) : PC Tryd.prog G 74 [rega r, .agg [.int .i64 d, .int .i64 l]] (fndA (findN d l r)) := by
  (refine pc_ref02_Find (Nat.le_of_ble_eq_true rfl) fun R hG hrd => GO_AR mixed 1000 ?_; subst hG)
  unfold Sml at h
  simp -implicitDefEqProofs [rc_ref02_Find, rr_ref02_Find, rega]
  refine AR_for (fun i => ⟨[(6, .int .i64 i), (2, .ptr 2 0), (3, .ptr 3 0), (4, .ptr 4 0)], [(2, .box [.vsl (r.map isa)]), (3, .box [.int .i64 d, .int .i64 l]), (4, .box [.int .i64 0, .int .i64 0, .int .u8 0, .nils, .nils])]⟩) (fun i => ∀ j (h : j < r.length), j < i → ¬ (r[j].d = d ∧ r[j].l = l)) r.length (by (first | exact Weak.tm (by simp [lk]) | exact Weak.sub (by simp [lk, keptA, AV.keys]) (by simp [lk, keptO, keptA, AV.keys]))) (by simp) ?_ ?_
  · intro i hi he
    refine GO_AR mixed 1000 ?_
    have w1 : IntKind.i64.wrap ((i : Int) + 1) = ((i + 1 : Nat) : Int) := wrapI (by omega) (by omega)
    have go : ¬ (r[i].d = d ∧ r[i].l = l) → ∀ j (h : j < r.length), j < i + 1 → ¬ (r[j].d = d ∧ r[j].l = l) := fun hb j q1 q2 => by
      by_cases e : j = i
      · subst e; exact hb
      · exact he j q1 (by omega)
    by_cases h2 : r[i].d = d
    · by_cases h3 : r[i].l = l
      · simp -implicitDefEqProofs [hi, isa, h2, h3]
        refine GO_ret mixed 1000 ?_
        simp -implicitDefEqProofs [findN_at hi h2 h3 he, fndA, isa, h2, h3]
      · simp -implicitDefEqProofs [hi, isa, h2, h3, w1]
        exact ⟨(by (first | exact Weak.tm (by simp [lk]) | exact Weak.sub (by simp [lk, keptA, AV.keys]) (by simp [lk, keptO, keptA, AV.keys]))), fun j q1 q2 q3 q4 => go (fun e => h3 e.2) j q1 q2 ⟨q3, q4⟩⟩
    · simp -implicitDefEqProofs [hi, isa, h2, w1]
      exact ⟨(by (first | exact Weak.tm (by simp [lk]) | exact Weak.sub (by simp [lk, keptA, AV.keys]) (by simp [lk, keptO, keptA, AV.keys]))), fun j q1 q2 q3 q4 => go (fun e => h2 e.1) j q1 q2 ⟨q3, q4⟩⟩
  · intro he
    refine GO_AR mixed 1000 ?_
    simp -implicitDefEqProofs []
    refine GO_ret mixed 1000 ?_
    simp -implicitDefEqProofs [findN_no (fun j hj => he j hj hj), fndA, noIs]
end
end Go.Proofs.YtdpmioiamcgfkaaDoor
