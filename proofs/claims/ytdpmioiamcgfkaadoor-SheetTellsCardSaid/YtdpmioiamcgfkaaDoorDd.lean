/-
  What the reference's functions on registers compute: numbers, a valid issue.
-/
import Derived.Test.YtdpmioiamcgfkaaDoorDc
namespace Go.Proofs.YtdpmioiamcgfkaaDoor
open Go.RowKit

/-- The item at a place is right. -/
def itAt (x : Iss) (i : Nat) : Int × Int := x.its.getD i (0, 0)
def itOk (x : Iss) (i : Nat) : Bool := inR (itAt x i).1 1 9999 && inR (itAt x i).2 1 20 && !decide ((itAt x i).1 = x.d) && (i == 0 || decide ((itAt x (i - 1)).1 < (itAt x i).1))
def headB (x : Iss) : Bool := inR x.d 1 9999 && inR x.l 1 8 && inR x.k 1 3 && (if x.k = 1 then inR x.its.length 1 8 && decide (x.dms.length = 0) else decide (x.dms.length ≤ 4) && decide (x.its.length = 0))
/-- An issue that is valid by itself. -/
def issB (x : Iss) : Bool := headB x && (List.range x.its.length).all (itOk x) && x.dms.all vd

theorem range_all {n : Nat} {p : Nat → Bool} : (List.range n).all p = true ↔ ∀ j, j < n → p j = true := by simp [List.all_eq_true]

/-- What stands behind the first test of Issue. -/
def issRest1 : RCode → RCode
  | .seq _ (.seq _ (.seq a _)) => a
  | c => c
def issRest2 : RCode → RCode
  | .seq _ (.seq _ (.seq _ b)) => b
  | c => c

section
variable {G : Nat → Option (List AV)}

def nuS (r : List Iss) : Nat → St
  | 0 => ⟨[(4, .int .i64 0), (3, .nils), (1, .ptr 1 0)], [(1, .box [.vsl (r.map isa)])]⟩
  | i + 1 => ⟨[(4, .int .i64 (i + 1 : Nat)), (3, .osl 35 (numsN r (i + 1)).length), (1, .ptr 1 0)], [(1, .box [.vsl (r.map isa)]), (35, .row 1 ((numsN r (i + 1)).map ia))]⟩

theorem numbers_pc (r : List Iss) (h : Sml r) (h0 : r ≠ []) : PC Tryd.prog G 55 [rega r] (.vsl ((nums r).map ia)) := by
  (refine pc_ref02_Numbers (Nat.le_of_ble_eq_true rfl) fun R hG hrd => GO_AR mixed 1000 ?_; subst hG)
  unfold Sml at h
  simp -implicitDefEqProofs [rc_ref02_Numbers, rr_ref02_Numbers, rega]
  refine AR_for (nuS r) (fun _ => True) r.length (by simp only [nuS]; (first | exact Weak.tm (by simp [lk]) | exact Weak.sub (by simp [lk, keptA, AV.keys]) (by simp [lk, keptO, keptA, AV.keys]))) trivial ?_ ?_
  · intro i hi he
    refine GO_AR mixed 1000 ?_
    have e1 := at_eq hi
    cases i with
    | zero =>
      have hn : numsN r 1 = [r[0].d] := by simp [numsN, newB, e1]
      have w1 : IntKind.i64.wrap 1 = 1 := rfl
      simp -implicitDefEqProofs [nuS, hi, isa, w1]
      exact Weak.sub (by simp [lk, keptA, AV.keys, hn]) (by simp [lk, keptO, keptA, AV.keys, hn, ia])
    | succ i =>
      have w1 : IntKind.i64.wrap ((i : Int) + 1 + 1) = (i : Int) + 1 + 1 := wrapI (by omega) (by omega)
      have w2 : IntKind.i64.wrap (i : Int) = (i : Int) := wrapI (by omega) (by omega)
      have k1 : (i : Int) + 1 < r.length := by omega
      have k2 : ((i : Int) + 1).toNat = i + 1 := by omega
      have k3 : (0 : Int) ≤ (i : Int) + 1 := by omega
      have k4 : ¬ (i : Int) + 1 = 0 := by omega
      have hi2 : i < r.length := by omega
      have e2 := at_eq hi2
      have b1 := numsN_len r (i + 1)
      have b2 : ((numsN r (i + 1)).length + 1) * 8 ≤ 70368744177664 := by omega
      by_cases h2 : r[i].d = r[i + 1].d
      · have hn : numsN r (i + 1 + 1) = numsN r (i + 1) := by rw [numsN]; simp [newB, e1, e2, h2]
        simp -implicitDefEqProofs [nuS, hi, hi2, k1, k2, k3, k4, isa, w1, w2, h2]
        exact Weak.sub (by simp [lk, keptA, AV.keys, hn]) (by simp [lk, keptO, keptA, AV.keys, hn, ia])
      · have hn : numsN r (i + 1 + 1) = numsN r (i + 1) ++ [r[i + 1].d] := by rw [numsN]; simp [newB, e1, e2, h2]
        simp -implicitDefEqProofs [nuS, hi, hi2, k1, k2, k3, k4, isa, w1, w2, h2, b2]
        exact Weak.sub (by simp [lk, keptA, AV.keys, hn]) (by simp [lk, keptO, keptA, AV.keys, hn, ia])
  · intro he
    refine GO_AR mixed 1000 ?_
    obtain ⟨n, hn⟩ : ∃ n, r.length = n + 1 := ⟨r.length - 1, by
      have : r.length ≠ 0 := by simpa using h0
      omega⟩
    have e : numsN r (n + 1) = nums r := by rw [nums, hn]
    have pu : ((nums r).map ia).all (fun x => x.all AV.pure) = true := by simp [ia, AV.pure]
    rw [hn]
    have k1 : ¬ (n : Int) + 1 < n + 1 := by omega
    simp -implicitDefEqProofs [nuS, e, hn, k1]
    refine GO_ret mixed 1000 ?_
    simp -implicitDefEqProofs [pu]

theorem issue_pc (x : Iss) (h1 : Sml x.its) (h2 : Sml x.dms) (hk : 0 ≤ x.k ∧ x.k ≤ 255) : PC Tryd.prog G 107 [.agg (isa x)] (.bool (issB x)) := by
  (refine pc_ref02_Issue (Nat.le_of_ble_eq_true rfl) fun R hG hrd => GO_AR mixed 1000 ?_; subst hG)
  unfold Sml at h1 h2
  have wk : IntKind.i64.wrap x.k = x.k := wrapI (by omega) (by omega)
  have bad : headB x = false → issB x = false := fun e => by simp [issB, e]
  simp -implicitDefEqProofs [rc_ref02_Issue, rr_ref02_Issue, isa]
  (first | refine CallK.of (within_pc _ _ _) (by simp) ?_ | refine CallD.of (within_pc _ _ _) (by simp) ?_)
  cases q1 : inR x.d 1 9999
  · simp -implicitDefEqProofs [bad (by simp [headB, q1])]
  simp -implicitDefEqProofs []
  (first | refine CallK.of (within_pc _ _ _) (by simp) ?_ | refine CallD.of (within_pc _ _ _) (by simp) ?_)
  cases q2 : inR x.l 1 8
  · simp -implicitDefEqProofs [bad (by simp [headB, q2])]
  simp -implicitDefEqProofs [wk]
  (first | refine CallK.of (within_pc _ _ _) (by simp) ?_ | refine CallD.of (within_pc _ _ _) (by simp) ?_)
  cases q3 : inR x.k 1 3
  · simp -implicitDefEqProofs [bad (by simp [headB, q3])]
  have q3' : 1 ≤ x.k ∧ x.k ≤ 3 := of_decide_eq_true q3
  by_cases c1 : x.k = 1
  · simp -implicitDefEqProofs [c1]
    (first | refine CallK.of (within_pc _ _ _) (by simp) ?_ | refine CallD.of (within_pc _ _ _) (by simp) ?_)
    cases q4 : inR x.its.length 1 8
    · simp -implicitDefEqProofs [bad (by simp [headB, q4, c1])]
    have n1 : ¬ (1 : Int) < 1 := by omega
    by_cases q5 : x.dms.length = 0
    · have q5n : ¬ 0 < x.dms.length := by omega
      have hB : headB x = true := by simp [headB, q1, q2, c1, q4, q5]; rfl
      simp -implicitDefEqProofs [q5n, q5]
      refine AR_for (fun i => ⟨[(3, .int .i64 i), (1, .ptr 1 0)], [(1, .box (isa x))]⟩) (fun i => ∀ j, j < i → itOk x j = true) x.its.length (by (first | exact Weak.tm (by simp [lk, isa, c1]) | exact Weak.sub (by simp [lk, keptA, AV.keys, isa, c1]) (by simp [lk, keptO, keptA, AV.keys, isa, c1]))) (by simp) ?_ ?_
      · intro i hi he
        refine GO_AR mixed 1000 ?_
        have w1 : IntKind.i64.wrap ((i : Int) + 1) = ((i + 1 : Nat) : Int) := wrapI (by omega) (by omega)
        have a1 : itAt x i = x.its[i] := by simp [itAt, List.getD, hi]
        have no : itOk x i = false → issB x = false := fun e => by
          cases hI : issB x
          · rfl
          · simp only [issB, Bool.and_eq_true] at hI
            rw [range_all.1 hI.1.2 i hi] at e; cases e
        simp -implicitDefEqProofs [hi, isa, ita]
        (first | refine CallK.of (within_pc _ _ _) (by simp) ?_ | refine CallD.of (within_pc _ _ _) (by simp) ?_)
        cases p1 : inR x.its[i].1 1 9999
        · simp -implicitDefEqProofs []
          refine ⟨rfl, ?_⟩
          refine GO_ret mixed 1000 ?_
          simp -implicitDefEqProofs [no (by simp [itOk, a1, p1])]
        simp -implicitDefEqProofs []
        (first | refine CallK.of (within_pc _ _ _) (by simp) ?_ | refine CallD.of (within_pc _ _ _) (by simp) ?_)
        cases p2 : inR x.its[i].2 1 20
        · simp -implicitDefEqProofs []
          refine ⟨rfl, ?_⟩
          refine GO_ret mixed 1000 ?_
          simp -implicitDefEqProofs [no (by simp [itOk, a1, p2])]
        by_cases p3 : x.its[i].1 = x.d
        · simp -implicitDefEqProofs [p3]
          refine ⟨rfl, ?_⟩
          refine GO_ret mixed 1000 ?_
          simp -implicitDefEqProofs [no (by simp [itOk, a1, p3])]
        cases i with
        | zero =>
          have ok : itOk x 0 = true := by simp [itOk, a1, p1, p2, p3]
          have w0 : IntKind.i64.wrap 1 = 1 := rfl
          simp -implicitDefEqProofs [p3, w0]
          exact ⟨rfl, (by (first | exact Weak.tm (by simp [lk, isa]) | exact Weak.sub (by simp [lk, keptA, AV.keys, isa]) (by simp [lk, keptO, keptA, AV.keys, isa]))), ok⟩
        | succ i =>
          have w2 : IntKind.i64.wrap (i : Int) = (i : Int) := wrapI (by omega) (by omega)
          have w3 : IntKind.i64.wrap ((i : Int) + 1 + 1) = (i : Int) + 1 + 1 := wrapI (by omega) (by omega)
          have k3 : (0 : Int) < (i : Int) + 1 := by omega
          have hi2 : i < x.its.length := by omega
          have a2 : itAt x i = x.its[i] := by simp [itAt, List.getD, hi2]
          by_cases p4 : x.its[i + 1].1 ≤ x.its[i].1
          · simp -implicitDefEqProofs [p3, k3, w2, hi2, ita, p4]
            refine ⟨rfl, ?_⟩
            refine GO_ret mixed 1000 ?_
            simp -implicitDefEqProofs [no (by simp [itOk, a1, a2, p4])]
          · have ok : itOk x (i + 1) = true := by simp [itOk, a1, a2, p1, p2, p3]; omega
            simp -implicitDefEqProofs [p3, k3, w2, w3, hi2, ita, p4]
            refine ⟨rfl, (by (first | exact Weak.tm (by simp [lk, isa]) | exact Weak.sub (by simp [lk, keptA, AV.keys, isa]) (by simp [lk, keptO, keptA, AV.keys, isa]))), fun j hj => ?_⟩
            by_cases e : j = i + 1
            · subst e; exact ok
            · exact he j (by omega)
      · intro he
        refine GO_AR mixed 1000 ?_
        have hI : (List.range x.its.length).all (itOk x) = true := range_all.2 he
        simp -implicitDefEqProofs [isa]
        refine GO_ret mixed 1000 ?_
        simp -implicitDefEqProofs []
        refine AR_for (fun i => ⟨[(5, .int .i64 i), (1, .ptr 1 0)], [(1, .box (isa x))]⟩) (fun i => ∀ j (h : j < x.dms.length), j < i → vd x.dms[j] = true) x.dms.length (by (first | exact Weak.tm (by simp [lk, isa]) | exact Weak.sub (by simp [lk, keptA, AV.keys, isa]) (by simp [lk, keptO, keptA, AV.keys, isa]))) (by simp) ?_ ?_
        · intro i hi he
          refine GO_AR mixed 1000 ?_
          have w1 : IntKind.i64.wrap ((i : Int) + 1) = ((i + 1 : Nat) : Int) := wrapI (by omega) (by omega)
          simp -implicitDefEqProofs [hi, isa, dma]
          (first | refine CallK.of (dim_pc _ _ _) (by simp) ?_ | refine CallD.of (dim_pc _ _ _) (by simp) ?_)
          cases p1 : vd x.dms[i]
          · have hn : issB x = false := by
              cases hI2 : issB x
              · rfl
              · simp only [issB, Bool.and_eq_true] at hI2
                rw [List.all_eq_true.1 hI2.2 _ (List.getElem_mem hi)] at p1; cases p1
            have p1' : vd ⟨x.dms[i].n, x.dms[i].l, x.dms[i].u⟩ = false := p1
            simp -implicitDefEqProofs [p1']
            refine GO_ret mixed 1000 ?_
            simp -implicitDefEqProofs [hn]
          · have p1' : vd ⟨x.dms[i].n, x.dms[i].l, x.dms[i].u⟩ = true := p1
            simp -implicitDefEqProofs [p1', w1]
            refine ⟨(by (first | exact Weak.tm (by simp [lk, isa]) | exact Weak.sub (by simp [lk, keptA, AV.keys, isa]) (by simp [lk, keptO, keptA, AV.keys, isa]))), fun j h1 hj => ?_⟩
            by_cases e : j = i
            · subst e; exact p1
            · exact he j h1 (by omega)
        · intro hd
          refine GO_AR mixed 1000 ?_
          have hD : x.dms.all vd = true := List.all_eq_true.2 fun y hy => by
            obtain ⟨j, hj, rfl⟩ := List.getElem_of_mem hy
            exact hd j hj hj
          have hT : issB x = true := by simp [issB, hB, hI, hD]
          simp -implicitDefEqProofs [isa]
          refine GO_ret mixed 1000 ?_
          simp -implicitDefEqProofs [hT]
    · have q5n : 0 < x.dms.length := by omega
      simp -implicitDefEqProofs [q5n, bad (by simp [headB, q5, c1])]
  · have c2 : 1 < x.k := by omega
    by_cases q4 : x.dms.length ≤ 4
    case neg =>
      have q4n : 4 < x.dms.length := by omega
      have q4i : (4 : Int) < x.dms.length := by omega
      simp -implicitDefEqProofs [c1, c2, q4n, q4i, bad (by simp [headB, q4, c1])]
    have q4n : ¬ 4 < x.dms.length := by omega
    have q4i : ¬ (4 : Int) < x.dms.length := by omega
    by_cases q5 : x.its.length = 0
    · have q5n : ¬ 0 < x.its.length := by omega
      have hB : headB x = true := by simp [headB, q1, q2, q3, c1, q4, q5]
      simp -implicitDefEqProofs [c1, c2, q4n, q4i, q5n, q5]
      refine AR_for (fun i => ⟨[(3, .int .i64 i), (1, .ptr 1 0)], [(1, .box (isa x))]⟩) (fun i => ∀ j, j < i → itOk x j = true) x.its.length (by (first | exact Weak.tm (by simp [lk, isa, c1]) | exact Weak.sub (by simp [lk, keptA, AV.keys, isa, c1]) (by simp [lk, keptO, keptA, AV.keys, isa, c1]))) (by simp) ?_ ?_
      · intro i hi he
        refine GO_AR mixed 1000 ?_
        have w1 : IntKind.i64.wrap ((i : Int) + 1) = ((i + 1 : Nat) : Int) := wrapI (by omega) (by omega)
        have a1 : itAt x i = x.its[i] := by simp [itAt, List.getD, hi]
        have no : itOk x i = false → issB x = false := fun e => by
          cases hI : issB x
          · rfl
          · simp only [issB, Bool.and_eq_true] at hI
            rw [range_all.1 hI.1.2 i hi] at e; cases e
        simp -implicitDefEqProofs [hi, isa, ita]
        (first | refine CallK.of (within_pc _ _ _) (by simp) ?_ | refine CallD.of (within_pc _ _ _) (by simp) ?_)
        cases p1 : inR x.its[i].1 1 9999
        · simp -implicitDefEqProofs []
          refine ⟨rfl, ?_⟩
          refine GO_ret mixed 1000 ?_
          simp -implicitDefEqProofs [no (by simp [itOk, a1, p1])]
        simp -implicitDefEqProofs []
        (first | refine CallK.of (within_pc _ _ _) (by simp) ?_ | refine CallD.of (within_pc _ _ _) (by simp) ?_)
        cases p2 : inR x.its[i].2 1 20
        · simp -implicitDefEqProofs []
          refine ⟨rfl, ?_⟩
          refine GO_ret mixed 1000 ?_
          simp -implicitDefEqProofs [no (by simp [itOk, a1, p2])]
        by_cases p3 : x.its[i].1 = x.d
        · simp -implicitDefEqProofs [p3]
          refine ⟨rfl, ?_⟩
          refine GO_ret mixed 1000 ?_
          simp -implicitDefEqProofs [no (by simp [itOk, a1, p3])]
        cases i with
        | zero =>
          have ok : itOk x 0 = true := by simp [itOk, a1, p1, p2, p3]
          have w0 : IntKind.i64.wrap 1 = 1 := rfl
          simp -implicitDefEqProofs [p3, w0]
          exact ⟨rfl, (by (first | exact Weak.tm (by simp [lk, isa]) | exact Weak.sub (by simp [lk, keptA, AV.keys, isa]) (by simp [lk, keptO, keptA, AV.keys, isa]))), ok⟩
        | succ i =>
          have w2 : IntKind.i64.wrap (i : Int) = (i : Int) := wrapI (by omega) (by omega)
          have w3 : IntKind.i64.wrap ((i : Int) + 1 + 1) = (i : Int) + 1 + 1 := wrapI (by omega) (by omega)
          have k3 : (0 : Int) < (i : Int) + 1 := by omega
          have hi2 : i < x.its.length := by omega
          have a2 : itAt x i = x.its[i] := by simp [itAt, List.getD, hi2]
          by_cases p4 : x.its[i + 1].1 ≤ x.its[i].1
          · simp -implicitDefEqProofs [p3, k3, w2, hi2, ita, p4]
            refine ⟨rfl, ?_⟩
            refine GO_ret mixed 1000 ?_
            simp -implicitDefEqProofs [no (by simp [itOk, a1, a2, p4])]
          · have ok : itOk x (i + 1) = true := by simp [itOk, a1, a2, p1, p2, p3]; omega
            simp -implicitDefEqProofs [p3, k3, w2, w3, hi2, ita, p4]
            refine ⟨rfl, (by (first | exact Weak.tm (by simp [lk, isa]) | exact Weak.sub (by simp [lk, keptA, AV.keys, isa]) (by simp [lk, keptO, keptA, AV.keys, isa]))), fun j hj => ?_⟩
            by_cases e : j = i + 1
            · subst e; exact ok
            · exact he j (by omega)
      · intro he
        refine GO_AR mixed 1000 ?_
        have hI : (List.range x.its.length).all (itOk x) = true := range_all.2 he
        simp -implicitDefEqProofs [isa]
        refine GO_ret mixed 1000 ?_
        simp -implicitDefEqProofs []
        refine AR_for (fun i => ⟨[(5, .int .i64 i), (1, .ptr 1 0)], [(1, .box (isa x))]⟩) (fun i => ∀ j (h : j < x.dms.length), j < i → vd x.dms[j] = true) x.dms.length (by (first | exact Weak.tm (by simp [lk, isa]) | exact Weak.sub (by simp [lk, keptA, AV.keys, isa]) (by simp [lk, keptO, keptA, AV.keys, isa]))) (by simp) ?_ ?_
        · intro i hi he
          refine GO_AR mixed 1000 ?_
          have w1 : IntKind.i64.wrap ((i : Int) + 1) = ((i + 1 : Nat) : Int) := wrapI (by omega) (by omega)
          simp -implicitDefEqProofs [hi, isa, dma]
          (first | refine CallK.of (dim_pc _ _ _) (by simp) ?_ | refine CallD.of (dim_pc _ _ _) (by simp) ?_)
          cases p1 : vd x.dms[i]
          · have hn : issB x = false := by
              cases hI2 : issB x
              · rfl
              · simp only [issB, Bool.and_eq_true] at hI2
                rw [List.all_eq_true.1 hI2.2 _ (List.getElem_mem hi)] at p1; cases p1
            have p1' : vd ⟨x.dms[i].n, x.dms[i].l, x.dms[i].u⟩ = false := p1
            simp -implicitDefEqProofs [p1']
            refine GO_ret mixed 1000 ?_
            simp -implicitDefEqProofs [hn]
          · have p1' : vd ⟨x.dms[i].n, x.dms[i].l, x.dms[i].u⟩ = true := p1
            simp -implicitDefEqProofs [p1', w1]
            refine ⟨(by (first | exact Weak.tm (by simp [lk, isa]) | exact Weak.sub (by simp [lk, keptA, AV.keys, isa]) (by simp [lk, keptO, keptA, AV.keys, isa]))), fun j h1 hj => ?_⟩
            by_cases e : j = i
            · subst e; exact p1
            · exact he j h1 (by omega)
        · intro hd
          refine GO_AR mixed 1000 ?_
          have hD : x.dms.all vd = true := List.all_eq_true.2 fun y hy => by
            obtain ⟨j, hj, rfl⟩ := List.getElem_of_mem hy
            exact hd j hj hj
          have hT : issB x = true := by simp [issB, hB, hI, hD]
          simp -implicitDefEqProofs [isa]
          refine GO_ret mixed 1000 ?_
          simp -implicitDefEqProofs [hT]
    · have q5n : 0 < x.its.length := by omega
      simp -implicitDefEqProofs [c1, c2, q4n, q4i, q5n, bad (by simp [headB, q5, c1])]
end
end Go.Proofs.YtdpmioiamcgfkaaDoor
