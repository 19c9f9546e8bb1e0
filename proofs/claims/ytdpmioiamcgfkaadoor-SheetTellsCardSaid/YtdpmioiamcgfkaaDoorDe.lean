/-
  What the reference's functions on registers compute: whether all is valid but for circles and chains.
-/
import Derived.Test.YtdpmioiamcgfkaaDoorDd
namespace Go.Proofs.YtdpmioiamcgfkaaDoor
open Go.RowKit

/-- What the machine's types say of a register. -/
def Wf (r : List Iss) : Prop := SmlR r ∧ ∀ x ∈ r, 0 ≤ x.k ∧ x.k ≤ 255

/-- An issue stands in order behind the one before it. -/
def ordB (r : List Iss) : Nat → Bool
  | 0 => decide ((at' r 0).l = 1)
  | i + 1 => if (at' r (i + 1)).d < (at' r i).d then false else if (at' r i).d < (at' r (i + 1)).d then decide ((at' r (i + 1)).l = 1)
    else decide ((at' r (i + 1)).l = (at' r i).l + 1) && decide ((at' r (i + 1)).k = (at' r i).k)
def inB (r : List Iss) : Bool := r.all fun x => x.its.all fun y => decide (y.1 ∈ nums r)
/-- All items of an issue are drawings. -/
def ItsIn (r : List Iss) (x : Iss) : Prop := ∀ y ∈ x.its, y.1 ∈ nums r
/-- All is valid but for circles and chains. -/
def listedB (r : List Iss) : Bool := inR r.length 1 60 && r.all issB && (List.range r.length).all (ordB r) && inB r && decide ((nums r).length ≤ 20)

theorem listed_no1 {r : List Iss} {i : Nat} (h : i < r.length) (e : issB r[i] = false) : listedB r = false := by
  cases hI : listedB r
  · rfl
  · simp only [listedB, Bool.and_eq_true] at hI
    rw [List.all_eq_true.1 hI.1.1.1.2 _ (List.getElem_mem h)] at e; cases e
theorem listed_no2 {r : List Iss} {i : Nat} (h : i < r.length) (e : ordB r i = false) : listedB r = false := by
  cases hI : listedB r
  · rfl
  · simp only [listedB, Bool.and_eq_true] at hI
    rw [range_all.1 hI.1.1.2 i h] at e; cases e
theorem listed_no3 {r : List Iss} {i k : Nat} (h : i < r.length) (hk : k < r[i].its.length) (e : r[i].its[k].1 ∉ nums r) : listedB r = false := by
  cases hI : listedB r
  · rfl
  · simp only [listedB, Bool.and_eq_true, inB] at hI
    have := List.all_eq_true.1 (List.all_eq_true.1 hI.1.2 _ (List.getElem_mem h)) _ (List.getElem_mem hk)
    exact absurd (of_decide_eq_true this) e

theorem idx_neg {l : List Int} {n : Int} : idx l n < 0 ↔ n ∉ l := by
  unfold idx
  split
  · rename_i h; simp [h]
  · rename_i h; simp [h]
theorem idx_mem {l : List Int} {n : Int} (h : n ∈ l) : ∃ i : Nat, idx l n = i ∧ i < l.length ∧ l[i]? = some n := by
  refine ⟨l.idxOf n, by rw [idx, if_pos h], List.idxOf_lt_length_iff.2 h, ?_⟩
  have h1 : l.idxOf n < l.length := List.idxOf_lt_length_iff.2 h
  rw [List.getElem?_eq_getElem h1, List.getElem_idxOf h1]

theorem nums_len (r : List Iss) : (nums r).length ≤ r.length := numsN_len r _

section
variable {G : Nat → Option (List AV)}

theorem listed_pc (r : List Iss) (h : Wf r) : PC Tryd.prog G 70 [rega r] (.bool (listedB r)) := by
  (refine pc_ref02_listed (Nat.le_of_ble_eq_true rfl) fun R hG hrd => GO_AR mixed 1000 ?_; subst hG)
  have hs := h.1.1
  unfold Sml at hs
  simp -implicitDefEqProofs [rc_ref02_listed, rr_ref02_listed, rega]
  (first | refine CallK.of (within_pc _ _ _) (by simp) ?_ | refine CallD.of (within_pc _ _ _) (by simp) ?_)
  cases q1 : inR r.length 1 60
  · simp -implicitDefEqProofs [show listedB r = false by simp [listedB, q1]]
  have q1' : 1 ≤ r.length ∧ r.length ≤ 60 := by
    have := of_decide_eq_true q1
    omega
  have hne : r ≠ [] := by intro e; subst e; simp at q1'
  simp -implicitDefEqProofs []
  refine AR_for (fun i => ⟨[(3, .int .i64 i), (1, .ptr 1 0)], [(1, .box [.vsl (r.map isa)])]⟩) (fun i => ∀ j (h : j < r.length), j < i → issB r[j] = true ∧ ordB r j = true) r.length (by (first | exact Weak.tm (by simp [lk]) | exact Weak.sub (by simp [lk, keptA, AV.keys]) (by simp [lk, keptO, keptA, AV.keys]))) (by simp) ?_ ?_
  · intro i hi he
    refine GO_AR mixed 1000 ?_
    have w1 : IntKind.i64.wrap ((i : Int) + 1) = ((i + 1 : Nat) : Int) := wrapI (by omega) (by omega)
    have a1 := at_eq hi
    have hx := h.1.2 r[i] (List.getElem_mem hi)
    have hk := h.2 r[i] (List.getElem_mem hi)
    have go : issB r[i] = true → ordB r i = true → ∀ j (h : j < r.length), j < i + 1 → issB r[j] = true ∧ ordB r j = true := fun g1 g2 j q1 q2 => by
      by_cases e : j = i
      · subst e; exact ⟨g1, g2⟩
      · exact he j q1 (by omega)
    simp -implicitDefEqProofs [hi, isa]
    (first | refine CallK.of (issue_pc r[i] hx.1 hx.2 hk) (by simp) ?_ | refine CallD.of (issue_pc r[i] hx.1 hx.2 hk) (by simp) ?_)
    cases p1 : issB r[i]
    · simp -implicitDefEqProofs []
      refine GO_ret mixed 1000 ?_
      simp -implicitDefEqProofs [listed_no1 hi p1]
    have hd : 1 ≤ r[i].d := by
      have p2 := p1
      simp only [issB, headB, Bool.and_eq_true, inR, decide_eq_true_eq] at p2
      exact p2.1.1.1.1.1.1
    cases i with
    | zero =>
      have n1 : ¬ r[0].d < (0 : Int) := by omega
      have n2 : (0 : Int) < r[0].d := by omega
      by_cases p3 : r[0].l = 1
      · have ok : ordB r 0 = true := by simp [ordB, a1, p3]
        have w0 : IntKind.i64.wrap 1 = 1 := rfl
        simp -implicitDefEqProofs [n1, n2, p3, w0]
        exact ⟨(by (first | exact Weak.tm (by simp [lk]) | exact Weak.sub (by simp [lk, keptA, AV.keys]) (by simp [lk, keptO, keptA, AV.keys]))), fun j q1 q2 => by subst q2; exact ⟨p1, ok⟩⟩
      · simp -implicitDefEqProofs [n1, n2, p3]
        refine GO_ret mixed 1000 ?_
        simp -implicitDefEqProofs [listed_no2 hi (by simp [ordB, a1, p3])]
    | succ i =>
      have w2 : IntKind.i64.wrap (i : Int) = (i : Int) := wrapI (by omega) (by omega)
      have w3 : IntKind.i64.wrap ((i : Int) + 1 + 1) = (i : Int) + 1 + 1 := wrapI (by omega) (by omega)
      have k3 : (0 : Int) < (i : Int) + 1 := by omega
      have hi2 : i < r.length := by omega
      have a2 := at_eq hi2
      have bl := (he i hi2 (by omega)).1
      simp only [issB, headB, Bool.and_eq_true, inR, decide_eq_true_eq] at bl
      have w4 : IntKind.i64.wrap (r[i].l + 1) = r[i].l + 1 := wrapI (by omega) (by omega)
      by_cases p3 : r[i + 1].d < r[i].d
      · simp -implicitDefEqProofs [k3, w2, hi2, isa, p3]
        refine GO_ret mixed 1000 ?_
        simp -implicitDefEqProofs [listed_no2 hi (by simp [ordB, a1, a2, p3])]
      by_cases p4 : r[i].d < r[i + 1].d
      · by_cases p5 : r[i + 1].l = 1
        · have ok : ordB r (i + 1) = true := by simp [ordB, a1, a2, p3, p4, p5]
          simp -implicitDefEqProofs [k3, w2, w3, hi2, isa, p3, p4, p5]
          exact ⟨(by (first | exact Weak.tm (by simp [lk]) | exact Weak.sub (by simp [lk, keptA, AV.keys]) (by simp [lk, keptO, keptA, AV.keys]))), go p1 ok⟩
        · simp -implicitDefEqProofs [k3, w2, hi2, isa, p3, p4, p5]
          refine GO_ret mixed 1000 ?_
          simp -implicitDefEqProofs [listed_no2 hi (by simp [ordB, a1, a2, p3, p4, p5])]
      by_cases p5 : r[i + 1].l = r[i].l + 1
      case neg =>
        simp -implicitDefEqProofs [k3, w2, w4, hi2, isa, p3, p4, p5]
        refine GO_ret mixed 1000 ?_
        simp -implicitDefEqProofs [listed_no2 hi (by simp [ordB, a1, a2, p3, p4, p5])]
      by_cases p6 : r[i + 1].k = r[i].k
      · have ok : ordB r (i + 1) = true := by simp [ordB, a1, a2, p3, p4, p5, p6]
        simp -implicitDefEqProofs [k3, w2, w3, w4, hi2, isa, p3, p4, p5, p6]
        exact ⟨(by (first | exact Weak.tm (by simp [lk]) | exact Weak.sub (by simp [lk, keptA, AV.keys]) (by simp [lk, keptO, keptA, AV.keys]))), go p1 ok⟩
      · simp -implicitDefEqProofs [k3, w2, w4, hi2, isa, p3, p4, p5, p6]
        refine GO_ret mixed 1000 ?_
        simp -implicitDefEqProofs [listed_no2 hi (by simp [ordB, a1, a2, p3, p4, p5, p6])]
  · intro he
    refine GO_AR mixed 1000 ?_
    have g1 : r.all issB = true := List.all_eq_true.2 fun x hx => by
      obtain ⟨j, hj, rfl⟩ := List.getElem_of_mem hx
      exact (he j hj hj).1
    have g2 : (List.range r.length).all (ordB r) = true := range_all.2 fun j hj => (he j hj hj).2
    have hns : Sml (nums r) := by have := nums_len r; unfold Sml; omega
    simp -implicitDefEqProofs []
    refine GO_ret mixed 1000 ?_
    simp -implicitDefEqProofs []
    (first | refine CallK.of (numbers_pc r h.1.1 hne) (by simp) ?_ | refine CallD.of (numbers_pc r h.1.1 hne) (by simp) ?_)
    simp -implicitDefEqProofs []
    refine AR_for (fun i => ⟨[(7, .int .i64 i), (6, .vsl ((nums r).map ia)), (1, .ptr 1 0)], [(1, .box [.vsl (r.map isa)])]⟩) (fun i => ∀ j (h : j < r.length), j < i → ItsIn r r[j]) r.length (by (first | exact Weak.tm (by simp [lk]) | exact Weak.sub (by simp [lk, keptA, AV.keys]) (by simp [lk, keptO, keptA, AV.keys]))) (by simp) ?_ ?_
    · intro i hi hb
      refine GO_AR mixed 1000 ?_
      have w1 : IntKind.i64.wrap ((i : Int) + 1) = ((i + 1 : Nat) : Int) := wrapI (by omega) (by omega)
      have hx := (h.1.2 r[i] (List.getElem_mem hi)).1
      unfold Sml at hx
      simp -implicitDefEqProofs [hi]
      refine AR_for (fun k => ⟨[(8, .int .i64 k), (7, .int .i64 i), (6, .vsl ((nums r).map ia)), (1, .ptr 1 0)], [(1, .box [.vsl (r.map isa)])]⟩) (fun k => ∀ j (h : j < r[i].its.length), j < k → r[i].its[j].1 ∈ nums r) r[i].its.length (by (first | exact Weak.tm (by simp [lk]) | exact Weak.sub (by simp [lk, keptA, AV.keys]) (by simp [lk, keptO, keptA, AV.keys]))) (by simp) ?_ ?_
      · intro k hk hc
        refine GO_AR mixed 1000 ?_
        have w2 : IntKind.i64.wrap ((k : Int) + 1) = ((k + 1 : Nat) : Int) := wrapI (by omega) (by omega)
        simp -implicitDefEqProofs [hi, isa, hk, ita]
        (first | refine CallK.of (index_pc (nums r) _ hns) (by simp) ?_ | refine CallD.of (index_pc (nums r) _ hns) (by simp) ?_)
        by_cases p1 : r[i].its[k].1 ∈ nums r
        · have n1 : ¬ idx (nums r) r[i].its[k].1 < 0 := fun e => idx_neg.1 e p1
          simp -implicitDefEqProofs [n1, w2]
          refine ⟨(by (first | exact Weak.tm (by simp [lk]) | exact Weak.sub (by simp [lk, keptA, AV.keys]) (by simp [lk, keptO, keptA, AV.keys]))), fun j q1 q2 => ?_⟩
          by_cases e : j = k
          · subst e; exact p1
          · exact hc j q1 (by omega)
        · have n1 : idx (nums r) r[i].its[k].1 < 0 := idx_neg.2 p1
          simp -implicitDefEqProofs [n1]
          refine GO_ret mixed 1000 ?_
          simp -implicitDefEqProofs []
          refine GO_ret mixed 1000 ?_
          simp -implicitDefEqProofs [listed_no3 hi hk p1]
      · intro hc
        refine GO_AR mixed 1000 ?_
        simp -implicitDefEqProofs [hi, isa]
        refine GO_ret mixed 1000 ?_
        simp -implicitDefEqProofs [w1]
        refine ⟨(by (first | exact Weak.tm (by simp [lk]) | exact Weak.sub (by simp [lk, keptA, AV.keys]) (by simp [lk, keptO, keptA, AV.keys]))), fun j q1 q2 => ?_⟩
        by_cases e : j = i
        · subst e
          intro y hy
          obtain ⟨n, hn, rfl⟩ := List.getElem_of_mem hy
          exact hc n hn hn
        · exact hb j q1 (by omega)
    · intro hb
      refine GO_AR mixed 1000 ?_
      have g3 : inB r = true := List.all_eq_true.2 fun x hx => List.all_eq_true.2 fun y hy => by
        obtain ⟨j, hj, rfl⟩ := List.getElem_of_mem hx
        exact decide_eq_true (hb j hj hj y hy)
      have g4 : listedB r = decide ((nums r).length ≤ 20) := by simp [listedB, q1, g1, g2, g3]
      simp -implicitDefEqProofs []
      refine GO_ret mixed 1000 ?_
      simp -implicitDefEqProofs [g4]
      omega
end
end Go.Proofs.YtdpmioiamcgfkaaDoor
